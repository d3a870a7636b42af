/-
  foyerlaw37.GateAdmits.
-/
import Derived.Test.YtglgkdbhdjkeaaaGreatDoorGaF
import Derived.Test.YtglgkdbhdjkeaaaGreatDoorMapZ
import Derived.Test.YtglgkdbhdjkeaaaGreatDoorRgA
namespace Go.Proofs.YtglgkdbhdjkeaaaGreatDoor
open Go.RowKit

/-- The memory of GateAdmits: the gate, the last filter at lp, the maps of who is inside and of who is revoked. -/
structure Adm (w wr : World) (B gp lp mi mr : Nat) (g : Gst) (F : List Nat) (f : Flt) (wv : Value) (k n : Nat) (z y : Int → Bool) : Prop where
  gr : GateR B wr gp g F
  lb : wr.heap[lp]? = some (.cells #[.int .i64 f.bits, .int .i64 f.hashes, wv] 37 (0, 0))
  ws : WsX (lp :: mi :: mr :: F) wr wv f.words
  mz : MapZ wr mi k z
  my : MapZ wr mr n y
  ap : lp ∉ F ∧ mi ∉ F ∧ mr ∉ F ∧ mi ≠ mr
  lo : w.heap.size ≤ lp ∧ w.heap.size ≤ mi ∧ w.heap.size ≤ mr ∧ ∀ k ∈ F, w.heap.size ≤ k
  fr : Fr [] w wr
variable {w wr w' : World} {B gp lp mi mr : Nat} {g g' : Gst} {F : List Nat} {f : Flt} {wv : Value} {k n : Nat} {z y : Int → Bool}
theorem Adm.dif (h : Adm w wr B gp lp mi mr g F f wv k n z y) : mi ≠ lp ∧ mr ≠ lp ∧ lp < wr.heap.size := ⟨h.mz.ne h.lb, h.my.ne h.lb, lt_of_block h.lb⟩
theorem Adm.step (h : Adm w wr B gp lp mi mr g F f wv k n z y) (q : GateQ B wr gp g' F w') : ∃ F', Adm w w' B gp lp mi mr g' F' f wv k n z y := by
  obtain ⟨F', q1, q2, q3⟩ := q
  have hlp := h.dif.2.2
  have nx : ∀ k, k < wr.heap.size → k ∉ F → k ∉ F' := fun k h1 h2 h3 => by
    rcases q3 k h3 with h4 | h4
    · exact h2 h4
    · omega
  refine ⟨F', q1, q2.at h.lb h.ap.1, h.ws.step q2 (fun k hk => by simp [hk]) (fun k hk => ?_), h.mz.fr q2 h.ap.2.1, h.my.fr q2 h.ap.2.2.1, ⟨nx _ hlp h.ap.1, nx _ h.mz.lt h.ap.2.1, nx _ h.my.lt h.ap.2.2.1, h.ap.2.2.2⟩, ⟨h.lo.1, h.lo.2.1, h.lo.2.2.1, fun k hk => ?_⟩, h.fr.trans q2 (fun y hy => Or.inr (h.lo.2.2.2 y hy))⟩
  · simp only [List.mem_cons] at hk ⊢
    rcases hk with hk | hk | hk | hk
    · exact Or.inl (Or.inl hk)
    · exact Or.inl (Or.inr (Or.inl hk))
    · exact Or.inl (Or.inr (Or.inr (Or.inl hk)))
    · rcases q3 k hk with h4 | h4
      · exact Or.inl (Or.inr (Or.inr (Or.inr h4)))
      · exact Or.inr h4
  · rcases q3 k hk with h4 | h4
    · exact h.lo.2.2.2 k h4
    · exact Nat.le_trans h.fr.size h4
theorem Adm.keep (h : Adm w wr B gp lp mi mr g F f wv k n z y) (hf : Fr [] wr w') : Adm w w' B gp lp mi mr g F f wv k n z y :=
  ⟨h.gr.fr hf (by simp), hf.at h.lb (by simp), h.ws.step hf (by simp) (fun k hk => Or.inl hk), h.mz.fr hf (by simp), h.my.fr hf (by simp), h.ap, h.lo, h.fr.trans hf (by simp)⟩
theorem Adm.more (h : Adm w wr B gp lp mi mr g F f wv k n z y) : Adm w wr B gp lp mi mr g F f wv (k + 1) n z y := ⟨h.gr, h.lb, h.ws, h.mz.more, h.my, h.ap, h.lo, h.fr⟩
theorem Adm.putz (h : Adm w wr B gp lp mi mr g F f wv k n z y) {z' : Int → Bool} (hm : MapZ w' mi (k + 1) z') (hf : Fr [mi] wr w') : Adm w w' B gp lp mi mr g F f wv (k + 1) n z' y :=
  ⟨h.gr.fr hf (by simpa using h.ap.2.1), hf.at h.lb (by simpa using fun e => h.dif.1 e.symm), h.ws.step hf (by simp) (fun k hk => Or.inl hk), hm, h.my.fr hf (by simpa using fun e => h.ap.2.2.2 e.symm), h.ap, h.lo, h.fr.trans hf (fun y hy => Or.inr (by rw [List.mem_singleton.1 hy]; exact h.lo.2.1))⟩
theorem Adm.puty (h : Adm w wr B gp lp mi mr g F f wv k n z y) {y' : Int → Bool} (hm : MapZ w' mr (n + 1) y') (hf : Fr [mr] wr w') : Adm w w' B gp lp mi mr g F f wv k (n + 1) z y' :=
  ⟨h.gr.fr hf (by simpa using h.ap.2.2.1), hf.at h.lb (by simpa using fun e => h.dif.2.1 e.symm), h.ws.step hf (by simp) (fun k hk => Or.inl hk), h.mz.fr hf (by simpa using h.ap.2.2.2), hm, h.ap, h.lo, h.fr.trans hf (fun y hy => Or.inr (by rw [List.mem_singleton.1 hy]; exact h.lo.2.2.1))⟩
theorem Adm.newy (h : Adm w wr B gp lp mi mr g F f wv k n z y) : Adm w (wr.alloc (.map #[] 0)) B gp lp mi wr.heap.size g F f wv k 0 z (fun _ => false) := by
  have hf : Fr [] wr (wr.alloc (.map #[] 0)) := (Fr.refl [] wr).alloc _
  have hb := h.gr.blocks
  have hi := h.mz.lt
  refine ⟨h.gr.fr hf (by simp), hf.at h.lb (by simp), h.ws.step hf (by simp) (fun k hk => ?_), h.mz.fr hf (by simp), MapZ.made wr, ⟨h.ap.1, h.ap.2.1, fun hm => by have := (hb _ hm).2; omega, by omega⟩, ⟨h.lo.1, h.lo.2.1, h.fr.size, h.lo.2.2.2⟩, h.fr.trans hf (by simp)⟩
  simp only [List.mem_cons] at hk ⊢
  rcases hk with hk | hk | hk | hk
  · exact Or.inl (Or.inl hk)
  · exact Or.inl (Or.inr (Or.inl hk))
  · exact Or.inr (by omega)
  · exact Or.inl (Or.inr (Or.inr (Or.inr hk)))
theorem Adm.setf (h : Adm w wr B gp lp mi mr g F f wv k n z y) (f' : Flt) (wv' : Value) (hw : WsX (lp :: mi :: mr :: F) wr wv' f'.words) :
    Adm w (((wr.setCell ⟨lp, 0, none⟩ (.int .i64 f'.bits)).setCell ⟨lp, 1, none⟩ (.int .i64 f'.hashes)).setCell ⟨lp, 2, none⟩ wv') B gp lp mi mr g F f' wv' k n z y := by
  have hf : Fr [lp] wr (((wr.setCell ⟨lp, 0, none⟩ (.int .i64 f'.bits)).setCell ⟨lp, 1, none⟩ (.int .i64 f'.hashes)).setCell ⟨lp, 2, none⟩ wv') := (((Fr.refl [lp] wr).setCell _ _ (by simp)).setCell _ _ (by simp)).setCell _ _ (by simp)
  exact ⟨h.gr.fr hf (by simpa using h.ap.1), row_set (row_set (row_set h.lb 0 _) 1 _) 2 _, hw.step hf (by simp) (fun k hk => Or.inl hk), h.mz.fr hf (by simpa using h.dif.1), h.my.fr hf (by simpa using h.dif.2.1), h.ap, h.lo, h.fr.trans hf (fun y hy => Or.inr (by rw [List.mem_singleton.1 hy]; exact h.lo.1))⟩
theorem Adm.gst (h : Adm w wr B gp lp mi mr g F f wv k n z y) (e : g = g') : Adm w wr B gp lp mi mr g' F f wv k n z y := e ▸ h
theorem WsX.same {X : List Nat} {w0 w : World} {v : Value} {l l' : List Nat} (h0 : Ws w0 v l) (h : Ws w v l') (hf : w0.heap.size ≤ w.heap.size) (hx : ∀ k ∈ X, w0.heap.size ≤ k) : WsX X w v l' := by
  rcases h with hE | hr
  · exact ⟨Or.inl hE, Or.inl hE⟩
  · refine ⟨Or.inr hr, ?_⟩
    rcases h0 with ⟨rfl, a, hv⟩ | ⟨b, off, cap, hv, h1, h2, h3, h4⟩
    · obtain ⟨b, off, cap, hv2, _⟩ := hr
      rw [hv] at hv2
      injection hv2 with e1 e2 e3
      exact Or.inl ⟨List.length_eq_zero_iff.1 e2.symm, a, hv⟩
    · refine Or.inr fun k hk => ?_
      rw [hv] at hk
      obtain rfl : b = k := by simpa [Value.ownBlock] using hk
      exact ⟨Nat.lt_of_lt_of_le h3 hf, fun hm => by have := hx _ hm; omega⟩
/-- What the maps of GateAdmits say. -/
structure AdmP (g : Gst) (f : Flt) (z y : Int → Bool) : Prop where
  f : f = g.flt
  z : ∀ s, isI s → z s = (insR g.log s).isSome
  y : ∀ s, isI s → y s = true → hasF g.flt s = true
theorem AdmP.scan1 {g : Gst} {f : Flt} {z y : Int → Bool} (h : AdmP g f z y) (s : Int) (ow : List UInt8) (now : Int) : AdmP (putG g 1 s ow now) f (putZ z s true) y := by
  refine ⟨h.f, fun q hq => ?_, h.y⟩
  rw [ins_put1]
  unfold putZ
  by_cases e : s = q
  · simp [e]
  · rw [if_neg e, if_neg (fun x => e x.symm)]
    exact h.z q hq
theorem AdmP.scan3 {g : Gst} {f : Flt} {z y : Int → Bool} (h : AdmP g f z y) (s : Int) (hs : isI s) (b : Bool) (hb : z s = b) (ow : List UInt8) (now : Int) : AdmP (putG g 3 s ow now) f (putZ z s b) y := by
  refine ⟨h.f, fun q hq => ?_, h.y⟩
  rw [ins_put3]
  unfold putZ
  by_cases e : s = q
  · subst e
    rw [if_pos rfl, ← hb]
    exact h.z s hs
  · rw [if_neg (fun x => e x.symm)]
    exact h.z q hq
theorem AdmP.leave {g : Gst} {f : Flt} {z y : Int → Bool} (h : AdmP g f z y) (s : Int) (ow : List UInt8) (now : Int) : AdmP (putG g 2 s ow now) f (putZ z s false) y := by
  refine ⟨h.f, fun q hq => ?_, h.y⟩
  rw [ins_put2]
  unfold putZ
  by_cases e : s = q
  · simp [e]
  · rw [if_neg e, if_neg (fun x => e x.symm)]
    exact h.z q hq

set_option maxRecDepth 100000 in
set_option maxHeartbeats 16000000 in
theorem gateAdmits_any (n0 : Nat) (v : Value) (l : List GOp) (w : World) (hn0 : n0 < 256) (hT : TabsF w) (hv : Ops w v l) (hN : ∀ o ∈ l, OpN o) :
    Calls Tryz.prog 4 #[.int .u8 (n0 : Int), v] w fun e w' => e = .returned (.bool true) ∧ Below w.heap.size w w' := by
  have hmm := @run_makeMap Tryz.prog
  obtain ⟨a, cap, rfl, hl, hc9, ha⟩ := hv.form
  have HV := Lib.hid hv
  have HT := Lib.hid hT
  have HN := Lib.hid hN
  clear hv hT hN
  have wn0 : IntKind.i64.wrap (n0 : Int) = (n0 : Int) := IntWalk.i64_in _ (by omega)
  obtain ⟨r, er, e4⟩ : ∃ r : Nat, r = n0 % 20 ∧ ((n0 : Nat) : Int).tmod 20 = (r : Int) := ⟨_, rfl, by rw [Int.tmod_eq_emod_of_nonneg (by omega)]; omega⟩
  have hr4 : r < 20 := by omega
  have HGD : Hid (goodG 1 (r : Int) 1000 = true) := Lib.hid (by unfold goodG; rw [Bool.and_eq_true, decide_eq_true_eq, timeB_iff]; omega)
  clear er
  go_enter Tryz.func4, Tryz.ntmps4
  go_wp2_with fail
  refine (head37_any w HT.out).mono ?_
  rintro e w1 ⟨rfl, hb⟩
  have f1 : Fr [] w w1 := Fr.ofBelow hb
  clear hb
  go_wp2_with fail
  refine (gnew_any 1 (r : Int) 1000 w1).mono ?_
  rintro e w2 ⟨hy, _, hb⟩
  obtain ⟨rfl, hG1⟩ := hy HGD.out
  have f2 := f1.below hb f1.size
  have HF2 := Lib.hid f2
  have HB := Lib.hid f1.size
  obtain ⟨gp, egp⟩ : ∃ q, q = w1.heap.size + 1 := ⟨_, rfl⟩
  rw [← egp] at hG1
  rw [← egp]
  have HG2 := Lib.hid hG1
  obtain ⟨B1, eB1⟩ : ∃ q, q = w1.heap.size := ⟨_, rfl⟩
  rw [← eB1] at HG2 HB
  clear hy hb hG1 f1 f2 egp eB1
  unfold gateP
  go_wp2_with fail
  refine (fewG_any (.slice a l.length cap) l w2 (HV.out.fr HF2.out)).mono ?_
  rintro e w4 ⟨rfl, hb⟩
  have hfb : Fr [] w2 w4 := Fr.ofBelow hb
  have HF4 := Lib.hid (HF2.out.trans hfb (by simp))
  have HG4 := Lib.hid (HG2.out.fr hfb (by simp))
  clear hb hfb
  obtain ⟨x, hx⟩ : ∃ x, x = fewG l := ⟨_, rfl⟩
  rw [← hx]
  cases x with
  | false =>
    clear hx
    go_wp2_with fail
    go_ret
    exact ⟨rfl, HF4.out.toBelow (by simp)⟩
  | true =>
    have HFE := Lib.hid (fewG_ok hx.symm HN.out)
    clear hx
    obtain ⟨W6, hW6⟩ : ∃ W6, W6 = ((w4.alloc (.map #[] 0)).alloc (.cells #[.int .i64 0, .int .i64 0, .slice none 0 0] 37)).alloc (.map #[] 0) := ⟨_, rfl⟩
    obtain ⟨mi, emi⟩ : ∃ q, q = w4.heap.size := ⟨_, rfl⟩
    obtain ⟨lp, elp⟩ : ∃ q, q = w4.heap.size + 1 := ⟨_, rfl⟩
    obtain ⟨mr, emr⟩ : ∃ q, q = w4.heap.size + 2 := ⟨_, rfl⟩
    have f46 : Fr [] w4 W6 := by rw [hW6]; exact (((Fr.refl [] w4).alloc _).alloc _).alloc _
    have HA6 : Hid (∃ F, Adm w W6 B1 gp lp mi mr (newG 1 (r : Int) 1000) F ⟨0, 0, []⟩ (.slice none 0 0) 0 0 (fun _ => false) (fun _ => false)) := Lib.hid (by
      refine ⟨_, HG4.out.fr f46 (by simp), ?_, ⟨Or.inl ⟨rfl, none, rfl⟩, Or.inl ⟨rfl, none, rfl⟩⟩, ?_, ?_, ?_, ?_, HF4.out.trans f46 (by simp)⟩
      · rw [hW6, elp]
        exact heap_past _ (heap_new (by simp))
      · rw [hW6, emi]
        exact ((MapZ.made w4).fr ((Fr.refl [] _).alloc _) (by simp)).fr ((Fr.refl [] _).alloc _) (by simp)
      · rw [hW6, emr]
        have := MapZ.made ((w4.alloc (.map #[] 0)).alloc (.cells #[.int .i64 0, .int .i64 0, .slice none 0 0] 37))
        simpa using this
      · have hb := HG4.out.blocks
        refine ⟨fun hm => ?_, fun hm => ?_, fun hm => ?_, by omega⟩ <;> have := (hb _ hm).2 <;> omega
      · have hb := HG4.out.blocks
        have hs := HF4.out.size
        refine ⟨by omega, by omega, by omega, fun k hk => Nat.le_trans HB.out (hb k hk).1⟩)
    clear f46 HG4 HG2 HF2
    go_wp2_with fail
    rw [← hW6, ← emr, ← elp, ← emi]
    clear hW6 emi elp emr
    go_loopg [11, 12] l.length (fun gh mv i wr => ∃ (k n mr : Nat) (g : Gst) (F : List Nat) (f : Flt) (wv : Value) (z y : Int → Bool), k ≤ l.length ∧ gh = l.length - k ∧ i = .int .i64 (k : Int) ∧ mv = .map (some mr) ∧ g.shw = (r : Int) ∧ Adm w wr B1 gp lp mi mr g F f wv k n z y ∧ AdmP g f z y)
    case atStart =>
      obtain ⟨F, hA⟩ := HA6.out
      exact ⟨0, 0, mr, _, F, _, _, _, _, by omega, by omega, rfl, rfl, rfl, hA, ⟨rfl, fun s _ => rfl, fun s _ h => by cases h⟩⟩
    case round =>
      clear HA6
      obtain ⟨k, n, mr, g, F, f, wv, z, y, hk, hgh, rfl, rfl, hsh, hA, hP⟩ := hrel
      obtain ⟨wfa, wfc, rfl, _, _, _⟩ := hA.ws.1.form
      have HG := Lib.hid hgh
      have HIG := Lib.hid hA.gr.inv
      have HA := Lib.hid hA
      have HP := Lib.hid hP
      have HSH := Lib.hid hsh
      clear hgh hA hP hsh
      by_cases hlt : k < l.length
      · have t3 : decide ((k : Int) < (l.length : Int)) = true := by simp; omega
        have hk14 : k < 14 := by have := HFE.out.1; omega
        obtain ⟨b, off, rfl⟩ := ha k hlt
        obtain ⟨o, ho⟩ : ∃ x, l[k]? = some x := ⟨_, List.getElem?_eq_getElem hlt⟩
        have HOS := Lib.hid (HFE.out.2.1 o (List.mem_of_getElem? ho))
        have i0 : (0 : Int) ≤ (k : Int) := by omega
        have i1 : (k : Int) < (l.length : Int) := by omega
        obtain ⟨ta, wa, sa, tc, wc, sc, ⟨c0, c1, c2, c3, c4, c5, c6, c7, c8, c9, c10, c11⟩, hTR, hWS, hZS⟩ := HV.out.cells k o ho
        have hff := HA.out.fr
        have n0' : b ∉ ([] : List Nat) := by simp
        replace c0 := hff.cell c0 n0'
        replace c1 := hff.cell c1 n0'
        replace c2 := hff.cell c2 n0'
        replace c3 := hff.cell c3 n0'
        replace c4 := hff.cell c4 n0'
        replace c5 := hff.cell c5 n0'
        replace c6 := hff.cell c6 n0'
        replace c7 := hff.cell c7 n0'
        replace c8 := hff.cell c8 n0'
        replace c9 := hff.cell c9 n0'
        replace c10 := hff.cell c10 n0'
        replace c11 := hff.cell c11 n0'
        have HTR := Lib.hid hTR
        have HWS := Lib.hid hWS
        have HZS := Lib.hid hZS
        have hR : OpR wr (.agg #[.int .u8 (o.kind : Int), .int .i64 o.t.serial, .int .i64 o.t.shw, .int .i64 o.t.place, .string ⟨o.t.first.toArray⟩, .slice ta o.t.chain.length tc, .int .i64 o.serial, .int .i64 o.f.bits, .int .i64 o.f.hashes, .slice wa o.f.words.length wc, .slice sa o.serials.length sc, .int .i64 o.now]) o := ⟨ta, wa, sa, tc, wc, sc, rfl, hTR.fr hff, hWS.fr0 hff, hZS.fr0 hff⟩
        clear ho hff n0' hTR hWS hZS
        obtain ⟨W1, hW1⟩ : ∃ W1, W1 = wr.alloc (.cells #[.int .u8 (o.kind : Int), .int .i64 o.t.serial, .int .i64 o.t.shw, .int .i64 o.t.place, .string ⟨o.t.first.toArray⟩, .slice ta o.t.chain.length tc, .int .i64 o.serial, .int .i64 o.f.bits, .int .i64 o.f.hashes, .slice wa o.f.words.length wc, .slice sa o.serials.length sc, .int .i64 o.now] 40) := ⟨_, rfl⟩
        obtain ⟨ob, eob⟩ : ∃ q, q = wr.heap.size := ⟨_, rfl⟩
        have fw1 : Fr [] wr W1 := by rw [hW1]; exact (Fr.refl [] wr).alloc _
        have hob : W1.heap[ob]? = some (.cells #[.int .u8 (o.kind : Int), .int .i64 o.t.serial, .int .i64 o.t.shw, .int .i64 o.t.place, .string ⟨o.t.first.toArray⟩, .slice ta o.t.chain.length tc, .int .i64 o.serial, .int .i64 o.f.bits, .int .i64 o.f.hashes, .slice wa o.f.words.length wc, .slice sa o.serials.length sc, .int .i64 o.now] 40 (0, 0)) := by rw [hW1]; exact heap_new eob
        have HA1 := Lib.hid (HA.out.keep fw1)
        have HR := Lib.hid (hR.fr fw1)
        have HOB := Lib.hid hob
        have HOF : Hid (ob ∉ F ∧ lp ≠ ob ∧ mi ≠ ob ∧ mr ≠ ob ∧ w.heap.size ≤ ob) := Lib.hid (by
          have h1 := HA.out.gr.blocks
          have h2 := HA.out.dif.2.2
          have h3 := HA.out.mz.lt
          have h4 := HA.out.my.lt
          have h5 := HA.out.fr.size
          exact ⟨fun h => by have := (h1 _ h).2; omega, by omega, by omega, by omega, by omega⟩)
        clear fw1 hR
        have x0 := row_cell hob 0
        have x1 := row_cell hob 1
        have x2 := row_cell hob 2
        have x3 := row_cell hob 3
        have x4 := row_cell hob 4
        have x5 := row_cell hob 5
        have x6 := row_cell hob 6
        have x7 := row_cell hob 7
        have x8 := row_cell hob 8
        have x9 := row_cell hob 9
        have x10 := row_cell hob 10
        have x11 := row_cell hob 11
        simp at x0 x1 x2 x3 x4 x5 x6 x7 x8 x9 x10 x11
        rw [hW1, eob] at x0 x1 x2 x3 x4 x5 x6 x7 x8 x9 x10 x11
        clear hob
        go_wp2_with fail
        rw [← hW1, ← eob]
        clear c0 c1 c2 c3 c4 c5 c6 c7 c8 c9 c10 c11 x0 x1 x2 x3 x4 x5 x6 x7 x8 x9 x10 x11 hW1 eob
        refine (do_any B1 gp g F _ o W1 HA1.out.gr HR.out HOS.out (HT.out.fr HA1.out.fr)).mono ?_
        rintro e w6 ⟨rfl, hq⟩
        have hob6 : w6.heap[ob]? = some (.cells #[.int .u8 (o.kind : Int), .int .i64 o.t.serial, .int .i64 o.t.shw, .int .i64 o.t.place, .string ⟨o.t.first.toArray⟩, .slice ta o.t.chain.length tc, .int .i64 o.serial, .int .i64 o.f.bits, .int .i64 o.f.hashes, .slice wa o.f.words.length wc, .slice sa o.serials.length sc, .int .i64 o.now] 40 (0, 0)) := by
          obtain ⟨F', _, hX, _⟩ := hq
          exact hX.at HOB.out HOF.out.1
        obtain ⟨F6, hA6⟩ := HA1.out.step hq
        have HA6 := Lib.hid hA6
        have HOB6 := Lib.hid hob6
        clear hq hA6 HA HA1 HOB HR
        obtain ⟨er, eer⟩ : ∃ m, m = (doG g o).2.2 := ⟨_, rfl⟩
        obtain ⟨m, em⟩ : ∃ m, m = (doG g o).2.1 := ⟨_, rfl⟩
        rw [← eer, ← em]
        have HER := Lib.hid eer
        have HM := Lib.hid em
        clear eer em hob6
        by_cases he : er = 0
        case neg =>
          have t5 : (er != 0) = true := by simpa using he
          have HB0 := Lib.hid (do_bad (g := g) (o := o) (by rw [← HER.out]; exact he)).1
          clear he
          go_wp2_with fail
          go_roundg (l.length - (k + 1))
          case measure => have := HG.out; omega
          case rel => exact ⟨k + 1, n, mr, g, F6, f, _, z, y, by omega, rfl, by go_num, rfl, HSH.out, (HA6.out.gst HB0.out).more, HP.out⟩
        have t5 : (er != 0) = false := by simpa using he
        have HE0 : Hid ((doG g o).2.2 = 0) := Lib.hid (by rw [← HER.out]; exact he)
        subst he
        obtain ⟨r4, er4, e5⟩ : ∃ r4 : Nat, o.kind % 4 = r4 ∧ ((o.kind : Nat) : Int).tmod 4 = (r4 : Int) := ⟨_, rfl, by rw [Int.tmod_eq_emod_of_nonneg (by omega)]; omega⟩
        have hr44 : r4 < 4 := by omega
        have ER4 := Lib.hid er4
        have hk8 := HOS.out.k
        clear er4
        have x0 := row_cell HOB6.out 0
        have x1 := row_cell HOB6.out 1
        have x2 := row_cell HOB6.out 2
        have x3 := row_cell HOB6.out 3
        have x4 := row_cell HOB6.out 4
        have x5 := row_cell HOB6.out 5
        have x6 := row_cell HOB6.out 6
        simp at x0 x1 x2 x3 x4 x5 x6
        by_cases hr0 : r4 = 0
        case pos =>
          have t6 : ((r4 : Int) == 0) = true := by rw [hr0]; rfl
          have HSC : Hid (doG g o = (putG g (kindG g o.t) o.t.serial (ownerT o.t) o.now, kindG g o.t, 0)) := Lib.hid (scan_ok (by rw [ER4.out, hr0]) HE0.out).2.2.2.2
          have HTS : Hid (TtlR w6 (.agg #[.int .i64 o.t.serial, .int .i64 o.t.shw, .int .i64 o.t.place, .string ⟨o.t.first.toArray⟩, .slice ta o.t.chain.length tc]) o.t) := Lib.hid ⟨_, rfl, HTR.out.fr HA6.out.fr⟩
          clear hr0
          go_wp2_with fail
          refine (valid30_any _ o.t w6 HTS.out HOS.out.st (HT.out.fr HA6.out.fr).t).mono ?_
          rintro e w7 ⟨rfl, hb⟩
          have hf7 : Fr [] w6 w7 := Fr.ofBelow hb
          have HA7 := Lib.hid (HA6.out.keep hf7)
          have HOB7 := Lib.hid (hf7.at HOB6.out (by simp))
          clear hb hf7 x0 x1 x2 x3 x4 x5 x6
          obtain ⟨vb, evb⟩ : ∃ q, q = validT o.t := ⟨_, rfl⟩
          rw [← evb]
          have HVB := Lib.hid evb
          obtain ⟨zb, ezb⟩ : ∃ q, z o.t.serial = q := ⟨_, rfl⟩
          have HZB := Lib.hid ezb
          have HZI : Hid ((insR g.log o.t.serial).isNone = !zb) := Lib.hid (by
            rw [← HZB.out, HP.out.z _ HOS.out.t.s]
            cases insR g.log o.t.serial <;> rfl)
          clear evb ezb
          have u1 := row_cell HOB7.out 1
          have u2 := row_cell HOB7.out 2
          simp at u1 u2
          cases vb with
          | false =>
            have HKM : Hid (kindG g o.t = 3) := Lib.hid (by unfold kindG admG; rw [← HVB.out]; simp)
            have HD : Hid ((doG g o).1 = putG g 3 o.t.serial (ownerT o.t) o.now) := Lib.hid (by rw [HSC.out, HKM.out])
            obtain rfl : m = 3 := by rw [HM.out, HSC.out]; exact HKM.out
            cases zb with
            | false =>
              have x1 := row_cell HOB7.out 1
              simp at x1
              have slk := HA7.out.mz.look o.t.serial HOS.out.t.s
              rw [HZB.out] at slk
              go_wp2_with (at_mapUpdate; go_loud (refine wpList_putZ rfl (.tmp 127) (.tmp 130) (.tmp 139) rfl mi k z rfl HA7.out.mz (by omega) o.t.serial false rfl rfl HOS.out.t.s ?_))
              intro w9 hm9 hf9
              have HA9 := Lib.hid (HA7.out.putz hm9 hf9)
              clear hm9 hf9 x1 slk
              go_wp2_with fail
              go_roundg (l.length - (k + 1))
              case measure => have := HG.out; omega
              case rel =>
                exact ⟨k + 1, n, mr, _, F6, f, _, _, y, by omega, rfl, by go_num, rfl, by rw [HD.out]; exact HSH.out, HA9.out, by rw [HD.out]; exact HP.out.scan3 _ HOS.out.t.s _ HZB.out _ _⟩
            | true =>
              have x1 := row_cell HOB7.out 1
              simp at x1
              have slk := HA7.out.mz.look o.t.serial HOS.out.t.s
              rw [HZB.out] at slk
              go_wp2_with (at_mapUpdate; go_loud (refine wpList_putZ rfl (.tmp 127) (.tmp 130) (.tmp 139) rfl mi k z rfl HA7.out.mz (by omega) o.t.serial true rfl rfl HOS.out.t.s ?_))
              intro w9 hm9 hf9
              have HA9 := Lib.hid (HA7.out.putz hm9 hf9)
              clear hm9 hf9 x1 slk
              go_wp2_with fail
              go_roundg (l.length - (k + 1))
              case measure => have := HG.out; omega
              case rel =>
                exact ⟨k + 1, n, mr, _, F6, f, _, _, y, by omega, rfl, by go_num, rfl, by rw [HD.out]; exact HSH.out, HA9.out, by rw [HD.out]; exact HP.out.scan3 _ HOS.out.t.s _ HZB.out _ _⟩
          | true =>
            by_cases hs : o.t.shw = (r : Int)
            case neg =>
              have s1 : (o.t.shw == (r : Int)) = false := by rw [beq_eq_false_iff_ne]; exact hs
              have HKM : Hid (kindG g o.t = 3) := Lib.hid (by unfold kindG admG; rw [decide_eq_false (p := o.t.shw = g.shw) (by rw [HSH.out]; exact hs)]; simp)
              have HD : Hid ((doG g o).1 = putG g 3 o.t.serial (ownerT o.t) o.now) := Lib.hid (by rw [HSC.out, HKM.out])
              obtain rfl : m = 3 := by rw [HM.out, HSC.out]; exact HKM.out
              clear hs
              cases zb with
              | false =>
                have x1 := row_cell HOB7.out 1
                simp at x1
                have slk := HA7.out.mz.look o.t.serial HOS.out.t.s
                rw [HZB.out] at slk
                go_wp2_with (at_mapUpdate; go_loud (refine wpList_putZ rfl (.tmp 127) (.tmp 130) (.tmp 139) rfl mi k z rfl HA7.out.mz (by omega) o.t.serial false rfl rfl HOS.out.t.s ?_))
                intro w9 hm9 hf9
                have HA9 := Lib.hid (HA7.out.putz hm9 hf9)
                clear hm9 hf9 x1 slk
                go_wp2_with fail
                go_roundg (l.length - (k + 1))
                case measure => have := HG.out; omega
                case rel =>
                  exact ⟨k + 1, n, mr, _, F6, f, _, _, y, by omega, rfl, by go_num, rfl, by rw [HD.out]; exact HSH.out, HA9.out, by rw [HD.out]; exact HP.out.scan3 _ HOS.out.t.s _ HZB.out _ _⟩
              | true =>
                have x1 := row_cell HOB7.out 1
                simp at x1
                have slk := HA7.out.mz.look o.t.serial HOS.out.t.s
                rw [HZB.out] at slk
                go_wp2_with (at_mapUpdate; go_loud (refine wpList_putZ rfl (.tmp 127) (.tmp 130) (.tmp 139) rfl mi k z rfl HA7.out.mz (by omega) o.t.serial true rfl rfl HOS.out.t.s ?_))
                intro w9 hm9 hf9
                have HA9 := Lib.hid (HA7.out.putz hm9 hf9)
                clear hm9 hf9 x1 slk
                go_wp2_with fail
                go_roundg (l.length - (k + 1))
                case measure => have := HG.out; omega
                case rel =>
                  exact ⟨k + 1, n, mr, _, F6, f, _, _, y, by omega, rfl, by go_num, rfl, by rw [HD.out]; exact HSH.out, HA9.out, by rw [HD.out]; exact HP.out.scan3 _ HOS.out.t.s _ HZB.out _ _⟩
            have s1 : (o.t.shw == (r : Int)) = true := by rw [hs]; simp
            have HS1 : Hid (o.t.shw = g.shw) := Lib.hid (by rw [hs, HSH.out])
            clear hs
            cases zb with
            | true =>
              have HKM : Hid (kindG g o.t = 3) := Lib.hid (by unfold kindG admG; rw [HZI.out]; simp)
              have HD : Hid ((doG g o).1 = putG g 3 o.t.serial (ownerT o.t) o.now) := Lib.hid (by rw [HSC.out, HKM.out])
              obtain rfl : m = 3 := by rw [HM.out, HSC.out]; exact HKM.out
              have slz := HA7.out.mz.look o.t.serial HOS.out.t.s
              rw [HZB.out] at slz
              have x1 := row_cell HOB7.out 1
              simp at x1
              have slk := HA7.out.mz.look o.t.serial HOS.out.t.s
              rw [HZB.out] at slk
              go_wp2_with (at_mapUpdate; go_loud (refine wpList_putZ rfl (.tmp 127) (.tmp 130) (.tmp 139) rfl mi k z rfl HA7.out.mz (by omega) o.t.serial true rfl rfl HOS.out.t.s ?_))
              intro w9 hm9 hf9
              have HA9 := Lib.hid (HA7.out.putz hm9 hf9)
              clear hm9 hf9 x1 slk
              go_wp2_with fail
              go_roundg (l.length - (k + 1))
              case measure => have := HG.out; omega
              case rel =>
                exact ⟨k + 1, n, mr, _, F6, f, _, _, y, by omega, rfl, by go_num, rfl, by rw [HD.out]; exact HSH.out, HA9.out, by rw [HD.out]; exact HP.out.scan3 _ HOS.out.t.s _ HZB.out _ _⟩
            | false =>
              have slz := HA7.out.mz.look o.t.serial HOS.out.t.s
              rw [HZB.out] at slz
              have l0 := row_cell HA7.out.lb 0
              have l1 := row_cell HA7.out.lb 1
              have l2 := row_cell HA7.out.lb 2
              simp at l0 l1 l2
              have HW64 : Hid (W64 f.words) := Lib.hid (by rw [HP.out.f]; exact HIG.out.w)
              go_wp2_with fail
              refine (has_any _ f o.t.serial w7 ⟨_, rfl, HA7.out.ws.1⟩ HW64.out HOS.out.t.s (HT.out.fr HA7.out.fr).t).mono ?_
              rintro e w8 ⟨rfl, hb⟩
              have hf8 : Fr [] w7 w8 := Fr.ofBelow hb
              have HA8 := Lib.hid (HA7.out.keep hf8)
              have HOB8 := Lib.hid (hf8.at HOB7.out (by simp))
              clear hb hf8 slz u1 u2 l0 l1 l2
              obtain ⟨hb, ehb⟩ : ∃ q, q = hasF f o.t.serial := ⟨_, rfl⟩
              rw [← ehb]
              have HHB := Lib.hid ehb
              clear ehb
              cases hb with
              | true =>
                have HKM : Hid (kindG g o.t = 3) := Lib.hid (by unfold kindG admG; rw [← HP.out.f, ← HHB.out]; simp)
                have HD : Hid ((doG g o).1 = putG g 3 o.t.serial (ownerT o.t) o.now) := Lib.hid (by rw [HSC.out, HKM.out])
                obtain rfl : m = 3 := by rw [HM.out, HSC.out]; exact HKM.out
                have x1 := row_cell HOB8.out 1
                simp at x1
                have slk := HA8.out.mz.look o.t.serial HOS.out.t.s
                rw [HZB.out] at slk
                go_wp2_with (at_mapUpdate; go_loud (refine wpList_putZ rfl (.tmp 127) (.tmp 130) (.tmp 139) rfl mi k z rfl HA8.out.mz (by omega) o.t.serial false rfl rfl HOS.out.t.s ?_))
                intro w9 hm9 hf9
                have HA9 := Lib.hid (HA8.out.putz hm9 hf9)
                clear hm9 hf9 x1 slk
                go_wp2_with fail
                go_roundg (l.length - (k + 1))
                case measure => have := HG.out; omega
                case rel =>
                  exact ⟨k + 1, n, mr, _, F6, f, _, _, y, by omega, rfl, by go_num, rfl, by rw [HD.out]; exact HSH.out, HA9.out, by rw [HD.out]; exact HP.out.scan3 _ HOS.out.t.s _ HZB.out _ _⟩
              | false =>
                have HKM : Hid (kindG g o.t = 1) := Lib.hid (by unfold kindG admG; rw [← HP.out.f, ← HHB.out, HZI.out, ← HVB.out, decide_eq_true HS1.out]; rfl)
                have HD : Hid ((doG g o).1 = putG g 1 o.t.serial (ownerT o.t) o.now) := Lib.hid (by rw [HSC.out, HKM.out])
                obtain rfl : m = 1 := by rw [HM.out, HSC.out]; exact HKM.out
                have HYF : Hid (y o.t.serial = false) := Lib.hid (by
                  cases hyy : y o.t.serial with
                  | false => rfl
                  | true =>
                    have h1 := HP.out.y _ HOS.out.t.s hyy
                    rw [← HP.out.f, ← HHB.out] at h1
                    cases h1)
                have x1 := row_cell HOB8.out 1
                simp at x1
                have sly := HA8.out.my.look o.t.serial HOS.out.t.s
                rw [HYF.out] at sly
                have slk := HA8.out.mz.look o.t.serial HOS.out.t.s
                rw [HZB.out] at slk
                go_wp2_with (at_mapUpdate; go_loud (refine wpList_putZ rfl (.tmp 127) (.tmp 130) (.tmp 139) rfl mi k z rfl HA8.out.mz (by omega) o.t.serial true rfl rfl HOS.out.t.s ?_))
                intro w9 hm9 hf9
                have HA9 := Lib.hid (HA8.out.putz hm9 hf9)
                clear hm9 hf9 x1 slk sly
                go_wp2_with fail
                go_roundg (l.length - (k + 1))
                case measure => have := HG.out; omega
                case rel =>
                  exact ⟨k + 1, n, mr, _, F6, f, _, _, y, by omega, rfl, by go_num, rfl, by rw [HD.out]; exact HSH.out, HA9.out, by rw [HD.out]; exact HP.out.scan1 _ _ _⟩
        have t6 : ((r4 : Int) == 0) = false := by rw [beq_eq_false_iff_ne]; omega
        by_cases hr1 : r4 = 1
        case pos =>
          have t7 : ((r4 : Int) == 1) = true := by rw [hr1]; rfl
          have HD : Hid (∃ ow, (doG g o).1 = putG g 2 o.serial ow o.now) := Lib.hid (by
            obtain ⟨ow, _, _, _, h5⟩ := leave_ok (by rw [ER4.out, hr1]) HE0.out
            exact ⟨ow, by rw [h5]⟩)
          clear hr0 hr1
          go_wp2_with (at_mapUpdate; go_loud (refine wpList_putZ rfl (.tmp 142) (.tmp 144) (.const (.bool false)) rfl mi k z rfl HA6.out.mz (by omega) o.serial false rfl rfl HOS.out.s ?_))
          intro w7 hm7 hf7
          have HA7 := Lib.hid (HA6.out.putz hm7 hf7)
          clear hm7 hf7 x0 x1 x2 x3 x4 x5 x6
          go_wp2_with fail
          go_roundg (l.length - (k + 1))
          case measure => have := HG.out; omega
          case rel =>
            obtain ⟨ow, how⟩ := HD.out
            exact ⟨k + 1, n, mr, _, F6, f, _, _, y, by omega, rfl, by go_num, rfl, by rw [how]; exact HSH.out, HA7.out, by rw [how]; exact HP.out.leave _ _ _⟩
        have t7 : ((r4 : Int) == 1) = false := by rw [beq_eq_false_iff_ne]; omega
        have HSY : Hid ((doG g o).1 = { g with now := o.now, syn := o.now, flt := givenG o }) := Lib.hid (by
          obtain ⟨_, _, _, h5⟩ := sync_ok (g := g) (o := o) (by rw [ER4.out]; omega) HE0.out
          rw [h5])
        have x7 := row_cell HOB6.out 7
        have x8 := row_cell HOB6.out 8
        have x9 := row_cell HOB6.out 9
        have x10 := row_cell HOB6.out 10
        have x11 := row_cell HOB6.out 11
        simp at x7 x8 x9 x10 x11
        go_wp2_with fail
        refine (given2_any ta wa sa tc wc sc o w6 (HWS.out.fr0 HA6.out.fr) (HZS.out.fr0 HA6.out.fr) HOS.out.toOpN).mono ?_
        rintro e w7 ⟨wv7, rfl, hws7, hwl7, hb⟩
        have hf7 : Fr [] w6 w7 := Fr.ofBelow hb
        have HA7 := Lib.hid (HA6.out.keep hf7)
        have HOB7 := Lib.hid (hf7.at HOB6.out (by simp))
        have HX7 : Hid (WsX (lp :: mi :: mr :: F6) w7 wv7 (givenG o).words) := Lib.hid (by
          rcases hwl7 with h | h
          · exact WsX.same (h ▸ HWS.out) hws7 HA7.out.fr.size (fun k hk => by
              simp only [List.mem_cons] at hk
              rcases hk with rfl | rfl | rfl | hk
              · exact HA6.out.lo.1
              · exact HA6.out.lo.2.1
              · exact HA6.out.lo.2.2.1
              · exact HA6.out.lo.2.2.2 k hk)
          · refine hws7.newX h (fun k hk => ?_)
            simp only [List.mem_cons] at hk
            rcases hk with rfl | rfl | rfl | hk
            · exact HA6.out.dif.2.2
            · exact HA6.out.mz.lt
            · exact HA6.out.my.lt
            · exact (HA6.out.gr.blocks k hk).2)
        obtain ⟨ga, gc, rfl, _, _, _⟩ := hws7.form
        clear hb hf7 hws7 hwl7 x0 x1 x2 x3 x4 x5 x6 x7 x8 x9 x10 x11
        obtain ⟨W8, hW8⟩ : ∃ W8, W8 = ((((w7.setCell ⟨lp, 0, none⟩ (.int .i64 (givenG o).bits)).setCell ⟨lp, 1, none⟩ (.int .i64 (givenG o).hashes)).setCell ⟨lp, 2, none⟩ (.slice ga (givenG o).words.length gc)).alloc (.map #[] 0)) := ⟨_, rfl⟩
        obtain ⟨mr2, emr2⟩ : ∃ q, q = w7.heap.size := ⟨_, rfl⟩
        have HA8 : Hid (Adm w W8 B1 gp lp mi mr2 (doG g o).1 F6 (givenG o) (.slice ga (givenG o).words.length gc) k 0 z (fun _ => false)) := Lib.hid (by
          have h := (HA7.out.setf (givenG o) _ HX7.out).newy
          rw [← hW8] at h
          simpa [emr2] using h)
        have HOB8 : Hid (W8.heap[ob]? = some (.cells #[.int .u8 (o.kind : Int), .int .i64 o.t.serial, .int .i64 o.t.shw, .int .i64 o.t.place, .string ⟨o.t.first.toArray⟩, .slice ta o.t.chain.length tc, .int .i64 o.serial, .int .i64 o.f.bits, .int .i64 o.f.hashes, .slice wa o.f.words.length wc, .slice sa o.serials.length sc, .int .i64 o.now] 40 (0, 0))) := Lib.hid (by
          rw [hW8]
          have hf : Fr [lp] w7 (((w7.setCell ⟨lp, 0, none⟩ (.int .i64 (givenG o).bits)).setCell ⟨lp, 1, none⟩ (.int .i64 (givenG o).hashes)).setCell ⟨lp, 2, none⟩ (.slice ga (givenG o).words.length gc)) := (((Fr.refl [lp] w7).setCell _ _ (by simp)).setCell _ _ (by simp)).setCell _ _ (by simp)
          exact heap_past _ (hf.at HOB7.out (by simpa using fun e => HOF.out.2.1 e.symm)))
        have l0 := row_cell HA7.out.lb 0
        have l1 := row_cell HA7.out.lb 1
        have l2 := row_cell HA7.out.lb 2
        have q0 := row_free HA7.out.lb 0
        have q1 := row_free HA7.out.lb 1
        have q2 := row_free HA7.out.lb 2
        simp at l0 l1 l2
        go_wp2_with fail
        try simp only [World.setCell_size]
        rw [← hW8, ← emr2]
        clear l0 l1 l2 q0 q1 q2 hW8 emr2
        have hzf := HZS.out.form
        obtain ⟨za, zc, hze, _, hz9, hzo⟩ := hzf
        injection hze with ez1 ez2 ez3
        subst ez1
        subst ez3
        clear ez2
        have hsz := HOS.out.sz
        obtain ⟨wo, rfl⟩ : ∃ wo : World, wo = wr := ⟨_, rfl⟩
        go_loopg [17] (o.serials.length + 1) (fun gh i wr => ∃ (j : Nat) (y : Int → Bool), j ≤ o.serials.length ∧ gh = o.serials.length + 1 - j ∧ i = .int .i64 (j : Int) ∧ (∀ s, y s = true → r4 = 3 ∧ s ∈ o.serials) ∧ Adm w wr B1 gp lp mi mr2 (doG g o).1 F6 (givenG o) (.slice ga (givenG o).words.length gc) k j z y ∧ wr.heap[ob]? = some (.cells #[.int .u8 (o.kind : Int), .int .i64 o.t.serial, .int .i64 o.t.shw, .int .i64 o.t.place, .string ⟨o.t.first.toArray⟩, .slice ta o.t.chain.length tc, .int .i64 o.serial, .int .i64 o.f.bits, .int .i64 o.f.hashes, .slice wa o.f.words.length wc, .slice sa o.serials.length sc, .int .i64 o.now] 40 (0, 0)))
        case atStart => exact ⟨0, _, by omega, by omega, rfl, fun s h => (by cases h), HA8.out, HOB8.out⟩
        case round =>
          obtain ⟨j, y2, hj, hgh, rfl, hy2, hA9, hob9⟩ := hrel
          have HGI := Lib.hid hgh
          have HY2 := Lib.hid hy2
          have HA9 := Lib.hid hA9
          have HOB9 := Lib.hid hob9
          have x0 := row_cell hob9 0
          have x10 := row_cell hob9 10
          simp at x0 x10
          have HEND : Hid (AdmP (doG g o).1 (givenG o) z y2 ∧ (doG g o).1.shw = (r : Int)) := Lib.hid (by
            rw [HSY.out]
            refine ⟨⟨rfl, HP.out.z, fun s hs h => ?_⟩, HSH.out⟩
            obtain ⟨h3, h4⟩ := HY2.out s h
            show hasF (givenG o) s = true
            unfold givenG
            rw [ER4.out, if_neg (by omega)]
            exact has_make form64 h4)
          clear hgh hy2 hA9 hob9
          by_cases hlj : j < o.serials.length
          case neg =>
            obtain rfl : j = o.serials.length := by omega
            have v1 : decide ((o.serials.length : Int) < (o.serials.length : Int)) = false := by simp
            go_wp2_with fail
            go_roundg (l.length - (k + 1))
            case measure => have := HG.out; omega
            case rel => exact ⟨k + 1, _, mr2, _, F6, _, _, z, y2, by omega, rfl, by go_num, rfl, HEND.out.2, HA9.out.more, HEND.out.1⟩
          have v1 : decide ((j : Int) < (o.serials.length : Int)) = true := by simp; omega
          by_cases hr3 : r4 = 3
          case neg =>
            have v2 : ((r4 : Int) == 3) = false := by rw [beq_eq_false_iff_ne]; omega
            clear hr3
            go_wp2_with fail
            go_roundg (l.length - (k + 1))
            case measure => have := HG.out; omega
            case rel => exact ⟨k + 1, _, mr2, _, F6, _, _, z, y2, by omega, rfl, by go_num, rfl, HEND.out.2, HA9.out.more, HEND.out.1⟩
          have v2 : ((r4 : Int) == 3) = true := by rw [hr3]; rfl
          obtain ⟨zb2, zoff, rfl⟩ := hzo j hlj
          have cz := (HZS.out.fr0 HA9.out.fr).cell j hlj
          have j0 : (0 : Int) ≤ (j : Int) := by omega
          have j1 : (j : Int) < (o.serials.length : Int) := by omega
          have HSM : Hid (o.serials.getD j 0 ∈ o.serials) := Lib.hid (by rw [List.getD_eq_getElem?_getD, List.getElem?_eq_getElem hlj]; exact List.getElem_mem hlj)
          have HSI : Hid (isI (o.serials.getD j 0)) := Lib.hid (HOS.out.z _ HSM.out)
          obtain ⟨sj, esj⟩ : ∃ q, q = o.serials.getD j 0 := ⟨_, rfl⟩
          rw [← esj] at cz HSM HSI
          have HR3 := Lib.hid hr3
          clear esj hr3
          go_wp2_with (at_mapUpdate; go_loud (refine wpList_putZ rfl (.tmp 72) (.tmp 77) (.const (.bool true)) rfl mr2 j y2 rfl HA9.out.my (by omega) sj true rfl rfl HSI.out ?_))
          intro w9 hm9 hf9
          have HA10 := Lib.hid (HA9.out.puty hm9 hf9)
          have HOB10 := Lib.hid (hf9.at HOB9.out (by simpa using fun e => by have h1 := HA9.out.my.ne HOB9.out; exact h1 e.symm))
          clear hm9 hf9 x0 x10 cz
          go_wp2_with fail
          go_roundg (o.serials.length + 1 - (j + 1))
          case measure => have := HGI.out; omega
          case rel =>
            refine ⟨j + 1, _, by omega, rfl, by go_num, fun s hs => ?_, HA10.out, HOB10.out⟩
            unfold putZ at hs
            by_cases e : s = sj
            · exact ⟨HR3.out, e ▸ HSM.out⟩
            · rw [if_neg e] at hs
              exact HY2.out s hs
      · obtain rfl : k = l.length := by omega
        have t3 : decide ((l.length : Int) < (l.length : Int)) = false := by simp
        go_wp2_with fail
        go_ret
        exact ⟨rfl, HA.out.fr.toBelow (by simp)⟩
end Go.Proofs.YtglgkdbhdjkeaaaGreatDoor
