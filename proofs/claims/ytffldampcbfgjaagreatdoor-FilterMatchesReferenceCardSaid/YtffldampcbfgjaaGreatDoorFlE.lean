/-
  filter.Make.
-/
import Derived.Test.YtffldampcbfgjaaGreatDoorFlD
import Derived.Test.YtffldampcbfgjaaGreatDoorZsr
import Derived.Laws.EntriesVeiled
namespace Go.Proofs.YtffldampcbfgjaaGreatDoor
open Go.RowKit Go.Shelf
attribute [local go_sem] Oper.semAt_some

/-- The filter without anything. -/
def zeroF : Value := .agg #[.int .i64 0, .int .i64 0, .slice none 0 0]
/-- The words behind some serial numbers. -/
def accF (bits hashes : Int) (l : List Int) : List Nat := setsW (List.replicate (bits / 64).toNat 0) (posA l bits hashes)
theorem KpP.fr {bs bb : Nat} {serial bits : Int} {X : List Nat} {B : Nat} {w A C : World} (hf : Fr X A C) (hw : Tabs w) (hB : w.heap.size ≤ B) (hx : ∀ x ∈ X, B ≤ x) (h0 : bs ∉ X) (h1 : bb ∉ X) : KpP bs bb serial bits A C :=
  ⟨fun h => hf.at h h0, fun h => hf.at h h1, fun h => h.frX hf hw hB hx⟩
structure MkInv (w : World) (bf rb g cap : Nat) (bits hashes : Int) (lv : Value) (l : List Int) (gh : Nat) (iv : Value) (ds : List Deferred) (wr : World) (n : Nat) (Ds : List Nat) : Prop where
  k : n ≤ l.length
  gh : gh = l.length - n
  iv : iv = .int .i64 (n : Int)
  fr : Fr [] w wr
  r : wr.heap[rb]? = some (.cells #[.int .i64 0, .int .i64 0, .slice none 0 0] 25 (0, 0))
  f : wr.heap[bf]? = some (.cells #[.int .i64 bits, .int .i64 hashes, .slice (some ⟨g, 0, none⟩) cap cap] 25 (0, 0))
  s : wr.heap[bf + 1]? = some (.cells #[.func (.func 41) #[] #[.pointer (some ⟨bf, 0, none⟩)]] 74 (0, 0))
  o : OwnW w.heap.size wr (.slice (some ⟨g, 0, none⟩) cap cap) (accF bits hashes (l.take n))
  ds : ds = Ds.map markD
  m : Marks w.heap.size Ds wr

theorem OwnW.kept {base : Nat} {w w' : World} {v : Value} {l : List Nat} {row : Option Nat} (h : OwnW base w v l) (hg : w.grownBy w' row) (hr : ∀ b o, w.heap[b]? = some o → o.isCells = true → some b ≠ row) : OwnW base w' v l := by
  refine ⟨h.1, ?_⟩
  rcases h.2 with h | ⟨b, cap, cur, hv, hb, hh, h3⟩
  · exact Or.inl h
  · exact Or.inr ⟨b, cap, cur, hv, hb, (hg.block b (lt_of_block hh) (fun e => hr b _ hh rfl e)).trans hh, h3⟩
theorem OwnW.lt {base : Nat} {w : World} {g n cap : Nat} {l : List Nat} (h : OwnW base w (.slice (some ⟨g, 0, none⟩) n cap) l) : base ≤ g ∧ g < w.heap.size ∧ ∃ cur, w.heap[g]? = some (.cells cur 71 (0, 0)) := by
  rcases h.form with ⟨h0, _⟩ | ⟨g', cap', cur, h0, hb, hg, _⟩
  · cases h0
  · cases h0; exact ⟨hb, lt_of_block hg, cur, hg⟩
theorem Marks.frX {B : Nat} {X Ds : List Nat} {w w' : World} (h : Marks B Ds w) (hf : Fr X w w') (hx : ∀ x ∈ X, ∀ o, w.heap[x]? = some o → o.isCells = true) : Marks B Ds w' :=
  ⟨h.1, fun D hD => ⟨(h.2 D hD).1, hf.at (h.2 D hD).2 (fun hm => by have := hx D hm _ (h.2 D hD).2; cases this)⟩⟩
theorem Marks.newX {B : Nat} {X Ds : List Nat} {w w' : World} {D : Nat} (h : Marks B Ds w) (hf : Fr X w w') (hx : ∀ x ∈ X, ∀ o, w.heap[x]? = some o → o.isCells = true) (hD : w.heap.size ≤ D) (hB : B ≤ w.heap.size) (hd : w'.heap[D]? = some (.deferred (some []))) : Marks B (D :: Ds) w' := by
  refine ⟨List.nodup_cons.2 ⟨fun hm => ?_, h.1⟩, fun x hx' => ?_⟩
  · have := (Array.getElem?_eq_some_iff.1 (h.2 D hm).2).1
    omega
  · rcases List.mem_cons.1 hx' with rfl | hx'
    · exact ⟨by omega, hd⟩
    · exact (h.frX hf hx).2 x hx'
theorem posA_snoc (l : List Int) (bits hashes : Int) (k : Nat) (hk : k < l.length) : accF bits hashes (l.take (k + 1)) = setsW (accF bits hashes (l.take k)) ((List.finRange hashes.toNat).map fun i => posF (l.getD k 0) bits i.val) := by
  unfold accF
  rw [take_snoc' l k 0 hk, posA, List.flatMap_append, setsW_app]
  congr 1
  rw [List.flatMap_cons, List.flatMap_nil, List.append_nil]
  unfold posL
  exact List.ext_getElem (by simp) (fun i h1 h2 => by simp)
/-- What Make returns. -/
def MakePost (w : World) (l : List Int) (bits hashes : Int) (e : Ending) (w' : World) : Prop :=
  (formF bits hashes = true → ∃ wv, e = .returned (.tuple #[.agg #[.int .i64 bits, .int .i64 hashes, wv], .int .i64 0]) ∧ OwnW w.heap.size w' wv (makeF l bits hashes)) ∧ (formF bits hashes = false → e = .returned (.tuple #[zeroF, .int .i64 1])) ∧ Below w.heap.size w w'
set_option maxRecDepth 100000 in
set_option maxHeartbeats 4000000 in
theorem make_any (v : Value) (l : List Int) (bits hashes : Int) (w : World) (hv : Zs w v l) (hi : ∀ s ∈ l, -9223372036854775808 ≤ s ∧ s ≤ 9223372036854775807) (hT : Tabs w) :
    Calls Tryz.prog 13 #[v, .int .i64 bits, .int .i64 hashes] w (MakePost w l bits hashes) := by
  obtain ⟨la, lcap, rfl, hll, hlc, hla⟩ := hv.form
  have HV := Lib.hid hv
  have HT := Lib.hid hT
  have HI := Lib.hid hi
  clear hv hT hi
  refine (callsIn_wide (n := 3)).1 ?_
  refine callsIn_of_wp_marks Tryz.func13 rfl trivial ?_ rfl
  simp only [Tryz.ntmps13, List.size_toArray, List.length_cons, List.length_nil, Nat.reduceAdd, Nat.reduceSub, Array.replicate_succ, Array.replicate_zero, List.push_toArray, List.append_toArray, List.nil_append, List.cons_append]
  gi_wp2_with fail
  obtain ⟨w1, hw1⟩ : ∃ w1, w1 = w.alloc (.cells #[.int .i64 0, .int .i64 0, .slice none 0 0] 25) := ⟨_, rfl⟩
  have hf1 : Fr [] w w1 := by rw [hw1]; exact (Fr.refl [] w).alloc _
  have hr1 : w1.heap[w.heap.size]? = some (.cells #[.int .i64 0, .int .i64 0, .slice none 0 0] 25 (0, 0)) := by rw [hw1]; exact heap_new rfl
  rw [← hw1]
  obtain ⟨rb, erb⟩ : ∃ rb, rb = w.heap.size := ⟨_, rfl⟩
  rw [← erb] at hr1
  simp only [← erb]
  have c0 := row_cell hr1 0
  have c1 := row_cell hr1 1
  have c2 := row_cell hr1 2
  have d0 := row_free hr1 0
  have d1 := row_free hr1 1
  have d2 := row_free hr1 2
  simp at c0 c1 c2
  have ERB := Lib.hid erb
  have HR1 := Lib.hid hr1
  clear erb hr1
  refine ⟨trivial, (callsIn_wide.2 (form_any bits hashes w1)).mono ?_⟩
  rintro e w' ⟨rfl, rfl⟩
  obtain ⟨fo, efo⟩ : ∃ fo, fo = formF bits hashes := ⟨_, rfl⟩
  rw [← efo]
  have HF := Lib.hid efo
  clear efo hw1
  cases fo with
  | false =>
    gi_wp2_with fail
    have hX : Fr [] w ((((w1.setCell ⟨rb, 0, none⟩ (.int .i64 0)).setCell ⟨rb, 1, none⟩ (.int .i64 0))).setCell ⟨rb, 2, none⟩ (.slice none 0 0)) := ((hf1.setCell _ _ (by right; simp [ERB.out])).setCell _ _ (by right; simp [ERB.out])).setCell _ _ (by right; simp [ERB.out])
    have hrX := row_set (row_set (row_set HR1.out 0 (.int .i64 0)) 1 (.int .i64 0)) 2 (.slice none 0 0)
    refine leaves_marks (B := w.heap.size) [] _ ⟨List.nodup_nil, fun D hD => by cases hD⟩ (fun w' hst => ?_)
    have hr' := hst.at hrX
    have e0 := row_cell hr' 0
    have e1 := row_cell hr' 1
    have e2 := row_cell hr' 2
    simp at e0 e1 e2
    refine ⟨.tuple #[zeroF, .int .i64 1], ?_, ⟨fun h => absurd (HF.out.trans h) (by decide), fun _ => rfl, (hX.thenStd hst (Nat.le_refl _)).toBelow (by simp)⟩⟩
    unfold zeroF
    simp only [results]
    go_simp
  | true =>
    have hp := formF_parts HF.out.symm
    obtain ⟨q, eq⟩ : ∃ q : Nat, bits / 64 = (q : Int) := ⟨(bits / 64).toNat, by omega⟩
    have e1 : bits.tdiv 64 = (q : Int) := by rw [Int.tdiv_eq_ediv_of_nonneg (by omega), eq]
    have w1q : IntKind.i64.wrap (q : Int) = (q : Int) := IntWalk.i64_in _ (by omega)
    have w2q : wrap64 (q : Int) = (q : Int) := by unfold wrap64; omega
    have hq : q ≤ 1000000 := by omega
    have HP := Lib.hid hp
    have HQ := Lib.hid eq
    clear hp eq
    gi_wp2_with (gi_at_make; go_loud (refine wpListIn_makeW rfl (.tmp 21) (.tmp 21) rfl q rfl rfl hq ?_))
    intro w2 ho2 hf2
    have HO2 := Lib.hid ho2
    clear ho2
    gi_wp2_with fail
    obtain ⟨g, eg⟩ : ∃ g, g = w1.heap.size := ⟨_, rfl⟩
    obtain ⟨bf, ebf⟩ : ∃ bf, bf = w2.heap.size := ⟨_, rfl⟩
    have hg1 : w.heap.size ≤ g := by rw [eg]; exact hf1.size
    have hgb : g < bf := by
      have := HO2.out.lt
      rw [eg, ebf]
      exact this.2.1
    have hrbg : rb < g := by rw [eg]; exact lt_of_block HR1.out
    rw [← eg, ← ebf]
    obtain ⟨w3, hw3⟩ : ∃ w3, w3 = (w2.alloc (.cells #[.int .i64 bits, .int .i64 hashes, .slice (some ⟨g, 0, none⟩) q q] 25)).alloc (.cells #[.func (.func 41) #[] #[.pointer (some ⟨bf, 0, none⟩)]] 74) := ⟨_, rfl⟩
    have hf23 : Fr [] w2 w3 := by rw [hw3]; exact ((Fr.refl [] w2).alloc _).alloc _
    have HI0 : Hid (MkInv w bf rb g q bits hashes (.slice la l.length lcap) l l.length (.int .i64 0) [] w3 0 []) := Lib.hid
      { k := Nat.zero_le _, gh := rfl, iv := rfl, fr := (hf1.trans hf2 (by simp)).trans hf23 (by simp),
        r := hf23.at (hf2.at HR1.out (by simp)) (by simp),
        f := by rw [hw3, ebf]; exact heap_past _ (heap_new rfl),
        s := by rw [hw3, ebf]; exact heap_new (by simp),
        o := by
          rw [show accF bits hashes (l.take 0) = List.replicate q 0 by
            unfold accF
            rw [List.take_zero, show (bits / 64).toNat = q by have := HQ.out; omega]
            rfl]
          have h1 : OwnW w1.heap.size w2 (.slice (some ⟨g, 0, none⟩) q q) (List.replicate q 0) := by rw [eg]; exact HO2.out
          have h2 := h1.fr hf23 (by simp)
          rcases h2.form with ⟨h0, _⟩ | ⟨g', cap', cur, h0, hb, hgg, h3, h4, h5, h6⟩
          · cases h0
          · exact ⟨h2.1, Or.inr ⟨g', cap', cur, h0, Nat.le_trans hf1.size hb, hgg, h3, h4, by simpa using h5, by simpa using h6⟩⟩,
        ds := rfl, m := ⟨List.nodup_nil, fun D hD => by cases hD⟩ }
    rw [← hw3]
    clear hf23 hw3 HO2 hf2 eg ebf hf1 HR1 c0 c1 c2 d0 d1 d2
    refine wpIn_loop_ghost_k (fun gh a' wr => ∃ (ds : List Deferred) (iv u11 u28 u29 u30 u31 u32 u33 u34 u39 : Value), (∃ n Ds, MkInv w bf rb g q bits hashes (.slice la l.length lcap) l gh iv ds wr n Ds) ∧ a' = { tmps := #[.slice la l.length lcap, .int .i64 bits, .int .i64 hashes, undef, undef, undef, .pointer (some ⟨rb, 0, none⟩), .int .i64 0, .pointer (some ⟨bf, 0, none⟩), .pointer (some ⟨bf + 1, 0, none⟩), undef, u11, undef, .int .i64 bits, .int .i64 hashes, .bool true, .bool false, undef, .int .i64 bits, .int .i64 hashes, .int .i64 bits, .int .i64 (q : Int), .slice (some ⟨g, 0, none⟩) q q, .agg #[.int .i64 bits, .int .i64 hashes, .slice (some ⟨g, 0, none⟩) q q], .func (.func 41) #[] #[.pointer (some ⟨bf, 0, none⟩)], .slice la l.length lcap, .int .i64 (l.length : Int), iv, u28, u29, u30, u31, u32, u33, u34, undef, undef, undef, undef, u39, undef], defers := ds }) l.length ?_ ?_
    · exact ⟨_, _, _, _, _, _, _, _, _, _, _, ⟨_, _, HI0.out⟩, rfl⟩
    clear HI0
    intro gh _ wr hinv
    obtain ⟨ds, iv, u11, u28, u29, u30, u31, u32, u33, u34, u39, hrel, ha⟩ := hinv
    subst ha
    dsimp only
    intro JJ KK hJJ hKK
    obtain ⟨n, Ds, hI⟩ := hrel
    have HV2 := Lib.hid hI
    obtain rfl := hI.iv
    obtain rfl := hI.ds
    obtain rfl := hI.gh
    have hnl := hI.k
    clear hI
    by_cases hlt : n < l.length
    · have t1 : decide ((n : Int) < (l.length : Int)) = true := by simp; omega
      obtain ⟨b, off, rfl⟩ := hla n hlt
      have cs := (HV.out.fr0 HV2.out.fr).cell n hlt
      have HS := Lib.hid (HI.out _ (getD_mem l n 0 hlt))
      have HTK := Lib.hid (posA_snoc l bits hashes n hlt)
      generalize l.getD n 0 = s at cs HS HTK
      have i0 : (0 : Int) ≤ (n : Int) := by omega
      have i1 : (n : Int) < (l.length : Int) := by omega
      gi_wp2_with fail
      refine ⟨trivial, (callsIn_wide.2 (positions_any s bits hashes wr)).mono ?_⟩
      rintro e w' ⟨rfl, rfl⟩
      obtain ⟨nb, enb⟩ : ∃ nb, nb = wr.heap.size := ⟨_, rfl⟩
      obtain ⟨W4, hW4⟩ : ∃ W4, W4 = ((wr.alloc (.cells #[.int .i64 s] 3)).alloc (.cells #[.int .i64 bits] 3)).alloc (.cells #[.int .i64 hashes] 3) := ⟨_, rfl⟩
      have hsz4 : W4.heap.size = nb + 3 := by rw [hW4, enb]; simp
      have hf34 : Fr [] wr W4 := by rw [hW4]; exact (((Fr.refl [] wr).alloc _).alloc _).alloc _
      have hbs : W4.heap[nb]? = some (.cells #[.int .i64 s] 3 (0, 0)) := by rw [hW4, enb]; exact heap_past _ (heap_past _ (heap_new rfl))
      have hbb : W4.heap[nb + 1]? = some (.cells #[.int .i64 bits] 3 (0, 0)) := by rw [hW4, enb]; exact heap_past _ (heap_new (by simp))
      have hbh : W4.heap[nb + 2]? = some (.cells #[.int .i64 hashes] 3 (0, 0)) := by rw [hW4, enb]; exact heap_new (by simp)
      rw [← hW4, ← enb]
      have hHP := HP.out
      have hT4 : Tabs W4 := HT.out.fr (HV2.out.fr.trans hf34 (by simp))
      have hlt4 : w.heap.size ≤ nb := by rw [enb]; exact HV2.out.fr.size
      have hol := HV2.out.o.lt
      have hqq : (bits / 64).toNat = q := by have := HQ.out; omega
      have hO4 : OwnW w.heap.size W4 (.slice (some ⟨g, 0, none⟩) q q) (accF bits hashes (l.take n)) := HV2.out.o.fr hf34 (by simp)
      have hF4 : W4.heap[bf]? = some (.cells #[.int .i64 bits, .int .i64 hashes, .slice (some ⟨g, 0, none⟩) q q] 25 (0, 0)) := hf34.at HV2.out.f (by simp)
      have hS4 := hf34.at HV2.out.s (by simp)
      have hgn : g < nb := by rw [enb]; exact hol.2.1
      have hbfn : bf + 1 < nb := by rw [enb]; exact lt_of_block HV2.out.s
      have HAL : Hid ((accF bits hashes (l.take n)).length = q) := Lib.hid (by unfold accF; rw [setsW_len, List.length_replicate, hqq])
      have HAW : Hid (W64 (accF bits hashes (l.take n))) := Lib.hid (by unfold accF; exact setsW_lt _ _ (zeros_lt _))
      have ENB := Lib.hid enb
      clear hW4 enb
      gi_wp2_with fail
      generalize accF bits hashes (l.take n) = acc at hO4 HTK HAL HAW
      refine wpIn_rangeFunc_ownF rfl (by decide) (gf := 81) (lb := #[.pointer (some ⟨nb + 2, 0, none⟩), .pointer (some ⟨nb, 0, none⟩), .pointer (some ⟨nb + 1, 0, none⟩)]) rfl trivial (enters_of Tryz.func81 (by kernel_rfl) rfl)
        (positions_stops 2 (nb + 2) nb (nb + 1) s bits hashes W4 (by decide) HS.out (by omega) (by omega) hbh hbs hbb hT4) KpP.t
        (fun W l o o' hl ho _ _ => KpP.fr (X := [l]) (B := w.heap.size) ((Fr.refl [l] W).grown (grownBy_putObj' W l o') (fun r e => by cases e; simp)) HT.out (Nat.le_refl _) (by simp; omega) (by simp; omega) (by simp; omega))
        (Below.refl _ _) (fun _ => rfl)
        (fun pre V => OwnW w.heap.size V (.slice (some ⟨g, 0, none⟩) q q) (setsW acc (pre.map fun k => posF s bits k.val)) ∧ V.heap[bf]? = some (.cells #[.int .i64 bits, .int .i64 hashes, .slice (some ⟨g, 0, none⟩) q q] 25 (0, 0)) ∧ V.heap[bf + 1]? = some (.cells #[.func (.func 41) #[] #[.pointer (some ⟨bf, 0, none⟩)]] 74 (0, 0)) ∧ Fr [g] wr V)
        (fun _ _ _ => False)
        ?own (fun _ _ _ _ _ hs _ _ => hs)
        ⟨hO4, hF4, hS4, hf34.mono (by simp)⟩
        (fun x => { tmps := #[.slice (some ⟨b, off, none⟩) l.length lcap, .int .i64 bits, .int .i64 hashes, undef, undef, undef, .pointer (some ⟨rb, 0, none⟩), .int .i64 0, .pointer (some ⟨bf, 0, none⟩), .pointer (some ⟨bf + 1, 0, none⟩), undef, .int .i64 s, .int .i64 (posF s bits x.val : Int), .int .i64 bits, .int .i64 hashes, .bool true, .bool false, undef, .int .i64 bits, .int .i64 hashes, .int .i64 bits, .int .i64 (q : Int), .slice (some ⟨g, 0, none⟩) q q, .agg #[.int .i64 bits, .int .i64 hashes, .slice (some ⟨g, 0, none⟩) q q], .func (.func 41) #[] #[.pointer (some ⟨bf, 0, none⟩)], .slice (some ⟨b, off, none⟩) l.length lcap, .int .i64 (l.length : Int), .int .i64 (n : Int), .bool true, .pointer (some ⟨b, off + n, none⟩), .int .i64 s, .int .i64 s, .int .i64 bits, .int .i64 hashes, .func (.func 81) #[] #[.pointer (some ⟨nb + 2, 0, none⟩), .pointer (some ⟨nb, 0, none⟩), .pointer (some ⟨nb + 1, 0, none⟩)], .int .i64 (posF s bits x.val : Int), undef, undef, undef, u39, undef], defers := [] }) ?assign ?body ?done ?stop
      case own =>
        rintro pre A B row ⟨ho, hf, hs, hfr⟩ hg hr
        have hne : ∀ b o, A.heap[b]? = some o → o.isCells = true → some b ≠ row := fun b o hb ho e => by
          obtain ⟨_, o', ho', hc⟩ := hr b e.symm
          rw [hb] at ho'; cases ho'; rw [ho] at hc; cases hc
        refine ⟨ho.kept hg hne, (hg.block _ (lt_of_block hf) (hne _ _ hf rfl)).trans hf, (hg.block _ (lt_of_block hs) (hne _ _ hs rfl)).trans hs, hfr.grown hg (fun r e => Or.inr (by have := (hr r e).1; have := ENB.out; omega))⟩
      case assign =>
        intro l' x V K hK
        dsimp only [encsP]
        gi_wp2
        exact hK
      case body =>
        rintro l' pre x V ⟨ho, hf, hs, hfr⟩ hlen
        have hcs := row_cell hs 0
        simp at hcs
        have hx := x.2
        have hpx := posF_lt s (show 1 ≤ bits by omega) x.val
        have HP2 : Hid (posF s bits x.val / 64 < (setsW acc (pre.map fun k => posF s bits k.val)).length) := Lib.hid (by rw [setsW_len, HAL.out]; omega)
        have HSL : Hid ((setsW acc (pre.map fun k => posF s bits k.val)).length = q) := Lib.hid (by rw [setsW_len, HAL.out])
        have HSW : Hid (W64 (setsW acc (pre.map fun k => posF s bits k.val))) := Lib.hid (setsW_lt _ _ HAW.out)
        have HSN : Hid (setsW acc ((pre ++ [x]).map fun k => posF s bits k.val) = setW (setsW acc (pre.map fun k => posF s bits k.val)) (posF s bits x.val)) := Lib.hid (by rw [List.map_append, setsW_app]; rfl)
        generalize setsW acc (pre.map fun k => posF s bits k.val) = W at ho HP2 HSL HSW HSN
        generalize posF s bits x.val = p at hpx HP2 HSN ⊢
        have hset := set_any w.heap.size bf g q p bits hashes W V (by rw [HSL.out]; exact hf) (by rw [HSL.out]; exact ho) HP2.out (by omega) HSW.out
        rw [HSL.out] at hset
        have HSET := Lib.hid hset
        clear hset
        gi_wp2_with fail
        refine ⟨trivial, (callsIn_wide.2 HSET.out).mono ?_⟩
        rintro e V2 ⟨⟨v, rfl⟩, hfr2, ho2⟩
        have HO2 := Lib.hid ho2
        have HK2 : Hid (KeepsOthers V V2) := Lib.hid (keepsOthers_fr1 hfr2 (fun x hx o ho' => by
          obtain ⟨cur, hcur⟩ := ho.lt.2.2
          rw [List.mem_singleton.1 hx, hcur] at ho'
          cases ho'; rfl))
        have HKP : Hid (KpP nb (nb + 1) s bits V V2) := Lib.hid (KpP.fr hfr2 HT.out (Nat.le_refl _) (by simp; omega) (by simp; omega) (by simp; omega))
        have HF2 := Lib.hid (hfr2.at hf (by simp; omega))
        have HS2 := Lib.hid (hfr2.at hs (by simp; omega))
        have HFR2 := Lib.hid (hfr.trans hfr2 (by simp))
        clear ho2 hfr2 ho hf hs hfr hcs
        gi_wp2_with fail
        refine ⟨HK2.out, HKP.out, ?_, HF2.out, HS2.out, HFR2.out⟩
        rw [HSN.out]
        exact HO2.out
      case done =>
        rintro D xs V hD rfl ⟨ho, hf, hs, hfr⟩ hK
        have hcell : ∀ x ∈ [g], ∀ o, wr.heap[x]? = some o → o.isCells = true := fun x hx o ho' => by
          obtain ⟨cur, hcur⟩ := hol.2.2
          rw [List.mem_singleton.1 hx, hcur] at ho'
          cases ho'; rfl
        have HI5 : Hid (MkInv w bf rb g q bits hashes (.slice (some ⟨b, off, none⟩) l.length lcap) l (l.length - (n + 1)) (.int .i64 ((n + 1 : Nat) : Int)) ((D :: Ds).map markD) V (n + 1) (D :: Ds)) := Lib.hid
          { k := by omega, gh := rfl, iv := rfl, fr := HV2.out.fr.trans hfr (by simp; omega),
            r := hfr.at HV2.out.r (by simp; omega), f := hf, s := hs,
            o := by rw [HTK.out]; exact ho, ds := rfl,
            m := HV2.out.m.newX hfr hcell (by have := ENB.out; omega) HV2.out.fr.size hK }
        clear ho hf hs hfr hK hcell hol
        gi_wp2_with fail
        gi_roundg (l.length - (n + 1))
        case measure => omega
        case rel => exact ⟨_, _, HI5.out⟩
      case stop =>
        rintro D c pre V _ _ h _
        exact h.elim
    · obtain rfl : n = l.length := by omega
      have t1 : decide ((l.length : Int) < (l.length : Int)) = false := by simp
      have f0 := row_cell HV2.out.f 0
      have f1 := row_cell HV2.out.f 1
      have f2 := row_cell HV2.out.f 2
      simp at f0 f1 f2
      have r0 := row_cell HV2.out.r 0
      have r1 := row_cell HV2.out.r 1
      have r2 := row_cell HV2.out.r 2
      simp at r0 r1 r2
      have d0 := row_free HV2.out.r 0
      have d1 := row_free HV2.out.r 1
      have d2 := row_free HV2.out.r 2
      have hX : Fr [] w (((wr.setCell ⟨rb, 0, none⟩ (.int .i64 bits)).setCell ⟨rb, 1, none⟩ (.int .i64 hashes)).setCell ⟨rb, 2, none⟩ (.slice (some ⟨g, 0, none⟩) q q)) := ((HV2.out.fr.setCell _ _ (by right; simp [ERB.out])).setCell _ _ (by right; simp [ERB.out])).setCell _ _ (by right; simp [ERB.out])
      have hX1 : Fr [rb] wr (((wr.setCell ⟨rb, 0, none⟩ (.int .i64 bits)).setCell ⟨rb, 1, none⟩ (.int .i64 hashes)).setCell ⟨rb, 2, none⟩ (.slice (some ⟨g, 0, none⟩) q q)) := (((Fr.refl [rb] wr).setCell _ _ (by simp)).setCell _ _ (by simp)).setCell _ _ (by simp)
      have hrX := row_set (row_set (row_set HV2.out.r 0 (.int .i64 bits)) 1 (.int .i64 hashes)) 2 (.slice (some ⟨g, 0, none⟩) q q)
      have hmX := HV2.out.m.frX hX1 (fun x hx o ho => by rw [List.mem_singleton.1 hx, HV2.out.r] at ho; cases ho; rfl)
      have hoX : OwnW w.heap.size (((wr.setCell ⟨rb, 0, none⟩ (.int .i64 bits)).setCell ⟨rb, 1, none⟩ (.int .i64 hashes)).setCell ⟨rb, 2, none⟩ (.slice (some ⟨g, 0, none⟩) q q)) (.slice (some ⟨g, 0, none⟩) q q) (makeF l bits hashes) := by
        have := HV2.out.o.fr hX1 (fun k hk hm => by
          have e1 : g = k := by simpa [Value.ownBlock] using hk
          have e2 := List.mem_singleton.1 hm
          omega)
        rw [List.take_length] at this
        exact this
      have HHX := Lib.hid hX
      have HRX := Lib.hid hrX
      have HMX := Lib.hid hmX
      have HOX := Lib.hid hoX
      clear hX hX1 hrX hmX hoX
      gi_wp2_with fail
      refine leaves_marks (B := w.heap.size) Ds _ HMX.out (fun w' hst => ?_)
      have hr' := hst.at HRX.out
      have e0 := row_cell hr' 0
      have e1 := row_cell hr' 1
      have e2 := row_cell hr' 2
      simp at e0 e1 e2
      refine ⟨.tuple #[.agg #[.int .i64 bits, .int .i64 hashes, .slice (some ⟨g, 0, none⟩) q q], .int .i64 0], ?_, ⟨fun _ => ⟨_, rfl, ?_⟩, fun h => absurd (HF.out.trans h) (by decide), (HHX.out.thenStd hst (Nat.le_refl _)).toBelow (by simp)⟩⟩
      · simp only [results]
        go_simp
      · rcases HOX.out.form with ⟨h0, _⟩ | ⟨g', cap', cur, h0, hb, hgg, h3, h4, h5, h6⟩
        · cases h0
        · exact ⟨HOX.out.1, Or.inr ⟨g', cap', cur, h0, hb, hst.at hgg, h3, h4, by simpa using h5, by simpa using h6⟩⟩
end Go.Proofs.YtffldampcbfgjaaGreatDoor
