/-
  tree.of, tree.levels: the iterator over the levels.
-/
import Derived.Test.YtmhejcndkplepaaDoorChk
import Derived.Test.YtmhejcndkplepaaDoorRfAt
import Derived.Test.YtmhejcndkplepaaDoorPlnTr
import Derived.Test.YtmhejcndkplepaaDoorRound
import Derived.Test.YtmhejcndkplepaaDoorDigE
import Derived.Lib.ItoaLen
namespace Go.Proofs.YtmhejcndkplepaaDoor
open Go.RowKit Go.Shelf
attribute [local go_sem] Oper.semAt_some

theorem joinL_cap (l : List (List UInt8)) (hn : l.length ≤ 1000000) (h : ∀ s ∈ l, s.length ≤ 1000000) : (joinL l).length ≤ 140737488355328 := by
  have key : ∀ l : List (List UInt8), (∀ s ∈ l, s.length ≤ 1000000) → (joinL l).length ≤ l.length * 1000022 := by
    intro l h
    induction l with
    | nil => simp [joinL]
    | cons s l ih =>
      have h1 := h s (by simp)
      have h2 : (Lib.decDigits s.length).length ≤ 21 := by have := Lib.itoa_length_le (s.length : Int) (by omega) (by omega); rwa [Lib.itoa_nonneg] at this
      have h3 := ih (fun x hx => h x (by simp [hx]))
      have h4 : (joinL (s :: l)).length = (joinE s).length + (joinL l).length := by simp [joinL]
      have h5 : (joinE s).length = (Lib.decDigits s.length).length + (s.length + 1) := by simp [joinE]
      have h6 : (s :: l).length = l.length + 1 := rfl
      rw [h4, h5, h6, Nat.add_mul]; omega
  have := key l h
  have : l.length * 1000022 ≤ 1000000 * 1000022 := Nat.mul_le_mul_right _ hn
  omega
theorem dlist_len (l : List (List UInt8)) : (dlist l).length = 16 := dsum_length _

theorem of_any (v : Value) (l : List (List UInt8)) (w : World) (hv : Strs w v l) (hn : l.length ≤ 1000000) (hl : ∀ s ∈ l, s.length ≤ 1000000) (hT : Tabs w) :
    Calls Tryd.prog 84 #[v] w fun e w' => e = .returned (.string ⟨(dlist l).toArray⟩) ∧ Below w.heap.size w w' := by
  obtain ⟨a, cap, rfl, hln, hf⟩ := hv.form
  go_enter Tryd.func84, Tryd.ntmps84
  go_wp2_with fail
  refine (list_any _ l w hv (joinL_cap l hn hl) hT).mono ?_
  rintro e w' ⟨rfl, hb⟩
  go_wp2_with fail
  go_ret
  exact ⟨rfl, hb⟩

theorem wpListIn_makeS {F : Fence} {n : Nat} {ops : Array Oper} {rest : List Oper} {o : Oper} {a : Act} {Q : Exit → Act → World → Prop} {w : World} (hg : o.guard = none) (l c : Operand)
    (hop : o.op = Op.makeSlice 22 l c) (k : Nat) (hl : a.eval l = .int .i64 (k : Int)) (hc : a.eval c = .int .i64 (k : Int)) (hk : k ≤ 1000000)
    (h : ∀ w', OwnS w.heap.size w' (.slice (some ⟨w.heap.size, 0, none⟩) k k) (List.replicate k []) → Fr [] w w' → wpListIn F n Tryd.prog ops Q rest (a.put o.dst (.slice (some ⟨w.heap.size, 0, none⟩) k k)) w') :
    wpListIn F n Tryd.prog ops Q (o :: rest) a w := by
  obtain ⟨i0, hi, hz0, hz1, hz2⟩ := info_parts sInfo
  refine wpListIn_plain hg fun K hK' => ?_
  obtain ⟨w', hrun, r1, r2⟩ := run_make_full (P := Tryd.prog) w w.heap.size 22 9 i0 (.string ⟨#[]⟩) 1 Tryd.underlying22 hi hz0 hz1 .i64 .i64 k (by rw [hz2]; omega) (by unfold maxLen; omega) (Nat.le_refl _)
  unfold Oper.wpIn
  refine ⟨?_, ?_⟩
  · simp [Oper.about, hop]
  · rw [Oper.semAt_plain F _ _ (by rw [hop]; intro c hc'; cases hc')]
    simp [execOp, hop, hl, hc, hrun, Result.andThen]
    refine hK' _ _ (h w' ?_ ((Fr.refl [] w).grown r2 (fun r e => by cases e)))
    have e : (madeCells (Value.string ⟨#[]⟩).cells (k * 1)).toList = List.replicate k (.string ⟨#[]⟩) := by rw [Nat.mul_one]; exact toList_madeCells_one _ _
    rw [e] at r1
    unfold OwnS
    rw [List.length_replicate, List.map_replicate]
    exact r1

theorem OwnS.formG {base : Nat} {w : World} {g n cap : Nat} {l : List (List UInt8)} (h : OwnS base w (.slice (some ⟨g, 0, none⟩) n cap) l) (hn : l.length = n) :
    ∃ cur, base ≤ g ∧ w.heap[g]? = some (.cells cur 9 (0, 0)) ∧ n ≤ cap ∧ cap ≤ maxLen ∧ cur.size = cap * 1 ∧ cur.toList.take (n * 1) = l.map strV := by
  rcases h.2 with ⟨h0, _⟩ | ⟨g', cap', cur, h0, hb, hg, h3, h4, h5, h6⟩
  · cases h0
  · subst hn
    cases h0
    exact ⟨cur, hb, hg, h3, h4, h5, h6⟩

def markD (D : Nat) : Deferred := { target := .collected D, args := #[] }
/-- The blocks of the marks lie as they were laid. -/
def Marks (B : Nat) (Ds : List Nat) (w : World) : Prop := Ds.Nodup ∧ ∀ D ∈ Ds, B ≤ D ∧ w.heap[D]? = some (.deferred (some []))
theorem Marks.fr {B : Nat} {Ds : List Nat} {w w' : World} (h : Marks B Ds w) (hf : Fr [] w w') : Marks B Ds w' := ⟨h.1, fun D hD => ⟨(h.2 D hD).1, hf.at (h.2 D hD).2 (by simp)⟩⟩
theorem Marks.keeps {B : Nat} {Ds : List Nat} {w w' : World} (h : Marks B Ds w) (hf : KeepsFrom B w w') : Marks B Ds w' := ⟨h.1, fun D hD => ⟨(h.2 D hD).1, hf.same D _ (h.2 D hD).1 (h.2 D hD).2 rfl⟩⟩
theorem Marks.new {B : Nat} {Ds : List Nat} {w w' : World} {D : Nat} (h : Marks B Ds w) (hf : Fr [] w w') (hD : w.heap.size ≤ D) (hB : B ≤ w.heap.size) (hd : w'.heap[D]? = some (.deferred (some []))) : Marks B (D :: Ds) w' := by
  refine ⟨List.nodup_cons.2 ⟨fun hm => ?_, h.1⟩, fun x hx => ?_⟩
  · have := (Array.getElem?_eq_some_iff.1 (h.2 D hm).2).1
    omega
  · rcases List.mem_cons.1 hx with rfl | hx
    · exact ⟨by omega, hd⟩
    · exact (h.fr hf).2 x hx
theorem leaves_marks {F : Fence} {n B : Nat} {P : Program} {fn : Func} {tmps : Array Value} {R : Ending → World → Prop} : ∀ (Ds : List Nat) (w : World), Marks B Ds w → (∀ w', Std B w w' → LeavesIn F n P fn tmps R [] .returning w') →
    LeavesInM F n P fn tmps R (Ds.map markD) .returning w
  | [], w, _, h => h w (Std.refl _ _)
  | D :: Ds, w, hm, h => by
    obtain ⟨hB, hd⟩ := hm.2 D (by simp)
    have hnd := List.nodup_cons.1 hm.1
    refine ⟨by simp, .inl ⟨D, _, rfl, run_takeDeferred hd, ?_⟩⟩
    have hst : Std B w (w.putObj D (.deferred none)) := Std.put _ hB hd rfl
    refine leaves_marks (B := B) Ds _ ⟨hnd.2, fun x hx => ⟨(hm.2 x (by simp [hx])).1, ?_⟩⟩ (fun w' h' => h w' (hst.trans h'))
    exact (World.putObj_heap_other (fun e => hnd.1 (by rw [← e]; exact hx))).trans (hm.2 x (by simp [hx])).2
theorem keepsOthers_fr1 {X : List Nat} {w w' : World} (hf : Fr X w w') (hx : ∀ x ∈ X, ∀ o, w.heap[x]? = some o → o.isCells = true) : KeepsOthers w w' :=
  ⟨hf.size, fun k o hk ho => by
    refine hf.at hk fun hm => ?_
    rw [hx k hm o hk] at ho; cases ho⟩
theorem KpC.fr {bs bn : Nat} {v : Value} {X : List Nat} {A B : World} (hf : Fr X A B) (h0 : bs ∉ X) (h1 : bn ∉ X) : KpC bs bn v A B := ⟨fun h => hf.at h h0, fun h => hf.at h h1⟩
theorem KpC.t {bs bn : Nat} {v : Value} {A B C : World} (h : KpC bs bn v A B) (k : KpC bs bn v B C) : KpC bs bn v A C := ⟨fun x => k.1 (h.1 x), fun x => k.2 (h.2 x)⟩
theorem KpC.b {bs bn : Nat} {v : Value} {w : World} (h0 : bs < w.heap.size) (h1 : bn < w.heap.size) (W : World) (l : Nat) (o o' : Obj) (hl : w.heap.size ≤ l) (_ : W.heap[l]? = some o) (_ : o.isCells = false) (_ : o.isWalk = false) : KpC bs bn v W (W.putObj l o') := by
  have hf : Fr [l] W (W.putObj l o') := (Fr.refl _ W).grown (grownBy_putObj' W l o') (fun r e => by cases e; simp)
  exact KpC.fr hf (by simp; omega) (by simp; omega)
/-- One element of the next level. -/
def chE (l : List (List UInt8)) (k : Nat) : List UInt8 := if 2 * k + 1 < l.length then nodeD (l.getD (2 * k) []) (l.getD (2 * k + 1) []) else l.getD (2 * k) []
theorem upL_map (l : List (List UInt8)) : upL l = (List.finRange ((l.length + 1) / 2)).map fun k => chE l k.val := by
  refine List.ext_getElem (by rw [upL_length]; simp) fun k h1 h2 => ?_
  rw [upL_length] at h1
  have := upL_at l k (by omega)
  rw [List.getD_eq_getElem?_getD, List.getElem?_eq_getElem (by rw [upL_length]; omega)] at this
  simp only [Option.getD_some] at this
  rw [this]
  simp [chE]
/-- The loop over the levels. -/
structure LvInv (J : List (Value × List (List UInt8)) → World → Prop) (W : World) (lvs : List (List (List UInt8))) (gh : Nat) (v : Value) (ds : List Deferred) (wr : World) (pre : List (Value × List (List UInt8))) (lv : List (List UInt8)) (W0 : World) (g cap : Nat) (Ds : List Nat) : Prop where
  hv : v = .slice (some ⟨g, 0, none⟩) lv.length cap
  gh : gh = lv.length
  small : lv.length ≤ 1000000
  short : ∀ s ∈ lv, s.length ≤ 1000000
  j : J pre W0
  wf : Fr [] W0 wr
  sz : W.heap.size ≤ W0.heap.size
  s : Strs wr v lv
  fresh : W0.heap.size ≤ g
  all : pre.map Prod.snd ++ levelsL lv = lvs
  ds : ds = Ds.map markD
  m : Marks W.heap.size Ds wr
  t : Tabs wr

set_option maxRecDepth 100000 in
set_option maxHeartbeats 4000000 in
theorem levels_at (m bs : Nat) (lv : Value) (leaves : List (List UInt8)) (w : World) (hm : 3 ≤ m) (hbs : w.heap[bs]? = some (.cells #[lv] 22 (0, 0))) (hlv : Strs w lv leaves) (hT : Tabs w)
    (hn : leaves.length ≤ 1000000) (hl : ∀ s ∈ leaves, s.length ≤ 1000000) :
    SeqAt Fence.wide m Tryd.prog 98 #[.pointer (some ⟨bs, 0, none⟩)] (fun xs => xs.map Prod.snd = levelsL (leaves.map leafD)) (fun xs => xs.map Prod.snd <+: levelsL (leaves.map leafD)) w := fun l J W hW hJ hY h0 => by
  have HLV := Lib.hid (hlv.fr0 (Fr.ofBelow hW))
  have hbW := (Fr.ofBelow (X := []) hW).at hbs (by simp)
  have HT := Lib.hid (hT.fr (Fr.ofBelow hW))
  obtain ⟨la, lcap, rfl, hll, hla⟩ := hlv.form
  have HBS := Lib.hid hbW
  have hcs := cell_of_one hbW
  have HY := Lib.hid hY
  have HJ := Lib.hid hJ
  have HN := Lib.hid hl
  clear hY hJ hbs hlv hT hW hl hbW
  refine callsIn_of_wp_marks Tryd.func98 rfl trivial ?_ rfl
  simp only [Tryd.ntmps98, List.size_toArray, List.length_cons, List.length_nil, Nat.reduceAdd, Nat.reduceSub, Array.replicate_succ, Array.replicate_zero, List.push_toArray, List.append_toArray, List.nil_append, List.cons_append]
  gi_wp2_with (gi_at_make; go_loud (refine wpListIn_makeS rfl (.tmp 9) (.tmp 9) rfl leaves.length rfl rfl hn ?_))
  intro w1 ho1 hf1
  have hcs1 := hf1.cell hcs (by simp)
  obtain ⟨g, hg⟩ : ∃ g, g = W.heap.size := ⟨_, rfl⟩
  have hO1 : OwnS g w1 (.slice (some ⟨g, 0, none⟩) leaves.length leaves.length) (List.replicate leaves.length []) := by rw [hg]; exact ho1
  have HO1 := Lib.hid hO1
  rw [← hg]
  have HG := Lib.hid hg
  clear ho1 hO1 hg
  have hsz1 : g < w1.heap.size := (let ⟨_, _, h, _⟩ := HO1.out.formG (by simp); lt_of_block h)
  gi_wp2_with fail
  gi_loopg [13] (leaves.length + 1) (fun gh i wr => ∃ k : Nat, k ≤ leaves.length ∧ gh = leaves.length + 1 - k ∧ i = .int .i64 (k : Int) ∧ OwnS g wr (.slice (some ⟨g, 0, none⟩) leaves.length leaves.length) ((leaves.take k).map leafD ++ List.replicate (leaves.length - k) []) ∧ Fr [] W wr)
  case atStart => exact ⟨0, by omega, by omega, rfl, by simpa using HO1.out, hf1⟩
  case round =>
    clear hcs1 hf1
    obtain ⟨k, hk, hgh, rfl, hok, hfr⟩ := hrel
    have HGH := Lib.hid hgh
    have HOK := Lib.hid hok
    clear hgh hok
    by_cases hlt : k < leaves.length
    · have t1 : decide ((k : Int) < (leaves.length : Int)) = true := by simp; omega
      obtain ⟨b, off, rfl⟩ := hla k hlt
      have cs := hfr.cell (HLV.out.cell k hlt) (by simp)
      have HM := Lib.hid (HN.out _ (getD_mem leaves k [] hlt))
      have HTK : Hid ((leaves.take (k + 1)).map leafD = (leaves.take k).map leafD ++ [leafD (leaves.getD k [])]) := Lib.hid (by rw [take_snoc' leaves k [] hlt, List.map_append]; rfl)
      generalize leaves.getD k [] = s at cs HM HTK
      have i0 : (0 : Int) ≤ (k : Int) := by omega
      have i1 : (k : Int) < (leaves.length : Int) := by omega
      have hA : Fr [] wr (wr.alloc (.cells #[.string ⟨#[108, 101, 97, 102]⟩, .string ⟨s.toArray⟩] 9)) := (Fr.refl [] wr).alloc _
      gi_wp2_with fail
      refine ⟨trivial, fun _ => by omega, (callsIn_wide.2 (of_any _ [leafB, s] _ (strs_two (heap_new rfl)) (by simp) (fun x hx => ?_) ((HT.out.fr hfr).fr hA))).mono ?_⟩
      · rcases List.mem_cons.1 hx with rfl | hx
        · simp [leafB]
        · obtain rfl : x = s := by simpa using hx
          exact HM.out
      rintro e w2 ⟨rfl, hb2⟩
      have hf2 : Fr [] W w2 := (hfr.trans hA (by simp)).below hb2 ((hfr.trans hA (by simp)).size)
      have hO2 := HOK.out.fr (hA.below hb2 hA.size) (by simp)
      obtain ⟨cur, q0, q1, q2, q3, q4, q5⟩ := hO2.formG (by simp; omega)
      have c1 := row_cell q1 k
      have c2 := row_free q1 k
      have hck : k < cur.size := by omega
      rw [Array.getElem?_eq_getElem hck] at c1
      have HO3 : Hid (OwnS g (w2.setCell ⟨g, k, none⟩ (.string ⟨(leafD s).toArray⟩)) (.slice (some ⟨g, 0, none⟩) leaves.length leaves.length) ((leaves.take (k + 1)).map leafD ++ List.replicate (leaves.length - (k + 1)) [])) := Lib.hid (by
        have := own_set q0 q1 q2 q3 q4 q5 (leafD s) (i := k)
        rw [HTK.out]
        rw [List.set_append_right _ _ (by simp; omega)] at this
        rw [show k - ((leaves.take k).map leafD).length = 0 by simp; omega, show leaves.length - k = (leaves.length - (k + 1)) + 1 by omega, List.replicate_succ, List.set_cons_zero] at this
        rw [List.append_assoc, List.singleton_append]
        exact this)
      have HF3 : Hid (Fr [] W (w2.setCell ⟨g, k, none⟩ (.string ⟨(leafD s).toArray⟩))) := Lib.hid (hf2.setCell _ _ (by right; rw [HG.out]; exact Nat.le_refl _))
      rw [show (dlist [leafB, s]) = leafD s from rfl]
      generalize leafD s = ls at HO3 HF3 HTK ⊢
      clear hO2 q0 q1 q2 q3 q4 q5 hb2 hf2 hA hfr
      gi_wp2_with fail
      gi_roundg (leaves.length + 1 - (k + 1))
      case measure => have := HGH.out; omega
      case rel => exact ⟨k + 1, by omega, rfl, by go_num, HO3.out, HF3.out⟩
    · obtain rfl : k = leaves.length := by omega
      have t1 : decide ((leaves.length : Int) < (leaves.length : Int)) = false := by simp
      gi_wp2_with fail
      have HI0 : Hid (LvInv J W (levelsL (leaves.map leafD)) leaves.length (.slice (some ⟨g, 0, none⟩) leaves.length leaves.length) [] wr [] (leaves.map leafD) W g leaves.length []) := Lib.hid (by
        have h1 := HOK.out
        rw [List.take_length, Nat.sub_self, List.replicate_zero, List.append_nil] at h1
        exact ⟨by rw [List.length_map], by rw [List.length_map], by rw [List.length_map]; exact hn, fun s hs => by obtain ⟨t, _, rfl⟩ := List.mem_map.1 hs; unfold leafD; rw [dlist_len]; decide,
          h0, hfr, Nat.le_refl _, h1.strs, by rw [HG.out]; exact Nat.le_refl _, rfl, rfl, ⟨List.nodup_nil, fun D hD => by cases hD⟩, HT.out.fr hfr⟩)
      clear HGH HOK HO1 HLV hsz1 t1 hk hlt h0
      refine wpIn_loop_ghost_k (fun gh a' wr => ∃ (ds : List Deferred) (u3 u6 u25 u26 u27 u28 u29 u30 u31 u32 u33 u34 u56 : Value), (∃ pre lv W0 g cap Ds, LvInv J W (levelsL (leaves.map leafD)) gh u3 ds wr pre lv W0 g cap Ds) ∧ a' = { tmps := #[Value.func (.yield l) #[] #[], .pointer (some ⟨bs, 0, none⟩), undef, u3, u4, u5, u6, undef, .slice la leaves.length lcap, .int .i64 (leaves.length : Int), .slice (some ⟨g, 0, none⟩) leaves.length leaves.length, .slice la leaves.length lcap, .int .i64 (leaves.length : Int), .int .i64 (leaves.length : Int), .bool false, u15, u16, u17, u18, u19, u20, u21, u22, u23, u24, u25, u26, u27, u28, u29, u30, u31, u32, u33, u34, undef, undef, undef, undef, undef, undef, undef, undef, undef, undef, undef, undef, undef, undef, undef, undef, undef, undef, undef, undef, undef, u56], defers := ds }) leaves.length ?_ ?_
      · exact ⟨_, _, _, _, _, _, _, _, _, _, _, _, _, _, ⟨_, _, _, _, _, _, HI0.out⟩, rfl⟩
      clear HI0 hfr
      intro gh _ wr2 hinv
      obtain ⟨ds, u3, u6, u25, u26, u27, u28, u29, u30, u31, u32, u33, u34, u56, hrel, ha⟩ := hinv
      subst ha
      dsimp only
      intro JJ KK hJJ hKK
      obtain ⟨pre, lv, W0, g2, cap2, Ds, hI⟩ := hrel
      have HI := Lib.hid hI
      obtain rfl := hI.hv
      obtain rfl := hI.ds
      obtain rfl := hI.gh
      have hsm := hI.small
      obtain ⟨lvx, elx⟩ : ∃ lvx, lvx = levelsL (leaves.map leafD) := ⟨_, rfl⟩
      have hpx : (pre ++ [(Value.slice (some ⟨g2, 0, none⟩) lv.length cap2, lv)]).map Prod.snd <+: levelsL (leaves.map leafD) := by
        rw [← hI.all, List.map_append]
        refine List.prefix_append_right_inj _ |>.2 ?_
        rw [levelsL.eq_def]
        split
        · exact ⟨_, rfl⟩
        · exact ⟨[], by simp⟩
      obtain ⟨fn, tmps, asg, bd, hy, hR⟩ := HY.out pre (Value.slice (some ⟨g2, 0, none⟩) lv.length cap2, lv) W0 wr2 hI.j (hI.wf.std _) ⟨hI.s, fun k hk => by cases hk; exact hI.fresh⟩ hpx
      dsimp only at hy
      have HR := Lib.hid hR
      clear hI hR hpx
      gi_wp2_with fail
      refine ⟨fun _ => by omega, HR.out.mono ?_⟩
      rintro e w3 ⟨rfl, hJ3, hkp⟩
      have HJ3 := Lib.hid hJ3
      have HM3 := Lib.hid (HI.out.m.keeps hkp.fr)
      have HS3 := Lib.hid (hkp.x HI.out.s)
      have HT3 := Lib.hid (hkp.t HI.out.t)
      have hW3 : W.heap.size ≤ w3.heap.size := Nat.le_trans HI.out.sz (Nat.le_trans HI.out.wf.size hkp.fr.size)
      clear hJ3 hkp HR hy
      by_cases h1 : 1 < lv.length
      · have t2 : decide ((1 : Int) < (lv.length : Int)) = true := by simp; omega
        gi_wp2_with fail
        refine ⟨trivial, fun _ => by omega, (callsIn_wide.2 (chunk_any _ _ _ _)).mono ?_⟩
        rintro e w' ⟨rfl, rfl⟩
        obtain ⟨nb, enb⟩ : ∃ nb, nb = w3.heap.size := ⟨_, rfl⟩
        obtain ⟨W4, hW4⟩ : ∃ W4, W4 = ((w3.alloc (.cells #[.slice none 0 0] 22)).alloc (.cells #[.slice (some ⟨g2, 0, none⟩) lv.length cap2] 22)).alloc (.cells #[.int .i64 2] 3) := ⟨_, rfl⟩
        have hsz4 : W4.heap.size = nb + 3 := by rw [hW4, enb]; simp
        have hf34 : Fr [] w3 W4 := by rw [hW4]; exact (((Fr.refl [] w3).alloc _).alloc _).alloc _
        have hbn0 : Boxed W4 nb 22 (.slice none 0 0) := by rw [hW4, enb]; exact heap_past _ (heap_past _ (heap_new rfl))
        have hb1 : W4.heap[nb + 1]? = some (.cells #[.slice (some ⟨g2, 0, none⟩) lv.length cap2] 22 (0, 0)) := by rw [hW4, enb]; exact heap_past _ (heap_new (by simp))
        have hb2 : W4.heap[nb + 1 + 1]? = some (.cells #[.int .i64 2] 3 (0, 0)) := by rw [hW4, enb]; exact heap_new (by simp)
        obtain ⟨hcap, hc9⟩ : lv.length ≤ cap2 ∧ cap2 ≤ 9223372036854775807 := by
          rcases HS3.out with ⟨h, _⟩ | ⟨_, _, _, h, h1, h2, _⟩
          · cases h
          · cases h; exact ⟨h1, h2⟩
        have hg2 : g2 < w3.heap.size := by
          rcases HS3.out with ⟨h, _⟩ | ⟨_, _, _, h, _, _, h3, _⟩
          · cases h
          · cases h; exact h3
        simp only [World.size_alloc]
        rw [← hW4, ← enb]
        have HSH := Lib.hid HI.out.short
        have HAL := Lib.hid HI.out.all
        have HNB := Lib.hid enb
        clear hW4 enb
        gi_wp2_with fail
        have hnb3 : nb = w3.heap.size := HNB.out
        clear HNB
        refine wpIn_rangeFunc_ownF rfl (by omega) (gf := 113) (lb := #[.pointer (some ⟨nb + 1, 0, none⟩), .pointer (some ⟨nb + 1 + 1, 0, none⟩)]) rfl trivial (enters_of Tryd.func113 (by kernel_rfl) rfl)
          (chunk_stops (m - 1) (nb + 1) (nb + 1 + 1) g2 0 lv.length cap2 W4 (by omega) hsm hcap hc9 hb1 hb2) KpC.t (KpC.b (by omega) (by omega)) (Below.refl _ _) (fun _ => rfl)
          (fun pre2 V => (∃ nv, Boxed V nb 22 nv ∧ OwnS W4.heap.size V nv (pre2.map fun k => chE lv k.val)) ∧ Fr [] w3 V ∧ W4.heap.size ≤ V.heap.size)
          (fun _ _ _ => False)
          ?own (fun _ _ _ _ _ hs _ _ => hs)
          ⟨⟨_, hbn0, ⟨by simp, Or.inl ⟨rfl, rfl⟩⟩⟩, hf34, Nat.le_refl _⟩
          (fun x => { tmps := #[Value.func (.yield l) #[] #[], .pointer (some ⟨bs, 0, none⟩), undef, .slice (some ⟨g2, 0, none⟩) lv.length cap2, u4, u5, .pointer (some ⟨nb, 0, none⟩), .slice (some ⟨g2, 2 * x.val, none⟩) (chl lv.length x.val) (chl lv.length x.val), .slice la leaves.length lcap, .int .i64 (leaves.length : Int), .slice (some ⟨g, 0, none⟩) leaves.length leaves.length, .slice la leaves.length lcap, .int .i64 (leaves.length : Int), .int .i64 (leaves.length : Int), .bool false, u15, u16, u17, u18, u19, u20, u21, u22, u23, u24, .func (.yield l) #[] #[], .slice (some ⟨g2, 0, none⟩) lv.length cap2, .bool true, .bool true, .slice (some ⟨g2, 0, none⟩) lv.length cap2, .int .i64 (lv.length : Int), .bool true, .bool true, .slice (some ⟨g2, 0, none⟩) lv.length cap2, .func (.func 113) #[] #[.pointer (some ⟨nb + 1, 0, none⟩), .pointer (some ⟨nb + 1 + 1, 0, none⟩)], .slice (some ⟨g2, 2 * x.val, none⟩) (chl lv.length x.val) (chl lv.length x.val), undef, undef, undef, undef, undef, undef, undef, undef, undef, undef, undef, undef, undef, undef, undef, undef, undef, undef, undef, undef, u56], defers := [] }) ?assign ?body ?done ?stop
        case own =>
          rintro pre2 A B row ⟨⟨nv, hv, ho⟩, hfr, hsA⟩ hg hr
          have hne : ∀ b o, A.heap[b]? = some o → o.isCells = true → some b ≠ row := fun b o hb ho e => by
            obtain ⟨_, o', ho', hc⟩ := hr b e.symm
            rw [hb] at ho'; cases ho'; rw [ho] at hc; cases hc
          refine ⟨⟨nv, hv.kept hg (hne _ _ hv rfl), ho.kept hg ?_⟩, hfr.grown hg (fun r e => Or.inr (by have := (hr r e).1; omega)), Nat.le_trans hsA hg.size⟩
          rcases ho.2 with ⟨rfl, _⟩ | ⟨g', cap', cur', rfl, _, hgb, _⟩
          · exact .inl rfl
          · exact .inr (hne _ _ hgb rfl)
        case assign =>
          clear hnb3
          intro l' x V K hK
          dsimp only [encsC]
          simp only [Nat.zero_add]
          gi_wp2
          exact hK
        case body =>
          rintro l' pre2 x V ⟨⟨nv, hv, ho⟩, hfr, hsV⟩ hlen
          have hmx : Tryd.prog.follows .mixedOrders = true := by kernel_rfl
          have HNB := Lib.hid hnb3
          clear hnb3
          have hx2 := x.2
          have hcv := hv.cell
          have hfv := hv.frozen
          have HV := Lib.hid hv
          have HO := Lib.hid ho
          clear hv ho
          have hls := HS3.out.fr0 hfr
          obtain ⟨y, ey⟩ : ∃ y, 2 * x.val = y := ⟨_, rfl⟩
          have hy1 : y < lv.length := by omega
          have cs0 := hls.cell y hy1
          rw [Nat.zero_add] at cs0
          have HCH : Hid (chE lv x.val = if y + 1 < lv.length then nodeD (lv.getD y []) (lv.getD (y + 1) []) else lv.getD y []) := Lib.hid (by unfold chE; rw [ey])
          have hsa := HSH.out _ (getD_mem lv y [] hy1)
          rw [ey]
          by_cases h2 : y + 1 < lv.length
          · have hd : chl lv.length x.val = 2 := by unfold chl; omega
            have cs1 := hls.cell (y + 1) h2
            rw [Nat.zero_add] at cs1
            have hsb := HSH.out _ (getD_mem lv (y + 1) [] h2)
            rw [if_pos h2] at HCH
            rw [hd]
            generalize lv.getD y [] = sa at cs0 HCH hsa
            generalize lv.getD (y + 1) [] = sb at cs1 HCH hsb
            clear hd hls hx2
            have EY := Lib.hid ey
            clear ey
            gi_wp2_with fail
            have hS0 : V.drew.cell? ⟨nb, 0, none⟩ = some nv ∧ V.drew.cell? ⟨g2, y, none⟩ = some (.string ⟨sa.toArray⟩) ∧ V.drew.cell? ⟨g2, y + 1, none⟩ = some (.string ⟨sb.toArray⟩) := ⟨hcv, cs0, cs1⟩
            refine regionIn_held 11 (fun W' => W'.cell? ⟨nb, 0, none⟩ = some nv ∧ W'.cell? ⟨g2, y, none⟩ = some (.string ⟨sa.toArray⟩) ∧ W'.cell? ⟨g2, y + 1, none⟩ = some (.string ⟨sb.toArray⟩)) hmx (by kernel_rfl) ?_
            change Held _ _ _ _ _ _ 12 (Array.replicate 12 false) _ _
            refine hd_take 0 (v := nv) rfl (by kernel_rfl) (by kernel_rfl) (by kernel_rfl) rfl hS0 (fun W' hS => by obtain ⟨h0, h1, h2⟩ := hS; first | (go_simp; done) | (go_simp; intro hix; omega)) rfl ?_
            refine hd_take 1 (v := .slice (some ⟨g2, y, none⟩) 2 2) rfl (by kernel_rfl) (by kernel_rfl) (by kernel_rfl) rfl hS0 (fun W' hS => by first | (go_simp; done) | (go_simp; intro hix; omega)) rfl ?_
            refine hd_take 4 (v := .slice (some ⟨g2, y, none⟩) 2 2) rfl (by kernel_rfl) (by kernel_rfl) (by kernel_rfl) rfl hS0 (fun W' hS => by first | (go_simp; done) | (go_simp; intro hix; omega)) rfl ?_
            simp only [Act.put, List.setIfInBounds_toArray, List.set_cons_zero, List.set_cons_succ]
            refine hd_take 2 (v := .pointer (some ⟨g2, y, none⟩)) rfl (by kernel_rfl) (by kernel_rfl) (by kernel_rfl) rfl hS0 (fun W' hS => by first | (go_simp; done) | (go_simp; intro hix; omega)) rfl ?_
            refine hd_take 5 (v := .pointer (some ⟨g2, y + 1, none⟩)) rfl (by kernel_rfl) (by kernel_rfl) (by kernel_rfl) rfl hS0 (fun W' hS => by first | (go_simp; done) | (go_simp; intro hix; omega)) rfl ?_
            simp only [Act.put, List.setIfInBounds_toArray, List.set_cons_zero, List.set_cons_succ]
            refine hd_take 3 (v := .string ⟨sa.toArray⟩) rfl (by kernel_rfl) (by kernel_rfl) (by kernel_rfl) rfl hS0 (fun W' hS => by obtain ⟨h0, h1, h2⟩ := hS; first | (go_simp; done) | (go_simp; intro hix; omega)) rfl ?_
            refine hd_take 6 (v := .string ⟨sb.toArray⟩) rfl (by kernel_rfl) (by kernel_rfl) (by kernel_rfl) rfl hS0 (fun W' hS => by obtain ⟨h0, h1, h2⟩ := hS; first | (go_simp; done) | (go_simp; intro hix; omega)) rfl ?_
            simp only [Act.put, List.setIfInBounds_toArray, List.set_cons_zero, List.set_cons_succ]
            have hV0 : Fr [] V V.drew := (Fr.refl [] V).drew
            refine hd_one 7 (by kernel_rfl) rfl (by kernel_rfl) rfl (fun K' hK => ?_)
            go_simp
            have hV1 : Fr [] V (V.drew.alloc (.cells #[.string ⟨#[110, 111, 100, 101]⟩, .string ⟨sa.toArray⟩, .string ⟨sb.toArray⟩] 9)) := hV0.alloc _
            refine hK.out _ _ (fun _ => ⟨hV1.cell hcv (by simp), hV1.cell cs0 (by simp), hV1.cell cs1 (by simp)⟩) ?_
            clear hK K'
            refine hd_one 8 (by kernel_rfl) rfl (by kernel_rfl) rfl (fun K' hK => ?_)
            go_simp
            refine (of_any _ [nodeB, sa, sb] _ (strs_three (heap_new rfl)) (by simp) (fun x hx => ?_) (HT3.out.fr (hfr.trans hV1 (by simp)))).mono ?_
            · rcases List.mem_cons.1 hx with rfl | hx
              · simp [nodeB]
              · rcases List.mem_cons.1 hx with rfl | hx
                · exact hsa
                · rw [List.mem_singleton.1 hx]; exact hsb
            rintro e w5 ⟨rfl, hb5⟩
            have hV2 : Fr [] V w5 := hV1.below hb5 hV1.size
            rw [show dlist [nodeB, sa, sb] = nodeD sa sb from rfl]
            refine hK.out _ _ (fun _ => ⟨hV2.cell hcv (by simp), hV2.cell cs0 (by simp), hV2.cell cs1 (by simp)⟩) ?_
            clear hK K' hV1 hb5
            generalize nodeD sa sb = sc at HCH ⊢
            refine hd_one 9 (by kernel_rfl) rfl (by kernel_rfl) rfl (fun K' hK => ?_)
            go_simp
            have hV3 : Fr [] V (w5.alloc (.cells #[.string ⟨sc.toArray⟩] 9)) := hV2.alloc _
            refine hK.out _ _ (fun _ => ⟨hV3.cell hcv (by simp), hV3.cell cs0 (by simp), hV3.cell cs1 (by simp)⟩) ?_
            clear hK K' hV3
            refine hd_one 10 (by kernel_rfl) rfl (by kernel_rfl) rfl (fun K' hK => ?_)
            refine wp_appS (.tmp 39) (.tmp 48) rfl W4.heap.size nv _ sc w3 rfl rfl (HO.out.fr hV2 (by simp)) (hfr.trans hV2 (by simp)) (by have := HNB.out; omega) (Nat.le_trans hsV hV2.size) (by simp; omega) ?_
            rintro v' w7 ⟨g9, c9, hv9⟩ hO7 hF7 hG7
            rw [List.length_map] at hv9
            subst hv9
            have hown : ∀ k, nv.ownBlock = some k → W4.heap.size ≤ k ∧ ∀ o, V.heap[k]? = some o → o.isCells = true := ownBlock_cells HO.out
            have hnn : ∀ k, k < W4.heap.size → k ∉ nv.ownBlock.toList := fun k hk hm => by have := (hown k (by simpa using hm)).1; omega
            have hV7 : Boxed w7 nb 22 nv := hG7.at (hV2.at HV.out (by simp)) (hnn nb (by omega))
            have hcv7 := hV7.cell
            have hfv7 := hV7.frozen
            have cs07 := hF7.cell (HS3.out.cell y hy1) (by simp)
            refine hK.out _ _ (fun _ => ⟨hcv7, hG7.cell (hV2.cell cs0 (by simp)) (hnn g2 (by have := HNB.out; omega)), hG7.cell (hV2.cell cs1 (by simp)) (hnn g2 (by have := HNB.out; omega))⟩) ?_
            clear hK K' cs07
            refine hd_one 11 (by kernel_rfl) rfl (by kernel_rfl) rfl (fun K' hK => ?_)
            go_simp
            refine hK.out _ _ (fun h => absurd rfl h) ?_
            clear hK K'
            refine held_done (by kernel_rfl) ?_
            have hall : Fr (nb :: nv.ownBlock.toList) V (w7.setCell ⟨nb, 0, none⟩ (.slice (some ⟨g9, 0, none⟩) (pre2.length + 1) c9)) := ((hV2.mono (by simp)).trans hG7 (fun k hk => Or.inl (by simp at hk ⊢; exact Or.inr hk))).setCell _ _ (by simp)
            have HKO : Hid (KeepsOthers V (w7.setCell ⟨nb, 0, none⟩ (.slice (some ⟨g9, 0, none⟩) (pre2.length + 1) c9))) := Lib.hid (keepsOthers_fr1 hall (fun k hk o ho => by
                rcases List.mem_cons.1 hk with rfl | hk
                · rw [show V.heap[k]? = _ from HV.out] at ho; cases ho; rfl
                · exact (hown k (by simpa using hk)).2 o ho))
            have HKC : Hid (KpC (nb + 1) (nb + 1 + 1) (.slice (some ⟨g2, 0, none⟩) lv.length cap2) V (w7.setCell ⟨nb, 0, none⟩ (.slice (some ⟨g9, 0, none⟩) (pre2.length + 1) c9))) := Lib.hid (KpC.fr hall (fun hk => by
                rcases List.mem_cons.1 hk with h | hk
                · omega
                · exact hnn _ (by omega) hk) (fun hk => by
                rcases List.mem_cons.1 hk with h | hk
                · omega
                · exact hnn _ (by omega) hk))
            have HBX : Hid (Boxed (w7.setCell ⟨nb, 0, none⟩ (.slice (some ⟨g9, 0, none⟩) (pre2.length + 1) c9)) nb 22 (.slice (some ⟨g9, 0, none⟩) (pre2.length + 1) c9)) := Lib.hid (hV7.set _)
            have HOX : Hid (OwnS W4.heap.size (w7.setCell ⟨nb, 0, none⟩ (.slice (some ⟨g9, 0, none⟩) (pre2.length + 1) c9)) (.slice (some ⟨g9, 0, none⟩) (pre2.length + 1) c9) ((pre2 ++ [x]).map fun k => chE lv k.val)) := Lib.hid (by
                rw [List.map_append, List.map_singleton, HCH.out]
                exact hO7.fr ((Fr.refl [nb] w7).setCell _ _ (by simp)) (fun k hk hm => by
                  have := (ownBlock_cells hO7 k hk).1
                  simp at hm; omega))
            have HFX : Hid (Fr [] w3 (w7.setCell ⟨nb, 0, none⟩ (.slice (some ⟨g9, 0, none⟩) (pre2.length + 1) c9))) := Lib.hid (hF7.setCell _ _ (by right; have := HNB.out; simp only; omega))
            have hsz7 : W4.heap.size ≤ (w7.setCell ⟨nb, 0, none⟩ (.slice (some ⟨g9, 0, none⟩) (pre2.length + 1) c9)).heap.size := Nat.le_trans hsV hall.size
            clear hall hown hnn hV7 hcv7 hfv7 hO7 hF7 hG7 hcv hfv cs0 cs1
            gi_wp2_with fail
            exact ⟨HKO.out, HKC.out, ⟨_, HBX.out, HOX.out⟩, HFX.out, hsz7⟩
          · have hd : chl lv.length x.val = 1 := by unfold chl; omega
            rw [if_neg h2] at HCH
            rw [hd]
            generalize lv.getD y [] = sa at cs0 HCH hsa
            clear hd hls hx2
            have EY := Lib.hid ey
            clear ey
            gi_wp2_with fail
            have hS0 : V.drew.cell? ⟨nb, 0, none⟩ = some nv ∧ V.drew.cell? ⟨g2, y, none⟩ = some (.string ⟨sa.toArray⟩) := ⟨hcv, cs0⟩
            refine regionIn_held 6 (fun W' => W'.cell? ⟨nb, 0, none⟩ = some nv ∧ W'.cell? ⟨g2, y, none⟩ = some (.string ⟨sa.toArray⟩)) hmx (by kernel_rfl) ?_
            change Held _ _ _ _ _ _ 7 (Array.replicate 7 false) _ _
            refine hd_take 0 (v := nv) rfl (by kernel_rfl) (by kernel_rfl) (by kernel_rfl) rfl hS0 (fun W' hS => by obtain ⟨h0, h1⟩ := hS; first | (go_simp; done) | (go_simp; intro hix; omega)) rfl ?_
            refine hd_take 1 (v := .slice (some ⟨g2, y, none⟩) 1 1) rfl (by kernel_rfl) (by kernel_rfl) (by kernel_rfl) rfl hS0 (fun W' hS => by first | (go_simp; done) | (go_simp; intro hix; omega)) rfl ?_
            simp only [Act.put, List.setIfInBounds_toArray, List.set_cons_zero, List.set_cons_succ]
            refine hd_take 2 (v := .pointer (some ⟨g2, y, none⟩)) rfl (by kernel_rfl) (by kernel_rfl) (by kernel_rfl) rfl hS0 (fun W' hS => by first | (go_simp; done) | (go_simp; intro hix; omega)) rfl ?_
            simp only [Act.put, List.setIfInBounds_toArray, List.set_cons_zero, List.set_cons_succ]
            refine hd_take 3 (v := .string ⟨sa.toArray⟩) rfl (by kernel_rfl) (by kernel_rfl) (by kernel_rfl) rfl hS0 (fun W' hS => by obtain ⟨h0, h1⟩ := hS; first | (go_simp; done) | (go_simp; intro hix; omega)) rfl ?_
            simp only [Act.put, List.setIfInBounds_toArray, List.set_cons_zero, List.set_cons_succ]
            have hV0 : Fr [] V V.drew := (Fr.refl [] V).drew
            obtain ⟨w5, hw5⟩ : ∃ w5, w5 = V.drew := ⟨_, rfl⟩
            rw [← hw5]
            have hV2 : Fr [] V w5 := by rw [hw5]; exact hV0
            clear hw5 hS0
            rw [show sa = sa from rfl]
            refine hd_one 4 (by kernel_rfl) rfl (by kernel_rfl) rfl (fun K' hK => ?_)
            go_simp
            have hV3 : Fr [] V (w5.alloc (.cells #[.string ⟨sa.toArray⟩] 9)) := hV2.alloc _
            refine hK.out _ _ (fun _ => ⟨hV3.cell hcv (by simp), hV3.cell cs0 (by simp)⟩) ?_
            clear hK K' hV3
            refine hd_one 5 (by kernel_rfl) rfl (by kernel_rfl) rfl (fun K' hK => ?_)
            refine wp_appS (.tmp 50) (.tmp 54) rfl W4.heap.size nv _ sa w3 rfl rfl (HO.out.fr hV2 (by simp)) (hfr.trans hV2 (by simp)) (by have := HNB.out; omega) (Nat.le_trans hsV hV2.size) (by simp; omega) ?_
            rintro v' w7 ⟨g9, c9, hv9⟩ hO7 hF7 hG7
            rw [List.length_map] at hv9
            subst hv9
            have hown : ∀ k, nv.ownBlock = some k → W4.heap.size ≤ k ∧ ∀ o, V.heap[k]? = some o → o.isCells = true := ownBlock_cells HO.out
            have hnn : ∀ k, k < W4.heap.size → k ∉ nv.ownBlock.toList := fun k hk hm => by have := (hown k (by simpa using hm)).1; omega
            have hV7 : Boxed w7 nb 22 nv := hG7.at (hV2.at HV.out (by simp)) (hnn nb (by omega))
            have hcv7 := hV7.cell
            have hfv7 := hV7.frozen
            have cs07 := hF7.cell (HS3.out.cell y hy1) (by simp)
            refine hK.out _ _ (fun _ => ⟨hcv7, hG7.cell (hV2.cell cs0 (by simp)) (hnn g2 (by have := HNB.out; omega))⟩) ?_
            clear hK K' cs07
            refine hd_one 6 (by kernel_rfl) rfl (by kernel_rfl) rfl (fun K' hK => ?_)
            go_simp
            refine hK.out _ _ (fun h => absurd rfl h) ?_
            clear hK K'
            refine held_done (by kernel_rfl) ?_
            have hall : Fr (nb :: nv.ownBlock.toList) V (w7.setCell ⟨nb, 0, none⟩ (.slice (some ⟨g9, 0, none⟩) (pre2.length + 1) c9)) := ((hV2.mono (by simp)).trans hG7 (fun k hk => Or.inl (by simp at hk ⊢; exact Or.inr hk))).setCell _ _ (by simp)
            have HKO : Hid (KeepsOthers V (w7.setCell ⟨nb, 0, none⟩ (.slice (some ⟨g9, 0, none⟩) (pre2.length + 1) c9))) := Lib.hid (keepsOthers_fr1 hall (fun k hk o ho => by
                rcases List.mem_cons.1 hk with rfl | hk
                · rw [show V.heap[k]? = _ from HV.out] at ho; cases ho; rfl
                · exact (hown k (by simpa using hk)).2 o ho))
            have HKC : Hid (KpC (nb + 1) (nb + 1 + 1) (.slice (some ⟨g2, 0, none⟩) lv.length cap2) V (w7.setCell ⟨nb, 0, none⟩ (.slice (some ⟨g9, 0, none⟩) (pre2.length + 1) c9))) := Lib.hid (KpC.fr hall (fun hk => by
                rcases List.mem_cons.1 hk with h | hk
                · omega
                · exact hnn _ (by omega) hk) (fun hk => by
                rcases List.mem_cons.1 hk with h | hk
                · omega
                · exact hnn _ (by omega) hk))
            have HBX : Hid (Boxed (w7.setCell ⟨nb, 0, none⟩ (.slice (some ⟨g9, 0, none⟩) (pre2.length + 1) c9)) nb 22 (.slice (some ⟨g9, 0, none⟩) (pre2.length + 1) c9)) := Lib.hid (hV7.set _)
            have HOX : Hid (OwnS W4.heap.size (w7.setCell ⟨nb, 0, none⟩ (.slice (some ⟨g9, 0, none⟩) (pre2.length + 1) c9)) (.slice (some ⟨g9, 0, none⟩) (pre2.length + 1) c9) ((pre2 ++ [x]).map fun k => chE lv k.val)) := Lib.hid (by
                rw [List.map_append, List.map_singleton, HCH.out]
                exact hO7.fr ((Fr.refl [nb] w7).setCell _ _ (by simp)) (fun k hk hm => by
                  have := (ownBlock_cells hO7 k hk).1
                  simp at hm; omega))
            have HFX : Hid (Fr [] w3 (w7.setCell ⟨nb, 0, none⟩ (.slice (some ⟨g9, 0, none⟩) (pre2.length + 1) c9))) := Lib.hid (hF7.setCell _ _ (by right; have := HNB.out; simp only; omega))
            have hsz7 : W4.heap.size ≤ (w7.setCell ⟨nb, 0, none⟩ (.slice (some ⟨g9, 0, none⟩) (pre2.length + 1) c9)).heap.size := Nat.le_trans hsV hall.size
            clear hall hown hnn hV7 hcv7 hfv7 hO7 hF7 hG7 hcv hfv cs0
            gi_wp2_with fail
            exact ⟨HKO.out, HKC.out, ⟨_, HBX.out, HOX.out⟩, HFX.out, hsz7⟩
        case done =>
          rintro D xs V hD rfl ⟨⟨nv, hv, ho⟩, hfr, hsV⟩ hK
          have hcv := hv.cell
          have HNB := Lib.hid hnb3
          rw [← upL_map] at ho
          have HUL : Hid ((upL lv).length = lv.length - lv.length / 2) := Lib.hid (by rw [upL_length]; omega)
          obtain ⟨g5, cap5, rfl⟩ := ho.slice rfl (by rw [HUL.out]; omega)
          have HO5 := Lib.hid ho
          have HM5 := Lib.hid (HM3.out.new hfr (D := D) (by omega) (by omega) hK)
          have HI5 : Hid (LvInv J W (levelsL (leaves.map leafD)) (upL lv).length (.slice (some ⟨g5, 0, none⟩) (upL lv).length cap5) ((D :: Ds).map markD) V (pre ++ [(Value.slice (some ⟨g2, 0, none⟩) lv.length cap2, lv)]) (upL lv) w3 g5 cap5 (D :: Ds)) := Lib.hid
            ⟨rfl, rfl, by rw [HUL.out]; omega, fun s hs => by
                rw [upL_map] at hs
                obtain ⟨k, _, rfl⟩ := List.mem_map.1 hs
                unfold chE
                split
                · unfold nodeD; rw [dlist_len]; decide
                · exact HSH.out _ (getD_mem _ _ _ (by have := k.2; omega)), HJ3.out, hfr, hW3, HO5.out.strs, by have := (ownBlock_cells HO5.out g5 rfl).1; omega,
              by rw [← HAL.out, List.map_append, List.append_assoc]; congr 1; conv => rhs; rw [levelsL.eq_def, if_pos h1]
                 rfl, rfl, HM5.out, HT3.out.fr hfr⟩
          clear ho hnb3
          gi_wp2_with fail
          gi_roundg (upL lv).length
          case measure => rw [HUL.out]; omega
          case rel => exact ⟨_, _, _, _, _, _, HI5.out⟩
        case stop =>
          rintro D c pre V _ _ h _
          exact h.elim
      · have t2 : decide ((1 : Int) < (lv.length : Int)) = false := by simp; omega
        have HFI : Hid ((pre ++ [(Value.slice (some ⟨g2, 0, none⟩) lv.length cap2, lv)]).map Prod.snd = levelsL (leaves.map leafD)) := Lib.hid (by
          rw [← HI.out.all, List.map_append, levelsL.eq_def lv, if_neg h1]; rfl)
        gi_wp2_with fail
        refine leaves_marks (B := W.heap.size) Ds w3 HM3.out (fun w' hst => ?_)
        exact ⟨_, results_none rfl _ _ _, ⟨_, rfl⟩, _, HFI.out, HJ.out _ _ _ HJ3.out hst⟩
end Go.Proofs.YtmhejcndkplepaaDoor
