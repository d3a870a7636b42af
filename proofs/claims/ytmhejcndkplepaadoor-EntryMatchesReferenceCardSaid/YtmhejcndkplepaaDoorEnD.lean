/-
  entry.Parse.
-/
import Derived.Test.YtmhejcndkplepaaDoorEnC
import Derived.Test.YtmhejcndkplepaaDoorTab
import Derived.Shelf.Vars
namespace Go.Proofs.YtmhejcndkplepaaDoor
open Go.RowKit

/-- The tables, and the variable that strings.Cut asks for. -/
structure TabsM (w : World) : Prop where
  t : Tabs w
  m : ∃ m, w.cell? ⟨1, 0, none⟩ = some (.int .i64 m)
theorem TabsM.fr {w w' : World} (h : TabsM w) (hf : Fr [] w w') : TabsM w' := ⟨h.t.fr hf, let ⟨m, hm⟩ := h.m; ⟨m, hf.cell hm (by simp)⟩⟩
theorem TabsM.fr1 {w w' : World} {b : Nat} (h : TabsM w) (hf : Fr [b] w w') (h0 : 1 ≠ b) : ∃ m, w'.cell? ⟨1, 0, none⟩ = some (.int .i64 m) := let ⟨m, hm⟩ := h.m; ⟨m, hf.cell hm (by simpa using h0)⟩
theorem tabsM_of {w : World} (hT : Tabs w) (h : w.ShapedOpen Tryd.prog) : TabsM w :=
  ⟨hT, Go.Proofs.cell_of_shapedOpen_int (zero := #[.int .i64 0]) (t := 3) h (of_decide_eq_true (by kernel_rfl)) (by kernel_rfl) rfl (by kernel_rfl) (by kernel_rfl) Tryd.underlying3⟩
def cutW (t : List UInt8) : List UInt8 := (Lib.cut t [32]).1
def cutR (t : List UInt8) : List UInt8 := (Lib.cut t [32]).2.1

theorem enters_next : ∀ args w, (callFunc 66 args).run Tryd.prog w = .ok (.enter 66 args) w := enters_of Tryd.func66 (by kernel_rfl) rfl
set_option maxRecDepth 100000 in
set_option maxHeartbeats 2000000 in
theorem next_any (b : Nat) (t : List UInt8) (w : World) (ht : t.length ≤ 1000000) (hb : w.heap[b]? = some (.cells #[.string ⟨t.toArray⟩] 9 (0, 0))) (hm : ∃ m, w.cell? ⟨1, 0, none⟩ = some (.int .i64 m)) :
    Calls Tryd.prog 66 #[.pointer (some ⟨b, 0, none⟩)] w fun e w' => e = .returned (.string ⟨(cutW t).toArray⟩) ∧ w'.heap[b]? = some (.cells #[.string ⟨(cutR t).toArray⟩] 9 (0, 0)) ∧ Fr [b] w w' := by
  obtain ⟨m, hm⟩ := hm
  have c0 := cell_of_one hb
  have HB := Lib.hid hb
  have HM := Lib.hid hm
  clear hb hm
  go_enter Tryd.func66, Tryd.ntmps66
  go_wp2_with fail
  refine (Tryd.strings_Cut ⟨t.toArray⟩ ⟨#[32]⟩ m w (by rw [ba_size]; omega) HM.out).mono ?_
  rintro e w1 ⟨rfl, n, rfl⟩
  have hf : Fr [] w (w.drewN n) := (Fr.refl [] w).drewN n
  have hB := hf.at HB.out (by simp)
  have HR := Lib.hid (one_setCell (u := .string ⟨(cutR t).toArray⟩) hB)
  have HF := Lib.hid (((Fr.refl [b] w).drewN n).setCell ⟨b, 0, none⟩ (.string ⟨(cutR t).toArray⟩) (by simp))
  have d0 := free_of_one hB
  clear hf hB
  rw [show (ByteArray.mk t.toArray).data.toList = t from by simp, show (ByteArray.mk #[32]).data.toList = [32] from rfl]
  rw [show (Lib.cut t [32]).1 = cutW t from rfl, show (Lib.cut t [32]).2.1 = cutR t from rfl]
  generalize (Lib.cut t [32]).2.2 = fb
  go_wp2_with fail
  go_ret
  exact ⟨rfl, HR.out, HF.out⟩

def splitS (t : List UInt8) : Pty := ⟨cutW t, cutW (cutR t), cutW (cutR (cutR t))⟩
def noE : Pty := ⟨[], [], []⟩
def parseS (t : List UInt8) : Pty × Int := if textS (splitS t) = [] ∨ textS (splitS t) ≠ t then (noE, 4) else (splitS t, 0)
theorem cut_len (t : List UInt8) : (cutW t).length ≤ t.length ∧ (cutR t).length ≤ t.length := by
  unfold cutW cutR Lib.cut
  split
  · simp [List.length_take, List.length_drop]; omega
  · simp

theorem three_set {w : World} {b : Nat} {x y z x' y' z' : Value} {t : TypeId} (h : w.heap[b]? = some (.cells #[x, y, z] t (0, 0))) :
    (((w.setCell ⟨b, 0, none⟩ x').setCell ⟨b, 1, none⟩ y').setCell ⟨b, 2, none⟩ z').heap[b]? = some (.cells #[x', y', z'] t (0, 0)) := by
  have := row_set (row_set (row_set h 0 x') 1 y') 2 z'
  simpa using this
theorem fr_three {w W : World} {b : Nat} {x y z : Value} (h : Fr [] w W) (hb : w.heap.size ≤ b) : Fr [] w (((W.setCell ⟨b, 0, none⟩ x).setCell ⟨b, 1, none⟩ y).setCell ⟨b, 2, none⟩ z) :=
  ((h.setCell _ _ (Or.inr hb)).setCell _ _ (Or.inr hb)).setCell _ _ (Or.inr hb)
set_option maxRecDepth 100000 in
set_option maxHeartbeats 4000000 in
theorem parse_any (t : List UInt8) (w : World) (ht : t.length ≤ 1000000) (hT : TabsM w) :
    Calls Tryd.prog 35 #[.string ⟨t.toArray⟩] w fun e w' => e = .returned (.tuple #[ptyV (parseS t).1, .int .i64 (parseS t).2]) ∧ Below w.heap.size w w' := by
  obtain ⟨m, hm⟩ := hT.m
  have hml := World.block_lt_of_cell? w _ hm
  have HM := Lib.hid hm
  have l1 := cut_len t
  have l2 := cut_len (cutR t)
  have l3 := cut_len (cutR (cutR t))
  clear hT hm
  have hen := enters_next
  go_enter Tryd.func35, Tryd.ntmps35
  go_wp2_with fail
  obtain ⟨W, hW⟩ : ∃ W, W = (w.alloc (.cells #[.string ⟨t.toArray⟩] 9)).alloc (.cells #[.string ⟨#[]⟩, .string ⟨#[]⟩, .string ⟨#[]⟩] 55) := ⟨_, rfl⟩
  rw [← hW]
  have hb0 : W.heap[w.heap.size]? = some (.cells #[.string ⟨t.toArray⟩] 9 (0, 0)) := by rw [hW]; exact heap_past _ (heap_new rfl)
  have hr0 : W.heap[w.heap.size + 1]? = some (.cells #[.string ⟨#[]⟩, .string ⟨#[]⟩, .string ⟨#[]⟩] 55 (0, 0)) := by rw [hW]; exact heap_new (by simp)
  have hf0 : Fr [] w W := by rw [hW]; exact (((Fr.refl [] w).alloc _).alloc _)
  clear hW
  have hbw : w.heap.size < W.heap.size := lt_of_block hb0
  generalize hbb : w.heap.size = b at hb0 hr0 hml hbw ⊢
  have hm0 : ∃ m, W.cell? ⟨1, 0, none⟩ = some (.int .i64 m) := ⟨m, hf0.cell HM.out (by simp)⟩
  refine (next_any b t W ht hb0 hm0).mono ?_
  rintro e w1 ⟨rfl, hb1, hf1⟩
  have hm1 : ∃ m, w1.cell? ⟨1, 0, none⟩ = some (.int .i64 m) := ⟨m, hf1.cell (hf0.cell HM.out (by simp)) (by simp; omega)⟩
  have hr1 := hf1.at hr0 (by simp)
  clear hb0 hr0 hm0
  have HR1 := Lib.hid hr1
  have HSP : Hid (parseS t = if textS (splitS t) = [] ∨ textS (splitS t) ≠ t then (noE, 4) else (splitS t, 0)) := Lib.hid rfl
  have HCE := Lib.hid (fun w => textE_any (splitS t) w (by show (cutW t).length ≤ _; omega) (by show (cutW (cutR t)).length ≤ _; omega) (by show (cutW (cutR (cutR t))).length ≤ _; omega))
  have HNE : Hid (textS (splitS t) ≠ [] → (splitS t).name ≠ []) := Lib.hid (fun h hn => h (by
    unfold textS validB
    rw [hn, show nameB [] = false by decide]; rfl))
  unfold ptyV at HCE
  have HS : Hid (splitS t = ⟨cutW t, cutW (cutR t), cutW (cutR (cutR t))⟩) := Lib.hid rfl
  generalize textS (splitS t) = tx at HSP HCE HNE
  rw [HS.out] at HCE HNE
  simp only at HCE HNE
  go_wp2_with fail
  refine (next_any b (cutR t) w1 (by omega) hb1 hm1).mono ?_
  rintro e w2 ⟨rfl, hb2, hf2⟩
  have hm2 : ∃ m, w2.cell? ⟨1, 0, none⟩ = some (.int .i64 m) := ⟨m, hf2.cell (hf1.cell (hf0.cell HM.out (by simp)) (by simp; omega)) (by simp; omega)⟩
  clear hb1 hm1
  go_wp2_with fail
  refine (next_any b (cutR (cutR t)) w2 (by omega) hb2 hm2).mono ?_
  rintro e w3 ⟨rfl, hb3, hf3⟩
  have hw3 : Fr [] w w3 := hf0.trans ((hf1.trans hf2 (by simp)).trans hf3 (by simp)) (by simp; omega)
  have hr3 := hf3.at (hf2.at HR1.out (by simp)) (by simp)
  generalize cutW t = x at HS HCE HNE ⊢
  generalize cutW (cutR t) = y at HS HCE HNE ⊢
  generalize cutW (cutR (cutR t)) = z at HS HCE HNE ⊢
  clear hb2 hm2 hb3 hr1
  go_wp2_with fail
  have hk : (w3.alloc (.cells #[.string ⟨x.toArray⟩, .string ⟨y.toArray⟩, .string ⟨z.toArray⟩] 55)).heap[w3.heap.size]? = some (.cells #[.string ⟨x.toArray⟩, .string ⟨y.toArray⟩, .string ⟨z.toArray⟩] 55 (0, 0)) := heap_new rfl
  refine (HCE.out _).mono ?_
  rintro e w4 ⟨rfl, hb4⟩
  have hf4 : Fr [] w3 w4 := ((Fr.refl [] w3).alloc _).below hb4 ((Fr.refl [] w3).alloc _).size
  have hw4 : Fr [] w w4 := hw3.trans hf4 (by simp)
  obtain ⟨k0, k1, k2⟩ := three_cells ((Fr.ofBelow (X := []) hb4).at hk (by simp))
  have hr4 := hf4.at hr3 (by simp)
  obtain ⟨r0, r1, r2⟩ := three_cells (x := []) (y := []) (z := []) hr4
  have q0 := row_free hr4 0
  have q1 := row_free hr4 1
  have q2 := row_free hr4 2
  have HR4 := Lib.hid hr4
  have HW4 := Lib.hid hw4
  have hbs : w.heap.size ≤ b + 1 := by omega
  generalize w3.heap.size = be at k0 k1 k2 ⊢
  clear hk hb4 hf4 hr4 hr3 hf1 hf2 hf3 hf0 hw3 hw4
  by_cases h1 : tx = []
  · subst h1
    have HP : Hid (parseS t = (noE, 4)) := Lib.hid (by rw [HSP.out, if_pos (Or.inl rfl)])
    have u1 : ([] : List UInt8).isEmpty = true := rfl
    go_wp2_with fail
    obtain ⟨s0, s1, s2⟩ := three_cells (x := []) (y := []) (z := []) (three_set (x' := .string ⟨#[]⟩) (y' := .string ⟨#[]⟩) (z' := .string ⟨#[]⟩) HR4.out)
    exact bodyPost_ret (v := .tuple #[.agg #[.string ⟨#[]⟩, .string ⟨#[]⟩, .string ⟨#[]⟩], .int .i64 4]) (by simp [results, Tryd.results35, go_sem, s0, s1, s2]) rfl ⟨by rw [HP.out]; rfl, (fr_three HW4.out hbs).toBelow (by simp)⟩
  · have u1 : tx.isEmpty = false := by simpa using h1
    have u1' : ¬ tx = [] := h1
    by_cases h2 : tx = t
    · have HP : Hid (parseS t = (⟨x, y, z⟩, 0)) := Lib.hid (by rw [HSP.out, if_neg (by rintro (h | h); exact h1 h; exact h h2), HS.out])
      have hx : ¬ x = [] := HNE.out h1
      have u2 : (tx == t) = true := by simpa using h2
      have u3 : (tx != t) = false := by simpa using h2
      have u4 : x.isEmpty = false := by simpa using hx
      clear h1 h2
      go_wp2_with fail
      obtain ⟨s0, s1, s2⟩ := three_cells (three_set (x' := .string ⟨x.toArray⟩) (y' := .string ⟨y.toArray⟩) (z' := .string ⟨z.toArray⟩) HR4.out)
      exact bodyPost_ret (v := .tuple #[.agg #[.string ⟨x.toArray⟩, .string ⟨y.toArray⟩, .string ⟨z.toArray⟩], .int .i64 0]) (by simp [results, Tryd.results35, go_sem, s0, s1, s2]) rfl ⟨by rw [HP.out]; rfl, (fr_three HW4.out hbs).toBelow (by simp)⟩
    · have HP : Hid (parseS t = (noE, 4)) := Lib.hid (by rw [HSP.out, if_pos (Or.inr h2)])
      have u2 : (tx == t) = false := by simpa using h2
      have u3 : (tx != t) = true := by simpa using h2
      clear h1 h2
      go_wp2_with fail
      obtain ⟨s0, s1, s2⟩ := three_cells (x := []) (y := []) (z := []) (three_set (x' := .string ⟨#[]⟩) (y' := .string ⟨#[]⟩) (z' := .string ⟨#[]⟩) HR4.out)
      exact bodyPost_ret (v := .tuple #[.agg #[.string ⟨#[]⟩, .string ⟨#[]⟩, .string ⟨#[]⟩], .int .i64 4]) (by simp [results, Tryd.results35, go_sem, s0, s1, s2]) rfl ⟨by rw [HP.out]; rfl, (fr_three HW4.out hbs).toBelow (by simp)⟩
end Go.Proofs.YtmhejcndkplepaaDoor
