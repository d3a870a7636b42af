/-
  foyerlaw31.collide.
-/
import Derived.Test.YtmhejcndkplepaaDoorPlnRv
namespace Go.Proofs.YtmhejcndkplepaaDoor
open Go.RowKit

set_option maxRecDepth 100000 in
set_option maxHeartbeats 2000000 in
theorem collide_any (av bv : Value) (la lb : List (List UInt8)) (w : World) (ha : Strs w av la) (hb : Strs w bv lb) (h1 : (joinL la).length ≤ 140737488355328) (h2 : (joinL lb).length ≤ 140737488355328) (hT : Tabs w) :
    Calls Tryd.prog 63 #[av, bv] w fun e w' => e = .returned (.bool (collB la lb)) ∧ Below w.heap.size w w' := by
  have HT := Lib.hid hT
  have HA := Lib.hid ha
  have HB := Lib.hid hb
  obtain ⟨aa, acap, rfl, _, _⟩ := ha.form
  obtain ⟨ba, bcap, rfl, _, _⟩ := hb.form
  clear hT ha hb
  obtain ⟨r, er⟩ : ∃ r, r = collB la lb := ⟨_, rfl⟩
  rw [← er]
  have ER := Lib.hid er
  clear er
  go_enter Tryd.func63, Tryd.ntmps63
  go_wp2_with fail
  refine (rsame4_any _ _ la lb w HA.out HB.out).mono ?_
  rintro e w1 ⟨rfl, hb1⟩
  have hf1 : Fr [] w w1 := (Fr.refl [] w).below hb1 (Nat.le_refl _)
  by_cases hq : la = lb
  · have HF : Hid (r = false) := Lib.hid (by rw [ER.out]; unfold collB; rw [decide_eq_true hq]; rfl)
    rw [decide_eq_true hq]
    go_wp2_with fail
    go_ret
    exact ⟨by rw [HF.out]; rfl, hf1.toBelow (by simp)⟩
  have HF : Hid (r = (dlist la == dlist lb)) := Lib.hid (by rw [ER.out]; unfold collB; rw [decide_eq_false hq]; rfl)
  rw [decide_eq_false hq]
  clear hq hb1
  go_wp2_with fail
  refine (list_any _ la w1 (HA.out.fr0 hf1) h1 (HT.out.fr hf1)).mono ?_
  rintro e w2 ⟨rfl, hb2⟩
  have hf2 : Fr [] w w2 := hf1.below hb2 hf1.size
  clear hb2 hf1
  go_wp2_with fail
  refine (list_any _ lb w2 (HB.out.fr0 hf2) h2 (HT.out.fr hf2)).mono ?_
  rintro e w3 ⟨rfl, hb3⟩
  have hf3 : Fr [] w w3 := hf2.below hb3 hf2.size
  clear hb3 hf2
  generalize dlist la = x at HF ⊢
  generalize dlist lb = y at HF ⊢
  by_cases hxy : x = y
  · have HF2 : Hid (r = true) := Lib.hid (by rw [HF.out, hxy]; simp)
    subst hxy
    go_wp2_with fail
    go_ret
    exact ⟨by rw [HF2.out]; simp, hf3.toBelow (by simp)⟩
  · have HF2 : Hid (r = false) := Lib.hid (by rw [HF.out, beq_eq_false_iff_ne]; exact hxy)
    have t1 : (x == y) = false := by rw [beq_eq_false_iff_ne]; exact hxy
    go_wp2_with fail
    go_ret
    exact ⟨by rw [HF2.out]; rfl, hf3.toBelow (by simp)⟩
end Go.Proofs.YtmhejcndkplepaaDoor
