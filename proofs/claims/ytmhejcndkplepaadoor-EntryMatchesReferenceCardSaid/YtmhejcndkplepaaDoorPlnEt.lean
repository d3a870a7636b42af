/-
  Plain laws of layer 18: the text of an entry and its parts.
-/
import Derived.Test.YtmhejcndkplepaaDoorEnD
namespace Go.Proofs.YtmhejcndkplepaaDoor
open Go.RowKit

theorem index_at (x y : List UInt8) (h : (32 : UInt8) ∉ x) : Lib.index (x ++ 32 :: y) [32] = (x.length : Int) := by
  induction x with
  | nil => simp [Lib.index]
  | cons b x ih =>
    have hb : b ≠ 32 := fun e => h (by rw [e]; simp)
    have hx : (32 : UInt8) ∉ x := fun e => h (by simp [e])
    have hp : ([32] : List UInt8).isPrefixOf (b :: (x ++ 32 :: y)) = false := by
      simp only [List.isPrefixOf, Bool.and_eq_false_iff]
      left
      simpa using fun e : (32 : UInt8) = b => hb e.symm
    rw [List.cons_append, Lib.index, hp, ih hx]
    simp
theorem index_no (x : List UInt8) (h : (32 : UInt8) ∉ x) : Lib.index x [32] = -1 := by
  induction x with
  | nil => simp [Lib.index]
  | cons b x ih =>
    have hb : b ≠ 32 := fun e => h (by rw [e]; simp)
    have hx : (32 : UInt8) ∉ x := fun e => h (by simp [e])
    have hp : ([32] : List UInt8).isPrefixOf (b :: x) = false := by
      simp only [List.isPrefixOf, Bool.and_eq_false_iff]
      left
      simpa using fun e : (32 : UInt8) = b => hb e.symm
    rw [Lib.index, hp, ih hx]
    simp
theorem cut_at (x y : List UInt8) (h : (32 : UInt8) ∉ x) : cutW (x ++ 32 :: y) = x ∧ cutR (x ++ 32 :: y) = y := by
  unfold cutW cutR Lib.cut
  rw [index_at x y h, if_pos (by omega)]
  simp
theorem cut_no (x : List UInt8) (h : (32 : UInt8) ∉ x) : cutW x = x ∧ cutR x = [] := by
  unfold cutW cutR Lib.cut
  rw [index_no x h, if_neg (by omega)]
  simp
theorem name_no (l : List UInt8) (h : nameB l = true) : (32 : UInt8) ∉ l := by
  unfold nameB at h
  rw [decide_eq_true_eq] at h
  intro hm
  obtain ⟨i, hi, e⟩ := List.getElem_of_mem hm
  have := h.1 i hi
  rw [List.getD_eq_getElem?_getD, List.getElem?_eq_getElem hi, Option.getD_some, e] at this
  unfold nameC at this
  rw [decide_eq_true_eq] at this
  have h32 : (32 : UInt8).toNat = 32 := rfl
  omega
theorem isD_no32 (l : List UInt8) (h : isD l = true) : (32 : UInt8) ∉ l := by
  simp only [isD, Bool.and_eq_true] at h
  intro hm
  have := List.all_eq_true.1 h.2 _ hm
  revert this; decide
theorem split_text (p : Pty) (h : validB p = true) : splitS (textS p) = p ∧ textS p ≠ [] := by
  have h0 := h
  simp only [validB, Bool.and_eq_true] at h
  have e : textS p = p.name ++ 32 :: (p.com ++ 32 :: p.rev) := by unfold textS; rw [if_pos h0]; simp
  have c1 := cut_at p.name (p.com ++ 32 :: p.rev) (name_no _ h.1.1)
  have c2 := cut_at p.com p.rev (isD_no32 _ h.1.2)
  have c3 := cut_no p.rev (isD_no32 _ h.2)
  refine ⟨?_, by rw [e]; simp⟩
  unfold splitS
  rw [e, c1.1, c1.2, c2.1, c2.2, c3.1]
theorem parse_text (p : Pty) (h : validB p = true) : parseS (textS p) = (p, 0) := by
  obtain ⟨h1, h2⟩ := split_text p h
  unfold parseS
  rw [h1, if_neg (by rintro (h3 | h3); exact h2 h3; exact h3 rfl)]
theorem text_none (p : Pty) (h : validB p = false) : textS p = [] := by unfold textS; rw [if_neg (by rw [h]; decide)]
theorem text_inj (p q : Pty) (h : validB p = true) : textS p = textS q ↔ p = q := by
  constructor
  · intro e
    have h2 : validB q = true := by
      cases hq : validB q with
      | true => rfl
      | false => rw [text_none q hq] at e; exact absurd e (split_text p h).2
    rw [← (split_text p h).1, e, (split_text q h2).1]
  · rintro rfl; rfl
/-- What a parsed text says. -/
theorem parse_says (t : List UInt8) : ((parseS t).2 = 0 ∧ validB (parseS t).1 = true ∧ textS (parseS t).1 = t) ∨ ((parseS t).2 = 4 ∧ (parseS t).1 = noE) := by
  unfold parseS
  split
  · exact Or.inr ⟨rfl, rfl⟩
  · rename_i h
    have h1 : textS (splitS t) ≠ [] := fun e => h (Or.inl e)
    have h2 : textS (splitS t) = t := Classical.byContradiction fun e => h (Or.inr e)
    refine Or.inl ⟨rfl, ?_, h2⟩
    cases hv : validB (splitS t) with
    | true => rfl
    | false => exact absurd (text_none _ hv) h1
end Go.Proofs.YtmhejcndkplepaaDoor
