/-
  Plain law: filters that are joined.
-/
import Derived.Test.YtnmakpiddfhhnaaGreatDoorFrB
import Derived.Test.YtnmakpiddfhhnaaGreatDoorFrC
namespace Go.Proofs.YtnmakpiddfhhnaaGreatDoor
open Go.RowKit

/-- The filter of both, and the error. -/
def joinF (a b : Flt) : Flt := if okJ a b then ⟨a.bits, a.hashes, joinW a.words b.words⟩ else ⟨0, 0, []⟩
def joinEr (a b : Flt) : Int := if okJ a b then 0 else 1
theorem okJ_parts {a b : Flt} (h : okJ a b = true) : validF a = true ∧ validF b = true ∧ a.bits = b.bits ∧ a.hashes = b.hashes := by
  unfold okJ at h
  simp only [Bool.and_eq_true, decide_eq_true_eq] at h
  exact ⟨h.1.1.1, h.1.1.2, h.1.2, h.2⟩
theorem okJ_of {a b : Flt} (h1 : validF a = true) (h2 : validF b = true) (h3 : a.bits = b.bits) (h4 : a.hashes = b.hashes) : okJ a b = true := by
  unfold okJ
  simp [h1, h2, h3, h4]
theorem okJ_len {a b : Flt} (h : okJ a b = true) : a.words.length = b.words.length := by
  obtain ⟨h1, h2, h3, h4⟩ := okJ_parts h
  have e1 := (validF_parts h1).2
  have e2 := (validF_parts h2).2
  rw [h3] at e1
  omega
theorem joinF_ok {a b : Flt} (h : okJ a b = true) : joinF a b = ⟨a.bits, a.hashes, joinW a.words b.words⟩ := by unfold joinF; rw [if_pos h]
theorem joinEr_ok {a b : Flt} (h : okJ a b = true) : joinEr a b = 0 := by unfold joinEr; rw [if_pos h]
theorem joinEr_no {a b : Flt} (h : okJ a b = false) : joinEr a b = 1 := by unfold joinEr; rw [h]; rfl
theorem joinF_valid {a b : Flt} (h : okJ a b = true) : validF (joinF a b) = true := by
  have hl := okJ_len h
  obtain ⟨h1, h2, h3, h4⟩ := okJ_parts h
  rw [joinF_ok h]
  unfold validF
  obtain ⟨e1, e2⟩ := validF_parts h1
  simp only [e1, Bool.true_and, joinW_len _ _ hl, decide_eq_true_eq]
  exact e2
theorem joinF_lt {a b : Flt} (ha : W64 a.words) (hb : W64 b.words) : W64 (joinF a b).words := by
  unfold joinF
  split
  · rename_i h
    exact joinW_lt ha hb (okJ_len h)
  · intro x hx; cases hx
theorem okJ_left {a b c : Flt} (h1 : okJ a b = true) (h2 : okJ b c = true) : okJ (joinF a b) c = true := by
  have hv := joinF_valid h1
  obtain ⟨_, _, h3, h4⟩ := okJ_parts h1
  obtain ⟨_, h6, h7, h8⟩ := okJ_parts h2
  refine okJ_of hv h6 ?_ ?_
  · rw [joinF_ok h1]; exact h3.trans h7
  · rw [joinF_ok h1]; exact h4.trans h8
theorem okJ_right {a b c : Flt} (h1 : okJ a b = true) (h2 : okJ b c = true) : okJ a (joinF b c) = true := by
  have hv := joinF_valid h2
  obtain ⟨h5, _, h3, h4⟩ := okJ_parts h1
  refine okJ_of h5 hv ?_ ?_
  · rw [joinF_ok h2]; exact h3
  · rw [joinF_ok h2]; exact h4
theorem joinF_assoc {a b c : Flt} (ha : W64 a.words) (hb : W64 b.words) (hc : W64 c.words) (h1 : okJ a b = true) (h2 : okJ b c = true) : joinF (joinF a b) c = joinF a (joinF b c) := by
  rw [joinF_ok (okJ_left h1 h2), joinF_ok (okJ_right h1 h2), joinF_ok h1, joinF_ok h2]
  simp only
  rw [joinW_assoc ha hb hc (okJ_len h1) (okJ_len h2)]
theorem has_joinL {a b : Flt} (s : Int) (h : okJ a b = true) (hs : hasF a s = true) : hasF (joinF a b) s = true := by
  have hv := joinF_valid h
  have hl := okJ_len h
  unfold hasF at hs ⊢
  rw [hv, Bool.true_and]
  simp only [Bool.and_eq_true] at hs
  rw [joinF_ok h]
  have h2 := hs.2
  unfold hasW at h2 ⊢
  rw [List.all_eq_true] at h2 ⊢
  intro n hn
  show bitW (joinW a.words b.words) n = true
  rw [joinW_bit hl, h2 n hn]
  rfl
theorem has_joinR {a b : Flt} (s : Int) (h : okJ a b = true) (hs : hasF b s = true) : hasF (joinF a b) s = true := by
  have hv := joinF_valid h
  have hl := okJ_len h
  obtain ⟨_, _, h3, h4⟩ := okJ_parts h
  unfold hasF at hs ⊢
  rw [hv, Bool.true_and]
  simp only [Bool.and_eq_true] at hs
  rw [joinF_ok h]
  have h2 := hs.2
  rw [← h3, ← h4] at h2
  unfold hasW at h2 ⊢
  rw [List.all_eq_true] at h2 ⊢
  intro n hn
  show bitW (joinW a.words b.words) n = true
  rw [joinW_bit hl, h2 n hn, Bool.or_true]
/-- Join, in one form. -/
theorem joinU_any (av bv : Value) (a b : Flt) (w : World) (ha : FltR w av a) (hb : FltR w bv b) (wa : W64 a.words) (wb : W64 b.words) :
    Calls Tryz.prog 16 #[av, bv] w fun e w' => ∃ ad cp, e = .returned (.tuple #[.agg #[.int .i64 (joinF a b).bits, .int .i64 (joinF a b).hashes, .slice ad (joinF a b).words.length cp], .int .i64 (joinEr a b)]) ∧ Ws w' (.slice ad (joinF a b).words.length cp) (joinF a b).words ∧ Below w.heap.size w w' := by
  refine (join_any av bv a b w ha hb wa wb).mono ?_
  rintro e w' ⟨h1, h2, h3⟩
  cases hk : okJ a b with
  | true =>
    obtain ⟨wv, rfl, ho⟩ := h1 hk
    rw [joinEr_ok hk, joinF_ok hk]
    have hw := ho.ws
    rcases hw with ⟨rfl, h0⟩ | ⟨b', off, cap, rfl, h4⟩
    · refine ⟨none, 0, ?_, ?_, h3⟩
      · simp only [h0]; rfl
      · simp only [h0]; exact Or.inl ⟨rfl, rfl⟩
    · exact ⟨_, cap, rfl, Or.inr ⟨b', off, cap, rfl, h4⟩, h3⟩
  | false =>
    obtain rfl := h2 hk
    rw [joinEr_no hk]
    unfold joinF
    rw [hk]
    exact ⟨none, 0, rfl, Or.inl ⟨rfl, rfl⟩, h3⟩
end Go.Proofs.YtnmakpiddfhhnaaGreatDoor
