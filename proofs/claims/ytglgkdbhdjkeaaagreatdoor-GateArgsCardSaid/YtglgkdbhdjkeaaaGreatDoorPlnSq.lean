/-
  Plain law: the library's pieces between single bytes are the words between spaces.
-/
import Derived.Test.YtglgkdbhdjkeaaaGreatDoorPlnSp
import Derived.Lib.SplitLaws
import Derived.Lib.Join
namespace Go.Proofs.YtglgkdbhdjkeaaaGreatDoor
open Go.RowKit

theorem index_sp (a t : List UInt8) (h : (32 : UInt8) ∉ a) : Lib.index (a ++ 32 :: t) [32] = (a.length : Int) := by
  induction a with
  | nil => rw [List.nil_append, Lib.index]; simp [List.isPrefixOf]
  | cons c a ih =>
    have h1 : c ≠ 32 := fun e => h (by simp [e])
    have h2 : (32 : UInt8) ∉ a := fun e => h (by simp [e])
    have hp : ([32] : List UInt8).isPrefixOf (c :: (a ++ 32 :: t)) = false := by simp [List.isPrefixOf, Ne.symm h1]
    rw [List.cons_append, Lib.index, hp, ih h2]
    simp only [Bool.false_eq_true, if_false, List.length_cons]
    rw [if_neg (by simp; try omega)]
    simp
theorem first_sp : ∀ (s : List UInt8), (32 : UInt8) ∈ s → ∃ a t, s = a ++ 32 :: t ∧ (32 : UInt8) ∉ a
  | [], h => by cases h
  | c :: s, h => by
    by_cases hc : c = 32
    · exact ⟨[], s, by rw [hc]; rfl, by simp⟩
    · obtain ⟨a, t, hs, ha⟩ := first_sp s (by simpa [Ne.symm hc] using h)
      exact ⟨c :: a, t, by rw [hs]; rfl, by simp [Ne.symm hc, ha]⟩
theorem splitK_sp : ∀ (k : Nat) (s : List UInt8), s.count 32 = k → Lib.splitK [32] 0 k s = splitS s
  | 0, s, h => by
    rw [split_one s (fun hm => by have := List.count_pos_iff.2 hm; omega)]
    rfl
  | k + 1, s, h => by
    obtain ⟨a, t, rfl, ha⟩ := first_sp s (List.count_pos_iff.1 (by omega))
    have hix := index_sp a t ha
    have hct : t.count 32 = k := by
      rw [List.count_append, List.count_cons_self, List.count_eq_zero.2 ha] at h
      omega
    have e : ∀ s, Lib.splitK [32] 0 (k + 1) s = if Lib.index s [32] == -1 then [s] else s.take ((Lib.index s [32]).toNat + 0) :: Lib.splitK [32] 0 k (s.drop ((Lib.index s [32]).toNat + 1)) := fun s => rfl
    rw [split_app a ha, e, if_neg (by rw [hix]; simp), hix, ← splitK_sp k t hct]
    simp
theorem split_lib (s : List UInt8) : (Lib.splitB ⟨#[32]⟩ 0 (Lib.countB ⟨s.toArray⟩ ⟨#[32]⟩) ⟨s.toArray⟩).map (·.data.toList) = splitS s := by
  rw [Lib.splitB_data]
  have h1 : Lib.countB ⟨s.toArray⟩ ⟨#[32]⟩ = s.count 32 := by
    show Lib.count s [32] = _
    exact Lib.count_one 32 s
  rw [h1]
  exact splitK_sp _ s rfl
theorem join_lib : ∀ (l : List (List UInt8)), Lib.join l [32] = spS l
  | [] => rfl
  | [w] => Lib.join_one w _
  | w :: v :: ws => by
    rw [Lib.join_cons, show spS (w :: v :: ws) = w ++ 32 :: spS (v :: ws) from rfl, ← join_lib (v :: ws), Lib.join_cons]
    simp [Lib.joinTail]
theorem spS_len : ∀ (l : List (List UInt8)) (B : Nat), (∀ w ∈ l, w.length ≤ B) → (spS l).length ≤ l.length * (B + 1)
  | [], B, _ => by simp [spS]
  | [w], B, h => by have := h w (by simp); simp [spS]; omega
  | w :: v :: ws, B, h => by
    have h1 := spS_len (v :: ws) B (fun x hx => h x (by simp [hx]))
    have h2 := h w (by simp)
    have h3 : (spS (w :: v :: ws)).length = w.length + 1 + (spS (v :: ws)).length := by
      show (w ++ 32 :: spS (v :: ws)).length = _
      rw [List.length_append, List.length_cons]; omega
    have h4 : (w :: v :: ws).length * (B + 1) = (v :: ws).length * (B + 1) + (B + 1) := by
      rw [List.length_cons (a := w), Nat.add_mul, Nat.one_mul]
    omega
theorem spS_snoc : ∀ (l : List (List UInt8)) (x : List UInt8), l ≠ [] → spS (l ++ [x]) = spS l ++ 32 :: x
  | [], _, h => absurd rfl h
  | [w], x, _ => rfl
  | w :: v :: ws, x, _ => by
    rw [List.cons_append, List.cons_append, show spS (w :: v :: (ws ++ [x])) = w ++ 32 :: spS (v :: (ws ++ [x])) from rfl, ← List.cons_append, spS_snoc (v :: ws) x (by simp)]
    show _ = (w ++ 32 :: spS (v :: ws)) ++ 32 :: x
    simp
theorem splitS_short (l : List UInt8) : ∀ w ∈ splitS l, w.length ≤ l.length := by
  induction l with
  | nil => intro w hw; simp [splitS] at hw; simp [hw]
  | cons c t ih =>
    intro w hw
    unfold splitS at hw
    split at hw
    · rcases List.mem_cons.1 hw with rfl | hw
      · simp
      · have := ih w hw; simp; omega
    · split at hw
      · rw [List.mem_singleton.1 hw]; simp
      · rename_i v vs hv
        rcases List.mem_cons.1 hw with rfl | hw
        · have := ih v (by rw [hv]; simp); simp; omega
        · have := ih w (by rw [hv]; simp [hw]); simp; omega
theorem splitS_len (l : List UInt8) : (splitS l).length ≤ l.length + 1 := by
  induction l with
  | nil => simp [splitS]
  | cons c t ih =>
    unfold splitS
    split
    · simp; omega
    · split
      · simp
      · rename_i v vs hv
        rw [hv] at ih
        simp at ih ⊢; omega
end Go.Proofs.YtglgkdbhdjkeaaaGreatDoor
