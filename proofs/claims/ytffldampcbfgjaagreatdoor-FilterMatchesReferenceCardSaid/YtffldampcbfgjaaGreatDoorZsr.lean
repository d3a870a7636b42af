/-
  A slice of ints, read.
-/
import Derived.Test.YtffldampcbfgjaaGreatDoorOwn
namespace Go.Proofs.YtffldampcbfgjaaGreatDoor
open Go.RowKit

/-- A list of numbers with signs. -/
def Zs (w : World) (v : Value) (l : List Int) : Prop :=
  (l = [] ∧ ∃ a, v = .slice a 0 0) ∨ ∃ b off cap, v = .slice (some ⟨b, off, none⟩) l.length cap ∧ l.length ≤ cap ∧ cap ≤ 9223372036854775807 ∧ b < w.heap.size ∧
    ∀ i, i < l.length → w.cell? ⟨b, off + i, none⟩ = some (.int .i64 (l.getD i 0))
theorem Zs.fr {X : List Nat} {w w' : World} {v : Value} {l : List Int} (h : Zs w v l) (hf : Fr X w w') (hx : ∀ b, v.ownBlock = some b → b ∉ X) : Zs w' v l := by
  rcases h with h | ⟨b, off, cap, hv, h1, h2, h3, h4⟩
  · exact Or.inl h
  · exact Or.inr ⟨b, off, cap, hv, h1, h2, Nat.lt_of_lt_of_le h3 hf.size, fun i hi => hf.cell (h4 i hi) (hx b (by rw [hv]; rfl))⟩
theorem Zs.fr0 {w w' : World} {v : Value} {l : List Int} (h : Zs w v l) (hf : Fr [] w w') : Zs w' v l := h.fr hf (by simp)
theorem Zs.form {w : World} {v : Value} {l : List Int} (h : Zs w v l) : ∃ a cap, v = .slice a l.length cap ∧ l.length ≤ cap ∧ cap ≤ 9223372036854775807 ∧ (∀ i, i < l.length → ∃ b off, a = some ⟨b, off, none⟩) := by
  rcases h with ⟨rfl, a, rfl⟩ | ⟨b, off, cap, rfl, h1, h2, _, _⟩
  · exact ⟨a, 0, rfl, by simp, by simp, fun i hi => absurd hi (by simp)⟩
  · exact ⟨_, cap, rfl, h1, h2, fun i hi => ⟨b, off, rfl⟩⟩
theorem Zs.cell {w : World} {b off n cap : Nat} {l : List Int} (h : Zs w (.slice (some ⟨b, off, none⟩) n cap) l) (i : Nat) (hi : i < l.length) : w.cell? ⟨b, off + i, none⟩ = some (.int .i64 (l.getD i 0)) := by
  rcases h with ⟨rfl, _⟩ | ⟨b', off', cap', hv, _, _, _, h4⟩
  · exact absurd hi (by simp)
  · cases hv; exact h4 i hi
end Go.Proofs.YtffldampcbfgjaaGreatDoor
