/-
  Records of three strings; slices of them.
-/
import Derived.Test.YtjddngbgbbbefaaGreatDoorOwn
namespace Go.Proofs.YtjddngbgbbbefaaGreatDoor
open Go.RowKit

/-- A party: name, commitment, what it reveals. -/
structure Pty where
  name : List UInt8
  com : List UInt8
  rev : List UInt8
deriving DecidableEq
def ptyV (p : Pty) : Value := .agg #[.string ⟨p.name.toArray⟩, .string ⟨p.com.toArray⟩, .string ⟨p.rev.toArray⟩]
/-- A slice of parties. -/
def Pts (w : World) (v : Value) (l : List Pty) : Prop :=
  (v = .slice none 0 0 ∧ l = []) ∨ ∃ b off cap, v = .slice (some ⟨b, off, none⟩) l.length cap ∧ l.length ≤ cap ∧ cap ≤ 9223372036854775807 ∧ b < w.heap.size ∧
    ∀ (i : Nat) (p : Pty), l[i]? = some p → w.cell? ⟨b, off + i * 3, none⟩ = some (.string ⟨p.name.toArray⟩) ∧ w.cell? ⟨b, off + i * 3 + 1, none⟩ = some (.string ⟨p.com.toArray⟩) ∧ w.cell? ⟨b, off + i * 3 + 2, none⟩ = some (.string ⟨p.rev.toArray⟩)
theorem Pts.fr {w w' : World} {v : Value} {l : List Pty} (h : Pts w v l) (hf : Fr [] w w') : Pts w' v l := by
  rcases h with h | ⟨b, off, cap, hv, h1, h2, h3, h4⟩
  · exact Or.inl h
  · exact Or.inr ⟨b, off, cap, hv, h1, h2, Nat.lt_of_lt_of_le h3 hf.size, fun i p hp => ⟨hf.cell (h4 i p hp).1 (by simp), hf.cell (h4 i p hp).2.1 (by simp), hf.cell (h4 i p hp).2.2 (by simp)⟩⟩
theorem Pts.form {w : World} {v : Value} {l : List Pty} (h : Pts w v l) : ∃ a cap, v = .slice a l.length cap ∧ l.length ≤ cap ∧ cap ≤ 9223372036854775807 ∧ (∀ i, i < l.length → ∃ b off, a = some ⟨b, off, none⟩) := by
  rcases h with ⟨rfl, rfl⟩ | ⟨b, off, cap, hv, h1, h2, h3, h4⟩
  · exact ⟨none, 0, rfl, by simp, by simp, fun i hi => by simp at hi⟩
  · exact ⟨_, cap, hv, h1, h2, fun i _ => ⟨b, off, rfl⟩⟩
theorem Pts.cells {w : World} {b off n cap : Nat} {l : List Pty} (h : Pts w (.slice (some ⟨b, off, none⟩) n cap) l) (i : Nat) (p : Pty) (hp : l[i]? = some p) :
    w.cell? ⟨b, off + i * 3, none⟩ = some (.string ⟨p.name.toArray⟩) ∧ w.cell? ⟨b, off + i * 3 + 1, none⟩ = some (.string ⟨p.com.toArray⟩) ∧ w.cell? ⟨b, off + i * 3 + 2, none⟩ = some (.string ⟨p.rev.toArray⟩) := by
  rcases h with ⟨h, _⟩ | ⟨b', off', cap', hv, _, _, _, h4⟩
  · cases h
  · cases hv; exact h4 i p hp

theorem Pts.take {w : World} {b off cap : Nat} {l : List Pty} (h : Pts w (.slice (some ⟨b, off, none⟩) l.length cap) l) (k : Nat) (hk : k ≤ l.length) : Pts w (.slice (some ⟨b, off, none⟩) k cap) (l.take k) := by
  rcases h with ⟨h, _⟩ | ⟨b', off', cap', hv, h1, h2, h3, h4⟩
  · cases h
  · cases hv
    refine Or.inr ⟨b, off, cap, by rw [List.length_take, Nat.min_eq_left hk], by rw [List.length_take]; omega, h2, h3, fun i p hp => h4 i p ?_⟩
    rw [List.getElem?_take] at hp
    split at hp
    · exact hp
    · cases hp
theorem pts_one {W : World} {b : Nat} {x y z : List UInt8} {t : TypeId} (h : W.heap[b]? = some (.cells #[.string ⟨x.toArray⟩, .string ⟨y.toArray⟩, .string ⟨z.toArray⟩] t (0, 0))) : Pts W (.slice (some ⟨b, 0, none⟩) 1 1) [⟨x, y, z⟩] := by
  refine Or.inr ⟨b, 0, 1, rfl, by simp, by decide, lt_of_block h, fun i p hp => ?_⟩
  match i, hp with
  | 0, hp =>
    cases hp
    exact ⟨by rw [row_cell h]; rfl, by rw [row_cell h]; rfl, by rw [row_cell h]; rfl⟩
  | i + 1, hp => simp at hp
theorem pts_two {W : World} {b : Nat} {x y z x' y' z' : List UInt8} {t : TypeId} (h : W.heap[b]? = some (.cells #[.string ⟨x.toArray⟩, .string ⟨y.toArray⟩, .string ⟨z.toArray⟩, .string ⟨x'.toArray⟩, .string ⟨y'.toArray⟩, .string ⟨z'.toArray⟩] t (0, 0))) : Pts W (.slice (some ⟨b, 0, none⟩) 2 2) [⟨x, y, z⟩, ⟨x', y', z'⟩] := by
  refine Or.inr ⟨b, 0, 2, rfl, by simp, by decide, lt_of_block h, fun i p hp => ?_⟩
  match i, hp with
  | 0, hp =>
    cases hp
    exact ⟨by rw [row_cell h]; rfl, by rw [row_cell h]; rfl, by rw [row_cell h]; rfl⟩
  | 1, hp =>
    cases hp
    exact ⟨by rw [row_cell h]; rfl, by rw [row_cell h]; rfl, by rw [row_cell h]; rfl⟩
  | i + 2, hp => simp at hp
end Go.Proofs.YtjddngbgbbbefaaGreatDoor
