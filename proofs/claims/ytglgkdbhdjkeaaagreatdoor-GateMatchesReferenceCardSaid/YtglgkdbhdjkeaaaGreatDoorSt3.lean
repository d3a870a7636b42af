/-
  Frames behind the stores of a struct.
-/
import Derived.Test.YtglgkdbhdjkeaaaGreatDoorBase
namespace Go.Proofs.YtglgkdbhdjkeaaaGreatDoor
open Go.RowKit

theorem Fr.store3 {X : List Nat} {a w : World} (h : Fr X a w) (b : Nat) (hb : b ∈ X ∨ a.heap.size ≤ b) (x y z : Value) : Fr X a (((w.setCell ⟨b, 0, none⟩ x).setCell ⟨b, 1, none⟩ y).setCell ⟨b, 2, none⟩ z) :=
  ((h.setCell ⟨b, 0, none⟩ x hb).setCell ⟨b, 1, none⟩ y hb).setCell ⟨b, 2, none⟩ z hb
theorem Fr.store5 {X : List Nat} {a w : World} (h : Fr X a w) (b : Nat) (hb : b ∈ X ∨ a.heap.size ≤ b) (x y z u v : Value) : Fr X a (((((w.setCell ⟨b, 0, none⟩ x).setCell ⟨b, 1, none⟩ y).setCell ⟨b, 2, none⟩ z).setCell ⟨b, 3, none⟩ u).setCell ⟨b, 4, none⟩ v) :=
  ((h.store3 b hb x y z).setCell ⟨b, 3, none⟩ u hb).setCell ⟨b, 4, none⟩ v hb
end Go.Proofs.YtglgkdbhdjkeaaaGreatDoor
