/-
  title.Pass.
-/
import Derived.Test.YtglgkdbhdjkeaaaGreatDoorTtH
import Derived.Test.YtglgkdbhdjkeaaaGreatDoorOwnT
namespace Go.Proofs.YtglgkdbhdjkeaaaGreatDoor
open Go.RowKit

def zeroTtl : Ttl := ⟨0, 0, 0, [], []⟩
def zeroTV : Value := .agg #[.int .i64 0, .int .i64 0, .int .i64 0, .string ⟨#[]⟩, .slice none 0 0]
theorem zeroT_reads (w : World) : TtlR w zeroTV zeroTtl := ⟨_, rfl, Trs.nil w⟩
/-- What Pass answers. -/
def passR (t : Ttl) (tk secret : List UInt8) : Ttl × Int := match passT t tk secret with
  | .inl x => (x, 0)
  | .inr e => (zeroTtl, e)
def PassPost (w : World) (t : Ttl) (tk secret : List UInt8) (e : Ending) (w' : World) : Prop :=
  ∃ v, e = .returned (.tuple #[v, .int .i64 (passR t tk secret).2]) ∧ TtlR w' v (passR t tk secret).1 ∧ Below w.heap.size w w'
theorem StrsW.frX {X : List Nat} {w w' : World} {v : Value} {l : List (List UInt8)} (h : StrsW w v l) (hf : Fr X w w') (hx : ∀ k, v.ownBlock = some k → k ∉ X) : StrsW w' v l := by
  rcases h with h | h
  · rcases h with ⟨h1, h2⟩ | ⟨b, off, cap, rfl, h1, h2, h3, h4⟩
    · exact Or.inl (Or.inl ⟨h1, h2⟩)
    · exact Or.inl (Or.inr ⟨b, off, cap, rfl, h1, h2, Nat.lt_of_lt_of_le h3 hf.size, fun i hi => hf.cell (h4 i hi) (hx b rfl)⟩)
  · exact Or.inr h
theorem ownBlock_lt {base : Nat} {w : World} {e : TypeId} {size n : Nat} {v : Value} {xs : List Value} (h : w.ownsRow base e size v n xs) : ∀ x, v.ownBlock = some x → x < w.heap.size := by
  intro x hx
  rcases h.2 with ⟨rfl, _⟩ | ⟨g, cap, cur, rfl, hb, hg, _⟩
  · simp [Value.ownBlock] at hx
  · obtain rfl : g = x := by simpa [Value.ownBlock] using hx
    exact lt_of_block hg
end Go.Proofs.YtglgkdbhdjkeaaaGreatDoor
