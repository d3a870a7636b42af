/-
  filter.Join.
-/
import Derived.Test.YtglgkdbhdjkeaaaGreatDoorFlG
import Derived.Test.YtglgkdbhdjkeaaaGreatDoorSt3
import Derived.Test.YtglgkdbhdjkeaaaGreatDoorMrk
import Derived.Deep.RegionWith
namespace Go.Proofs.YtglgkdbhdjkeaaaGreatDoor
open Go.RowKit

/-- Have both filters the same form? -/
def okJ (a b : Flt) : Bool := validF a && validF b && decide (a.bits = b.bits) && decide (a.hashes = b.hashes)
/-- What Join returns. -/
def JoinPost (w : World) (a b : Flt) (e : Ending) (w' : World) : Prop :=
  (okJ a b = true → ∃ wv, e = .returned (.tuple #[.agg #[.int .i64 a.bits, .int .i64 a.hashes, wv], .int .i64 0]) ∧ OwnW w.heap.size w' wv (joinW a.words b.words)) ∧ (okJ a b = false → e = .returned (.tuple #[zeroF, .int .i64 1])) ∧ Below w.heap.size w w'

end Go.Proofs.YtglgkdbhdjkeaaaGreatDoor
