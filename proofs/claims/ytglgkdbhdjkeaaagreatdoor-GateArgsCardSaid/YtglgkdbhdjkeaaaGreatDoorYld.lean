/-
  What a round of an iterator's caller leaves.
-/
import Derived.RangeFuncNested
import Derived.RangeFuncBound
import Derived.RangeFuncCalls
import Derived.RangeFuncLeaves
import Derived.RangeFuncBox
import Derived.Shelf.Abstract
import Derived.Shelf.RegionOpen
import Derived.OwnWalkIn
import Derived.TacticsInMore
import Derived.LoopNIn
import Derived.LoopIn
import Derived.Sort.BigQuietIn
import Derived.Sort.LoopGhostIn
import Derived.Test.YtglgkdbhdjkeaaaGreatDoorOwn
namespace Go.Proofs.YtglgkdbhdjkeaaaGreatDoor
open Go.RowKit Go.Shelf

theorem JC_below {β : Type} {B : Nat} {J : β → World → Prop} (h : AbidesFrom B J) {s : β} {A C : World} (hs : J s A) (hb : Fr [] A C) : J s C :=
  h s A C none hs ⟨hb.os, hb.tape, hb.output, hb.size, fun k hk _ => hb.block k hk (by simp)⟩ (fun r e => by cases e)
/-- What a round of the caller's body leaves: it goes on, or it stops. -/
def YPostC {α : Type} (J Jx : List α → World → Prop) (Kp : World → World → Prop) (pre : List α) (x : α) (W1 : World) (b : Bool) (W' : World) : Prop :=
  (b = true ∧ J (pre ++ [x]) W' ∧ Kp W1 W') ∨ (b = false ∧ Jx (pre ++ [x]) W')
end Go.Proofs.YtglgkdbhdjkeaaaGreatDoor
