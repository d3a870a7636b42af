/-
  Marks of deferred blocks that loops over iterators leave.
-/
import Derived.Test.YtglgkdbhdjkeaaaGreatDoorRfAt
import Derived.RangeFuncNested
import Derived.RangeFuncBound
import Derived.RangeFuncCalls
import Derived.RangeFuncLeaves
import Derived.RangeFuncBox
import Derived.Shelf.Abstract
import Derived.OwnWalkIn
import Derived.TacticsInMore
import Derived.LoopNIn
import Derived.LoopIn
import Derived.Sort.BigQuietIn
import Derived.Sort.LoopGhostIn
namespace Go.Proofs.YtglgkdbhdjkeaaaGreatDoor
open Go.RowKit

def markD (D : Nat) : Deferred := { target := .collected D, args := #[] }
/-- The blocks of the marks lie as they were laid. -/
def Marks (B : Nat) (Ds : List Nat) (w : World) : Prop := Ds.Nodup ∧ ∀ D ∈ Ds, B ≤ D ∧ w.heap[D]? = some (.deferred (some []))
theorem Marks.fr {B : Nat} {Ds : List Nat} {w w' : World} (h : Marks B Ds w) (hf : Fr [] w w') : Marks B Ds w' := ⟨h.1, fun D hD => ⟨(h.2 D hD).1, hf.at (h.2 D hD).2 (by simp)⟩⟩
theorem Marks.keeps {B : Nat} {Ds : List Nat} {w w' : World} (h : Marks B Ds w) (hf : KeepsFrom B w w') : Marks B Ds w' := ⟨h.1, fun D hD => ⟨(h.2 D hD).1, hf.same D _ (h.2 D hD).1 (h.2 D hD).2 rfl⟩⟩
theorem Marks.new {B : Nat} {Ds : List Nat} {w w' : World} {D : Nat} (h : Marks B Ds w) (hf : Fr [] w w') (hD : w.heap.size ≤ D) (hB : B ≤ w.heap.size) (hd : w'.heap[D]? = some (.deferred (some []))) : Marks B (D :: Ds) w' := by
  refine ⟨List.nodup_cons.2 ⟨fun hm => ?_, h.1⟩, fun x hx => ?_⟩
  · have := (Array.getElem?_eq_some_iff.1 (h.2 D hm).2).1
    omega
  · rcases List.mem_cons.1 hx with rfl | hx
    · exact ⟨by omega, hd⟩
    · exact (h.fr hf).2 x hx
theorem leaves_marks {F : Fence} {n B : Nat} {P : Program} {fn : Func} {tmps : Array Value} {R : Ending → World → Prop} : ∀ (Ds : List Nat) (w : World), Marks B Ds w → (∀ w', Std B w w' → LeavesIn F n P fn tmps R [] .returning w') →
    LeavesInM F n P fn tmps R (Ds.map markD) .returning w
  | [], w, _, h => h w (Std.refl _ _)
  | D :: Ds, w, hm, h => by
    obtain ⟨hB, hd⟩ := hm.2 D (by simp)
    have hnd := List.nodup_cons.1 hm.1
    refine ⟨by simp, .inl ⟨D, _, rfl, run_takeDeferred hd, ?_⟩⟩
    have hst : Std B w (w.putObj D (.deferred none)) := Std.put _ hB hd rfl
    refine leaves_marks (B := B) Ds _ ⟨hnd.2, fun x hx => ⟨(hm.2 x (by simp [hx])).1, ?_⟩⟩ (fun w' h' => h w' (hst.trans h'))
    exact (World.putObj_heap_other (fun e => hnd.1 (by rw [← e]; exact hx))).trans (hm.2 x (by simp [hx])).2
theorem keepsOthers_fr1 {X : List Nat} {w w' : World} (hf : Fr X w w') (hx : ∀ x ∈ X, ∀ o, w.heap[x]? = some o → o.isCells = true) : KeepsOthers w w' :=
  ⟨hf.size, fun k o hk ho => by
    refine hf.at hk fun hm => ?_
    rw [hx k hm o hk] at ho; cases ho⟩
theorem tabs_lt {w : World} (h : Tabs w) : 0 < w.heap.size ∧ 1 < w.heap.size := by
  refine ⟨h.hex.1, ?_⟩
  have := h.pow
  unfold Lib.TabIs World.var? at this
  simp only [gPow, Option.bind_some] at this
  rcases Nat.lt_or_ge 1 w.heap.size with h' | h'
  · exact h'
  · rw [Array.getElem?_eq_none h'] at this; cases this
theorem Tabs.frX {X : List Nat} {B : Nat} {w A C : World} (h : Tabs A) (hf : Fr X A C) (hw : Tabs w) (hB : w.heap.size ≤ B) (hx : ∀ x ∈ X, B ≤ x) : Tabs C := by
  have := tabs_lt hw
  exact ⟨h.hex.fr hf (fun hm => by have := hx _ hm; omega), tabIs_fr gPow h.pow hf (fun hm => by have := hx _ hm; omega)⟩
theorem keepsFrom_fr {X : List Nat} {B : Nat} {w w' : World} (hf : Fr X w w') (hx : ∀ x ∈ X, ∀ o, w.heap[x]? = some o → o.isCells = true) : KeepsFrom B w w' := (keepsOthers_fr1 hf hx).from B
end Go.Proofs.YtglgkdbhdjkeaaaGreatDoor
