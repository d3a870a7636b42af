/-
  Marks of deferred blocks that loops over iterators leave.
  What a round of an iterator's caller leaves.
  A region that draws its order, in the body of a range over a function: from the walk outside the round. No program in sight.
  A region that draws its order and ends in a call of yield, in the body of an iterator. No program in sight.
-/
import Derived.Test.YtjddngbgbbbefaaGreatDoorRfAt
import Derived.RangeFuncNested
import Derived.RangeFuncBound
import Derived.RangeFuncCalls
import Derived.RangeFuncLeaves
import Derived.RangeFuncBox
import Derived.Shelf.Abstract
import Derived.OwnWalkIn
import Derived.TacticsInMore
import Derived.LoopNIn
import Derived.LoopIn
import Derived.Sort.BigQuietIn
import Derived.Sort.LoopGhostIn
import Derived.Shelf.RegionOpen
import Derived.Test.YtjddngbgbbbefaaGreatDoorOwn
import Derived.Test.YtjddngbgbbbefaaGreatDoorBase
import Derived.Maps.AppendAt
import Derived.Deep.RegionHeld3
namespace Go.Proofs.YtjddngbgbbbefaaGreatDoor
open Go.RowKit

def markD (D : Nat) : Deferred := { target := .collected D, args := #[] }
/-- The blocks of the marks lie as they were laid. -/
def Marks (B : Nat) (Ds : List Nat) (w : World) : Prop := Ds.Nodup ∧ ∀ D ∈ Ds, B ≤ D ∧ w.heap[D]? = some (.deferred (some []))
theorem Marks.fr {B : Nat} {Ds : List Nat} {w w' : World} (h : Marks B Ds w) (hf : Fr [] w w') : Marks B Ds w' := ⟨h.1, fun D hD => ⟨(h.2 D hD).1, hf.at (h.2 D hD).2 (by simp)⟩⟩
theorem Marks.keeps {B : Nat} {Ds : List Nat} {w w' : World} (h : Marks B Ds w) (hf : KeepsFrom B w w') : Marks B Ds w' := ⟨h.1, fun D hD => ⟨(h.2 D hD).1, hf.same D _ (h.2 D hD).1 (h.2 D hD).2 rfl⟩⟩
theorem Marks.new {B : Nat} {Ds : List Nat} {w w' : World} {D : Nat} (h : Marks B Ds w) (hf : Fr [] w w') (hD : w.heap.size ≤ D) (hB : B ≤ w.heap.size) (hd : w'.heap[D]? = some (.deferred (some []))) : Marks B (D :: Ds) w' := by
  refine ⟨List.nodup_cons.2 ⟨fun hm => ?_, h.1⟩, fun x hx => ?_⟩
  · have := (Array.getElem?_eq_some_iff.1 (h.2 D hm).2).1
    omega
  · rcases List.mem_cons.1 hx with rfl | hx
    · exact ⟨by omega, hd⟩
    · exact (h.fr hf).2 x hx
theorem leaves_marks {F : Fence} {n B : Nat} {P : Program} {fn : Func} {tmps : Array Value} {R : Ending → World → Prop} : ∀ (Ds : List Nat) (w : World), Marks B Ds w → (∀ w', Std B w w' → LeavesIn F n P fn tmps R [] .returning w') →
    LeavesInM F n P fn tmps R (Ds.map markD) .returning w
  | [], w, _, h => h w (Std.refl _ _)
  | D :: Ds, w, hm, h => by
    obtain ⟨hB, hd⟩ := hm.2 D (by simp)
    have hnd := List.nodup_cons.1 hm.1
    refine ⟨by simp, .inl ⟨D, _, rfl, run_takeDeferred hd, ?_⟩⟩
    have hst : Std B w (w.putObj D (.deferred none)) := Std.put _ hB hd rfl
    refine leaves_marks (B := B) Ds _ ⟨hnd.2, fun x hx => ⟨(hm.2 x (by simp [hx])).1, ?_⟩⟩ (fun w' h' => h w' (hst.trans h'))
    exact (World.putObj_heap_other (fun e => hnd.1 (by rw [← e]; exact hx))).trans (hm.2 x (by simp [hx])).2
theorem keepsOthers_fr1 {X : List Nat} {w w' : World} (hf : Fr X w w') (hx : ∀ x ∈ X, ∀ o, w.heap[x]? = some o → o.isCells = true) : KeepsOthers w w' :=
  ⟨hf.size, fun k o hk ho => by
    refine hf.at hk fun hm => ?_
    rw [hx k hm o hk] at ho; cases ho⟩
theorem tabs_lt {w : World} (h : Tabs w) : 0 < w.heap.size ∧ 1 < w.heap.size := by
  refine ⟨h.hex.1, ?_⟩
  have := h.pow
  unfold Lib.TabIs World.var? at this
  simp only [gPow, Option.bind_some] at this
  rcases Nat.lt_or_ge 1 w.heap.size with h' | h'
  · exact h'
  · rw [Array.getElem?_eq_none h'] at this; cases this
theorem Tabs.frX {X : List Nat} {B : Nat} {w A C : World} (h : Tabs A) (hf : Fr X A C) (hw : Tabs w) (hB : w.heap.size ≤ B) (hx : ∀ x ∈ X, B ≤ x) : Tabs C := by
  have := tabs_lt hw
  exact ⟨h.hex.fr hf (fun hm => by have := hx _ hm; omega), tabIs_fr gPow h.pow hf (fun hm => by have := hx _ hm; omega)⟩
theorem keepsFrom_fr {X : List Nat} {B : Nat} {w w' : World} (hf : Fr X w w') (hx : ∀ x ∈ X, ∀ o, w.heap[x]? = some o → o.isCells = true) : KeepsFrom B w w' := (keepsOthers_fr1 hf hx).from B
end Go.Proofs.YtjddngbgbbbefaaGreatDoor
namespace Go.Proofs.YtjddngbgbbbefaaGreatDoor
open Go.RowKit Go.Shelf

theorem JC_below {β : Type} {B : Nat} {J : β → World → Prop} (h : AbidesFrom B J) {s : β} {A C : World} (hs : J s A) (hb : Fr [] A C) : J s C :=
  h s A C none hs ⟨hb.os, hb.tape, hb.output, hb.size, fun k hk _ => hb.block k hk (by simp)⟩ (fun r e => by cases e)
/-- What a round of the caller's body leaves: it goes on, or it stops. -/
def YPostC {α : Type} (J Jx : List α → World → Prop) (Kp : World → World → Prop) (pre : List α) (x : α) (W1 : World) (b : Bool) (W' : World) : Prop :=
  (b = true ∧ J (pre ++ [x]) W' ∧ Kp W1 W') ∨ (b = false ∧ Jx (pre ++ [x]) W')
end Go.Proofs.YtjddngbgbbbefaaGreatDoor
namespace Go.Proofs.YtjddngbgbbbefaaGreatDoor
open Go.RowKit

def isDefer : Op → Bool
  | .defer _ => true
  | _ => false
def noDefer (ops : Array Oper) : Bool := ops.toList.all fun o => !isDefer o.op

theorem wpOpIn_of {l n : Nat} {P : Program} {ops : Array Oper} {Q : Exit → Act → World → Prop} (hQ : ¬ LetsOut Q) (hnd : noDefer ops = true) {i : Nat} {K : Act → World → Prop} {a : Act} {w : World} (h : wpOp P ops Q i K a w) :
    wpOpIn (Fence.wide.inRound l) n P ops Q i K a w := by
  unfold wpOp at h
  unfold wpOpIn
  cases ho : ops[i]? with
  | none => simp only [ho] at h; exact h
  | some o =>
    simp only [ho] at h ⊢
    split
    · rename_i hw
      rw [if_pos hw] at h
      have h := h.resolve_right (fun hx => hQ hx.2)
      have hd : ∀ c, o.op ≠ .defer c := by
        intro c hc
        have := List.all_eq_true.1 hnd o (by simpa using Array.mem_of_getElem? ho)
        rw [hc] at this; simp [isDefer] at this
      refine ⟨fun _ _ => trivial, ?_⟩
      rw [Oper.semAt_plain _ _ _ hd]
      unfold Oper.wp at h
      generalize (execOp a.eval o).run P w = r at h ⊢
      cases r with
      | ok nx w' =>
        cases nx with
        | value v => exact h
        | skip => exact h
        | defer d => exact h
        | enter f args => exact ⟨fun hx => (by cases hx), callsIn_wide.2 h⟩
        | row row args => exact ⟨fun hx => (by cases hx), fun c cs _ => let ⟨v, w', r, s⟩ := h c cs; ⟨v, w', r, stepsIn_wide.2 s⟩⟩
        | round => exact h.elim
        | _ => exact h.elim
      | halt x w' => cases x <;> first | exact h | exact h.elim
    · rename_i hw
      rw [if_neg hw] at h
      exact ⟨fun _ _ => trivial, h⟩

theorem wpAnyIn_of {l n : Nat} {P : Program} {md : Region.Mode} {ops : Array Oper} {Q : Exit → Act → World → Prop} (hQ : ¬ LetsOut Q) (hnd : noDefer ops = true) :
    ∀ (fuel : Nat) (listed : Array Bool) (a : Act) (w : World), wpAny P md ops Q fuel listed a w → wpAnyIn (Fence.wide.inRound l) n P md ops Q fuel listed a w
  | 0, _, _, _, h => h
  | fuel + 1, _, _, _, h => ⟨h.1, fun i hi => wpOpIn_of hQ hnd (wpOp_mono (fun a' w' h' => wpAnyIn_of hQ hnd fuel _ a' w' h') (h.2 i hi))⟩

/-- A region that ends by itself alone. -/
def OnlyNormal (Q : Exit → Act → World → Prop) : Exit → Act → World → Prop
  | .normal, a, w => Q .normal a w
  | _, _, _ => False
theorem OnlyNormal.imp {Q : Exit → Act → World → Prop} : ∀ (e : Exit) (a : Act) (w : World), OnlyNormal Q e a w → Q e a w
  | .normal, _, _, h => h
theorem OnlyNormal.lets {Q : Exit → Act → World → Prop} : ¬ LetsOut (OnlyNormal Q) := fun ⟨_, _, h⟩ => h
theorem OnlyNormal.panic {Q : Exit → Act → World → Prop} {f : Act → Act} : ∀ (c : List PanicEntry) (a : Act) (w : World), OnlyNormal Q (.panic c) (f a) w → OnlyNormal Q (.panic c) a w := fun _ _ _ h => h.elim

section
variable {P : Program} {md : Region.Mode} {ops : Array Oper} {Q : Exit → Act → World → Prop} {S : World → Prop} {m : Nat}
/-- Whatever order is picked: S holds behind every operation but number m (a last store, which may turn what S speaks of). -/
def Held (P : Program) (md : Region.Mode) (ops : Array Oper) (Q : Exit → Act → World → Prop) (S : World → Prop) (m : Nat) : Nat → Array Bool → Act → World → Prop
  | 0, listed, a, w => Region.ready md ops listed = [] ∧ Q .normal a w
  | fuel + 1, listed, a, w => (Region.ready md ops listed = [] → Q .normal a w) ∧
    ∀ i ∈ Region.ready md ops listed, wpOp P ops Q i (fun a' w' => (i ≠ m → S w') ∧ Held P md ops Q S m fuel (listed.setIfInBounds i true) a' w') a w
theorem Held.any : ∀ (fuel : Nat) (listed : Array Bool) (a : Act) (w : World), Held P md ops Q S m fuel listed a w → wpAny P md ops Q fuel listed a w
  | 0, _, _, _, h => h
  | fuel + 1, _, _, _, h => ⟨h.1, fun i hi => wpOp_mono (fun a' w' h' => Held.any fuel _ a' w' h'.2) (h.2 i hi)⟩
/-- Does number m wait for number i? -/
def waits (md : Region.Mode) (ops : Array Oper) (m i : Nat) : Bool := match ops[m]? with
  | some om => om.after.toList.any fun e => Region.binds md e && e.on == i
  | none => true
theorem Held.first {i : Nat} {oi : Oper} {v : Value} (hi : ops[i]? = some oi) (hsel : ∀ (j : Nat) (o : Oper) cs b, ops[j]? = some o → o.op ≠ .select cs b) (hm : waits md ops m i = true)
    (hQ : ∀ c a w, Q (.panic c) (a.put oi.dst v) w → Q (.panic c) a w) :
    ∀ (fuel : Nat) (listed : Array Bool) (a : Act) (w : World),
      (∀ j oj, ops[j]? = some oj → j ≠ i → listed.getD j true = false → (∀ e ∈ oj.after, Region.binds md e = true → e.on ≠ i) → oi.apart ops oj = true) →
      i ∈ Region.ready md ops listed → YieldsIf P ops S oi v a → S w →
      Held P md ops Q S m fuel (listed.setIfInBounds i true) (a.put oi.dst v) w → Held P md ops Q S m (fuel + 1) listed a w := by
  intro fuel
  induction fuel with
  | zero =>
    intro listed a w _ hr hy hS H
    refine ⟨fun h => (by rw [h] at hr; cases hr), fun j hj => ?_⟩
    by_cases hji : j = i
    · subst hji; exact hy.wpOp hi hS ⟨fun _ => hS, H⟩
    · have h0 := ready_mono hj hji
      rw [H.1] at h0
      cases h0
  | succ fuel ih =>
    intro listed a w hfree hr hy hS H
    refine ⟨fun h => (by rw [h] at hr; cases hr), fun j hj => ?_⟩
    by_cases hji : j = i
    · subst hji; exact hy.wpOp hi hS ⟨fun _ => hS, H⟩
    · have h1 := H.2 j (ready_mono hj hji)
      obtain ⟨hjun, oj, hoj, hall⟩ := mem_ready.1 hj
      have hnot : ∀ e ∈ oj.after, Region.binds md e = true → e.on ≠ i := fun e he hb heq => by
        have h1 := hall e he hb
        have h0 := (mem_ready.1 hr).1
        rw [heq] at h1
        rcases Nat.lt_or_ge i listed.size with h' | h'
        · simp [h'] at h0 h1; rw [h0] at h1; cases h1
        · simp [Array.getElem?_eq_none h'] at h1
      have hjm : j ≠ m := by
        rintro rfl
        unfold waits at hm
        rw [hoj] at hm
        obtain ⟨e, he, hb⟩ := List.any_eq_true.1 hm
        simp only [Bool.and_eq_true, beq_iff_eq] at hb
        exact hnot e (by simpa using he) hb.1 hb.2
      have h2 := wpOp_putIf hoj (hfree j oj hoj hji hjun hnot) (fun cs b => hsel i oi cs b hi) (fun cs b => hsel j oj cs b hoj) hQ hy h1
      have hfree' : ∀ k ok, ops[k]? = some ok → k ≠ i → (listed.setIfInBounds j true).getD k true = false →
          (∀ e ∈ ok.after, Region.binds md e = true → e.on ≠ i) → oi.apart ops ok = true := fun k ok hk hki hun hno => by
        refine hfree k ok hk hki ?_ hno
        by_cases hjk : j = k
        · subst hjk; exact hjun
        · rw [getD_set_ne true hjk] at hun; exact hun
      refine wpOp_mono (fun a' w' h3 => ⟨h3.2.1, ih (listed.setIfInBounds j true) a' w' hfree' (ready_mono hr (Ne.symm hji)) h3.1 (h3.2.1 hjm) ?_⟩) h2
      rw [Array.setIfInBounds_comm _ _ hji]
      exact h3.2.2
end

/-- THE BEGINNING: the region in a round. -/
theorem regionIn_held {l n : Nat} {P : Program} {id : Nat} {ops : Array Oper} {Q : Exit → Act → World → Prop} {a : Act} {w : World} (m : Nat) (S : World → Prop) (hm : P.follows .mixedOrders = true) (hnd : noDefer ops = true)
    (h : Held P .any ops (OnlyNormal Q) S m ops.size (Array.replicate ops.size false) a w.drew) : (Code.region id ops true).wpIn (Fence.wide.inRound l) n P Q a w :=
  wpIn_mono (wpIn_region_any hm (wpAnyIn_of OnlyNormal.lets hnd _ _ _ _ (Held.any _ _ _ _ h))) OnlyNormal.imp
/-- .. and outside a round. -/
theorem region_held {P : Program} {id : Nat} {ops : Array Oper} {Q : Exit → Act → World → Prop} {a : Act} {w : World} (m : Nat) (S : World → Prop) (hm : P.follows .mixedOrders = true)
    (h : Held P .any ops (OnlyNormal Q) S m ops.size (Array.replicate ops.size false) a w.drew) : (Code.region id ops true).wp P Q a w :=
  Code.wp_mono OnlyNormal.imp (wp_region_any hm (Held.any _ _ _ _ h))

section
variable {P : Program} {md : Region.Mode} {ops : Array Oper} {Q : Exit → Act → World → Prop} {S : World → Prop} {m : Nat}
/-- An operation that yields its value wherever S holds is taken first. -/
theorem held_take (i : Nat) {oi : Oper} {v : Value} {fuel : Nat} {listed listed' : Array Bool} {a a' : Act} {w : World} (hi : ops[i]? = some oi) (hg : oi.guard = none)
    (hs : Region.noSelect ops = true) (hf : (Region.free md ops listed i && waits md ops m i && (Region.ready md ops listed).contains i) = true) (hl : listed.setIfInBounds i true = listed')
    (hS : S w) (hy : ∀ w, S w → (execOp a.eval oi).run P w = .ok (.value v) w) (ha : a.put oi.dst v = a')
    (h : Held P md ops (OnlyNormal Q) S m fuel listed' a' w) : Held P md ops (OnlyNormal Q) S m (fuel + 1) listed a w := by
  subst hl ha
  simp only [Bool.and_eq_true] at hf
  exact Held.first hi (Region.noSelect_spec hs) hf.1.2 OnlyNormal.panic fuel listed a w (Region.free_spec hi hf.1.1) (by simpa using hf.2) (Or.inl ⟨by simp [Region.wanted, hg], hy⟩) hS h
/-- One operation alone may come up. -/
theorem held_one (i : Nat) {oi : Oper} {fuel : Nat} {listed listed' : Array Bool} {a : Act} {w : World} (hr : Region.ready md ops listed = [i]) (hi : ops[i]? = some oi) (hg : oi.guard = none) (hl : listed.setIfInBounds i true = listed')
    (h : ∀ K' : Act → World → Prop, Go.Shut (∀ a' w', (i ≠ m → S w') → Held P md ops (OnlyNormal Q) S m fuel listed' a' w' → K' a' w') → oi.wp P a w K' (OnlyNormal Q)) : Held P md ops (OnlyNormal Q) S m (fuel + 1) listed a w := by
  subst hl
  refine ⟨fun h0 => (by rw [hr] at h0; cases h0), fun j hj => ?_⟩
  rw [hr] at hj
  obtain rfl : j = i := by simpa using hj
  unfold wpOp
  simp only [hi]
  rw [if_pos (by simp [Region.wanted, hg])]
  exact Or.inl (h _ (fun a' w' h1 h2 => ⟨h1, h2⟩))
/-- The same two, where the operation's guard says that it is wanted. -/
theorem held_take_g (i : Nat) {oi : Oper} {v : Value} {fuel : Nat} {listed listed' : Array Bool} {a a' : Act} {w : World} (hi : ops[i]? = some oi) (hg : Region.wanted oi (yielded ops a.tmps) = true)
    (hs : Region.noSelect ops = true) (hf : (Region.free md ops listed i && waits md ops m i && (Region.ready md ops listed).contains i) = true) (hl : listed.setIfInBounds i true = listed')
    (hS : S w) (hy : ∀ w, S w → (execOp a.eval oi).run P w = .ok (.value v) w) (ha : a.put oi.dst v = a')
    (h : Held P md ops (OnlyNormal Q) S m fuel listed' a' w) : Held P md ops (OnlyNormal Q) S m (fuel + 1) listed a w := by
  subst hl ha
  simp only [Bool.and_eq_true] at hf
  exact Held.first hi (Region.noSelect_spec hs) hf.1.2 OnlyNormal.panic fuel listed a w (Region.free_spec hi hf.1.1) (by simpa using hf.2) (Or.inl ⟨hg, hy⟩) hS h
theorem held_one_g (i : Nat) {oi : Oper} {fuel : Nat} {listed listed' : Array Bool} {a : Act} {w : World} (hr : Region.ready md ops listed = [i]) (hi : ops[i]? = some oi) (hg : Region.wanted oi (yielded ops a.tmps) = true) (hl : listed.setIfInBounds i true = listed')
    (h : ∀ K' : Act → World → Prop, Go.Shut (∀ a' w', (i ≠ m → S w') → Held P md ops (OnlyNormal Q) S m fuel listed' a' w' → K' a' w') → oi.wp P a w K' (OnlyNormal Q)) : Held P md ops (OnlyNormal Q) S m (fuel + 1) listed a w := by
  subst hl
  refine ⟨fun h0 => (by rw [hr] at h0; cases h0), fun j hj => ?_⟩
  rw [hr] at hj
  obtain rfl : j = i := by simpa using hj
  unfold wpOp
  simp only [hi]
  rw [if_pos hg]
  exact Or.inl (h _ (fun a' w' h1 h2 => ⟨h1, h2⟩))
/-- The same, with the operation's parts named: the frame behind it stays flat. -/
theorem hd_take (i : Nat) {dst : Option Tmp} {op : Op} {ty : TypeId} {pos : String} {aft : Array Edge} {gd : Option (Nat × Bool)} {v : Value} {fuel : Nat} {listed listed' : Array Bool} {a a' : Act} {w : World} (hi : ops[i]? = some ⟨dst, op, ty, pos, aft, gd⟩) (hg : Region.wanted (⟨dst, op, ty, pos, aft, gd⟩ : Oper) (yielded ops a.tmps) = true)
    (hs : Region.noSelect ops = true) (hf : (Region.free md ops listed i && waits md ops m i && (Region.ready md ops listed).contains i) = true) (hl : listed.setIfInBounds i true = listed')
    (hS : S w) (hy : ∀ w, S w → (execOp a.eval ⟨dst, op, ty, pos, aft, gd⟩).run P w = .ok (.value v) w) (ha : a.put dst v = a')
    (h : Held P md ops (OnlyNormal Q) S m fuel listed' a' w) : Held P md ops (OnlyNormal Q) S m (fuel + 1) listed a w := held_take_g i hi hg hs hf hl hS hy ha h
theorem hd_skip (i : Nat) {dst : Option Tmp} {op : Op} {ty : TypeId} {pos : String} {aft : Array Edge} {gd : Option (Nat × Bool)} {fuel : Nat} {listed listed' : Array Bool} {a a' : Act} {w : World} (hi : ops[i]? = some ⟨dst, op, ty, pos, aft, gd⟩) (hg : Region.wanted (⟨dst, op, ty, pos, aft, gd⟩ : Oper) (yielded ops a.tmps) = false)
    (hs : Region.noSelect ops = true) (hf : (Region.free md ops listed i && waits md ops m i && (Region.ready md ops listed).contains i) = true) (hl : listed.setIfInBounds i true = listed')
    (hS : S w) (ha : a.put dst undef = a') (h : Held P md ops (OnlyNormal Q) S m fuel listed' a' w) : Held P md ops (OnlyNormal Q) S m (fuel + 1) listed a w := by
  subst hl ha
  simp only [Bool.and_eq_true] at hf
  exact Held.first hi (Region.noSelect_spec hs) hf.1.2 OnlyNormal.panic fuel listed a w (Region.free_spec hi hf.1.1) (by simpa using hf.2) (Or.inr ⟨hg, rfl⟩) hS h
theorem hd_one (i : Nat) {dst : Option Tmp} {op : Op} {ty : TypeId} {pos : String} {aft : Array Edge} {gd : Option (Nat × Bool)} {fuel : Nat} {listed listed' : Array Bool} {a : Act} {w : World} (hr : Region.ready md ops listed = [i]) (hi : ops[i]? = some ⟨dst, op, ty, pos, aft, gd⟩) (hg : Region.wanted (⟨dst, op, ty, pos, aft, gd⟩ : Oper) (yielded ops a.tmps) = true) (hl : listed.setIfInBounds i true = listed')
    (h : ∀ K' : Act → World → Prop, Go.Shut (∀ a' w', (i ≠ m → S w') → Held P md ops (OnlyNormal Q) S m fuel listed' a' w' → K' a' w') → (⟨dst, op, ty, pos, aft, gd⟩ : Oper).wp P a w K' (OnlyNormal Q)) : Held P md ops (OnlyNormal Q) S m (fuel + 1) listed a w := held_one_g i hr hi hg hl h
theorem held_done {listed : Array Bool} {a : Act} {w : World} (hr : Region.ready md ops listed = []) (h : Q .normal a w) : Held P md ops (OnlyNormal Q) S m 0 listed a w := ⟨hr, h⟩
end
section
variable {P : Program} {md : Region.Mode} {ops : Array Oper} {Q : Exit → Act → World → Prop} {S : World → Prop} {m : Nat}
/-- One of two operations may come up. -/
theorem hd_two (i j : Nat) {dst dst' : Option Tmp} {op op' : Op} {ty ty' : TypeId} {pos pos' : String} {aft aft' : Array Edge} {gd gd' : Option (Nat × Bool)} {fuel : Nat} {listed li lj : Array Bool} {a : Act} {w : World} (hr : Region.ready md ops listed = [i, j])
    (hi : ops[i]? = some ⟨dst, op, ty, pos, aft, gd⟩) (hgi : Region.wanted (⟨dst, op, ty, pos, aft, gd⟩ : Oper) (yielded ops a.tmps) = true) (hli : listed.setIfInBounds i true = li)
    (hj : ops[j]? = some ⟨dst', op', ty', pos', aft', gd'⟩) (hgj : Region.wanted (⟨dst', op', ty', pos', aft', gd'⟩ : Oper) (yielded ops a.tmps) = true) (hlj : listed.setIfInBounds j true = lj)
    (h1 : ∀ K' : Act → World → Prop, Go.Shut (∀ a' w', (i ≠ m → S w') → Held P md ops (OnlyNormal Q) S m fuel li a' w' → K' a' w') → (⟨dst, op, ty, pos, aft, gd⟩ : Oper).wp P a w K' (OnlyNormal Q))
    (h2 : ∀ K' : Act → World → Prop, Go.Shut (∀ a' w', (j ≠ m → S w') → Held P md ops (OnlyNormal Q) S m fuel lj a' w' → K' a' w') → (⟨dst', op', ty', pos', aft', gd'⟩ : Oper).wp P a w K' (OnlyNormal Q)) :
    Held P md ops (OnlyNormal Q) S m (fuel + 1) listed a w := by
  subst hli hlj
  refine ⟨fun h0 => (by rw [hr] at h0; cases h0), fun k hk => ?_⟩
  rw [hr] at hk
  rcases List.mem_cons.1 hk with rfl | hk
  · unfold wpOp
    simp only [hi]
    rw [if_pos hgi]
    exact Or.inl (h1 _ (fun a' w' h1 h2 => ⟨h1, h2⟩))
  · obtain rfl : k = j := by simpa using hk
    unfold wpOp
    simp only [hj]
    rw [if_pos hgj]
    exact Or.inl (h2 _ (fun a' w' h1 h2 => ⟨h1, h2⟩))
end
end Go.Proofs.YtjddngbgbbbefaaGreatDoor
namespace Go.Proofs.YtjddngbgbbbefaaGreatDoor
open Go.RowKit

theorem wpOpIn_ofW {n : Nat} {P : Program} {ops : Array Oper} {Q : Exit → Act → World → Prop} (hQ : ¬ LetsOut Q) {i : Nat} {K : Act → World → Prop} {a : Act} {w : World} (h : wpOp P ops Q i K a w) :
    wpOpIn Fence.wide n P ops Q i K a w := by
  unfold wpOp at h
  unfold wpOpIn
  cases ho : ops[i]? with
  | none => simp only [ho] at h; exact h
  | some o =>
    simp only [ho] at h ⊢
    split
    · rename_i hw
      rw [if_pos hw] at h
      have h := h.resolve_right (fun hx => hQ hx.2)
      refine ⟨fun _ _ => trivial, ?_⟩
      rw [show Fence.wide.round = none from rfl, Oper.semAt_none]
      unfold Oper.wp at h
      generalize (execOp a.eval o).run P w = r at h ⊢
      cases r with
      | ok nx w' =>
        cases nx with
        | value v => exact h
        | skip => exact h
        | defer d => exact h
        | enter f args => exact ⟨fun hx => (by cases hx), callsIn_wide.2 h⟩
        | row row args => exact ⟨fun hx => (by cases hx), fun c cs _ => let ⟨v, w', r, s⟩ := h c cs; ⟨v, w', r, stepsIn_wide.2 s⟩⟩
        | round => exact h.elim
        | _ => exact h.elim
      | halt x w' => cases x <;> first | exact h | exact h.elim
    · rename_i hw
      rw [if_neg hw] at h
      exact ⟨fun _ _ => trivial, h⟩

section
variable {n : Nat} {P : Program} {md : Region.Mode} {ops : Array Oper} {Q : Exit → Act → World → Prop} {S : World → Prop} {m : Nat}
/-- What an operation that is listed waits for is listed. -/
def Closed (md : Region.Mode) (ops : Array Oper) (listed : Array Bool) : Prop := ∀ j oj, ops[j]? = some oj → listed.getD j false = true → ∀ e ∈ oj.after, Region.binds md e = true → listed.getD e.on false = true
def closedB (md : Region.Mode) (ops : Array Oper) (listed : Array Bool) : Bool := (List.range ops.size).all fun j => match ops[j]? with
  | some oj => !(listed.getD j false) || oj.after.toList.all fun e => !(Region.binds md e) || listed.getD e.on false
  | none => true
theorem closed_of {md : Region.Mode} {ops : Array Oper} {listed : Array Bool} (h : closedB md ops listed = true) : Closed md ops listed := by
  intro j oj hj hl e he hb
  have h1 := List.all_eq_true.1 h j (List.mem_range.2 (Array.getElem?_eq_some_iff.1 hj).1)
  rw [hj] at h1
  simp only [hl, Bool.not_true, Bool.false_or] at h1
  have h2 := List.all_eq_true.1 h1 e (by simpa using he)
  rw [hb] at h2
  simpa using h2
theorem Closed.add {md : Region.Mode} {ops : Array Oper} {listed : Array Bool} (h : Closed md ops listed) {i : Nat} (hi : i ∈ Region.ready md ops listed) : Closed md ops (listed.setIfInBounds i true) := by
  obtain ⟨_, o, ho, hall⟩ := mem_ready.1 hi
  have hm : ∀ k, listed.getD k false = true → (listed.setIfInBounds i true).getD k false = true := by
    intro k hk
    by_cases hki : i = k
    · subst hki
      rcases Nat.lt_or_ge i listed.size with h' | h'
      · simp [h']
      · simp [Array.getElem?_eq_none h'] at hk
    · rw [getD_set_ne false hki]; exact hk
  intro j oj hj hl e he hb
  by_cases hji : i = j
  · subst hji
    rw [ho] at hj; cases hj
    exact hm _ (hall e he hb)
  · rw [getD_set_ne false hji] at hl
    exact hm _ (h j oj hj hl e he hb)
/-- Does number m wait for number i, over others? -/
def waitsT (md : Region.Mode) (ops : Array Oper) : Nat → Nat → Nat → Bool
  | 0, _, _ => false
  | k + 1, m, i => match ops[m]? with
    | some om => om.after.toList.any fun e => Region.binds md e && (e.on == i || waitsT md ops k e.on i)
    | none => false
theorem waitsT_listed {md : Region.Mode} {ops : Array Oper} {listed : Array Bool} (hc : Closed md ops listed) {i : Nat} : ∀ (k m : Nat), waitsT md ops k m i = true → (∀ om, ops[m]? = some om → ∀ e ∈ om.after, Region.binds md e = true → listed.getD e.on false = true) → listed.getD i false = true
  | 0, _, h, _ => by cases h
  | k + 1, m, h, hl => by
    unfold waitsT at h
    split at h
    · rename_i om hom
      obtain ⟨e, he, hb⟩ := List.any_eq_true.1 h
      simp only [Bool.and_eq_true, Bool.or_eq_true, beq_iff_eq] at hb
      have h1 := hl om hom e (by simpa using he) hb.1
      rcases hb.2 with h2 | h2
      · rw [← h2]; exact h1
      · exact waitsT_listed hc k e.on h2 (fun o ho f hf hfb => hc e.on o ho h1 f hf hfb)
    · cases h
/-- Whatever order is picked: S holds behind every operation but number m, the call of yield, which is taken inside the fence. -/
def HeldY (n : Nat) (P : Program) (md : Region.Mode) (ops : Array Oper) (Q : Exit → Act → World → Prop) (S : World → Prop) (m : Nat) : Nat → Array Bool → Act → World → Prop
  | 0, listed, a, w => Region.ready md ops listed = [] ∧ Q .normal a w
  | fuel + 1, listed, a, w => (Region.ready md ops listed = [] → Q .normal a w) ∧
    ∀ i ∈ Region.ready md ops listed, (i ≠ m → wpOp P ops Q i (fun a' w' => S w' ∧ HeldY n P md ops Q S m fuel (listed.setIfInBounds i true) a' w') a w) ∧
      (i = m → wpOpIn Fence.wide n P ops Q i (wpAnyIn Fence.wide n P md ops Q fuel (listed.setIfInBounds i true)) a w)
theorem HeldY.any (hQ : ¬ LetsOut Q) : ∀ (fuel : Nat) (listed : Array Bool) (a : Act) (w : World), HeldY n P md ops Q S m fuel listed a w → wpAnyIn Fence.wide n P md ops Q fuel listed a w
  | 0, _, _, _, h => h
  | fuel + 1, _, _, _, h => ⟨h.1, fun i hi => by
      by_cases him : i = m
      · exact (h.2 i hi).2 him
      · exact wpOpIn_ofW hQ (wpOp_mono (fun a' w' h' => HeldY.any hQ fuel _ a' w' h'.2) ((h.2 i hi).1 him))⟩
theorem HeldY.first {i : Nat} {oi : Oper} {v : Value} (hi : ops[i]? = some oi) (hsel : ∀ (j : Nat) (o : Oper) cs b, ops[j]? = some o → o.op ≠ .select cs b) (him : i ≠ m) (hm : waitsT md ops 20 m i = true)
    (hQ : ∀ c a w, Q (.panic c) (a.put oi.dst v) w → Q (.panic c) a w) :
    ∀ (fuel : Nat) (listed : Array Bool) (a : Act) (w : World), Closed md ops listed →
      (∀ j oj, ops[j]? = some oj → j ≠ i → listed.getD j true = false → (∀ e ∈ oj.after, Region.binds md e = true → e.on ≠ i) → oi.apart ops oj = true) →
      i ∈ Region.ready md ops listed → YieldsIf P ops S oi v a → S w →
      HeldY n P md ops Q S m fuel (listed.setIfInBounds i true) (a.put oi.dst v) w → HeldY n P md ops Q S m (fuel + 1) listed a w := by
  intro fuel
  have hmw : ∀ (listed : Array Bool), Closed md ops listed → i ∈ Region.ready md ops listed → m ∉ Region.ready md ops listed := by
    intro listed hc hr hj
    obtain ⟨_, oj, hoj, hall⟩ := mem_ready.1 hj
    have h1 := waitsT_listed hc 20 m hm (fun om hom e he hb => by rw [hoj] at hom; cases hom; exact hall e he hb)
    have h0 := (mem_ready.1 hr).1
    rcases Nat.lt_or_ge i listed.size with h' | h'
    · simp [h'] at h0 h1; rw [h0] at h1; cases h1
    · simp [Array.getElem?_eq_none h'] at h1
  induction fuel with
  | zero =>
    intro listed a w hc _ hr hy hS H
    refine ⟨fun h => (by rw [h] at hr; cases hr), fun j hj => ⟨fun hjm => ?_, fun hjm => absurd (hjm ▸ hj) (hmw listed hc hr)⟩⟩
    by_cases hji : j = i
    · subst hji; exact hy.wpOp hi hS ⟨hS, H⟩
    · have h0 := ready_mono hj hji
      rw [H.1] at h0
      cases h0
  | succ fuel ih =>
    intro listed a w hc hfree hr hy hS H
    refine ⟨fun h => (by rw [h] at hr; cases hr), fun j hj => ⟨fun hjm => ?_, fun hjm => absurd (hjm ▸ hj) (hmw listed hc hr)⟩⟩
    by_cases hji : j = i
    · subst hji; exact hy.wpOp hi hS ⟨hS, H⟩
    · have h1 := (H.2 j (ready_mono hj hji)).1 hjm
      obtain ⟨hjun, oj, hoj, hall⟩ := mem_ready.1 hj
      have hnot : ∀ e ∈ oj.after, Region.binds md e = true → e.on ≠ i := fun e he hb heq => by
        have h1 := hall e he hb
        have h0 := (mem_ready.1 hr).1
        rw [heq] at h1
        rcases Nat.lt_or_ge i listed.size with h' | h'
        · simp [h'] at h0 h1; rw [h0] at h1; cases h1
        · simp [Array.getElem?_eq_none h'] at h1
      have h2 := wpOp_putIf hoj (hfree j oj hoj hji hjun hnot) (fun cs b => hsel i oi cs b hi) (fun cs b => hsel j oj cs b hoj) hQ hy h1
      have hfree' : ∀ k ok, ops[k]? = some ok → k ≠ i → (listed.setIfInBounds j true).getD k true = false →
          (∀ e ∈ ok.after, Region.binds md e = true → e.on ≠ i) → oi.apart ops ok = true := fun k ok hk hki hun hno => by
        refine hfree k ok hk hki ?_ hno
        by_cases hjk : j = k
        · subst hjk; exact hjun
        · rw [getD_set_ne true hjk] at hun; exact hun
      refine wpOp_mono (fun a' w' h3 => ⟨h3.2.1, ih (listed.setIfInBounds j true) a' w' (hc.add hj) hfree' (ready_mono hr (Ne.symm hji)) h3.1 h3.2.1 ?_⟩) h2
      rw [Array.setIfInBounds_comm _ _ hji]
      exact h3.2.2
end

/-- THE BEGINNING: the region in an iterator's body. -/
theorem regionY_held {n : Nat} {P : Program} {id : Nat} {ops : Array Oper} {Q : Exit → Act → World → Prop} {a : Act} {w : World} (m : Nat) (S : World → Prop) (hm : P.follows .mixedOrders = true)
    (h : HeldY n P .any ops (OnlyNormal Q) S m ops.size (Array.replicate ops.size false) a w.drew) : (Code.region id ops true).wpIn Fence.wide n P Q a w :=
  wpIn_mono (wpIn_region_any hm (HeldY.any OnlyNormal.lets _ _ _ _ h)) OnlyNormal.imp

section
variable {n : Nat} {P : Program} {md : Region.Mode} {ops : Array Oper} {Q : Exit → Act → World → Prop} {S : World → Prop} {m : Nat}
/-- An operation that yields its value wherever S holds is taken first. -/
theorem hy_take (i : Nat) {dst : Option Tmp} {op : Op} {ty : TypeId} {pos : String} {aft : Array Edge} {gd : Option (Nat × Bool)} {v : Value} {fuel : Nat} {listed listed' : Array Bool} {a a' : Act} {w : World} (hi : ops[i]? = some ⟨dst, op, ty, pos, aft, gd⟩) (hg : Region.wanted (⟨dst, op, ty, pos, aft, gd⟩ : Oper) (yielded ops a.tmps) = true)
    (hs : Region.noSelect ops = true) (hf : (Region.free md ops listed i && waitsT md ops 20 m i && (Region.ready md ops listed).contains i && i != m && closedB md ops listed) = true) (hl : listed.setIfInBounds i true = listed')
    (hS : S w) (hy : ∀ w, S w → (execOp a.eval ⟨dst, op, ty, pos, aft, gd⟩).run P w = .ok (.value v) w) (ha : a.put dst v = a')
    (h : HeldY n P md ops (OnlyNormal Q) S m fuel listed' a' w) : HeldY n P md ops (OnlyNormal Q) S m (fuel + 1) listed a w := by
  subst hl ha
  simp only [Bool.and_eq_true, bne_iff_ne] at hf
  exact HeldY.first hi (Region.noSelect_spec hs) hf.1.2 hf.1.1.1.2 OnlyNormal.panic fuel listed a w (closed_of hf.2) (Region.free_spec hi hf.1.1.1.1) (by simpa using hf.1.1.2) (Or.inl ⟨hg, hy⟩) hS h
/-- One operation alone may come up. -/
theorem hy_one (i : Nat) {dst : Option Tmp} {op : Op} {ty : TypeId} {pos : String} {aft : Array Edge} {gd : Option (Nat × Bool)} {fuel : Nat} {listed listed' : Array Bool} {a : Act} {w : World} (hr : Region.ready md ops listed = [i]) (him : i ≠ m) (hi : ops[i]? = some ⟨dst, op, ty, pos, aft, gd⟩) (hg : Region.wanted (⟨dst, op, ty, pos, aft, gd⟩ : Oper) (yielded ops a.tmps) = true) (hl : listed.setIfInBounds i true = listed')
    (h : ∀ K' : Act → World → Prop, Go.Shut (∀ a' w', S w' → HeldY n P md ops (OnlyNormal Q) S m fuel listed' a' w' → K' a' w') → (⟨dst, op, ty, pos, aft, gd⟩ : Oper).wp P a w K' (OnlyNormal Q)) : HeldY n P md ops (OnlyNormal Q) S m (fuel + 1) listed a w := by
  subst hl
  refine ⟨fun h0 => (by rw [hr] at h0; cases h0), fun j hj => ?_⟩
  rw [hr] at hj
  obtain rfl : j = i := by simpa using hj
  refine ⟨fun _ => ?_, fun h => absurd h him⟩
  unfold wpOp
  simp only [hi]
  rw [if_pos hg]
  exact Or.inl (h _ (fun a' w' h1 h2 => ⟨h1, h2⟩))
/-- The call of yield, alone. -/
theorem hy_last {dst : Option Tmp} {op : Op} {ty : TypeId} {pos : String} {aft : Array Edge} {gd : Option (Nat × Bool)} {fuel : Nat} {listed listed' : Array Bool} {a : Act} {w : World} (hr : Region.ready md ops listed = [m]) (hi : ops[m]? = some ⟨dst, op, ty, pos, aft, gd⟩) (hg : Region.wanted (⟨dst, op, ty, pos, aft, gd⟩ : Oper) (yielded ops a.tmps) = true) (hl : listed.setIfInBounds m true = listed')
    (h : ∀ K' : Act → World → Prop, Go.Shut (∀ a' w', wpAnyIn Fence.wide n P md ops (OnlyNormal Q) fuel listed' a' w' → K' a' w') → (⟨dst, op, ty, pos, aft, gd⟩ : Oper).wpIn Fence.wide n P a w K' (OnlyNormal Q)) : HeldY n P md ops (OnlyNormal Q) S m (fuel + 1) listed a w := by
  subst hl
  refine ⟨fun h0 => (by rw [hr] at h0; cases h0), fun j hj => ?_⟩
  rw [hr] at hj
  obtain rfl : j = m := by simpa using hj
  refine ⟨fun h => absurd rfl h, fun _ => ?_⟩
  unfold wpOpIn
  simp only [hi]
  rw [if_pos hg]
  exact h _ (fun a' w' h1 => h1)
/-- Behind the call of yield: one operation alone. -/
theorem ay_one (i : Nat) {dst : Option Tmp} {op : Op} {ty : TypeId} {pos : String} {aft : Array Edge} {gd : Option (Nat × Bool)} {fuel : Nat} {listed listed' : Array Bool} {a : Act} {w : World} (hr : Region.ready md ops listed = [i]) (hi : ops[i]? = some ⟨dst, op, ty, pos, aft, gd⟩) (hg : Region.wanted (⟨dst, op, ty, pos, aft, gd⟩ : Oper) (yielded ops a.tmps) = true) (hl : listed.setIfInBounds i true = listed')
    (h : ∀ K' : Act → World → Prop, Go.Shut (∀ a' w', wpAnyIn Fence.wide n P md ops (OnlyNormal Q) fuel listed' a' w' → K' a' w') → (⟨dst, op, ty, pos, aft, gd⟩ : Oper).wpIn Fence.wide n P a w K' (OnlyNormal Q)) : wpAnyIn Fence.wide n P md ops (OnlyNormal Q) (fuel + 1) listed a w := by
  subst hl
  refine ⟨fun h0 => (by rw [hr] at h0; cases h0), fun j hj => ?_⟩
  rw [hr] at hj
  obtain rfl : j = i := by simpa using hj
  unfold wpOpIn
  simp only [hi]
  rw [if_pos hg]
  exact h _ (fun a' w' h1 => h1)
theorem ay_done {listed : Array Bool} {a : Act} {w : World} (hr : Region.ready md ops listed = []) (h : Q .normal a w) : wpAnyIn Fence.wide n P md ops (OnlyNormal Q) 0 listed a w := ⟨hr, h⟩
end
end Go.Proofs.YtjddngbgbbbefaaGreatDoor
