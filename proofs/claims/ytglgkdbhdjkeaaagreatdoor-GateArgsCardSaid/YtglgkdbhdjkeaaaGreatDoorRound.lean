/-
  A region that draws its order, in the body of a range over a function: from the walk outside the round. No program in sight.
-/
import Derived.Test.YtglgkdbhdjkeaaaGreatDoorBase
import Derived.RangeFuncNested
import Derived.RangeFuncBound
import Derived.RangeFuncCalls
import Derived.RangeFuncLeaves
import Derived.RangeFuncBox
import Derived.Shelf.Abstract
import Derived.Shelf.RegionOpen
import Derived.OwnWalkIn
import Derived.TacticsInMore
import Derived.LoopNIn
import Derived.LoopIn
import Derived.Maps.AppendAt
import Derived.Deep.RegionHeld3
namespace Go.Proofs.YtglgkdbhdjkeaaaGreatDoor
open Go.RowKit

def isDefer : Op → Bool
  | .defer _ => true
  | _ => false
def noDefer (ops : Array Oper) : Bool := ops.toList.all fun o => !isDefer o.op

theorem wpOpIn_of {l n : Nat} {P : Program} {ops : Array Oper} {Q : Exit → Act → World → Prop} (hQ : ¬ LetsOut Q) (hnd : noDefer ops = true) {i : Nat} {K : Act → World → Prop} {a : Act} {w : World} (h : wpOp P ops Q i K a w) :
    wpOpIn (Fence.wide.inRound l) n P ops Q i K a w := by
  unfold wpOp at h
  unfold wpOpIn
  cases ho : ops[i]? with
  | none => simp only [ho] at h; exact h
  | some o =>
    simp only [ho] at h ⊢
    split
    · rename_i hw
      rw [if_pos hw] at h
      have h := h.resolve_right (fun hx => hQ hx.2)
      have hd : ∀ c, o.op ≠ .defer c := by
        intro c hc
        have := List.all_eq_true.1 hnd o (by simpa using Array.mem_of_getElem? ho)
        rw [hc] at this; simp [isDefer] at this
      refine ⟨fun _ _ => trivial, ?_⟩
      rw [Oper.semAt_plain _ _ _ hd]
      unfold Oper.wp at h
      generalize (execOp a.eval o).run P w = r at h ⊢
      cases r with
      | ok nx w' =>
        cases nx with
        | value v => exact h
        | skip => exact h
        | defer d => exact h
        | enter f args => exact ⟨fun hx => (by cases hx), callsIn_wide.2 h⟩
        | row row args => exact ⟨fun hx => (by cases hx), fun c cs _ => let ⟨v, w', r, s⟩ := h c cs; ⟨v, w', r, stepsIn_wide.2 s⟩⟩
        | round => exact h.elim
        | _ => exact h.elim
      | halt x w' => cases x <;> first | exact h | exact h.elim
    · rename_i hw
      rw [if_neg hw] at h
      exact ⟨fun _ _ => trivial, h⟩

theorem wpAnyIn_of {l n : Nat} {P : Program} {md : Region.Mode} {ops : Array Oper} {Q : Exit → Act → World → Prop} (hQ : ¬ LetsOut Q) (hnd : noDefer ops = true) :
    ∀ (fuel : Nat) (listed : Array Bool) (a : Act) (w : World), wpAny P md ops Q fuel listed a w → wpAnyIn (Fence.wide.inRound l) n P md ops Q fuel listed a w
  | 0, _, _, _, h => h
  | fuel + 1, _, _, _, h => ⟨h.1, fun i hi => wpOpIn_of hQ hnd (wpOp_mono (fun a' w' h' => wpAnyIn_of hQ hnd fuel _ a' w' h') (h.2 i hi))⟩

/-- A region that ends by itself alone. -/
def OnlyNormal (Q : Exit → Act → World → Prop) : Exit → Act → World → Prop
  | .normal, a, w => Q .normal a w
  | _, _, _ => False
theorem OnlyNormal.imp {Q : Exit → Act → World → Prop} : ∀ (e : Exit) (a : Act) (w : World), OnlyNormal Q e a w → Q e a w
  | .normal, _, _, h => h
theorem OnlyNormal.lets {Q : Exit → Act → World → Prop} : ¬ LetsOut (OnlyNormal Q) := fun ⟨_, _, h⟩ => h
theorem OnlyNormal.panic {Q : Exit → Act → World → Prop} {f : Act → Act} : ∀ (c : List PanicEntry) (a : Act) (w : World), OnlyNormal Q (.panic c) (f a) w → OnlyNormal Q (.panic c) a w := fun _ _ _ h => h.elim

section
variable {P : Program} {md : Region.Mode} {ops : Array Oper} {Q : Exit → Act → World → Prop} {S : World → Prop} {m : Nat}
/-- Whatever order is picked: S holds behind every operation but number m (a last store, which may turn what S speaks of). -/
def Held (P : Program) (md : Region.Mode) (ops : Array Oper) (Q : Exit → Act → World → Prop) (S : World → Prop) (m : Nat) : Nat → Array Bool → Act → World → Prop
  | 0, listed, a, w => Region.ready md ops listed = [] ∧ Q .normal a w
  | fuel + 1, listed, a, w => (Region.ready md ops listed = [] → Q .normal a w) ∧
    ∀ i ∈ Region.ready md ops listed, wpOp P ops Q i (fun a' w' => (i ≠ m → S w') ∧ Held P md ops Q S m fuel (listed.setIfInBounds i true) a' w') a w
theorem Held.any : ∀ (fuel : Nat) (listed : Array Bool) (a : Act) (w : World), Held P md ops Q S m fuel listed a w → wpAny P md ops Q fuel listed a w
  | 0, _, _, _, h => h
  | fuel + 1, _, _, _, h => ⟨h.1, fun i hi => wpOp_mono (fun a' w' h' => Held.any fuel _ a' w' h'.2) (h.2 i hi)⟩
/-- Does number m wait for number i? -/
def waits (md : Region.Mode) (ops : Array Oper) (m i : Nat) : Bool := match ops[m]? with
  | some om => om.after.toList.any fun e => Region.binds md e && e.on == i
  | none => true
theorem Held.first {i : Nat} {oi : Oper} {v : Value} (hi : ops[i]? = some oi) (hsel : ∀ (j : Nat) (o : Oper) cs b, ops[j]? = some o → o.op ≠ .select cs b) (hm : waits md ops m i = true)
    (hQ : ∀ c a w, Q (.panic c) (a.put oi.dst v) w → Q (.panic c) a w) :
    ∀ (fuel : Nat) (listed : Array Bool) (a : Act) (w : World),
      (∀ j oj, ops[j]? = some oj → j ≠ i → listed.getD j true = false → (∀ e ∈ oj.after, Region.binds md e = true → e.on ≠ i) → oi.apart ops oj = true) →
      i ∈ Region.ready md ops listed → YieldsIf P ops S oi v a → S w →
      Held P md ops Q S m fuel (listed.setIfInBounds i true) (a.put oi.dst v) w → Held P md ops Q S m (fuel + 1) listed a w := by
  intro fuel
  induction fuel with
  | zero =>
    intro listed a w _ hr hy hS H
    refine ⟨fun h => (by rw [h] at hr; cases hr), fun j hj => ?_⟩
    by_cases hji : j = i
    · subst hji; exact hy.wpOp hi hS ⟨fun _ => hS, H⟩
    · have h0 := ready_mono hj hji
      rw [H.1] at h0
      cases h0
  | succ fuel ih =>
    intro listed a w hfree hr hy hS H
    refine ⟨fun h => (by rw [h] at hr; cases hr), fun j hj => ?_⟩
    by_cases hji : j = i
    · subst hji; exact hy.wpOp hi hS ⟨fun _ => hS, H⟩
    · have h1 := H.2 j (ready_mono hj hji)
      obtain ⟨hjun, oj, hoj, hall⟩ := mem_ready.1 hj
      have hnot : ∀ e ∈ oj.after, Region.binds md e = true → e.on ≠ i := fun e he hb heq => by
        have h1 := hall e he hb
        have h0 := (mem_ready.1 hr).1
        rw [heq] at h1
        rcases Nat.lt_or_ge i listed.size with h' | h'
        · simp [h'] at h0 h1; rw [h0] at h1; cases h1
        · simp [Array.getElem?_eq_none h'] at h1
      have hjm : j ≠ m := by
        rintro rfl
        unfold waits at hm
        rw [hoj] at hm
        obtain ⟨e, he, hb⟩ := List.any_eq_true.1 hm
        simp only [Bool.and_eq_true, beq_iff_eq] at hb
        exact hnot e (by simpa using he) hb.1 hb.2
      have h2 := wpOp_putIf hoj (hfree j oj hoj hji hjun hnot) (fun cs b => hsel i oi cs b hi) (fun cs b => hsel j oj cs b hoj) hQ hy h1
      have hfree' : ∀ k ok, ops[k]? = some ok → k ≠ i → (listed.setIfInBounds j true).getD k true = false →
          (∀ e ∈ ok.after, Region.binds md e = true → e.on ≠ i) → oi.apart ops ok = true := fun k ok hk hki hun hno => by
        refine hfree k ok hk hki ?_ hno
        by_cases hjk : j = k
        · subst hjk; exact hjun
        · rw [getD_set_ne true hjk] at hun; exact hun
      refine wpOp_mono (fun a' w' h3 => ⟨h3.2.1, ih (listed.setIfInBounds j true) a' w' hfree' (ready_mono hr (Ne.symm hji)) h3.1 (h3.2.1 hjm) ?_⟩) h2
      rw [Array.setIfInBounds_comm _ _ hji]
      exact h3.2.2
end

/-- THE BEGINNING: the region in a round. -/
theorem regionIn_held {l n : Nat} {P : Program} {id : Nat} {ops : Array Oper} {Q : Exit → Act → World → Prop} {a : Act} {w : World} (m : Nat) (S : World → Prop) (hm : P.follows .mixedOrders = true) (hnd : noDefer ops = true)
    (h : Held P .any ops (OnlyNormal Q) S m ops.size (Array.replicate ops.size false) a w.drew) : (Code.region id ops true).wpIn (Fence.wide.inRound l) n P Q a w :=
  wpIn_mono (wpIn_region_any hm (wpAnyIn_of OnlyNormal.lets hnd _ _ _ _ (Held.any _ _ _ _ h))) OnlyNormal.imp
/-- .. and outside a round. -/
theorem region_held {P : Program} {id : Nat} {ops : Array Oper} {Q : Exit → Act → World → Prop} {a : Act} {w : World} (m : Nat) (S : World → Prop) (hm : P.follows .mixedOrders = true)
    (h : Held P .any ops (OnlyNormal Q) S m ops.size (Array.replicate ops.size false) a w.drew) : (Code.region id ops true).wp P Q a w :=
  Code.wp_mono OnlyNormal.imp (wp_region_any hm (Held.any _ _ _ _ h))

section
variable {P : Program} {md : Region.Mode} {ops : Array Oper} {Q : Exit → Act → World → Prop} {S : World → Prop} {m : Nat}
/-- An operation that yields its value wherever S holds is taken first. -/
theorem held_take (i : Nat) {oi : Oper} {v : Value} {fuel : Nat} {listed listed' : Array Bool} {a a' : Act} {w : World} (hi : ops[i]? = some oi) (hg : oi.guard = none)
    (hs : Region.noSelect ops = true) (hf : (Region.free md ops listed i && waits md ops m i && (Region.ready md ops listed).contains i) = true) (hl : listed.setIfInBounds i true = listed')
    (hS : S w) (hy : ∀ w, S w → (execOp a.eval oi).run P w = .ok (.value v) w) (ha : a.put oi.dst v = a')
    (h : Held P md ops (OnlyNormal Q) S m fuel listed' a' w) : Held P md ops (OnlyNormal Q) S m (fuel + 1) listed a w := by
  subst hl ha
  simp only [Bool.and_eq_true] at hf
  exact Held.first hi (Region.noSelect_spec hs) hf.1.2 OnlyNormal.panic fuel listed a w (Region.free_spec hi hf.1.1) (by simpa using hf.2) (Or.inl ⟨by simp [Region.wanted, hg], hy⟩) hS h
/-- One operation alone may come up. -/
theorem held_one (i : Nat) {oi : Oper} {fuel : Nat} {listed listed' : Array Bool} {a : Act} {w : World} (hr : Region.ready md ops listed = [i]) (hi : ops[i]? = some oi) (hg : oi.guard = none) (hl : listed.setIfInBounds i true = listed')
    (h : ∀ K' : Act → World → Prop, Go.Shut (∀ a' w', (i ≠ m → S w') → Held P md ops (OnlyNormal Q) S m fuel listed' a' w' → K' a' w') → oi.wp P a w K' (OnlyNormal Q)) : Held P md ops (OnlyNormal Q) S m (fuel + 1) listed a w := by
  subst hl
  refine ⟨fun h0 => (by rw [hr] at h0; cases h0), fun j hj => ?_⟩
  rw [hr] at hj
  obtain rfl : j = i := by simpa using hj
  unfold wpOp
  simp only [hi]
  rw [if_pos (by simp [Region.wanted, hg])]
  exact Or.inl (h _ (fun a' w' h1 h2 => ⟨h1, h2⟩))
/-- The same two, where the operation's guard says that it is wanted. -/
theorem held_take_g (i : Nat) {oi : Oper} {v : Value} {fuel : Nat} {listed listed' : Array Bool} {a a' : Act} {w : World} (hi : ops[i]? = some oi) (hg : Region.wanted oi (yielded ops a.tmps) = true)
    (hs : Region.noSelect ops = true) (hf : (Region.free md ops listed i && waits md ops m i && (Region.ready md ops listed).contains i) = true) (hl : listed.setIfInBounds i true = listed')
    (hS : S w) (hy : ∀ w, S w → (execOp a.eval oi).run P w = .ok (.value v) w) (ha : a.put oi.dst v = a')
    (h : Held P md ops (OnlyNormal Q) S m fuel listed' a' w) : Held P md ops (OnlyNormal Q) S m (fuel + 1) listed a w := by
  subst hl ha
  simp only [Bool.and_eq_true] at hf
  exact Held.first hi (Region.noSelect_spec hs) hf.1.2 OnlyNormal.panic fuel listed a w (Region.free_spec hi hf.1.1) (by simpa using hf.2) (Or.inl ⟨hg, hy⟩) hS h
theorem held_one_g (i : Nat) {oi : Oper} {fuel : Nat} {listed listed' : Array Bool} {a : Act} {w : World} (hr : Region.ready md ops listed = [i]) (hi : ops[i]? = some oi) (hg : Region.wanted oi (yielded ops a.tmps) = true) (hl : listed.setIfInBounds i true = listed')
    (h : ∀ K' : Act → World → Prop, Go.Shut (∀ a' w', (i ≠ m → S w') → Held P md ops (OnlyNormal Q) S m fuel listed' a' w' → K' a' w') → oi.wp P a w K' (OnlyNormal Q)) : Held P md ops (OnlyNormal Q) S m (fuel + 1) listed a w := by
  subst hl
  refine ⟨fun h0 => (by rw [hr] at h0; cases h0), fun j hj => ?_⟩
  rw [hr] at hj
  obtain rfl : j = i := by simpa using hj
  unfold wpOp
  simp only [hi]
  rw [if_pos hg]
  exact Or.inl (h _ (fun a' w' h1 h2 => ⟨h1, h2⟩))
/-- The same, with the operation's parts named: the frame behind it stays flat. -/
theorem hd_take (i : Nat) {dst : Option Tmp} {op : Op} {ty : TypeId} {pos : String} {aft : Array Edge} {gd : Option (Nat × Bool)} {v : Value} {fuel : Nat} {listed listed' : Array Bool} {a a' : Act} {w : World} (hi : ops[i]? = some ⟨dst, op, ty, pos, aft, gd⟩) (hg : Region.wanted (⟨dst, op, ty, pos, aft, gd⟩ : Oper) (yielded ops a.tmps) = true)
    (hs : Region.noSelect ops = true) (hf : (Region.free md ops listed i && waits md ops m i && (Region.ready md ops listed).contains i) = true) (hl : listed.setIfInBounds i true = listed')
    (hS : S w) (hy : ∀ w, S w → (execOp a.eval ⟨dst, op, ty, pos, aft, gd⟩).run P w = .ok (.value v) w) (ha : a.put dst v = a')
    (h : Held P md ops (OnlyNormal Q) S m fuel listed' a' w) : Held P md ops (OnlyNormal Q) S m (fuel + 1) listed a w := held_take_g i hi hg hs hf hl hS hy ha h
theorem hd_skip (i : Nat) {dst : Option Tmp} {op : Op} {ty : TypeId} {pos : String} {aft : Array Edge} {gd : Option (Nat × Bool)} {fuel : Nat} {listed listed' : Array Bool} {a a' : Act} {w : World} (hi : ops[i]? = some ⟨dst, op, ty, pos, aft, gd⟩) (hg : Region.wanted (⟨dst, op, ty, pos, aft, gd⟩ : Oper) (yielded ops a.tmps) = false)
    (hs : Region.noSelect ops = true) (hf : (Region.free md ops listed i && waits md ops m i && (Region.ready md ops listed).contains i) = true) (hl : listed.setIfInBounds i true = listed')
    (hS : S w) (ha : a.put dst undef = a') (h : Held P md ops (OnlyNormal Q) S m fuel listed' a' w) : Held P md ops (OnlyNormal Q) S m (fuel + 1) listed a w := by
  subst hl ha
  simp only [Bool.and_eq_true] at hf
  exact Held.first hi (Region.noSelect_spec hs) hf.1.2 OnlyNormal.panic fuel listed a w (Region.free_spec hi hf.1.1) (by simpa using hf.2) (Or.inr ⟨hg, rfl⟩) hS h
theorem hd_one (i : Nat) {dst : Option Tmp} {op : Op} {ty : TypeId} {pos : String} {aft : Array Edge} {gd : Option (Nat × Bool)} {fuel : Nat} {listed listed' : Array Bool} {a : Act} {w : World} (hr : Region.ready md ops listed = [i]) (hi : ops[i]? = some ⟨dst, op, ty, pos, aft, gd⟩) (hg : Region.wanted (⟨dst, op, ty, pos, aft, gd⟩ : Oper) (yielded ops a.tmps) = true) (hl : listed.setIfInBounds i true = listed')
    (h : ∀ K' : Act → World → Prop, Go.Shut (∀ a' w', (i ≠ m → S w') → Held P md ops (OnlyNormal Q) S m fuel listed' a' w' → K' a' w') → (⟨dst, op, ty, pos, aft, gd⟩ : Oper).wp P a w K' (OnlyNormal Q)) : Held P md ops (OnlyNormal Q) S m (fuel + 1) listed a w := held_one_g i hr hi hg hl h
theorem held_done {listed : Array Bool} {a : Act} {w : World} (hr : Region.ready md ops listed = []) (h : Q .normal a w) : Held P md ops (OnlyNormal Q) S m 0 listed a w := ⟨hr, h⟩
end
section
variable {P : Program} {md : Region.Mode} {ops : Array Oper} {Q : Exit → Act → World → Prop} {S : World → Prop} {m : Nat}
/-- One of two operations may come up. -/
theorem hd_two (i j : Nat) {dst dst' : Option Tmp} {op op' : Op} {ty ty' : TypeId} {pos pos' : String} {aft aft' : Array Edge} {gd gd' : Option (Nat × Bool)} {fuel : Nat} {listed li lj : Array Bool} {a : Act} {w : World} (hr : Region.ready md ops listed = [i, j])
    (hi : ops[i]? = some ⟨dst, op, ty, pos, aft, gd⟩) (hgi : Region.wanted (⟨dst, op, ty, pos, aft, gd⟩ : Oper) (yielded ops a.tmps) = true) (hli : listed.setIfInBounds i true = li)
    (hj : ops[j]? = some ⟨dst', op', ty', pos', aft', gd'⟩) (hgj : Region.wanted (⟨dst', op', ty', pos', aft', gd'⟩ : Oper) (yielded ops a.tmps) = true) (hlj : listed.setIfInBounds j true = lj)
    (h1 : ∀ K' : Act → World → Prop, Go.Shut (∀ a' w', (i ≠ m → S w') → Held P md ops (OnlyNormal Q) S m fuel li a' w' → K' a' w') → (⟨dst, op, ty, pos, aft, gd⟩ : Oper).wp P a w K' (OnlyNormal Q))
    (h2 : ∀ K' : Act → World → Prop, Go.Shut (∀ a' w', (j ≠ m → S w') → Held P md ops (OnlyNormal Q) S m fuel lj a' w' → K' a' w') → (⟨dst', op', ty', pos', aft', gd'⟩ : Oper).wp P a w K' (OnlyNormal Q)) :
    Held P md ops (OnlyNormal Q) S m (fuel + 1) listed a w := by
  subst hli hlj
  refine ⟨fun h0 => (by rw [hr] at h0; cases h0), fun k hk => ?_⟩
  rw [hr] at hk
  rcases List.mem_cons.1 hk with rfl | hk
  · unfold wpOp
    simp only [hi]
    rw [if_pos hgi]
    exact Or.inl (h1 _ (fun a' w' h1 h2 => ⟨h1, h2⟩))
  · obtain rfl : k = j := by simpa using hk
    unfold wpOp
    simp only [hj]
    rw [if_pos hgj]
    exact Or.inl (h2 _ (fun a' w' h1 h2 => ⟨h1, h2⟩))
end
end Go.Proofs.YtglgkdbhdjkeaaaGreatDoor
