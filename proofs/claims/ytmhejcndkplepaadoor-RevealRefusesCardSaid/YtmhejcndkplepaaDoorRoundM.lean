/-
  Regions that draw their order and end in several stores: as in Round, with one condition for each of two stores that break it.
-/
import Derived.Test.YtmhejcndkplepaaDoorRound
namespace Go.Proofs.YtmhejcndkplepaaDoor
open Go.RowKit
section
variable {P : Program} {md : Region.Mode} {ops : Array Oper} {Q : Exit → Act → World → Prop} {S1 S2 : World → Prop} {m1 m2 : Nat}
/-- Whatever order is picked: S holds behind every operation but number m (a last store, which may turn what S speaks of). -/
def HeldF (P : Program) (md : Region.Mode) (ops : Array Oper) (Q : Exit → Act → World → Prop) (S1 S2 : World → Prop) (m1 m2 : Nat) : Nat → Array Bool → Act → World → Prop
  | 0, listed, a, w => Region.ready md ops listed = [] ∧ Q .normal a w
  | fuel + 1, listed, a, w => (Region.ready md ops listed = [] → Q .normal a w) ∧
    ∀ i ∈ Region.ready md ops listed, wpOp P ops Q i (fun a' w' => (((listed.setIfInBounds i true).getD m1 true = false → S1 w') ∧ ((listed.setIfInBounds i true).getD m2 true = false → S2 w')) ∧ HeldF P md ops Q S1 S2 m1 m2 fuel (listed.setIfInBounds i true) a' w') a w
theorem HeldF.any : ∀ (fuel : Nat) (listed : Array Bool) (a : Act) (w : World), HeldF P md ops Q S1 S2 m1 m2 fuel listed a w → wpAny P md ops Q fuel listed a w
  | 0, _, _, _, h => h
  | fuel + 1, _, _, _, h => ⟨h.1, fun i hi => wpOp_mono (fun a' w' h' => HeldF.any fuel _ a' w' h'.2) (h.2 i hi)⟩
theorem HeldF.first (A : Bool) {i : Nat} {oi : Oper} {v : Value} (hi : ops[i]? = some oi) (hsel : ∀ (j : Nat) (o : Oper) cs b, ops[j]? = some o → o.op ≠ .select cs b) (hm : waits md ops (if A then m1 else m2) i = true) (hne : i ≠ m1 ∧ i ≠ m2)
    (hQ : ∀ c a w, Q (.panic c) (a.put oi.dst v) w → Q (.panic c) a w) :
    ∀ (fuel : Nat) (listed : Array Bool) (a : Act) (w : World),
      (∀ j oj, ops[j]? = some oj → j ≠ i → listed.getD j true = false → (∀ e ∈ oj.after, Region.binds md e = true → e.on ≠ i) → oi.apart ops oj = true) →
      i ∈ Region.ready md ops listed → YieldsIf P ops (if A then S1 else S2) oi v a → listed.getD (if A then m1 else m2) true = false → ((listed.getD m1 true = false → S1 w) ∧ (listed.getD m2 true = false → S2 w)) →
      HeldF P md ops Q S1 S2 m1 m2 fuel (listed.setIfInBounds i true) (a.put oi.dst v) w → HeldF P md ops Q S1 S2 m1 m2 (fuel + 1) listed a w := by
  have hput : ∀ (l : Array Bool) (k : Nat), i ≠ k → (l.setIfInBounds i true).getD k true = l.getD k true := fun l k h => getD_set_ne true h
  have hcl : ∀ (l : Array Bool) (w : World), ((l.getD m1 true = false → S1 w) ∧ (l.getD m2 true = false → S2 w)) → (((l.setIfInBounds i true).getD m1 true = false → S1 w) ∧ ((l.setIfInBounds i true).getD m2 true = false → S2 w)) := fun l w h => by
    rw [hput l m1 hne.1, hput l m2 hne.2]; exact h
  have hSA : ∀ (l : Array Bool) (w : World), l.getD (if A then m1 else m2) true = false → ((l.getD m1 true = false → S1 w) ∧ (l.getD m2 true = false → S2 w)) → (if A then S1 else S2) w := fun l w h g => by
    cases A with
    | true => exact g.1 h
    | false => exact g.2 h
  intro fuel
  induction fuel with
  | zero =>
    intro listed a w _ hr hy hun hS H
    refine ⟨fun h => (by rw [h] at hr; cases hr), fun j hj => ?_⟩
    by_cases hji : j = i
    · subst hji; exact hy.wpOp hi (hSA _ _ hun hS) ⟨hcl _ _ hS, H⟩
    · have h0 := ready_mono hj hji
      rw [H.1] at h0
      cases h0
  | succ fuel ih =>
    intro listed a w hfree hr hy hunm hS H
    refine ⟨fun h => (by rw [h] at hr; cases hr), fun j hj => ?_⟩
    by_cases hji : j = i
    · subst hji; exact hy.wpOp hi (hSA _ _ hunm hS) ⟨hcl _ _ hS, H⟩
    · have h1 := H.2 j (ready_mono hj hji)
      obtain ⟨hjun, oj, hoj, hall⟩ := mem_ready.1 hj
      have hnot : ∀ e ∈ oj.after, Region.binds md e = true → e.on ≠ i := fun e he hb heq => by
        have h1 := hall e he hb
        have h0 := (mem_ready.1 hr).1
        rw [heq] at h1
        rcases Nat.lt_or_ge i listed.size with h' | h'
        · simp [h'] at h0 h1; rw [h0] at h1; cases h1
        · simp [Array.getElem?_eq_none h'] at h1
      have hjm : j ≠ (if A then m1 else m2) := by
        intro hjm
        rw [← hjm] at hm
        unfold waits at hm
        rw [hoj] at hm
        obtain ⟨e, he, hb⟩ := List.any_eq_true.1 hm
        simp only [Bool.and_eq_true, beq_iff_eq] at hb
        exact hnot e (by simpa using he) hb.1 hb.2
      have h2 := wpOp_putIf hoj (hfree j oj hoj hji hjun hnot) (fun cs b => hsel i oi cs b hi) (fun cs b => hsel j oj cs b hoj) hQ hy h1
      have hfree' : ∀ k ok, ops[k]? = some ok → k ≠ i → (listed.setIfInBounds j true).getD k true = false →
          (∀ e ∈ ok.after, Region.binds md e = true → e.on ≠ i) → oi.apart ops ok = true := fun k ok hk hki hun hno => by
        refine hfree k ok hk hki ?_ hno
        by_cases hjk : j = k
        · subst hjk; exact hjun
        · rw [getD_set_ne true hjk] at hun; exact hun
      refine wpOp_mono (fun a' w' h3 => ?_) h2
      have hcom : (listed.setIfInBounds i true).setIfInBounds j true = (listed.setIfInBounds j true).setIfInBounds i true := (Array.setIfInBounds_comm _ _ hji).symm
      have h4 : ((listed.setIfInBounds j true).getD m1 true = false → S1 w') ∧ ((listed.setIfInBounds j true).getD m2 true = false → S2 w') := by
        have h5 := h3.2.1
        rw [hcom, hput _ m1 hne.1, hput _ m2 hne.2] at h5
        exact h5
      refine ⟨h4, ih (listed.setIfInBounds j true) a' w' hfree' (ready_mono hr (Ne.symm hji)) h3.1 ?_ h4 ?_⟩
      · rw [getD_set_ne true hjm]; exact hunm
      · rw [← hcom]
        exact h3.2.2
end

theorem wpOpIn_w {n : Nat} {P : Program} {ops : Array Oper} {Q : Exit → Act → World → Prop} (hQ : ¬ LetsOut Q) (hnd : noDefer ops = true) {i : Nat} {K : Act → World → Prop} {a : Act} {w : World} (h : wpOp P ops Q i K a w) :
    wpOpIn (Fence.wide) n P ops Q i K a w := by
  unfold wpOp at h
  unfold wpOpIn
  cases ho : ops[i]? with
  | none => simp only [ho] at h; exact h
  | some o =>
    simp only [ho] at h ⊢
    split
    · rename_i hw
      rw [if_pos hw] at h
      have h := h.resolve_right (fun hx => hQ hx.2)
      have hd : ∀ c, o.op ≠ .defer c := by
        intro c hc
        have := List.all_eq_true.1 hnd o (by simpa using Array.mem_of_getElem? ho)
        rw [hc] at this; simp [isDefer] at this
      refine ⟨fun _ _ => trivial, ?_⟩
      rw [Oper.semAt_plain _ _ _ hd]
      unfold Oper.wp at h
      generalize (execOp a.eval o).run P w = r at h ⊢
      cases r with
      | ok nx w' =>
        cases nx with
        | value v => exact h
        | skip => exact h
        | defer d => exact h
        | enter f args => exact ⟨fun hx => (by cases hx), callsIn_wide.2 h⟩
        | row row args => exact ⟨fun hx => (by cases hx), fun c cs _ => let ⟨v, w', r, s⟩ := h c cs; ⟨v, w', r, stepsIn_wide.2 s⟩⟩
        | round => exact h.elim
        | _ => exact h.elim
      | halt x w' => cases x <;> first | exact h | exact h.elim
    · rename_i hw
      rw [if_neg hw] at h
      exact ⟨fun _ _ => trivial, h⟩

theorem wpAnyIn_w {n : Nat} {P : Program} {md : Region.Mode} {ops : Array Oper} {Q : Exit → Act → World → Prop} (hQ : ¬ LetsOut Q) (hnd : noDefer ops = true) :
    ∀ (fuel : Nat) (listed : Array Bool) (a : Act) (w : World), wpAny P md ops Q fuel listed a w → wpAnyIn (Fence.wide) n P md ops Q fuel listed a w
  | 0, _, _, _, h => h
  | fuel + 1, _, _, _, h => ⟨h.1, fun i hi => wpOpIn_w hQ hnd (wpOp_mono (fun a' w' h' => wpAnyIn_w hQ hnd fuel _ a' w' h') (h.2 i hi))⟩

/-- THE BEGINNING: the region in a round. -/
theorem regionIn_heldF {l n : Nat} {P : Program} {id : Nat} {ops : Array Oper} {Q : Exit → Act → World → Prop} {a : Act} {w : World} (m1 m2 : Nat) (S1 S2 : World → Prop) (hm : P.follows .mixedOrders = true) (hnd : noDefer ops = true)
    (h : HeldF P .any ops (OnlyNormal Q) S1 S2 m1 m2 ops.size (Array.replicate ops.size false) a w.drew) : (Code.region id ops true).wpIn (Fence.wide.inRound l) n P Q a w :=
  wpIn_mono (wpIn_region_any hm (wpAnyIn_of OnlyNormal.lets hnd _ _ _ _ (HeldF.any _ _ _ _ h))) OnlyNormal.imp
/-- .. outside a round, inside the wide fence. -/
theorem regionW_heldF {n : Nat} {P : Program} {id : Nat} {ops : Array Oper} {Q : Exit → Act → World → Prop} {a : Act} {w : World} (m1 m2 : Nat) (S1 S2 : World → Prop) (hm : P.follows .mixedOrders = true) (hnd : noDefer ops = true)
    (h : HeldF P .any ops (OnlyNormal Q) S1 S2 m1 m2 ops.size (Array.replicate ops.size false) a w.drew) : (Code.region id ops true).wpIn Fence.wide n P Q a w :=
  wpIn_mono (wpIn_region_any hm (wpAnyIn_w OnlyNormal.lets hnd _ _ _ _ (HeldF.any _ _ _ _ h))) OnlyNormal.imp
/-- .. and outside a round. -/
theorem region_heldF {P : Program} {id : Nat} {ops : Array Oper} {Q : Exit → Act → World → Prop} {a : Act} {w : World} (m1 m2 : Nat) (S1 S2 : World → Prop) (hm : P.follows .mixedOrders = true)
    (h : HeldF P .any ops (OnlyNormal Q) S1 S2 m1 m2 ops.size (Array.replicate ops.size false) a w.drew) : (Code.region id ops true).wp P Q a w :=
  Code.wp_mono OnlyNormal.imp (wp_region_any hm (HeldF.any _ _ _ _ h))

section
variable {P : Program} {md : Region.Mode} {ops : Array Oper} {Q : Exit → Act → World → Prop} {S1 S2 : World → Prop} {m1 m2 : Nat}
/-- An operation that yields its value wherever S1 (A) or S2 (not A) holds is taken first. -/
theorem hf_take (A : Bool) (i : Nat) {dst : Option Tmp} {op : Op} {ty : TypeId} {pos : String} {aft : Array Edge} {gd : Option (Nat × Bool)} {v : Value} {fuel : Nat} {listed listed' : Array Bool} {a a' : Act} {w : World} (hi : ops[i]? = some ⟨dst, op, ty, pos, aft, gd⟩) (hg : Region.wanted (⟨dst, op, ty, pos, aft, gd⟩ : Oper) (yielded ops a.tmps) = true)
    (hs : Region.noSelect ops = true) (hf : (Region.free md ops listed i && waits md ops (if A then m1 else m2) i && (Region.ready md ops listed).contains i && !(listed.getD (if A then m1 else m2) true) && (i != m1) && (i != m2)) = true) (hl : listed.setIfInBounds i true = listed')
    (hS1 : S1 w) (hS2 : S2 w) (hy : ∀ w, (if A then S1 else S2) w → (execOp a.eval ⟨dst, op, ty, pos, aft, gd⟩).run P w = .ok (.value v) w) (ha : a.put dst v = a')
    (h : HeldF P md ops (OnlyNormal Q) S1 S2 m1 m2 fuel listed' a' w) : HeldF P md ops (OnlyNormal Q) S1 S2 m1 m2 (fuel + 1) listed a w := by
  subst hl ha
  simp only [Bool.and_eq_true, Bool.not_eq_true', bne_iff_ne] at hf
  exact HeldF.first A hi (Region.noSelect_spec hs) hf.1.1.1.1.2 ⟨hf.1.2, hf.2⟩ OnlyNormal.panic fuel listed a w (Region.free_spec hi hf.1.1.1.1.1) (by simpa using hf.1.1.1.2) (Or.inl ⟨hg, hy⟩) hf.1.1.2 ⟨fun _ => hS1, fun _ => hS2⟩ h
/-- One operation alone may come up. -/
theorem hf_one (i : Nat) {dst : Option Tmp} {op : Op} {ty : TypeId} {pos : String} {aft : Array Edge} {gd : Option (Nat × Bool)} {fuel : Nat} {listed listed' : Array Bool} {a : Act} {w : World} (hr : Region.ready md ops listed = [i]) (hi : ops[i]? = some ⟨dst, op, ty, pos, aft, gd⟩) (hg : Region.wanted (⟨dst, op, ty, pos, aft, gd⟩ : Oper) (yielded ops a.tmps) = true) (hl : listed.setIfInBounds i true = listed')
    (h : ∀ K' : Act → World → Prop, Go.Shut (∀ a' w', (listed'.getD m1 true = false → S1 w') → (listed'.getD m2 true = false → S2 w') → HeldF P md ops (OnlyNormal Q) S1 S2 m1 m2 fuel listed' a' w' → K' a' w') → (⟨dst, op, ty, pos, aft, gd⟩ : Oper).wp P a w K' (OnlyNormal Q)) : HeldF P md ops (OnlyNormal Q) S1 S2 m1 m2 (fuel + 1) listed a w := by
  subst hl
  refine ⟨fun h0 => (by rw [hr] at h0; cases h0), fun j hj => ?_⟩
  rw [hr] at hj
  obtain rfl : j = i := by simpa using hj
  unfold wpOp
  simp only [hi]
  rw [if_pos hg]
  exact Or.inl (h _ (fun a' w' h1 h2 h3 => ⟨⟨h1, h2⟩, h3⟩))
/-- One of two operations may come up. -/
theorem hf_two (i j : Nat) {dst dst' : Option Tmp} {op op' : Op} {ty ty' : TypeId} {pos pos' : String} {aft aft' : Array Edge} {gd gd' : Option (Nat × Bool)} {fuel : Nat} {listed li lj : Array Bool} {a : Act} {w : World} (hr : Region.ready md ops listed = [i, j])
    (hi : ops[i]? = some ⟨dst, op, ty, pos, aft, gd⟩) (hgi : Region.wanted (⟨dst, op, ty, pos, aft, gd⟩ : Oper) (yielded ops a.tmps) = true) (hli : listed.setIfInBounds i true = li)
    (hj : ops[j]? = some ⟨dst', op', ty', pos', aft', gd'⟩) (hgj : Region.wanted (⟨dst', op', ty', pos', aft', gd'⟩ : Oper) (yielded ops a.tmps) = true) (hlj : listed.setIfInBounds j true = lj)
    (h1 : ∀ K' : Act → World → Prop, Go.Shut (∀ a' w', (li.getD m1 true = false → S1 w') → (li.getD m2 true = false → S2 w') → HeldF P md ops (OnlyNormal Q) S1 S2 m1 m2 fuel li a' w' → K' a' w') → (⟨dst, op, ty, pos, aft, gd⟩ : Oper).wp P a w K' (OnlyNormal Q))
    (h2 : ∀ K' : Act → World → Prop, Go.Shut (∀ a' w', (lj.getD m1 true = false → S1 w') → (lj.getD m2 true = false → S2 w') → HeldF P md ops (OnlyNormal Q) S1 S2 m1 m2 fuel lj a' w' → K' a' w') → (⟨dst', op', ty', pos', aft', gd'⟩ : Oper).wp P a w K' (OnlyNormal Q)) :
    HeldF P md ops (OnlyNormal Q) S1 S2 m1 m2 (fuel + 1) listed a w := by
  subst hli hlj
  refine ⟨fun h0 => (by rw [hr] at h0; cases h0), fun k hk => ?_⟩
  rw [hr] at hk
  rcases List.mem_cons.1 hk with rfl | hk
  · unfold wpOp
    simp only [hi]
    rw [if_pos hgi]
    exact Or.inl (h1 _ (fun a' w' h1 h2 h3 => ⟨⟨h1, h2⟩, h3⟩))
  · obtain rfl : k = j := by simpa using hk
    unfold wpOp
    simp only [hj]
    rw [if_pos hgj]
    exact Or.inl (h2 _ (fun a' w' h1 h2 h3 => ⟨⟨h1, h2⟩, h3⟩))
theorem heldF_done {listed : Array Bool} {a : Act} {w : World} (hr : Region.ready md ops listed = []) (h : Q .normal a w) : HeldF P md ops (OnlyNormal Q) S1 S2 m1 m2 0 listed a w := ⟨hr, h⟩
end
end Go.Proofs.YtmhejcndkplepaaDoor
