/-
  A drawn region: two operations may come up; one continuation for all ways. No program in sight.
-/
import Derived.Test.YtjddngbgbbbefaaGreatDoorMrk
namespace Go.Proofs.YtjddngbgbbbefaaGreatDoor
open Go.RowKit
theorem put_comm (a : Act) (i k : Nat) (x y : Value) (h : i ≠ k) : (a.put (some i) x).put (some k) y = (a.put (some k) y).put (some i) x := by
  simp only [Act.put]
  rw [Array.setIfInBounds_comm _ _ h]
section
variable {P : Program} {md : Region.Mode} {ops : Array Oper} {Q : Exit → Act → World → Prop} {S : World → Prop} {m : Nat}
/-- Two operations may come up. -/
theorem held_two_g (i k : Nat) {oi ok : Oper} {fuel : Nat} {listed : Array Bool} {a : Act} {w : World} (hr : Region.ready md ops listed = [i, k]) (hi : ops[i]? = some oi) (hk : ops[k]? = some ok)
    (hgi : Region.wanted oi (yielded ops a.tmps) = true) (hgk : Region.wanted ok (yielded ops a.tmps) = true)
    (h1 : ∀ K' : Act → World → Prop, Go.Shut (∀ a' w', (i ≠ m → S w') → Held P md ops (OnlyNormal Q) S m fuel (listed.setIfInBounds i true) a' w' → K' a' w') → oi.wp P a w K' (OnlyNormal Q))
    (h2 : ∀ K' : Act → World → Prop, Go.Shut (∀ a' w', (k ≠ m → S w') → Held P md ops (OnlyNormal Q) S m fuel (listed.setIfInBounds k true) a' w' → K' a' w') → ok.wp P a w K' (OnlyNormal Q)) : Held P md ops (OnlyNormal Q) S m (fuel + 1) listed a w := by
  refine ⟨fun h0 => (by rw [hr] at h0; cases h0), fun j hj => ?_⟩
  rw [hr] at hj
  unfold wpOp
  have hj' : j = i ∨ j = k := by simpa using hj
  rcases hj' with rfl | rfl
  · simp only [hi]
    rw [if_pos hgi]
    exact Or.inl (h1 _ (fun a' w' h3 h4 => ⟨h3, h4⟩))
  · simp only [hk]
    rw [if_pos hgk]
    exact Or.inl (h2 _ (fun a' w' h3 h4 => ⟨h3, h4⟩))
theorem held_same {fuel : Nat} {listed listed' : Array Bool} {a a' : Act} {w : World} (h : Held P md ops (OnlyNormal Q) S m fuel listed' a' w) (hl : listed = listed') (ha : a = a') : Held P md ops (OnlyNormal Q) S m fuel listed a w := by
  subst hl ha; exact h
/-- What follows, proved once, for all ways that lead there. -/
theorem held_key {fuel fuel' : Nat} {listed : Array Bool} {a : Act} {w : World} (d1 d2 d3 : Nat) (listed' : Array Bool) (R : Value → Value → Value → World → Prop)
    (key : (∀ x y z w', R x y z w' → Held P md ops (OnlyNormal Q) S m fuel' listed' (((a.put (some d1) x).put (some d2) y).put (some d3) z) w') → Held P md ops (OnlyNormal Q) S m fuel listed a w)
    (h : ∀ x y z w', R x y z w' → Held P md ops (OnlyNormal Q) S m fuel' listed' (((a.put (some d1) x).put (some d2) y).put (some d3) z) w') : Held P md ops (OnlyNormal Q) S m fuel listed a w := key h
end
/-- What follows, proved once, for both ways that lead there. -/
theorem held_key2 {P : Program} {md : Region.Mode} {ops : Array Oper} {Q : Exit → Act → World → Prop} {S : World → Prop} {m : Nat} {fuel fuel' : Nat} {listed : Array Bool} {a : Act} {w : World} (d1 d2 : Nat) (listed' : Array Bool) (R : Value → Value → World → Prop)
    (key : (∀ x y w', R x y w' → Held P md ops (OnlyNormal Q) S m fuel' listed' ((a.put (some d1) x).put (some d2) y) w') → Held P md ops (OnlyNormal Q) S m fuel listed a w)
    (h : ∀ x y w', R x y w' → Held P md ops (OnlyNormal Q) S m fuel' listed' ((a.put (some d1) x).put (some d2) y) w') : Held P md ops (OnlyNormal Q) S m fuel listed a w := key h
end Go.Proofs.YtjddngbgbbbefaaGreatDoor
