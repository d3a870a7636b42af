/-
  Appends of one element that say where the new slice lies.
-/
import Derived.Test.YtjddngbgbbbefaaGreatDoorArr
import Derived.Maps.AppendAt
namespace Go.Proofs.YtjddngbgbbbefaaGreatDoor
open Go.RowKit

theorem wpList_appIa {ops : Array Oper} {rest : List Oper} {o : Oper} {a : Act} {Q : Exit → Act → World → Prop} {w : World} (hg : o.guard = none) (s x : Operand)
    (ho : o.op = .call { callee := .builtin .append, args := #[s, x], argTypes := #[24, 24] }) (base : Nat) (ev : Value) (l : List Nat) (t : Nat) (w0 : World)
    (hs : a.eval s = ev) (hx : a.eval x = .slice (some ⟨w.heap.size, 0, none⟩) 1 1) (hown : OwnI base w ev l) (hfr : Fr [] w0 w) (hb0 : w0.heap.size ≤ base) (hb : base ≤ w.heap.size) (hl : l.length < 1000000)
    (h : ∀ v' w', OwnI base w' v' (l ++ [t]) → Fr [] w0 w' → Fr ev.ownBlock.toList w w' → (v'.ownBlock = ev.ownBlock ∨ v'.ownBlock = some (w.heap.size + 1)) → wpList Tryz.prog ops Q rest (a.put o.dst v') w') :
    wpList Tryz.prog ops Q (o :: rest) a (w.alloc (.cells #[.int .i64 (t : Int)] 3)) := by
  obtain ⟨i0, hi, hz0, hz1, hz2⟩ := info_parts iInfo
  refine wpList_append_own_at _ hg s x 24 ho base 3 i0 (.int .i64 0) 1 8 Tryz.underlying24 hi hz0 hz1 hz2 rfl (by decide) ev _ _ hs (ownsRow_fr hown ((Fr.refl [] w).alloc _) (by simp)) ⟨w.heap.size, 0, none⟩ 1 1 [natV t] hx rfl
    (fun j u hj => ?_) (by simp [natV, Value.oneCell']) (by unfold maxLen; omega) (by omega) (by simp; omega) ?_
  · match j, hj with
    | 0, hj =>
      simp at hj; subst hj
      rw [show (⟨w.heap.size, 0, none⟩ : Addr).add 0 = ⟨w.heap.size, 0, none⟩ by simp [Addr.add]]
      exact cell_of_one (heap_new rfl)
  · intro v' w' hown' hgrow _ hat
    refine h v' w' ?_ ((hfr.alloc _).grown hgrow (fun r e => Or.inr ?_)) (((Fr.refl _ w).alloc _).grown hgrow (fun r e => Or.inl (by simp [e]))) (by simpa using hat)
    · simpa [OwnI, natV] using hown'
    · exact Nat.le_trans hb0 (ownBlock_cells hown r e).1
theorem wpList_appSa {ops : Array Oper} {rest : List Oper} {o : Oper} {a : Act} {Q : Exit → Act → World → Prop} {w : World} (hg : o.guard = none) (s x : Operand)
    (ho : o.op = .call { callee := .builtin .append, args := #[s, x], argTypes := #[27, 27] }) (base : Nat) (ev : Value) (l : List (List UInt8)) (t : List UInt8) (w0 : World)
    (hs : a.eval s = ev) (hx : a.eval x = .slice (some ⟨w.heap.size, 0, none⟩) 1 1) (hown : OwnS base w ev l) (hfr : Fr [] w0 w) (hb0 : w0.heap.size ≤ base) (hb : base ≤ w.heap.size) (hl : l.length < 1000000)
    (h : ∀ v' w', OwnS base w' v' (l ++ [t]) → Fr [] w0 w' → Fr ev.ownBlock.toList w w' → (v'.ownBlock = ev.ownBlock ∨ v'.ownBlock = some (w.heap.size + 1)) → wpList Tryz.prog ops Q rest (a.put o.dst v') w') :
    wpList Tryz.prog ops Q (o :: rest) a (w.alloc (.cells #[.string ⟨t.toArray⟩] 9)) := by
  obtain ⟨i0, hi, hz0, hz1, hz2⟩ := info_parts sInfo
  refine wpList_append_own_at _ hg s x 27 ho base 9 i0 (.string ⟨#[]⟩) 1 16 Tryz.underlying27 hi hz0 hz1 hz2 rfl (by decide) ev _ _ hs (ownsRow_fr hown ((Fr.refl [] w).alloc _) (by simp)) ⟨w.heap.size, 0, none⟩ 1 1 [strV t] hx rfl
    (fun j u hj => ?_) (by simp [strV, Value.oneCell']) (by unfold maxLen; omega) (by omega) (by simp; omega) ?_
  · match j, hj with
    | 0, hj =>
      simp at hj; subst hj
      rw [show (⟨w.heap.size, 0, none⟩ : Addr).add 0 = ⟨w.heap.size, 0, none⟩ by simp [Addr.add]]
      exact cell_of_one (heap_new rfl)
  · intro v' w' hown' hgrow _ hat
    refine h v' w' ?_ ((hfr.alloc _).grown hgrow (fun r e => Or.inr ?_)) (((Fr.refl _ w).alloc _).grown hgrow (fun r e => Or.inl (by simp [e]))) (by simpa using hat)
    · simpa [OwnS, strV] using hown'
    · exact Nat.le_trans hb0 (ownBlock_cells hown r e).1
/-- Two slices do not lie in one row. -/
def Apart (u v : Value) : Prop := ∀ k, u.ownBlock = some k → v.ownBlock ≠ some k
theorem Apart.symm {u v : Value} (h : Apart u v) : Apart v u := fun k hk hu => h k hu hk
theorem Apart.nil {v : Value} : Apart (.slice none 0 0) v := fun k hk => by simp [Value.ownBlock] at hk
theorem Apart.step {u u' v : Value} {n : Nat} (h : Apart u v) (hat : u'.ownBlock = u.ownBlock ∨ u'.ownBlock = some (n + 1)) (hv : ∀ k, v.ownBlock = some k → k < n) : Apart u' v := by
  intro k hk hv'
  rcases hat with e | e
  · exact h k (by rw [← e]; exact hk) hv'
  · rw [hk] at e
    cases e
    have := hv _ hv'
    omega
theorem Apart.notin {u v : Value} (h : Apart u v) : ∀ k, v.ownBlock = some k → k ∉ u.ownBlock.toList := fun k hk hm => h k (by simpa using hm) hk
theorem OwnI.lt {base : Nat} {w : World} {v : Value} {l : List Nat} (h : OwnI base w v l) : ∀ k, v.ownBlock = some k → k < w.heap.size := by
  intro k hk
  rcases h.2 with ⟨rfl, _⟩ | ⟨g, cap, cur, rfl, _, hg, _⟩
  · simp [Value.ownBlock] at hk
  · obtain rfl : g = k := by simpa [Value.ownBlock] using hk
    exact lt_of_block hg
theorem OwnS.lt {base : Nat} {w : World} {v : Value} {l : List (List UInt8)} (h : OwnS base w v l) : ∀ k, v.ownBlock = some k → k < w.heap.size := by
  intro k hk
  rcases h.2 with ⟨rfl, _⟩ | ⟨g, cap, cur, rfl, _, hg, _⟩
  · simp [Value.ownBlock] at hk
  · obtain rfl : g = k := by simpa [Value.ownBlock] using hk
    exact lt_of_block hg
end Go.Proofs.YtjddngbgbbbefaaGreatDoor
