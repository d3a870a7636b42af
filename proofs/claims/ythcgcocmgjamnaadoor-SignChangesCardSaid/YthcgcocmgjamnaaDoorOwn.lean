/-
  Slices of strings that the call has made; append to them.
-/
import Derived.Test.YthcgcocmgjamnaaDoorDigD
import Derived.RangeFuncBox
namespace Go.Proofs.YthcgcocmgjamnaaDoor
open Go.RowKit

def strV (s : List UInt8) : Value := .string ⟨s.toArray⟩
/-- A slice of strings that the call has made. -/
def OwnS (base : Nat) (w : World) (v : Value) (l : List (List UInt8)) : Prop := w.ownsRow base 9 1 v l.length (l.map strV)
theorem OwnS.strs {base : Nat} {w : World} {v : Value} {l : List (List UInt8)} (h : OwnS base w v l) : Strs w v l := by
  obtain ⟨_, h2⟩ := h
  rcases h2 with ⟨h2, h3⟩ | ⟨g, cap, cur, hv, hb, hg, h3, h4, h5, h6⟩
  · exact Or.inl ⟨h2, List.length_eq_zero_iff.1 h3⟩
  · refine Or.inr ⟨g, 0, cap, hv, h3, by unfold maxLen at h4; omega, lt_of_block hg, fun i hi => ?_⟩
    rw [Nat.zero_add, row_cell hg i]
    have h7 : (cur.toList.take (l.length * 1))[i]? = cur[i]? := by rw [List.getElem?_take, if_pos (by omega), Array.getElem?_toList]
    rw [← h7, h6, List.getElem?_map, List.getElem?_eq_getElem hi]
    simp [strV, hi]
theorem OwnS.fr {X : List Nat} {base : Nat} {w w' : World} {v : Value} {l : List (List UInt8)} (h : OwnS base w v l) (hf : Fr X w w') (hx : ∀ k, v.ownBlock = some k → k ∉ X) : OwnS base w' v l := ownsRow_fr h hf hx
theorem OwnS.mono {base base' : Nat} {w : World} {v : Value} {l : List (List UInt8)} (h : OwnS base w v l) (hb : base' ≤ base) : OwnS base' w v l := by
  obtain ⟨h1, h2⟩ := h
  refine ⟨h1, ?_⟩
  rcases h2 with h2 | ⟨g, cap, cur, hv, h3, h4⟩
  · exact Or.inl h2
  · exact Or.inr ⟨g, cap, cur, hv, Nat.le_trans hb h3, h4⟩
theorem ownBlock_cells {base : Nat} {w : World} {e : TypeId} {size n : Nat} {v : Value} {xs : List Value} (h : w.ownsRow base e size v n xs) : ∀ x, v.ownBlock = some x → base ≤ x ∧ ∀ o, w.heap[x]? = some o → o.isCells = true := by
  intro x hx
  rcases h.2 with ⟨rfl, _⟩ | ⟨g, cap, cur, rfl, hb, hg, _⟩
  · simp [Value.ownBlock] at hx
  · obtain rfl : g = x := by simpa [Value.ownBlock] using hx
    exact ⟨hb, fun o ho => by rw [hg] at ho; cases ho; rfl⟩
theorem sInfo : (Tryd.prog.info? 9).map (fun i => (i.zero, i.size, i.bytes)) = some (some (.string ⟨#[]⟩), 1, 16) := by kernel_rfl

theorem wpList_appS {ops : Array Oper} {rest : List Oper} {o : Oper} {a : Act} {Q : Exit → Act → World → Prop} {w : World} (hg : o.guard = none) (s x : Operand)
    (ho : o.op = .call { callee := .builtin .append, args := #[s, x], argTypes := #[22, 22] }) (base : Nat) (ev : Value) (l : List (List UInt8)) (t : List UInt8) (w0 : World)
    (hs : a.eval s = ev) (hx : a.eval x = .slice (some ⟨w.heap.size, 0, none⟩) 1 1) (hown : OwnS base w ev l) (hfr : Fr [] w0 w) (hb0 : w0.heap.size ≤ base) (hb : base ≤ w.heap.size) (hl : l.length < 1000000)
    (h : ∀ v' w', (∃ g cap, v' = .slice (some ⟨g, 0, none⟩) (l.length + 1) cap) → OwnS base w' v' (l ++ [t]) → Fr [] w0 w' → Fr ev.ownBlock.toList w w' → wpList Tryd.prog ops Q rest (a.put o.dst v') w') :
    wpList Tryd.prog ops Q (o :: rest) a (w.alloc (.cells #[.string ⟨t.toArray⟩] 9)) := by
  obtain ⟨i0, hi, hz0, hz1, hz2⟩ := info_parts sInfo
  refine wpList_append_own _ hg s x 22 ho base 9 i0 (.string ⟨#[]⟩) 1 16 Tryd.underlying22 hi hz0 hz1 hz2 rfl (by decide) ev _ _ hs (ownsRow_fr hown ((Fr.refl [] w).alloc _) (by simp)) ⟨w.heap.size, 0, none⟩ 1 1 [strV t] hx rfl
    (fun j u hj => ?_) (by simp [strV, Value.oneCell']) (by unfold maxLen; omega) (by omega) (by simp; omega) ?_
  · match j, hj with
    | 0, hj =>
      simp at hj; subst hj
      rw [show (⟨w.heap.size, 0, none⟩ : Addr).add 0 = ⟨w.heap.size, 0, none⟩ by simp [Addr.add]]
      exact cell_of_one (heap_new rfl)
  · intro v' w' hown' hgrow _
    refine h v' w' (ownsRow_succ hown') ?_ ((hfr.alloc _).grown hgrow (fun r e => Or.inr ?_)) (((Fr.refl _ w).alloc _).grown hgrow (fun r e => Or.inl (by simp [e])))
    · simpa [OwnS, strV] using hown'
    · exact Nat.le_trans hb0 (ownBlock_cells hown r e).1
theorem wp_appS {o : Oper} {a : Act} {K : Act → World → Prop} {Q : Exit → Act → World → Prop} {w : World} (s x : Operand)
    (ho : o.op = .call { callee := .builtin .append, args := #[s, x], argTypes := #[22, 22] }) (base : Nat) (ev : Value) (l : List (List UInt8)) (t : List UInt8) (w0 : World)
    (hs : a.eval s = ev) (hx : a.eval x = .slice (some ⟨w.heap.size, 0, none⟩) 1 1) (hown : OwnS base w ev l) (hfr : Fr [] w0 w) (hb0 : w0.heap.size ≤ base) (hb : base ≤ w.heap.size) (hl : l.length < 1000000)
    (h : ∀ v' w', (∃ g cap, v' = .slice (some ⟨g, 0, none⟩) (l.length + 1) cap) → OwnS base w' v' (l ++ [t]) → Fr [] w0 w' → Fr ev.ownBlock.toList w w' → K (a.put o.dst v') w') :
    o.wp Tryd.prog a (w.alloc (.cells #[.string ⟨t.toArray⟩] 9)) K Q := by
  obtain ⟨i0, hi, hz0, hz1, hz2⟩ := info_parts sInfo
  refine wp_append_own _ s x 22 ho base 9 i0 (.string ⟨#[]⟩) 1 16 Tryd.underlying22 hi hz0 hz1 hz2 rfl (by decide) ev _ _ hs (ownsRow_fr hown ((Fr.refl [] w).alloc _) (by simp)) ⟨w.heap.size, 0, none⟩ 1 1 [strV t] hx rfl
    (fun j u hj => ?_) (by simp [strV, Value.oneCell']) (by unfold maxLen; omega) (by omega) (by simp; omega) ?_
  · match j, hj with
    | 0, hj =>
      simp at hj; subst hj
      rw [show (⟨w.heap.size, 0, none⟩ : Addr).add 0 = ⟨w.heap.size, 0, none⟩ by simp [Addr.add]]
      exact cell_of_one (heap_new rfl)
  · intro v' w' hown' hgrow _
    refine h v' w' (ownsRow_succ hown') ?_ ((hfr.alloc _).grown hgrow (fun r e => Or.inr ?_)) (((Fr.refl _ w).alloc _).grown hgrow (fun r e => Or.inl (by simp [e])))
    · simpa [OwnS, strV] using hown'
    · exact Nat.le_trans hb0 (ownBlock_cells hown r e).1
end Go.Proofs.YthcgcocmgjamnaaDoor
