/-
  Slices of entries that the call has made; append to them.
-/
import Derived.Test.YtjddngbgbbbefaaGreatDoorPty
namespace Go.Proofs.YtjddngbgbbbefaaGreatDoor
open Go.RowKit

def ptyCells (p : Pty) : List Value := [.string ⟨p.name.toArray⟩, .string ⟨p.com.toArray⟩, .string ⟨p.rev.toArray⟩]
theorem ptyCells_length (l : List Pty) : (l.flatMap ptyCells).length = l.length * 3 := by
  induction l with
  | nil => rfl
  | cons p l ih => rw [List.flatMap_cons, List.length_append, ih, List.length_cons]; simp [ptyCells]; omega
theorem ptyCells_at (l : List Pty) (i : Nat) (p : Pty) (hp : l[i]? = some p) (j : Nat) (hj : j < 3) : (l.flatMap ptyCells)[i * 3 + j]? = (ptyCells p)[j]? := by
  induction l generalizing i with
  | nil => simp at hp
  | cons q l ih =>
    rw [List.flatMap_cons]
    cases i with
    | zero =>
      rw [List.getElem?_cons_zero] at hp
      cases hp
      rw [Nat.zero_mul, Nat.zero_add, List.getElem?_append_left (by simp [ptyCells]; omega)]
    | succ i =>
      rw [List.getElem?_cons_succ] at hp
      rw [List.getElem?_append_right (by simp [ptyCells]; omega)]
      rw [show (i + 1) * 3 + j - (ptyCells q).length = i * 3 + j by simp [ptyCells]; omega]
      exact ih i hp
/-- A slice of entries that the call has made. -/
def OwnP (base : Nat) (w : World) (v : Value) (l : List Pty) : Prop := w.ownsRow base 43 3 v l.length (l.flatMap ptyCells)
theorem OwnP.nil {base : Nat} {w : World} : OwnP base w (.slice none 0 0) [] := ⟨rfl, Or.inl ⟨rfl, rfl⟩⟩
theorem OwnP.fr {X : List Nat} {base : Nat} {w w' : World} {v : Value} {l : List Pty} (h : OwnP base w v l) (hf : Fr X w w') (hx : ∀ k, v.ownBlock = some k → k ∉ X) : OwnP base w' v l := ownsRow_fr h hf hx
theorem OwnP.pts {base : Nat} {w : World} {v : Value} {l : List Pty} (h : OwnP base w v l) : Pts w v l := by
  rcases h.2 with ⟨h1, h2⟩ | ⟨g, cap, cur, hv, hb, hg, h3, h4, h5, h6⟩
  · exact Or.inl ⟨h1, List.length_eq_zero_iff.1 h2⟩
  · refine Or.inr ⟨g, 0, cap, hv, h3, by unfold maxLen at h4; omega, lt_of_block hg, fun i p hp => ?_⟩
    have hi : i < l.length := (List.getElem?_eq_some_iff.1 hp).1
    have key : ∀ j, j < 3 → w.cell? ⟨g, i * 3 + j, none⟩ = (ptyCells p)[j]? := by
      intro j hj
      rw [row_cell hg, ← ptyCells_at l i p hp j hj, ← h6, List.getElem?_take, if_pos (by omega), Array.getElem?_toList]
    rw [Nat.zero_add]
    exact ⟨key 0 (by decide), key 1 (by decide), key 2 (by decide)⟩
theorem eInfo : (Tryz.prog.info? 43).map (fun i => (i.zero, i.size, i.bytes)) = some (some (.agg #[.string ⟨#[]⟩, .string ⟨#[]⟩, .string ⟨#[]⟩]), 3, 48) := by kernel_rfl
theorem ptyCells_one (l : List Pty) : ∀ u ∈ l.flatMap ptyCells, u.oneCell' = true := by
  intro u hu
  obtain ⟨p, _, hu⟩ := List.mem_flatMap.1 hu
  simp only [ptyCells, List.mem_cons, List.not_mem_nil, or_false] at hu
  rcases hu with rfl | rfl | rfl <;> rfl

theorem run_appP_nil (w : World) (base : Nat) (ty : TypeId) (v : Value) (l : List Pty) (hown : OwnP base w v l) (c : Nat) : (Builtin.append_ #[22, 22] ty #[v, .slice none 0 c]).run Tryz.prog w = .ok v w := by
  obtain ⟨i0, hi, hz0, hz1, hz2⟩ := info_parts eInfo
  rcases hown.2 with ⟨rfl, _⟩ | ⟨g, cap, cur, rfl, _, _, hnc, _⟩
  · simp [Builtin.append_, run_underlying Tryz.underlying22, sizeOf, typeInfo, hi, Builtin.lenOf, Builtin.firstCells]
  · simp [Builtin.append_, run_underlying Tryz.underlying22, sizeOf, typeInfo, hi, Builtin.lenOf, Builtin.firstCells, hnc, storeCells]
theorem wp_appP {o : Oper} {a : Act} {K : Act → World → Prop} {Q : Exit → Act → World → Prop} {w : World} (s x : Operand)
    (ho : o.op = .call { callee := .builtin .append, args := #[s, x], argTypes := #[22, 22] }) (base : Nat) (ev xv : Value) (l xs : List Pty) (w0 : World)
    (hs : a.eval s = ev) (hx : a.eval x = xv) (hxs : Pts w xv xs) (hown : OwnP base w ev l) (hfr : Fr [] w0 w) (hb0 : w0.heap.size ≤ base) (hb : base ≤ w.heap.size) (hl : l.length + xs.length < 1000000)
    (h : ∀ v' w', OwnP base w' v' (l ++ xs) → Fr [] w0 w' → Fr ev.ownBlock.toList w w' → K (a.put o.dst v') w') :
    o.wp Tryz.prog a w K Q := by
  obtain ⟨i0, hi, hz0, hz1, hz2⟩ := info_parts eInfo
  rcases hxs with ⟨rfl, rfl⟩ | ⟨b, off, cap, rfl, h1, h2, h3, h4⟩
  · have hrun := run_appP_nil w base o.type ev l hown 0
    have := h ev w (by simpa using hown) hfr (Fr.refl _ _)
    unfold Oper.wp execOp
    simp only [ho, resolve, invoke, builtin, Sem.run_bind, Sem.run_pure, Result.andThen_ok, List.map_toArray, List.map_cons, List.map_nil, hs, hx, hrun]
    exact this
  · refine wp_append_own _ s x 22 ho base 43 i0 (.agg #[.string ⟨#[]⟩, .string ⟨#[]⟩, .string ⟨#[]⟩]) 3 48 Tryz.underlying22 hi hz0 hz1 hz2 rfl (by decide) ev _ _ hs hown ⟨b, off, none⟩ xs.length cap (xs.flatMap ptyCells) hx (ptyCells_length xs)
      (fun j u hj => ?_) (ptyCells_one xs) (by unfold maxLen; omega) (by omega) hb ?_
    · have hjl : j < xs.length * 3 := by
        rw [← ptyCells_length]; exact (List.getElem?_eq_some_iff.1 hj).1
      obtain ⟨p, hp⟩ : ∃ p, xs[j / 3]? = some p := ⟨xs[j / 3]'(by omega), List.getElem?_eq_getElem _⟩
      have he := ptyCells_at xs (j / 3) p hp (j % 3) (Nat.mod_lt _ (by decide))
      rw [show j / 3 * 3 + j % 3 = j by omega, hj] at he
      obtain ⟨c0, c1, c2⟩ := h4 (j / 3) p hp
      rw [show (⟨b, off, none⟩ : Addr).add j = ⟨b, off + j, none⟩ by cases j <;> simp [Addr.add], show off + j = off + j / 3 * 3 + j % 3 by omega]
      have hm : j % 3 < 3 := Nat.mod_lt _ (by decide)
      generalize j % 3 = r at he hm ⊢
      match r, hm with
      | 0, _ => rw [Nat.add_zero, c0]; exact he.symm
      | 1, _ => rw [c1]; exact he.symm
      | 2, _ => rw [c2]; exact he.symm
    · intro v' w' hown' hgrow _
      refine h v' w' ?_ (hfr.grown hgrow (fun r e => Or.inr ?_)) ((Fr.refl _ w).grown hgrow (fun r e => Or.inl (by simp [e])))
      · simpa [OwnP] using hown'
      · exact Nat.le_trans hb0 (ownBlock_cells hown r e).1
theorem wpList_appP {ops : Array Oper} {rest : List Oper} {o : Oper} {a : Act} {Q : Exit → Act → World → Prop} {w : World} (hg : o.guard = none) (s x : Operand)
    (ho : o.op = .call { callee := .builtin .append, args := #[s, x], argTypes := #[22, 22] }) (base : Nat) (ev xv : Value) (l xs : List Pty) (w0 : World)
    (hs : a.eval s = ev) (hx : a.eval x = xv) (hxs : Pts w xv xs) (hown : OwnP base w ev l) (hfr : Fr [] w0 w) (hb0 : w0.heap.size ≤ base) (hb : base ≤ w.heap.size) (hl : l.length + xs.length < 1000000)
    (h : ∀ v' w', OwnP base w' v' (l ++ xs) → Fr [] w0 w' → Fr ev.ownBlock.toList w w' → wpList Tryz.prog ops Q rest (a.put o.dst v') w') :
    wpList Tryz.prog ops Q (o :: rest) a w :=
  wpList_plain hg fun _ hK => wp_appP s x ho base ev xv l xs w0 hs hx hxs hown hfr hb0 hb hl fun v' w' h2 h3 h4 => hK _ _ (h v' w' h2 h3 h4)
theorem ownP_empty {base : Nat} {W : World} (hb : base ≤ W.heap.size) : OwnP base (W.alloc (.cells #[] 43)) (.slice (some ⟨W.heap.size, 0, none⟩) 0 0) [] :=
  ⟨rfl, Or.inr ⟨W.heap.size, 0, #[], rfl, hb, heap_new rfl, Nat.le_refl _, by decide, rfl, rfl⟩⟩
end Go.Proofs.YtjddngbgbbbefaaGreatDoor
