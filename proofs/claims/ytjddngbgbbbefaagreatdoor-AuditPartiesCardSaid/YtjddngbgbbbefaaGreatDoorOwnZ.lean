/-
  Slices of ints that the call has made; append to them.
-/
import Derived.Test.YtjddngbgbbbefaaGreatDoorPlnFl
namespace Go.Proofs.YtjddngbgbbbefaaGreatDoor
open Go.RowKit

theorem zInfo : (Tryz.prog.info? 3).map (fun i => (i.zero, i.size, i.bytes)) = some (some (.int .i64 0), 1, 8) := by kernel_rfl
def zV (z : Int) : Value := .int .i64 z
/-- A slice of numbers with signs that the call has made. -/
def OwnZ (base : Nat) (w : World) (v : Value) (l : List Int) : Prop := w.ownsRow base 3 1 v l.length (l.map zV)
theorem OwnZ.fr {X : List Nat} {base : Nat} {w w' : World} {v : Value} {l : List Int} (h : OwnZ base w v l) (hf : Fr X w w') (hx : ∀ k, v.ownBlock = some k → k ∉ X) : OwnZ base w' v l := ownsRow_fr h hf hx
theorem OwnZ.zs {base : Nat} {w : World} {v : Value} {l : List Int} (h : OwnZ base w v l) : Zs w v l := by
  rcases h.2 with ⟨h2, h3⟩ | ⟨g, cap, cur, hv, hb, hg, h3, h4, h5, h6⟩
  · exact Or.inl ⟨List.length_eq_zero_iff.1 h3, none, h2⟩
  · refine Or.inr ⟨g, 0, cap, hv, h3, by unfold maxLen at h4; omega, lt_of_block hg, fun i hi => ?_⟩
    rw [Nat.zero_add, row_cell hg i]
    have h7 : (cur.toList.take (l.length * 1))[i]? = cur[i]? := by rw [List.getElem?_take, if_pos (by omega), Array.getElem?_toList]
    rw [← h7, h6, List.getElem?_map, List.getElem?_eq_getElem hi]
    simp [zV, hi]
theorem run_appZ_nil (w : World) (base : Nat) (ty : TypeId) (v : Value) (l : List Int) (hown : OwnZ base w v l) (a : Option Addr) : (Builtin.append_ #[24, 24] ty #[v, .slice a 0 0]).run Tryz.prog w = .ok v w := by
  obtain ⟨i0, hi, hz0, hz1, hz2⟩ := info_parts zInfo
  rcases hown.2 with ⟨rfl, _⟩ | ⟨g, cap, cur, rfl, _, _, hnc, _⟩
  · cases a <;> simp [Builtin.append_, run_underlying Tryz.underlying24, sizeOf, typeInfo, hi, Builtin.lenOf, Builtin.firstCells, loadCells, loadCellsFrom]
  · cases a <;> simp [Builtin.append_, run_underlying Tryz.underlying24, sizeOf, typeInfo, hi, Builtin.lenOf, Builtin.firstCells, hnc, loadCells, loadCellsFrom, storeCells]
section
variable {o : Oper} {a : Act} {K : Act → World → Prop} {Q : Exit → Act → World → Prop} {w : World}
theorem wp_appZ (s x : Operand)
    (ho : o.op = .call { callee := .builtin .append, args := #[s, x], argTypes := #[24, 24] }) (base : Nat) (ev xv : Value) (l xs : List Int) (w0 : World)
    (hs : a.eval s = ev) (hx : a.eval x = xv) (hxs : Zs w xv xs) (hown : OwnZ base w ev l) (hfr : Fr [] w0 w) (hb0 : w0.heap.size ≤ base) (hb : base ≤ w.heap.size) (hl : l.length + xs.length < 1000000)
    (h : ∀ v' w', OwnZ base w' v' (l ++ xs) → Fr [] w0 w' → Fr ev.ownBlock.toList w w' → K (a.put o.dst v') w') :
    o.wp Tryz.prog a w K Q := by
  obtain ⟨i0, hi, hz0, hz1, hz2⟩ := info_parts zInfo
  rcases hxs with ⟨rfl, av, rfl⟩ | ⟨b, off, cap, rfl, h1, h2, h3, h4⟩
  · have hrun := run_appZ_nil w base o.type ev l hown av
    have := h ev w (by simpa using hown) hfr (Fr.refl _ _)
    unfold Oper.wp execOp
    simp only [ho, resolve, invoke, builtin, Sem.run_bind, Sem.run_pure, Result.andThen_ok, List.map_toArray, List.map_cons, List.map_nil, hs, hx, hrun]
    exact this
  · refine wp_append_own _ s x 24 ho base 3 i0 (.int .i64 0) 1 8 Tryz.underlying24 hi hz0 hz1 hz2 rfl (by decide) ev _ _ hs hown ⟨b, off, none⟩ xs.length cap (xs.map zV) hx (by simp)
      (fun j u hj => ?_) (fun u hu => by obtain ⟨n, _, rfl⟩ := List.mem_map.1 hu; rfl) (by unfold maxLen; omega) (by omega) hb ?_
    · have hjl : j < xs.length := by simpa using (List.getElem?_eq_some_iff.1 hj).1
      rw [show (⟨b, off, none⟩ : Addr).add j = ⟨b, off + j, none⟩ by cases j <;> simp [Addr.add], h4 j hjl, ← hj]
      simp [zV, List.getD_eq_getElem?_getD, hjl]
    · intro v' w' hown' hgrow _
      refine h v' w' ?_ (hfr.grown hgrow (fun r e => Or.inr ?_)) ((Fr.refl _ w).grown hgrow (fun r e => Or.inl (by simp [e])))
      · simpa [OwnZ] using hown'
      · exact Nat.le_trans hb0 (ownBlock_cells hown r e).1
end
theorem wpList_appZ {ops : Array Oper} {rest : List Oper} {o : Oper} {a : Act} {Q : Exit → Act → World → Prop} {w : World} (hg : o.guard = none) (s x : Operand)
    (ho : o.op = .call { callee := .builtin .append, args := #[s, x], argTypes := #[24, 24] }) (base : Nat) (ev xv : Value) (l xs : List Int) (w0 : World)
    (hs : a.eval s = ev) (hx : a.eval x = xv) (hxs : Zs w xv xs) (hown : OwnZ base w ev l) (hfr : Fr [] w0 w) (hb0 : w0.heap.size ≤ base) (hb : base ≤ w.heap.size) (hl : l.length + xs.length < 1000000)
    (h : ∀ v' w', OwnZ base w' v' (l ++ xs) → Fr [] w0 w' → Fr ev.ownBlock.toList w w' → wpList Tryz.prog ops Q rest (a.put o.dst v') w') :
    wpList Tryz.prog ops Q (o :: rest) a w :=
  wpList_plain hg fun _ hK => wp_appZ s x ho base ev xv l xs w0 hs hx hxs hown hfr hb0 hb hl fun v' w' h2 h3 h4 => hK _ _ (h v' w' h2 h3 h4)
theorem ownZ_empty {base : Nat} {W : World} (hb : base ≤ W.heap.size) : OwnZ base (W.alloc (.cells #[] 3)) (.slice (some ⟨W.heap.size, 0, none⟩) 0 0) [] :=
  ⟨rfl, Or.inr ⟨W.heap.size, 0, #[], rfl, hb, heap_new rfl, Nat.le_refl _, by decide, rfl, rfl⟩⟩

theorem zs_two {w : World} {g : Nat} {x y : Int} (h : w.heap[g]? = some (.cells #[.int .i64 x, .int .i64 y] 3 (0, 0))) : Zs w (.slice (some ⟨g, 0, none⟩) 2 2) [x, y] := by
  refine Or.inr ⟨g, 0, 2, rfl, Nat.le_refl _, by decide, lt_of_block h, fun i hi => ?_⟩
  rw [Nat.zero_add, row_cell h i]
  match i, hi with
  | 0, _ => rfl
  | 1, _ => rfl
theorem OwnZ.form {base : Nat} {w : World} {v : Value} {l : List Int} (h : OwnZ base w v l) (hp : 0 < l.length) : ∃ g cap, v = .slice (some ⟨g, 0, none⟩) l.length cap ∧ base ≤ g := by
  rcases h.2 with ⟨h2, h3⟩ | ⟨g, cap, cur, hv, hb, _⟩
  · omega
  · exact ⟨g, cap, hv, hb⟩
end Go.Proofs.YtjddngbgbbbefaaGreatDoor
