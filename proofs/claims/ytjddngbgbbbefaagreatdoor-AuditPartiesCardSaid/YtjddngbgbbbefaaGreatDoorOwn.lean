/-
  Slices of strings that the call has made; append to them.
  append: a slice of strings, behind an own slice of strings.
-/
import Derived.Test.YtjddngbgbbbefaaGreatDoorDigA
import Derived.RangeFuncBox
namespace Go.Proofs.YtjddngbgbbbefaaGreatDoor
open Go.RowKit

def strV (s : List UInt8) : Value := .string ⟨s.toArray⟩
/-- A slice of strings that the call has made. -/
def OwnS (base : Nat) (w : World) (v : Value) (l : List (List UInt8)) : Prop := w.ownsRow base 9 1 v l.length (l.map strV)
theorem OwnS.strs {base : Nat} {w : World} {v : Value} {l : List (List UInt8)} (h : OwnS base w v l) : Strs w v l := by
  obtain ⟨_, h2⟩ := h
  rcases h2 with ⟨h2, h3⟩ | ⟨g, cap, cur, hv, hb, hg, h3, h4, h5, h6⟩
  · exact Or.inl ⟨h2, List.length_eq_zero_iff.1 h3⟩
  · refine Or.inr ⟨g, 0, cap, hv, h3, by unfold maxLen at h4; omega, lt_of_block hg, fun i hi => ?_⟩
    rw [Nat.zero_add, row_cell hg i]
    have h7 : (cur.toList.take (l.length * 1))[i]? = cur[i]? := by rw [List.getElem?_take, if_pos (by omega), Array.getElem?_toList]
    rw [← h7, h6, List.getElem?_map, List.getElem?_eq_getElem hi]
    simp [strV, hi]
theorem OwnS.fr {X : List Nat} {base : Nat} {w w' : World} {v : Value} {l : List (List UInt8)} (h : OwnS base w v l) (hf : Fr X w w') (hx : ∀ k, v.ownBlock = some k → k ∉ X) : OwnS base w' v l := ownsRow_fr h hf hx
theorem OwnS.mono {base base' : Nat} {w : World} {v : Value} {l : List (List UInt8)} (h : OwnS base w v l) (hb : base' ≤ base) : OwnS base' w v l := by
  obtain ⟨h1, h2⟩ := h
  refine ⟨h1, ?_⟩
  rcases h2 with h2 | ⟨g, cap, cur, hv, h3, h4⟩
  · exact Or.inl h2
  · exact Or.inr ⟨g, cap, cur, hv, Nat.le_trans hb h3, h4⟩
theorem ownBlock_cells {base : Nat} {w : World} {e : TypeId} {size n : Nat} {v : Value} {xs : List Value} (h : w.ownsRow base e size v n xs) : ∀ x, v.ownBlock = some x → base ≤ x ∧ ∀ o, w.heap[x]? = some o → o.isCells = true := by
  intro x hx
  rcases h.2 with ⟨rfl, _⟩ | ⟨g, cap, cur, rfl, hb, hg, _⟩
  · simp [Value.ownBlock] at hx
  · obtain rfl : g = x := by simpa [Value.ownBlock] using hx
    exact ⟨hb, fun o ho => by rw [hg] at ho; cases ho; rfl⟩
theorem sInfo : (Tryz.prog.info? 9).map (fun i => (i.zero, i.size, i.bytes)) = some (some (.string ⟨#[]⟩), 1, 16) := by kernel_rfl

theorem wpList_appS {ops : Array Oper} {rest : List Oper} {o : Oper} {a : Act} {Q : Exit → Act → World → Prop} {w : World} (hg : o.guard = none) (s x : Operand)
    (ho : o.op = .call { callee := .builtin .append, args := #[s, x], argTypes := #[27, 27] }) (base : Nat) (ev : Value) (l : List (List UInt8)) (t : List UInt8) (w0 : World)
    (hs : a.eval s = ev) (hx : a.eval x = .slice (some ⟨w.heap.size, 0, none⟩) 1 1) (hown : OwnS base w ev l) (hfr : Fr [] w0 w) (hb0 : w0.heap.size ≤ base) (hb : base ≤ w.heap.size) (hl : l.length < 1000000)
    (h : ∀ v' w', (∃ g cap, v' = .slice (some ⟨g, 0, none⟩) (l.length + 1) cap) → OwnS base w' v' (l ++ [t]) → Fr [] w0 w' → Fr ev.ownBlock.toList w w' → wpList Tryz.prog ops Q rest (a.put o.dst v') w') :
    wpList Tryz.prog ops Q (o :: rest) a (w.alloc (.cells #[.string ⟨t.toArray⟩] 9)) := by
  obtain ⟨i0, hi, hz0, hz1, hz2⟩ := info_parts sInfo
  refine wpList_append_own _ hg s x 27 ho base 9 i0 (.string ⟨#[]⟩) 1 16 Tryz.underlying27 hi hz0 hz1 hz2 rfl (by decide) ev _ _ hs (ownsRow_fr hown ((Fr.refl [] w).alloc _) (by simp)) ⟨w.heap.size, 0, none⟩ 1 1 [strV t] hx rfl
    (fun j u hj => ?_) (by simp [strV, Value.oneCell']) (by unfold maxLen; omega) (by omega) (by simp; omega) ?_
  · match j, hj with
    | 0, hj =>
      simp at hj; subst hj
      rw [show (⟨w.heap.size, 0, none⟩ : Addr).add 0 = ⟨w.heap.size, 0, none⟩ by simp [Addr.add]]
      exact cell_of_one (heap_new rfl)
  · intro v' w' hown' hgrow _
    refine h v' w' (ownsRow_succ hown') ?_ ((hfr.alloc _).grown hgrow (fun r e => Or.inr ?_)) (((Fr.refl _ w).alloc _).grown hgrow (fun r e => Or.inl (by simp [e])))
    · simpa [OwnS, strV] using hown'
    · exact Nat.le_trans hb0 (ownBlock_cells hown r e).1
theorem wp_appS {o : Oper} {a : Act} {K : Act → World → Prop} {Q : Exit → Act → World → Prop} {w : World} (s x : Operand)
    (ho : o.op = .call { callee := .builtin .append, args := #[s, x], argTypes := #[27, 27] }) (base : Nat) (ev : Value) (l : List (List UInt8)) (t : List UInt8) (w0 : World)
    (hs : a.eval s = ev) (hx : a.eval x = .slice (some ⟨w.heap.size, 0, none⟩) 1 1) (hown : OwnS base w ev l) (hfr : Fr [] w0 w) (hb0 : w0.heap.size ≤ base) (hb : base ≤ w.heap.size) (hl : l.length < 1000000)
    (h : ∀ v' w', (∃ g cap, v' = .slice (some ⟨g, 0, none⟩) (l.length + 1) cap) → OwnS base w' v' (l ++ [t]) → Fr [] w0 w' → Fr ev.ownBlock.toList w w' → K (a.put o.dst v') w') :
    o.wp Tryz.prog a (w.alloc (.cells #[.string ⟨t.toArray⟩] 9)) K Q := by
  obtain ⟨i0, hi, hz0, hz1, hz2⟩ := info_parts sInfo
  refine wp_append_own _ s x 27 ho base 9 i0 (.string ⟨#[]⟩) 1 16 Tryz.underlying27 hi hz0 hz1 hz2 rfl (by decide) ev _ _ hs (ownsRow_fr hown ((Fr.refl [] w).alloc _) (by simp)) ⟨w.heap.size, 0, none⟩ 1 1 [strV t] hx rfl
    (fun j u hj => ?_) (by simp [strV, Value.oneCell']) (by unfold maxLen; omega) (by omega) (by simp; omega) ?_
  · match j, hj with
    | 0, hj =>
      simp at hj; subst hj
      rw [show (⟨w.heap.size, 0, none⟩ : Addr).add 0 = ⟨w.heap.size, 0, none⟩ by simp [Addr.add]]
      exact cell_of_one (heap_new rfl)
  · intro v' w' hown' hgrow _
    refine h v' w' (ownsRow_succ hown') ?_ ((hfr.alloc _).grown hgrow (fun r e => Or.inr ?_)) (((Fr.refl _ w).alloc _).grown hgrow (fun r e => Or.inl (by simp [e])))
    · simpa [OwnS, strV] using hown'
    · exact Nat.le_trans hb0 (ownBlock_cells hown r e).1
theorem Strs.cellN {w : World} {b off cap n : Nat} {l : List (List UInt8)} (h : Strs w (.slice (some ⟨b, off, none⟩) n cap) l) (hn : l.length = n) (k : Nat) (hk : k < n) : w.cell? ⟨b, off + k, none⟩ = some (.string ⟨(l.getD k []).toArray⟩) := by
  subst hn
  exact h.cell k hk
theorem strs_two {W : World} {b : Nat} {x y : List UInt8} {t : TypeId} (h : W.heap[b]? = some (.cells #[.string ⟨x.toArray⟩, .string ⟨y.toArray⟩] t (0, 0))) : Strs W (.slice (some ⟨b, 0, none⟩) 2 2) [x, y] := by
  refine Or.inr ⟨b, 0, 2, rfl, by simp, by decide, lt_of_block h, fun i hi => ?_⟩
  rw [Nat.zero_add, row_cell h i]
  match i, hi with
  | 0, _ => rfl
  | 1, _ => rfl
theorem strs_three {W : World} {b : Nat} {x y z : List UInt8} {t : TypeId} (h : W.heap[b]? = some (.cells #[.string ⟨x.toArray⟩, .string ⟨y.toArray⟩, .string ⟨z.toArray⟩] t (0, 0))) : Strs W (.slice (some ⟨b, 0, none⟩) 3 3) [x, y, z] := by
  refine Or.inr ⟨b, 0, 3, rfl, by simp, by decide, lt_of_block h, fun i hi => ?_⟩
  rw [Nat.zero_add, row_cell h i]
  match i, hi with
  | 0, _ => rfl
  | 1, _ => rfl
  | 2, _ => rfl
  | i + 3, hi => simp at hi; omega
theorem Strs.frN {X : List Nat} {w w' : World} {g off n c : Nat} {l : List (List UInt8)} (h : Strs w (.slice (some ⟨g, off, none⟩) n c) l) (hf : Fr X w w') (hx : g ∉ X) : Strs w' (.slice (some ⟨g, off, none⟩) n c) l :=
  h.fr hf (fun b hb => by cases hb; exact hx)
theorem own_empty {base : Nat} {W : World} (hb : base ≤ W.heap.size) : OwnS base (W.alloc (.cells #[] 9)) (.slice (some ⟨W.heap.size, 0, none⟩) 0 0) [] :=
  ⟨rfl, Or.inr ⟨W.heap.size, 0, #[], rfl, hb, heap_new rfl, Nat.le_refl _, by decide, rfl, rfl⟩⟩
theorem strs_one {W : World} {b : Nat} {x : List UInt8} {t : TypeId} (h : W.heap[b]? = some (.cells #[.string ⟨x.toArray⟩] t (0, 0))) : Strs W (.slice (some ⟨b, 0, none⟩) 1 1) [x] := by
  refine Or.inr ⟨b, 0, 1, rfl, by simp, by decide, lt_of_block h, fun i hi => ?_⟩
  rw [Nat.zero_add, row_cell h i]
  match i, hi with
  | 0, _ => rfl
  | i + 1, hi => simp at hi
theorem OwnS.one {base : Nat} {W : World} {x : List UInt8} (hb : base ≤ W.heap.size) : OwnS base (W.alloc (.cells #[.string ⟨x.toArray⟩] 9)) (.slice (some ⟨W.heap.size, 0, none⟩) 1 1) [x] :=
  ⟨by simp [strV], Or.inr ⟨W.heap.size, 1, #[.string ⟨x.toArray⟩], rfl, hb, heap_new rfl, Nat.le_refl _, by decide, rfl, rfl⟩⟩
theorem OwnS.slice {base n : Nat} {w : World} {v : Value} {l : List (List UInt8)} (h : OwnS base w v l) (hn : l.length = n) (h0 : 0 < n) : ∃ g c, v = .slice (some ⟨g, 0, none⟩) n c := by
  rcases h.2 with ⟨_, h1⟩ | ⟨g, cap, cur, hv, _⟩
  · omega
  · exact ⟨g, cap, by rw [hn] at hv; exact hv⟩
/-- A cell of an own slice that is set. -/
theorem own_set {base : Nat} {w : World} {g cap n i : Nat} {cur : Array Value} {l : List (List UInt8)} (hb : base ≤ g) (hg : w.heap[g]? = some (.cells cur 9 (0, 0))) (h3 : n ≤ cap) (h4 : cap ≤ maxLen) (h5 : cur.size = cap * 1)
    (h6 : cur.toList.take (n * 1) = l.map strV) (x : List UInt8) : OwnS base (w.setCell ⟨g, i, none⟩ (.string ⟨x.toArray⟩)) (.slice (some ⟨g, 0, none⟩) n cap) (l.set i x) := by
  have hl : l.length = n := by
    have := congrArg List.length h6
    simp only [List.length_take, List.length_map, Array.length_toList] at this
    omega
  refine ⟨by simp [strV], Or.inr ⟨g, cap, cur.setIfInBounds i (.string ⟨x.toArray⟩), by rw [List.length_set, hl], hb, row_set hg i _, by rw [List.length_set]; omega, h4, by simp [h5], ?_⟩⟩
  rw [List.length_set, hl, Array.toList_setIfInBounds, List.take_set, h6, List.map_set]; rfl
end Go.Proofs.YtjddngbgbbbefaaGreatDoor
namespace Go.Proofs.YtjddngbgbbbefaaGreatDoor
open Go.RowKit Go.Lib
theorem cells_news {w : World} {b off c n : Nat} {xs : List (List UInt8)} (h : Strs w (.slice (some ⟨b, off, none⟩) n c) xs) (j : Nat) (u : Value) (hj : (xs.map strV)[j]? = some u) : w.cell? ((⟨b, off, none⟩ : Addr).add j) = some u := by
  rcases h with ⟨h, _⟩ | ⟨b', off', cap', hv, _, _, _, h4⟩
  · cases h
  · cases hv
    rw [List.getElem?_map, Option.map_eq_some_iff] at hj
    obtain ⟨t, ht, rfl⟩ := hj
    have hlt : j < xs.length := by
      rcases Nat.lt_or_ge j xs.length with h | h
      · exact h
      · rw [List.getElem?_eq_none h] at ht; cases ht
    have := h4 j hlt
    rw [show (⟨b, off, none⟩ : Addr).add j = ⟨b, off + j, none⟩ by cases j <;> simp [Addr.add], this]
    simp [strV, List.getD_eq_getElem?_getD, ht]
theorem wp_appM {o : Oper} {a : Act} {K : Act → World → Prop} {Q : Exit → Act → World → Prop} {w : World} (s x : Operand)
    (ho : o.op = .call { callee := .builtin .append, args := #[s, x], argTypes := #[27, 27] }) (base : Nat) (ev : Value) (l xs : List (List UInt8)) (b off n c : Nat) (w0 : World)
    (hs : a.eval s = ev) (hx : a.eval x = .slice (some ⟨b, off, none⟩) n c) (hn : xs.length = n) (hxs : Strs w (.slice (some ⟨b, off, none⟩) n c) xs) (hown : OwnS base w ev l) (hfr : Fr [] w0 w) (hb0 : w0.heap.size ≤ base) (hb : base ≤ w.heap.size) (hl : l.length + n < 1000000)
    (h : ∀ v' w', OwnS base w' v' (l ++ xs) → Fr [] w0 w' → Fr ev.ownBlock.toList w w' → K (a.put o.dst v') w') :
    o.wp Tryz.prog a w K Q := by
  obtain ⟨i0, hi, hz0, hz1, hz2⟩ := info_parts sInfo
  refine wp_append_own _ s x 27 ho base 9 i0 (.string ⟨#[]⟩) 1 16 Tryz.underlying27 hi hz0 hz1 hz2 rfl (by decide) ev _ _ hs hown ⟨b, off, none⟩ n c (xs.map strV) hx (by simp [hn])
    (fun j u hj => cells_news hxs j u hj) (by simp [strV, Value.oneCell']) (by unfold maxLen; omega) (by omega) hb ?_
  intro v' w' hown' hgrow _
  refine h v' w' ?_ (hfr.grown hgrow (fun r e => Or.inr ?_)) ((Fr.refl _ w).grown hgrow (fun r e => Or.inl (by simp [e])))
  · simpa [OwnS, hn] using hown'
  · exact Nat.le_trans hb0 (ownBlock_cells hown r e).1
theorem wpList_appM {ops : Array Oper} {rest : List Oper} {o : Oper} {a : Act} {Q : Exit → Act → World → Prop} {w : World} (hg : o.guard = none) (s x : Operand)
    (ho : o.op = .call { callee := .builtin .append, args := #[s, x], argTypes := #[27, 27] }) (base : Nat) (ev : Value) (l xs : List (List UInt8)) (b off n c : Nat) (w0 : World)
    (hs : a.eval s = ev) (hx : a.eval x = .slice (some ⟨b, off, none⟩) n c) (hn : xs.length = n) (hxs : Strs w (.slice (some ⟨b, off, none⟩) n c) xs) (hown : OwnS base w ev l) (hfr : Fr [] w0 w) (hb0 : w0.heap.size ≤ base) (hb : base ≤ w.heap.size) (hl : l.length + n < 1000000)
    (h : ∀ v' w', OwnS base w' v' (l ++ xs) → Fr [] w0 w' → Fr ev.ownBlock.toList w w' → wpList Tryz.prog ops Q rest (a.put o.dst v') w') :
    wpList Tryz.prog ops Q (o :: rest) a w :=
  wpList_plain hg fun _ hK => wp_appM s x ho base ev l xs b off n c w0 hs hx hn hxs hown hfr hb0 hb hl fun v' w' h2 h3 h4 => hK _ _ (h v' w' h2 h3 h4)
theorem wpList_appMg {ops : Array Oper} {rest : List Oper} {o : Oper} {a : Act} {Q : Exit → Act → World → Prop} {w : World} (hw : Region.wanted o (yielded ops a.tmps) = true) (s x : Operand)
    (ho : o.op = .call { callee := .builtin .append, args := #[s, x], argTypes := #[27, 27] }) (base : Nat) (ev : Value) (l xs : List (List UInt8)) (b off n c : Nat) (w0 : World)
    (hs : a.eval s = ev) (hx : a.eval x = .slice (some ⟨b, off, none⟩) n c) (hn : xs.length = n) (hxs : Strs w (.slice (some ⟨b, off, none⟩) n c) xs) (hown : OwnS base w ev l) (hfr : Fr [] w0 w) (hb0 : w0.heap.size ≤ base) (hb : base ≤ w.heap.size) (hl : l.length + n < 1000000)
    (h : ∀ v' w', OwnS base w' v' (l ++ xs) → Fr [] w0 w' → Fr ev.ownBlock.toList w w' → wpList Tryz.prog ops Q rest (a.put o.dst v') w') :
    wpList Tryz.prog ops Q (o :: rest) a w :=
  wpList_step fun _ hK => by rw [if_pos hw]; exact wp_appM s x ho base ev l xs b off n c w0 hs hx hn hxs hown hfr hb0 hb hl fun v' w' h2 h3 h4 => hK _ _ (h v' w' h2 h3 h4)
end Go.Proofs.YtjddngbgbbbefaaGreatDoor
