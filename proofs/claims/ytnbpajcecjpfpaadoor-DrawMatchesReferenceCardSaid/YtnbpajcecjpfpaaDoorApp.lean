/-
  append: a slice of strings, behind an own slice of strings.
-/
import Derived.Test.YtnbpajcecjpfpaaDoorOwn
namespace Go.Proofs.YtnbpajcecjpfpaaDoor
open Go.RowKit Go.Lib
theorem cells_news {w : World} {b off c n : Nat} {xs : List (List UInt8)} (h : Strs w (.slice (some ⟨b, off, none⟩) n c) xs) (j : Nat) (u : Value) (hj : (xs.map strV)[j]? = some u) : w.cell? ((⟨b, off, none⟩ : Addr).add j) = some u := by
  rcases h with ⟨h, _⟩ | ⟨b', off', cap', hv, _, _, _, h4⟩
  · cases h
  · cases hv
    rw [List.getElem?_map, Option.map_eq_some_iff] at hj
    obtain ⟨t, ht, rfl⟩ := hj
    have hlt : j < xs.length := by
      rcases Nat.lt_or_ge j xs.length with h | h
      · exact h
      · rw [List.getElem?_eq_none h] at ht; cases ht
    have := h4 j hlt
    rw [show (⟨b, off, none⟩ : Addr).add j = ⟨b, off + j, none⟩ by cases j <;> simp [Addr.add], this]
    simp [strV, List.getD_eq_getElem?_getD, ht]
theorem wp_appM {o : Oper} {a : Act} {K : Act → World → Prop} {Q : Exit → Act → World → Prop} {w : World} (s x : Operand)
    (ho : o.op = .call { callee := .builtin .append, args := #[s, x], argTypes := #[39, 39] }) (base : Nat) (ev : Value) (l xs : List (List UInt8)) (b off n c : Nat) (w0 : World)
    (hs : a.eval s = ev) (hx : a.eval x = .slice (some ⟨b, off, none⟩) n c) (hn : xs.length = n) (hxs : Strs w (.slice (some ⟨b, off, none⟩) n c) xs) (hown : OwnS base w ev l) (hfr : Fr [] w0 w) (hb0 : w0.heap.size ≤ base) (hb : base ≤ w.heap.size) (hl : l.length + n < 1000000)
    (h : ∀ v' w', OwnS base w' v' (l ++ xs) → Fr [] w0 w' → Fr ev.ownBlock.toList w w' → K (a.put o.dst v') w') :
    o.wp Tryd.prog a w K Q := by
  obtain ⟨i0, hi, hz0, hz1, hz2⟩ := info_parts sInfo
  refine wp_append_own _ s x 39 ho base 9 i0 (.string ⟨#[]⟩) 1 16 Tryd.underlying39 hi hz0 hz1 hz2 rfl (by decide) ev _ _ hs hown ⟨b, off, none⟩ n c (xs.map strV) hx (by simp [hn])
    (fun j u hj => cells_news hxs j u hj) (by simp [strV, Value.oneCell']) (by unfold maxLen; omega) (by omega) hb ?_
  intro v' w' hown' hgrow _
  refine h v' w' ?_ (hfr.grown hgrow (fun r e => Or.inr ?_)) ((Fr.refl _ w).grown hgrow (fun r e => Or.inl (by simp [e])))
  · simpa [OwnS, hn] using hown'
  · exact Nat.le_trans hb0 (ownBlock_cells hown r e).1
theorem wpList_appM {ops : Array Oper} {rest : List Oper} {o : Oper} {a : Act} {Q : Exit → Act → World → Prop} {w : World} (hg : o.guard = none) (s x : Operand)
    (ho : o.op = .call { callee := .builtin .append, args := #[s, x], argTypes := #[39, 39] }) (base : Nat) (ev : Value) (l xs : List (List UInt8)) (b off n c : Nat) (w0 : World)
    (hs : a.eval s = ev) (hx : a.eval x = .slice (some ⟨b, off, none⟩) n c) (hn : xs.length = n) (hxs : Strs w (.slice (some ⟨b, off, none⟩) n c) xs) (hown : OwnS base w ev l) (hfr : Fr [] w0 w) (hb0 : w0.heap.size ≤ base) (hb : base ≤ w.heap.size) (hl : l.length + n < 1000000)
    (h : ∀ v' w', OwnS base w' v' (l ++ xs) → Fr [] w0 w' → Fr ev.ownBlock.toList w w' → wpList Tryd.prog ops Q rest (a.put o.dst v') w') :
    wpList Tryd.prog ops Q (o :: rest) a w :=
  wpList_plain hg fun _ hK => wp_appM s x ho base ev l xs b off n c w0 hs hx hn hxs hown hfr hb0 hb hl fun v' w' h2 h3 h4 => hK _ _ (h v' w' h2 h3 h4)
theorem wpList_appMg {ops : Array Oper} {rest : List Oper} {o : Oper} {a : Act} {Q : Exit → Act → World → Prop} {w : World} (hw : Region.wanted o (yielded ops a.tmps) = true) (s x : Operand)
    (ho : o.op = .call { callee := .builtin .append, args := #[s, x], argTypes := #[39, 39] }) (base : Nat) (ev : Value) (l xs : List (List UInt8)) (b off n c : Nat) (w0 : World)
    (hs : a.eval s = ev) (hx : a.eval x = .slice (some ⟨b, off, none⟩) n c) (hn : xs.length = n) (hxs : Strs w (.slice (some ⟨b, off, none⟩) n c) xs) (hown : OwnS base w ev l) (hfr : Fr [] w0 w) (hb0 : w0.heap.size ≤ base) (hb : base ≤ w.heap.size) (hl : l.length + n < 1000000)
    (h : ∀ v' w', OwnS base w' v' (l ++ xs) → Fr [] w0 w' → Fr ev.ownBlock.toList w w' → wpList Tryd.prog ops Q rest (a.put o.dst v') w') :
    wpList Tryd.prog ops Q (o :: rest) a w :=
  wpList_step fun _ hK => by rw [if_pos hw]; exact wp_appM s x ho base ev l xs b off n c w0 hs hx hn hxs hown hfr hb0 hb hl fun v' w' h2 h3 h4 => hK _ _ (h v' w' h2 h3 h4)
end Go.Proofs.YtnbpajcecjpfpaaDoor
