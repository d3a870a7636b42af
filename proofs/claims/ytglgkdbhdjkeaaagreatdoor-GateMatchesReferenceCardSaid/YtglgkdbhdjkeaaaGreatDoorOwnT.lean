/-
  Slices of transfers that the call has made; append to them.
-/
import Derived.Test.YtglgkdbhdjkeaaaGreatDoorTtA
namespace Go.Proofs.YtglgkdbhdjkeaaaGreatDoor
open Go.RowKit

/-- A transfer with the value of its signature. -/
abbrev Rtf := Trf × Value
def rtC (q : Rtf) : List Value := [.string ⟨q.1.nk.toArray⟩, q.2]
theorem rtC_length (l : List Rtf) : (l.flatMap rtC).length = l.length * 2 := by
  induction l with
  | nil => rfl
  | cons p l ih => rw [List.flatMap_cons, List.length_append, ih, List.length_cons]; simp [rtC]; omega
theorem rtC_at (l : List Rtf) (i : Nat) (p : Rtf) (hp : l[i]? = some p) (j : Nat) (hj : j < 2) : (l.flatMap rtC)[i * 2 + j]? = (rtC p)[j]? := by
  induction l generalizing i with
  | nil => simp at hp
  | cons q l ih =>
    rw [List.flatMap_cons]
    cases i with
    | zero =>
      rw [List.getElem?_cons_zero] at hp
      cases hp
      rw [Nat.zero_mul, Nat.zero_add, List.getElem?_append_left (by simp [rtC]; omega)]
    | succ i =>
      rw [List.getElem?_cons_succ] at hp
      rw [List.getElem?_append_right (by simp [rtC]; omega)]
      rw [show (i + 1) * 2 + j - (rtC q).length = i * 2 + j by simp [rtC]; omega]
      exact ih i hp
/-- The signatures read. -/
def SigsR (w : World) (l : List Rtf) : Prop := ∀ q ∈ l, StrsW w q.2 q.1.sig
theorem SigsR.fr {w w' : World} {l : List Rtf} (h : SigsR w l) (hf : Fr [] w w') : SigsR w' l := fun q hq => (h q hq).fr hf
theorem SigsR.app {w : World} {l m : List Rtf} (h : SigsR w l) (k : SigsR w m) : SigsR w (l ++ m) := fun q hq => (List.mem_append.1 hq).elim (h q) (k q)
theorem SigsR.nil (w : World) : SigsR w [] := fun _ h => by cases h
/-- A slice of transfers, with the values of their signatures. -/
def RawT (w : World) (v : Value) (l : List Rtf) : Prop :=
  (l = [] ∧ ∃ a, v = .slice a 0 0) ∨ ∃ b off cap, v = .slice (some ⟨b, off, none⟩) l.length cap ∧ l.length ≤ cap ∧ cap ≤ 9223372036854775807 ∧ b < w.heap.size ∧
    ∀ (i : Nat) (x : Rtf), l[i]? = some x → w.cell? ⟨b, off + i * 2, none⟩ = some (.string ⟨x.1.nk.toArray⟩) ∧ w.cell? ⟨b, off + i * 2 + 1, none⟩ = some x.2
theorem RawT.fr {w w' : World} {v : Value} {l : List Rtf} (h : RawT w v l) (hf : Fr [] w w') : RawT w' v l := by
  rcases h with h | ⟨b, off, cap, hv, h1, h2, h3, h4⟩
  · exact Or.inl h
  · exact Or.inr ⟨b, off, cap, hv, h1, h2, Nat.lt_of_lt_of_le h3 hf.size, fun i x hx => ⟨hf.cell (h4 i x hx).1 (by simp), hf.cell (h4 i x hx).2 (by simp)⟩⟩
theorem Trs.raw {w : World} {v : Value} {l : List Trf} (h : Trs w v l) : ∃ R : List Rtf, R.map Prod.fst = l ∧ RawT w v R ∧ SigsR w R := by
  rcases h with ⟨rfl, h⟩ | ⟨b, off, cap, hv, h1, h2, h3, h4⟩
  · exact ⟨[], rfl, Or.inl ⟨rfl, h⟩, SigsR.nil w⟩
  · have hl : ((List.range l.length).map fun i => ((l.getD i default, (w.cell? ⟨b, off + i * 2 + 1, none⟩).getD undef) : Rtf)).length = l.length := by simp
    have hat : ∀ (i : Nat) (q : Rtf), ((List.range l.length).map fun i => ((l.getD i default, (w.cell? ⟨b, off + i * 2 + 1, none⟩).getD undef) : Rtf))[i]? = some q → ∃ x, l[i]? = some x ∧ q.1 = x ∧ w.cell? ⟨b, off + i * 2 + 1, none⟩ = some q.2 ∧ StrsW w q.2 x.sig := fun i q hq => by
      have hi : i < l.length := by have := (List.getElem?_eq_some_iff.1 hq).1; simpa using this
      rw [List.getElem?_map, List.getElem?_range hi] at hq
      simp only [Option.map_some, Option.some.injEq] at hq
      obtain ⟨x, hx⟩ : ∃ x, l[i]? = some x := ⟨_, List.getElem?_eq_getElem hi⟩
      obtain ⟨_, u, hu, hs⟩ := h4 i x hx
      rw [List.getD_eq_getElem?_getD, hx, hu] at hq
      subst hq
      exact ⟨x, hx, rfl, hu, hs⟩
    refine ⟨_, ?_, Or.inr ⟨b, off, cap, by rw [hl]; exact hv, by rw [hl]; exact h1, h2, h3, fun i q hq => ?_⟩, fun q hq => ?_⟩
    · refine List.ext_getElem (by simp) (fun i a1 a2 => ?_)
      simp [List.getD_eq_getElem?_getD, a2]
    · obtain ⟨x, hx, e, hu, _⟩ := hat i q hq
      rw [e]
      exact ⟨(h4 i x hx).1, hu⟩
    · obtain ⟨i, hi, he⟩ := List.getElem_of_mem hq
      obtain ⟨x, _, e, _, hs⟩ := hat i q (by rw [List.getElem?_eq_getElem hi, he])
      rw [e]
      exact hs
theorem RawT.trs {w : World} {v : Value} {R : List Rtf} (h : RawT w v R) (hs : SigsR w R) : Trs w v (R.map Prod.fst) := by
  rcases h with ⟨rfl, h⟩ | ⟨b, off, cap, hv, h1, h2, h3, h4⟩
  · exact Or.inl ⟨rfl, h⟩
  · refine Or.inr ⟨b, off, cap, by rw [List.length_map]; exact hv, by rw [List.length_map]; exact h1, h2, h3, fun i x hx => ?_⟩
    rw [List.getElem?_map, Option.map_eq_some_iff] at hx
    obtain ⟨q, hq, rfl⟩ := hx
    exact ⟨(h4 i q hq).1, _, (h4 i q hq).2, hs q (List.mem_of_getElem? hq)⟩
/-- A slice of transfers that the call has made. -/
def OwnT (base : Nat) (w : World) (v : Value) (l : List Rtf) : Prop := w.ownsRow base 82 2 v l.length (l.flatMap rtC)
theorem OwnT.nil {base : Nat} {w : World} : OwnT base w (.slice none 0 0) [] := ⟨rfl, Or.inl ⟨rfl, rfl⟩⟩
theorem OwnT.fr {X : List Nat} {base : Nat} {w w' : World} {v : Value} {l : List Rtf} (h : OwnT base w v l) (hf : Fr X w w') (hx : ∀ k, v.ownBlock = some k → k ∉ X) : OwnT base w' v l := ownsRow_fr h hf hx
theorem OwnT.raw {base : Nat} {w : World} {v : Value} {l : List Rtf} (h : OwnT base w v l) : RawT w v l := by
  rcases h.2 with ⟨h1, h2⟩ | ⟨g, cap, cur, hv, hb, hg, h3, h4, h5, h6⟩
  · exact Or.inl ⟨List.length_eq_zero_iff.1 h2, none, h1⟩
  · refine Or.inr ⟨g, 0, cap, hv, h3, by unfold maxLen at h4; omega, lt_of_block hg, fun i p hp => ?_⟩
    have hi : i < l.length := (List.getElem?_eq_some_iff.1 hp).1
    have key : ∀ j, j < 2 → w.cell? ⟨g, i * 2 + j, none⟩ = (rtC p)[j]? := by
      intro j hj
      rw [row_cell hg, ← rtC_at l i p hp j hj, ← h6, List.getElem?_take, if_pos (by omega), Array.getElem?_toList]
    rw [Nat.zero_add]
    exact ⟨key 0 (by decide), key 1 (by decide)⟩
theorem tInfo : (Tryz.prog.info? 82).map (fun i => (i.zero, i.size, i.bytes)) = some (some (.agg #[.string ⟨#[]⟩, .slice none 0 0]), 2, 40) := by kernel_rfl
theorem rtC_one {w : World} {l : List Rtf} (h : SigsR w l) : ∀ u ∈ l.flatMap rtC, u.oneCell' = true := by
  intro u hu
  obtain ⟨p, hp, hu⟩ := List.mem_flatMap.1 hu
  simp only [rtC, List.mem_cons, List.not_mem_nil, or_false] at hu
  rcases hu with rfl | rfl
  · rfl
  · obtain ⟨sa, sc, hv, _⟩ := (h p hp).form
    rw [hv]; rfl
theorem run_appT_nil (w : World) (base : Nat) (ty : TypeId) (v : Value) (l : List Rtf) (hown : OwnT base w v l) (a : Option Addr) : (Builtin.append_ #[32, 32] ty #[v, .slice a 0 0]).run Tryz.prog w = .ok v w := by
  obtain ⟨i0, hi, hz0, hz1, hz2⟩ := info_parts tInfo
  rcases hown.2 with ⟨rfl, _⟩ | ⟨g, cap, cur, rfl, _, _, hnc, _⟩
  · cases a <;> simp [Builtin.append_, run_underlying Tryz.underlying32, sizeOf, typeInfo, hi, Builtin.lenOf, Builtin.firstCells, loadCells, loadCellsFrom]
  · cases a <;> simp [Builtin.append_, run_underlying Tryz.underlying32, sizeOf, typeInfo, hi, Builtin.lenOf, Builtin.firstCells, hnc, loadCells, loadCellsFrom, storeCells]
theorem wp_appT {o : Oper} {a : Act} {K : Act → World → Prop} {Q : Exit → Act → World → Prop} {w : World} (s x : Operand)
    (ho : o.op = .call { callee := .builtin .append, args := #[s, x], argTypes := #[32, 32] }) (base : Nat) (ev xv : Value) (l xs : List Rtf) (w0 : World)
    (hs : a.eval s = ev) (hx : a.eval x = xv) (hxs : RawT w xv xs) (hsg : SigsR w xs) (hown : OwnT base w ev l) (hfr : Fr [] w0 w) (hb0 : w0.heap.size ≤ base) (hb : base ≤ w.heap.size) (hl : l.length + xs.length < 1000000)
    (h : ∀ v' w', OwnT base w' v' (l ++ xs) → Fr [] w0 w' → Fr ev.ownBlock.toList w w' → K (a.put o.dst v') w') :
    o.wp Tryz.prog a w K Q := by
  obtain ⟨i0, hi, hz0, hz1, hz2⟩ := info_parts tInfo
  rcases hxs with ⟨rfl, av, rfl⟩ | ⟨b, off, cap, rfl, h1, h2, h3, h4⟩
  · have hrun := run_appT_nil w base o.type ev l hown av
    have := h ev w (by simpa using hown) hfr (Fr.refl _ _)
    unfold Oper.wp execOp
    simp only [ho, resolve, invoke, builtin, Sem.run_bind, Sem.run_pure, Result.andThen_ok, List.map_toArray, List.map_cons, List.map_nil, hs, hx, hrun]
    exact this
  · refine wp_append_own _ s x 32 ho base 82 i0 (.agg #[.string ⟨#[]⟩, .slice none 0 0]) 2 40 Tryz.underlying32 hi hz0 hz1 hz2 rfl (by decide) ev _ _ hs hown ⟨b, off, none⟩ xs.length cap (xs.flatMap rtC) hx (rtC_length xs)
      (fun j u hj => ?_) (rtC_one hsg) (by unfold maxLen; omega) (by omega) hb ?_
    · have hjl : j < xs.length * 2 := by
        rw [← rtC_length]; exact (List.getElem?_eq_some_iff.1 hj).1
      obtain ⟨p, hp⟩ : ∃ p, xs[j / 2]? = some p := ⟨xs[j / 2]'(by omega), List.getElem?_eq_getElem _⟩
      have he := rtC_at xs (j / 2) p hp (j % 2) (Nat.mod_lt _ (by decide))
      rw [show j / 2 * 2 + j % 2 = j by omega, hj] at he
      obtain ⟨c0, c1⟩ := h4 (j / 2) p hp
      rw [show (⟨b, off, none⟩ : Addr).add j = ⟨b, off + j, none⟩ by cases j <;> simp [Addr.add], show off + j = off + j / 2 * 2 + j % 2 by omega]
      have hm : j % 2 < 2 := Nat.mod_lt _ (by decide)
      generalize j % 2 = r at he hm ⊢
      match r, hm with
      | 0, _ => rw [Nat.add_zero, c0]; exact he.symm
      | 1, _ => rw [c1]; exact he.symm
    · intro v' w' hown' hgrow _
      refine h v' w' ?_ (hfr.grown hgrow (fun r e => Or.inr ?_)) ((Fr.refl _ w).grown hgrow (fun r e => Or.inl (by simp [e])))
      · simpa [OwnT] using hown'
      · exact Nat.le_trans hb0 (ownBlock_cells hown r e).1
theorem wpList_appT {ops : Array Oper} {rest : List Oper} {o : Oper} {a : Act} {Q : Exit → Act → World → Prop} {w : World} (hg : o.guard = none) (s x : Operand)
    (ho : o.op = .call { callee := .builtin .append, args := #[s, x], argTypes := #[32, 32] }) (base : Nat) (ev xv : Value) (l xs : List Rtf) (w0 : World)
    (hs : a.eval s = ev) (hx : a.eval x = xv) (hxs : RawT w xv xs) (hsg : SigsR w xs) (hown : OwnT base w ev l) (hfr : Fr [] w0 w) (hb0 : w0.heap.size ≤ base) (hb : base ≤ w.heap.size) (hl : l.length + xs.length < 1000000)
    (h : ∀ v' w', OwnT base w' v' (l ++ xs) → Fr [] w0 w' → Fr ev.ownBlock.toList w w' → wpList Tryz.prog ops Q rest (a.put o.dst v') w') :
    wpList Tryz.prog ops Q (o :: rest) a w :=
  wpList_plain hg fun _ hK => wp_appT s x ho base ev xv l xs w0 hs hx hxs hsg hown hfr hb0 hb hl fun v' w' h2 h3 h4 => hK _ _ (h v' w' h2 h3 h4)
theorem ownT_empty {base : Nat} {W : World} (hb : base ≤ W.heap.size) : OwnT base (W.alloc (.cells #[] 82)) (.slice (some ⟨W.heap.size, 0, none⟩) 0 0) [] :=
  ⟨rfl, Or.inr ⟨W.heap.size, 0, #[], rfl, hb, heap_new rfl, Nat.le_refl _, by decide, rfl, rfl⟩⟩
theorem rawT_one {W : World} {b : Nat} {x : Trf} {u : Value} {t : TypeId} (h : W.heap[b]? = some (.cells #[.string ⟨x.nk.toArray⟩, u] t (0, 0))) : RawT W (.slice (some ⟨b, 0, none⟩) 1 1) [(x, u)] := by
  refine Or.inr ⟨b, 0, 1, rfl, by simp, by decide, lt_of_block h, fun i p hp => ?_⟩
  match i, hp with
  | 0, hp =>
    cases hp
    exact ⟨by rw [row_cell h]; rfl, by rw [row_cell h]; rfl⟩
  | i + 1, hp => simp at hp
theorem OwnT.someN {base : Nat} {w : World} {v : Value} {l : List Rtf} (h : OwnT base w v l) (hl : 0 < l.length) : ∃ g c, v = .slice (some ⟨g, 0, none⟩) l.length c ∧ base ≤ g := by
  rcases h.2 with ⟨_, h0⟩ | ⟨g, cap, cur, hv, hb, _⟩
  · omega
  · exact ⟨g, cap, hv, hb⟩
theorem OwnT.mono {base base' : Nat} {w : World} {v : Value} {l : List Rtf} (h : OwnT base w v l) (hb : base' ≤ base) : OwnT base' w v l := by
  obtain ⟨h1, h2⟩ := h
  refine ⟨h1, ?_⟩
  rcases h2 with h2 | ⟨g, cap, cur, hv, h3, h4⟩
  · exact Or.inl h2
  · exact Or.inr ⟨g, cap, cur, hv, Nat.le_trans hb h3, h4⟩

end Go.Proofs.YtglgkdbhdjkeaaaGreatDoor
