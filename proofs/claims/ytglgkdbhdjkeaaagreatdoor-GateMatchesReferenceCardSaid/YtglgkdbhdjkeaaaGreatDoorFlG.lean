/-
  slices.Clone of words; filter.Join.
-/
import Derived.Test.YtglgkdbhdjkeaaaGreatDoorPlnFl
namespace Go.Proofs.YtglgkdbhdjkeaaaGreatDoor
open Go.RowKit

theorem run_appW_nil (w : World) (base : Nat) (ty : TypeId) (v : Value) (l : List Nat) (hown : OwnW base w v l) (a : Option Addr) : (Builtin.append_ #[35, 35] ty #[v, .slice a 0 0]).run Tryz.prog w = .ok v w := by
  obtain ⟨i0, hi, hz0, hz1, hz2⟩ := info_parts wInfo
  rcases hown.2 with ⟨rfl, _⟩ | ⟨g, cap, cur, rfl, _, _, hnc, _⟩
  · cases a <;> simp [Builtin.append_, run_underlying Tryz.underlying35, sizeOf, typeInfo, hi, Builtin.lenOf, Builtin.firstCells, loadCells, loadCellsFrom]
  · cases a <;> simp [Builtin.append_, run_underlying Tryz.underlying35, sizeOf, typeInfo, hi, Builtin.lenOf, Builtin.firstCells, hnc, loadCells, loadCellsFrom, storeCells]
section
variable {o : Oper} {a : Act} {K : Act → World → Prop} {Q : Exit → Act → World → Prop} {w : World}
theorem wp_appWs (s x : Operand)
    (ho : o.op = .call { callee := .builtin .append, args := #[s, x], argTypes := #[35, 35] }) (base : Nat) (ev xv : Value) (l xs : List Nat) (w0 : World)
    (hs : a.eval s = ev) (hx : a.eval x = xv) (hxs : Ws w xv xs) (hown : OwnW base w ev l) (hfr : Fr [] w0 w) (hb0 : w0.heap.size ≤ base) (hb : base ≤ w.heap.size) (hl : l.length + xs.length < 1000000)
    (h : ∀ v' w', OwnW base w' v' (l ++ xs) → Fr [] w0 w' → Fr ev.ownBlock.toList w w' → K (a.put o.dst v') w') :
    o.wp Tryz.prog a w K Q := by
  obtain ⟨i0, hi, hz0, hz1, hz2⟩ := info_parts wInfo
  rcases hxs with ⟨rfl, av, rfl⟩ | ⟨b, off, cap, rfl, h1, h2, h3, h4⟩
  · have hrun := run_appW_nil w base o.type ev l hown av
    have := h ev w (by simpa using hown) hfr (Fr.refl _ _)
    unfold Oper.wp execOp
    simp only [ho, resolve, invoke, builtin, Sem.run_bind, Sem.run_pure, Result.andThen_ok, List.map_toArray, List.map_cons, List.map_nil, hs, hx, hrun]
    exact this
  · refine wp_append_own _ s x 35 ho base 89 i0 (.int .u64 0) 1 8 Tryz.underlying35 hi hz0 hz1 hz2 rfl (by decide) ev _ _ hs hown ⟨b, off, none⟩ xs.length cap (xs.map wrdV) hx (by simp)
      (fun j u hj => ?_) (fun u hu => by obtain ⟨n, _, rfl⟩ := List.mem_map.1 hu; rfl) (by unfold maxLen; omega) (by omega) hb ?_
    · have hjl : j < xs.length := by simpa using (List.getElem?_eq_some_iff.1 hj).1
      rw [show (⟨b, off, none⟩ : Addr).add j = ⟨b, off + j, none⟩ by cases j <;> simp [Addr.add], h4 j hjl, ← hj]
      simp [wrdV, List.getD_eq_getElem?_getD, hjl]
    · intro v' w' hown' hgrow _
      refine h v' w' ?_ (hfr.grown hgrow (fun r e => Or.inr ?_)) ((Fr.refl _ w).grown hgrow (fun r e => Or.inl (by simp [e])))
      · simpa [OwnW] using hown'
      · exact Nat.le_trans hb0 (ownBlock_cells hown r e).1
end
theorem wpList_appWs {ops : Array Oper} {rest : List Oper} {o : Oper} {a : Act} {Q : Exit → Act → World → Prop} {w : World} (hg : o.guard = none) (s x : Operand)
    (ho : o.op = .call { callee := .builtin .append, args := #[s, x], argTypes := #[35, 35] }) (base : Nat) (ev xv : Value) (l xs : List Nat) (w0 : World)
    (hs : a.eval s = ev) (hx : a.eval x = xv) (hxs : Ws w xv xs) (hown : OwnW base w ev l) (hfr : Fr [] w0 w) (hb0 : w0.heap.size ≤ base) (hb : base ≤ w.heap.size) (hl : l.length + xs.length < 1000000)
    (h : ∀ v' w', OwnW base w' v' (l ++ xs) → Fr [] w0 w' → Fr ev.ownBlock.toList w w' → wpList Tryz.prog ops Q rest (a.put o.dst v') w') :
    wpList Tryz.prog ops Q (o :: rest) a w :=
  wpList_plain hg fun _ hK => wp_appWs s x ho base ev xv l xs w0 hs hx hxs hown hfr hb0 hb hl fun v' w' h2 h3 h4 => hK _ _ (h v' w' h2 h3 h4)
theorem ownW_empty {base : Nat} {W : World} (hb : base ≤ W.heap.size) : OwnW base (W.alloc (.cells #[] 89)) (.slice (some ⟨W.heap.size, 0, none⟩) 0 0) [] :=
  ⟨rfl, Or.inr ⟨W.heap.size, 0, #[], rfl, hb, heap_new rfl, Nat.le_refl _, by decide, rfl, rfl⟩⟩

set_option maxRecDepth 100000 in
set_option maxHeartbeats 1000000 in
theorem cloneW_any (v : Value) (l : List Nat) (w : World) (hv : Ws w v l) (hn : l.length ≤ 100000) :
    Calls Tryz.prog 57 #[v] w fun e w' => ∃ v', e = .returned v' ∧ OwnW w.heap.size w' v' l ∧ Below w.heap.size w w' := by
  have HV := Lib.hid hv
  obtain ⟨av, cap, rfl, hc⟩ : ∃ av cap, v = .slice av l.length cap ∧ (av = none → l = []) := by
    rcases hv with ⟨rfl, a, rfl⟩ | ⟨b, off, cap, rfl, _⟩
    · exact ⟨a, 0, rfl, fun _ => rfl⟩
    · exact ⟨_, cap, rfl, fun h => by cases h⟩
  clear hv
  cases av with
  | none =>
    obtain rfl := hc rfl
    have hq : ∀ w, (binOp .eql 35 (.slice none 0 cap) (.slice none 0 0)).run Tryz.prog w = .ok (.bool true) w := fun _ => by kernel_rfl
    go_enter Tryz.func57, Tryz.ntmps57
    go_wp2_with fail
    go_ret
    exact ⟨_, rfl, ⟨rfl, Or.inl ⟨rfl, rfl⟩⟩, Below.refl _ _⟩
  | some av =>
    have hq : ∀ w, (binOp .eql 35 (.slice (some av) l.length cap) (.slice none 0 0)).run Tryz.prog w = .ok (.bool false) w := fun _ => by kernel_rfl
    clear hc
    go_enter Tryz.func57, Tryz.ntmps57
    go_wp2_with (at_builtin; go_loud (refine wpList_appWs rfl (.tmp 5) (.tmp 6) rfl w.heap.size (.slice (some ⟨w.heap.size, 0, none⟩) 0 0) (.slice (some av) l.length cap) [] l w rfl rfl (HV.out.fr0 ((Fr.refl [] w).alloc _)) (ownW_empty (Nat.le_refl _)) ((Fr.refl [] w).alloc _) (Nat.le_refl _) (by simp) (by simp; omega) ?_))
    intro v' w' hown hf _
    have HO := Lib.hid hown
    clear hown
    go_wp2_with fail
    go_ret
    exact ⟨v', rfl, HO.out, hf.toBelow (by simp)⟩
end Go.Proofs.YtglgkdbhdjkeaaaGreatDoor
