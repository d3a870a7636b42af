/-
  reveal.Seal, reveal.increasing; slices.Clone of numbers.
  slices.Clone of numbers with signs; append of a slice of strings that may be nil, inside a region that draws its order.
-/
import Derived.Test.YtmhejcndkplepaaDoorRvC
import Derived.Test.YtmhejcndkplepaaDoorEnO
namespace Go.Proofs.YtmhejcndkplepaaDoor
open Go.RowKit

def elemsL (fields : List (List UInt8)) (s : List UInt8) : List (List UInt8) := (List.range fields.length).map (eleS fields s)
def sealS (fields : List (List UInt8)) (s : List UInt8) : List UInt8 := rootL (elemsL fields s)
theorem elemsL_length (fields : List (List UInt8)) (s : List UInt8) : (elemsL fields s).length = fields.length := by simp [elemsL]
theorem elemsL_short {fields : List (List UInt8)} {s : List UInt8} (h : ∀ f ∈ fields, f.length ≤ 100000) : ∀ x ∈ elemsL fields s, x.length ≤ 1000000 := by
  intro x hx
  obtain ⟨i, hi, rfl⟩ := List.mem_map.1 hx
  have hi := List.mem_range.1 hi
  have := h _ (getD_mem fields i [] hi)
  unfold eleS
  rw [List.length_append, saltS_length]; omega
theorem elemsL_at {fields : List (List UInt8)} {s : List UInt8} {i : Nat} (h : i < fields.length) : (elemsL fields s).getD i [] = eleS fields s i := by
  simp [elemsL, List.getD_eq_getElem?_getD, h]

theorem seal_any (v : Value) (fields : List (List UInt8)) (s : List UInt8) (w : World) (hv : Strs w v fields) (hn : fields.length ≤ 100000) (hsl : s.length ≤ 1000000) (hfs : ∀ f ∈ fields, f.length ≤ 100000) (hT : Tabs w) :
    Calls Tryd.prog 21 #[v, .string ⟨s.toArray⟩] w fun e w' => e = .returned (.string ⟨(sealS fields s).toArray⟩) ∧ Below w.heap.size w w' := by
  obtain ⟨fa, fcap, rfl, hfl, hfa⟩ := hv.form
  go_enter Tryd.func21, Tryd.ntmps21
  go_wp2_with fail
  refine (spread_any _ fields s w hv hn hsl (fun f hf => Nat.le_trans (hfs f hf) (by decide)) hT).mono ?_
  rintro e w1 ⟨v1, v2, rfl, o1, o2, hb1⟩
  have hf1 : Fr [] w w1 := Fr.ofBelow hb1
  have O2 := Lib.hid o2
  clear o1 o2 hb1
  go_wp2_with fail
  refine (root_any v2 (elemsL fields s) w1 O2.out.strs (by rw [elemsL_length]; omega) (elemsL_short hfs) (hT.fr hf1)).mono ?_
  rintro e w2 ⟨rfl, hb2⟩
  have hf2 : Fr [] w w2 := hf1.below hb2 hf1.size
  rw [show rootL (elemsL fields s) = sealS fields s from rfl]
  obtain ⟨ss, ess⟩ : ∃ ss, ss = sealS fields s := ⟨_, rfl⟩
  rw [← ess]
  have ESS := Lib.hid ess
  clear hb2 ess
  go_wp2_with fail
  go_ret
  exact ⟨by rw [← ESS.out]; rfl, hf2.toBelow (by simp)⟩

/-- At least one index; they increase from 0 to below a number. -/
def incB (last : Int) : List Int → Int → Bool
  | [], _ => decide (0 ≤ last)
  | i :: t, n => decide (last < i) && decide (i < n) && incB i t n

set_option maxRecDepth 100000 in
set_option maxHeartbeats 1000000 in
theorem increasing_any (v : Value) (l : List Int) (n : Int) (w : World) (hv : Zs w v l) :
    Calls Tryd.prog 51 #[v, .int .i64 n] w fun e w' => e = .returned (.bool (incB (-1) l n)) ∧ w = w' := by
  have HV := Lib.hid hv
  obtain ⟨a, cap, rfl, hlc, hcap, hfa⟩ := hv.form
  clear hv
  go_enter Tryd.func51, Tryd.ntmps51
  go_wp2_with fail
  go_loopg [5, 10] (l.length + 1) (fun g la i wr => ∃ (k : Nat) (last : Int), k ≤ l.length ∧ g = l.length + 1 - k ∧ i = .int .i64 (k : Int) ∧ la = .int .i64 last ∧ incB (-1) l n = incB last (l.drop k) n ∧ wr = w)
  case atStart => exact ⟨0, -1, by omega, by omega, rfl, rfl, rfl, rfl⟩
  case round =>
    obtain ⟨k, last, hk, hg, rfl, rfl, heq, rfl⟩ := hrel
    have HG := Lib.hid hg
    have HEQ := Lib.hid heq
    clear hg heq
    by_cases hlt : k < l.length
    · have t1 : decide ((k : Int) < (l.length : Int)) = true := by simp; omega
      obtain ⟨b, off, rfl⟩ := hfa k hlt
      have c0 := HV.out.cell k hlt
      have HE : Hid (incB (-1) l n = (decide (last < l.getD k 0) && decide (l.getD k 0 < n) && incB (l.getD k 0) (l.drop (k + 1)) n)) := Lib.hid (by
        rw [HEQ.out, List.drop_eq_getElem_cons hlt, List.getD_eq_getElem?_getD, List.getElem?_eq_getElem hlt]; rfl)
      generalize l.getD k 0 = z at c0 HE
      have g0 : (0 : Int) ≤ (k : Int) := by omega
      have g1 : (k : Int) < (l.length : Int) := by omega
      by_cases h1 : z ≤ last
      · have t2 : decide (z ≤ last) = true := by simpa using h1
        have HF : Hid (incB (-1) l n = false) := Lib.hid (by rw [HE.out, decide_eq_false (by omega)]; rfl)
        go_wp2_with fail
        go_ret
        exact ⟨by rw [HF.out]; rfl, rfl⟩
      · have t2 : decide (z ≤ last) = false := by simpa using h1
        by_cases h2 : n ≤ z
        · have t3 : decide (n ≤ z) = true := by simpa using h2
          have HF : Hid (incB (-1) l n = false) := Lib.hid (by rw [HE.out, decide_eq_false (p := z < n) (by omega), Bool.and_false, Bool.false_and])
          go_wp2_with fail
          go_ret
          exact ⟨by rw [HF.out]; rfl, rfl⟩
        · have t3 : decide (n ≤ z) = false := by simpa using h2
          have HN : Hid (incB (-1) l n = incB z (l.drop (k + 1)) n) := Lib.hid (by rw [HE.out, decide_eq_true (p := last < z) (by omega), decide_eq_true (p := z < n) (by omega)]; rfl)
          go_wp2_with fail
          go_roundg (l.length + 1 - (k + 1))
          case measure => have := HG.out; omega
          case rel => exact ⟨k + 1, z, by omega, rfl, by go_num, rfl, HN.out, rfl⟩
    · obtain rfl : k = l.length := by omega
      have t1 : decide ((l.length : Int) < (l.length : Int)) = false := by simp
      have HF : Hid (incB (-1) l n = decide (0 ≤ last)) := Lib.hid (by rw [HEQ.out, List.drop_length]; rfl)
      by_cases h0 : 0 ≤ last
      · have t2 : decide ((0 : Int) ≤ last) = true := by simpa using h0
        go_wp2_with fail
        go_ret
        exact ⟨by rw [HF.out, t2]; rfl, rfl⟩
      · have t2 : decide ((0 : Int) ≤ last) = false := by simpa using h0
        go_wp2_with fail
        go_ret
        exact ⟨by rw [HF.out, t2]; rfl, rfl⟩
end Go.Proofs.YtmhejcndkplepaaDoor
namespace Go.Proofs.YtmhejcndkplepaaDoor
open Go.RowKit

def zV (z : Int) : Value := .int .i64 z
/-- A slice of numbers with signs that the call has made. -/
def OwnZ (base : Nat) (w : World) (v : Value) (l : List Int) : Prop := w.ownsRow base 3 1 v l.length (l.map zV)
theorem OwnZ.fr {X : List Nat} {base : Nat} {w w' : World} {v : Value} {l : List Int} (h : OwnZ base w v l) (hf : Fr X w w') (hx : ∀ k, v.ownBlock = some k → k ∉ X) : OwnZ base w' v l := ownsRow_fr h hf hx
theorem OwnZ.zs {base : Nat} {w : World} {v : Value} {l : List Int} (h : OwnZ base w v l) : Zs w v l := by
  rcases h.2 with ⟨h2, h3⟩ | ⟨g, cap, cur, hv, hb, hg, h3, h4, h5, h6⟩
  · exact Or.inl ⟨h2, List.length_eq_zero_iff.1 h3⟩
  · refine Or.inr ⟨g, 0, cap, hv, h3, by unfold maxLen at h4; omega, lt_of_block hg, fun i hi => ?_⟩
    rw [Nat.zero_add, row_cell hg i]
    have h7 : (cur.toList.take (l.length * 1))[i]? = cur[i]? := by rw [List.getElem?_take, if_pos (by omega), Array.getElem?_toList]
    rw [← h7, h6, List.getElem?_map, List.getElem?_eq_getElem hi]
    simp [zV, hi]
theorem run_appZ_nil (w : World) (base : Nat) (ty : TypeId) (v : Value) (l : List Int) (hown : OwnZ base w v l) (c : Nat) : (Builtin.append_ #[23, 23] ty #[v, .slice none 0 c]).run Tryd.prog w = .ok v w := by
  obtain ⟨i0, hi, hz0, hz1, hz2⟩ := info_parts iInfo
  rcases hown.2 with ⟨rfl, _⟩ | ⟨g, cap, cur, rfl, _, _, hnc, _⟩
  · simp [Builtin.append_, run_underlying Tryd.underlying23, sizeOf, typeInfo, hi, Builtin.lenOf, Builtin.firstCells]
  · simp [Builtin.append_, run_underlying Tryd.underlying23, sizeOf, typeInfo, hi, Builtin.lenOf, Builtin.firstCells, hnc, storeCells]
section
variable {o : Oper} {a : Act} {K : Act → World → Prop} {Q : Exit → Act → World → Prop} {w : World}
theorem wp_appZ (s x : Operand)
    (ho : o.op = .call { callee := .builtin .append, args := #[s, x], argTypes := #[23, 23] }) (base : Nat) (ev xv : Value) (l xs : List Int) (w0 : World)
    (hs : a.eval s = ev) (hx : a.eval x = xv) (hxs : Zs w xv xs) (hown : OwnZ base w ev l) (hfr : Fr [] w0 w) (hb0 : w0.heap.size ≤ base) (hb : base ≤ w.heap.size) (hl : l.length + xs.length < 1000000)
    (h : ∀ v' w', OwnZ base w' v' (l ++ xs) → Fr [] w0 w' → Fr ev.ownBlock.toList w w' → K (a.put o.dst v') w') :
    o.wp Tryd.prog a w K Q := by
  obtain ⟨i0, hi, hz0, hz1, hz2⟩ := info_parts iInfo
  rcases hxs with ⟨rfl, rfl⟩ | ⟨b, off, cap, rfl, h1, h2, h3, h4⟩
  · have hrun := run_appZ_nil w base o.type ev l hown 0
    have := h ev w (by simpa using hown) hfr (Fr.refl _ _)
    unfold Oper.wp execOp
    simp only [ho, resolve, invoke, builtin, Sem.run_bind, Sem.run_pure, Result.andThen_ok, List.map_toArray, List.map_cons, List.map_nil, hs, hx, hrun]
    exact this
  · refine wp_append_own _ s x 23 ho base 3 i0 (.int .i64 0) 1 8 Tryd.underlying23 hi hz0 hz1 hz2 rfl (by decide) ev _ _ hs hown ⟨b, off, none⟩ xs.length cap (xs.map zV) hx (by simp)
      (fun j u hj => ?_) (fun u hu => by obtain ⟨n, _, rfl⟩ := List.mem_map.1 hu; rfl) (by unfold maxLen; omega) (by omega) hb ?_
    · have hjl : j < xs.length := by simpa using (List.getElem?_eq_some_iff.1 hj).1
      rw [show (⟨b, off, none⟩ : Addr).add j = ⟨b, off + j, none⟩ by cases j <;> simp [Addr.add], h4 j hjl, ← hj]
      simp [zV, List.getD_eq_getElem?_getD, hjl]
    · intro v' w' hown' hgrow _
      refine h v' w' ?_ (hfr.grown hgrow (fun r e => Or.inr ?_)) ((Fr.refl _ w).grown hgrow (fun r e => Or.inl (by simp [e])))
      · simpa [OwnZ] using hown'
      · exact Nat.le_trans hb0 (ownBlock_cells hown r e).1
end
theorem wpList_appZ {ops : Array Oper} {rest : List Oper} {o : Oper} {a : Act} {Q : Exit → Act → World → Prop} {w : World} (hg : o.guard = none) (s x : Operand)
    (ho : o.op = .call { callee := .builtin .append, args := #[s, x], argTypes := #[23, 23] }) (base : Nat) (ev xv : Value) (l xs : List Int) (w0 : World)
    (hs : a.eval s = ev) (hx : a.eval x = xv) (hxs : Zs w xv xs) (hown : OwnZ base w ev l) (hfr : Fr [] w0 w) (hb0 : w0.heap.size ≤ base) (hb : base ≤ w.heap.size) (hl : l.length + xs.length < 1000000)
    (h : ∀ v' w', OwnZ base w' v' (l ++ xs) → Fr [] w0 w' → Fr ev.ownBlock.toList w w' → wpList Tryd.prog ops Q rest (a.put o.dst v') w') :
    wpList Tryd.prog ops Q (o :: rest) a w :=
  wpList_plain hg fun _ hK => wp_appZ s x ho base ev xv l xs w0 hs hx hxs hown hfr hb0 hb hl fun v' w' h2 h3 h4 => hK _ _ (h v' w' h2 h3 h4)
theorem ownZ_empty {base : Nat} {W : World} (hb : base ≤ W.heap.size) : OwnZ base (W.alloc (.cells #[] 3)) (.slice (some ⟨W.heap.size, 0, none⟩) 0 0) [] :=
  ⟨rfl, Or.inr ⟨W.heap.size, 0, #[], rfl, hb, heap_new rfl, Nat.le_refl _, by decide, rfl, rfl⟩⟩

set_option maxRecDepth 100000 in
set_option maxHeartbeats 1000000 in
theorem clone_any (v : Value) (l : List Int) (w : World) (hv : Zs w v l) (hn : l.length ≤ 100000) :
    Calls Tryd.prog 53 #[v] w fun e w' => ∃ v', e = .returned v' ∧ OwnZ w.heap.size w' v' l ∧ Below w.heap.size w w' := by
  have HV := Lib.hid hv
  rcases hv with ⟨rfl, rfl⟩ | ⟨b, off, cap, rfl, h1, h2, h3, h4⟩
  · have hq : ∀ w, (binOp .eql 23 (.slice none 0 0) (.slice none 0 0)).run Tryd.prog w = .ok (.bool true) w := fun _ => by kernel_rfl
    go_enter Tryd.func53, Tryd.ntmps53
    go_wp2_with fail
    go_ret
    exact ⟨_, rfl, ⟨rfl, Or.inl ⟨rfl, rfl⟩⟩, Below.refl _ _⟩
  · clear h4
    have hq : ∀ w, (binOp .eql 23 (.slice (some ⟨b, off, none⟩) l.length cap) (.slice none 0 0)).run Tryd.prog w = .ok (.bool false) w := fun _ => by kernel_rfl
    go_enter Tryd.func53, Tryd.ntmps53
    go_wp2_with (at_builtin; go_loud (refine wpList_appZ rfl (.tmp 5) (.tmp 6) rfl w.heap.size (.slice (some ⟨w.heap.size, 0, none⟩) 0 0) (.slice (some ⟨b, off, none⟩) l.length cap) [] l w rfl rfl (HV.out.fr0 ((Fr.refl [] w).alloc _)) (ownZ_empty (Nat.le_refl _)) ((Fr.refl [] w).alloc _) (Nat.le_refl _) (by simp) (by simp; omega) ?_))
    intro v' w' hown hf _
    have HO := Lib.hid hown
    clear hown
    go_wp2_with fail
    go_ret
    exact ⟨v', rfl, HO.out, hf.toBelow (by simp)⟩

theorem run_appS_nil (w : World) (base : Nat) (ty : TypeId) (v : Value) (l : List (List UInt8)) (hown : OwnS base w v l) (c : Nat) : (Builtin.append_ #[22, 22] ty #[v, .slice none 0 c]).run Tryd.prog w = .ok v w := by
  obtain ⟨i0, hi, hz0, hz1, hz2⟩ := info_parts sInfo
  rcases hown.2 with ⟨rfl, _⟩ | ⟨g, cap, cur, rfl, _, _, hnc, _⟩
  · simp [Builtin.append_, run_underlying Tryd.underlying22, sizeOf, typeInfo, hi, Builtin.lenOf, Builtin.firstCells]
  · simp [Builtin.append_, run_underlying Tryd.underlying22, sizeOf, typeInfo, hi, Builtin.lenOf, Builtin.firstCells, hnc, storeCells]
section
variable {o : Oper} {a : Act} {K : Act → World → Prop} {Q : Exit → Act → World → Prop} {w : World}
/-- append(own, xs...), xs whatever list of strings. -/
theorem wp_appW (s x : Operand)
    (ho : o.op = .call { callee := .builtin .append, args := #[s, x], argTypes := #[22, 22] }) (base : Nat) (ev xv : Value) (l xs : List (List UInt8)) (w0 : World)
    (hs : a.eval s = ev) (hx : a.eval x = xv) (hxs : Strs w xv xs) (hown : OwnS base w ev l) (hfr : Fr [] w0 w) (hb0 : w0.heap.size ≤ base) (hb : base ≤ w.heap.size) (hl : l.length + xs.length < 1000000)
    (h : ∀ v' w', OwnS base w' v' (l ++ xs) → Fr [] w0 w' → Fr ev.ownBlock.toList w w' → (v'.ownBlock = ev.ownBlock ∨ v'.ownBlock = some w.heap.size) → K (a.put o.dst v') w') :
    o.wp Tryd.prog a w K Q := by
  rcases hxs with ⟨rfl, rfl⟩ | ⟨b, off, cap, rfl, h1, h2, h3, h4⟩
  · have hrun := run_appS_nil w base o.type ev l hown 0
    have := h ev w (by simpa using hown) hfr (Fr.refl _ _) (Or.inl rfl)
    unfold Oper.wp execOp
    simp only [ho, resolve, invoke, builtin, Sem.run_bind, Sem.run_pure, Result.andThen_ok, List.map_toArray, List.map_cons, List.map_nil, hs, hx, hrun]
    exact this
  · exact wp_appMa s x ho base ev l xs b off xs.length cap w0 hs hx rfl (Or.inr ⟨b, off, cap, rfl, h1, h2, h3, h4⟩) hown hfr hb0 hb hl h
end
theorem wpList_appW {ops : Array Oper} {rest : List Oper} {o : Oper} {a : Act} {Q : Exit → Act → World → Prop} {w : World} (hg : o.guard = none) (s x : Operand)
    (ho : o.op = .call { callee := .builtin .append, args := #[s, x], argTypes := #[22, 22] }) (base : Nat) (ev xv : Value) (l xs : List (List UInt8)) (w0 : World)
    (hs : a.eval s = ev) (hx : a.eval x = xv) (hxs : Strs w xv xs) (hown : OwnS base w ev l) (hfr : Fr [] w0 w) (hb0 : w0.heap.size ≤ base) (hb : base ≤ w.heap.size) (hl : l.length + xs.length < 1000000)
    (h : ∀ v' w', OwnS base w' v' (l ++ xs) → Fr [] w0 w' → Fr ev.ownBlock.toList w w' → (v'.ownBlock = ev.ownBlock ∨ v'.ownBlock = some w.heap.size) → wpList Tryd.prog ops Q rest (a.put o.dst v') w') :
    wpList Tryd.prog ops Q (o :: rest) a w :=
  wpList_plain hg fun _ hK => wp_appW s x ho base ev xv l xs w0 hs hx hxs hown hfr hb0 hb hl fun v' w' h2 h3 h4 h5 => hK _ _ (h v' w' h2 h3 h4 h5)
end Go.Proofs.YtmhejcndkplepaaDoor
