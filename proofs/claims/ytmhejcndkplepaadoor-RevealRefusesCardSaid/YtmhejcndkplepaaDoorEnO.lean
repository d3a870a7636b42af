/-
  foyerref18.sorted.
-/
import Derived.Test.YtmhejcndkplepaaDoorPlnSo
import Derived.Test.YtmhejcndkplepaaDoorEnM
import Derived.Test.YtmhejcndkplepaaDoorNums
import Derived.BigQuiet
namespace Go.Proofs.YtmhejcndkplepaaDoor
open Go.RowKit

theorem run_appN_nil (w : World) (base : Nat) (ty : TypeId) (v : Value) (l : List Nat) (hown : OwnI base w v l) (c : Nat) : (Builtin.append_ #[23, 23] ty #[v, .slice none 0 c]).run Tryd.prog w = .ok v w := by
  obtain ⟨i0, hi, hz0, hz1, hz2⟩ := info_parts iInfo
  rcases hown.2 with ⟨rfl, _⟩ | ⟨g, cap, cur, rfl, _, _, hnc, _⟩
  · simp [Builtin.append_, run_underlying Tryd.underlying23, sizeOf, typeInfo, hi, Builtin.lenOf, Builtin.firstCells]
  · simp [Builtin.append_, run_underlying Tryd.underlying23, sizeOf, typeInfo, hi, Builtin.lenOf, Builtin.firstCells, hnc, storeCells]
theorem wp_appN {o : Oper} {a : Act} {K : Act → World → Prop} {Q : Exit → Act → World → Prop} {w : World} (s x : Operand)
    (ho : o.op = .call { callee := .builtin .append, args := #[s, x], argTypes := #[23, 23] }) (base : Nat) (ev xv : Value) (l xs : List Nat) (w0 : World)
    (hs : a.eval s = ev) (hx : a.eval x = xv) (hxs : Nums w xv xs) (hown : OwnI base w ev l) (hfr : Fr [] w0 w) (hb0 : w0.heap.size ≤ base) (hb : base ≤ w.heap.size) (hl : l.length + xs.length < 1000000)
    (h : ∀ v' w', OwnI base w' v' (l ++ xs) → Fr [] w0 w' → Fr ev.ownBlock.toList w w' → K (a.put o.dst v') w') :
    o.wp Tryd.prog a w K Q := by
  obtain ⟨i0, hi, hz0, hz1, hz2⟩ := info_parts iInfo
  rcases hxs with ⟨rfl, rfl⟩ | ⟨b, off, cap, rfl, h1, h2, h3, h4⟩
  · have hrun := run_appN_nil w base o.type ev l hown 0
    have := h ev w (by simpa using hown) hfr (Fr.refl _ _)
    unfold Oper.wp execOp
    simp only [ho, resolve, invoke, builtin, Sem.run_bind, Sem.run_pure, Result.andThen_ok, List.map_toArray, List.map_cons, List.map_nil, hs, hx, hrun]
    exact this
  · refine wp_append_own _ s x 23 ho base 3 i0 (.int .i64 0) 1 8 Tryd.underlying23 hi hz0 hz1 hz2 rfl (by decide) ev _ _ hs hown ⟨b, off, none⟩ xs.length cap (xs.map natV) hx (by simp)
      (fun j u hj => ?_) (fun u hu => by obtain ⟨n, _, rfl⟩ := List.mem_map.1 hu; rfl) (by unfold maxLen; omega) (by omega) hb ?_
    · have hjl : j < xs.length := by simpa using (List.getElem?_eq_some_iff.1 hj).1
      rw [show (⟨b, off, none⟩ : Addr).add j = ⟨b, off + j, none⟩ by cases j <;> simp [Addr.add], h4 j hjl, ← hj]
      simp [natV, List.getD_eq_getElem?_getD, hjl]
    · intro v' w' hown' hgrow _
      refine h v' w' ?_ (hfr.grown hgrow (fun r e => Or.inr ?_)) ((Fr.refl _ w).grown hgrow (fun r e => Or.inl (by simp [e])))
      · simpa [OwnI] using hown'
      · exact Nat.le_trans hb0 (ownBlock_cells hown r e).1
theorem wpList_appN {ops : Array Oper} {rest : List Oper} {o : Oper} {a : Act} {Q : Exit → Act → World → Prop} {w : World} (hg : o.guard = none) (s x : Operand)
    (ho : o.op = .call { callee := .builtin .append, args := #[s, x], argTypes := #[23, 23] }) (base : Nat) (ev xv : Value) (l xs : List Nat) (w0 : World)
    (hs : a.eval s = ev) (hx : a.eval x = xv) (hxs : Nums w xv xs) (hown : OwnI base w ev l) (hfr : Fr [] w0 w) (hb0 : w0.heap.size ≤ base) (hb : base ≤ w.heap.size) (hl : l.length + xs.length < 1000000)
    (h : ∀ v' w', OwnI base w' v' (l ++ xs) → Fr [] w0 w' → Fr ev.ownBlock.toList w w' → wpList Tryd.prog ops Q rest (a.put o.dst v') w') :
    wpList Tryd.prog ops Q (o :: rest) a w :=
  wpList_plain hg fun _ hK => wp_appN s x ho base ev xv l xs w0 hs hx hxs hown hfr hb0 hb hl fun v' w' h2 h3 h4 => hK _ _ (h v' w' h2 h3 h4)
theorem ownI_empty {base : Nat} {W : World} (hb : base ≤ W.heap.size) : OwnI base (W.alloc (.cells #[] 3)) (.slice (some ⟨W.heap.size, 0, none⟩) 0 0) [] :=
  ⟨rfl, Or.inr ⟨W.heap.size, 0, #[], rfl, hb, heap_new rfl, Nat.le_refl _, by decide, rfl, rfl⟩⟩
theorem OwnI.mono {base base' : Nat} {w : World} {v : Value} {l : List Nat} (h : OwnI base w v l) (hb : base' ≤ base) : OwnI base' w v l := by
  obtain ⟨h1, h2⟩ := h
  refine ⟨h1, ?_⟩
  rcases h2 with h2 | ⟨g, cap, cur, hv, h3, h4⟩
  · exact Or.inl h2
  · exact Or.inr ⟨g, cap, cur, hv, Nat.le_trans hb h3, h4⟩
theorem Nums.take {w : World} {b off cap : Nat} {l : List Nat} (h : Nums w (.slice (some ⟨b, off, none⟩) l.length cap) l) (k : Nat) (hk : k ≤ l.length) : Nums w (.slice (some ⟨b, off, none⟩) k cap) (l.take k) := by
  rcases h with ⟨h, _⟩ | ⟨b', off', cap', hv, h1, h2, h3, h4⟩
  · cases h
  · cases hv
    refine Or.inr ⟨b, off, cap, by rw [List.length_take, Nat.min_eq_left hk], by rw [List.length_take]; omega, h2, h3, fun i hi => ?_⟩
    rw [List.length_take] at hi
    rw [h4 i (by omega)]
    simp [List.getD_eq_getElem?_getD, show i < k by omega]
theorem Nums.drop {w : World} {b off cap : Nat} {l : List Nat} (h : Nums w (.slice (some ⟨b, off, none⟩) l.length cap) l) (k : Nat) (hk : k ≤ l.length) : Nums w (.slice (some ⟨b, off + k, none⟩) (l.length - k) (cap - k)) (l.drop k) := by
  rcases h with ⟨h, _⟩ | ⟨b', off', cap', hv, h1, h2, h3, h4⟩
  · cases h
  · cases hv
    refine Or.inr ⟨b, off + k, cap - k, by rw [List.length_drop], by rw [List.length_drop]; omega, by omega, h3, fun i hi => ?_⟩
    rw [List.length_drop] at hi
    rw [Nat.add_assoc, h4 (k + i) (by omega)]
    simp [List.getD_eq_getElem?_getD]

theorem merge_left {le : Nat → Nat → Bool} {s t : List Nat} {i k : Nat} (hi : i < s.length) (h : k = t.length ∨ (k < t.length ∧ le (s.getD i 0) (t.getD k 0) = true)) :
    (s.drop i).merge (t.drop k) le = s.getD i 0 :: (s.drop (i + 1)).merge (t.drop k) le := by
  rw [List.getD_eq_getElem?_getD, List.getElem?_eq_getElem hi, Option.getD_some] at h ⊢
  rw [List.drop_eq_getElem_cons hi]
  rcases h with rfl | ⟨hk, h⟩
  · simp
  · rw [List.getD_eq_getElem?_getD, List.getElem?_eq_getElem hk, Option.getD_some] at h
    rw [List.drop_eq_getElem_cons hk, List.cons_merge_cons, if_pos h]
theorem merge_right {le : Nat → Nat → Bool} {s t : List Nat} {i k : Nat} (hk : k < t.length) (h : i = s.length ∨ (i < s.length ∧ le (s.getD i 0) (t.getD k 0) = false)) :
    (s.drop i).merge (t.drop k) le = t.getD k 0 :: (s.drop i).merge (t.drop (k + 1)) le := by
  rw [List.getD_eq_getElem?_getD (l := t), List.getElem?_eq_getElem hk, Option.getD_some] at h ⊢
  rw [List.drop_eq_getElem_cons hk]
  rcases h with rfl | ⟨hi, h⟩
  · simp
  · rw [List.getD_eq_getElem?_getD, List.getElem?_eq_getElem hi, Option.getD_some] at h
    rw [List.drop_eq_getElem_cons hi, List.cons_merge_cons, if_neg (by rw [h]; decide)]

set_option maxRecDepth 100000 in
set_option maxHeartbeats 4000000 in
theorem sorted_any (bv : Value) (bys : List (List UInt8)) : ∀ (d : Nat) (l : List Nat) (v : Value) (w : World), l.length < d → Nums w v l → Strs w bv bys → (∀ i, i < l.length → l.getD i 0 < bys.length) → l.length ≤ 100000 →
    Calls Tryd.prog 75 #[v, bv] w fun e w' => ∃ s v', e = .returned v' ∧ OwnI w.heap.size w' v' s ∧ Sorted bys l s ∧ Below w.heap.size w w' := by
  intro d
  induction d with
  | zero => intro l v w h; exact absurd h (Nat.not_lt_zero _)
  | succ d ih =>
    intro l v w hd hv hbv hlb hl5
    have HV := Lib.hid hv
    have HBV := Lib.hid hbv
    obtain ⟨ba, bcap, rfl, hbln, hbf⟩ := hbv.form
    by_cases hs : l.length < 2
    · have t1 : decide ((l.length : Int) < 2) = true := by simp; omega
      have HSO := Lib.hid (Sorted.few bys l hs)
      rcases hv with ⟨rfl, rfl⟩ | ⟨b, off, cap, rfl, hc1, hc2, hc3, hc4⟩
      · clear t1
        have t1 : decide ((0 : Int) < 2) = true := by decide
        clear hbv ih hlb
        go_enter Tryd.func75, Tryd.ntmps75
        go_wp2_with (at_builtin; go_loud (refine wpList_appN rfl (.tmp 13) (.tmp 14) rfl w.heap.size (.slice (some ⟨w.heap.size, 0, none⟩) 0 0) (.slice none 0 0) [] [] w rfl rfl (HV.out.fr0 ((Fr.refl [] w).alloc _)) (ownI_empty (Nat.le_refl _)) ((Fr.refl [] w).alloc _) (Nat.le_refl _) (by simp) (by simp; try omega) ?_))
        intro v' w' hown hfr' _
        have HOW := Lib.hid hown
        clear hown
        go_wp2_with fail
        go_ret
        exact ⟨[], v', rfl, HOW.out, HSO.out, hfr'.toBelow (by simp)⟩
      · clear hc4
        clear hbv ih hlb
        go_enter Tryd.func75, Tryd.ntmps75
        go_wp2_with (at_builtin; go_loud (refine wpList_appN rfl (.tmp 13) (.tmp 14) rfl w.heap.size (.slice (some ⟨w.heap.size, 0, none⟩) 0 0) (.slice (some ⟨b, off, none⟩) l.length cap) [] l w rfl rfl (HV.out.fr0 ((Fr.refl [] w).alloc _)) (ownI_empty (Nat.le_refl _)) ((Fr.refl [] w).alloc _) (Nat.le_refl _) (by simp) (by simp; try omega) ?_))
        intro v' w' hown hfr' _
        have HOW := Lib.hid hown
        clear hown
        go_wp2_with fail
        go_ret
        exact ⟨l, v', rfl, HOW.out, HSO.out, hfr'.toBelow (by simp)⟩
    · have t1 : decide ((l.length : Int) < 2) = false := by simp; omega
      obtain ⟨pl, cap, rfl, hlen, ha⟩ := hv.form
      obtain ⟨b, off, rfl⟩ := ha 0 (by omega)
      have hcap : l.length ≤ cap := by
        rcases hv with ⟨h, _⟩ | ⟨b', off', cap', h, h1, _⟩
        · cases h
        · cases h; exact h1
      obtain ⟨h, hh, eh⟩ : ∃ h : Nat, h = l.length / 2 ∧ (l.length : Int) / 2 = (h : Int) := ⟨_, rfl, by omega⟩
      have g0 : (0 : Int) ≤ (h : Int) := by omega
      have g1 : (h : Int) ≤ (cap : Int) := by omega
      have g2 : (h : Int) ≤ (l.length : Int) := by omega
      have g3 : h ≤ l.length := by omega
      have g4 : h ≤ cap := by omega
      have HTA := Lib.hid (HV.out.take h g3)
      have HDR := Lib.hid (HV.out.drop h g3)
      have LTA : (l.take h).length = h := by rw [List.length_take]; omega
      have LDR : (l.drop h).length = l.length - h := by rw [List.length_drop]
      have HTD : Hid (l.take h ++ l.drop h = l) := Lib.hid (List.take_append_drop h l)
      have HLA : Hid (∀ i, i < (l.take h).length → (l.take h).getD i 0 < bys.length) := Lib.hid (fun i hi => by
        rw [LTA] at hi
        have := hlb i (by omega)
        rwa [show (l.take h).getD i 0 = l.getD i 0 by simp [List.getD_eq_getElem?_getD, hi]])
      have HLB : Hid (∀ i, i < (l.drop h).length → (l.drop h).getD i 0 < bys.length) := Lib.hid (fun i hi => by
        rw [LDR] at hi
        have := hlb (h + i) (by omega)
        rwa [show (l.drop h).getD i 0 = l.getD (h + i) 0 by simp [List.getD_eq_getElem?_getD]])
      generalize l.take h = la at HTA LTA HTD HLA
      generalize l.drop h = lb at HDR LDR HTD HLB
      have IHA := Lib.hid (fun w hv hb => ih la (.slice (some ⟨b, off, none⟩) h cap) w (by omega) hv hb HLA.out (by omega))
      have IHB := Lib.hid (fun w hv hb => ih lb (.slice (some ⟨b, off + h, none⟩) (l.length - h) (cap - h)) w (by omega) hv hb HLB.out (by omega))
      clear hv hbv hlb ih hh
      go_enter Tryd.func75, Tryd.ntmps75
      go_wp2_with fail
      refine (IHA.out w HTA.out HBV.out).mono ?_
      rintro e w1 ⟨sa, va, rfl, hoa, hsa, hb1⟩
      have hf1 : Fr [] w w1 := Fr.ofBelow hb1
      have HOA := Lib.hid hoa
      have HSA := Lib.hid hsa
      clear hoa hsa hb1
      go_wp2_with fail
      refine (IHB.out w1 (HDR.out.fr0 hf1) (HBV.out.fr hf1 (by simp))).mono ?_
      rintro e w2 ⟨sb, vb, rfl, hob, hsb, hb2⟩
      have hf2 : Fr [] w w2 := hf1.trans (Fr.ofBelow (X := []) hb2) (by simp)
      have HOA2 := Lib.hid (HOA.out.fr (Fr.ofBelow (X := []) hb2) (by simp))
      have HNA := Lib.hid HOA2.out.nums
      have HNB := Lib.hid hob.nums
      have HSO : Hid (Sorted bys l (sa.merge sb (leI bys))) := Lib.hid (by have := HSA.out.merge hsb; rwa [HTD.out] at this)
      have hla : sa.length = h := by rw [HSA.out.perm.length_eq, LTA]
      have hlb : sb.length = l.length - h := by rw [hsb.perm.length_eq, LDR]
      have HMA : Hid (∀ i, i < sa.length → sa.getD i 0 < bys.length) := Lib.hid (fun i hi => by
        have h1 := HSA.out.perm.mem_iff.1 (getD_mem sa i 0 hi)
        obtain ⟨j, hj, e⟩ := List.getElem_of_mem h1
        have := HLA.out j hj
        rwa [List.getD_eq_getElem?_getD, List.getElem?_eq_getElem hj, Option.getD_some, e] at this)
      have HMB : Hid (∀ i, i < sb.length → sb.getD i 0 < bys.length) := Lib.hid (fun i hi => by
        have h1 := hsb.perm.mem_iff.1 (getD_mem sb i 0 hi)
        obtain ⟨j, hj, e⟩ := List.getElem_of_mem h1
        have := HLB.out j hj
        rwa [List.getD_eq_getElem?_getD, List.getElem?_eq_getElem hj, Option.getD_some, e] at this)
      have hw2 : w.heap.size ≤ w2.heap.size := hf2.size
      have hla9 : sa.length ≤ 100000 := by omega
      have hlb9 : sb.length ≤ 100000 := by omega
      clear hla hlb
      obtain ⟨pa, capa, rfl, _, hfa⟩ := HNA.out.form
      obtain ⟨pb, capb, rfl, _, hfb⟩ := HNB.out.form
      clear hob hsb hb2 HOA HSA IHA IHB HLA HLB HTA HDR HTD HOA2 hf1
      go_wp2_with fail
      go_loopg [7, 8, 9] (sa.length + sb.length + 1) (fun gh ov iv kv wr => ∃ (i k : Nat) (out : List Nat), i ≤ sa.length ∧ k ≤ sb.length ∧ gh = sa.length + sb.length + 1 - (i + k) ∧ iv = .int .i64 (i : Int) ∧ kv = .int .i64 (k : Int) ∧ OwnI w2.heap.size wr ov out ∧ out.length = i + k ∧ out ++ (sa.drop i).merge (sb.drop k) (leI bys) = sa.merge sb (leI bys) ∧ Fr [] w2 wr)
      case atStart => exact ⟨0, 0, [], by omega, by omega, by omega, rfl, rfl, OwnI.nil, rfl, by simp, .refl _ _⟩
      case round =>
        obtain ⟨i, k, out, hi, hk, hgh, rfl, rfl, ho, hol, hme, hfr⟩ := hrel
        have HGH := Lib.hid hgh
        have HOQ := Lib.hid ho
        have HME := Lib.hid hme
        clear hgh ho hme
        by_cases hkl : k < sb.length
        · obtain ⟨gb, ob, rfl⟩ := hfb k hkl
          have k0 : decide ((k : Int) < (sb.length : Int)) = true := by simp; omega
          have k1 : ((k : Int) == (sb.length : Int)) = false := by simp; omega
          have k2 : (k : Int) < (sb.length : Int) := by omega
          have hcb := hfr.cell (HNB.out.cell k hkl) (by simp)
          by_cases hil : i < sa.length
          · obtain ⟨ga, oa, rfl⟩ := hfa i hil
            have i0 : decide ((i : Int) < (sa.length : Int)) = true := by simp; omega
            have i2 : (i : Int) < (sa.length : Int) := by omega
            have hca := hfr.cell (HNA.out.cell i hil) (by simp)
            have hx1 := HMA.out i hil
            have hy1 := HMB.out k hkl
            obtain ⟨gs, os, rfl⟩ := hbf (sa.getD i 0) hx1
            have hcx := hfr.cell (hf2.cell (HBV.out.cell (sa.getD i 0) hx1) (by simp)) (by simp)
            have hcy := hfr.cell (hf2.cell (HBV.out.cell (sb.getD k 0) hy1) (by simp)) (by simp)
            have HMLL := Lib.hid (fun h => merge_left (le := leI bys) (s := sa) (t := sb) hil (Or.inr ⟨hkl, h⟩))
            have HMRR := Lib.hid (fun h => merge_right (le := leI bys) (s := sa) (t := sb) hkl (Or.inr ⟨hil, h⟩))
            have HLE : Hid (leI bys (sa.getD i 0) (sb.getD k 0) = leS (bys.getD (sa.getD i 0) []) (bys.getD (sb.getD k 0) [])) := Lib.hid rfl
            generalize sa.getD i 0 = x at hx1 hca hcx HMLL HMRR HLE
            generalize sb.getD k 0 = y at hy1 hcb hcy HMLL HMRR HLE
            generalize bys.getD x [] = sx at hcx HLE
            generalize bys.getD y [] = sy at hcy HLE
            have x1 : (x : Int) < (bys.length : Int) := by omega
            have y1 : (y : Int) < (bys.length : Int) := by omega
            have bx : (⟨sx.toArray⟩ : ByteArray).toList = sx := by rw [Lib.toList_data]
            have by' : (⟨sy.toArray⟩ : ByteArray).toList = sy := by rw [Lib.toList_data]
            unfold leS at HLE
            cases hb1 : Op.bytesLess sx sy with
            | true =>
              rw [hb1, Bool.true_or] at HLE
              have HML := Lib.hid (HMLL.out HLE.out)
              clear HMLL HMRR HLE
              go_wp2_with fail
              go_quiet (fail)
              go_wp2_with (at_builtin; go_loud (refine wpList_appI rfl (.tmp 67) (.tmp 72) rfl w2.heap.size _ out x w2 rfl rfl (HOQ.out.fr ((Fr.refl [] wr).drewN _) (by simp)) (hfr.drewN _) (Nat.le_refl _) (hfr.drewN _).size (by omega) ?_))
              intro v' w5 hown hfr' _
              have HOW := Lib.hid hown
              clear hown
              go_wp2_with fail
              go_roundg (sa.length + sb.length + 1 - (i + 1 + k))
              case measure => have := HGH.out; omega
              case rel => exact ⟨i + 1, k, out ++ [x], by omega, by omega, rfl, by go_num, rfl, HOW.out, by simp [hol]; omega, by rw [List.append_assoc, List.singleton_append, ← HML.out, HME.out], hfr'⟩
            | false =>
              rw [hb1, Bool.false_or] at HLE
              cases hb2 : (sx == sy) with
              | true =>
                rw [hb2] at HLE
                have HML := Lib.hid (HMLL.out HLE.out)
                clear HMLL HMRR HLE
                go_wp2_with fail
                go_quiet (fail)
                go_wp2_with (at_builtin; go_loud (refine wpList_appI rfl (.tmp 67) (.tmp 72) rfl w2.heap.size _ out x w2 rfl rfl (HOQ.out.fr ((Fr.refl [] wr).drewN _) (by simp)) (hfr.drewN _) (Nat.le_refl _) (hfr.drewN _).size (by omega) ?_))
                intro v' w5 hown hfr' _
                have HOW := Lib.hid hown
                clear hown
                go_wp2_with fail
                go_roundg (sa.length + sb.length + 1 - (i + 1 + k))
                case measure => have := HGH.out; omega
                case rel => exact ⟨i + 1, k, out ++ [x], by omega, by omega, rfl, by go_num, rfl, HOW.out, by simp [hol]; omega, by rw [List.append_assoc, List.singleton_append, ← HML.out, HME.out], hfr'⟩
              | false =>
                rw [hb2] at HLE
                have HML := Lib.hid (HMRR.out HLE.out)
                clear HMLL HMRR HLE
                go_wp2_with fail
                go_quiet (fail)
                go_wp2_with (at_builtin; go_loud (refine wpList_appI rfl (.tmp 76) (.tmp 81) rfl w2.heap.size _ out y w2 rfl rfl (HOQ.out.fr ((Fr.refl [] wr).drewN _) (by simp)) (hfr.drewN _) (Nat.le_refl _) (hfr.drewN _).size (by omega) ?_))
                intro v' w5 hown hfr' _
                have HOW := Lib.hid hown
                clear hown
                go_wp2_with fail
                go_roundg (sa.length + sb.length + 1 - (i + (k + 1)))
                case measure => have := HGH.out; omega
                case rel => exact ⟨i, k + 1, out ++ [y], by omega, by omega, rfl, rfl, by go_num, HOW.out, by simp [hol]; omega, by rw [List.append_assoc, List.singleton_append, ← HML.out, HME.out], hfr'⟩
          · obtain rfl : i = sa.length := by omega
            have i0 : decide ((sa.length : Int) < (sa.length : Int)) = false := by simp
            have HML := Lib.hid (merge_right (le := leI bys) (s := sa) (t := sb) hkl (Or.inl rfl))
            generalize sb.getD k 0 = y at hcb HML
            go_wp2_with fail
            go_quiet (fail)
            go_wp2_with (at_builtin; go_loud (refine wpList_appI rfl (.tmp 76) (.tmp 81) rfl w2.heap.size _ out y w2 rfl rfl (HOQ.out.fr ((Fr.refl [] wr).drewN _) (by simp)) (hfr.drewN _) (Nat.le_refl _) (hfr.drewN _).size (by omega) ?_))
            intro v' w5 hown hfr' _
            have HOW := Lib.hid hown
            clear hown
            go_wp2_with fail
            go_roundg (sa.length + sb.length + 1 - (sa.length + (k + 1)))
            case measure => have := HGH.out; omega
            case rel => exact ⟨sa.length, k + 1, out ++ [y], by omega, by omega, rfl, rfl, by go_num, HOW.out, by simp [hol]; omega, by rw [List.append_assoc, List.singleton_append, ← HML.out, HME.out], hfr'⟩
        · obtain rfl : k = sb.length := by omega
          have k0 : decide ((sb.length : Int) < (sb.length : Int)) = false := by simp
          have k1 : ((sb.length : Int) == (sb.length : Int)) = true := by simp
          by_cases hil : i < sa.length
          · obtain ⟨ga, oa, rfl⟩ := hfa i hil
            have i0 : decide ((i : Int) < (sa.length : Int)) = true := by simp; omega
            have i2 : (i : Int) < (sa.length : Int) := by omega
            have hca := hfr.cell (HNA.out.cell i hil) (by simp)
            have HML := Lib.hid (merge_left (le := leI bys) (s := sa) (t := sb) hil (Or.inl rfl))
            generalize sa.getD i 0 = x at hca HML
            go_wp2_with fail
            go_quiet (fail)
            go_wp2_with (at_builtin; go_loud (refine wpList_appI rfl (.tmp 67) (.tmp 72) rfl w2.heap.size _ out x w2 rfl rfl (HOQ.out.fr ((Fr.refl [] wr).drewN _) (by simp)) (hfr.drewN _) (Nat.le_refl _) (hfr.drewN _).size (by omega) ?_))
            intro v' w5 hown hfr' _
            have HOW := Lib.hid hown
            clear hown
            go_wp2_with fail
            go_roundg (sa.length + sb.length + 1 - (i + 1 + sb.length))
            case measure => have := HGH.out; omega
            case rel => exact ⟨i + 1, sb.length, out ++ [x], by omega, by omega, rfl, by go_num, rfl, HOW.out, by simp [hol]; omega, by rw [List.append_assoc, List.singleton_append, ← HML.out, HME.out], hfr'⟩
          · obtain rfl : i = sa.length := by omega
            have i0 : decide ((sa.length : Int) < (sa.length : Int)) = false := by simp
            have HOE : Hid (out = sa.merge sb (leI bys)) := Lib.hid (by rw [← HME.out]; simp)
            go_wp2_with fail
            go_ret
            exact ⟨out, _, rfl, HOQ.out.mono hw2, by rw [HOE.out]; exact HSO.out, (hf2.trans hfr (by simp)).toBelow (by simp)⟩
end Go.Proofs.YtmhejcndkplepaaDoor
