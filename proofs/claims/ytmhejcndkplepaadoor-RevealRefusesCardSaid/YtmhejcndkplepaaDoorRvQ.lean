/-
  foyerlaw31: RevealFewer.
-/
import Derived.Test.YtmhejcndkplepaaDoorRvM
import Derived.Deep.DeepCutAuto
namespace Go.Proofs.YtmhejcndkplepaaDoor
open Go.RowKit

section
variable {o : Oper} {a : Act} {K : Act → World → Prop} {Q : Exit → Act → World → Prop} {w : World}
/-- append of one number: where the new slice lies. -/
theorem wp_appZa (s x : Operand)
    (ho : o.op = .call { callee := .builtin .append, args := #[s, x], argTypes := #[23, 23] }) (base : Nat) (ev : Value) (l : List Int) (z : Int) (b c : Nat) (w0 : World)
    (hs : a.eval s = ev) (hx : a.eval x = .slice (some ⟨b, 0, none⟩) 1 c) (hcu : w.cell? ⟨b, 0, none⟩ = some (.int .i64 z)) (hown : OwnZ base w ev l) (hfr : Fr [] w0 w) (hb0 : w0.heap.size ≤ base) (hb : base ≤ w.heap.size) (hl : l.length < 1000000)
    (h : ∀ v' w', OwnZ base w' v' (l ++ [z]) → Fr [] w0 w' → Fr ev.ownBlock.toList w w' → (v'.ownBlock = ev.ownBlock ∨ v'.ownBlock = some w.heap.size) → (∃ g cap, v' = .slice (some ⟨g, 0, none⟩) (l.length + 1) cap) → K (a.put o.dst v') w') :
    o.wp Tryd.prog a w K Q := by
  obtain ⟨i0, hi, hz0, hz1, hz2⟩ := info_parts iInfo
  obtain ⟨v', w', hrun, r1, r2, _, r4⟩ := run_append_own_at (P := Tryd.prog) (w := w) base 23 o.type 3 i0 (.int .i64 0) 1 8 Tryd.underlying23 hi hz0 hz1 hz2 rfl (by decide) ev _ _ hown ⟨b, 0, none⟩ 1 c [zV z] (by simp)
    (fun j u hj => by
      match j, hj with
      | 0, hj =>
        simp at hj; subst hj
        rw [show (⟨b, 0, none⟩ : Addr).add 0 = ⟨b, 0, none⟩ by simp [Addr.add]]
        exact hcu) (by simp [zV, Value.oneCell']) (by unfold maxLen; omega) (by omega) hb
  have := h v' w' (by simpa [OwnZ, zV] using r1) (hfr.grown r2 (fun r e => Or.inr (Nat.le_trans hb0 (ownBlock_cells hown r e).1))) ((Fr.refl _ w).grown r2 (fun r e => Or.inl (by simp [e]))) r4 (ownsRow_succ (xs := l.map zV ++ [zV z]) (by simpa [OwnZ, zV] using r1))
  unfold Oper.wp execOp
  simp only [ho, resolve, invoke, builtin, Sem.run_bind, Sem.run_pure, Result.andThen_ok, List.map_toArray, List.map_cons, List.map_nil, hs, hx, hrun]
  exact this
end

theorem OwnZ.lt {base : Nat} {w : World} {v : Value} {l : List Int} (h : OwnZ base w v l) : ∀ k, v.ownBlock = some k → k < w.heap.size := by
  intro k hk
  rcases h.2 with ⟨rfl, _⟩ | ⟨g, cap, cur, rfl, _, hg, _⟩
  · simp [Value.ownBlock] at hk
  · obtain rfl : g = k := by simpa [Value.ownBlock] using hk
    exact lt_of_block hg
/-- A disclosure that the call builds up in a block of its own: three slices of its own. -/
structure LsI (W0 wr : World) (lb : Nat) (n : Int) (cv fv pv : Value) (C : List Int) (F : List (List UInt8)) (P : List Value) : Prop where
  hlb : lb < W0.heap.size
  blk : wr.heap[lb]? = some (.cells #[.int .i64 n, cv, fv, pv] 26 (0, 0))
  c : OwnZ W0.heap.size wr cv C
  f : OwnS W0.heap.size wr fv F
  p : OwnV W0.heap.size wr pv P
  a1 : Apart cv fv
  a2 : Apart cv pv
  a3 : Apart fv pv
  fr : Fr [lb] W0 wr
theorem Apart.fresh {u u' v : Value} {n : Nat} (h : Apart u v) (hat : u'.ownBlock = u.ownBlock ∨ u'.ownBlock = some n) (hv : ∀ k, v.ownBlock = some k → k < n) : Apart u' v := by
  intro k hk hv'
  rcases hat with e | e
  · exact h k (by rw [← e]; exact hk) hv'
  · rw [hk] at e
    cases e
    exact absurd (hv _ hv') (Nat.lt_irrefl _)
section
variable {W0 wr w w8 : World} {lb : Nat} {n : Int} {cv fv pv nv : Value} {C : List Int} {F : List (List UInt8)} {P : List Value}
theorem LsI.step (h : LsI W0 wr lb n cv fv pv C F P) (hf : Fr [] wr w) : LsI W0 w lb n cv fv pv C F P :=
  ⟨h.hlb, hf.at h.blk (by simp), h.c.fr hf (by simp), h.f.fr hf (by simp), h.p.fr hf (by simp), h.a1, h.a2, h.a3, h.fr.trans hf (by simp)⟩
theorem LsI.setC (h : LsI W0 w lb n cv fv pv C F P) {C' : List Int} (ho : OwnZ W0.heap.size w8 nv C') (hg : Fr cv.ownBlock.toList w w8) (hat : nv.ownBlock = cv.ownBlock ∨ nv.ownBlock = some w.heap.size) :
    LsI W0 (w8.setCell ⟨lb, 1, none⟩ nv) lb n nv fv pv C' F P := by
  have hlb := h.hlb
  have x : Fr [lb] w8 (w8.setCell ⟨lb, 1, none⟩ nv) := (Fr.refl _ _).setCell _ _ (by simp)
  have hcb : lb ∉ cv.ownBlock.toList := fun hm => by have := (ownBlock_cells h.c lb (by simpa using hm)).1; omega
  refine ⟨hlb, row_set (hg.at h.blk hcb) 1 _, ho.fr x (fun b hb hm => by have := (ownBlock_cells ho b hb).1; simp at hm; omega), (h.f.fr hg h.a1.notin).fr x (fun b hb hm => by have := (ownBlock_cells h.f b hb).1; simp at hm; omega),
    (h.p.fr hg h.a2.notin).fr x (fun b hb hm => by have := (ownBlock_cells h.p b hb).1; simp at hm; omega), h.a1.fresh hat h.f.lt, h.a2.fresh hat h.p.lt, h.a3, (h.fr.trans hg (fun y hy => Or.inr ?_)).setCell _ _ (by simp)⟩
  exact (ownBlock_cells h.c y (by simpa using hy)).1
theorem LsI.setF (h : LsI W0 w lb n cv fv pv C F P) {F' : List (List UInt8)} (ho : OwnS W0.heap.size w8 nv F') (hg : Fr fv.ownBlock.toList w w8) (hat : nv.ownBlock = fv.ownBlock ∨ nv.ownBlock = some w.heap.size) :
    LsI W0 (w8.setCell ⟨lb, 2, none⟩ nv) lb n cv nv pv C F' P := by
  have hlb := h.hlb
  have x : Fr [lb] w8 (w8.setCell ⟨lb, 2, none⟩ nv) := (Fr.refl _ _).setCell _ _ (by simp)
  have hcb : lb ∉ fv.ownBlock.toList := fun hm => by have := (ownBlock_cells h.f lb (by simpa using hm)).1; omega
  refine ⟨hlb, row_set (hg.at h.blk hcb) 2 _, (h.c.fr hg h.a1.symm.notin).fr x (fun b hb hm => by have := (ownBlock_cells h.c b hb).1; simp at hm; omega), ho.fr x (fun b hb hm => by have := (ownBlock_cells ho b hb).1; simp at hm; omega),
    (h.p.fr hg h.a3.notin).fr x (fun b hb hm => by have := (ownBlock_cells h.p b hb).1; simp at hm; omega), (h.a1.symm.fresh hat h.c.lt).symm, h.a2, h.a3.fresh hat h.p.lt, (h.fr.trans hg (fun y hy => Or.inr ?_)).setCell _ _ (by simp)⟩
  exact (ownBlock_cells h.f y (by simpa using hy)).1
theorem LsI.setP (h : LsI W0 w lb n cv fv pv C F P) {P' : List Value} (ho : OwnV W0.heap.size w8 nv P') (hg : Fr pv.ownBlock.toList w w8) (hat : nv.ownBlock = pv.ownBlock ∨ nv.ownBlock = some w.heap.size) :
    LsI W0 (w8.setCell ⟨lb, 3, none⟩ nv) lb n cv fv nv C F P' := by
  have hlb := h.hlb
  have x : Fr [lb] w8 (w8.setCell ⟨lb, 3, none⟩ nv) := (Fr.refl _ _).setCell _ _ (by simp)
  have hcb : lb ∉ pv.ownBlock.toList := fun hm => by have := (ownBlock_cells h.p lb (by simpa using hm)).1; omega
  refine ⟨hlb, row_set (hg.at h.blk hcb) 3 _, (h.c.fr hg h.a2.symm.notin).fr x (fun b hb hm => by have := (ownBlock_cells h.c b hb).1; simp at hm; omega), (h.f.fr hg h.a3.symm.notin).fr x (fun b hb hm => by have := (ownBlock_cells h.f b hb).1; simp at hm; omega),
    ho.fr x (fun b hb hm => by have := (ownBlock_cells ho b hb).1; simp at hm; omega), h.a1, (h.a2.symm.fresh hat h.c.lt).symm, (h.a3.symm.fresh hat h.f.lt).symm, (h.fr.trans hg (fun y hy => Or.inr ?_)).setCell _ _ (by simp)⟩
  exact (ownBlock_cells h.p y (by simpa using hy)).1
end

set_option maxRecDepth 100000 in
set_option maxHeartbeats 8000000 in
theorem revealFewer_any (v : Value) (fields : List (List UInt8)) (s : List UInt8) (bv : Value) (bl : List Bool) (kv : Value) (drop : List Bool) (w : World) (hT : Tabs w) (hv : Strs w v fields) (hb : Bools w bv bl) (hc : Bools w kv drop) :
    Calls Tryd.prog 7 #[v, .string ⟨s.toArray⟩, bv, kv] w fun e w' => e = .returned (.bool true) ∧ Below w.heap.size w w' := by
  have hmx : Tryd.prog.follows .mixedOrders = true := by kernel_rfl
  have HT := Lib.hid hT
  have HV := Lib.hid hv
  have HB := Lib.hid hb
  have HC := Lib.hid hc
  obtain ⟨ca, ccap, rfl, hcl, hca⟩ := hc.form
  obtain ⟨fa, fcap, rfl, hfl, hfa⟩ := hv.form
  clear hT hv hb hc
  go_enter Tryd.func7, Tryd.ntmps7
  go_wp2_with fail
  refine (head31_any w HT.out).mono ?_
  rintro e w1 ⟨rfl, hb1⟩
  have hf1 : Fr [] w w1 := (Fr.refl [] w).below hb1 (Nat.le_refl _)
  clear hb1
  go_wp2_with fail
  refine (short_any _ fields 30 w1 (HV.out.fr0 hf1)).mono ?_
  rintro e w2 ⟨rfl, hb2⟩
  have hf2 : Fr [] w w2 := hf1.below hb2 hf1.size
  clear hb2 hf1
  cases hsh : shortB fields 30 with
  | false => go_wp2_with fail; go_ret; exact ⟨rfl, hf2.toBelow (by simp)⟩
  | true => ?_
  have HSH := Lib.hid (shortB_all hsh)
  clear hsh
  by_cases h0 : fields.length = 0
  · have t0 : ((fields.length : Int) == 0) = true := by rw [beq_iff_eq]; omega
    have t0' : (fields.length == 0) = true := by rw [beq_iff_eq]; omega
    go_wp2_with fail
    go_ret
    exact ⟨rfl, hf2.toBelow (by simp)⟩
  have t0 : ((fields.length : Int) == 0) = false := by rw [beq_eq_false_iff_ne]; omega
  have t0' : (fields.length == 0) = false := by rw [beq_eq_false_iff_ne]; omega
  by_cases h1 : 200 < s.length
  · have t1 : decide ((200 : Int) < (s.length : Int)) = true := by simp; omega
    go_wp2_with fail
    go_ret
    exact ⟨rfl, hf2.toBelow (by simp)⟩
  have t1 : decide ((200 : Int) < (s.length : Int)) = false := by simp; omega
  go_wp2_with fail
  refine (chosen_any fields.length bv bl w2 (HB.out.fr hf2) (by have := HSH.out.2; omega)).mono ?_
  rintro e w3 ⟨lv, rfl, hz3, hb3⟩
  have hf3 : Fr [] w w3 := hf2.below hb3 hf2.size
  have HINC := Lib.hid (inc_chosen bl (show 0 < fields.length by omega))
  obtain ⟨L, eL⟩ : ∃ L, L = chosenL fields.length bl := ⟨_, rfl⟩
  rw [← eL] at hz3 HINC
  have HZ := Lib.hid hz3
  obtain ⟨la, lcap, rfl, hlc, hlcap, hla⟩ := hz3.form
  clear hb3 hf2 eL hz3 t0 t0' t1
  go_wp2_with fail
  refine (show_any _ _ fields s L w3 (HV.out.fr0 hf3) HZ.out (by have := HSH.out.2; omega) (by omega) (fun f hf => by have := HSH.out.1 f hf; omega) (HT.out.fr hf3)).mono ?_
  rintro e w4 ⟨dv, rfl, hd, hb4⟩
  have hf4 : Fr [] w w4 := hf3.below hb4 hf3.size
  have hz4 := HZ.out.fr0 (Fr.ofBelow (X := []) hb4)
  have HZ4 := Lib.hid hz4
  rw [show_ok HINC.out] at hd
  rw [showE_ok HINC.out]
  obtain ⟨dw, df, dp, rfl, hdw, hdf, hdp⟩ := hd
  obtain ⟨dwa, dwc, rfl, hdwl, hdwcap, hdwa⟩ : ∃ a c, dw = .slice a L.length c ∧ L.length ≤ c ∧ c ≤ 9223372036854775807 ∧ (∀ i, i < L.length → ∃ b off, a = some ⟨b, off, none⟩) := hdw.form
  obtain ⟨dfa, dfc, rfl, hdfl, hdfa⟩ : ∃ a c, df = .slice a L.length c ∧ L.length ≤ 9223372036854775807 ∧ (∀ i, i < L.length → ∃ b off, a = some ⟨b, off, none⟩) := by
    obtain ⟨a, c, h1, h2, h3⟩ := hdf.form
    simp only [List.length_map] at h1 h2 h3
    exact ⟨a, c, h1, h2, h3⟩
  obtain ⟨dpa, dpc, rfl, hdpa⟩ : ∃ a c, dp = .slice a L.length c ∧ (∀ i, i < L.length → ∃ b off, a = some ⟨b, off, none⟩) := by
    obtain ⟨a, c, h1, _, _, h4⟩ := hdp.form
    simp only [List.length_map] at h1 h4
    exact ⟨a, c, h1, h4⟩
  have HDW := Lib.hid hdw
  have HDF := Lib.hid hdf
  have HDP := Lib.hid hdp
  have t2 : ((L.length : Int) != (L.length : Int)) = false := by simp
  have t3 : ((fields.length : Int) != (fields.length : Int)) = false := by simp
  have HLB : Hid (L.length ≤ 30) := Lib.hid (by have := incB_len HINC.out; have := HSH.out.2; omega)
  clear hb4 hf3 HZ hdw hdf hdp hz4
  go_upto_region 8 with (fail)
  have f5 : Fr [] w4 (w4.alloc (.cells #[.int .i64 (fields.length : Int), .slice dwa L.length dwc, .slice dfa L.length dfc, .slice dpa L.length dpc] 26)) := (Fr.refl [] w4).alloc _
  have q5 : DAt w4.heap.size (.int .i64 (fields.length : Int)) (.slice dwa L.length dwc) (.slice dfa L.length dfc) (.slice dpa L.length dpc) (w4.alloc (.cells #[.int .i64 (fields.length : Int), .slice dwa L.length dwc, .slice dfa L.length dfc, .slice dpa L.length dpc] 26)) := DAt.of (heap_new rfl)
  generalize w4.alloc (.cells #[.int .i64 (fields.length : Int), .slice dwa L.length dwc, .slice dfa L.length dfc, .slice dpa L.length dpc] 26) = w5 at f5 q5 ⊢
  obtain ⟨db, edb⟩ : ∃ b, b = w4.heap.size := ⟨_, rfl⟩
  rw [← edb] at q5 ⊢
  have EDB := Lib.hid edb
  have Q5 := Lib.hid q5
  have HDB : Hid (db < w5.heap.size) := Lib.hid (World.block_lt_of_cell? _ _ q5.1)
  obtain ⟨d0, d1, d2, d3⟩ := q5
  have hf5 : Fr [] w w5 := hf4.trans f5 (by simp)
  clear edb t2 t3 hf4
  go_wp2_with fail
  have f6 : Fr [] w5 (w5.alloc (.cells #[.int .i64 (fields.length : Int), .slice none 0 0, .slice none 0 0, .slice none 0 0] 26)) := (Fr.refl [] w5).alloc _
  have q6 : (w5.alloc (.cells #[.int .i64 (fields.length : Int), .slice none 0 0, .slice none 0 0, .slice none 0 0] 26)).heap[w5.heap.size]? = some (.cells #[.int .i64 (fields.length : Int), .slice none 0 0, .slice none 0 0, .slice none 0 0] 26 (0, 0)) := heap_new rfl
  generalize w5.alloc (.cells #[.int .i64 (fields.length : Int), .slice none 0 0, .slice none 0 0, .slice none 0 0] 26) = w6 at f6 q6 ⊢
  obtain ⟨lb, elb⟩ : ∃ b, b = w5.heap.size := ⟨_, rfl⟩
  rw [← elb] at q6 ⊢
  have ELB := Lib.hid elb
  have HI0 : Hid (LsI w6 w6 lb (fields.length : Int) (.slice none 0 0) (.slice none 0 0) (.slice none 0 0) [] [] []) := Lib.hid ⟨lt_of_block q6, q6, ⟨rfl, Or.inl ⟨rfl, rfl⟩⟩, ⟨rfl, Or.inl ⟨rfl, rfl⟩⟩, OwnV.nil, .nil, .nil, .nil, .refl _ _⟩
  have hf6 : Fr [] w w6 := hf5.trans f6 (by simp)
  have F56 := Lib.hid f6
  have HWL : Hid (w.heap.size ≤ w5.heap.size) := Lib.hid hf5.size
  have F46 := Lib.hid (f5.trans f6 (by simp))
  have H6 := Lib.hid hf6
  clear elb q6 f6 f5 d0 d1 d2 d3 hf5
  go_loopg [14] (L.length + 1) (fun gh i wr => ∃ (k : Nat) (cv fv pv : Value) (us : List Value), k ≤ L.length ∧ gh = L.length + 1 - k ∧ i = .int .i64 (k : Int) ∧
    LsI w6 wr lb (fields.length : Int) cv fv pv ((lessN k drop).map fun j => L.getD j 0) ((lessN k drop).map fun j => fields.getD (L.getD j 0).toNat []) us ∧
    us.length = (lessN k drop).length ∧ (∀ i, i < us.length → Strs w4 (us.getD i (.slice none 0 0)) (pathF fields s (L.getD ((lessN k drop).getD i 0) 0))))
  case atStart => exact ⟨0, _, _, _, [], by omega, by omega, rfl, HI0.out, rfl, fun i hi => absurd hi (Nat.not_lt_zero _)⟩
  case round =>
    clear HI0 hf6
    obtain ⟨k, cv, fv, pv, us, hk, hgh, rfl, hinv, hul, hus⟩ := hrel
    have HG := Lib.hid hgh
    have HI := Lib.hid hinv
    have HUL := Lib.hid hul
    have HUS := Lib.hid hus
    have hfr := hinv.fr
    clear hgh hinv hul hus
    have hlb6 := HI.out.hlb
    have hdl : db ≠ lb := by have := HDB.out; have := ELB.out; omega
    have g6 : Fr [] w5 wr := F56.out.trans hfr (fun y hy => Or.inr (by simp at hy; have := ELB.out; omega))
    have g4 : Fr [] w4 wr := F46.out.trans hfr (fun y hy => Or.inr (by have h1 := ELB.out; have h2 := EDB.out; have h3 := HDB.out; simp at hy; omega))
    by_cases hlt : k < L.length
    · have t1 : decide ((k : Int) < (L.length : Int)) = true := by simp; omega
      have g0 : (0 : Int) ≤ (k : Int) := by omega
      have g1 : (k : Int) < (L.length : Int) := by omega
      obtain ⟨kb, ekb⟩ : ∃ kb, kb = keepB drop k := ⟨_, rfl⟩
      have HKB := Lib.hid ekb
      clear ekb
      go_upto_region 12 with (fail)
      go_cut [83] (fun s83 wx => s83 = .bool (!kb) ∧ wr = wx)
      case first =>
        by_cases hk0 : k = 0
        · obtain rfl : kb = true := by rw [HKB.out, hk0]; rfl
          have t2 : decide ((0 : Int) < (k : Int)) = false := by simp; omega
          have t2' : decide (0 < k) = false := by simp; omega
          go_wp2_with fail
          go_meet
          exact ⟨rfl, rfl⟩
        · have t2 : decide ((0 : Int) < (k : Int)) = true := by simp; omega
          have t2' : decide (0 < k) = true := by simp; omega
          by_cases hkd : k < drop.length
          · have t3 : decide ((k : Int) < (drop.length : Int)) = true := by simp; omega
            have t3' : decide (k < drop.length) = true := by simp; omega
            have g2 : (k : Int) < (drop.length : Int) := by omega
            obtain ⟨cb, co, rfl⟩ := hca k hkd
            have cc := (H6.out.trans hfr (fun y hy => Or.inr (by have h1 := ELB.out; have h2 := HWL.out; simp at hy; omega))).cell (HC.out.cell k hkd) (by simp)
            have e1 : kb = !drop.getD k false := by rw [HKB.out]; unfold keepB; rw [decide_eq_false hk0, Bool.false_or]
            cases hdk : drop.getD k false with
            | true =>
              rw [hdk] at cc e1
              obtain rfl : kb = false := e1
              go_wp2_with fail
              go_meet
              exact ⟨rfl, rfl⟩
            | false =>
              rw [hdk] at cc e1
              obtain rfl : kb = true := e1
              go_wp2_with fail
              go_meet
              exact ⟨rfl, rfl⟩
          · have t3 : decide ((k : Int) < (drop.length : Int)) = false := by simp; omega
            have t3' : decide (k < drop.length) = false := by simp; omega
            obtain rfl : kb = true := by rw [HKB.out]; unfold keepB; rw [List.getD_eq_getElem?_getD, List.getElem?_eq_none (by omega)]; simp
            go_wp2_with fail
            go_meet
            exact ⟨rfl, rfl⟩
      case rest =>
        obtain ⟨rfl, rfl⟩ := hcut
        cases kb with
        | false =>
          have HN := Lib.hid (lessN_no HKB.out.symm)
          go_wp2_with fail
          go_roundg (L.length + 1 - (k + 1))
          case measure => have := HG.out; omega
          case rel => exact ⟨k + 1, cv, fv, pv, us, by omega, rfl, by go_num, by rw [HN.out]; exact HI.out, by rw [HN.out]; exact HUL.out, by rw [HN.out]; exact HUS.out⟩
        | true =>
          obtain ⟨xb, xo, rfl⟩ := hla k hlt
          obtain ⟨fb, fo, rfl⟩ := hdfa k hlt
          obtain ⟨pb, po, rfl⟩ := hdpa k hlt
          have CL := Lib.hid (HZ4.out.cell k hlt)
          have CF := Lib.hid (HDF.out.cellN (by simp) k hlt)
          rw [map_getD' (fun i : Int => fields.getD i.toNat []) L k 0 [] hlt] at CF
          obtain ⟨u, hcu, hsu⟩ := HDP.out.cell k (by simpa using hlt)
          obtain ⟨ua, un, uc, rfl⟩ : ∃ a n c, u = .slice a n c := by rcases hsu with ⟨h, _⟩ | ⟨b, off, cap, h, _⟩ <;> exact ⟨_, _, _, h⟩
          rw [map_getD' (pathF fields s) L k 0 [] hlt] at hsu
          have CP := Lib.hid hcu
          have HSU := Lib.hid hsu
          have HUO : Hid ((Value.slice ua un uc).oneCell' = true) := Lib.hid rfl
          have HTC : Hid ((lessN (k + 1) drop).map (fun j => L.getD j 0) = (lessN k drop).map (fun j => L.getD j 0) ++ [L.getD k 0]) := Lib.hid (by rw [lessN_yes HKB.out.symm, List.map_append]; rfl)
          have HTF : Hid ((lessN (k + 1) drop).map (fun j => fields.getD (L.getD j 0).toNat []) = (lessN k drop).map (fun j => fields.getD (L.getD j 0).toNat []) ++ [fields.getD (L.getD k 0).toNat []]) := Lib.hid (by rw [lessN_yes HKB.out.symm, List.map_append]; rfl)
          have HUN : Hid ((us ++ [Value.slice ua un uc]).length = (lessN (k + 1) drop).length ∧ ∀ i, i < (us ++ [Value.slice ua un uc]).length → Strs w4 ((us ++ [Value.slice ua un uc]).getD i (.slice none 0 0)) (pathF fields s (L.getD ((lessN (k + 1) drop).getD i 0) 0))) := Lib.hid (by
            rw [lessN_yes HKB.out.symm]
            refine ⟨by simp [HUL.out], fun i hi => ?_⟩
            rw [List.length_append, List.length_singleton] at hi
            by_cases hiu : i < us.length
            · have h1 := HUS.out i hiu
              rw [show (us ++ [Value.slice ua un uc]).getD i (.slice none 0 0) = us.getD i (.slice none 0 0) by simp [List.getD_eq_getElem?_getD, List.getElem?_append_left hiu],
                show (lessN k drop ++ [k]).getD i 0 = (lessN k drop).getD i 0 by simp [List.getD_eq_getElem?_getD, List.getElem?_append_left (show i < (lessN k drop).length by rw [← HUL.out]; exact hiu)]]
              exact h1
            · obtain rfl : i = us.length := by omega
              rw [show (us ++ [Value.slice ua un uc]).getD us.length (.slice none 0 0) = .slice ua un uc by simp [List.getD_eq_getElem?_getD], show (lessN k drop ++ [k]).getD us.length 0 = k by rw [HUL.out]; simp [List.getD_eq_getElem?_getD]]
              exact hsu)
          generalize fields.getD (L.getD k 0).toNat [] = f at CF HTF
          generalize L.getD k 0 = z at CL HTC HSU
          have gw : Fr [] w wr := H6.out.trans hfr (fun y hy => Or.inr (by have h1 := ELB.out; have h2 := HWL.out; simp at hy; omega))
          have HUL0 := HUL
          clear hcu hsu g4 g6 hfr HUL HUS
          go_wp2_with fail
          have e0 : wr.cell? ⟨lb, 1, none⟩ = some cv := by rw [row_cell HI.out.blk 1]; rfl
          have ex : wr.cell? ⟨xb, xo + k, none⟩ = some (.int .i64 z) := (F46.out.trans HI.out.fr (fun y hy => Or.inr (by have h1 := ELB.out; have h2 := EDB.out; have h3 := HDB.out; simp at hy; omega))).cell CL.out (by simp)
          have hS0 : (fun W => W.cell? ⟨lb, 1, none⟩ = some cv ∧ W.cell? ⟨xb, xo + k, none⟩ = some (.int .i64 z)) wr.drew := ⟨e0, ex⟩
          refine region_held 9 (fun W => W.cell? ⟨lb, 1, none⟩ = some cv ∧ W.cell? ⟨xb, xo + k, none⟩ = some (.int .i64 z)) hmx ?_
          change Held _ _ _ _ _ _ 10 (Array.replicate 10 false) _ _
          refine hd_take 0 (v := .pointer (some ⟨lb, 1, none⟩)) rfl (by kernel_rfl) (by kernel_rfl) (by kernel_rfl) rfl hS0 (fun W' hS => by obtain ⟨h0, h1⟩ := hS; first | (go_simp; done) | (go_simp; intro hix; omega)) rfl ?_
          refine hd_take 2 (v := .slice (some ⟨xb, xo, none⟩) L.length lcap) rfl (by kernel_rfl) (by kernel_rfl) (by kernel_rfl) rfl hS0 (fun W' hS => by obtain ⟨h0, h1⟩ := hS; first | (go_simp; done) | (go_simp; intro hix; omega)) rfl ?_
          refine hd_take 3 (v := .int .i64 (k : Int)) rfl (by kernel_rfl) (by kernel_rfl) (by kernel_rfl) rfl hS0 (fun W' hS => by obtain ⟨h0, h1⟩ := hS; first | (go_simp; done) | (go_simp; intro hix; omega)) rfl ?_
          simp only [Act.put, List.setIfInBounds_toArray, List.set_cons_zero, List.set_cons_succ]
          refine hd_take 1 (v := cv) rfl (by kernel_rfl) (by kernel_rfl) (by kernel_rfl) rfl hS0 (fun W' hS => by obtain ⟨h0, h1⟩ := hS; first | (go_simp; done) | (go_simp; intro hix; omega)) rfl ?_
          refine hd_take 4 (v := .pointer (some ⟨xb, xo + k, none⟩)) rfl (by kernel_rfl) (by kernel_rfl) (by kernel_rfl) rfl hS0 (fun W' hS => by obtain ⟨h0, h1⟩ := hS; first | (go_simp; done) | (go_simp; intro hix; omega)) rfl ?_
          simp only [Act.put, List.setIfInBounds_toArray, List.set_cons_zero, List.set_cons_succ]
          refine hd_take 5 (v := .int .i64 z) rfl (by kernel_rfl) (by kernel_rfl) (by kernel_rfl) rfl hS0 (fun W' hS => by obtain ⟨h0, h1⟩ := hS; first | (go_simp; done) | (go_simp; intro hix; omega)) rfl ?_
          simp only [Act.put, List.setIfInBounds_toArray, List.set_cons_zero, List.set_cons_succ]
          refine hd_one 6 (by kernel_rfl) rfl (by kernel_rfl) rfl (fun K' hK => ?_)
          go_simp
          have y1 : Fr [] wr (wr.alloc (.cells #[.int .i64 z] 3)).drew := ((Fr.refl [] wr).alloc _).drew
          have q1 : (wr.alloc (.cells #[.int .i64 z] 3)).drew.heap[wr.heap.size]? = some (.cells #[.int .i64 z] 3 (0, 0)) := heap_drew (heap_new rfl)
          generalize (wr.alloc (.cells #[.int .i64 z] 3)).drew = w7 at y1 q1 ⊢
          have I7 := HI.out.step y1
          have gw7 : Fr [] w w7 := gw.trans y1 (by simp)
          refine hK.out _ _ (fun _ => ⟨y1.cell e0 (by simp), y1.cell ex (by simp)⟩) ?_
          clear hK K'
          refine hd_one 7 (by kernel_rfl) rfl (by kernel_rfl) rfl (fun K' hK => ?_)
          have hq0 : w7.cell? ⟨wr.heap.size, 0, none⟩ = some (.int .i64 z) := by rw [row_cell q1 0]; rfl
          refine wp_appZa (.tmp 85) (.tmp 90) (by rfl) w6.heap.size cv ((lessN k drop).map fun j => L.getD j 0) z _ 1 w (by rfl) (by rfl) hq0 ?_ gw7 H6.out.size (Nat.le_trans HI.out.fr.size y1.size) ?_ ?_
          · exact I7.c
          · have := lessN_len k drop; have := HLB.out; simp; omega
          rintro nv w8 ho8 _ hg8 hat8 ⟨gn, cn, rfl⟩
          simp only [List.length_map] at ho8 hat8
          have hnb : ∀ b, b < w6.heap.size → b ∉ cv.ownBlock.toList := fun b hb hm => by have := (ownBlock_cells HI.out.c b (by simpa using hm)).1; omega
          have blk8 := hg8.at I7.blk (hnb lb hlb6)
          have e1 : w8.cell? ⟨lb, 1, none⟩ = some cv := by rw [row_cell blk8 1]; rfl
          have e2 := row_free blk8 1
          have ex8 := hg8.cell (y1.cell ex (by simp)) (hnb xb (by have := World.block_lt_of_cell? _ _ CL.out; have := F46.out.size; simp only at *; omega))
          refine hK.out _ _ (fun _ => ⟨e1, ex8⟩) ?_
          clear hK K'
          simp only [Act.put, List.setIfInBounds_toArray, List.set_cons_zero, List.set_cons_succ]
          refine hd_one 8 (by kernel_rfl) rfl (by kernel_rfl) rfl (fun K' hK => ?_)
          go_simp
          refine hK.out _ _ (fun _ => ⟨e1, ex8⟩) ?_
          clear hK K'
          refine hd_one 9 (by kernel_rfl) rfl (by kernel_rfl) rfl (fun K' hK => ?_)
          go_simp
          refine hK.out _ _ (fun h => absurd rfl h) ?_
          clear hK K'
          refine held_done (by kernel_rfl) ?_
          have I9 := I7.setC ho8 hg8 hat8
          rw [← HTC.out] at I9
          generalize w8.setCell ⟨lb, 1, none⟩ _ = wa at I9 ⊢
          have HI1 := Lib.hid I9
          have g1w : Fr [] w wa := H6.out.trans I9.fr (fun y hy => Or.inr (by have h1 := ELB.out; have h2 := HWL.out; simp at hy; omega))
          clear I9 blk8 e1 e2 ho8 hg8 hat8 q1 hq0 y1 I7 gw7 hS0 e0 ex ex8 hnb
          go_wp2_with fail
          have e0 : wa.cell? ⟨lb, 2, none⟩ = some fv := by rw [row_cell HI1.out.blk 2]; rfl
          have ed : wa.cell? ⟨db, 2, none⟩ = some (.slice (some ⟨fb, fo, none⟩) L.length dfc) := by have hq := Q5.out.fr (F56.out.trans HI1.out.fr (fun y hy => Or.inr (by simp at hy; have := ELB.out; omega))) (by simp); exact hq.2.2.1
          have ex : wa.cell? ⟨fb, fo + k, none⟩ = some (.string ⟨f.toArray⟩) := (F46.out.trans HI1.out.fr (fun y hy => Or.inr (by have h1 := ELB.out; have h2 := EDB.out; have h3 := HDB.out; simp at hy; omega))).cell CF.out (by simp)
          have hS0 : (fun W => W.cell? ⟨lb, 2, none⟩ = some fv ∧ W.cell? ⟨db, 2, none⟩ = some (.slice (some ⟨fb, fo, none⟩) L.length dfc) ∧ W.cell? ⟨fb, fo + k, none⟩ = some (.string ⟨f.toArray⟩)) wa.drew := ⟨e0, ed, ex⟩
          refine region_held 10 (fun W => W.cell? ⟨lb, 2, none⟩ = some fv ∧ W.cell? ⟨db, 2, none⟩ = some (.slice (some ⟨fb, fo, none⟩) L.length dfc) ∧ W.cell? ⟨fb, fo + k, none⟩ = some (.string ⟨f.toArray⟩)) hmx ?_
          change Held _ _ _ _ _ _ 11 (Array.replicate 11 false) _ _
          refine hd_take 0 (v := .pointer (some ⟨lb, 2, none⟩)) rfl (by kernel_rfl) (by kernel_rfl) (by kernel_rfl) rfl hS0 (fun W' hS => by obtain ⟨h0, h1, h2⟩ := hS; first | (go_simp; done) | (go_simp; intro hix; omega)) rfl ?_
          refine hd_take 2 (v := .pointer (some ⟨db, 2, none⟩)) rfl (by kernel_rfl) (by kernel_rfl) (by kernel_rfl) rfl hS0 (fun W' hS => by obtain ⟨h0, h1, h2⟩ := hS; first | (go_simp; done) | (go_simp; intro hix; omega)) rfl ?_
          refine hd_take 4 (v := .int .i64 (k : Int)) rfl (by kernel_rfl) (by kernel_rfl) (by kernel_rfl) rfl hS0 (fun W' hS => by obtain ⟨h0, h1, h2⟩ := hS; first | (go_simp; done) | (go_simp; intro hix; omega)) rfl ?_
          simp only [Act.put, List.setIfInBounds_toArray, List.set_cons_zero, List.set_cons_succ]
          refine hd_take 1 (v := fv) rfl (by kernel_rfl) (by kernel_rfl) (by kernel_rfl) rfl hS0 (fun W' hS => by obtain ⟨h0, h1, h2⟩ := hS; first | (go_simp; done) | (go_simp; intro hix; omega)) rfl ?_
          refine hd_take 3 (v := .slice (some ⟨fb, fo, none⟩) L.length dfc) rfl (by kernel_rfl) (by kernel_rfl) (by kernel_rfl) rfl hS0 (fun W' hS => by obtain ⟨h0, h1, h2⟩ := hS; first | (go_simp; done) | (go_simp; intro hix; omega)) rfl ?_
          simp only [Act.put, List.setIfInBounds_toArray, List.set_cons_zero, List.set_cons_succ]
          refine hd_take 5 (v := .pointer (some ⟨fb, fo + k, none⟩)) rfl (by kernel_rfl) (by kernel_rfl) (by kernel_rfl) rfl hS0 (fun W' hS => by obtain ⟨h0, h1, h2⟩ := hS; first | (go_simp; done) | (go_simp; intro hix; omega)) rfl ?_
          simp only [Act.put, List.setIfInBounds_toArray, List.set_cons_zero, List.set_cons_succ]
          refine hd_take 6 (v := .string ⟨f.toArray⟩) rfl (by kernel_rfl) (by kernel_rfl) (by kernel_rfl) rfl hS0 (fun W' hS => by obtain ⟨h0, h1, h2⟩ := hS; first | (go_simp; done) | (go_simp; intro hix; omega)) rfl ?_
          simp only [Act.put, List.setIfInBounds_toArray, List.set_cons_zero, List.set_cons_succ]
          refine hd_one 7 (by kernel_rfl) rfl (by kernel_rfl) rfl (fun K' hK => ?_)
          go_simp
          have y1 : Fr [] wa (wa.alloc (.cells #[.string ⟨f.toArray⟩] 9)).drew := ((Fr.refl [] wa).alloc _).drew
          have q1 : (wa.alloc (.cells #[.string ⟨f.toArray⟩] 9)).drew.heap[wa.heap.size]? = some (.cells #[.string ⟨f.toArray⟩] 9 (0, 0)) := heap_drew (heap_new rfl)
          generalize (wa.alloc (.cells #[.string ⟨f.toArray⟩] 9)).drew = w7 at y1 q1 ⊢
          have I7 := HI1.out.step y1
          have gw7 : Fr [] w w7 := g1w.trans y1 (by simp)
          refine hK.out _ _ (fun _ => ⟨y1.cell e0 (by simp), y1.cell ed (by simp), y1.cell ex (by simp)⟩) ?_
          clear hK K'
          refine hd_one 8 (by kernel_rfl) rfl (by kernel_rfl) rfl (fun K' hK => ?_)
          have hq0 : w7.cell? ⟨wa.heap.size, 0, none⟩ = some (.string ⟨f.toArray⟩) := by rw [row_cell q1 0]; rfl
          refine wp_appMa (.tmp 94) (.tmp 100) (by rfl) w6.heap.size fv ((lessN k drop).map fun j => fields.getD (L.getD j 0).toNat []) [f] _ 0 1 1 w (by rfl) (by rfl) (by simp) ?_ ?_ gw7 H6.out.size (Nat.le_trans HI1.out.fr.size y1.size) ?_ ?_
          · exact strs_one q1
          · exact I7.f
          · have := lessN_len k drop; have := HLB.out; simp; omega
          intro nv w8 ho8 _ hg8 hat8
          obtain ⟨gn, cn, rfl⟩ := ho8.slice (n := (lessN k drop).length + 1) (by simp) (by omega)
          have hnb : ∀ b, b < w6.heap.size → b ∉ fv.ownBlock.toList := fun b hb hm => by have := (ownBlock_cells HI1.out.f b (by simpa using hm)).1; omega
          have blk8 := hg8.at I7.blk (hnb lb hlb6)
          have e1 : w8.cell? ⟨lb, 2, none⟩ = some fv := by rw [row_cell blk8 2]; rfl
          have e2 := row_free blk8 2
          have ex8 := hg8.cell (y1.cell ex (by simp)) (hnb fb (by have := World.block_lt_of_cell? _ _ CF.out; have := F46.out.size; simp only at *; omega))
          have ed8 := hg8.cell (y1.cell ed (by simp)) (hnb db (by have := HDB.out; have := F56.out.size; omega))
          refine hK.out _ _ (fun _ => ⟨e1, ed8, ex8⟩) ?_
          clear hK K'
          simp only [Act.put, List.setIfInBounds_toArray, List.set_cons_zero, List.set_cons_succ]
          refine hd_one 9 (by kernel_rfl) rfl (by kernel_rfl) rfl (fun K' hK => ?_)
          go_simp
          refine hK.out _ _ (fun _ => ⟨e1, ed8, ex8⟩) ?_
          clear hK K'
          refine hd_one 10 (by kernel_rfl) rfl (by kernel_rfl) rfl (fun K' hK => ?_)
          go_simp
          refine hK.out _ _ (fun h => absurd rfl h) ?_
          clear hK K'
          refine held_done (by kernel_rfl) ?_
          have I9 := I7.setF ho8 hg8 hat8
          rw [← HTF.out] at I9
          generalize w8.setCell ⟨lb, 2, none⟩ _ = wb at I9 ⊢
          have HI2 := Lib.hid I9
          have g2w : Fr [] w wb := H6.out.trans I9.fr (fun y hy => Or.inr (by have h1 := ELB.out; have h2 := HWL.out; simp at hy; omega))
          clear I9 blk8 e1 e2 ho8 hg8 hat8 q1 hq0 y1 I7 gw7 hS0 e0 ed ed8 ex ex8 hnb
          go_wp2_with fail
          have e0 : wb.cell? ⟨lb, 3, none⟩ = some pv := by rw [row_cell HI2.out.blk 3]; rfl
          have ed : wb.cell? ⟨db, 3, none⟩ = some (.slice (some ⟨pb, po, none⟩) L.length dpc) := by have hq := Q5.out.fr (F56.out.trans HI2.out.fr (fun y hy => Or.inr (by simp at hy; have := ELB.out; omega))) (by simp); exact hq.2.2.2
          have ex : wb.cell? ⟨pb, po + k, none⟩ = some (.slice ua un uc) := (F46.out.trans HI2.out.fr (fun y hy => Or.inr (by have h1 := ELB.out; have h2 := EDB.out; have h3 := HDB.out; simp at hy; omega))).cell CP.out (by simp)
          have hS0 : (fun W => W.cell? ⟨lb, 3, none⟩ = some pv ∧ W.cell? ⟨db, 3, none⟩ = some (.slice (some ⟨pb, po, none⟩) L.length dpc) ∧ W.cell? ⟨pb, po + k, none⟩ = some (.slice ua un uc)) wb.drew := ⟨e0, ed, ex⟩
          refine region_held 10 (fun W => W.cell? ⟨lb, 3, none⟩ = some pv ∧ W.cell? ⟨db, 3, none⟩ = some (.slice (some ⟨pb, po, none⟩) L.length dpc) ∧ W.cell? ⟨pb, po + k, none⟩ = some (.slice ua un uc)) hmx ?_
          change Held _ _ _ _ _ _ 11 (Array.replicate 11 false) _ _
          refine hd_take 0 (v := .pointer (some ⟨lb, 3, none⟩)) rfl (by kernel_rfl) (by kernel_rfl) (by kernel_rfl) rfl hS0 (fun W' hS => by obtain ⟨h0, h1, h2⟩ := hS; first | (go_simp; done) | (go_simp; intro hix; omega)) rfl ?_
          refine hd_take 2 (v := .pointer (some ⟨db, 3, none⟩)) rfl (by kernel_rfl) (by kernel_rfl) (by kernel_rfl) rfl hS0 (fun W' hS => by obtain ⟨h0, h1, h2⟩ := hS; first | (go_simp; done) | (go_simp; intro hix; omega)) rfl ?_
          refine hd_take 4 (v := .int .i64 (k : Int)) rfl (by kernel_rfl) (by kernel_rfl) (by kernel_rfl) rfl hS0 (fun W' hS => by obtain ⟨h0, h1, h2⟩ := hS; first | (go_simp; done) | (go_simp; intro hix; omega)) rfl ?_
          simp only [Act.put, List.setIfInBounds_toArray, List.set_cons_zero, List.set_cons_succ]
          refine hd_take 1 (v := pv) rfl (by kernel_rfl) (by kernel_rfl) (by kernel_rfl) rfl hS0 (fun W' hS => by obtain ⟨h0, h1, h2⟩ := hS; first | (go_simp; done) | (go_simp; intro hix; omega)) rfl ?_
          refine hd_take 3 (v := .slice (some ⟨pb, po, none⟩) L.length dpc) rfl (by kernel_rfl) (by kernel_rfl) (by kernel_rfl) rfl hS0 (fun W' hS => by obtain ⟨h0, h1, h2⟩ := hS; first | (go_simp; done) | (go_simp; intro hix; omega)) rfl ?_
          simp only [Act.put, List.setIfInBounds_toArray, List.set_cons_zero, List.set_cons_succ]
          refine hd_take 5 (v := .pointer (some ⟨pb, po + k, none⟩)) rfl (by kernel_rfl) (by kernel_rfl) (by kernel_rfl) rfl hS0 (fun W' hS => by obtain ⟨h0, h1, h2⟩ := hS; first | (go_simp; done) | (go_simp; intro hix; omega)) rfl ?_
          simp only [Act.put, List.setIfInBounds_toArray, List.set_cons_zero, List.set_cons_succ]
          refine hd_take 6 (v := .slice ua un uc) rfl (by kernel_rfl) (by kernel_rfl) (by kernel_rfl) rfl hS0 (fun W' hS => by obtain ⟨h0, h1, h2⟩ := hS; first | (go_simp; done) | (go_simp; intro hix; omega)) rfl ?_
          simp only [Act.put, List.setIfInBounds_toArray, List.set_cons_zero, List.set_cons_succ]
          refine hd_one 7 (by kernel_rfl) rfl (by kernel_rfl) rfl (fun K' hK => ?_)
          go_simp
          have y1 : Fr [] wb (wb.alloc (.cells #[.slice ua un uc] 22)).drew := ((Fr.refl [] wb).alloc _).drew
          have q1 : (wb.alloc (.cells #[.slice ua un uc] 22)).drew.heap[wb.heap.size]? = some (.cells #[.slice ua un uc] 22 (0, 0)) := heap_drew (heap_new rfl)
          generalize (wb.alloc (.cells #[.slice ua un uc] 22)).drew = w7 at y1 q1 ⊢
          have I7 := HI2.out.step y1
          have gw7 : Fr [] w w7 := g2w.trans y1 (by simp)
          refine hK.out _ _ (fun _ => ⟨y1.cell e0 (by simp), y1.cell ed (by simp), y1.cell ex (by simp)⟩) ?_
          clear hK K'
          refine hd_one 8 (by kernel_rfl) rfl (by kernel_rfl) rfl (fun K' hK => ?_)
          have hq0 : w7.cell? ⟨wb.heap.size, 0, none⟩ = some (.slice ua un uc) := by rw [row_cell q1 0]; rfl
          refine wp_appV (.tmp 104) (.tmp 110) (by rfl) w6.heap.size pv (.slice ua un uc) us _ 0 1 w (by rfl) (by rfl) hq0 HUO.out ?_ gw7 H6.out.size (Nat.le_trans HI2.out.fr.size y1.size) ?_ ?_
          · exact I7.p
          · have := lessN_len k drop; have := HLB.out; have := HUL0.out; omega
          rintro nv w8 ho8 _ hg8 hat8 ⟨gn, cn, rfl⟩
          have hnb : ∀ b, b < w6.heap.size → b ∉ pv.ownBlock.toList := fun b hb hm => by have := (ownBlock_cells HI2.out.p b (by simpa using hm)).1; omega
          have blk8 := hg8.at I7.blk (hnb lb hlb6)
          have e1 : w8.cell? ⟨lb, 3, none⟩ = some pv := by rw [row_cell blk8 3]; rfl
          have e2 := row_free blk8 3
          have ex8 := hg8.cell (y1.cell ex (by simp)) (hnb pb (by have := World.block_lt_of_cell? _ _ CP.out; have := F46.out.size; simp only at *; omega))
          have ed8 := hg8.cell (y1.cell ed (by simp)) (hnb db (by have := HDB.out; have := F56.out.size; omega))
          refine hK.out _ _ (fun _ => ⟨e1, ed8, ex8⟩) ?_
          clear hK K'
          simp only [Act.put, List.setIfInBounds_toArray, List.set_cons_zero, List.set_cons_succ]
          refine hd_one 9 (by kernel_rfl) rfl (by kernel_rfl) rfl (fun K' hK => ?_)
          go_simp
          refine hK.out _ _ (fun _ => ⟨e1, ed8, ex8⟩) ?_
          clear hK K'
          refine hd_one 10 (by kernel_rfl) rfl (by kernel_rfl) rfl (fun K' hK => ?_)
          go_simp
          refine hK.out _ _ (fun h => absurd rfl h) ?_
          clear hK K'
          refine held_done (by kernel_rfl) ?_
          have I9 := I7.setP ho8 hg8 hat8
          generalize w8.setCell ⟨lb, 3, none⟩ _ = wc at I9 ⊢
          have HI3 := Lib.hid I9
          have g3w : Fr [] w wc := H6.out.trans I9.fr (fun y hy => Or.inr (by have h1 := ELB.out; have h2 := HWL.out; simp at hy; omega))
          clear I9 blk8 e1 e2 ho8 hg8 hat8 q1 hq0 y1 I7 gw7 hS0 e0 ed ed8 ex ex8 hnb
          go_wp2_with fail
          go_roundg (L.length + 1 - (k + 1))
          case measure => have := HG.out; omega
          case rel => exact ⟨k + 1, _, _, _, _, by omega, rfl, by go_num, HI3.out, HUN.out.1, HUN.out.2⟩
    · obtain rfl : k = L.length := by omega
      have t1 : decide ((L.length : Int) < (L.length : Int)) = false := by simp
      have c1 : wr.cell? ⟨lb, 1, none⟩ = some cv := by rw [row_cell HI.out.blk 1]; rfl
      have gw : Fr [] w wr := H6.out.trans hfr (fun y hy => Or.inr (by have h1 := ELB.out; have h2 := HWL.out; simp at hy; omega))
      have HLD : Hid (DiscR wr (.agg #[.int .i64 (fields.length : Int), cv, fv, pv]) (lessD fields s L drop L.length)) := Lib.hid ⟨cv, fv, pv, rfl, HI.out.c.zs, HI.out.f.strs, HI.out.p.ss (l := (lessN L.length drop).map fun j => pathF fields s (L.getD j 0)) (by rw [List.length_map]; exact HUL.out) (fun i hi => by
        rw [List.length_map] at hi
        rw [map_getD' (fun j => pathF fields s (L.getD j 0)) (lessN L.length drop) i 0 [] hi]
        exact (HUS.out i (by rw [HUL.out]; exact hi)).fr0 g4)⟩
      have HIC := Lib.hid (inc_lessD drop HINC.out)
      have HSHOW : Hid (showD fields s ((lessN L.length drop).map fun j => L.getD j 0) = lessD fields s L drop L.length) := Lib.hid (less_show HINC.out)
      have HCK : Hid (chkD (sealS fields s) (lessD fields s L drop L.length) = true) := Lib.hid (by rw [← HSHOW.out]; exact chk_show HIC.out)
      have HDS : Hid (DSmall (lessD fields s L drop L.length)) := Lib.hid ⟨by show -9223372036854775808 ≤ (fields.length : Int) ∧ (fields.length : Int) < 9223372036854775808; have := HSH.out.2; omega, fun x hx => by
          obtain ⟨j, _, rfl⟩ := List.mem_map.1 hx
          have := getD_short (i := (L.getD j 0).toNat) HSH.out.1
          omega, fun l hl x hx => by
          obtain ⟨j, _, rfl⟩ := List.mem_map.1 hl
          have := isD_l16 (pathF_isD fields s (L.getD j 0) x hx)
          omega⟩
      go_wp2_with fail
      refine (show_any _ cv fields s ((lessN L.length drop).map fun j => L.getD j 0) wr (HV.out.fr0 gw) HI.out.c.zs (by have := HSH.out.2; omega) (by omega) (fun f hf => by have := HSH.out.1 f hf; omega) (HT.out.fr gw)).mono ?_
      rintro e w7 ⟨ov, rfl, hd2, hb7⟩
      have f7 : Fr [] wr w7 := Fr.ofBelow hb7
      rw [HSHOW.out] at hd2
      rw [showE_ok HIC.out]
      generalize lessD fields s L drop L.length = ld at hd2 HLD HCK HDS
      obtain ⟨ow, og, op, rfl, how, hog, hop⟩ := hd2
      have hcn : ld.count = ld.count := rfl
      obtain ⟨owa, own, owc, rfl⟩ : ∃ a n c, ow = .slice a n c := by rcases how with ⟨h, _⟩ | ⟨b, off, cap, h, _⟩ <;> exact ⟨_, _, _, h⟩
      obtain ⟨oga, ogn, ogc, rfl⟩ : ∃ a n c, og = .slice a n c := by rcases hog with ⟨h, _⟩ | ⟨b, off, cap, h, _⟩ <;> exact ⟨_, _, _, h⟩
      obtain ⟨opa, opn, opc, rfl⟩ : ∃ a n c, op = .slice a n c := by rcases hop with ⟨h, _⟩ | ⟨b, off, cap, h, _⟩ <;> exact ⟨_, _, _, h⟩
      have HOD : Hid (DiscR w7 (.agg #[.int .i64 ld.count, .slice owa own owc, .slice oga ogn ogc, .slice opa opn opc]) ld) := Lib.hid ⟨_, _, _, rfl, how, hog, hop⟩
      clear how hog hop hcn hb7 c1 t1
      go_upto_region 17 with (fail)
      have f8 : Fr [] w7 (w7.alloc (.cells #[.int .i64 ld.count, .slice owa own owc, .slice oga ogn ogc, .slice opa opn opc] 26)) := (Fr.refl [] w7).alloc _
      have q8 : DAt w7.heap.size (.int .i64 ld.count) (.slice owa own owc) (.slice oga ogn ogc) (.slice opa opn opc) (w7.alloc (.cells #[.int .i64 ld.count, .slice owa own owc, .slice oga ogn ogc, .slice opa opn opc] 26)) := DAt.of (heap_new rfl)
      generalize w7.alloc (.cells #[.int .i64 ld.count, .slice owa own owc, .slice oga ogn ogc, .slice opa opn opc] 26) = w8 at f8 q8 ⊢
      obtain ⟨ob, eob⟩ : ∃ b, b = w7.heap.size := ⟨_, rfl⟩
      rw [← eob] at q8 ⊢
      have EOB := Lib.hid eob
      obtain ⟨o0, o1, o2, o3⟩ := q8
      have fr8 : Fr [] wr w8 := f7.trans f8 (by simp)
      obtain ⟨l0, l1, l2, l3⟩ := (DAt.of HI.out.blk).fr fr8 (by simp)
      have gw8 : Fr [] w w8 := gw.trans fr8 (by simp)
      obtain ⟨root, er⟩ : ∃ r, r = sealS fields s := ⟨_, rfl⟩
      have HSM : Hid (∀ W, Fr [] w8 W → Calls Tryd.prog 23 #[.agg #[.int .i64 ld.count, .slice owa own owc, .slice oga ogn ogc, .slice opa opn opc], .agg #[.int .i64 (fields.length : Int), cv, fv, pv]] W fun e w' => e = .returned (.bool true) ∧ Below W.heap.size W w') := Lib.hid (fun W hW => by
        have h := rsame31_any _ _ ld ld W (HOD.out.fr (f8.trans hW (by simp))) (HLD.out.fr (fr8.trans hW (by simp)))
        rwa [show sameD ld ld = true from decide_eq_true ⟨rfl, rfl, rfl, rfl⟩] at h)
      have HSE : Hid (∀ W, Fr [] w8 W → Calls Tryd.prog 21 #[.slice fa fields.length fcap, .string ⟨s.toArray⟩] W fun e w' => e = .returned (.string ⟨root.toArray⟩) ∧ Below W.heap.size W w') := Lib.hid (fun W hW => by
        rw [er]
        exact seal_any _ fields s W (HV.out.fr0 (gw8.trans hW (by simp))) (by have := HSH.out.2; omega) (by omega) (fun f hf => by have := HSH.out.1 f hf; omega) (HT.out.fr (gw8.trans hW (by simp))))
      have HCH : Hid (∀ W, Fr [] w8 W → Calls Tryd.prog 24 #[.string ⟨root.toArray⟩, .agg #[.int .i64 (fields.length : Int), cv, fv, pv]] W fun e w' => e = .returned (.bool true) ∧ Below W.heap.size W w') := Lib.hid (fun W hW => by
        have h := checkD_any root _ ld W (HLD.out.fr (fr8.trans hW (by simp))) HDS.out (HT.out.fr (gw8.trans hW (by simp)))
        have hck : chkD root ld = true := by rw [er]; exact HCK.out
        rwa [hck] at h)
      have hd : Fr [] w8 w8.drew := (Fr.refl [] w8).drew
      clear er eob f8
      go_region_held3 (fun W => W.cell? ⟨ob, 0, none⟩ = some (.int .i64 ld.count) ∧ W.cell? ⟨ob, 1, none⟩ = some (.slice owa own owc) ∧ W.cell? ⟨ob, 2, none⟩ = some (.slice oga ogn ogc) ∧ W.cell? ⟨ob, 3, none⟩ = some (.slice opa opn opc) ∧ W.cell? ⟨lb, 0, none⟩ = some (.int .i64 (fields.length : Int)) ∧ W.cell? ⟨lb, 1, none⟩ = some cv ∧ W.cell? ⟨lb, 2, none⟩ = some fv ∧ W.cell? ⟨lb, 3, none⟩ = some pv)
        (with_reducible (first
          | exact ⟨hF3.cell o0 (by simp), hF3.cell o1 (by simp), hF3.cell o2 (by simp), hF3.cell o3 (by simp), hF3.cell l0 (by simp), hF3.cell l1 (by simp), hF3.cell l2 (by simp), hF3.cell l3 (by simp)⟩
          | exact ⟨hF2.cell o0 (by simp), hF2.cell o1 (by simp), hF2.cell o2 (by simp), hF2.cell o3 (by simp), hF2.cell l0 (by simp), hF2.cell l1 (by simp), hF2.cell l2 (by simp), hF2.cell l3 (by simp)⟩
          | exact ⟨hF1.cell o0 (by simp), hF1.cell o1 (by simp), hF1.cell o2 (by simp), hF1.cell o3 (by simp), hF1.cell l0 (by simp), hF1.cell l1 (by simp), hF1.cell l2 (by simp), hF1.cell l3 (by simp)⟩
          | exact ⟨hd.cell o0 (by simp), hd.cell o1 (by simp), hd.cell o2 (by simp), hd.cell o3 (by simp), hd.cell l0 (by simp), hd.cell l1 (by simp), hd.cell l2 (by simp), hd.cell l3 (by simp)⟩))
        ((first
          | ((with_reducible refine (HSM.out _ hd).mono ?_)
             rintro e W1 ⟨rfl, hb1⟩
             have hF1 : Fr [] w8 W1 := hd.below hb1 hd.size)
          | ((with_reducible refine (HSE.out _ hF1).mono ?_)
             rintro e W2 ⟨rfl, hb2⟩
             have hF2 : Fr [] w8 W2 := hF1.below hb2 hF1.size)
          | ((with_reducible refine (HCH.out _ hF2).mono ?_)
             rintro e W3 ⟨rfl, hb3⟩
             have hF3 : Fr [] w8 W3 := hF2.below hb3 hF2.size)))
      go_wp2_with fail
      go_ret
      exact ⟨rfl, (gw8.trans hF3 (by simp)).toBelow (by simp)⟩
end Go.Proofs.YtmhejcndkplepaaDoor
