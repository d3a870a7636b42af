/-
  foyerref30.Parse.
-/
import Derived.Test.YtcblpfepkkkilaaGreatDoorTtK
import Derived.Test.YtcblpfepkkkilaaGreatDoorRtX
import Derived.Test.YtcblpfepkkkilaaGreatDoorRtW
import Derived.Test.YtcblpfepkkkilaaGreatDoorRtN
namespace Go.Proofs.YtcblpfepkkkilaaGreatDoor
open Go.RowKit

/-- A part of a slice of strings. -/
theorem Strs.part {w : World} {g off n cap : Nat} {l : List (List UInt8)} (h : Strs w (.slice (some ⟨g, off, none⟩) n cap) l) (i k : Nat) (hi : i + k ≤ l.length) (hk : 0 < k) :
    Strs w (.slice (some ⟨g, off + i, none⟩) k (cap - i)) ((l.drop i).take k) := by
  rcases h with ⟨h, _⟩ | ⟨b', off', cap', hv, h1, h2, h3, h4⟩
  · cases h
  · cases hv
    have hl : ((l.drop i).take k).length = k := by rw [List.length_take, List.length_drop]; omega
    refine Or.inr ⟨g, off + i, cap - i, by rw [hl], by rw [hl]; omega, by omega, h3, fun j hj => ?_⟩
    rw [hl] at hj
    have h5 := h4 (i + j) (by omega)
    rw [show off + i + j = off + (i + j) by omega, h5]
    simp [List.getD_eq_getElem?_getD, List.getElem?_drop, hj]
theorem drop_getD (l : List (List UInt8)) (a b : Nat) : (l.drop a).getD b [] = l.getD (a + b) [] := by
  simp [List.getD_eq_getElem?_getD, List.getElem?_drop]
/-- What the loop of Parse keeps. -/
structure RSt (W1 : World) (b5 gw : Nat) (n0 n1 n2 : Int) (fi : List UInt8) (ws : List (List UInt8)) (k : Nat) (cv : Value) (R : List Rtf) (W : World) : Prop where
  fr : Fr [] W1 W
  f : W.heap[b5]? = some (.cells #[.int .i64 n0, .int .i64 n1, .int .i64 n2, .string ⟨fi.toArray⟩, cv] 24 (0, 0))
  o : OwnT W1.heap.size W cv R
  s : SigsR W1 R
  m : R.map Prod.fst = grpT ws k
  b : ∀ q ∈ R, q.2.ownBlock = some gw
set_option maxRecDepth 100000 in
set_option maxHeartbeats 8000000 in
theorem rparse30_any (text : List UInt8) (w : World) (ht : text.length ≤ 10000) :
    Calls Tryz.prog 10 #[.string ⟨text.toArray⟩] w (TParsePost w text) := by
  have hmx : Tryz.prog.follows .mixedOrders = true := by kernel_rfl
  obtain ⟨W0, hW0⟩ : ∃ W0, W0 = w.alloc (.cells #[.int .i64 0, .int .i64 0, .int .i64 0, .string ⟨#[]⟩, .slice none 0 0] 24) := ⟨_, rfl⟩
  obtain ⟨p, ep⟩ : ∃ p, p = w.heap.size := ⟨_, rfl⟩
  have h0 : Fr [] w W0 := by rw [hW0]; exact (Fr.refl [] w).alloc _
  have hp0 : W0.heap[p]? = some (.cells #[.int .i64 0, .int .i64 0, .int .i64 0, .string ⟨#[]⟩, .slice none 0 0] 24 (0, 0)) := by rw [hW0, ep]; exact heap_new rfl
  go_enter Tryz.func10, Tryz.ntmps10
  go_wp2_with fail
  rw [← hW0, ← ep]
  have EP := Lib.hid ep
  clear hW0 ep
  refine (rwords30_any text W0 (by omega)).mono ?_
  rintro e w1 ⟨v, rfl, hos, hb⟩
  have f1 : Fr [] W0 w1 := Fr.ofBelow hb
  have h1 := h0.trans f1 (by simp)
  have hp1 := f1.at hp0 (by simp)
  obtain ⟨ws, ews⟩ : ∃ ws, ws = splitS text := ⟨_, rfl⟩
  rw [← ews] at hos
  have HWS := Lib.hid ews
  have hwl : ws.length ≤ 10001 := by rw [ews]; have := splitS_len text; omega
  have HW2 : Hid (∀ s ∈ ws, s.length ≤ 100000) := Lib.hid (by rw [ews]; exact fun s hs => Nat.le_trans (splitS_short text s hs) (Nat.le_trans ht (by decide)))
  have hst := hos.strs
  have hpW : p < W0.heap.size := lt_of_block hp0
  have hog : ∀ x, v.ownBlock = some x → p < x := fun x hx => Nat.lt_of_lt_of_le hpW (ownBlock_cells hos x hx).1
  obtain ⟨a, cap, rfl, hlc, ha⟩ := hst.form
  have HST := Lib.hid hst
  clear ews hos hst hb hp0 h0 f1 hpW
  obtain ⟨n, en⟩ : ∃ n, n = ws.length := ⟨_, rfl⟩
  rw [← en] at HST hlc ha hwl ⊢
  have HEN := Lib.hid en
  clear en
  by_cases h4 : n < 4
  · have t1 : decide ((n : Int) < 4) = true := by simp; omega
    have HN4 := Lib.hid h4
    clear h4
    have HPA : Hid (ParsedT text none) := Lib.hid (fun g => ⟨(fun h => by cases h), (fun h => by
      obtain ⟨a, b, c, d, wsx, hs, _⟩ := grpT_text h
      have h5 := HWS.out
      rw [hs] at h5
      have h6 := HN4.out
      rw [HEN.out, h5] at h6
      simp only [List.length_cons] at h6
      omega)⟩)
    have HX := Lib.hid (h1.store5 p (by right; have := EP.out; omega) (.int .i64 0) (.int .i64 0) (.int .i64 0) (.string ⟨#[]⟩) (.slice none 0 0))
    have HRX := Lib.hid (row_set (row_set (row_set (row_set (row_set hp1 0 (.int .i64 0)) 1 (.int .i64 0)) 2 (.int .i64 0)) 3 (.string ⟨#[]⟩)) 4 (.slice none 0 0))
    have z0 := row_cell hp1 0
    have z1 := row_cell hp1 1
    have z2 := row_cell hp1 2
    have z3 := row_cell hp1 3
    have z4 := row_cell hp1 4
    simp at z0 z1 z2 z3 z4
    have y0 := row_free hp1 0
    have y1 := row_free hp1 1
    have y2 := row_free hp1 2
    have y3 := row_free hp1 3
    have y4 := row_free hp1 4
    clear hp1
    go_wp2_with fail
    have x0 := row_cell HRX.out 0
    have x1 := row_cell HRX.out 1
    have x2 := row_cell HRX.out 2
    have x3 := row_cell HRX.out 3
    have x4 := row_cell HRX.out 4
    simp at x0 x1 x2 x3 x4
    refine bodyPost_ret (v := .tuple #[zeroTV, .int .i64 4]) ?_ rfl ⟨none, HPA.out, zeroTV, rfl, zeroT_reads _, HX.out.toBelow (by simp)⟩
    unfold zeroTV
    rw [results_cell_tmp rfl]
    go_simp
  have t1 : decide ((n : Int) < 4) = false := by simp; omega
  obtain ⟨m, em⟩ : ∃ m, n = m + 4 := ⟨n - 4, by omega⟩
  have hw4 : IntKind.i64.wrap ((n : Int) - 4) = (m : Int) := by rw [IntWalk.i64_in _ (by omega)]; omega
  obtain ⟨r, hr⟩ : ∃ r, r = m % 19 := ⟨_, rfl⟩
  have hmod : (m : Int).tmod 19 = (r : Int) := by rw [Int.tmod_eq_emod_of_nonneg (by omega)]; omega
  have HM := Lib.hid em
  have HR := Lib.hid hr
  clear em hr
  by_cases hr0 : r = 0
  case neg =>
    have t2 : ((r : Int) != 0) = true := by rw [bne_iff_ne]; omega
    have HNR := Lib.hid hr0
    clear hr0
    have HPA : Hid (ParsedT text none) := Lib.hid (fun g => ⟨(fun h => by cases h), (fun h => by
      obtain ⟨a, b, c, d, wsx, hs, _, _, _, _, hx, _⟩ := grpT_text h
      have h5 := HWS.out
      rw [hs] at h5
      have h6 := HM.out
      rw [HEN.out, h5] at h6
      simp only [List.length_cons, hx] at h6
      have h7 := HNR.out
      have h8 := HR.out
      omega)⟩)
    have HX := Lib.hid (h1.store5 p (by right; have := EP.out; omega) (.int .i64 0) (.int .i64 0) (.int .i64 0) (.string ⟨#[]⟩) (.slice none 0 0))
    have HRX := Lib.hid (row_set (row_set (row_set (row_set (row_set hp1 0 (.int .i64 0)) 1 (.int .i64 0)) 2 (.int .i64 0)) 3 (.string ⟨#[]⟩)) 4 (.slice none 0 0))
    have z0 := row_cell hp1 0
    have z1 := row_cell hp1 1
    have z2 := row_cell hp1 2
    have z3 := row_cell hp1 3
    have z4 := row_cell hp1 4
    simp at z0 z1 z2 z3 z4
    have y0 := row_free hp1 0
    have y1 := row_free hp1 1
    have y2 := row_free hp1 2
    have y3 := row_free hp1 3
    have y4 := row_free hp1 4
    clear hp1
    go_wp2_with fail
    have x0 := row_cell HRX.out 0
    have x1 := row_cell HRX.out 1
    have x2 := row_cell HRX.out 2
    have x3 := row_cell HRX.out 3
    have x4 := row_cell HRX.out 4
    simp at x0 x1 x2 x3 x4
    refine bodyPost_ret (v := .tuple #[zeroTV, .int .i64 4]) ?_ rfl ⟨none, HPA.out, zeroTV, rfl, zeroT_reads _, HX.out.toBelow (by simp)⟩
    unfold zeroTV
    rw [results_cell_tmp rfl]
    go_simp
  have t2 : ((r : Int) != 0) = false := by simp [hr0]
  have HQ : Hid (m = 19 * (m / 19)) := Lib.hid (by have := HR.out; omega)
  have hm4 : 4 ≤ n := by omega
  clear hr0 h4
  obtain ⟨g, off, rfl⟩ := ha 0 (by omega)
  have HGP := Lib.hid (hog g rfl)
  clear ha hog
  have hcap : n ≤ cap := by
    rcases HST.out with ⟨h, _⟩ | ⟨b', o', c', hv, k1, k2, _, _⟩
    · cases h
    · simp only [Value.slice.injEq] at hv
      omega
  have HCAP := Lib.hid hcap
  clear hcap
  have hlt : ∀ i, i < n → i < ws.length := fun i hi => by have := HEN.out; omega
  obtain ⟨s0, e0⟩ : ∃ q, q = ws.getD 0 [] := ⟨_, rfl⟩
  obtain ⟨s1, e1⟩ : ∃ q, q = ws.getD 1 [] := ⟨_, rfl⟩
  obtain ⟨s2, e2⟩ : ∃ q, q = ws.getD 2 [] := ⟨_, rfl⟩
  obtain ⟨fi, e3⟩ : ∃ q, q = ws.getD 3 [] := ⟨_, rfl⟩
  have c0 := HST.out.cellN HEN.out.symm 0 (by omega)
  rw [Nat.add_zero] at c0
  have c1 := HST.out.cellN HEN.out.symm 1 (by omega)
  have c2 := HST.out.cellN HEN.out.symm 2 (by omega)
  have c3 := HST.out.cellN HEN.out.symm 3 (by omega)
  rw [← e0] at c0
  rw [← e1] at c1
  rw [← e2] at c2
  rw [← e3] at c3
  have hs0 : s0.length ≤ 100000 := by rw [e0]; exact HW2.out _ (getD_mem ws 0 [] (hlt 0 (by omega)))
  have hs1 : s1.length ≤ 100000 := by rw [e1]; exact HW2.out _ (getD_mem ws 1 [] (hlt 1 (by omega)))
  have hs2 : s2.length ≤ 100000 := by rw [e2]; exact HW2.out _ (getD_mem ws 2 [] (hlt 2 (by omega)))
  have HS3 : Hid (fi.length ≤ 100000) := Lib.hid (by rw [e3]; exact HW2.out _ (getD_mem ws 3 [] (hlt 3 (by omega))))
  have E0 := Lib.hid e0
  have E1 := Lib.hid e1
  have E2 := Lib.hid e2
  have E3 := Lib.hid e3
  clear e0 e1 e2 e3 hlt
  obtain ⟨n0, en0⟩ : ∃ q, q = numR s0 := ⟨_, rfl⟩
  obtain ⟨n1, en1⟩ : ∃ q, q = numR s1 := ⟨_, rfl⟩
  obtain ⟨n2, en2⟩ : ∃ q, q = numR s2 := ⟨_, rfl⟩
  have N0 := Lib.hid en0
  have N1 := Lib.hid en1
  have N2 := Lib.hid en2
  clear en0 en1 en2
  have i1 : (1 : Int) < (n : Int) := by omega
  have i2 : (2 : Int) < (n : Int) := by omega
  have i3 : (3 : Int) < (n : Int) := by omega
  have i0 : (0 : Int) < (n : Int) := by omega
  have hnz : n ≠ 0 := by omega
  have HZ1 := Lib.hid hp1
  have H1 := Lib.hid h1
  clear hp1 h1
  go_wp2_with fail
  refine Code.wp_mono (Q := OnlyNormal fun _ a' w' => ∃ (b5 : Nat), a' = { tmps := #[.string ⟨text.toArray⟩, undef, .pointer (some ⟨p, 0, none⟩), .int .i64 0, .slice (some ⟨g, off, none⟩) n cap, .pointer (some ⟨b5, 0, none⟩), undef, .string ⟨text.toArray⟩, .slice (some ⟨g, off, none⟩) n cap, .slice (some ⟨g, off, none⟩) n cap, .int .i64 (n : Int), .bool false, .bool false, .slice (some ⟨g, off, none⟩) n cap, .int .i64 (n : Int), .int .i64 (m : Int), .int .i64 (r : Int), .bool false, .bool false, undef, .slice (some ⟨g, off, none⟩) n cap, .pointer (some ⟨g, off, none⟩), .string ⟨s0.toArray⟩, .int .i64 n0, .slice (some ⟨g, off, none⟩) n cap, .pointer (some ⟨g, off + 1, none⟩), .string ⟨s1.toArray⟩, .int .i64 n1, .slice (some ⟨g, off, none⟩) n cap, .pointer (some ⟨g, off + 2, none⟩), .string ⟨s2.toArray⟩, .int .i64 n2, .slice (some ⟨g, off, none⟩) n cap, .pointer (some ⟨g, off + 3, none⟩), .string ⟨fi.toArray⟩, .agg #[.int .i64 n0, .int .i64 n1, .int .i64 n2, .string ⟨fi.toArray⟩, .slice none 0 0], undef, undef, undef, undef, undef, undef, undef, undef, undef, undef, undef, undef, undef, undef, undef, undef, undef, undef, undef, undef, undef, undef, undef, undef, undef, undef, undef, undef], defers := [] } ∧ w'.heap[b5]? = some (.cells #[.int .i64 n0, .int .i64 n1, .int .i64 n2, .string ⟨fi.toArray⟩, .slice none 0 0] 24 (0, 0)) ∧ Fr [] w1 w' ∧ w1.heap.size ≤ b5) ?rest ?region
  case region =>
    have g0 : Fr [] w1 w1.drew := (Fr.refl [] w1).drew
    have hS0 : w1.drew.cell? ⟨g, off, none⟩ = some (.string ⟨s0.toArray⟩) ∧ w1.drew.cell? ⟨g, off + 1, none⟩ = some (.string ⟨s1.toArray⟩) ∧ w1.drew.cell? ⟨g, off + 2, none⟩ = some (.string ⟨s2.toArray⟩) ∧ w1.drew.cell? ⟨g, off + 3, none⟩ = some (.string ⟨fi.toArray⟩) := ⟨g0.cell c0 (by simp), g0.cell c1 (by simp), g0.cell c2 (by simp), g0.cell c3 (by simp)⟩
    refine region_held 17 (fun W' => W'.cell? ⟨g, off, none⟩ = some (.string ⟨s0.toArray⟩) ∧ W'.cell? ⟨g, off + 1, none⟩ = some (.string ⟨s1.toArray⟩) ∧ W'.cell? ⟨g, off + 2, none⟩ = some (.string ⟨s2.toArray⟩) ∧ W'.cell? ⟨g, off + 3, none⟩ = some (.string ⟨fi.toArray⟩)) hmx ?_
    change Held _ _ _ _ _ _ 18 (Array.replicate 18 false) _ _
    refine hd_take 0 (v := .slice (some ⟨g, off, none⟩) n cap) rfl (by kernel_rfl) (by kernel_rfl) (by kernel_rfl) rfl hS0 (fun W' hS => by go_simp) rfl ?_
    refine hd_take 4 (v := .slice (some ⟨g, off, none⟩) n cap) rfl (by kernel_rfl) (by kernel_rfl) (by kernel_rfl) rfl hS0 (fun W' hS => by go_simp) rfl ?_
    refine hd_take 8 (v := .slice (some ⟨g, off, none⟩) n cap) rfl (by kernel_rfl) (by kernel_rfl) (by kernel_rfl) rfl hS0 (fun W' hS => by go_simp) rfl ?_
    refine hd_take 12 (v := .slice (some ⟨g, off, none⟩) n cap) rfl (by kernel_rfl) (by kernel_rfl) (by kernel_rfl) rfl hS0 (fun W' hS => by go_simp) rfl ?_
    try simp only [Act.put, List.setIfInBounds_toArray, List.set_cons_zero, List.set_cons_succ]
    refine hd_take 1 (v := .pointer (some ⟨g, off, none⟩)) rfl (by kernel_rfl) (by kernel_rfl) (by kernel_rfl) rfl hS0 (fun W' hS => by go_simp) rfl ?_
    refine hd_take 5 (v := .pointer (some ⟨g, off + 1, none⟩)) rfl (by kernel_rfl) (by kernel_rfl) (by kernel_rfl) rfl hS0 (fun W' hS => by go_simp) rfl ?_
    refine hd_take 9 (v := .pointer (some ⟨g, off + 2, none⟩)) rfl (by kernel_rfl) (by kernel_rfl) (by kernel_rfl) rfl hS0 (fun W' hS => by go_simp) rfl ?_
    refine hd_take 13 (v := .pointer (some ⟨g, off + 3, none⟩)) rfl (by kernel_rfl) (by kernel_rfl) (by kernel_rfl) rfl hS0 (fun W' hS => by go_simp) rfl ?_
    try simp only [Act.put, List.setIfInBounds_toArray, List.set_cons_zero, List.set_cons_succ]
    refine hd_take 2 (v := .string ⟨s0.toArray⟩) rfl (by kernel_rfl) (by kernel_rfl) (by kernel_rfl) rfl hS0 (fun W' hS => by obtain ⟨s0, s1, s2, s3⟩ := hS; go_simp) rfl ?_
    refine hd_take 6 (v := .string ⟨s1.toArray⟩) rfl (by kernel_rfl) (by kernel_rfl) (by kernel_rfl) rfl hS0 (fun W' hS => by obtain ⟨s0, s1, s2, s3⟩ := hS; go_simp) rfl ?_
    refine hd_take 10 (v := .string ⟨s2.toArray⟩) rfl (by kernel_rfl) (by kernel_rfl) (by kernel_rfl) rfl hS0 (fun W' hS => by obtain ⟨s0, s1, s2, s3⟩ := hS; go_simp) rfl ?_
    refine hd_take 14 (v := .string ⟨fi.toArray⟩) rfl (by kernel_rfl) (by kernel_rfl) (by kernel_rfl) rfl hS0 (fun W' hS => by obtain ⟨s0, s1, s2, s3⟩ := hS; go_simp) rfl ?_
    try simp only [Act.put, List.setIfInBounds_toArray, List.set_cons_zero, List.set_cons_succ]
    generalize w1.drew = Wd at g0 hS0 ⊢
    refine hd_two 3 16 (by kernel_rfl) rfl (by kernel_rfl) rfl rfl (by kernel_rfl) rfl (fun K' hK => ?_) (fun K' hK => ?_)
    · go_simp
      refine (rnumber30_any s0 _ hs0).mono ?_
      rintro e z0 ⟨rfl, rfl⟩
      rw [← N0.out]
      have hS1 : Wd.cell? ⟨g, off, none⟩ = some (.string ⟨s0.toArray⟩) ∧ Wd.cell? ⟨g, off + 1, none⟩ = some (.string ⟨s1.toArray⟩) ∧ Wd.cell? ⟨g, off + 2, none⟩ = some (.string ⟨s2.toArray⟩) ∧ Wd.cell? ⟨g, off + 3, none⟩ = some (.string ⟨fi.toArray⟩) := ⟨g0.cell c0 (by simp), g0.cell c1 (by simp), g0.cell c2 (by simp), g0.cell c3 (by simp)⟩
      refine hK.out _ _ (fun _ => hS1) ?_
      clear hK K'
      try simp only [Act.put, List.setIfInBounds_toArray, List.set_cons_zero, List.set_cons_succ]
      refine hd_two 7 16 (by kernel_rfl) rfl (by kernel_rfl) rfl rfl (by kernel_rfl) rfl (fun K' hK => ?_) (fun K' hK => ?_)
      · go_simp
        refine (rnumber30_any s1 _ hs1).mono ?_
        rintro e z1 ⟨rfl, rfl⟩
        rw [← N1.out]
        have hS2 : Wd.cell? ⟨g, off, none⟩ = some (.string ⟨s0.toArray⟩) ∧ Wd.cell? ⟨g, off + 1, none⟩ = some (.string ⟨s1.toArray⟩) ∧ Wd.cell? ⟨g, off + 2, none⟩ = some (.string ⟨s2.toArray⟩) ∧ Wd.cell? ⟨g, off + 3, none⟩ = some (.string ⟨fi.toArray⟩) := ⟨g0.cell c0 (by simp), g0.cell c1 (by simp), g0.cell c2 (by simp), g0.cell c3 (by simp)⟩
        refine hK.out _ _ (fun _ => hS2) ?_
        clear hK K'
        try simp only [Act.put, List.setIfInBounds_toArray, List.set_cons_zero, List.set_cons_succ]
        refine hd_two 11 16 (by kernel_rfl) rfl (by kernel_rfl) rfl rfl (by kernel_rfl) rfl (fun K' hK => ?_) (fun K' hK => ?_)
        · go_simp
          refine (rnumber30_any s2 _ hs2).mono ?_
          rintro e z2 ⟨rfl, rfl⟩
          rw [← N2.out]
          have hS3 : Wd.cell? ⟨g, off, none⟩ = some (.string ⟨s0.toArray⟩) ∧ Wd.cell? ⟨g, off + 1, none⟩ = some (.string ⟨s1.toArray⟩) ∧ Wd.cell? ⟨g, off + 2, none⟩ = some (.string ⟨s2.toArray⟩) ∧ Wd.cell? ⟨g, off + 3, none⟩ = some (.string ⟨fi.toArray⟩) := ⟨g0.cell c0 (by simp), g0.cell c1 (by simp), g0.cell c2 (by simp), g0.cell c3 (by simp)⟩
          refine hK.out _ _ (fun _ => hS3) ?_
          clear hK K'
          try simp only [Act.put, List.setIfInBounds_toArray, List.set_cons_zero, List.set_cons_succ]
          refine hd_take 15 (v := .agg #[.int .i64 n0, .int .i64 n1, .int .i64 n2, .string ⟨fi.toArray⟩, .slice none 0 0]) rfl (by kernel_rfl) (by kernel_rfl) (by kernel_rfl) rfl hS3 (fun W' hS => by go_simp) rfl ?_
          try simp only [Act.put, List.setIfInBounds_toArray, List.set_cons_zero, List.set_cons_succ]
          refine hd_one 16 (by kernel_rfl) rfl (by kernel_rfl) rfl (fun K' hK => ?_)
          go_simp
          have ga4 := g0.alloc (.cells #[.int .i64 0, .int .i64 0, .int .i64 0, .string ⟨#[]⟩, .slice none 0 0] 24)
          have hal : (Wd.alloc (.cells #[.int .i64 0, .int .i64 0, .int .i64 0, .string ⟨#[]⟩, .slice none 0 0] 24)).heap[Wd.heap.size]? = some (.cells #[.int .i64 0, .int .i64 0, .int .i64 0, .string ⟨#[]⟩, .slice none 0 0] 24 (0, 0)) := heap_new rfl
          obtain ⟨b5, eb⟩ : ∃ b, b = Wd.heap.size := ⟨_, rfl⟩
          have hle : w1.heap.size ≤ b5 := by rw [eb]; exact g0.size
          rw [← eb] at hal ⊢
          clear eb
          generalize Wd.alloc (.cells #[.int .i64 0, .int .i64 0, .int .i64 0, .string ⟨#[]⟩, .slice none 0 0] 24) = x4 at ga4 hal ⊢
          have hS5 : x4.cell? ⟨g, off, none⟩ = some (.string ⟨s0.toArray⟩) ∧ x4.cell? ⟨g, off + 1, none⟩ = some (.string ⟨s1.toArray⟩) ∧ x4.cell? ⟨g, off + 2, none⟩ = some (.string ⟨s2.toArray⟩) ∧ x4.cell? ⟨g, off + 3, none⟩ = some (.string ⟨fi.toArray⟩) := ⟨ga4.cell c0 (by simp), ga4.cell c1 (by simp), ga4.cell c2 (by simp), ga4.cell c3 (by simp)⟩
          refine hK.out _ _ (fun _ => hS5) ?_
          clear hK K'
          try simp only [Act.put, List.setIfInBounds_toArray, List.set_cons_zero, List.set_cons_succ]
          have r0 := row_cell hal 0
          have r1 := row_cell hal 1
          have r2 := row_cell hal 2
          have r3 := row_cell hal 3
          have r4 := row_cell hal 4
          simp at r0 r1 r2 r3 r4
          have q0 := row_free hal 0
          have q1 := row_free hal 1
          have q2 := row_free hal 2
          have q3 := row_free hal 3
          have q4 := row_free hal 4
          have hbz := row_set (row_set (row_set (row_set (row_set hal 0 (.int .i64 n0)) 1 (.int .i64 n1)) 2 (.int .i64 n2)) 3 (.string ⟨fi.toArray⟩)) 4 (.slice none 0 0)
          have hfz := ga4.store5 b5 (Or.inr hle) (.int .i64 n0) (.int .i64 n1) (.int .i64 n2) (.string ⟨fi.toArray⟩) (.slice none 0 0)
          refine hd_one 17 (by kernel_rfl) rfl (by kernel_rfl) rfl (fun K' hK => ?_)
          go_simp
          refine hK.out _ _ (fun h => absurd rfl h) ?_
          clear hK K'
          refine held_done (by kernel_rfl) ?_
          exact ⟨b5, rfl, hbz, hfz, hle⟩
        · go_simp
          have ga6 := g0.alloc (.cells #[.int .i64 0, .int .i64 0, .int .i64 0, .string ⟨#[]⟩, .slice none 0 0] 24)
          have hal : (Wd.alloc (.cells #[.int .i64 0, .int .i64 0, .int .i64 0, .string ⟨#[]⟩, .slice none 0 0] 24)).heap[Wd.heap.size]? = some (.cells #[.int .i64 0, .int .i64 0, .int .i64 0, .string ⟨#[]⟩, .slice none 0 0] 24 (0, 0)) := heap_new rfl
          obtain ⟨b5, eb⟩ : ∃ b, b = Wd.heap.size := ⟨_, rfl⟩
          have hle : w1.heap.size ≤ b5 := by rw [eb]; exact g0.size
          rw [← eb] at hal ⊢
          clear eb
          generalize Wd.alloc (.cells #[.int .i64 0, .int .i64 0, .int .i64 0, .string ⟨#[]⟩, .slice none 0 0] 24) = x6 at ga6 hal ⊢
          have hS7 : x6.cell? ⟨g, off, none⟩ = some (.string ⟨s0.toArray⟩) ∧ x6.cell? ⟨g, off + 1, none⟩ = some (.string ⟨s1.toArray⟩) ∧ x6.cell? ⟨g, off + 2, none⟩ = some (.string ⟨s2.toArray⟩) ∧ x6.cell? ⟨g, off + 3, none⟩ = some (.string ⟨fi.toArray⟩) := ⟨ga6.cell c0 (by simp), ga6.cell c1 (by simp), ga6.cell c2 (by simp), ga6.cell c3 (by simp)⟩
          refine hK.out _ _ (fun _ => hS7) ?_
          clear hK K'
          try simp only [Act.put, List.setIfInBounds_toArray, List.set_cons_zero, List.set_cons_succ]
          refine hd_one 11 (by kernel_rfl) rfl (by kernel_rfl) rfl (fun K' hK => ?_)
          go_simp
          refine (rnumber30_any s2 _ hs2).mono ?_
          rintro e z2 ⟨rfl, rfl⟩
          rw [← N2.out]
          have hS8 : x6.cell? ⟨g, off, none⟩ = some (.string ⟨s0.toArray⟩) ∧ x6.cell? ⟨g, off + 1, none⟩ = some (.string ⟨s1.toArray⟩) ∧ x6.cell? ⟨g, off + 2, none⟩ = some (.string ⟨s2.toArray⟩) ∧ x6.cell? ⟨g, off + 3, none⟩ = some (.string ⟨fi.toArray⟩) := ⟨ga6.cell c0 (by simp), ga6.cell c1 (by simp), ga6.cell c2 (by simp), ga6.cell c3 (by simp)⟩
          refine hK.out _ _ (fun _ => hS8) ?_
          clear hK K'
          try simp only [Act.put, List.setIfInBounds_toArray, List.set_cons_zero, List.set_cons_succ]
          refine hd_take 15 (v := .agg #[.int .i64 n0, .int .i64 n1, .int .i64 n2, .string ⟨fi.toArray⟩, .slice none 0 0]) rfl (by kernel_rfl) (by kernel_rfl) (by kernel_rfl) rfl hS8 (fun W' hS => by go_simp) rfl ?_
          try simp only [Act.put, List.setIfInBounds_toArray, List.set_cons_zero, List.set_cons_succ]
          have r0 := row_cell hal 0
          have r1 := row_cell hal 1
          have r2 := row_cell hal 2
          have r3 := row_cell hal 3
          have r4 := row_cell hal 4
          simp at r0 r1 r2 r3 r4
          have q0 := row_free hal 0
          have q1 := row_free hal 1
          have q2 := row_free hal 2
          have q3 := row_free hal 3
          have q4 := row_free hal 4
          have hbz := row_set (row_set (row_set (row_set (row_set hal 0 (.int .i64 n0)) 1 (.int .i64 n1)) 2 (.int .i64 n2)) 3 (.string ⟨fi.toArray⟩)) 4 (.slice none 0 0)
          have hfz := ga6.store5 b5 (Or.inr hle) (.int .i64 n0) (.int .i64 n1) (.int .i64 n2) (.string ⟨fi.toArray⟩) (.slice none 0 0)
          refine hd_one 17 (by kernel_rfl) rfl (by kernel_rfl) rfl (fun K' hK => ?_)
          go_simp
          refine hK.out _ _ (fun h => absurd rfl h) ?_
          clear hK K'
          refine held_done (by kernel_rfl) ?_
          exact ⟨b5, rfl, hbz, hfz, hle⟩
      · go_simp
        have ga9 := g0.alloc (.cells #[.int .i64 0, .int .i64 0, .int .i64 0, .string ⟨#[]⟩, .slice none 0 0] 24)
        have hal : (Wd.alloc (.cells #[.int .i64 0, .int .i64 0, .int .i64 0, .string ⟨#[]⟩, .slice none 0 0] 24)).heap[Wd.heap.size]? = some (.cells #[.int .i64 0, .int .i64 0, .int .i64 0, .string ⟨#[]⟩, .slice none 0 0] 24 (0, 0)) := heap_new rfl
        obtain ⟨b5, eb⟩ : ∃ b, b = Wd.heap.size := ⟨_, rfl⟩
        have hle : w1.heap.size ≤ b5 := by rw [eb]; exact g0.size
        rw [← eb] at hal ⊢
        clear eb
        generalize Wd.alloc (.cells #[.int .i64 0, .int .i64 0, .int .i64 0, .string ⟨#[]⟩, .slice none 0 0] 24) = x9 at ga9 hal ⊢
        have hS10 : x9.cell? ⟨g, off, none⟩ = some (.string ⟨s0.toArray⟩) ∧ x9.cell? ⟨g, off + 1, none⟩ = some (.string ⟨s1.toArray⟩) ∧ x9.cell? ⟨g, off + 2, none⟩ = some (.string ⟨s2.toArray⟩) ∧ x9.cell? ⟨g, off + 3, none⟩ = some (.string ⟨fi.toArray⟩) := ⟨ga9.cell c0 (by simp), ga9.cell c1 (by simp), ga9.cell c2 (by simp), ga9.cell c3 (by simp)⟩
        refine hK.out _ _ (fun _ => hS10) ?_
        clear hK K'
        try simp only [Act.put, List.setIfInBounds_toArray, List.set_cons_zero, List.set_cons_succ]
        refine hd_one 7 (by kernel_rfl) rfl (by kernel_rfl) rfl (fun K' hK => ?_)
        go_simp
        refine (rnumber30_any s1 _ hs1).mono ?_
        rintro e z1 ⟨rfl, rfl⟩
        rw [← N1.out]
        have hS11 : x9.cell? ⟨g, off, none⟩ = some (.string ⟨s0.toArray⟩) ∧ x9.cell? ⟨g, off + 1, none⟩ = some (.string ⟨s1.toArray⟩) ∧ x9.cell? ⟨g, off + 2, none⟩ = some (.string ⟨s2.toArray⟩) ∧ x9.cell? ⟨g, off + 3, none⟩ = some (.string ⟨fi.toArray⟩) := ⟨ga9.cell c0 (by simp), ga9.cell c1 (by simp), ga9.cell c2 (by simp), ga9.cell c3 (by simp)⟩
        refine hK.out _ _ (fun _ => hS11) ?_
        clear hK K'
        try simp only [Act.put, List.setIfInBounds_toArray, List.set_cons_zero, List.set_cons_succ]
        refine hd_one 11 (by kernel_rfl) rfl (by kernel_rfl) rfl (fun K' hK => ?_)
        go_simp
        refine (rnumber30_any s2 _ hs2).mono ?_
        rintro e z2 ⟨rfl, rfl⟩
        rw [← N2.out]
        have hS12 : x9.cell? ⟨g, off, none⟩ = some (.string ⟨s0.toArray⟩) ∧ x9.cell? ⟨g, off + 1, none⟩ = some (.string ⟨s1.toArray⟩) ∧ x9.cell? ⟨g, off + 2, none⟩ = some (.string ⟨s2.toArray⟩) ∧ x9.cell? ⟨g, off + 3, none⟩ = some (.string ⟨fi.toArray⟩) := ⟨ga9.cell c0 (by simp), ga9.cell c1 (by simp), ga9.cell c2 (by simp), ga9.cell c3 (by simp)⟩
        refine hK.out _ _ (fun _ => hS12) ?_
        clear hK K'
        try simp only [Act.put, List.setIfInBounds_toArray, List.set_cons_zero, List.set_cons_succ]
        refine hd_take 15 (v := .agg #[.int .i64 n0, .int .i64 n1, .int .i64 n2, .string ⟨fi.toArray⟩, .slice none 0 0]) rfl (by kernel_rfl) (by kernel_rfl) (by kernel_rfl) rfl hS12 (fun W' hS => by go_simp) rfl ?_
        try simp only [Act.put, List.setIfInBounds_toArray, List.set_cons_zero, List.set_cons_succ]
        have r0 := row_cell hal 0
        have r1 := row_cell hal 1
        have r2 := row_cell hal 2
        have r3 := row_cell hal 3
        have r4 := row_cell hal 4
        simp at r0 r1 r2 r3 r4
        have q0 := row_free hal 0
        have q1 := row_free hal 1
        have q2 := row_free hal 2
        have q3 := row_free hal 3
        have q4 := row_free hal 4
        have hbz := row_set (row_set (row_set (row_set (row_set hal 0 (.int .i64 n0)) 1 (.int .i64 n1)) 2 (.int .i64 n2)) 3 (.string ⟨fi.toArray⟩)) 4 (.slice none 0 0)
        have hfz := ga9.store5 b5 (Or.inr hle) (.int .i64 n0) (.int .i64 n1) (.int .i64 n2) (.string ⟨fi.toArray⟩) (.slice none 0 0)
        refine hd_one 17 (by kernel_rfl) rfl (by kernel_rfl) rfl (fun K' hK => ?_)
        go_simp
        refine hK.out _ _ (fun h => absurd rfl h) ?_
        clear hK K'
        refine held_done (by kernel_rfl) ?_
        exact ⟨b5, rfl, hbz, hfz, hle⟩
    · go_simp
      have ga13 := g0.alloc (.cells #[.int .i64 0, .int .i64 0, .int .i64 0, .string ⟨#[]⟩, .slice none 0 0] 24)
      have hal : (Wd.alloc (.cells #[.int .i64 0, .int .i64 0, .int .i64 0, .string ⟨#[]⟩, .slice none 0 0] 24)).heap[Wd.heap.size]? = some (.cells #[.int .i64 0, .int .i64 0, .int .i64 0, .string ⟨#[]⟩, .slice none 0 0] 24 (0, 0)) := heap_new rfl
      obtain ⟨b5, eb⟩ : ∃ b, b = Wd.heap.size := ⟨_, rfl⟩
      have hle : w1.heap.size ≤ b5 := by rw [eb]; exact g0.size
      rw [← eb] at hal ⊢
      clear eb
      generalize Wd.alloc (.cells #[.int .i64 0, .int .i64 0, .int .i64 0, .string ⟨#[]⟩, .slice none 0 0] 24) = x13 at ga13 hal ⊢
      have hS14 : x13.cell? ⟨g, off, none⟩ = some (.string ⟨s0.toArray⟩) ∧ x13.cell? ⟨g, off + 1, none⟩ = some (.string ⟨s1.toArray⟩) ∧ x13.cell? ⟨g, off + 2, none⟩ = some (.string ⟨s2.toArray⟩) ∧ x13.cell? ⟨g, off + 3, none⟩ = some (.string ⟨fi.toArray⟩) := ⟨ga13.cell c0 (by simp), ga13.cell c1 (by simp), ga13.cell c2 (by simp), ga13.cell c3 (by simp)⟩
      refine hK.out _ _ (fun _ => hS14) ?_
      clear hK K'
      try simp only [Act.put, List.setIfInBounds_toArray, List.set_cons_zero, List.set_cons_succ]
      refine hd_one 3 (by kernel_rfl) rfl (by kernel_rfl) rfl (fun K' hK => ?_)
      go_simp
      refine (rnumber30_any s0 _ hs0).mono ?_
      rintro e z0 ⟨rfl, rfl⟩
      rw [← N0.out]
      have hS15 : x13.cell? ⟨g, off, none⟩ = some (.string ⟨s0.toArray⟩) ∧ x13.cell? ⟨g, off + 1, none⟩ = some (.string ⟨s1.toArray⟩) ∧ x13.cell? ⟨g, off + 2, none⟩ = some (.string ⟨s2.toArray⟩) ∧ x13.cell? ⟨g, off + 3, none⟩ = some (.string ⟨fi.toArray⟩) := ⟨ga13.cell c0 (by simp), ga13.cell c1 (by simp), ga13.cell c2 (by simp), ga13.cell c3 (by simp)⟩
      refine hK.out _ _ (fun _ => hS15) ?_
      clear hK K'
      try simp only [Act.put, List.setIfInBounds_toArray, List.set_cons_zero, List.set_cons_succ]
      refine hd_one 7 (by kernel_rfl) rfl (by kernel_rfl) rfl (fun K' hK => ?_)
      go_simp
      refine (rnumber30_any s1 _ hs1).mono ?_
      rintro e z1 ⟨rfl, rfl⟩
      rw [← N1.out]
      have hS16 : x13.cell? ⟨g, off, none⟩ = some (.string ⟨s0.toArray⟩) ∧ x13.cell? ⟨g, off + 1, none⟩ = some (.string ⟨s1.toArray⟩) ∧ x13.cell? ⟨g, off + 2, none⟩ = some (.string ⟨s2.toArray⟩) ∧ x13.cell? ⟨g, off + 3, none⟩ = some (.string ⟨fi.toArray⟩) := ⟨ga13.cell c0 (by simp), ga13.cell c1 (by simp), ga13.cell c2 (by simp), ga13.cell c3 (by simp)⟩
      refine hK.out _ _ (fun _ => hS16) ?_
      clear hK K'
      try simp only [Act.put, List.setIfInBounds_toArray, List.set_cons_zero, List.set_cons_succ]
      refine hd_one 11 (by kernel_rfl) rfl (by kernel_rfl) rfl (fun K' hK => ?_)
      go_simp
      refine (rnumber30_any s2 _ hs2).mono ?_
      rintro e z2 ⟨rfl, rfl⟩
      rw [← N2.out]
      have hS17 : x13.cell? ⟨g, off, none⟩ = some (.string ⟨s0.toArray⟩) ∧ x13.cell? ⟨g, off + 1, none⟩ = some (.string ⟨s1.toArray⟩) ∧ x13.cell? ⟨g, off + 2, none⟩ = some (.string ⟨s2.toArray⟩) ∧ x13.cell? ⟨g, off + 3, none⟩ = some (.string ⟨fi.toArray⟩) := ⟨ga13.cell c0 (by simp), ga13.cell c1 (by simp), ga13.cell c2 (by simp), ga13.cell c3 (by simp)⟩
      refine hK.out _ _ (fun _ => hS17) ?_
      clear hK K'
      try simp only [Act.put, List.setIfInBounds_toArray, List.set_cons_zero, List.set_cons_succ]
      refine hd_take 15 (v := .agg #[.int .i64 n0, .int .i64 n1, .int .i64 n2, .string ⟨fi.toArray⟩, .slice none 0 0]) rfl (by kernel_rfl) (by kernel_rfl) (by kernel_rfl) rfl hS17 (fun W' hS => by go_simp) rfl ?_
      try simp only [Act.put, List.setIfInBounds_toArray, List.set_cons_zero, List.set_cons_succ]
      have r0 := row_cell hal 0
      have r1 := row_cell hal 1
      have r2 := row_cell hal 2
      have r3 := row_cell hal 3
      have r4 := row_cell hal 4
      simp at r0 r1 r2 r3 r4
      have q0 := row_free hal 0
      have q1 := row_free hal 1
      have q2 := row_free hal 2
      have q3 := row_free hal 3
      have q4 := row_free hal 4
      have hbz := row_set (row_set (row_set (row_set (row_set hal 0 (.int .i64 n0)) 1 (.int .i64 n1)) 2 (.int .i64 n2)) 3 (.string ⟨fi.toArray⟩)) 4 (.slice none 0 0)
      have hfz := ga13.store5 b5 (Or.inr hle) (.int .i64 n0) (.int .i64 n1) (.int .i64 n2) (.string ⟨fi.toArray⟩) (.slice none 0 0)
      refine hd_one 17 (by kernel_rfl) rfl (by kernel_rfl) rfl (fun K' hK => ?_)
      go_simp
      refine hK.out _ _ (fun h => absurd rfl h) ?_
      clear hK K'
      refine held_done (by kernel_rfl) ?_
      exact ⟨b5, rfl, hbz, hfz, hle⟩
  case rest =>
    intro ex a' w4 hq
    cases ex with
    | normal => ?_
    | _ => exact hq.elim
    obtain ⟨b5, rfl, hbz, hfz, hle⟩ := hq
    have HBZ := Lib.hid hbz
    have HFZ := Lib.hid hfz
    clear hbz hfz c0 c1 c2 c3 hs0 hs1 hs2 t1 t2 hw4 hmod i0 i1 i2 i3 hnz
    go_wp2_with fail
    obtain ⟨q, eq⟩ : ∃ q, q = m / 19 := ⟨_, rfl⟩
    have hmq : m = 19 * q := by rw [eq]; exact HQ.out
    have hnq : n = 4 + 19 * q := by have := HM.out; omega
    have HNQ := Lib.hid hnq
    have hq1 : q ≤ 1000 := by omega
    have hle := Lib.hid hle
    clear eq hmq hnq
    go_loopg [6] (q + 1) (fun gh i wr => ∃ (k : Nat) (cv : Value) (R : List Rtf), k ≤ q ∧ gh = q + 1 - k ∧ i = .int .i64 ((4 + 19 * k : Nat) : Int) ∧ RSt w1 b5 g n0 n1 n2 fi (ws.drop 4) k cv R wr)
    case atStart => exact ⟨0, .slice none 0 0, [], by omega, by omega, rfl, ⟨HFZ.out, HBZ.out, OwnT.nil, SigsR.nil _, rfl, fun q hq => by cases hq⟩⟩
    case round =>
      obtain ⟨k, cv, R, hk, hgh, rfl, hP⟩ := hrel
      have HG := Lib.hid hgh
      have HP := Lib.hid hP
      clear hgh hP
      obtain ⟨j, ej⟩ : ∃ j, j = 4 + 19 * k := ⟨_, rfl⟩
      rw [← ej]
      have HJ := Lib.hid ej
      obtain ⟨wo, rfl⟩ : ∃ wo : World, wo = wr := ⟨_, rfl⟩
      by_cases hlt : k < q
      · have hjn : j + 19 ≤ n := by have := HNQ.out; omega
        have t1 : decide ((j : Int) < (n : Int)) = true := by simp; omega
        clear ej
        have j0 : (0 : Int) ≤ (j : Int) := by omega
        have j1 : (j : Int) < (n : Int) := by omega
        have w1a : IntKind.i64.wrap ((j : Int) + 1) = ((j + 1 : Nat) : Int) := by rw [IntWalk.i64_in _ (by omega)]; omega
        have w1b : IntKind.i64.wrap ((j : Int) + 19) = ((j + 19 : Nat) : Int) := by rw [IntWalk.i64_in _ (by omega)]; omega
        obtain ⟨x, ex⟩ : ∃ x, x = ws.getD j [] := ⟨_, rfl⟩
        have EX := Lib.hid ex
        have c0 := (HST.out.fr0 HP.out.fr).cellN HEN.out.symm j (by have := HEN.out; omega)
        rw [← ex] at c0
        have hR := HP.out.o.raw
        have hcv : ∃ ca cl cc, cv = .slice ca cl cc := by rcases hR with ⟨_, a, h⟩ | ⟨b, of, c, h, _⟩ <;> exact ⟨_, _, _, h⟩
        obtain ⟨ca, cl, cc, rfl⟩ := hcv
        have c1 := row_cell HP.out.f 4
        simp at c1
        clear hR ex
        go_wp2_with fail
        have gr0 : Fr [] wo wo.drew := (Fr.refl [] wo).drew
        have hSr0 : wo.drew.cell? ⟨b5, 4, none⟩ = some (.slice ca cl cc) ∧ wo.drew.cell? ⟨g, off + j, none⟩ = some (.string ⟨x.toArray⟩) := ⟨gr0.cell c1 (by simp), gr0.cell c0 (by simp)⟩
        refine region_held 16 (fun W' => W'.cell? ⟨b5, 4, none⟩ = some (.slice ca cl cc) ∧ W'.cell? ⟨g, off + j, none⟩ = some (.string ⟨x.toArray⟩)) hmx ?_
        change Held _ _ _ _ _ _ 17 (Array.replicate 17 false) _ _
        refine hd_take 0 (v := .pointer (some ⟨b5, 4, none⟩)) rfl (by kernel_rfl) (by kernel_rfl) (by kernel_rfl) rfl hSr0 (fun W' hS => by go_simp) rfl ?_
        refine hd_take 2 (v := .slice (some ⟨g, off, none⟩) n cap) rfl (by kernel_rfl) (by kernel_rfl) (by kernel_rfl) rfl hSr0 (fun W' hS => by go_simp) rfl ?_
        refine hd_take 3 (v := .int .i64 (j : Int)) rfl (by kernel_rfl) (by kernel_rfl) (by kernel_rfl) rfl hSr0 (fun W' hS => by go_simp) rfl ?_
        refine hd_take 6 (v := .slice (some ⟨g, off, none⟩) n cap) rfl (by kernel_rfl) (by kernel_rfl) (by kernel_rfl) rfl hSr0 (fun W' hS => by go_simp) rfl ?_
        refine hd_take 7 (v := .int .i64 (j : Int)) rfl (by kernel_rfl) (by kernel_rfl) (by kernel_rfl) rfl hSr0 (fun W' hS => by go_simp) rfl ?_
        refine hd_take 9 (v := .int .i64 (j : Int)) rfl (by kernel_rfl) (by kernel_rfl) (by kernel_rfl) rfl hSr0 (fun W' hS => by go_simp) rfl ?_
        try simp only [Act.put, List.setIfInBounds_toArray, List.set_cons_zero, List.set_cons_succ]
        refine hd_take 1 (v := .slice ca cl cc) rfl (by kernel_rfl) (by kernel_rfl) (by kernel_rfl) rfl hSr0 (fun W' hS => by obtain ⟨s0, s1⟩ := hS; go_simp) rfl ?_
        refine hd_take 4 (v := .pointer (some ⟨g, off + j, none⟩)) rfl (by kernel_rfl) (by kernel_rfl) (by kernel_rfl) rfl hSr0 (fun W' hS => by go_simp) rfl ?_
        refine hd_take 8 (v := .int .i64 ((j + 1 : Nat) : Int)) rfl (by kernel_rfl) (by kernel_rfl) (by kernel_rfl) rfl hSr0 (fun W' hS => by go_simp) rfl ?_
        refine hd_take 10 (v := .int .i64 ((j + 19 : Nat) : Int)) rfl (by kernel_rfl) (by kernel_rfl) (by kernel_rfl) rfl hSr0 (fun W' hS => by go_simp) rfl ?_
        try simp only [Act.put, List.setIfInBounds_toArray, List.set_cons_zero, List.set_cons_succ]
        refine hd_take 5 (v := .string ⟨x.toArray⟩) rfl (by kernel_rfl) (by kernel_rfl) (by kernel_rfl) rfl hSr0 (fun W' hS => by obtain ⟨s0, s1⟩ := hS; go_simp) rfl ?_
        try simp only [Act.put, List.setIfInBounds_toArray, List.set_cons_zero, List.set_cons_succ]
        refine hd_take 11 (v := .slice (some ⟨g, off + (j + 1), none⟩) 18 (cap - (j + 1))) rfl (by kernel_rfl) (by kernel_rfl) (by kernel_rfl) rfl hSr0 (fun W' hS => by have k1 := HCAP.out; go_simp; rw [if_pos (by omega), if_pos (by omega), if_neg (by omega), show ((j : Int) + 19).toNat - (j + 1) = 18 by omega]) rfl ?_
        try simp only [Act.put, List.setIfInBounds_toArray, List.set_cons_zero, List.set_cons_succ]
        refine hd_take 12 (v := .agg #[.string ⟨x.toArray⟩, .slice (some ⟨g, off + (j + 1), none⟩) 18 (cap - (j + 1))]) rfl (by kernel_rfl) (by kernel_rfl) (by kernel_rfl) rfl hSr0 (fun W' hS => by go_simp) rfl ?_
        try simp only [Act.put, List.setIfInBounds_toArray, List.set_cons_zero, List.set_cons_succ]
        generalize wo.drew = wd at gr0 hSr0 ⊢
        have hsg : StrsW w1 (.slice (some ⟨g, off + (j + 1), none⟩) 18 (cap - (j + 1))) ((ws.drop (j + 1)).take 18) := Or.inl (HST.out.part (j + 1) 18 (by have := HEN.out; omega) (by decide))
        refine hd_one 13 (by kernel_rfl) rfl (by kernel_rfl) rfl (fun K' hK => ?_)
        go_simp
        have k1 := gr0.alloc (.cells #[.string ⟨x.toArray⟩, .slice (some ⟨g, off + (j + 1), none⟩) 18 (cap - (j + 1))] 41)
        have hone : (wd.alloc (.cells #[.string ⟨x.toArray⟩, .slice (some ⟨g, off + (j + 1), none⟩) 18 (cap - (j + 1))] 41)).heap[wd.heap.size]? = some (.cells #[.string ⟨x.toArray⟩, .slice (some ⟨g, off + (j + 1), none⟩) 18 (cap - (j + 1))] 41 (0, 0)) := heap_new rfl
        have hb5 := k1.at HP.out.f (by simp)
        have hown := HP.out.o.fr k1 (by simp)
        have kw := HP.out.fr.trans k1 (by simp)
        obtain ⟨e5, ee5⟩ : ∃ b, b = wd.heap.size := ⟨_, rfl⟩
        rw [← ee5] at hone ⊢
        generalize wd.alloc (.cells #[.string ⟨x.toArray⟩, .slice (some ⟨g, off + (j + 1), none⟩) 18 (cap - (j + 1))] 41) = yc at k1 hone hb5 hown kw ⊢
        have hS8 : yc.cell? ⟨b5, 4, none⟩ = some (.slice ca cl cc) ∧ yc.cell? ⟨g, off + j, none⟩ = some (.string ⟨x.toArray⟩) := ⟨k1.cell c1 (by simp), k1.cell c0 (by simp)⟩
        refine hK.out _ _ (fun _ => hS8) ?_
        clear hK K' ee5
        try simp only [Act.put, List.setIfInBounds_toArray, List.set_cons_zero, List.set_cons_succ]
        refine hd_one 14 (by kernel_rfl) rfl (by kernel_rfl) rfl (fun K' hK => ?_)
        refine wp_appT (.tmp 43) (.tmp 55) rfl w1.heap.size (.slice ca cl cc) _ R [((⟨x, (ws.drop (j + 1)).take 18⟩ : Trf), (Value.slice (some ⟨g, off + (j + 1), none⟩) 18 (cap - (j + 1))))] w1 (by kernel_rfl) (by kernel_rfl) (rawT_one hone) (fun q hq => by rw [List.mem_singleton.1 hq]; exact hsg.fr kw) hown kw (Nat.le_refl _) kw.size (by have h1 := congrArg List.length HP.out.m; rw [List.length_map] at h1; simp only [grpT, List.length_map, List.length_range] at h1; simp; omega) ?_
        intro v' w7 ho7 hf7 hg7
        have hne5 := row_ne hb5 (by decide) hown
        have hb7 := hg7.at hb5 (fun h => hne5 (Option.mem_toList.1 h).symm)
        have hS7 : w7.cell? ⟨b5, 4, none⟩ = some (.slice ca cl cc) ∧ w7.cell? ⟨g, off + j, none⟩ = some (.string ⟨x.toArray⟩) := ⟨by rw [row_cell hb7 4]; rfl, hf7.cell (HST.out.cellN HEN.out.symm j (by have := HEN.out; omega)) (by simp) |> fun h => by rw [EX.out]; exact h⟩
        refine hK.out _ _ (fun _ => hS7) ?_
        clear hK K'
        try simp only [Act.put, List.setIfInBounds_toArray, List.set_cons_zero, List.set_cons_succ]
        refine hd_take 15 (v := .pointer (some ⟨b5, 4, none⟩)) rfl (by kernel_rfl) (by kernel_rfl) (by kernel_rfl) rfl hS7 (fun W' hS => by go_simp) rfl ?_
        try simp only [Act.put, List.setIfInBounds_toArray, List.set_cons_zero, List.set_cons_succ]
        have r4 := row_cell hb7 4
        simp at r4
        have y4 := row_free hb7 4
        have hv7 : ∃ ca cl cc, v' = .slice ca cl cc := by rcases ho7.raw with ⟨_, a, h⟩ | ⟨b, of, c, h, _⟩ <;> exact ⟨_, _, _, h⟩
        obtain ⟨ca7, cl7, cc7, rfl⟩ := hv7
        refine hd_one 16 (by kernel_rfl) rfl (by kernel_rfl) rfl (fun K' hK => ?_)
        go_simp
        refine hK.out _ _ (fun h => absurd rfl h) ?_
        clear hK K'
        refine held_done (by kernel_rfl) ?_
        have hP2 : RSt w1 b5 g n0 n1 n2 fi (ws.drop 4) (k + 1) (.slice ca7 cl7 cc7) (R ++ [((⟨x, (ws.drop (j + 1)).take 18⟩ : Trf), (Value.slice (some ⟨g, off + (j + 1), none⟩) 18 (cap - (j + 1))))]) (w7.setCell ⟨b5, 4, none⟩ (.slice ca7 cl7 cc7)) := by
          refine ⟨hf7.setCell _ _ (Or.inr hle.out), row_set hb7 4 _, ho7.fr ((Fr.refl [b5] w7).setCell ⟨b5, 4, none⟩ _ (by simp)) (fun x hx hm => ?_), HP.out.s.app (fun q hq => by rw [List.mem_singleton.1 hq]; exact hsg), ?_, fun q hq => ?_⟩
          · rw [List.mem_singleton.1 hm] at hx
            exact row_ne hb7 (by decide) ho7 hx.symm
          · rw [List.map_append, HP.out.m, grpT_succ, drop_getD, List.drop_drop]
            have hj := HJ.out
            rw [show 4 + 19 * k = j from hj.symm, show 4 + (19 * k + 1) = j + 1 by omega, ← EX.out]
            rfl
          · rcases List.mem_append.1 hq with hq | hq
            · exact HP.out.b q hq
            · rw [List.mem_singleton.1 hq]; rfl
        have HP2 := Lib.hid hP2
        generalize w7.setCell ⟨b5, 4, none⟩ (.slice ca7 cl7 cc7) = w8 at HP2 ⊢
        clear hP2 ho7 hf7 hg7 hb7 hb5 hown hone kw k1 hne5 r4 y4 hS7 hS8 hsg c0 c1
        generalize R ++ [((⟨x, (ws.drop (j + 1)).take 18⟩ : Trf), (Value.slice (some ⟨g, off + (j + 1), none⟩) 18 (cap - (j + 1))))] = R2 at HP2
        go_wp2_with fail
        go_roundg (q + 1 - (k + 1))
        case measure => have := HG.out; omega
        case rel => exact ⟨k + 1, _, R2, by omega, rfl, by rw [show 4 + 19 * (k + 1) = j + 19 by have := HJ.out; omega]; go_num, HP2.out⟩
      · obtain rfl : k = q := by omega
        have hjn : j = n := by have := HNQ.out; omega
        clear ej hlt
        subst hjn
        have t1 : decide ((j : Int) < (j : Int)) = false := by simp
        have hwr : Fr [] w wo := H1.out.trans HP.out.fr (by simp)
        have hsig : SigsR wo R := HP.out.s.fr HP.out.fr
        have hcv : ∃ ca cl cc, cv = .slice ca cl cc := by rcases HP.out.o.raw with ⟨_, a, h⟩ | ⟨b, of, c, h, _⟩ <;> exact ⟨_, _, _, h⟩
        obtain ⟨ca, cl, cc, rfl⟩ := hcv
        have htr : Trs wo (.slice ca cl cc) (grpT (ws.drop 4) k) := by
          have h1 := HP.out.o.raw.trs hsig
          rw [HP.out.m] at h1
          exact h1
        have hw4s : ∀ s ∈ ws.drop 4, s.length ≤ 100000 := fun s hs => HW2.out s (List.mem_of_mem_drop hs)
        obtain ⟨t, et⟩ : ∃ t : Ttl, t = ⟨n0, n1, n2, fi, grpT (ws.drop 4) k⟩ := ⟨_, rfl⟩
        have hTS : TSmall t := by
          rw [et]
          have b0 := numR_bound s0
          have b1 := numR_bound s1
          have b2 := numR_bound s2
          rw [← N0.out] at b0
          rw [← N1.out] at b1
          rw [← N2.out] at b2
          refine ⟨⟨by simp only; omega, by simp only; omega, by simp only; omega⟩, HS3.out, by simp only [grpT, List.length_map, List.length_range]; omega, fun x hx => ?_⟩
          obtain ⟨i, _, rfl⟩ := List.mem_map.1 hx
          refine ⟨?_, by simp only [List.length_take]; omega, fun s hs => hw4s s (List.mem_of_mem_drop (List.mem_of_mem_take hs))⟩
          show ((ws.drop 4).getD (19 * i) []).length ≤ 100000
          by_cases hi : 19 * i < (ws.drop 4).length
          · exact hw4s _ (getD_mem _ (19 * i) [] hi)
          · rw [List.getD_eq_getElem?_getD, List.getElem?_eq_none (by omega)]; simp
        have hPA : ParsedT text (if textT t = text ∧ text ≠ [] then some t else none) := parsedT_of (fun gt hgt => by
          obtain ⟨a, b, c, d, wsx, hs, rfl, rfl, rfl, rfl, hxl, hxg⟩ := grpT_text hgt
          have hws := HWS.out
          rw [hs] at hws
          have hp := formedT_parts hgt.1
          have h4 : ws.drop 4 = wsx := by rw [hws]; rfl
          have hn0 : n0 = gt.serial := by rw [N0.out, E0.out, hws]; exact numR_itoa _ (by omega) (by omega)
          have hn1 : n1 = gt.shw := by rw [N1.out, E1.out, hws]; exact numR_itoa _ (by omega) (by omega)
          have hn2 : n2 = gt.place := by rw [N2.out, E2.out, hws]; exact numR_itoa _ (by omega) (by omega)
          have hfi : fi = gt.first := by rw [E3.out, hws]; rfl
          have hk : k = gt.chain.length := by have h5 := HNQ.out; rw [HEN.out, hws] at h5; simp only [List.length_cons, hxl] at h5; omega
          rw [et, hn0, hn1, hn2, hfi, h4, hk, hxg])
        have HPA := Lib.hid hPA
        have HTR := Lib.hid htr
        have HTS := Lib.hid hTS
        have hRd : TtlR wo (.agg #[.int .i64 n0, .int .i64 n1, .int .i64 n2, .string ⟨fi.toArray⟩, .slice ca cl cc]) t := by rw [et]; exact ⟨_, rfl, htr⟩
        have HRD := Lib.hid hRd
        have HWR := Lib.hid hwr
        have q0 := row_cell HP.out.f 0
        have q1 := row_cell HP.out.f 1
        have q2 := row_cell HP.out.f 2
        have q3 := row_cell HP.out.f 3
        have q4 := row_cell HP.out.f 4
        simp at q0 q1 q2 q3 q4
        have HZR := Lib.hid (HP.out.fr.at HZ1.out (by simp))
        have HET := Lib.hid et
        have HHP := HP
        have HTX0 : Hid (text ≠ []) := Lib.hid (by
          intro h
          have h5 := HWS.out
          rw [h] at h5
          have h6 := HEN.out
          rw [h5] at h6
          simp [splitS] at h6
          omega)
        clear hPA htr hTS hRd hwr hsig hw4s et
        go_wp2_with fail
        refine (rtext30_any _ t wo HRD.out HTS.out).mono ?_
        rintro e w11 ⟨rfl, hb11⟩
        obtain ⟨r, hr⟩ : ∃ r, r = textT t := ⟨_, rfl⟩
        rw [← hr] at HPA ⊢
        have g11 : Fr [] wo w11 := Fr.ofBelow hb11
        have hq7 := g11.at HP.out.f (by simp)
        have hz7 := g11.at HZR.out (by simp)
        have h11 := HWR.out.trans g11 (by simp)
        clear hb11 hr q0 q1 q2 q3 q4
        have z0 := row_cell hz7 0
        have z1 := row_cell hz7 1
        have z2 := row_cell hz7 2
        have z3 := row_cell hz7 3
        have z4 := row_cell hz7 4
        simp at z0 z1 z2 z3 z4
        have y0 := row_free hz7 0
        have y1 := row_free hz7 1
        have y2 := row_free hz7 2
        have y3 := row_free hz7 3
        have y4 := row_free hz7 4
        have q0 := row_cell hq7 0
        have q1 := row_cell hq7 1
        have q2 := row_cell hq7 2
        have q3 := row_cell hq7 3
        have q4 := row_cell hq7 4
        simp at q0 q1 q2 q3 q4
        by_cases hok : r = text
        · rw [if_pos ⟨hok, HTX0.out⟩] at HPA
          subst hok
          have u2 : (r != r) = false := by simp
          have u3 : (r == r) = true := by simp
          have HX := Lib.hid (h11.store5 p (by right; have := EP.out; omega) (.int .i64 n0) (.int .i64 n1) (.int .i64 n2) (.string ⟨fi.toArray⟩) (.slice ca cl cc))
          have HRX := Lib.hid (row_set (row_set (row_set (row_set (row_set hz7 0 (.int .i64 n0)) 1 (.int .i64 n1)) 2 (.int .i64 n2)) 3 (.string ⟨fi.toArray⟩)) 4 (.slice ca cl cc))
          have HTX : Hid (Trs (((((w11.setCell ⟨p, 0, none⟩ (.int .i64 n0)).setCell ⟨p, 1, none⟩ (.int .i64 n1)).setCell ⟨p, 2, none⟩ (.int .i64 n2)).setCell ⟨p, 3, none⟩ (.string ⟨fi.toArray⟩)).setCell ⟨p, 4, none⟩ (.slice ca cl cc)) (.slice ca cl cc) (grpT (ws.drop 4) k)) := Lib.hid (by
            have hst := (Fr.refl [p] w11).store5 p (by simp) (.int .i64 n0) (.int .i64 n1) (.int .i64 n2) (.string ⟨fi.toArray⟩) (.slice ca cl cc)
            have ho := (HP.out.o.fr g11 (by simp)).fr hst (fun x hx hm => by
              have h1 := (ownBlock_cells HP.out.o x hx).1
              have h2 := List.mem_singleton.1 hm
              have h3 := lt_of_block HZ1.out
              omega)
            have hs : SigsR _ R := fun q hq => ((HP.out.s q hq).fr (HP.out.fr.trans g11 (by simp))).frX hst (fun x hx hm => by
              have h1 := HP.out.b q hq
              rw [h1] at hx
              have h2 := List.mem_singleton.1 hm
              have h3 := HGP.out
              have h4 := Option.some.inj hx
              omega)
            have h1 := ho.raw.trs hs
            rw [HP.out.m] at h1
            exact h1)
          clear hz7 hq7 h11 g11
          go_wp2_with fail
          have m0 := row_cell HRX.out 0
          have m1 := row_cell HRX.out 1
          have m2 := row_cell HRX.out 2
          have m3 := row_cell HRX.out 3
          have m4 := row_cell HRX.out 4
          simp at m0 m1 m2 m3 m4
          refine bodyPost_ret (v := .tuple #[.agg #[.int .i64 n0, .int .i64 n1, .int .i64 n2, .string ⟨fi.toArray⟩, .slice ca cl cc], .int .i64 0]) ?_ rfl ⟨some t, HPA.out, _, rfl, by rw [HET.out]; exact ⟨_, rfl, HTX.out⟩, HX.out.toBelow (by simp)⟩
          rw [results_cell_tmp rfl]
          go_simp
        · rw [if_neg (fun h => hok h.1)] at HPA
          have u2 : (r != text) = true := by rw [bne_iff_ne]; exact hok
          have u3 : (r == text) = false := by rw [beq_eq_false_iff_ne]; exact hok
          have HX := Lib.hid (h11.store5 p (by right; have := EP.out; omega) (.int .i64 0) (.int .i64 0) (.int .i64 0) (.string ⟨#[]⟩) (.slice none 0 0))
          have HRX := Lib.hid (row_set (row_set (row_set (row_set (row_set hz7 0 (.int .i64 0)) 1 (.int .i64 0)) 2 (.int .i64 0)) 3 (.string ⟨#[]⟩)) 4 (.slice none 0 0))
          clear hz7 hq7 h11 g11 hok
          go_wp2_with fail
          have m0 := row_cell HRX.out 0
          have m1 := row_cell HRX.out 1
          have m2 := row_cell HRX.out 2
          have m3 := row_cell HRX.out 3
          have m4 := row_cell HRX.out 4
          simp at m0 m1 m2 m3 m4
          refine bodyPost_ret (v := .tuple #[zeroTV, .int .i64 4]) ?_ rfl ⟨none, HPA.out, _, rfl, zeroT_reads _, HX.out.toBelow (by simp)⟩
          unfold zeroTV
          rw [results_cell_tmp rfl]
          go_simp
end Go.Proofs.YtcblpfepkkkilaaGreatDoor
