/-
  foyerref31.which, foyerref31.Check.
-/
import Derived.Test.YtmhejcndkplepaaDoorRvM
import Derived.Test.YtmhejcndkplepaaDoorRvW
namespace Go.Proofs.YtmhejcndkplepaaDoor
open Go.RowKit

theorem incB_neg {last z n : Int} {t : List Int} (h0 : -1 ≤ last) (h : z < 0) : incB last (z :: t) n = false := by
  simp only [incB]
  rw [decide_eq_false (by omega)]; rfl
theorem incB_big {last z n : Int} {t : List Int} (h : n ≤ z) : incB last (z :: t) n = false := by
  simp only [incB]
  rw [decide_eq_false (show ¬ z < n by omega), Bool.and_false]; rfl
theorem incB_low {last z n : Int} {t : List Int} (h : z ≤ last) : incB last (z :: t) n = false := by
  simp only [incB]
  rw [decide_eq_false (by omega)]; rfl
theorem incB_step {last z n : Int} {t : List Int} (h : last < z) (h2 : z < n) : incB last (z :: t) n = incB z t n := by
  simp only [incB]
  rw [decide_eq_true h, decide_eq_true h2]; rfl

set_option maxRecDepth 100000 in
set_option maxHeartbeats 4000000 in
theorem which_any (v : Value) (l : List Int) (n : Int) (w : World) (hv : Zs w v l) :
    Calls Tryd.prog 54 #[v, .int .i64 n] w fun e w' => e = .returned (.bool (incB (-1) l n)) ∧ Below w.heap.size w w' := by
  have hmx : Tryd.prog.follows .mixedOrders = true := by kernel_rfl
  have HV := Lib.hid hv
  obtain ⟨a, cap, rfl, hlc, hcap, hfa⟩ := hv.form
  clear hv
  obtain ⟨r, er⟩ : ∃ r, r = incB (-1) l n := ⟨_, rfl⟩
  have ER := Lib.hid er
  rw [← er]
  clear er
  go_enter Tryd.func54, Tryd.ntmps54
  go_wp2_with fail
  go_loopg [5] (l.length + 1) (fun g i wr => ∃ (k : Nat) (last : Int), k ≤ l.length ∧ g = l.length + 1 - k ∧ i = .int .i64 (k : Int) ∧ incB (-1) l n = incB last (l.drop k) n ∧ ((k = 0 ∧ last = -1) ∨ (0 < k ∧ last = l.getD (k - 1) 0 ∧ 0 ≤ last)) ∧ Fr [] w wr)
  case atStart => exact ⟨0, -1, by omega, by omega, rfl, rfl, Or.inl ⟨rfl, rfl⟩, Fr.refl _ _⟩
  case round =>
    obtain ⟨k, last, hk, hg, rfl, hin, hla, hfr⟩ := hrel
    have HG := Lib.hid hg
    have HIN := Lib.hid hin
    have h1m : -1 ≤ last := by omega
    have HLA := Lib.hid hla
    clear hg hin hla
    by_cases hlt : k < l.length
    · have t1 : decide ((k : Int) < (l.length : Int)) = true := by simp; omega
      obtain ⟨b, off, rfl⟩ := hfa k hlt
      have c0 := hfr.cell (HV.out.cell k hlt) (by simp)
      have HD : Hid (l.drop k = l.getD k 0 :: l.drop (k + 1)) := Lib.hid (by rw [List.drop_eq_getElem_cons hlt]; simp [List.getD_eq_getElem?_getD, hlt])
      have HZN : Hid (0 < k + 1 ∧ l.getD k 0 = l.getD (k + 1 - 1) 0) := Lib.hid ⟨by omega, by rw [Nat.add_sub_cancel]⟩
      generalize l.getD k 0 = z at c0 HD HZN
      have g0 : (0 : Int) ≤ (k : Int) := by omega
      have g1 : (k : Int) < (l.length : Int) := by omega
      by_cases hz0 : z < 0
      · have HX : Hid (r = false) := Lib.hid (by rw [ER.out, HIN.out, HD.out]; exact incB_neg h1m hz0)
        have t2 : decide (z < 0) = true := decide_eq_true hz0
        go_wp2_with fail
        go_quiet (fail)
        go_wp2_with fail
        go_ret
        exact ⟨by rw [HX.out]; rfl, (hfr.drewN _).toBelow (by simp)⟩
      have t2 : decide (z < 0) = false := decide_eq_false hz0
      by_cases hzn : n ≤ z
      · have HX : Hid (r = false) := Lib.hid (by rw [ER.out, HIN.out, HD.out]; exact incB_big hzn)
        have t3 : decide (n ≤ z) = true := decide_eq_true hzn
        clear hz0
        go_wp2_with fail
        go_quiet (fail)
        go_wp2_with fail
        go_ret
        exact ⟨by rw [HX.out]; rfl, (hfr.drewN _).toBelow (by simp)⟩
      have t3 : decide (n ≤ z) = false := decide_eq_false hzn
      by_cases hk0 : k = 0
      · have hl : last = -1 := by have := HLA.out; omega
        have HN : Hid (incB (-1) l n = incB z (l.drop (k + 1)) n) := Lib.hid (by rw [HIN.out, HD.out]; exact incB_step (by omega) (by omega))
        have t4 : decide ((0 : Int) < (k : Int)) = false := by simp; omega
        have t4' : decide (0 < k) = false := by simp; omega
        have HZ0 : Hid (0 ≤ z) := Lib.hid (by omega)
        clear hl hz0 hzn hk0
        go_wp2_with fail
        go_quiet (fail)
        go_wp2_with fail
        go_roundg (l.length + 1 - (k + 1))
        case measure => have := HG.out; omega
        case rel => exact ⟨k + 1, z, by omega, rfl, by go_num, HN.out, Or.inr ⟨HZN.out.1, HZN.out.2, HZ0.out⟩, hfr.drewN _⟩
      · have t4 : decide ((0 : Int) < (k : Int)) = true := by simp; omega
        have t4' : decide (0 < k) = true := by simp; omega
        obtain ⟨j, hj⟩ : ∃ j, j = k - 1 := ⟨_, rfl⟩
        have hll : last = l.getD j 0 := by have := HLA.out; rw [hj]; omega
        have x1 : IntKind.i64.wrap ((k : Int) - 1) = (j : Int) := by rw [IntWalk.i64_in _ (by omega)]; omega
        have c1 := hfr.cell (HV.out.cell j (by omega)) (by simp)
        rw [← hll] at c1
        have g2 : (0 : Int) ≤ (j : Int) := by omega
        have g3 : (j : Int) < (l.length : Int) := by omega
        clear hj hll
        by_cases hzl : z ≤ last
        · have HX : Hid (r = false) := Lib.hid (by rw [ER.out, HIN.out, HD.out]; exact incB_low hzl)
          have t5 : decide (z ≤ last) = true := decide_eq_true hzl
          clear hz0 hzn hk0
          go_wp2_with fail
          go_quiet (fail)
          go_wp2_with fail
          go_ret
          exact ⟨by rw [HX.out]; rfl, (hfr.drewN _).toBelow (by simp)⟩
        · have t5 : decide (z ≤ last) = false := decide_eq_false hzl
          have HN : Hid (incB (-1) l n = incB z (l.drop (k + 1)) n) := Lib.hid (by rw [HIN.out, HD.out]; exact incB_step (by omega) (by omega))
          have HZ0 : Hid (0 ≤ z) := Lib.hid (by omega)
          clear hz0 hzn hk0 hzl
          go_wp2_with fail
          go_quiet (fail)
          go_wp2_with fail
          go_roundg (l.length + 1 - (k + 1))
          case measure => have := HG.out; omega
          case rel => exact ⟨k + 1, z, by omega, rfl, by go_num, HN.out, Or.inr ⟨HZN.out.1, HZN.out.2, HZ0.out⟩, hfr.drewN _⟩
    · obtain rfl : k = l.length := by omega
      have t1 : decide ((l.length : Int) < (l.length : Int)) = false := by simp
      have HX : Hid (r = decide (0 ≤ last)) := Lib.hid (by rw [ER.out, HIN.out, List.drop_length]; rfl)
      by_cases h0 : l.length = 0
      · have t2 : decide ((0 : Int) < (l.length : Int)) = false := decide_eq_false (by omega)
        have t2' : decide (0 < l.length) = false := decide_eq_false (by omega)
        have HY : Hid (r = false) := Lib.hid (by rw [HX.out]; exact decide_eq_false (by have := HLA.out; omega))
        clear h0
        go_wp2_with fail
        go_ret
        exact ⟨by rw [HY.out]; rfl, hfr.toBelow (by simp)⟩
      · have t2 : decide ((0 : Int) < (l.length : Int)) = true := decide_eq_true (by omega)
        have t2' : decide (0 < l.length) = true := decide_eq_true (by omega)
        have HY : Hid (r = true) := Lib.hid (by rw [HX.out]; exact decide_eq_true (by have := HLA.out; omega))
        clear h0
        go_wp2_with fail
        go_ret
        exact ⟨by rw [HY.out]; rfl, hfr.toBelow (by simp)⟩

set_option maxRecDepth 100000 in
set_option maxHeartbeats 8000000 in
theorem rcheckW_any (root : List UInt8) (v : Value) (d : Disc) (w : World) (hv : DiscW w v d) (hd : DSmall d) :
    Calls Tryd.prog 25 #[.string ⟨root.toArray⟩, v] w fun e w' => e = .returned (.bool (chkD root d)) ∧ Below w.heap.size w w' := by
  have hmx : Tryd.prog.follows .mixedOrders = true := by kernel_rfl
  obtain ⟨wv, qv, pv, rfl, hw, hq, hp⟩ := hv
  obtain ⟨wa, wcap, rfl, hwl, hwc, hwa⟩ := hw.form
  obtain ⟨qa, qcap, rfl, hql, hqa⟩ := hq.form
  obtain ⟨pa, pcap, rfl, hpl, hpc, hpa⟩ := hp.form
  have HW := Lib.hid hw
  have HQ := Lib.hid hq
  have HP := Lib.hid hp
  have HD := Lib.hid hd
  clear hw hq hp hd
  obtain ⟨r, er⟩ : ∃ r, r = chkD root d := ⟨_, rfl⟩
  have HR := Lib.hid er
  rw [← er]
  clear er
  go_enter Tryd.func25, Tryd.ntmps25
  have f0 : Fr [] w (w.alloc (.cells #[.int .i64 d.count, .slice wa d.which.length wcap, .slice qa d.fields.length qcap, .slice pa d.paths.length pcap] 26)) := (Fr.refl [] w).alloc _
  have q0 : DAt w.heap.size (.int .i64 d.count) (.slice wa d.which.length wcap) (.slice qa d.fields.length qcap) (.slice pa d.paths.length pcap) (w.alloc (.cells #[.int .i64 d.count, .slice wa d.which.length wcap, .slice qa d.fields.length qcap, .slice pa d.paths.length pcap] 26)) := DAt.of (heap_new rfl)
  go_wp2_with fail
  generalize w.alloc (.cells #[.int .i64 d.count, .slice wa d.which.length wcap, .slice qa d.fields.length qcap, .slice pa d.paths.length pcap] 26) = w0 at f0 q0 ⊢
  obtain ⟨db, edb⟩ : ∃ b, b = w.heap.size := ⟨_, rfl⟩
  rw [← edb] at q0 ⊢
  have EDB := Lib.hid edb
  have Q0 := Lib.hid q0
  clear edb
  obtain ⟨c0, c1, c2, c3⟩ := q0
  go_wp2_with fail
  refine (which_any _ d.which d.count w0 (HW.out.fr0 f0)).mono ?_
  rintro e w1 ⟨rfl, hb1⟩
  have f1 : Fr [] w0 w1 := Fr.ofBelow hb1
  clear hb1 c0 c1 c2 c3
  obtain ⟨c0, c1, c2, c3⟩ := Q0.out.fr f1 (by simp)
  cases hinc : incB (-1) d.which d.count with
  | false =>
    have HX : Hid (r = false) := Lib.hid (by rw [HR.out]; exact chk_false_inc hinc)
    clear hinc
    go_wp2_with fail
    go_ret
    exact ⟨by rw [HX.out]; rfl, (f0.trans f1 (by simp)).toBelow (by simp)⟩
  | true => ?_
  have HIN := Lib.hid (incB_in hinc (by decide))
  have HINC := Lib.hid hinc
  clear hinc
  by_cases h1 : d.fields.length = d.which.length
  case neg =>
    have t1 : ((d.fields.length : Int) != (d.which.length : Int)) = true := by simp; omega
    have t1' : (d.fields.length != d.which.length) = true := by simp; omega
    have HX : Hid (r = false) := Lib.hid (by rw [HR.out]; exact chk_false_f h1)
    go_wp2_with fail
    go_ret
    exact ⟨by rw [HX.out]; rfl, (f0.trans f1 (by simp)).toBelow (by simp)⟩
  have t1 : ((d.fields.length : Int) != (d.which.length : Int)) = false := by simp; omega
  have t1' : (d.fields.length != d.which.length) = false := by simp; omega
  have HN1 := Lib.hid h1
  clear h1
  by_cases h2 : d.paths.length = d.which.length
  case neg =>
    have t2 : ((d.paths.length : Int) != (d.which.length : Int)) = true := by simp; omega
    have t2' : (d.paths.length != d.which.length) = true := by simp; omega
    have HX : Hid (r = false) := Lib.hid (by rw [HR.out]; exact chk_false_p h2)
    go_wp2_with fail
    go_ret
    exact ⟨by rw [HX.out]; rfl, (f0.trans f1 (by simp)).toBelow (by simp)⟩
  have t2 : ((d.paths.length : Int) != (d.which.length : Int)) = false := by simp; omega
  have t2' : (d.paths.length != d.which.length) = false := by simp; omega
  have HN2 := Lib.hid h2
  clear h2
  go_wp2_with fail
  go_loopg [5] (d.which.length + 1) (fun gh i wr => ∃ k : Nat, k ≤ d.which.length ∧ gh = d.which.length + 1 - k ∧ i = .int .i64 (k : Int) ∧ (∀ j, j < k → stepB root d j = true) ∧ Fr [] w0 wr)
  case atStart => exact ⟨0, by omega, by omega, rfl, fun j hj => absurd hj (Nat.not_lt_zero _), f1⟩
  case round =>
    clear c0 c1 c2 c3 f1 t1 t1' t2 t2'
    obtain ⟨k, hk, hgh, rfl, hst, hfr⟩ := hrel
    have HG := Lib.hid hgh
    have HST := Lib.hid hst
    clear hgh hst
    have g3r : Fr [] w wr := f0.trans hfr (by simp)
    obtain ⟨c0, c1, c2, c3⟩ := Q0.out.fr hfr (by simp)
    by_cases hlt : k < d.which.length
    · have t1 : decide ((k : Int) < (d.which.length : Int)) = true := by simp; omega
      obtain ⟨wb, wo, rfl⟩ := hwa k hlt
      obtain ⟨qb, qo, rfl⟩ := hqa k (by rw [HN1.out]; exact hlt)
      obtain ⟨pb, po, rfl⟩ := hpa k (by rw [HN2.out]; exact hlt)
      have cw := g3r.cell (HW.out.cell k hlt) (by simp)
      have cq := g3r.cell (HQ.out.cell k (by rw [HN1.out]; exact hlt)) (by simp)
      obtain ⟨u, hcu, hsu⟩ := HP.out.cell k (by rw [HN2.out]; exact hlt)
      have cu := g3r.cell hcu (by simp)
      have HZ := Lib.hid (HIN.out _ (getD_mem d.which k 0 hlt))
      have HNN := Lib.hid HD.out.n
      have HQL : Hid ((d.fields.getD k []).length ≤ 100000) := Lib.hid (HD.out.f _ (getD_mem d.fields k [] (by rw [HN1.out]; exact hlt)))
      have HPL : Hid (∀ y ∈ d.paths.getD k [], y.length ≤ 100000) := Lib.hid (HD.out.p _ (getD_mem d.paths k [] (by rw [HN2.out]; exact hlt)))
      have HSB : Hid (∀ (x : List UInt8) (p : List (List UInt8)), d.paths.getD k [] = x :: p → stepB root d k = (isD x && chkB root d.count (d.which.getD k 0) (x ++ d.fields.getD k []) p)) := Lib.hid (fun x p h => by unfold stepB; rw [h])
      have HSN : Hid (d.paths.getD k [] = [] → stepB root d k = false) := Lib.hid (fun h => by unfold stepB; rw [h])
      have g0 : (0 : Int) ≤ (k : Int) := by omega
      have g1 : (k : Int) < (d.which.length : Int) := by omega
      have g2 : (k : Int) < (d.fields.length : Int) := by have := HN1.out; omega
      have g3 : (k : Int) < (d.paths.length : Int) := by have := HN2.out; omega
      generalize d.which.getD k 0 = z at cw HZ HSB
      generalize d.fields.getD k [] = f at cq HQL HSB
      generalize d.paths.getD k [] = pp at hsu HPL HSB HSN
      obtain ⟨ua, ucap, rfl, _, hua⟩ := hsu.form
      clear hcu
      rcases pp with _ | ⟨x, p⟩
      · have HX : Hid (r = false) := Lib.hid (by rw [HR.out]; exact chk_false_at hlt (HSN.out rfl))
        rw [List.length_nil] at cu
        clear hsu hua HPL HSB HSN
        go_wp2_with fail
        have hh0 : Fr [] wr wr.drew := (Fr.refl [] wr).drew
        have hS0 : True := trivial
        refine region_held 100 (fun W' => True) hmx ?_
        change Held _ _ _ _ _ _ 33 (Array.replicate 33 false) _ _
        refine hd_take 0 (v := .slice ua 0 ucap) rfl (by kernel_rfl) (by kernel_rfl) (by kernel_rfl) rfl hS0 (fun W' hS => by go_simp) rfl ?_
        simp only [Act.put, List.setIfInBounds_toArray, List.set_cons_zero, List.set_cons_succ]
        refine hd_take 1 (v := .int .i64 0) rfl (by kernel_rfl) (by kernel_rfl) (by kernel_rfl) rfl hS0 (fun W' hS => by go_simp) rfl ?_
        simp only [Act.put, List.setIfInBounds_toArray, List.set_cons_zero, List.set_cons_succ]
        refine hd_take 2 (v := .bool true) rfl (by kernel_rfl) (by kernel_rfl) (by kernel_rfl) rfl hS0 (fun W' hS => by go_simp) rfl ?_
        simp only [Act.put, List.setIfInBounds_toArray, List.set_cons_zero, List.set_cons_succ]
        refine hd_take 3 (v := .bool true) rfl (by kernel_rfl) (by kernel_rfl) (by kernel_rfl) rfl hS0 (fun W' hS => by go_simp) rfl ?_
        simp only [Act.put, List.setIfInBounds_toArray, List.set_cons_zero, List.set_cons_succ]
        refine hd_skip 4 rfl (by kernel_rfl) (by kernel_rfl) (by kernel_rfl) rfl hS0 rfl ?_
        simp only [Act.put, List.setIfInBounds_toArray, List.set_cons_zero, List.set_cons_succ]
        refine hd_skip 5 rfl (by kernel_rfl) (by kernel_rfl) (by kernel_rfl) rfl hS0 rfl ?_
        simp only [Act.put, List.setIfInBounds_toArray, List.set_cons_zero, List.set_cons_succ]
        refine hd_skip 6 rfl (by kernel_rfl) (by kernel_rfl) (by kernel_rfl) rfl hS0 rfl ?_
        simp only [Act.put, List.setIfInBounds_toArray, List.set_cons_zero, List.set_cons_succ]
        refine hd_skip 7 rfl (by kernel_rfl) (by kernel_rfl) (by kernel_rfl) rfl hS0 rfl ?_
        simp only [Act.put, List.setIfInBounds_toArray, List.set_cons_zero, List.set_cons_succ]
        refine hd_skip 8 rfl (by kernel_rfl) (by kernel_rfl) (by kernel_rfl) rfl hS0 rfl ?_
        simp only [Act.put, List.setIfInBounds_toArray, List.set_cons_zero, List.set_cons_succ]
        refine hd_take 9 (v := .bool true) rfl (by kernel_rfl) (by kernel_rfl) (by kernel_rfl) rfl hS0 (fun W' hS => by go_simp) rfl ?_
        simp only [Act.put, List.setIfInBounds_toArray, List.set_cons_zero, List.set_cons_succ]
        refine hd_take 10 (v := .bool true) rfl (by kernel_rfl) (by kernel_rfl) (by kernel_rfl) rfl hS0 (fun W' hS => by go_simp) rfl ?_
        simp only [Act.put, List.setIfInBounds_toArray, List.set_cons_zero, List.set_cons_succ]
        refine hd_skip 11 rfl (by kernel_rfl) (by kernel_rfl) (by kernel_rfl) rfl hS0 rfl ?_
        refine hd_skip 12 rfl (by kernel_rfl) (by kernel_rfl) (by kernel_rfl) rfl hS0 rfl ?_
        refine hd_skip 14 rfl (by kernel_rfl) (by kernel_rfl) (by kernel_rfl) rfl hS0 rfl ?_
        refine hd_skip 16 rfl (by kernel_rfl) (by kernel_rfl) (by kernel_rfl) rfl hS0 rfl ?_
        refine hd_skip 19 rfl (by kernel_rfl) (by kernel_rfl) (by kernel_rfl) rfl hS0 rfl ?_
        refine hd_skip 22 rfl (by kernel_rfl) (by kernel_rfl) (by kernel_rfl) rfl hS0 rfl ?_
        refine hd_skip 24 rfl (by kernel_rfl) (by kernel_rfl) (by kernel_rfl) rfl hS0 rfl ?_
        refine hd_skip 28 rfl (by kernel_rfl) (by kernel_rfl) (by kernel_rfl) rfl hS0 rfl ?_
        simp only [Act.put, List.setIfInBounds_toArray, List.set_cons_zero, List.set_cons_succ]
        refine hd_skip 13 rfl (by kernel_rfl) (by kernel_rfl) (by kernel_rfl) rfl hS0 rfl ?_
        refine hd_skip 15 rfl (by kernel_rfl) (by kernel_rfl) (by kernel_rfl) rfl hS0 rfl ?_
        refine hd_skip 20 rfl (by kernel_rfl) (by kernel_rfl) (by kernel_rfl) rfl hS0 rfl ?_
        refine hd_skip 23 rfl (by kernel_rfl) (by kernel_rfl) (by kernel_rfl) rfl hS0 rfl ?_
        refine hd_skip 29 rfl (by kernel_rfl) (by kernel_rfl) (by kernel_rfl) rfl hS0 rfl ?_
        simp only [Act.put, List.setIfInBounds_toArray, List.set_cons_zero, List.set_cons_succ]
        refine hd_skip 17 rfl (by kernel_rfl) (by kernel_rfl) (by kernel_rfl) rfl hS0 rfl ?_
        refine hd_skip 21 rfl (by kernel_rfl) (by kernel_rfl) (by kernel_rfl) rfl hS0 rfl ?_
        refine hd_skip 25 rfl (by kernel_rfl) (by kernel_rfl) (by kernel_rfl) rfl hS0 rfl ?_
        simp only [Act.put, List.setIfInBounds_toArray, List.set_cons_zero, List.set_cons_succ]
        refine hd_skip 18 rfl (by kernel_rfl) (by kernel_rfl) (by kernel_rfl) rfl hS0 rfl ?_
        refine hd_skip 26 rfl (by kernel_rfl) (by kernel_rfl) (by kernel_rfl) rfl hS0 rfl ?_
        simp only [Act.put, List.setIfInBounds_toArray, List.set_cons_zero, List.set_cons_succ]
        refine hd_skip 27 rfl (by kernel_rfl) (by kernel_rfl) (by kernel_rfl) rfl hS0 rfl ?_
        simp only [Act.put, List.setIfInBounds_toArray, List.set_cons_zero, List.set_cons_succ]
        refine hd_skip 30 rfl (by kernel_rfl) (by kernel_rfl) (by kernel_rfl) rfl hS0 rfl ?_
        simp only [Act.put, List.setIfInBounds_toArray, List.set_cons_zero, List.set_cons_succ]
        refine hd_skip 31 rfl (by kernel_rfl) (by kernel_rfl) (by kernel_rfl) rfl hS0 rfl ?_
        simp only [Act.put, List.setIfInBounds_toArray, List.set_cons_zero, List.set_cons_succ]
        refine hd_take 32 (v := .bool true) rfl (by kernel_rfl) (by kernel_rfl) (by kernel_rfl) rfl hS0 (fun W' hS => by go_simp) rfl ?_
        simp only [Act.put, List.setIfInBounds_toArray, List.set_cons_zero, List.set_cons_succ]
        refine held_done (by kernel_rfl) ?_
        have HH : Fr [] wr wr.drew := hh0
        go_wp2_with fail
        go_ret
        exact ⟨by rw [HX.out]; rfl, (g3r.trans HH (by simp)).toBelow (by simp)⟩
      · have hsu := hsu.strong (by simp)
        obtain ⟨ub, uo, rfl⟩ := hua 0 (by simp)
        have c5 := g3r.cell (hsu.cell 0 (by simp)) (by simp)
        rw [Nat.add_zero, show (x :: p).getD 0 [] = x from rfl] at c5
        have hcap := hsu.capOf
        have HUB : Hid (ub < w.heap.size) := Lib.hid (hsu.blk ub rfl)
        have HTL := Lib.hid (hsu.tl (by simp))
        have hxl := HPL.out x (by simp)
        have HPS : Hid (∀ y ∈ p, y.length ≤ 1000000) := Lib.hid (fun y hy => by have := HPL.out y (by simp [hy]); omega)
        have HSB2 := Lib.hid (HSB.out x p rfl)
        have hlen : (x :: p).length = p.length + 1 := rfl
        rw [hlen] at cu HTL hcap
        obtain ⟨pn, epn⟩ : ∃ pn, pn = p.length + 1 := ⟨_, rfl⟩
        rw [← epn] at cu HTL hcap
        have hxl2 : x.length ≤ 9223372036854775807 := by omega
        have t7 : ((pn : Int) == 0) = false := by rw [beq_eq_false_iff_ne]; omega
        have t7' : (pn == 0) = false := by rw [beq_eq_false_iff_ne]; omega
        have g6 : (0 : Int) < (pn : Int) := by omega
        have g6' : 0 < pn := by omega
        have g7 : (1 : Int) ≤ (pn : Int) := by omega
        have EPN := Lib.hid epn
        have hql9 := HQL.out
        have HIS : Hid (∀ W, Calls Tryd.prog 60 #[.string ⟨x.toArray⟩] W fun e w' => e = .returned (.bool (isD x)) ∧ Below W.heap.size W w') := Lib.hid (fun W => (ris_any x W hxl2).mono (fun e w' h => ⟨h.1, by rw [h.2]; exact Below.refl _ _⟩))
        have HCK : ∀ (pq : Value), Strs w pq p → Hid (∀ W, Fr [] wr W → Calls Tryd.prog 61 #[.string ⟨root.toArray⟩, .int .i64 d.count, .int .i64 z, .string ⟨(x ++ f).toArray⟩, pq] W fun e w' => e = .returned (.bool (chkB root d.count z (x ++ f) p)) ∧ Below W.heap.size W w') := fun pq hpq => Lib.hid (fun W hW =>
          rcheck_any root (x ++ f) d.count z pq p W HNN.out (by have := HZ.out; have := HNN.out; omega) (hpq.fr0 (g3r.trans hW (by simp))) (by rw [List.length_append]; omega) HPS.out)
        clear hsu hua HPL HSB HSN hlen epn
        cases hx : isD x with
        | false =>
          have HX : Hid (r = false) := Lib.hid (by rw [HR.out]; exact chk_false_at hlt (by rw [HSB2.out, hx]; rfl))
          rw [hx] at HIS
          clear hx HCK
          go_wp2_with fail
          have hc0 := c5
          have hh0 : Fr [] wr wr.drew := (Fr.refl [] wr).drew
          have hS0 : wr.drew.cell? ⟨ub, uo, none⟩ = some (.string ⟨x.toArray⟩) := hh0.cell hc0 (by simp)
          refine region_held 100 (fun W' => W'.cell? ⟨ub, uo, none⟩ = some (.string ⟨x.toArray⟩)) hmx ?_
          change Held _ _ _ _ _ _ 33 (Array.replicate 33 false) _ _
          refine hd_take 0 (v := .slice (some ⟨ub, uo, none⟩) pn ucap) rfl (by kernel_rfl) (by kernel_rfl) (by kernel_rfl) rfl hS0 (fun W' hS => by go_simp) rfl ?_
          simp only [Act.put, List.setIfInBounds_toArray, List.set_cons_zero, List.set_cons_succ]
          refine hd_take 1 (v := .int .i64 (pn : Int)) rfl (by kernel_rfl) (by kernel_rfl) (by kernel_rfl) rfl hS0 (fun W' hS => by go_simp) rfl ?_
          simp only [Act.put, List.setIfInBounds_toArray, List.set_cons_zero, List.set_cons_succ]
          refine hd_take 2 (v := .bool false) rfl (by kernel_rfl) (by kernel_rfl) (by kernel_rfl) rfl hS0 (fun W' hS => by go_simp) rfl ?_
          simp only [Act.put, List.setIfInBounds_toArray, List.set_cons_zero, List.set_cons_succ]
          refine hd_take 3 (v := .bool false) rfl (by kernel_rfl) (by kernel_rfl) (by kernel_rfl) rfl hS0 (fun W' hS => by go_simp) rfl ?_
          simp only [Act.put, List.setIfInBounds_toArray, List.set_cons_zero, List.set_cons_succ]
          refine hd_take 4 (v := .slice (some ⟨ub, uo, none⟩) pn ucap) rfl (by kernel_rfl) (by kernel_rfl) (by kernel_rfl) rfl hS0 (fun W' hS => by go_simp) rfl ?_
          simp only [Act.put, List.setIfInBounds_toArray, List.set_cons_zero, List.set_cons_succ]
          refine hd_take 5 (v := .pointer (some ⟨ub, uo, none⟩)) rfl (by kernel_rfl) (by kernel_rfl) (by kernel_rfl) rfl hS0 (fun W' hS => by first | (go_simp; done) | (go_simp; intro hix; omega)) rfl ?_
          simp only [Act.put, List.setIfInBounds_toArray, List.set_cons_zero, List.set_cons_succ]
          refine hd_take 6 (v := .string ⟨x.toArray⟩) rfl (by kernel_rfl) (by kernel_rfl) (by kernel_rfl) rfl hS0 (fun W' hS => by have h1 := hS; go_simp) rfl ?_
          simp only [Act.put, List.setIfInBounds_toArray, List.set_cons_zero, List.set_cons_succ]
          refine hd_one 7 (by kernel_rfl) rfl (by kernel_rfl) rfl (fun K' hK => ?_)
          go_simp
          refine (HIS.out wr.drew).mono ?_
          rintro e wq1 ⟨rfl, hb⟩
          have hh1 : Fr [] wr wq1 := hh0.below hb hh0.size
          clear hb
          have hS1 : wq1.cell? ⟨ub, uo, none⟩ = some (.string ⟨x.toArray⟩) := hh1.cell hc0 (by simp)
          refine hK.out _ _ (fun _ => hS1) ?_
          clear hK K'
          try simp only [Act.put, List.setIfInBounds_toArray, List.set_cons_zero, List.set_cons_succ]
          refine hd_take 8 (v := .bool true) rfl (by kernel_rfl) (by kernel_rfl) (by kernel_rfl) rfl hS1 (fun W' hS => by go_simp) rfl ?_
          simp only [Act.put, List.setIfInBounds_toArray, List.set_cons_zero, List.set_cons_succ]
          refine hd_take 9 (v := .bool true) rfl (by kernel_rfl) (by kernel_rfl) (by kernel_rfl) rfl hS1 (fun W' hS => by go_simp) rfl ?_
          simp only [Act.put, List.setIfInBounds_toArray, List.set_cons_zero, List.set_cons_succ]
          refine hd_take 10 (v := .bool true) rfl (by kernel_rfl) (by kernel_rfl) (by kernel_rfl) rfl hS1 (fun W' hS => by go_simp) rfl ?_
          simp only [Act.put, List.setIfInBounds_toArray, List.set_cons_zero, List.set_cons_succ]
          refine hd_skip 11 rfl (by kernel_rfl) (by kernel_rfl) (by kernel_rfl) rfl hS1 rfl ?_
          refine hd_skip 12 rfl (by kernel_rfl) (by kernel_rfl) (by kernel_rfl) rfl hS1 rfl ?_
          refine hd_skip 14 rfl (by kernel_rfl) (by kernel_rfl) (by kernel_rfl) rfl hS1 rfl ?_
          refine hd_skip 16 rfl (by kernel_rfl) (by kernel_rfl) (by kernel_rfl) rfl hS1 rfl ?_
          refine hd_skip 19 rfl (by kernel_rfl) (by kernel_rfl) (by kernel_rfl) rfl hS1 rfl ?_
          refine hd_skip 22 rfl (by kernel_rfl) (by kernel_rfl) (by kernel_rfl) rfl hS1 rfl ?_
          refine hd_skip 24 rfl (by kernel_rfl) (by kernel_rfl) (by kernel_rfl) rfl hS1 rfl ?_
          refine hd_skip 28 rfl (by kernel_rfl) (by kernel_rfl) (by kernel_rfl) rfl hS1 rfl ?_
          simp only [Act.put, List.setIfInBounds_toArray, List.set_cons_zero, List.set_cons_succ]
          refine hd_skip 13 rfl (by kernel_rfl) (by kernel_rfl) (by kernel_rfl) rfl hS1 rfl ?_
          refine hd_skip 15 rfl (by kernel_rfl) (by kernel_rfl) (by kernel_rfl) rfl hS1 rfl ?_
          refine hd_skip 20 rfl (by kernel_rfl) (by kernel_rfl) (by kernel_rfl) rfl hS1 rfl ?_
          refine hd_skip 23 rfl (by kernel_rfl) (by kernel_rfl) (by kernel_rfl) rfl hS1 rfl ?_
          refine hd_skip 29 rfl (by kernel_rfl) (by kernel_rfl) (by kernel_rfl) rfl hS1 rfl ?_
          simp only [Act.put, List.setIfInBounds_toArray, List.set_cons_zero, List.set_cons_succ]
          refine hd_skip 17 rfl (by kernel_rfl) (by kernel_rfl) (by kernel_rfl) rfl hS1 rfl ?_
          refine hd_skip 21 rfl (by kernel_rfl) (by kernel_rfl) (by kernel_rfl) rfl hS1 rfl ?_
          refine hd_skip 25 rfl (by kernel_rfl) (by kernel_rfl) (by kernel_rfl) rfl hS1 rfl ?_
          simp only [Act.put, List.setIfInBounds_toArray, List.set_cons_zero, List.set_cons_succ]
          refine hd_skip 18 rfl (by kernel_rfl) (by kernel_rfl) (by kernel_rfl) rfl hS1 rfl ?_
          refine hd_skip 26 rfl (by kernel_rfl) (by kernel_rfl) (by kernel_rfl) rfl hS1 rfl ?_
          simp only [Act.put, List.setIfInBounds_toArray, List.set_cons_zero, List.set_cons_succ]
          refine hd_skip 27 rfl (by kernel_rfl) (by kernel_rfl) (by kernel_rfl) rfl hS1 rfl ?_
          simp only [Act.put, List.setIfInBounds_toArray, List.set_cons_zero, List.set_cons_succ]
          refine hd_skip 30 rfl (by kernel_rfl) (by kernel_rfl) (by kernel_rfl) rfl hS1 rfl ?_
          simp only [Act.put, List.setIfInBounds_toArray, List.set_cons_zero, List.set_cons_succ]
          refine hd_skip 31 rfl (by kernel_rfl) (by kernel_rfl) (by kernel_rfl) rfl hS1 rfl ?_
          simp only [Act.put, List.setIfInBounds_toArray, List.set_cons_zero, List.set_cons_succ]
          refine hd_take 32 (v := .bool true) rfl (by kernel_rfl) (by kernel_rfl) (by kernel_rfl) rfl hS1 (fun W' hS => by go_simp) rfl ?_
          simp only [Act.put, List.setIfInBounds_toArray, List.set_cons_zero, List.set_cons_succ]
          refine held_done (by kernel_rfl) ?_
          have HH : Fr [] wr wq1 := hh1
          go_wp2_with fail
          go_ret
          exact ⟨by rw [HX.out]; rfl, (g3r.trans HH (by simp)).toBelow (by simp)⟩
        | true =>
          rw [hx] at HIS HSB2
          rw [Bool.true_and] at HSB2
          clear hx
          generalize chkB root d.count z (x ++ f) p = cb at HSB2 HCK
          by_cases hq1 : ucap = 1
          · subst hq1
            obtain rfl : p = [] := List.length_eq_zero_iff.1 (by have := EPN.out; omega)
            obtain rfl : pn = 1 := EPN.out
            have HFF := HCK _ (Or.inr ⟨ub, uo, 0, rfl, by simp, by decide, HUB.out, fun i hi => absurd hi (by simp)⟩)
            clear HCK
            go_wp2_with fail
            have hc0 := c5
            have hc1 := c0
            have hc2 := c1
            have hc3 := c2
            have hc4 := cw
            have hc5 := cq
            have hh0 : Fr [] wr wr.drew := (Fr.refl [] wr).drew
            have hS0 : wr.drew.cell? ⟨ub, uo, none⟩ = some (.string ⟨x.toArray⟩) ∧ wr.drew.cell? ⟨db, 0, none⟩ = some (.int .i64 d.count) ∧ wr.drew.cell? ⟨db, 1, none⟩ = some (.slice (some ⟨wb, wo, none⟩) d.which.length wcap) ∧ wr.drew.cell? ⟨db, 2, none⟩ = some (.slice (some ⟨qb, qo, none⟩) d.fields.length qcap) ∧ wr.drew.cell? ⟨wb, wo + k, none⟩ = some (.int .i64 z) ∧ wr.drew.cell? ⟨qb, qo + k, none⟩ = some (.string ⟨f.toArray⟩) := ⟨hh0.cell hc0 (by simp), hh0.cell hc1 (by simp), hh0.cell hc2 (by simp), hh0.cell hc3 (by simp), hh0.cell hc4 (by simp), hh0.cell hc5 (by simp)⟩
            refine region_held 100 (fun W' => W'.cell? ⟨ub, uo, none⟩ = some (.string ⟨x.toArray⟩) ∧ W'.cell? ⟨db, 0, none⟩ = some (.int .i64 d.count) ∧ W'.cell? ⟨db, 1, none⟩ = some (.slice (some ⟨wb, wo, none⟩) d.which.length wcap) ∧ W'.cell? ⟨db, 2, none⟩ = some (.slice (some ⟨qb, qo, none⟩) d.fields.length qcap) ∧ W'.cell? ⟨wb, wo + k, none⟩ = some (.int .i64 z) ∧ W'.cell? ⟨qb, qo + k, none⟩ = some (.string ⟨f.toArray⟩)) hmx ?_
            change Held _ _ _ _ _ _ 33 (Array.replicate 33 false) _ _
            refine hd_take 0 (v := .slice (some ⟨ub, uo, none⟩) 1 1) rfl (by kernel_rfl) (by kernel_rfl) (by kernel_rfl) rfl hS0 (fun W' hS => by go_simp) rfl ?_
            simp only [Act.put, List.setIfInBounds_toArray, List.set_cons_zero, List.set_cons_succ]
            refine hd_take 1 (v := .int .i64 1) rfl (by kernel_rfl) (by kernel_rfl) (by kernel_rfl) rfl hS0 (fun W' hS => by go_simp) rfl ?_
            simp only [Act.put, List.setIfInBounds_toArray, List.set_cons_zero, List.set_cons_succ]
            refine hd_take 2 (v := .bool false) rfl (by kernel_rfl) (by kernel_rfl) (by kernel_rfl) rfl hS0 (fun W' hS => by go_simp) rfl ?_
            simp only [Act.put, List.setIfInBounds_toArray, List.set_cons_zero, List.set_cons_succ]
            refine hd_take 3 (v := .bool false) rfl (by kernel_rfl) (by kernel_rfl) (by kernel_rfl) rfl hS0 (fun W' hS => by go_simp) rfl ?_
            simp only [Act.put, List.setIfInBounds_toArray, List.set_cons_zero, List.set_cons_succ]
            refine hd_take 4 (v := .slice (some ⟨ub, uo, none⟩) 1 1) rfl (by kernel_rfl) (by kernel_rfl) (by kernel_rfl) rfl hS0 (fun W' hS => by go_simp) rfl ?_
            simp only [Act.put, List.setIfInBounds_toArray, List.set_cons_zero, List.set_cons_succ]
            refine hd_take 5 (v := .pointer (some ⟨ub, uo, none⟩)) rfl (by kernel_rfl) (by kernel_rfl) (by kernel_rfl) rfl hS0 (fun W' hS => by first | (go_simp; done) | (go_simp; intro hix; omega)) rfl ?_
            simp only [Act.put, List.setIfInBounds_toArray, List.set_cons_zero, List.set_cons_succ]
            refine hd_take 6 (v := .string ⟨x.toArray⟩) rfl (by kernel_rfl) (by kernel_rfl) (by kernel_rfl) rfl hS0 (fun W' hS => by obtain ⟨h0, h1, h2, h3, h4, h5⟩ := hS; go_simp) rfl ?_
            simp only [Act.put, List.setIfInBounds_toArray, List.set_cons_zero, List.set_cons_succ]
            refine hd_one 7 (by kernel_rfl) rfl (by kernel_rfl) rfl (fun K' hK => ?_)
            go_simp
            refine (HIS.out wr.drew).mono ?_
            rintro e wq1 ⟨rfl, hb⟩
            have hh1 : Fr [] wr wq1 := hh0.below hb hh0.size
            clear hb
            have hS1 : wq1.cell? ⟨ub, uo, none⟩ = some (.string ⟨x.toArray⟩) ∧ wq1.cell? ⟨db, 0, none⟩ = some (.int .i64 d.count) ∧ wq1.cell? ⟨db, 1, none⟩ = some (.slice (some ⟨wb, wo, none⟩) d.which.length wcap) ∧ wq1.cell? ⟨db, 2, none⟩ = some (.slice (some ⟨qb, qo, none⟩) d.fields.length qcap) ∧ wq1.cell? ⟨wb, wo + k, none⟩ = some (.int .i64 z) ∧ wq1.cell? ⟨qb, qo + k, none⟩ = some (.string ⟨f.toArray⟩) := ⟨hh1.cell hc0 (by simp), hh1.cell hc1 (by simp), hh1.cell hc2 (by simp), hh1.cell hc3 (by simp), hh1.cell hc4 (by simp), hh1.cell hc5 (by simp)⟩
            refine hK.out _ _ (fun _ => hS1) ?_
            clear hK K'
            try simp only [Act.put, List.setIfInBounds_toArray, List.set_cons_zero, List.set_cons_succ]
            refine hd_take 8 (v := .bool false) rfl (by kernel_rfl) (by kernel_rfl) (by kernel_rfl) rfl hS1 (fun W' hS => by go_simp) rfl ?_
            simp only [Act.put, List.setIfInBounds_toArray, List.set_cons_zero, List.set_cons_succ]
            refine hd_take 9 (v := .bool false) rfl (by kernel_rfl) (by kernel_rfl) (by kernel_rfl) rfl hS1 (fun W' hS => by go_simp) rfl ?_
            simp only [Act.put, List.setIfInBounds_toArray, List.set_cons_zero, List.set_cons_succ]
            refine hd_take 10 (v := .bool false) rfl (by kernel_rfl) (by kernel_rfl) (by kernel_rfl) rfl hS1 (fun W' hS => by go_simp) rfl ?_
            simp only [Act.put, List.setIfInBounds_toArray, List.set_cons_zero, List.set_cons_succ]
            refine hd_take 11 (v := .string ⟨root.toArray⟩) rfl (by kernel_rfl) (by kernel_rfl) (by kernel_rfl) rfl hS1 (fun W' hS => by go_simp) rfl ?_
            refine hd_take 12 (v := .pointer (some ⟨db, 0, none⟩)) rfl (by kernel_rfl) (by kernel_rfl) (by kernel_rfl) rfl hS1 (fun W' hS => by go_simp) rfl ?_
            refine hd_take 14 (v := .pointer (some ⟨db, 1, none⟩)) rfl (by kernel_rfl) (by kernel_rfl) (by kernel_rfl) rfl hS1 (fun W' hS => by go_simp) rfl ?_
            refine hd_take 16 (v := .int .i64 (k : Int)) rfl (by kernel_rfl) (by kernel_rfl) (by kernel_rfl) rfl hS1 (fun W' hS => by go_simp) rfl ?_
            refine hd_take 19 (v := .slice (some ⟨ub, uo, none⟩) 1 1) rfl (by kernel_rfl) (by kernel_rfl) (by kernel_rfl) rfl hS1 (fun W' hS => by go_simp) rfl ?_
            refine hd_take 22 (v := .pointer (some ⟨db, 2, none⟩)) rfl (by kernel_rfl) (by kernel_rfl) (by kernel_rfl) rfl hS1 (fun W' hS => by go_simp) rfl ?_
            refine hd_take 24 (v := .int .i64 (k : Int)) rfl (by kernel_rfl) (by kernel_rfl) (by kernel_rfl) rfl hS1 (fun W' hS => by go_simp) rfl ?_
            refine hd_take 28 (v := .slice (some ⟨ub, uo, none⟩) 1 1) rfl (by kernel_rfl) (by kernel_rfl) (by kernel_rfl) rfl hS1 (fun W' hS => by go_simp) rfl ?_
            simp only [Act.put, List.setIfInBounds_toArray, List.set_cons_zero, List.set_cons_succ]
            refine hd_take 13 (v := .int .i64 d.count) rfl (by kernel_rfl) (by kernel_rfl) (by kernel_rfl) rfl hS1 (fun W' hS => by obtain ⟨h0, h1, h2, h3, h4, h5⟩ := hS; go_simp) rfl ?_
            refine hd_take 15 (v := .slice (some ⟨wb, wo, none⟩) d.which.length wcap) rfl (by kernel_rfl) (by kernel_rfl) (by kernel_rfl) rfl hS1 (fun W' hS => by obtain ⟨h0, h1, h2, h3, h4, h5⟩ := hS; go_simp) rfl ?_
            refine hd_take 20 (v := .pointer (some ⟨ub, uo, none⟩)) rfl (by kernel_rfl) (by kernel_rfl) (by kernel_rfl) rfl hS1 (fun W' hS => by first | (go_simp; done) | (go_simp; intro hix; omega)) rfl ?_
            refine hd_take 23 (v := .slice (some ⟨qb, qo, none⟩) d.fields.length qcap) rfl (by kernel_rfl) (by kernel_rfl) (by kernel_rfl) rfl hS1 (fun W' hS => by obtain ⟨h0, h1, h2, h3, h4, h5⟩ := hS; go_simp) rfl ?_
            refine hd_take 29 (v := .slice (some ⟨ub, uo, none⟩) 0 0) rfl (by kernel_rfl) (by kernel_rfl) (by kernel_rfl) rfl hS1 (fun W' hS => by go_simp) rfl ?_
            simp only [Act.put, List.setIfInBounds_toArray, List.set_cons_zero, List.set_cons_succ]
            refine hd_take 17 (v := .pointer (some ⟨wb, wo + k, none⟩)) rfl (by kernel_rfl) (by kernel_rfl) (by kernel_rfl) rfl hS1 (fun W' hS => by first | (go_simp; done) | (go_simp; intro hix; omega)) rfl ?_
            refine hd_take 21 (v := .string ⟨x.toArray⟩) rfl (by kernel_rfl) (by kernel_rfl) (by kernel_rfl) rfl hS1 (fun W' hS => by obtain ⟨h0, h1, h2, h3, h4, h5⟩ := hS; go_simp) rfl ?_
            refine hd_take 25 (v := .pointer (some ⟨qb, qo + k, none⟩)) rfl (by kernel_rfl) (by kernel_rfl) (by kernel_rfl) rfl hS1 (fun W' hS => by first | (go_simp; done) | (go_simp; intro hix; omega)) rfl ?_
            simp only [Act.put, List.setIfInBounds_toArray, List.set_cons_zero, List.set_cons_succ]
            refine hd_take 18 (v := .int .i64 z) rfl (by kernel_rfl) (by kernel_rfl) (by kernel_rfl) rfl hS1 (fun W' hS => by obtain ⟨h0, h1, h2, h3, h4, h5⟩ := hS; go_simp) rfl ?_
            refine hd_take 26 (v := .string ⟨f.toArray⟩) rfl (by kernel_rfl) (by kernel_rfl) (by kernel_rfl) rfl hS1 (fun W' hS => by obtain ⟨h0, h1, h2, h3, h4, h5⟩ := hS; go_simp) rfl ?_
            simp only [Act.put, List.setIfInBounds_toArray, List.set_cons_zero, List.set_cons_succ]
            refine hd_take 27 (v := .string ⟨(x ++ f).toArray⟩) rfl (by kernel_rfl) (by kernel_rfl) (by kernel_rfl) rfl hS1 (fun W' hS => by first | (go_simp; done) | (go_simp; rw [if_neg (by omega), ba_append])) rfl ?_
            simp only [Act.put, List.setIfInBounds_toArray, List.set_cons_zero, List.set_cons_succ]
            refine hd_one 30 (by kernel_rfl) rfl (by kernel_rfl) rfl (fun K' hK => ?_)
            go_simp
            refine (HFF.out wq1 hh1).mono ?_
            rintro e wq2 ⟨rfl, hb⟩
            have hh2 : Fr [] wr wq2 := hh1.below hb hh1.size
            clear hb
            have hS2 : wq2.cell? ⟨ub, uo, none⟩ = some (.string ⟨x.toArray⟩) ∧ wq2.cell? ⟨db, 0, none⟩ = some (.int .i64 d.count) ∧ wq2.cell? ⟨db, 1, none⟩ = some (.slice (some ⟨wb, wo, none⟩) d.which.length wcap) ∧ wq2.cell? ⟨db, 2, none⟩ = some (.slice (some ⟨qb, qo, none⟩) d.fields.length qcap) ∧ wq2.cell? ⟨wb, wo + k, none⟩ = some (.int .i64 z) ∧ wq2.cell? ⟨qb, qo + k, none⟩ = some (.string ⟨f.toArray⟩) := ⟨hh2.cell hc0 (by simp), hh2.cell hc1 (by simp), hh2.cell hc2 (by simp), hh2.cell hc3 (by simp), hh2.cell hc4 (by simp), hh2.cell hc5 (by simp)⟩
            refine hK.out _ _ (fun _ => hS2) ?_
            clear hK K'
            try simp only [Act.put, List.setIfInBounds_toArray, List.set_cons_zero, List.set_cons_succ]
            refine hd_take 31 (v := .bool (!cb)) rfl (by kernel_rfl) (by kernel_rfl) (by kernel_rfl) rfl hS2 (fun W' hS => by go_simp) rfl ?_
            simp only [Act.put, List.setIfInBounds_toArray, List.set_cons_zero, List.set_cons_succ]
            refine hd_take 32 (v := .bool (!cb)) rfl (by kernel_rfl) (by kernel_rfl) (by kernel_rfl) rfl hS2 (fun W' hS => by go_simp) rfl ?_
            simp only [Act.put, List.setIfInBounds_toArray, List.set_cons_zero, List.set_cons_succ]
            refine held_done (by kernel_rfl) ?_
            have HH : Fr [] wr wq2 := hh2
            generalize wq2 = wy at HH ⊢
            cases cb with
            | false =>
              have HX : Hid (r = false) := Lib.hid (by rw [HR.out]; exact chk_false_at hlt HSB2.out)
              go_wp2_with fail
              go_ret
              exact ⟨by rw [HX.out]; rfl, (g3r.trans HH (by simp)).toBelow (by simp)⟩
            | true =>
              have HST2 : Hid (∀ j, j < k + 1 → stepB root d j = true) := Lib.hid (fun j hj => by
                by_cases hjk : j < k
                · exact HST.out j hjk
                · rw [show j = k by omega]; exact HSB2.out)
              go_wp2_with fail
              go_roundg (d.which.length + 1 - (k + 1))
              case measure => have := HG.out; omega
              case rel => exact ⟨k + 1, by omega, rfl, by go_num, HST2.out, hfr.trans HH (by simp)⟩
          · have HFF := HCK _ HTL.out
            have q2 : (1 : Int) ≤ (ucap : Int) := by omega
            have q3 : ¬ ucap - 1 = 0 := by omega
            have q4 : ¬ ucap ≤ 1 := by omega
            clear HCK
            go_wp2_with fail
            have hc0 := c5
            have hc1 := c0
            have hc2 := c1
            have hc3 := c2
            have hc4 := cw
            have hc5 := cq
            have hh0 : Fr [] wr wr.drew := (Fr.refl [] wr).drew
            have hS0 : wr.drew.cell? ⟨ub, uo, none⟩ = some (.string ⟨x.toArray⟩) ∧ wr.drew.cell? ⟨db, 0, none⟩ = some (.int .i64 d.count) ∧ wr.drew.cell? ⟨db, 1, none⟩ = some (.slice (some ⟨wb, wo, none⟩) d.which.length wcap) ∧ wr.drew.cell? ⟨db, 2, none⟩ = some (.slice (some ⟨qb, qo, none⟩) d.fields.length qcap) ∧ wr.drew.cell? ⟨wb, wo + k, none⟩ = some (.int .i64 z) ∧ wr.drew.cell? ⟨qb, qo + k, none⟩ = some (.string ⟨f.toArray⟩) := ⟨hh0.cell hc0 (by simp), hh0.cell hc1 (by simp), hh0.cell hc2 (by simp), hh0.cell hc3 (by simp), hh0.cell hc4 (by simp), hh0.cell hc5 (by simp)⟩
            refine region_held 100 (fun W' => W'.cell? ⟨ub, uo, none⟩ = some (.string ⟨x.toArray⟩) ∧ W'.cell? ⟨db, 0, none⟩ = some (.int .i64 d.count) ∧ W'.cell? ⟨db, 1, none⟩ = some (.slice (some ⟨wb, wo, none⟩) d.which.length wcap) ∧ W'.cell? ⟨db, 2, none⟩ = some (.slice (some ⟨qb, qo, none⟩) d.fields.length qcap) ∧ W'.cell? ⟨wb, wo + k, none⟩ = some (.int .i64 z) ∧ W'.cell? ⟨qb, qo + k, none⟩ = some (.string ⟨f.toArray⟩)) hmx ?_
            change Held _ _ _ _ _ _ 33 (Array.replicate 33 false) _ _
            refine hd_take 0 (v := .slice (some ⟨ub, uo, none⟩) pn ucap) rfl (by kernel_rfl) (by kernel_rfl) (by kernel_rfl) rfl hS0 (fun W' hS => by go_simp) rfl ?_
            simp only [Act.put, List.setIfInBounds_toArray, List.set_cons_zero, List.set_cons_succ]
            refine hd_take 1 (v := .int .i64 (pn : Int)) rfl (by kernel_rfl) (by kernel_rfl) (by kernel_rfl) rfl hS0 (fun W' hS => by go_simp) rfl ?_
            simp only [Act.put, List.setIfInBounds_toArray, List.set_cons_zero, List.set_cons_succ]
            refine hd_take 2 (v := .bool false) rfl (by kernel_rfl) (by kernel_rfl) (by kernel_rfl) rfl hS0 (fun W' hS => by go_simp) rfl ?_
            simp only [Act.put, List.setIfInBounds_toArray, List.set_cons_zero, List.set_cons_succ]
            refine hd_take 3 (v := .bool false) rfl (by kernel_rfl) (by kernel_rfl) (by kernel_rfl) rfl hS0 (fun W' hS => by go_simp) rfl ?_
            simp only [Act.put, List.setIfInBounds_toArray, List.set_cons_zero, List.set_cons_succ]
            refine hd_take 4 (v := .slice (some ⟨ub, uo, none⟩) pn ucap) rfl (by kernel_rfl) (by kernel_rfl) (by kernel_rfl) rfl hS0 (fun W' hS => by go_simp) rfl ?_
            simp only [Act.put, List.setIfInBounds_toArray, List.set_cons_zero, List.set_cons_succ]
            refine hd_take 5 (v := .pointer (some ⟨ub, uo, none⟩)) rfl (by kernel_rfl) (by kernel_rfl) (by kernel_rfl) rfl hS0 (fun W' hS => by first | (go_simp; done) | (go_simp; intro hix; omega)) rfl ?_
            simp only [Act.put, List.setIfInBounds_toArray, List.set_cons_zero, List.set_cons_succ]
            refine hd_take 6 (v := .string ⟨x.toArray⟩) rfl (by kernel_rfl) (by kernel_rfl) (by kernel_rfl) rfl hS0 (fun W' hS => by obtain ⟨h0, h1, h2, h3, h4, h5⟩ := hS; go_simp) rfl ?_
            simp only [Act.put, List.setIfInBounds_toArray, List.set_cons_zero, List.set_cons_succ]
            refine hd_one 7 (by kernel_rfl) rfl (by kernel_rfl) rfl (fun K' hK => ?_)
            go_simp
            refine (HIS.out wr.drew).mono ?_
            rintro e wq1 ⟨rfl, hb⟩
            have hh1 : Fr [] wr wq1 := hh0.below hb hh0.size
            clear hb
            have hS1 : wq1.cell? ⟨ub, uo, none⟩ = some (.string ⟨x.toArray⟩) ∧ wq1.cell? ⟨db, 0, none⟩ = some (.int .i64 d.count) ∧ wq1.cell? ⟨db, 1, none⟩ = some (.slice (some ⟨wb, wo, none⟩) d.which.length wcap) ∧ wq1.cell? ⟨db, 2, none⟩ = some (.slice (some ⟨qb, qo, none⟩) d.fields.length qcap) ∧ wq1.cell? ⟨wb, wo + k, none⟩ = some (.int .i64 z) ∧ wq1.cell? ⟨qb, qo + k, none⟩ = some (.string ⟨f.toArray⟩) := ⟨hh1.cell hc0 (by simp), hh1.cell hc1 (by simp), hh1.cell hc2 (by simp), hh1.cell hc3 (by simp), hh1.cell hc4 (by simp), hh1.cell hc5 (by simp)⟩
            refine hK.out _ _ (fun _ => hS1) ?_
            clear hK K'
            try simp only [Act.put, List.setIfInBounds_toArray, List.set_cons_zero, List.set_cons_succ]
            refine hd_take 8 (v := .bool false) rfl (by kernel_rfl) (by kernel_rfl) (by kernel_rfl) rfl hS1 (fun W' hS => by go_simp) rfl ?_
            simp only [Act.put, List.setIfInBounds_toArray, List.set_cons_zero, List.set_cons_succ]
            refine hd_take 9 (v := .bool false) rfl (by kernel_rfl) (by kernel_rfl) (by kernel_rfl) rfl hS1 (fun W' hS => by go_simp) rfl ?_
            simp only [Act.put, List.setIfInBounds_toArray, List.set_cons_zero, List.set_cons_succ]
            refine hd_take 10 (v := .bool false) rfl (by kernel_rfl) (by kernel_rfl) (by kernel_rfl) rfl hS1 (fun W' hS => by go_simp) rfl ?_
            simp only [Act.put, List.setIfInBounds_toArray, List.set_cons_zero, List.set_cons_succ]
            refine hd_take 11 (v := .string ⟨root.toArray⟩) rfl (by kernel_rfl) (by kernel_rfl) (by kernel_rfl) rfl hS1 (fun W' hS => by go_simp) rfl ?_
            refine hd_take 12 (v := .pointer (some ⟨db, 0, none⟩)) rfl (by kernel_rfl) (by kernel_rfl) (by kernel_rfl) rfl hS1 (fun W' hS => by go_simp) rfl ?_
            refine hd_take 14 (v := .pointer (some ⟨db, 1, none⟩)) rfl (by kernel_rfl) (by kernel_rfl) (by kernel_rfl) rfl hS1 (fun W' hS => by go_simp) rfl ?_
            refine hd_take 16 (v := .int .i64 (k : Int)) rfl (by kernel_rfl) (by kernel_rfl) (by kernel_rfl) rfl hS1 (fun W' hS => by go_simp) rfl ?_
            refine hd_take 19 (v := .slice (some ⟨ub, uo, none⟩) pn ucap) rfl (by kernel_rfl) (by kernel_rfl) (by kernel_rfl) rfl hS1 (fun W' hS => by go_simp) rfl ?_
            refine hd_take 22 (v := .pointer (some ⟨db, 2, none⟩)) rfl (by kernel_rfl) (by kernel_rfl) (by kernel_rfl) rfl hS1 (fun W' hS => by go_simp) rfl ?_
            refine hd_take 24 (v := .int .i64 (k : Int)) rfl (by kernel_rfl) (by kernel_rfl) (by kernel_rfl) rfl hS1 (fun W' hS => by go_simp) rfl ?_
            refine hd_take 28 (v := .slice (some ⟨ub, uo, none⟩) pn ucap) rfl (by kernel_rfl) (by kernel_rfl) (by kernel_rfl) rfl hS1 (fun W' hS => by go_simp) rfl ?_
            simp only [Act.put, List.setIfInBounds_toArray, List.set_cons_zero, List.set_cons_succ]
            refine hd_take 13 (v := .int .i64 d.count) rfl (by kernel_rfl) (by kernel_rfl) (by kernel_rfl) rfl hS1 (fun W' hS => by obtain ⟨h0, h1, h2, h3, h4, h5⟩ := hS; go_simp) rfl ?_
            refine hd_take 15 (v := .slice (some ⟨wb, wo, none⟩) d.which.length wcap) rfl (by kernel_rfl) (by kernel_rfl) (by kernel_rfl) rfl hS1 (fun W' hS => by obtain ⟨h0, h1, h2, h3, h4, h5⟩ := hS; go_simp) rfl ?_
            refine hd_take 20 (v := .pointer (some ⟨ub, uo, none⟩)) rfl (by kernel_rfl) (by kernel_rfl) (by kernel_rfl) rfl hS1 (fun W' hS => by first | (go_simp; done) | (go_simp; intro hix; omega)) rfl ?_
            refine hd_take 23 (v := .slice (some ⟨qb, qo, none⟩) d.fields.length qcap) rfl (by kernel_rfl) (by kernel_rfl) (by kernel_rfl) rfl hS1 (fun W' hS => by obtain ⟨h0, h1, h2, h3, h4, h5⟩ := hS; go_simp) rfl ?_
            refine hd_take 29 (v := .slice (some ⟨ub, uo + 1, none⟩) (pn - 1) (ucap - 1)) rfl (by kernel_rfl) (by kernel_rfl) (by kernel_rfl) rfl hS1 (fun W' hS => by go_simp) rfl ?_
            simp only [Act.put, List.setIfInBounds_toArray, List.set_cons_zero, List.set_cons_succ]
            refine hd_take 17 (v := .pointer (some ⟨wb, wo + k, none⟩)) rfl (by kernel_rfl) (by kernel_rfl) (by kernel_rfl) rfl hS1 (fun W' hS => by first | (go_simp; done) | (go_simp; intro hix; omega)) rfl ?_
            refine hd_take 21 (v := .string ⟨x.toArray⟩) rfl (by kernel_rfl) (by kernel_rfl) (by kernel_rfl) rfl hS1 (fun W' hS => by obtain ⟨h0, h1, h2, h3, h4, h5⟩ := hS; go_simp) rfl ?_
            refine hd_take 25 (v := .pointer (some ⟨qb, qo + k, none⟩)) rfl (by kernel_rfl) (by kernel_rfl) (by kernel_rfl) rfl hS1 (fun W' hS => by first | (go_simp; done) | (go_simp; intro hix; omega)) rfl ?_
            simp only [Act.put, List.setIfInBounds_toArray, List.set_cons_zero, List.set_cons_succ]
            refine hd_take 18 (v := .int .i64 z) rfl (by kernel_rfl) (by kernel_rfl) (by kernel_rfl) rfl hS1 (fun W' hS => by obtain ⟨h0, h1, h2, h3, h4, h5⟩ := hS; go_simp) rfl ?_
            refine hd_take 26 (v := .string ⟨f.toArray⟩) rfl (by kernel_rfl) (by kernel_rfl) (by kernel_rfl) rfl hS1 (fun W' hS => by obtain ⟨h0, h1, h2, h3, h4, h5⟩ := hS; go_simp) rfl ?_
            simp only [Act.put, List.setIfInBounds_toArray, List.set_cons_zero, List.set_cons_succ]
            refine hd_take 27 (v := .string ⟨(x ++ f).toArray⟩) rfl (by kernel_rfl) (by kernel_rfl) (by kernel_rfl) rfl hS1 (fun W' hS => by first | (go_simp; done) | (go_simp; rw [if_neg (by omega), ba_append])) rfl ?_
            simp only [Act.put, List.setIfInBounds_toArray, List.set_cons_zero, List.set_cons_succ]
            refine hd_one 30 (by kernel_rfl) rfl (by kernel_rfl) rfl (fun K' hK => ?_)
            go_simp
            refine (HFF.out wq1 hh1).mono ?_
            rintro e wq2 ⟨rfl, hb⟩
            have hh2 : Fr [] wr wq2 := hh1.below hb hh1.size
            clear hb
            have hS2 : wq2.cell? ⟨ub, uo, none⟩ = some (.string ⟨x.toArray⟩) ∧ wq2.cell? ⟨db, 0, none⟩ = some (.int .i64 d.count) ∧ wq2.cell? ⟨db, 1, none⟩ = some (.slice (some ⟨wb, wo, none⟩) d.which.length wcap) ∧ wq2.cell? ⟨db, 2, none⟩ = some (.slice (some ⟨qb, qo, none⟩) d.fields.length qcap) ∧ wq2.cell? ⟨wb, wo + k, none⟩ = some (.int .i64 z) ∧ wq2.cell? ⟨qb, qo + k, none⟩ = some (.string ⟨f.toArray⟩) := ⟨hh2.cell hc0 (by simp), hh2.cell hc1 (by simp), hh2.cell hc2 (by simp), hh2.cell hc3 (by simp), hh2.cell hc4 (by simp), hh2.cell hc5 (by simp)⟩
            refine hK.out _ _ (fun _ => hS2) ?_
            clear hK K'
            try simp only [Act.put, List.setIfInBounds_toArray, List.set_cons_zero, List.set_cons_succ]
            refine hd_take 31 (v := .bool (!cb)) rfl (by kernel_rfl) (by kernel_rfl) (by kernel_rfl) rfl hS2 (fun W' hS => by go_simp) rfl ?_
            simp only [Act.put, List.setIfInBounds_toArray, List.set_cons_zero, List.set_cons_succ]
            refine hd_take 32 (v := .bool (!cb)) rfl (by kernel_rfl) (by kernel_rfl) (by kernel_rfl) rfl hS2 (fun W' hS => by go_simp) rfl ?_
            simp only [Act.put, List.setIfInBounds_toArray, List.set_cons_zero, List.set_cons_succ]
            refine held_done (by kernel_rfl) ?_
            have HH : Fr [] wr wq2 := hh2
            generalize wq2 = wy at HH ⊢
            cases cb with
            | false =>
              have HX : Hid (r = false) := Lib.hid (by rw [HR.out]; exact chk_false_at hlt HSB2.out)
              go_wp2_with fail
              go_ret
              exact ⟨by rw [HX.out]; rfl, (g3r.trans HH (by simp)).toBelow (by simp)⟩
            | true =>
              have HST2 : Hid (∀ j, j < k + 1 → stepB root d j = true) := Lib.hid (fun j hj => by
                by_cases hjk : j < k
                · exact HST.out j hjk
                · rw [show j = k by omega]; exact HSB2.out)
              go_wp2_with fail
              go_roundg (d.which.length + 1 - (k + 1))
              case measure => have := HG.out; omega
              case rel => exact ⟨k + 1, by omega, rfl, by go_num, HST2.out, hfr.trans HH (by simp)⟩
    · obtain rfl : k = d.which.length := by omega
      have t1 : decide ((d.which.length : Int) < (d.which.length : Int)) = false := by simp
      have HX : Hid (r = true) := Lib.hid (by
        rw [HR.out]; unfold chkD
        rw [HINC.out, decide_eq_true HN1.out, decide_eq_true HN2.out, all_done HST.out]; rfl)
      go_wp2_with fail
      go_ret
      exact ⟨by rw [HX.out]; rfl, g3r.toBelow (by simp)⟩
end Go.Proofs.YtmhejcndkplepaaDoor
