/-
  The reference of layer 36: decimal, Position.
-/
import Derived.Test.YtglgkdbhdjkeaaaGreatDoorRefW
import Derived.Test.YtglgkdbhdjkeaaaGreatDoorPlnHv
import Derived.Test.YtglgkdbhdjkeaaaGreatDoorMrk
namespace Go.Proofs.YtglgkdbhdjkeaaaGreatDoor
open Go.RowKit

set_option maxRecDepth 100000 in
set_option maxHeartbeats 1000000 in
theorem r36dec_nat (fuel : Nat) : ∀ (n : Nat) (w : World), n < 10 ^ (fuel + 1) → n ≤ 9223372036854775807 →
    Calls Tryz.prog 96 #[.int .i64 (n : Int)] w fun e w' => e = .returned (.string ⟨(Lib.decDigits n).toArray⟩) ∧ Below w.heap.size w w' := by
  induction fuel with
  | zero =>
    intro n w h h9
    have h10 : n < 10 := by omega
    have hcut := dec_cut n h10
    have HD := Lib.hid (dec_small n h10)
    rw [Nat.mod_eq_of_lt h10] at HD
    have hn0 : ¬ ((n : Int) < 0) := by omega
    clear h
    go_enter Tryz.func96, Tryz.ntmps96
    go_wp2_with fail
    go_ret
    exact ⟨by rw [HD.out]; rfl, Below.refl _ _⟩
  | succ fuel ih =>
    intro n w h h9
    have IH := Lib.hid ih
    clear ih
    have hn0 : ¬ ((n : Int) < 0) := by omega
    by_cases h10 : n < 10
    · have hcut := dec_cut n h10
      have HD := Lib.hid (dec_small n h10)
      rw [Nat.mod_eq_of_lt h10] at HD
      clear h
      go_enter Tryz.func96, Tryz.ntmps96
      go_wp2_with fail
      go_ret
      exact ⟨by rw [HD.out]; rfl, Below.refl _ _⟩
    · obtain ⟨q, r, hq, hr, eq, er⟩ : ∃ q r : Nat, q = n / 10 ∧ r = n % 10 ∧ (n : Int) / 10 = (q : Int) ∧ (n : Int) % 10 = (r : Int) := ⟨n / 10, n % 10, rfl, rfl, by omega, by omega⟩
      have hq1 : q < 10 ^ (fuel + 1) := by rw [hq]; rw [Nat.pow_succ] at h; omega
      have hq2 : q ≤ 9223372036854775807 := by omega
      have hr1 : r < 10 := by omega
      have HD : Hid (Lib.decDigits n = Lib.decDigits q ++ [decC r]) := by
        show _ = _
        rw [dec_step n (by omega), hq, hr]
      have hcut := dec_cut r hr1
      have hd20 := dec_len q (by omega)
      have HQ := Lib.hid hq1
      clear hq hr h hq1
      have hmx : Tryz.prog.follows .mixedOrders = true := by kernel_rfl
      have g0 : (0 : Int) ≤ (r : Int) := by omega
      have g1 : (r : Int) ≤ (r : Int) + 1 := by omega
      have g2 : (r : Int) + 1 ≤ 10 := by omega
      have g3 : IntKind.i64.wrap ((r : Int) + 1) = (r : Int) + 1 := IntWalk.i64_in _ (by omega)
      have g4 : ((r : Int) + 1).toNat = r + 1 := by omega
      have g7 : (n : Int).tmod 10 = (r : Int) := by rw [Int.tmod_eq_emod_of_nonneg (by omega)]; exact er
      have hnsz : ¬ (9223372036854775807 < (Lib.decDigits q).length + 1) := by omega
      have g5 : IntKind.i64.wrap (q : Int) = (q : Int) := IntWalk.i64_in _ (by omega)
      have g6 : IntKind.i64.wrap (r : Int) = (r : Int) := IntWalk.i64_in _ (by omega)
      go_enter Tryz.func96, Tryz.ntmps96
      go_wp2_with fail
      refine region_held 11 (fun _ => True) hmx ?_
      change Held _ _ _ _ _ _ 12 (Array.replicate 12 false) _ _
      refine hd_take 0 (v := .int .i64 (n : Int)) rfl (by kernel_rfl) (by kernel_rfl) (by kernel_rfl) rfl trivial (fun W' hS => by go_simp) rfl ?_
      refine hd_take 3 (v := .string ⟨#[48, 49, 50, 51, 52, 53, 54, 55, 56, 57]⟩) rfl (by kernel_rfl) (by kernel_rfl) (by kernel_rfl) rfl trivial (fun W' hS => by go_simp) rfl ?_
      refine hd_take 4 (v := .int .i64 (n : Int)) rfl (by kernel_rfl) (by kernel_rfl) (by kernel_rfl) rfl trivial (fun W' hS => by go_simp) rfl ?_
      refine hd_take 6 (v := .int .i64 (n : Int)) rfl (by kernel_rfl) (by kernel_rfl) (by kernel_rfl) rfl trivial (fun W' hS => by go_simp) rfl ?_
      simp only [Act.put, List.setIfInBounds_toArray, List.set_cons_zero, List.set_cons_succ]
      refine hd_take 1 (v := .int .i64 (q : Int)) rfl (by kernel_rfl) (by kernel_rfl) (by kernel_rfl) rfl trivial (fun W' hS => by go_simp) rfl ?_
      refine hd_take 5 (v := .int .i64 (r : Int)) rfl (by kernel_rfl) (by kernel_rfl) (by kernel_rfl) rfl trivial (fun W' hS => by go_simp) rfl ?_
      refine hd_take 7 (v := .int .i64 (r : Int)) rfl (by kernel_rfl) (by kernel_rfl) (by kernel_rfl) rfl trivial (fun W' hS => by go_simp) rfl ?_
      simp only [Act.put, List.setIfInBounds_toArray, List.set_cons_zero, List.set_cons_succ]
      refine hd_take 8 (v := .int .i64 ((r : Int) + 1)) rfl (by kernel_rfl) (by kernel_rfl) (by kernel_rfl) rfl trivial (fun W' hS => by go_simp) rfl ?_
      simp only [Act.put, List.setIfInBounds_toArray, List.set_cons_zero, List.set_cons_succ]
      refine hd_take 9 (v := .string ⟨[decC r].toArray⟩) rfl (by kernel_rfl) (by kernel_rfl) (by kernel_rfl) rfl trivial (fun W' hS => by go_simp) rfl ?_
      simp only [Act.put, List.setIfInBounds_toArray, List.set_cons_zero, List.set_cons_succ]
      refine hd_one 2 (by kernel_rfl) rfl (by kernel_rfl) rfl (fun K' hK => ?_)
      go_simp
      refine (IH.out q _ HQ.out hq2).mono ?_
      rintro e w1 ⟨rfl, hb1⟩
      have hbb := (Fr.refl [] w).drew.below hb1 (Nat.le_refl _)
      refine hK.out _ _ (fun _ => trivial) ?_
      clear hK K'
      try simp only [Act.put, List.setIfInBounds_toArray, List.set_cons_zero, List.set_cons_succ]
      refine hd_one 10 (by kernel_rfl) rfl (by kernel_rfl) rfl (fun K' hK => ?_)
      go_simp
      refine hK.out _ _ (fun _ => trivial) ?_
      clear hK K'
      try simp only [Act.put, List.setIfInBounds_toArray, List.set_cons_zero, List.set_cons_succ]
      refine hd_one 11 (by kernel_rfl) rfl (by kernel_rfl) rfl (fun K' hK => ?_)
      go_simp
      refine hK.out _ _ (fun h => absurd rfl h) ?_
      clear hK K'
      refine held_done (by kernel_rfl) ?_
      go_wp2_with fail
      go_ret
      exact ⟨by rw [HD.out, ← ba_append]; rfl, hbb.toBelow (by simp)⟩
set_option maxRecDepth 100000 in
set_option maxHeartbeats 1000000 in
theorem r36dec_neg (fuel : Nat) : ∀ (m : Nat) (x : Int) (w : World), x = -(m : Int) → 1 ≤ m → m < 10 ^ (fuel + 1) → m ≤ 9223372036854775808 →
    Calls Tryz.prog 96 #[.int .i64 x] w fun e w' => e = .returned (.string ⟨(45 :: Lib.decDigits m).toArray⟩) ∧ Below w.heap.size w w' := by
  induction fuel with
  | zero =>
    intro m x w hx h1 h h9
    have hx0 : x < 0 := by omega
    have e1 : x.tdiv 10 = 0 := by rw [hx, Int.neg_tdiv, Int.tdiv_eq_ediv_of_nonneg (by omega)]; omega
    have e2 : IntKind.i64.wrap (-x) = (m : Int) := by rw [hx, Int.neg_neg]; exact IntWalk.i64_in _ (by omega)
    have e3 : IntKind.i64.wrap 0 = 0 := by decide
    have hm20 := dec_len m (by omega)
    have hm9 : m ≤ 9 := by omega
    clear hx
    go_enter Tryz.func96, Tryz.ntmps96
    go_wp2_with fail
    refine (r36dec_nat 1 m _ (by omega) (by omega)).mono ?_
    rintro e w1 ⟨rfl, hb1⟩
    go_wp2_with fail
    go_ret
    exact ⟨by rw [show 45 :: Lib.decDigits m = [45] ++ Lib.decDigits m from rfl, ← ba_append]; rfl, hb1⟩
  | succ fuel ih =>
    intro m x w hx h1 h h9
    have IH := Lib.hid ih
    clear ih
    have hx0 : x < 0 := by omega
    by_cases h10 : m < 10
    · have e1 : x.tdiv 10 = 0 := by rw [hx, Int.neg_tdiv, Int.tdiv_eq_ediv_of_nonneg (by omega)]; omega
      have e2 : IntKind.i64.wrap (-x) = (m : Int) := by rw [hx, Int.neg_neg]; exact IntWalk.i64_in _ (by omega)
      have e3 : IntKind.i64.wrap 0 = 0 := by decide
      have hm20 := dec_len m (by omega)
      clear hx h
      go_enter Tryz.func96, Tryz.ntmps96
      go_wp2_with fail
      refine (r36dec_nat 1 m _ (by omega) (by omega)).mono ?_
      rintro e w1 ⟨rfl, hb1⟩
      go_wp2_with fail
      go_ret
      exact ⟨by rw [show 45 :: Lib.decDigits m = [45] ++ Lib.decDigits m from rfl, ← ba_append]; rfl, hb1⟩
    · obtain ⟨q, r, hq, hr⟩ : ∃ q r : Nat, q = m / 10 ∧ r = m % 10 := ⟨_, _, rfl, rfl⟩
      obtain ⟨y, hy, e1⟩ : ∃ y : Int, y = -(q : Int) ∧ x.tdiv 10 = y := ⟨_, rfl, by rw [hx, Int.neg_tdiv, Int.tdiv_eq_ediv_of_nonneg (by omega)]; omega⟩
      obtain ⟨z, hz, e4⟩ : ∃ z : Int, z = -(r : Int) ∧ x.tmod 10 = z := ⟨_, rfl, by rw [hx, Int.neg_tmod, Int.tmod_eq_emod_of_nonneg (by omega)]; omega⟩
      have e2 : (y == 0) = false := by rw [beq_eq_false_iff_ne]; omega
      have e3 : IntKind.i64.wrap y = y := IntWalk.i64_in _ (by omega)
      have e5 : IntKind.i64.wrap z = z := IntWalk.i64_in _ (by omega)
      have e6 : IntKind.i64.wrap (-z) = (r : Int) := by rw [hz, Int.neg_neg]; exact IntWalk.i64_in _ (by omega)
      have hq1 : q < 10 ^ (fuel + 1) := by rw [hq]; rw [Nat.pow_succ] at h; omega
      have hq2 : q ≤ 9223372036854775808 := by omega
      have hq0 : 1 ≤ q := by omega
      have hr1 : r < 10 := by omega
      have HD : Hid (45 :: Lib.decDigits m = (45 :: Lib.decDigits q) ++ Lib.decDigits r) := by
        show _ = _
        rw [dec_step m (by omega), dec_small r hr1, Nat.mod_eq_of_lt hr1, hq, hr]; rfl
      have hd20 := dec_len q (by omega)
      have hr20 := dec_len r (by omega)
      have HQ := Lib.hid hq1
      have HY := Lib.hid hy
      clear hq hr h hq1 hx hy hz
      have hmx : Tryz.prog.follows .mixedOrders = true := by kernel_rfl
      go_enter Tryz.func96, Tryz.ntmps96
      go_wp2_with fail
      refine (IH.out q y _ HY.out hq0 HQ.out hq2).mono ?_
      rintro e w1 ⟨rfl, hb1⟩
      go_wp2_with fail
      refine (r36dec_nat 1 r _ (by omega) (by omega)).mono ?_
      rintro e w2 ⟨rfl, hb2⟩
      go_wp2_with fail
      go_ret
      exact ⟨by rw [HD.out, ← ba_append]; rfl, hb1.trans (hb2.mono hb1.size)⟩
theorem r36dec_any (x : Int) (w : World) (h0 : -9223372036854775808 ≤ x) (h1 : x ≤ 9223372036854775807) :
    Calls Tryz.prog 96 #[.int .i64 x] w fun e w' => e = .returned (.string ⟨(Lib.itoa x).toArray⟩) ∧ Below w.heap.size w w' := by
  by_cases h : x < 0
  · rw [show Lib.itoa x = 45 :: Lib.decDigits x.natAbs by unfold Lib.itoa; rw [if_pos h]]
    have h2 : x.natAbs ≤ 9223372036854775808 := by omega
    exact r36dec_neg 20 x.natAbs x w (by omega) (by omega) (Nat.lt_of_le_of_lt h2 (by decide)) h2
  · rw [show Lib.itoa x = Lib.decDigits x.toNat by unfold Lib.itoa; rw [if_neg h]]
    have h2 : x.toNat ≤ 9223372036854775807 := by omega
    have := r36dec_nat 20 x.toNat w (Nat.lt_of_le_of_lt h2 (by decide)) h2
    rwa [show ((x.toNat : Nat) : Int) = x by omega] at this

end Go.Proofs.YtglgkdbhdjkeaaaGreatDoor
