/-
  The reference of layer 2: Below.
-/
import Derived.Test.YtglgkdbhdjkeaaaGreatDoorRefB
import Derived.Test.YtglgkdbhdjkeaaaGreatDoorBel
namespace Go.Proofs.YtglgkdbhdjkeaaaGreatDoor
open Go.RowKit

set_option maxRecDepth 100000 in
set_option maxHeartbeats 1000000 in
theorem rbelow_any (d : List UInt8) (n : Int) (w : World) (hd : d.length ≤ 9223372036854775807) (hn : -9223372036854775808 ≤ n ∧ n < 9223372036854775808) :
    Calls Tryz.prog 95 #[.string ⟨d.toArray⟩, .int .i64 n] w fun e w' => e = .returned (.int .i64 (belowS d n)) ∧ Below w.heap.size w w' := by
  by_cases hn1 : n < 1
  · have t1 : decide (n < 1) = true := by simp [hn1]
    have HB : Hid (belowS d n = 0) := by show _ = _; simp [belowS, hn1]
    go_enter Tryz.func95, Tryz.ntmps95
    go_wp2_with fail
    go_ret
    exact ⟨by rw [HB.out]; rfl, Below.refl _ _⟩
  · have t1 : decide (n < 1) = false := by simp [hn1]
    cases hD : isD d with
    | false =>
      have HB : Hid (belowS d n = 0) := by show _ = _; simp [belowS, hD]
      have HD := Lib.hid hD
      clear hD
      go_enter Tryz.func95, Tryz.ntmps95
      go_wp2_with fail
      refine (ris_any d w hd).mono ?_
      rintro e w1 ⟨rfl, rfl⟩
      rw [HD.out]
      go_wp2_with fail
      go_ret
      exact ⟨by rw [HB.out]; rfl, Below.refl _ _⟩
    | true =>
      have HB : Hid (belowS d n = (hexV (d.take 15) : Int) % n) := by show _ = _; simp [belowS, hD, hn1]
      have HD := Lib.hid hD
      simp only [isD, Bool.and_eq_true, beq_iff_eq] at hD
      have HL := Lib.hid hD.1
      have HH := Lib.hid hD.2
      clear hD
      go_enter Tryz.func95, Tryz.ntmps95
      go_wp2_with fail
      refine (ris_any d w hd).mono ?_
      rintro e w1 ⟨rfl, rfl⟩
      rw [HD.out]
      go_wp2_with fail
      go_loopg [5, 6] 15 (fun g x i wr => ∃ k : Nat, k ≤ 15 ∧ g = 15 - k ∧ i = .int .i64 (k : Int) ∧ x = .int .i64 (hexV (d.take k) : Nat) ∧ wr = w)
      case atStart => exact ⟨0, by omega, by omega, rfl, rfl, rfl⟩
      case round =>
        obtain ⟨k, hk, hg, rfl, rfl, rfl⟩ := hrel
        have HG := Lib.hid hg
        clear hg
        by_cases hlt : k < 15
        · have hkl : k < d.length := by rw [HL.out]; omega
          have hx := List.all_eq_true.1 HH.out _ (getD_mem d k 0 hkl)
          have HS := Lib.hid (hexV_snoc d k hkl)
          have HBA := Lib.hid (ba_get d k hkl)
          have HZ : Hid (digZ (d.getD k 0) = (hexN (d.getD k 0) : Int)) := Lib.hid (by unfold digZ; rw [if_pos hx])
          have hd16 := (index_hex _ hx).2
          have hVb : hexV (d.take k) < 72057594037927936 := by
            have h1 := hexV_lt (d.take k) (by
              rw [List.all_eq_true]; intro y hy; exact List.all_eq_true.1 HH.out y (List.mem_of_mem_take hy))
            rw [List.length_take, HL.out] at h1
            exact Nat.lt_of_lt_of_le h1 (Nat.le_trans (Nat.pow_le_pow_right (by decide) (show min k 16 ≤ 14 by omega)) (by decide))
          generalize hexV (d.take k) = V at HS hVb ⊢
          generalize d.getD k 0 = c at HS HBA HZ hd16
          generalize hexN c = q at HS HZ hd16
          clear hx
          have t2 : decide ((k : Int) < 15) = true := by simp; omega
          go_wp2_with fail
          rw [HBA.out]
          refine (rdigit_any _ _).mono ?_
          rintro e w1 ⟨rfl, rfl⟩
          rw [HZ.out]
          go_wp2_with fail
          go_roundg (15 - (k + 1))
          case measure => have := HG.out; omega
          case rel => exact ⟨k + 1, by omega, rfl, by go_num, by rw [HS.out]; go_num, rfl⟩
        · obtain rfl : k = 15 := by omega
          have hV : hexV (d.take 15) < 1152921504606846976 := by
            have h1 := hexV_lt (d.take 15) (by
              rw [List.all_eq_true]; intro y hy; exact List.all_eq_true.1 HH.out y (List.mem_of_mem_take hy))
            rw [List.length_take, HL.out] at h1
            exact h1
          generalize hVe : hexV (d.take 15) = V at hV HB ⊢
          have hm1 : (V : Int) % n < n := Int.emod_lt_of_pos _ (by omega)
          have hm2 : 0 ≤ (V : Int) % n := Int.emod_nonneg _ (by omega)
          have htm : (V : Int).tmod n = (V : Int) % n := by rw [Int.tmod_eq_emod_of_nonneg (by omega)]
          clear hVe
          go_wp2_with fail
          go_ret
          exact ⟨by rw [HB.out]; rfl, Below.refl _ _⟩
end Go.Proofs.YtglgkdbhdjkeaaaGreatDoor
