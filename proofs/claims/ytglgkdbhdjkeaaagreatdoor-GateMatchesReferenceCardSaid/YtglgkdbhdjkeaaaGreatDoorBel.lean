/-
  strconv.ParseInt of 15 hexadecimal digits; digest.Below.
-/
import Derived.Test.YtglgkdbhdjkeaaaGreatDoorConv
import Derived.Test.YtglgkdbhdjkeaaaGreatDoorPlnHv
namespace Go.Proofs.YtglgkdbhdjkeaaaGreatDoor
open Go.RowKit Go.Shelf

set_option maxRecDepth 100000 in
theorem lower_any (c : Nat) (w : World) (h1 : 97 ≤ c) (h2 : c ≤ 102) :
    Calls Tryz.prog 159 #[.int .u8 (c : Int)] w fun e w' => e = .returned (.int .u8 (c : Int)) ∧ w = w' := by
  have h3 : ∀ c, c < 103 → 97 ≤ c → c ||| 32 = c := by decide
  have hw : bits .or .u8 (c : Int) 32 = (c : Int) := by
    have := u8_or_nat c 32 (by omega) (by decide)
    rw [h3 c (by omega) h1] at this
    exact this
  go_enter Tryz.func159, Tryz.ntmps159
  go_wp2_with fail
  go_ret
  exact ⟨rfl, rfl⟩
set_option maxRecDepth 100000 in
set_option maxHeartbeats 1000000 in
theorem puint_any (h : List UInt8) (w : World) (hl : h.length = 15) (hh : h.all hexC = true) :
    Calls Tryz.prog 144 #[.string ⟨h.toArray⟩, .int .i64 16, .int .i64 64] w fun e w' => e = .returned (.tuple #[.int .u64 (hexV h : Nat), .nilIface]) ∧ Below w.heap.size w w' := by
  have hne : (h == []) = false := by cases h with
    | nil => simp at hl
    | cons => rfl
  obtain ⟨c, w2, hrun, hf2, hlt2, hcells⟩ := conv_bytes w h
  rw [hl] at hrun hcells
  have HH := Lib.hid hh
  have HL := Lib.hid hl
  clear hh hl
  have wm : IntKind.u64.wrap (IntKind.u64.wrap 18446744073709551616 - 1) = 18446744073709551615 := by decide
  go_enter Tryz.func144, Tryz.ntmps144
  go_wp2_with fail
  go_loopg [12, 13, 101] 16 (fun g us n i wr => ∃ k : Nat, k ≤ 15 ∧ g = 16 - k ∧ i = .int .i64 (k : Int) ∧ us = .bool false ∧ n = .int .u64 (hexV (h.take k) : Nat) ∧ Fr [] w2 wr)
  case atStart => exact ⟨0, by omega, by omega, rfl, rfl, rfl, Fr.refl _ _⟩
  case round =>
    obtain ⟨k, hk, hg, rfl, rfl, rfl, hfr⟩ := hrel
    have HG := Lib.hid hg
    clear hg
    by_cases hlt : k < 15
    · have hc := hfr.cell (hcells k hlt) (by simp)
      have hkl : k < h.length := by rw [HL.out]; exact hlt
      have hx := List.all_eq_true.1 HH.out _ (getD_mem h k 0 hkl)
      have HS := Lib.hid (hexV_snoc h k hkl)
      have hlo := hexN_lo _ hx
      have hd16 := (index_hex _ hx).2
      have hVb : hexV (h.take k) < 72057594037927936 := by
        have h1 := hexV_lt (h.take k) (by
          rw [List.all_eq_true]; intro y hy; exact List.all_eq_true.1 HH.out y (List.mem_of_mem_take hy))
        rw [List.length_take, HL.out] at h1
        exact Nat.lt_of_lt_of_le h1 (Nat.le_trans (Nat.pow_le_pow_right (by decide) (show min k 15 ≤ 14 by omega)) (by decide))
      generalize hexV (h.take k) = V at HS hVb ⊢
      have hb256 := (h.getD k 0).toNat_lt
      generalize hexN (h.getD k 0) = d at HS hlo hd16
      generalize (h.getD k 0).toNat = c at hc hlo hb256
      clear hx hkl
      have t1 : decide ((k : Int) < 15) = true := by simp; omega
      have t2 : ((c : Int) == 95) = false := by simp; omega
      have t8 : decide ((1152921504606846976 : Int) ≤ (V : Int)) = false := by simp; omega
      have t9 : decide ((16 : Int) ≤ (d : Int)) = false := by simp; omega
      by_cases h57 : c ≤ 57
      · have t3 : decide ((48 : Int) ≤ (c : Int)) = true := by simp; omega
        have t4 : decide ((c : Int) ≤ 57) = true := by simp; omega
        have wd : IntKind.u8.wrap ((c : Int) - 48) = (d : Int) := by rw [IntKind.wrap_u8']; omega
        go_wp2_with fail
        go_roundg (16 - (k + 1))
        case measure => have := HG.out; omega
        case rel => exact ⟨k + 1, by omega, rfl, by go_num, rfl, by rw [HS.out]; go_num, hfr⟩
      · have t3 : decide ((48 : Int) ≤ (c : Int)) = true := by simp; omega
        have t4 : decide ((c : Int) ≤ 57) = false := by simp; omega
        have t5 : decide ((97 : Int) ≤ (c : Int)) = true := by simp; omega
        have t6 : decide ((c : Int) ≤ 122) = true := by simp; omega
        have wd : IntKind.u8.wrap ((c : Int) - 97) = (c : Int) - 97 := by rw [IntKind.wrap_u8']; omega
        have wd2 : IntKind.u8.wrap ((c : Int) - 97 + 10) = (d : Int) := by rw [IntKind.wrap_u8']; omega
        go_wp2_with fail
        refine (lower_any c wr (by omega) (by omega)).mono ?_
        rintro e w3 ⟨rfl, rfl⟩
        go_wp2_with fail
        refine (lower_any c wr (by omega) (by omega)).mono ?_
        rintro e w3 ⟨rfl, rfl⟩
        go_wp2_with fail
        refine (lower_any c wr (by omega) (by omega)).mono ?_
        rintro e w3 ⟨rfl, rfl⟩
        go_wp2_with fail
        go_roundg (16 - (k + 1))
        case measure => have := HG.out; omega
        case rel => exact ⟨k + 1, by omega, rfl, by go_num, rfl, by rw [HS.out]; go_num, hfr⟩
    · obtain rfl : k = 15 := by omega
      have t1 : decide ((15 : Int) < 15) = false := by simp
      have HT15 : Hid (h.take 15 = h) := Lib.hid (List.take_of_length_le (by rw [HL.out]; decide))
      rw [HT15.out]
      go_wp2_with fail
      go_ret2
      exact ⟨rfl, (hf2.trans hfr (by simp)).toBelow (by simp)⟩

set_option maxRecDepth 100000 in
set_option maxHeartbeats 1000000 in
theorem pint_any (h : List UInt8) (w : World) (hl : h.length = 15) (hh : h.all hexC = true) :
    Calls Tryz.prog 127 #[.string ⟨h.toArray⟩, .int .i64 16, .int .i64 64] w fun e w' => e = .returned (.tuple #[.int .i64 (hexV h : Nat), .nilIface]) ∧ Below w.heap.size w w' := by
  have hne : (h == []) = false := by cases h with
    | nil => simp at hl
    | cons => rfl
  have h0 : 0 < h.length := by omega
  have hba := ba_get h 0 h0
  have hx := List.all_eq_true.1 hh _ (getD_mem h 0 0 h0)
  have hlo := hexN_lo _ hx
  have HV : Hid (hexV h < 1152921504606846976) := Lib.hid (by have := hexV_lt h hh; rw [hl] at this; exact this)
  generalize h.getD 0 0 = c0 at hba hx hlo
  have t1 : ((c0.toNat : Int) == 43) = false := by simp; omega
  have t2 : ((c0.toNat : Int) == 45) = false := by simp; omega
  have HH := Lib.hid hh
  have HL := Lib.hid hl
  clear hh hl
  go_enter Tryz.func127, Tryz.ntmps127
  go_wp2_with fail
  refine (puint_any h w HL.out HH.out).mono ?_
  rintro e w1 ⟨rfl, hb1⟩
  have HVV := HV.out
  generalize hVe : hexV h = V at HVV ⊢
  have HE := Lib.hid hVe
  clear hVe
  have t3 : decide ((9223372036854775808 : Int) ≤ (V : Int)) = false := by simp; omega
  go_wp2_with fail
  go_ret2
  exact ⟨by rw [HE.out]; rfl, hb1⟩

set_option maxRecDepth 100000 in
set_option maxHeartbeats 1000000 in
theorem pint2_any (h : List UInt8) (w : World) (hl : h.length = 15) (hh : h.all hexC = true) :
    Calls Tryz.prog 102 #[.string ⟨h.toArray⟩, .int .i64 16, .int .i64 64] w fun e w' => e = .returned (.tuple #[.int .i64 (hexV h : Nat), .nilIface]) ∧ Below w.heap.size w w' := by
  go_enter Tryz.func102, Tryz.ntmps102
  go_wp2_with fail
  refine (pint_any h w hl hh).mono ?_
  rintro e w1 ⟨rfl, hb1⟩
  go_wp2_with fail
  go_ret2
  exact ⟨rfl, hb1⟩

set_option maxRecDepth 100000 in
set_option maxHeartbeats 1000000 in
theorem below_any (d : List UInt8) (n : Int) (w : World) (hd : d.length ≤ 9223372036854775807) (hn : -9223372036854775808 ≤ n ∧ n < 9223372036854775808) :
    Calls Tryz.prog 80 #[.string ⟨d.toArray⟩, .int .i64 n] w fun e w' => e = .returned (.int .i64 (belowS d n)) ∧ Below w.heap.size w w' := by
  by_cases hn1 : n < 1
  · have t1 : decide (n < 1) = true := by simp [hn1]
    have HB : Hid (belowS d n = 0) := by show _ = _; simp [belowS, hn1]
    go_enter Tryz.func80, Tryz.ntmps80
    go_wp2_with fail
    go_ret
    exact ⟨by rw [HB.out]; rfl, Below.refl _ _⟩
  · have t1 : decide (n < 1) = false := by simp [hn1]
    cases hD : isD d with
    | false =>
      have HB : Hid (belowS d n = 0) := by show _ = _; simp [belowS, hD]
      have HD := Lib.hid hD
      clear hD
      go_enter Tryz.func80, Tryz.ntmps80
      go_wp2_with fail
      refine (is_any d w hd).mono ?_
      rintro e w1 ⟨rfl, hb1⟩
      rw [HD.out]
      go_wp2_with fail
      go_ret
      exact ⟨by rw [HB.out]; rfl, hb1⟩
    | true =>
      have HB : Hid (belowS d n = (hexV (d.take 15) : Int) % n) := by show _ = _; simp [belowS, hD, hn1]
      have HD := Lib.hid hD
      simp only [isD, Bool.and_eq_true, beq_iff_eq] at hD
      have HL := Lib.hid hD.1
      have HH : Hid ((d.take 15).all hexC = true) := Lib.hid (by
        rw [List.all_eq_true]; intro y hy; exact List.all_eq_true.1 hD.2 y (List.mem_of_mem_take hy))
      have HL15 : Hid ((d.take 15).length = 15) := Lib.hid (by rw [List.length_take, hD.1]; rfl)
      have HEX : Hid ((⟨d.toArray⟩ : ByteArray).extract 0 15 = ⟨(d.take 15).toArray⟩) := Lib.hid (by
        apply ByteArray.ext; simp [ByteArray.data_extract])
      have hV : hexV (d.take 15) < 1152921504606846976 := by have := hexV_lt (d.take 15) HH.out; rw [HL15.out] at this; exact this
      have hd15 : d.length = 16 := HL.out
      clear hD
      go_enter Tryz.func80, Tryz.ntmps80
      go_wp2_with fail
      refine (is_any d w hd).mono ?_
      rintro e w1 ⟨rfl, hb1⟩
      rw [HD.out]
      go_wp2_with fail
      rw [HEX.out]
      refine (pint2_any (d.take 15) w1 HL15.out HH.out).mono ?_
      rintro e w2 ⟨rfl, hb2⟩
      generalize hVe : hexV (d.take 15) = V at hV HB ⊢
      have hm1 : (V : Int) % n < n := Int.emod_lt_of_pos _ (by omega)
      have hm2 : 0 ≤ (V : Int) % n := Int.emod_nonneg _ (by omega)
      have htm : (V : Int).tmod n = (V : Int) % n := by rw [Int.tmod_eq_emod_of_nonneg (by omega)]
      clear hVe
      go_wp2_with fail
      go_ret
      exact ⟨by rw [HB.out]; rfl, hb1.trans (hb2.mono hb1.size)⟩
end Go.Proofs.YtglgkdbhdjkeaaaGreatDoor
