/-
  strconv.ParseUint of sixteen hexadecimal digits, great letters too; strconv.Atoi of a few decimal digits.
-/
import Derived.Test.YtnmakpiddfhhnaaGreatDoorRep
namespace Go.Proofs.YtnmakpiddfhhnaaGreatDoor
open Go.RowKit

/-- A hexadecimal digit, with great letters too; its value. -/
def hexA (c : UInt8) : Bool := (48 ≤ c && c ≤ 57) || (65 ≤ c && c ≤ 70) || (97 ≤ c && c ≤ 102)
def hexU (c : UInt8) : Nat := if c.toNat < 58 then c.toNat - 48 else if c.toNat < 97 then c.toNat - 55 else c.toNat - 87
def uV (l : List UInt8) : Nat := l.foldl (fun a c => a * 16 + hexU c) 0
theorem hexU_bound (c : UInt8) (h : hexA c = true) : hexU c < 16 ∧ ((48 ≤ c.toNat ∧ c.toNat ≤ 57 ∧ hexU c = c.toNat - 48) ∨ (57 < c.toNat ∧ (c.toNat ||| 32) = hexU c + 87 ∧ 10 ≤ hexU c)) := by
  have h1 : ∀ n : Fin 256, hexA (UInt8.ofNat n.val) = true → hexU (UInt8.ofNat n.val) < 16 ∧ ((48 ≤ n.val ∧ n.val ≤ 57 ∧ hexU (UInt8.ofNat n.val) = n.val - 48) ∨ (57 < n.val ∧ (n.val ||| 32) = hexU (UInt8.ofNat n.val) + 87 ∧ 10 ≤ hexU (UInt8.ofNat n.val))) := by decide +kernel
  have := h1 ⟨c.toNat, c.toNat_lt⟩
  simpa using this (by simpa using h)
theorem uV_snoc (h : List UInt8) (k : Nat) (hk : k < h.length) : uV (h.take (k + 1)) = uV (h.take k) * 16 + hexU (h.getD k 0) := by
  unfold uV
  rw [take_snoc' h k 0 hk, List.foldl_append]; rfl
theorem uV_lt (h : List UInt8) (hh : h.all hexA = true) : ∀ k, k ≤ h.length → uV (h.take k) < 16 ^ k
  | 0, _ => by simp [uV]
  | k + 1, hk => by
    have h1 := uV_lt h hh k (by omega)
    have h2 := (hexU_bound _ (List.all_eq_true.1 hh _ (getD_mem h k 0 (by omega)))).1
    rw [uV_snoc h k (by omega), Nat.pow_succ]
    omega
set_option maxRecDepth 100000 in
theorem lowerA_any (c : Nat) (w : World) (h1 : c < 256) :
    Calls Tryz.prog 76 #[.int .u8 (c : Int)] w fun e w' => e = .returned (.int .u8 ((c ||| 32 : Nat) : Int)) ∧ w = w' := by
  have hw : bits .or .u8 (c : Int) 32 = ((c ||| 32 : Nat) : Int) := u8_or_nat c 32 (by omega) (by decide)
  go_enter Tryz.func76, Tryz.ntmps76
  go_wp2_with fail
  go_ret
  exact ⟨rfl, rfl⟩
set_option maxRecDepth 100000 in
set_option maxHeartbeats 2000000 in
theorem puH_any (h : List UInt8) (w : World) (hl : h.length = 16) (hh : h.all hexA = true) :
    Calls Tryz.prog 52 #[.string ⟨h.toArray⟩, .int .i64 16, .int .i64 64] w fun e w' => e = .returned (.tuple #[.int .u64 (uV h : Nat), .nilIface]) ∧ Below w.heap.size w w' := by
  have hne : (h == []) = false := by cases h with
    | nil => simp at hl
    | cons => rfl
  obtain ⟨c, w2, hrun, hf2, hlt2, hcells⟩ := conv_bytes w h
  rw [hl] at hrun hcells
  have HH := Lib.hid hh
  have HL := Lib.hid hl
  clear hh hl
  have wm : IntKind.u64.wrap (IntKind.u64.wrap 18446744073709551616 - 1) = 18446744073709551615 := by decide
  go_enter Tryz.func52, Tryz.ntmps52
  go_wp2_with fail
  go_loopg [12, 13, 101] 17 (fun g us n i wr => ∃ k : Nat, k ≤ 16 ∧ g = 17 - k ∧ i = .int .i64 (k : Int) ∧ us = .bool false ∧ n = .int .u64 (uV (h.take k) : Nat) ∧ Fr [] w2 wr)
  case atStart => exact ⟨0, by omega, by omega, rfl, rfl, rfl, Fr.refl _ _⟩
  case round =>
    obtain ⟨k, hk, hg, rfl, rfl, rfl, hfr⟩ := hrel
    have HG := Lib.hid hg
    clear hg
    by_cases hlt : k < 16
    · have hc := hfr.cell (hcells k hlt) (by simp)
      have hkl : k < h.length := by rw [HL.out]; exact hlt
      have hx := List.all_eq_true.1 HH.out _ (getD_mem h k 0 hkl)
      have HS := Lib.hid (uV_snoc h k hkl)
      have hub := hexU_bound _ hx
      have hVb : uV (h.take k) < 1152921504606846976 := by
        have h1 := uV_lt h HH.out k (by omega)
        exact Nat.lt_of_lt_of_le h1 (Nat.le_trans (Nat.pow_le_pow_right (by decide) (show k ≤ 15 by omega)) (by decide))
      generalize uV (h.take k) = V at HS hVb ⊢
      have hb256 := (h.getD k 0).toNat_lt
      generalize hexU (h.getD k 0) = d at HS hub
      generalize (h.getD k 0).toNat = c at hc hub hb256
      obtain ⟨hd16, hub⟩ := hub
      clear hx hkl
      have t1 : decide ((k : Int) < 16) = true := by simp; omega
      have t8 : decide ((1152921504606846976 : Int) ≤ (V : Int)) = false := by simp; omega
      have t9 : decide ((16 : Int) ≤ (d : Int)) = false := by simp; omega
      have u1 : IntKind.u64.wrap ((V : Int) * 16) = (V : Int) * 16 := by rw [IntKind.wrap_u64]; omega
      have u2 : IntKind.u64.wrap ((V : Int) * 16 + (d : Int)) = (V : Int) * 16 + (d : Int) := by rw [IntKind.wrap_u64]; omega
      rcases hub with ⟨h48, h57, hd⟩ | ⟨h57, hd, hd10⟩
      · have t2 : ((c : Int) == 95) = false := by rw [beq_eq_false_iff_ne]; omega
        have t3 : decide ((48 : Int) ≤ (c : Int)) = true := by simp; omega
        have t4 : decide ((c : Int) ≤ 57) = true := by simp; omega
        have wd : IntKind.u8.wrap ((c : Int) - 48) = (d : Int) := by rw [IntKind.wrap_u8']; omega
        clear hd
        go_wp2_with fail
        go_roundg (17 - (k + 1))
        case measure => have := HG.out; omega
        case rel => exact ⟨k + 1, by omega, rfl, by go_num, rfl, by rw [HS.out]; go_num, hfr⟩
      · obtain ⟨l, hl⟩ : ∃ l, l = c ||| 32 := ⟨_, rfl⟩
        have hlow := fun W => lowerA_any c W hb256
        rw [← hl] at hlow hd
        have HLW := Lib.hid hlow
        have hc95 : c ≠ 95 := by
          intro e
          rw [e] at hl
          rw [show (95 : Nat) ||| 32 = 127 by decide] at hl
          omega
        clear hl hlow
        have t2 : ((c : Int) == 95) = false := by rw [beq_eq_false_iff_ne]; omega
        have t3 : decide ((48 : Int) ≤ (c : Int)) = true := by simp; omega
        have t4 : decide ((c : Int) ≤ 57) = false := by simp; omega
        have t5 : decide ((97 : Int) ≤ (l : Int)) = true := by simp; omega
        have t6 : decide ((l : Int) ≤ 122) = true := by simp; omega
        have wd : IntKind.u8.wrap ((l : Int) - 97) = (l : Int) - 97 := by rw [IntKind.wrap_u8']; omega
        have wd2 : IntKind.u8.wrap ((l : Int) - 97 + 10) = (d : Int) := by rw [IntKind.wrap_u8']; omega
        clear hd
        go_wp2_with fail
        refine (HLW.out wr).mono ?_
        rintro e w3 ⟨rfl, rfl⟩
        go_wp2_with fail
        refine (HLW.out wr).mono ?_
        rintro e w3 ⟨rfl, rfl⟩
        go_wp2_with fail
        refine (HLW.out wr).mono ?_
        rintro e w3 ⟨rfl, rfl⟩
        go_wp2_with fail
        go_roundg (17 - (k + 1))
        case measure => have := HG.out; omega
        case rel => exact ⟨k + 1, by omega, rfl, by go_num, rfl, by rw [HS.out]; go_num, hfr⟩
    · obtain rfl : k = 16 := by omega
      have t1 : decide ((16 : Int) < 16) = false := by simp
      have HT15 : Hid (h.take 16 = h) := Lib.hid (List.take_of_length_le (by rw [HL.out]; decide))
      rw [HT15.out]
      go_wp2_with fail
      go_ret2
      exact ⟨rfl, (hf2.trans hfr (by simp)).toBelow (by simp)⟩
set_option maxRecDepth 100000 in
theorem puS_any (h : List UInt8) (w : World) (hl : h.length = 16) (hh : h.all hexA = true) :
    Calls Tryz.prog 31 #[.string ⟨h.toArray⟩, .int .i64 16, .int .i64 64] w fun e w' => e = .returned (.tuple #[.int .u64 (uV h : Nat), .nilIface]) ∧ Below w.heap.size w w' := by
  have h0 := puH_any h w hl hh
  clear hl
  go_enter Tryz.func31, Tryz.ntmps31
  go_wp2_with fail
  refine h0.mono ?_
  rintro e w1 ⟨rfl, hb1⟩
  go_wp2_with fail
  go_ret2
  exact ⟨rfl, hb1⟩
end Go.Proofs.YtnmakpiddfhhnaaGreatDoor
