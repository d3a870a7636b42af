/-
  strconv.Atoi of a few decimal digits.
-/
import Derived.Test.YtnmakpiddfhhnaaGreatDoorPuH
namespace Go.Proofs.YtnmakpiddfhhnaaGreatDoor
open Go.RowKit

/-- A decimal digit; what some spell. -/
def decA (c : UInt8) : Bool := 48 ≤ c && c ≤ 57
def dV (l : List UInt8) : Nat := l.foldl decF 0
theorem decA_bound (c : UInt8) (h : decA c = true) : 48 ≤ c.toNat ∧ c.toNat ≤ 57 := by
  simp only [decA, Bool.and_eq_true, decide_eq_true_eq, UInt8.le_iff_toNat_le] at h
  simpa using h
theorem dV_snoc (h : List UInt8) (k : Nat) (hk : k < h.length) : dV (h.take (k + 1)) = dV (h.take k) * 10 + ((h.getD k 0).toNat - 48) := by
  unfold dV
  rw [take_snoc' h k 0 hk, List.foldl_append]; rfl
theorem dV_lt (h : List UInt8) (hh : h.all decA = true) : ∀ k, k ≤ h.length → dV (h.take k) < 10 ^ k
  | 0, _ => by simp [dV]
  | k + 1, hk => by
    have h1 := dV_lt h hh k (by omega)
    have h2 := decA_bound _ (List.all_eq_true.1 hh _ (getD_mem h k 0 (by omega)))
    rw [dV_snoc h k (by omega), Nat.pow_succ]
    omega
set_option maxRecDepth 100000 in
set_option maxHeartbeats 2000000 in
theorem atoiD_any (h : List UInt8) (w : World) (hl1 : 1 ≤ h.length) (hl : h.length ≤ 18) (hh : h.all decA = true) :
    Calls Tryz.prog 50 #[.string ⟨h.toArray⟩] w fun e w' => e = .returned (.tuple #[.int .i64 (dV h : Nat), .nilIface]) ∧ Below w.heap.size w w' := by
  obtain ⟨c, w2, hrun, hf2, hlt2, hcells⟩ := conv_bytes w h
  have h0 : 0 < h.length := by omega
  have hba := ba_get h 0 h0
  have hx0 := decA_bound _ (List.all_eq_true.1 hh _ (getD_mem h 0 0 h0))
  generalize h.getD 0 0 = c0 at hba hx0
  have t11 : ((c0.toNat : Int) == 45) = false := by rw [beq_eq_false_iff_ne]; omega
  have t12 : ((c0.toNat : Int) == 43) = false := by rw [beq_eq_false_iff_ne]; omega
  have t13 : decide ((0 : Int) < (h.length : Int)) = true := decide_eq_true (by omega)
  have t14 : decide ((h.length : Int) < 19) = true := decide_eq_true (by omega)
  have HH := Lib.hid hh
  have HB18 : ∀ k, k ≤ h.length → dV (h.take k) < 1000000000000000000 := fun k hk => Nat.lt_of_lt_of_le (dV_lt h hh k hk) (Nat.le_trans (Nat.pow_le_pow_right (by decide) (show k ≤ 18 by omega)) (by decide))
  have HB := Lib.hid HB18
  clear hh HB18
  go_enter Tryz.func50, Tryz.ntmps50
  go_wp2_with fail
  go_loopg [6, 49] h.length (fun g n i wr => ∃ k : Nat, k ≤ h.length ∧ g = h.length - k ∧ i = .int .i64 (k : Int) ∧ n = .int .i64 (dV (h.take k) : Nat) ∧ Fr [] w2 wr)
  case atStart => exact ⟨0, by omega, by omega, rfl, rfl, Fr.refl _ _⟩
  case round =>
    obtain ⟨k, hk, hg, rfl, rfl, hfr⟩ := hrel
    have HG := Lib.hid hg
    clear hg
    by_cases hlt : k < h.length
    · have hc := hfr.cell (hcells k hlt) (by simp)
      have hx := decA_bound _ (List.all_eq_true.1 HH.out _ (getD_mem h k 0 hlt))
      have HS := Lib.hid (dV_snoc h k hlt)
      have hVb := HB.out (k + 1) hlt
      rw [HS.out] at hVb
      generalize dV (h.take k) = V at HS hVb ⊢
      generalize (h.getD k 0).toNat = c at hc hx HS hVb
      obtain ⟨d, hd⟩ : ∃ d, d = c - 48 := ⟨_, rfl⟩
      rw [← hd] at HS hVb
      have hd9 : d ≤ 9 := by omega
      have hcd : (c : Int) - 48 = (d : Int) := by omega
      clear hd
      have t1 : decide ((k : Int) < (h.length : Int)) = true := by simp; omega
      have wd : IntKind.u8.wrap (d : Int) = (d : Int) := by rw [IntKind.wrap_u8']; omega
      have t2 : decide ((9 : Int) < (d : Int)) = false := decide_eq_false (by omega)
      have u1 : IntKind.i64.wrap ((V : Int) * 10) = (V : Int) * 10 := IntWalk.i64_in _ (by omega)
      have u2 : IntKind.i64.wrap (d : Int) = (d : Int) := IntWalk.i64_in _ (by omega)
      have u3 : IntKind.i64.wrap ((V : Int) * 10 + (d : Int)) = (V : Int) * 10 + (d : Int) := IntWalk.i64_in _ (by omega)
      have i0 : (0 : Int) ≤ (k : Int) := by omega
      have i1 : (k : Int) < (h.length : Int) := by omega
      go_wp2_with fail
      go_roundg (h.length - (k + 1))
      case measure => have := HG.out; omega
      case rel => exact ⟨k + 1, by omega, rfl, by go_num, by rw [HS.out]; go_num, hfr⟩
    · obtain rfl : k = h.length := by omega
      have t1 : decide ((h.length : Int) < (h.length : Int)) = false := by simp
      have HT15 : Hid (h.take h.length = h) := Lib.hid (List.take_length ..)
      rw [HT15.out]
      go_wp2_with fail
      go_ret2
      exact ⟨rfl, (hf2.trans hfr (by simp)).toBelow (by simp)⟩
set_option maxRecDepth 100000 in
theorem atoiS_any (h : List UInt8) (w : World) (hl1 : 1 ≤ h.length) (hl : h.length ≤ 18) (hh : h.all decA = true) :
    Calls Tryz.prog 30 #[.string ⟨h.toArray⟩] w fun e w' => e = .returned (.tuple #[.int .i64 (dV h : Nat), .nilIface]) ∧ Below w.heap.size w w' := by
  have h0 := atoiD_any h w hl1 hl hh
  clear hl1 hl hh
  go_enter Tryz.func30, Tryz.ntmps30
  go_wp2_with fail
  refine h0.mono ?_
  rintro e w1 ⟨rfl, hb1⟩
  go_wp2_with fail
  go_ret2
  exact ⟨rfl, hb1⟩
end Go.Proofs.YtnmakpiddfhhnaaGreatDoor
