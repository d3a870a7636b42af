/-
  Plain law: hexadecimal numerals without leading zeros, filled up with zeros to sixteen digits.
-/
import Derived.Test.YtglgkdbhdjkeaaaGreatDoorPlnNm
namespace Go.Proofs.YtglgkdbhdjkeaaaGreatDoor
open Go.RowKit

/-- The hexadecimal digits of a number, the first ahead. -/
def hexD (u : Nat) : List UInt8 := if _h : u < 16 then [UInt8.ofNat (hexd u)] else hexD (u / 16) ++ [UInt8.ofNat (hexd (u % 16))]
termination_by u
decreasing_by omega
theorem hexD_small (u : Nat) (h : u < 16) : hexD u = [UInt8.ofNat (hexd u)] := by rw [hexD, dif_pos h]
theorem hexD_big (u : Nat) (h : 16 ≤ u) : hexD u = hexD (u / 16) ++ [UInt8.ofNat (hexd (u % 16))] := by rw [hexD, dif_neg (by omega)]
theorem digL_snoc (u : Nat) : ∀ k, digL u (k + 1) = digL (u / 16) k ++ [UInt8.ofNat (hexd (u % 16))]
  | 0 => by simp [digL]
  | k + 1 => by
    rw [digL, digL_snoc u k, digL, Nat.pow_succ, Nat.mul_comm, ← Nat.div_div_eq_div_mul]
    rfl
theorem digL_zero : ∀ k, digL 0 k = List.replicate k 48
  | 0 => rfl
  | k + 1 => by
    rw [digL, digL_zero k, List.replicate_succ]
    simp [hexd]
theorem hexD_pad : ∀ (k u : Nat), u < 16 ^ (k + 1) → (hexD u).length ≤ k + 1 ∧ digL u (k + 1) = List.replicate (k + 1 - (hexD u).length) 48 ++ hexD u
  | k, u, h => by
    by_cases h16 : u < 16
    · rw [hexD_small u h16]
      refine ⟨by simp, ?_⟩
      rw [digL_snoc, Nat.div_eq_of_lt h16, Nat.mod_eq_of_lt h16, digL_zero]
      simp
    · cases k with
      | zero => simp at h; omega
      | succ k =>
        obtain ⟨h1, h2⟩ := hexD_pad k (u / 16) (by rw [Nat.pow_succ] at h; omega)
        rw [hexD_big u (by omega)]
        refine ⟨by simp; omega, ?_⟩
        rw [digL_snoc, h2, List.length_append, List.length_singleton, List.append_assoc, show k + 1 + 1 - ((hexD (u / 16)).length + 1) = k + 1 - (hexD (u / 16)).length by omega]
theorem hexD_len (u : Nat) (h : u < 18446744073709551616) : (hexD u).length ≤ 16 ∧ 1 ≤ (hexD u).length := by
  refine ⟨(hexD_pad 15 u h).1, ?_⟩
  by_cases h16 : u < 16
  · rw [hexD_small u h16]; simp
  · rw [hexD_big u (by omega)]; simp
theorem hexD_fill (u : Nat) (h : u < 18446744073709551616) : List.replicate (16 - (hexD u).length) 48 ++ hexD u = hexS u := by
  rw [← digL_16]
  exact (hexD_pad 15 u h).2.symm
end Go.Proofs.YtglgkdbhdjkeaaaGreatDoor
