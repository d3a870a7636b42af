/-
  Plain law: what hexadecimal digits stand for.
-/
import Derived.Test.YtglgkdbhdjkeaaaGreatDoorRefA
namespace Go.Proofs.YtglgkdbhdjkeaaaGreatDoor
open Go.RowKit

/-- The number that hexadecimal digits stand for. -/
def hexV (l : List UInt8) : Nat := l.foldl (fun a c => a * 16 + hexN c) 0
theorem hexV_fold (l : List UInt8) : ∀ a : Nat, l.foldl (fun a c => a * 16 + hexN c) a = a * 16 ^ l.length + hexV l := by
  induction l with
  | nil => intro a; simp [hexV]
  | cons c l ih =>
    intro a
    unfold hexV
    rw [List.foldl_cons, List.foldl_cons, ih, ih (0 * 16 + hexN c), List.length_cons, Nat.pow_succ, Nat.zero_mul, Nat.zero_add, Nat.add_mul, Nat.mul_assoc a 16, Nat.mul_comm 16 (16 ^ _)]
    omega
theorem hexV_append (a b : List UInt8) : hexV (a ++ b) = hexV a * 16 ^ b.length + hexV b := by
  unfold hexV
  rw [List.foldl_append, hexV_fold]; rfl
theorem hexV_snoc (h : List UInt8) (k : Nat) (hk : k < h.length) : hexV (h.take (k + 1)) = hexV (h.take k) * 16 + hexN (h.getD k 0) := by
  rw [take_snoc' h k 0 hk, hexV_append]
  simp [hexV]
theorem hexV_lt : ∀ (l : List UInt8), l.all hexC = true → hexV l < 16 ^ l.length
  | [], _ => by simp [hexV]
  | c :: l, h => by
    simp only [List.all_cons, Bool.and_eq_true] at h
    have h1 := hexV_lt l h.2
    have h2 := (index_hex c h.1).2
    rw [show c :: l = [c] ++ l from rfl, hexV_append, List.length_append, Nat.pow_add]
    have h3 : hexV [c] = hexN c := by simp [hexV]
    rw [h3]
    have h4 : hexN c * 16 ^ l.length ≤ 15 * 16 ^ l.length := Nat.mul_le_mul_right _ (by omega)
    simp only [List.length_singleton, Nat.pow_one]
    omega
/-- What digest.Below returns. -/
def belowS (d : List UInt8) (n : Int) : Int := if decide (n < 1) || !isD d then 0 else (hexV (d.take 15) : Int) % n

theorem hexN_lo (c : UInt8) (h : hexC c = true) : (c.toNat ≤ 57 → hexN c = c.toNat - 48 ∧ 48 ≤ c.toNat) ∧ (57 < c.toNat → hexN c = c.toNat - 87 ∧ 97 ≤ c.toNat ∧ c.toNat ≤ 102) := by
  simp only [hexC, Bool.or_eq_true, Bool.and_eq_true, decide_eq_true_eq, UInt8.le_iff_toNat_le] at h
  simp at h
  unfold hexN
  constructor <;> intro h1 <;> split <;> omega
end Go.Proofs.YtglgkdbhdjkeaaaGreatDoor
