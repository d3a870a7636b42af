/-
  Plain law: decimal numerals are read back; hexadecimal words; no space in either.
-/
import Derived.Test.YtglgkdbhdjkeaaaGreatDoorPlnA
import Derived.Test.YtglgkdbhdjkeaaaGreatDoorPlnHv
import Derived.Test.YtglgkdbhdjkeaaaGreatDoorPlnSp
import Derived.Lib.AtoiAllCases
import Derived.Lib.ItoaLen
namespace Go.Proofs.YtglgkdbhdjkeaaaGreatDoor
open Go.RowKit

def decF (a : Nat) (c : UInt8) : Nat := a * 10 + (c.toNat - 48)
theorem decF_ge : ∀ (l : List UInt8) (a : Nat), a ≤ l.foldl decF a
  | [], a => Nat.le_refl _
  | c :: l, a => by
    rw [List.foldl_cons]
    exact Nat.le_trans (by unfold decF; omega) (decF_ge l _)
theorem pu10_fold : ∀ (l : List UInt8) (a : Nat), (∀ c ∈ l, 48 ≤ c.toNat ∧ c.toNat ≤ 57) → l.foldl decF a < 1844674407370955162 → Lib.parseUint10 a l = .ok (l.foldl decF a)
  | [], a, _, _ => rfl
  | c :: l, a, hd, hb => by
    have h1 := decF_ge l (decF a c)
    rw [List.foldl_cons] at hb ⊢
    have h2 : decF a c = a * 10 + (c.toNat - 48) := rfl
    unfold Lib.parseUint10
    rw [if_pos (hd c (by simp)), if_neg (by omega), if_neg (by omega)]
    exact pu10_fold l _ (fun x hx => hd x (by simp [hx])) hb
theorem dec_nonempty (n : Nat) : Lib.decDigits n ≠ [] := by
  rw [Lib.decDigits]
  split <;> simp
theorem mag_dec (n : Nat) (h : n < 1000000000000000000) : Lib.parseMag (Lib.decDigits n) = .ok n := by
  unfold Lib.parseMag
  rw [if_neg (dec_nonempty n)]
  have h1 : (Lib.decDigits n).foldl decF 0 = n := dec_fold n
  rw [pu10_fold _ _ (dec_chars n) (by rw [h1]; omega), h1]
/-- A numeral is read back. -/
theorem atoi_itoa (n : Int) (h0 : -1000000000000000000 < n) (h1 : n < 1000000000000000000) : Lib.atoiAll (Lib.itoa n) = .ok n := by
  unfold Lib.itoa
  split
  · rename_i hn
    rw [Lib.atoiAll_minus, mag_dec _ (by omega)]
    unfold Lib.signed
    simp only
    rw [if_neg (by omega)]
    congr 1
    omega
  · rename_i hn
    obtain ⟨c, r, hc⟩ := List.exists_cons_of_ne_nil (dec_nonempty n.toNat)
    have hcc := dec_chars n.toNat c (by rw [hc]; simp)
    have hm := mag_dec n.toNat (by omega)
    rw [hc] at hm ⊢
    rw [Lib.atoiAll_plain c r (by omega) (by omega), hm]
    unfold Lib.signless
    simp only
    rw [if_neg (by omega)]
    congr 1
    omega
theorem itoa_chars (n : Int) : ∀ c ∈ Lib.itoa n, c.toNat = 45 ∨ (48 ≤ c.toNat ∧ c.toNat ≤ 57) := by
  intro c hc
  unfold Lib.itoa at hc
  split at hc
  · rcases List.mem_cons.1 hc with rfl | hc
    · exact Or.inl rfl
    · exact Or.inr (dec_chars _ c hc)
  · exact Or.inr (dec_chars _ c hc)
theorem itoa_word (n : Int) : (32 : UInt8) ∉ Lib.itoa n := fun h => by
  have := itoa_chars n _ h
  simp at this
theorem dec_word (n : Nat) : (32 : UInt8) ∉ Lib.decDigits n := fun h => by
  have := dec_chars n _ h
  simp at this
theorem itoa_nonempty (n : Int) : Lib.itoa n ≠ [] := by
  unfold Lib.itoa
  split
  · simp
  · exact dec_nonempty _
theorem itoa_inj {a b : Int} (h : Lib.itoa a = Lib.itoa b) : a = b := by
  unfold Lib.itoa at h
  split at h <;> split at h
  · have := dec_inj (List.cons.inj h).2
    omega
  · have h1 := dec_chars b.toNat 45 (by rw [← h]; simp)
    simp at h1
  · have h1 := dec_chars a.toNat 45 (by rw [h]; simp)
    simp at h1
  · have := dec_inj h
    omega
theorem hex_word {l : List UInt8} (h : l.all hexC = true) : (32 : UInt8) ∉ l := fun hm => by
  have := List.all_eq_true.1 h _ hm
  simp [hexC] at this
theorem hexN_hexd (d : Nat) (h : d < 16) : hexN (UInt8.ofNat (hexd d)) = d := by
  have h1 : ∀ d, d < 16 → hexN (UInt8.ofNat (hexd d)) = d := by decide
  exact h1 d h
theorem digL_len (st : Nat) : ∀ k, (digL st k).length = k
  | 0 => rfl
  | k + 1 => by rw [digL, List.length_cons, digL_len st k]
theorem hexV_digL (st : Nat) : ∀ k, hexV (digL st k) = st % 16 ^ k
  | 0 => by simp [digL, hexV, Nat.mod_one]
  | k + 1 => by
    rw [digL, show UInt8.ofNat (hexd (st / 16 ^ k % 16)) :: digL st k = [UInt8.ofNat (hexd (st / 16 ^ k % 16))] ++ digL st k from rfl, hexV_append, digL_len, hexV_digL st k]
    rw [show hexV [UInt8.ofNat (hexd (st / 16 ^ k % 16))] = hexN (UInt8.ofNat (hexd (st / 16 ^ k % 16))) by simp [hexV], hexN_hexd _ (Nat.mod_lt _ (by decide)), Nat.mod_pow_succ, Nat.mul_comm]
    omega
/-- The sixteen digits of a word spell it. -/
theorem hexV_hexS (x : Nat) (h : x < 18446744073709551616) : hexV (hexS x) = x := by
  rw [← digL_16, hexV_digL]
  exact Nat.mod_eq_of_lt h
end Go.Proofs.YtglgkdbhdjkeaaaGreatDoor
