/-
  foyerref30.number.
-/
import Derived.Test.YtcblpfepkkkilaaGreatDoorRtE
namespace Go.Proofs.YtcblpfepkkkilaaGreatDoor
open Go.RowKit

def stepN (n : Int) (c : UInt8) : Int := if 48 ≤ c.toNat ∧ c.toNat ≤ 57 then n * 10 + (c.toNat - 48 : Nat) else n
def numD (l : List UInt8) : Int := l.foldl stepN 0
theorem numD_snoc (l : List UInt8) (c : UInt8) : numD (l ++ [c]) = stepN (numD l) c := by simp [numD]
theorem numD_bound : ∀ (k : Nat) (l : List UInt8), l.length = k → 0 ≤ numD l ∧ numD l < 10 ^ k
  | 0, l, h => by
    obtain rfl := List.eq_nil_of_length_eq_zero h
    decide
  | k + 1, l, h => by
    obtain ⟨a, c, rfl⟩ : ∃ a c, l = a ++ [c] := by
      have hne : l ≠ [] := by intro e; rw [e] at h; simp at h
      exact ⟨l.dropLast, l.getLast hne, (List.dropLast_concat_getLast hne).symm⟩
    have h1 := numD_bound k a (by simpa using h)
    rw [numD_snoc]
    have h2 : (10 : Int) ^ (k + 1) = 10 ^ k * 10 := Int.pow_succ 10 k
    unfold stepN
    split <;> omega
theorem numD_dec (n : Nat) : numD (Lib.decDigits n) = n := by
  induction n using Nat.strongRecOn with
  | _ n ih =>
    by_cases h : n < 10
    · rw [dec_small n h, Nat.mod_eq_of_lt h]
      have : ∀ d : Fin 10, numD [decC d.val] = (d.val : Int) := by decide
      exact this ⟨n, h⟩
    · rw [Lib.decDigits, dif_neg h]
      rw [numD_snoc, ih (n / 10) (by omega)]
      have hc : (UInt8.ofNat (48 + n % 10)).toNat = 48 + n % 10 := by
        rw [UInt8.toNat_ofNat']
        omega
      unfold stepN
      rw [hc, if_pos (by omega)]
      omega
/-- What the reference's number answers. -/
def numR (l : List UInt8) : Int := if l.length < 9 then (if l.headD 0 = 45 then -numD l else numD l) else 0
theorem numR_bound (l : List UInt8) : -1000000000 < numR l ∧ numR l < 1000000000 := by
  unfold numR
  split
  · rename_i h
    have h1 := numD_bound l.length l rfl
    have h2 : (10 : Int) ^ l.length ≤ 10 ^ 8 := by
      have := Nat.pow_le_pow_right (show 0 < 10 by decide) (show l.length ≤ 8 by omega)
      exact_mod_cast this
    have h3 : (10 : Int) ^ 8 = 100000000 := by decide
    split <;> omega
  · omega
theorem dec_head : ∀ n : Nat, (Lib.decDigits n).headD 0 ≠ 45 := by
  intro n
  induction n using Nat.strongRecOn with
  | _ n ih =>
    by_cases h : n < 10
    · rw [dec_small n h, Nat.mod_eq_of_lt h]
      have : ∀ d : Fin 10, [decC d.val].headD 0 ≠ 45 := by decide
      exact this ⟨n, h⟩
    · rw [Lib.decDigits, dif_neg h]
      have h1 := ih (n / 10) (by omega)
      cases h2 : Lib.decDigits (n / 10) with
      | nil =>
        have h3 := numD_dec (n / 10)
        rw [h2] at h3
        simp only [numD, List.foldl_nil] at h3
        omega
      | cons c t => rw [h2] at h1; simpa using h1
theorem dec_len8 (n : Nat) (h : n < 1000000) : (Lib.decDigits n).length ≤ 6 := by
  rw [Lib.decDigits]
  split
  · simp
  · rw [Lib.decDigits]
    split
    · simp
    · rw [Lib.decDigits]
      split
      · simp
      · rw [Lib.decDigits]
        split
        · simp
        · rw [Lib.decDigits]
          split
          · simp
          · rw [Lib.decDigits, dif_pos (by omega)]
            simp
theorem numR_itoa (m : Int) (h0 : -1000000 < m) (h1 : m < 1000000) : numR (Lib.itoa m) = m := by
  by_cases hm : 0 ≤ m
  · obtain ⟨u, rfl⟩ : ∃ u : Nat, m = u := ⟨m.toNat, by omega⟩
    rw [Lib.itoa_nonneg]
    unfold numR
    rw [if_pos (by have := dec_len8 u (by omega); omega), if_neg (dec_head u), numD_dec]
  · obtain ⟨u, rfl⟩ : ∃ u : Nat, m = -(u : Int) := ⟨(-m).toNat, by omega⟩
    rw [Lib.itoa_neg u (by omega)]
    unfold numR
    rw [if_pos (by have := dec_len8 u (by omega); rw [List.length_cons]; omega), if_pos (by rfl)]
    have : numD (45 :: Lib.decDigits u) = numD (Lib.decDigits u) := rfl
    rw [this, numD_dec]
set_option maxRecDepth 100000 in
set_option maxHeartbeats 2000000 in
theorem rnumber30_any (l : List UInt8) (w : World) (hl : l.length ≤ 100000) :
    Calls Tryz.prog 45 #[.string ⟨l.toArray⟩] w fun e w' => e = .returned (.int .i64 (numR l)) ∧ w = w' := by
  go_enter Tryz.func45, Tryz.ntmps45
  go_wp2_with fail
  go_loopg [3, 4] l.length (fun g n i wr => ∃ k : Nat, k ≤ l.length ∧ g = l.length - k ∧ i = .int .i64 (k : Int) ∧ n = .int .i64 (if l.length < 9 then numD (l.take k) else 0) ∧ w = wr)
  case atStart => exact ⟨0, by omega, by omega, rfl, by split <;> rfl, rfl⟩
  case round =>
    obtain ⟨k, hk, hg, rfl, rfl, rfl⟩ := hrel
    have HG := Lib.hid hg
    clear hg
    by_cases h9 : l.length < 9
    case neg =>
      have t2 : decide ((l.length : Int) < 9) = false := by simp; omega
      obtain ⟨n, hn⟩ : ∃ n : Int, n = if l.length < 9 then numD (l.take k) else 0 := ⟨_, rfl⟩
      rw [← hn]
      rw [if_neg h9] at hn
      have hnl : 0 ≤ n ∧ n < 100000000 := by omega
      have HRES : Hid (numR l = if l.headD 0 = 45 then -n else n) := Lib.hid (by unfold numR; rw [if_neg h9, hn]; split <;> rfl)
      clear hn
      by_cases hlt : k < l.length
      · have t1 : decide ((k : Int) < (l.length : Int)) = true := by simp; omega
        by_cases hne : l = []
        · have HR : Hid (numR l = n) := Lib.hid (by rw [HRES.out, hne]; rfl)
          have u5 : (l != []) = false := by rw [hne]; rfl
          have u6 : (l == []) = true := by rw [hne]; rfl
          clear hne
          go_wp2_with fail
          go_ret
          exact ⟨by rw [HR.out]; rfl, rfl⟩
        · have hpos : 0 < l.length := List.length_pos_iff.2 hne
          have u5 : (l != []) = true := by rw [bne_iff_ne]; exact hne
          have u6 : (l == []) = false := by rw [beq_eq_false_iff_ne]; exact hne
          have hb0 := ba_get l 0 hpos
          have HH : Hid (l.headD 0 = l.getD 0 0) := Lib.hid (by cases l <;> rfl)
          have j0 : (0 : Int) < (l.length : Int) := by omega
          generalize l.getD 0 0 = c0 at hb0 HH
          by_cases hc : c0 = 45
          · have u7 : ((c0.toNat : Int) == 45) = true := by rw [hc]; rfl
            have HR : Hid (numR l = -n) := Lib.hid (by rw [HRES.out, HH.out, if_pos hc])
            have w2 : IntKind.i64.wrap (-n) = -n := IntWalk.i64_in _ (by omega)
            clear hc hne
            go_wp2_with fail
            go_ret
            exact ⟨by rw [HR.out]; rfl, rfl⟩
          · have u7 : ((c0.toNat : Int) == 45) = false := by
              rw [beq_eq_false_iff_ne]
              intro h
              apply hc
              apply UInt8.toNat_inj.1
              have : (45 : UInt8).toNat = 45 := rfl
              omega
            have HR : Hid (numR l = n) := Lib.hid (by rw [HRES.out, HH.out, if_neg hc])
            clear hc hne
            go_wp2_with fail
            go_ret
            exact ⟨by rw [HR.out]; rfl, rfl⟩
      · have t1 : decide ((k : Int) < (l.length : Int)) = false := by simp; omega
        by_cases hne : l = []
        · have HR : Hid (numR l = n) := Lib.hid (by rw [HRES.out, hne]; rfl)
          have u5 : (l != []) = false := by rw [hne]; rfl
          have u6 : (l == []) = true := by rw [hne]; rfl
          clear hne
          go_wp2_with fail
          go_ret
          exact ⟨by rw [HR.out]; rfl, rfl⟩
        · have hpos : 0 < l.length := List.length_pos_iff.2 hne
          have u5 : (l != []) = true := by rw [bne_iff_ne]; exact hne
          have u6 : (l == []) = false := by rw [beq_eq_false_iff_ne]; exact hne
          have hb0 := ba_get l 0 hpos
          have HH : Hid (l.headD 0 = l.getD 0 0) := Lib.hid (by cases l <;> rfl)
          have j0 : (0 : Int) < (l.length : Int) := by omega
          generalize l.getD 0 0 = c0 at hb0 HH
          by_cases hc : c0 = 45
          · have u7 : ((c0.toNat : Int) == 45) = true := by rw [hc]; rfl
            have HR : Hid (numR l = -n) := Lib.hid (by rw [HRES.out, HH.out, if_pos hc])
            have w2 : IntKind.i64.wrap (-n) = -n := IntWalk.i64_in _ (by omega)
            clear hc hne
            go_wp2_with fail
            go_ret
            exact ⟨by rw [HR.out]; rfl, rfl⟩
          · have u7 : ((c0.toNat : Int) == 45) = false := by
              rw [beq_eq_false_iff_ne]
              intro h
              apply hc
              apply UInt8.toNat_inj.1
              have : (45 : UInt8).toNat = 45 := rfl
              omega
            have HR : Hid (numR l = n) := Lib.hid (by rw [HRES.out, HH.out, if_neg hc])
            clear hc hne
            go_wp2_with fail
            go_ret
            exact ⟨by rw [HR.out]; rfl, rfl⟩
    have t2 : decide ((l.length : Int) < 9) = true := by simp; omega
    have hnb := numD_bound (l.take k).length (l.take k) rfl
    have h10 : (10 : Int) ^ (l.take k).length ≤ 10 ^ 8 := by
      have := Nat.pow_le_pow_right (show 0 < 10 by decide) (show (l.take k).length ≤ 8 by rw [List.length_take]; omega)
      exact_mod_cast this
    have h8 : (10 : Int) ^ 8 = 100000000 := by decide
    rw [h8] at h10
    obtain ⟨n, hn⟩ : ∃ n : Int, n = if l.length < 9 then numD (l.take k) else 0 := ⟨_, rfl⟩
    rw [← hn]
    rw [if_pos h9] at hn
    rw [← hn] at hnb
    have hnl : 0 ≤ n ∧ n < 100000000 := by omega
    clear hnb h10 h8
    have HN := Lib.hid hn
    clear hn
    by_cases hlt : k < l.length
    · have t1 : decide ((k : Int) < (l.length : Int)) = true := by simp; omega
      have hba := ba_get l k hlt
      have HS : Hid (numD (l.take (k + 1)) = stepN n (l.getD k 0)) := Lib.hid (by rw [take_snoc' l k 0 hlt, numD_snoc, HN.out])
      generalize l.getD k 0 = c at hba HS
      have i0 : (k : Int) < (l.length : Int) := by omega
      by_cases h1 : 48 ≤ c.toNat
      · have u1 : decide ((48 : Int) ≤ (c.toNat : Int)) = true := by simp; omega
        by_cases h2 : c.toNat ≤ 57
        · have u2 : decide ((c.toNat : Int) ≤ 57) = true := by simp; omega
          have HV : Hid (stepN n c = n * 10 + ((c.toNat : Int) - 48)) := Lib.hid (by unfold stepN; rw [if_pos ⟨h1, h2⟩]; omega)
          have w1 : IntKind.u8.wrap ((c.toNat : Int) - 48) = (c.toNat : Int) - 48 := by
            first | exact IntWalk.u8_in _ (by omega) | (rw [IntKind.wrap_u8]; omega) | (simp [IntKind.wrap, IntKind.signed, IntKind.bits]; omega)
          go_wp2_with fail
          go_roundg (l.length - (k + 1))
          case measure => have := HG.out; omega
          case rel => exact ⟨k + 1, by omega, rfl, by go_num, by rw [if_pos h9, HS.out, HV.out], rfl⟩
        · have u2 : decide ((c.toNat : Int) ≤ 57) = false := by simp; omega
          have HV : Hid (stepN n c = n) := Lib.hid (by unfold stepN; rw [if_neg (by omega)])
          go_wp2_with fail
          go_roundg (l.length - (k + 1))
          case measure => have := HG.out; omega
          case rel => exact ⟨k + 1, by omega, rfl, by go_num, by rw [if_pos h9, HS.out, HV.out], rfl⟩
      · have u1 : decide ((48 : Int) ≤ (c.toNat : Int)) = false := by simp; omega
        have HV : Hid (stepN n c = n) := Lib.hid (by unfold stepN; rw [if_neg (by omega)])
        go_wp2_with fail
        go_roundg (l.length - (k + 1))
        case measure => have := HG.out; omega
        case rel => exact ⟨k + 1, by omega, rfl, by go_num, by rw [if_pos h9, HS.out, HV.out], rfl⟩
    · have t1 : decide ((k : Int) < (l.length : Int)) = false := by simp; omega
      have HRES : Hid (numR l = if l.headD 0 = 45 then -n else n) := Lib.hid (by unfold numR; rw [if_pos h9, HN.out, List.take_of_length_le (by omega)])
      by_cases hne : l = []
      · have HR : Hid (numR l = n) := Lib.hid (by rw [HRES.out, hne]; rfl)
        have u5 : (l != []) = false := by rw [hne]; rfl
        have u6 : (l == []) = true := by rw [hne]; rfl
        clear hne
        go_wp2_with fail
        go_ret
        exact ⟨by rw [HR.out]; rfl, rfl⟩
      · have hpos : 0 < l.length := List.length_pos_iff.2 hne
        have u5 : (l != []) = true := by rw [bne_iff_ne]; exact hne
        have u6 : (l == []) = false := by rw [beq_eq_false_iff_ne]; exact hne
        have hb0 := ba_get l 0 hpos
        have HH : Hid (l.headD 0 = l.getD 0 0) := Lib.hid (by cases l <;> rfl)
        have j0 : (0 : Int) < (l.length : Int) := by omega
        generalize l.getD 0 0 = c0 at hb0 HH
        by_cases hc : c0 = 45
        · have u7 : ((c0.toNat : Int) == 45) = true := by rw [hc]; rfl
          have HR : Hid (numR l = -n) := Lib.hid (by rw [HRES.out, HH.out, if_pos hc])
          have w2 : IntKind.i64.wrap (-n) = -n := IntWalk.i64_in _ (by omega)
          clear hc hne
          go_wp2_with fail
          go_ret
          exact ⟨by rw [HR.out]; rfl, rfl⟩
        · have u7 : ((c0.toNat : Int) == 45) = false := by
            rw [beq_eq_false_iff_ne]
            intro h
            apply hc
            apply UInt8.toNat_inj.1
            have : (45 : UInt8).toNat = 45 := rfl
            omega
          have HR : Hid (numR l = n) := Lib.hid (by rw [HRES.out, HH.out, if_neg hc])
          clear hc hne
          go_wp2_with fail
          go_ret
          exact ⟨by rw [HR.out]; rfl, rfl⟩
end Go.Proofs.YtcblpfepkkkilaaGreatDoor
