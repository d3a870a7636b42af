/-
  The reference of layer 2: decimal digits, Chain, Digit, Is, Same.
-/
import Derived.Test.YtnmakpiddfhhnaaGreatDoorRefA
namespace Go.Proofs.YtnmakpiddfhhnaaGreatDoor
open Go.RowKit

/-- A decimal digit. -/
def decC (d : Nat) : UInt8 := UInt8.ofNat (48 + d)
theorem dec_step (u : Nat) (h : 10 ≤ u) : Lib.decDigits u = Lib.decDigits (u / 10) ++ [decC (u % 10)] := by rw [Lib.decDigits, dif_neg (by omega)]; rfl
theorem dec_small (u : Nat) (h : u < 10) : Lib.decDigits u = [decC (u % 10)] := by rw [Lib.decDigits, dif_pos h, Nat.mod_eq_of_lt h]; rfl

theorem dec_cut (d : Nat) (h : d < 10) : (⟨#[48, 49, 50, 51, 52, 53, 54, 55, 56, 57]⟩ : ByteArray).extract d (d + 1) = ⟨[decC d].toArray⟩ := by
  have : ∀ d : Fin 10, (⟨#[48, 49, 50, 51, 52, 53, 54, 55, 56, 57]⟩ : ByteArray).extract d.val (d.val + 1) = ⟨[decC d.val].toArray⟩ := by decide
  exact this ⟨d, h⟩
theorem dec_len (u : Nat) (h : u < 18446744073709551616) : (Lib.decDigits u).length ≤ 20 := by
  have key : ∀ (k u : Nat), u < 10 ^ k → (Lib.decDigits u).length ≤ max k 1 := by
    intro k
    induction k with
    | zero => intro u hu; have : u = 0 := by omega
              subst this; rw [dec_small 0 (by decide)]; exact Nat.le_refl 1
    | succ k ih =>
      intro u hu
      rw [Lib.decDigits]
      split
      · simp only [List.length_cons, List.length_nil]; omega
      · have := ih (u / 10) (by rw [Nat.pow_succ] at hu; omega)
        simp only [List.length_append, List.length_cons, List.length_nil]
        have h1 : 1 ≤ k := by
          cases k with
          | zero => simp at hu; omega
          | succ k => exact Nat.succ_pos k
        omega
  exact key 20 u (by omega)
set_option maxRecDepth 100000 in
set_option maxHeartbeats 1000000 in
theorem rdigits_any (u : Nat) (w : World) (hu : u < 18446744073709551616) :
    Calls Tryz.prog 118 #[.int .u64 (u : Int)] w fun e w' => e = .returned (.string ⟨(Lib.decDigits u).toArray⟩) ∧ w = w' := by
  obtain ⟨d, ed⟩ : ∃ d, d = u % 10 := ⟨_, rfl⟩
  have hd : d < 10 := by omega
  have hcut := dec_cut d hd
  have htd : (u : Int) % 10 = (d : Int) := by omega
  have HU : Hid (Lib.decDigits u = (if u / 10 = 0 then [] else Lib.decDigits (u / 10)) ++ [decC d]) := by
    show _ = _
    split
    · rw [dec_small u (by omega), ed]; rfl
    · rw [dec_step u (by omega), ed]
  have hul := dec_len u hu
  clear ed
  go_enter Tryz.func118, Tryz.ntmps118
  go_wp2_with fail
  go_loopg [0, 3] (u / 10) (fun g n s wr => ∃ (m : Nat) (t : List UInt8), g = m ∧ n = .int .u64 (m : Int) ∧ s = .string ⟨t.toArray⟩ ∧ Lib.decDigits u = (if m = 0 then [] else Lib.decDigits m) ++ t ∧ m < 18446744073709551616 ∧ wr = w)
  case atStart => exact ⟨u / 10, [decC d], rfl, by simp, by simp, HU.out, by omega, rfl⟩
  case round =>
    obtain ⟨m, t, hg, rfl, rfl, he, hm, rfl⟩ := hrel
    have HG := Lib.hid hg
    have ht20 : t.length ≤ 20 := by rw [he, List.length_append] at hul; omega
    have HE := Lib.hid he
    clear hg he HU hcut htd hd
    by_cases h0 : m = 0
    · have t1 : decide (0 < m) = false := by simp; omega
      have H0 := Lib.hid h0
      clear h0
      go_wp2_with fail
      go_ret
      exact ⟨by rw [HE.out, if_pos H0.out]; rfl, rfl⟩
    · have t1 : decide (0 < m) = true := by simp; omega
      obtain ⟨d2, ed2⟩ : ∃ d2, d2 = m % 10 := ⟨_, rfl⟩
      have hd2 : d2 < 10 := by omega
      have hcut := dec_cut d2 hd2
      have htd : (m : Int) % 10 = (d2 : Int) := by omega
      have HM : Hid (Lib.decDigits u = (if m / 10 = 0 then [] else Lib.decDigits (m / 10)) ++ (decC d2 :: t)) := by
        show _ = _
        rw [HE.out, if_neg h0]
        split
        · rw [dec_small m (by omega), ed2]; rfl
        · rw [dec_step m (by omega), ed2, List.append_assoc]; rfl
      have hm0 : 0 < m := by omega
      clear ed2 h0
      go_wp2_with fail
      go_roundg (m / 10)
      case measure => have := HG.out; omega
      case rel =>
        refine ⟨m / 10, decC d2 :: t, rfl, by simp, ?_, HM.out, by omega, rfl⟩
        rw [show (⟨#[decC d2]⟩ : ByteArray) = ⟨[decC d2].toArray⟩ by rfl, ba_append]; rfl

theorem rdecimal_any (n : Nat) (w : World) (hn : n ≤ 9223372036854775807) :
    Calls Tryz.prog 103 #[.int .i64 (n : Int)] w fun e w' => e = .returned (.string ⟨(Lib.decDigits n).toArray⟩) ∧ w = w' := by
  have w1 : IntKind.u64.wrap (n : Int) = (n : Int) := by rw [IntKind.wrap_u64]; omega
  have hn0 : ¬ ((n : Int) < 0) := by omega
  go_enter Tryz.func103, Tryz.ntmps103
  go_wp2_with fail
  refine (rdigits_any n _ (by omega)).mono ?_
  rintro e w1 ⟨rfl, rfl⟩
  go_wp2_with fail
  go_ret
  exact ⟨rfl, rfl⟩

/-- The value of a digit; -1 if it is none. -/
def digZ (c : UInt8) : Int := if hexC c then (hexN c : Int) else -1
theorem digZ_a (c : UInt8) (h1 : 48 ≤ c.toNat) (h2 : c.toNat ≤ 57) : digZ c = (c.toNat : Int) - 48 := by
  have h : ∀ n : Fin 256, 48 ≤ n.val → n.val ≤ 57 → digZ (UInt8.ofNat n.val) = (n.val : Int) - 48 := by decide +kernel
  simpa using h ⟨c.toNat, c.toNat_lt⟩ h1 h2
theorem digZ_b (c : UInt8) (h1 : 97 ≤ c.toNat) (h2 : c.toNat ≤ 102) : digZ c = (c.toNat : Int) - 97 + 10 := by
  have h : ∀ n : Fin 256, 97 ≤ n.val → n.val ≤ 102 → digZ (UInt8.ofNat n.val) = (n.val : Int) - 97 + 10 := by decide +kernel
  simpa using h ⟨c.toNat, c.toNat_lt⟩ h1 h2
theorem digZ_c (c : UInt8) (h : c.toNat < 48 ∨ (57 < c.toNat ∧ c.toNat < 97) ∨ 102 < c.toNat) : digZ c = -1 := by
  have h' : ∀ n : Fin 256, (n.val < 48 ∨ (57 < n.val ∧ n.val < 97) ∨ 102 < n.val) → digZ (UInt8.ofNat n.val) = -1 := by decide +kernel
  simpa using h' ⟨c.toNat, c.toNat_lt⟩ h
set_option maxRecDepth 100000 in
set_option maxHeartbeats 1000000 in
theorem rdigit_any (c : UInt8) (w : World) :
    Calls Tryz.prog 82 #[.int .u8 (c.toNat : Int)] w fun e w' => e = .returned (.int .i64 (digZ c)) ∧ w = w' := by
  have hc : c.toNat < 256 := c.toNat_lt
  have HA := Lib.hid (digZ_a c)
  have HB := Lib.hid (digZ_b c)
  have HC := Lib.hid (digZ_c c)
  generalize c.toNat = n at hc HA HB HC ⊢
  rcases (show (48 ≤ n ∧ n ≤ 57) ∨ (97 ≤ n ∧ n ≤ 102) ∨ n < 48 ∨ (57 < n ∧ n < 97) ∨ 102 < n by omega) with ⟨h1, h2⟩ | ⟨h1, h2⟩ | h1 | ⟨h1, h2⟩ | h1
  · have w1 : IntKind.u8.wrap ((n : Int) - 48) = (n : Int) - 48 := by rw [IntKind.wrap_u8']; omega
    go_enter Tryz.func82, Tryz.ntmps82
    go_wp2_with fail
    go_ret
    exact ⟨by rw [HA.out h1 h2]; rfl, rfl⟩
  · have w1 : IntKind.u8.wrap ((n : Int) - 97) = (n : Int) - 97 := by rw [IntKind.wrap_u8']; omega
    go_enter Tryz.func82, Tryz.ntmps82
    go_wp2_with fail
    go_ret
    exact ⟨by rw [HB.out h1 h2]; rfl, rfl⟩
  all_goals
    go_enter Tryz.func82, Tryz.ntmps82
    go_wp2_with fail
    go_ret
    exact ⟨by rw [HC.out (by omega)]; rfl, rfl⟩

set_option maxRecDepth 100000 in
set_option maxHeartbeats 1000000 in
theorem ris_any (l : List UInt8) (w : World) (hl : l.length ≤ 9223372036854775807) :
    Calls Tryz.prog 81 #[.string ⟨l.toArray⟩] w fun e w' => e = .returned (.bool (isD l)) ∧ w = w' := by
  go_enter Tryz.func81, Tryz.ntmps81
  go_wp2_with fail
  go_loopg [3] 17 (fun g i wr => ∃ k : Nat, k ≤ 16 ∧ g = 17 - k ∧ i = .int .i64 (k : Int) ∧ k ≤ l.length ∧ (l.take k).all hexC = true ∧ wr = w)
  case atStart => exact ⟨0, by omega, by omega, rfl, by omega, by simp, rfl⟩
  case round =>
    obtain ⟨k, hk, hg, rfl, hkl, hall, rfl⟩ := hrel
    have HG := Lib.hid hg
    have HALL := Lib.hid hall
    clear hg hall
    by_cases h1 : k < l.length
    · by_cases h2 : k < 16
      · have HS := Lib.hid (take_snoc' l k 0 h1)
        have HBA := Lib.hid (ba_get l k h1)
        have HM := Lib.hid (getD_mem l k 0 h1)
        have HZ : Hid (digZ (l.getD k 0) = if hexC (l.getD k 0) then (hexN (l.getD k 0) : Int) else -1) := rfl
        generalize l.getD k 0 = c at HS HBA HM HZ
        have t1 : decide ((k : Int) < (l.length : Int)) = true := by simp; omega
        have t2 : decide ((k : Int) < 16) = true := by simp; omega
        go_wp2_with fail
        rw [HBA.out]
        refine (rdigit_any _ _).mono ?_
        rintro e w1 ⟨rfl, rfl⟩
        cases hx : hexC c with
        | true =>
          have t3 : decide (digZ c < 0) = false := by rw [HZ.out, if_pos hx]; simp only [decide_eq_false_iff_not]; omega
          have HX := Lib.hid hx
          clear hx
          go_wp2_with fail
          go_roundg (17 - (k + 1))
          case measure => have := HG.out; omega
          case rel => exact ⟨k + 1, by omega, rfl, by go_num, by omega, by rw [HS.out, List.all_append, HALL.out]; simp [HX.out], rfl⟩
        | false =>
          have t3 : decide (digZ c < 0) = true := by rw [HZ.out, if_neg (by rw [hx]; decide)]; decide
          have HX := Lib.hid hx
          clear hx
          go_wp2_with fail
          go_ret
          have hf : isD l = false := by
            simp only [isD, Bool.and_eq_false_iff]
            right
            rw [List.all_eq_false]
            exact ⟨_, HM.out, by rw [HX.out]; decide⟩
          exact ⟨by rw [hf]; rfl, rfl⟩
      · have t1 : decide ((k : Int) < (l.length : Int)) = true := by simp; omega
        have t2 : decide ((k : Int) < 16) = false := by simp; omega
        have t3 : ((l.length : Int) == 16) = decide (l.length = 16) := by rw [Bool.eq_iff_iff]; simp; omega
        obtain rfl : k = 16 := by omega
        have HF : Hid (isD l = ((l.length : Int) == 16)) := by
          show _ = _
          by_cases h16 : l.length = 16
          · have : l.take 16 = l := List.take_of_length_le (by omega)
            have hh := HALL.out
            rw [this] at hh
            simp [isD, h16, hh]
          · rw [t3]; simp [isD, h16]
        clear t3
        go_wp2_with fail
        go_ret
        exact ⟨by rw [HF.out]; rfl, rfl⟩
    · have t1 : decide ((k : Int) < (l.length : Int)) = false := by simp; omega
      have HF : Hid (isD l = ((l.length : Int) == 16)) := by
        show _ = _
        have : l.take k = l := List.take_of_length_le (by omega)
        have hh := HALL.out
        rw [this] at hh
        rw [Bool.eq_iff_iff]
        simp [isD, hh]; omega
      go_wp2_with fail
      go_ret
      exact ⟨by rw [HF.out]; rfl, rfl⟩
end Go.Proofs.YtnmakpiddfhhnaaGreatDoor
