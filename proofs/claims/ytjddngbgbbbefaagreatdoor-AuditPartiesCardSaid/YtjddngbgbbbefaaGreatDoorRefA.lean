/-
  The reference of layer 2: mix, Sum.
  The reference of layer 2: decimal digits, Chain, Digit, Is, Same.
  The reference of layer 2: Joined, List.
  The reference of layer 2: List.
  The reference of layer 2: Chain.
-/
import Derived.Test.YtjddngbgbbbefaaGreatDoorPlnA
namespace Go.Proofs.YtjddngbgbbbefaaGreatDoor
open Go.RowKit

set_option maxRecDepth 100000 in
set_option maxHeartbeats 400000 in
theorem rmix_any (X : Nat) (w : World) (hX : X < 18446744073709551616) :
    Calls Tryz.prog 121 #[.int .u64 (X : Int)] w fun e w' => e = .returned (.int .u64 (mix X : Nat)) ∧ w = w' := by
  obtain ⟨Y, hY, eY, e1⟩ := xs64 X 32 4294967296 rfl hX
  obtain ⟨Z, hZ, eZ, e2⟩ := ml64 Y 11400714819323198485
  obtain ⟨U, hU, eU, e3⟩ := xs64 Z 29 536870912 rfl hZ
  obtain ⟨V, hV, eV, e4⟩ := ml64 U 13787848793156543929
  obtain ⟨T, hT, eT, e5⟩ := xs64 V 32 4294967296 rfl hV
  have HT : Hid (T = mix X) := by show T = _; rw [eT, eV, eU, eZ, eY]; rfl
  simp only [Int.cast_ofNat_Int] at e1 e2 e3 e4 e5
  clear eY eZ eU eV eT
  have w1 : IntKind.u64.wrap ((Y : Int) * 11400714819323198485) = (Z : Int) := by rw [IntKind.wrap_u64]; exact e2
  have w2 : IntKind.u64.wrap ((U : Int) * 13787848793156543929) = (V : Int) := by rw [IntKind.wrap_u64]; exact e4
  clear e2 e4
  go_enter Tryz.func121, Tryz.ntmps121
  go_wp2
  go_ret
  exact ⟨by rw [← HT.out]; rfl, rfl⟩

theorem blk_val (B b : Nat) (hB : B < 72057594037927936) (hb : b < 256) : IntKind.u64.wrap ((B : Int) * 256 + IntKind.u64.wrap (b : Int)) = ((B * 256 + b : Nat) : Int) := by
  rw [IntKind.wrap_u64, IntKind.wrap_u64]; omega
def digL (st : Nat) : Nat → List UInt8
  | 0 => []
  | i + 1 => UInt8.ofNat (hexd (st / 16 ^ i % 16)) :: digL st i
theorem digL_16 (st : Nat) : digL st 16 = hexS st := by
  simp [digL, hexS, List.range, List.range.loop]
theorem hex_cut (d : Nat) (h : d < 16) : (⟨#[48, 49, 50, 51, 52, 53, 54, 55, 56, 57, 97, 98, 99, 100, 101, 102]⟩ : ByteArray).extract d (d + 1) = ⟨[UInt8.ofNat (hexd d)].toArray⟩ := by
  have : ∀ d : Fin 16, (⟨#[48, 49, 50, 51, 52, 53, 54, 55, 56, 57, 97, 98, 99, 100, 101, 102]⟩ : ByteArray).extract d.val (d.val + 1) = ⟨[UInt8.ofNat (hexd d.val)].toArray⟩ := by decide
  exact this ⟨d, h⟩
theorem ba_get (l : List UInt8) (i : Nat) (h : i < l.length) : (⟨l.toArray⟩ : ByteArray)[i]'(by rw [ba_size]; exact h) = l.getD i 0 := by
  rw [List.getD_eq_getElem?_getD, List.getElem?_eq_getElem h]; rfl

set_option maxRecDepth 100000 in
set_option maxHeartbeats 1000000 in
theorem rsum_any (l : List UInt8) (w : World) (hl : l.length ≤ 9223372036854770000) :
    Calls Tryz.prog 106 #[.string ⟨l.toArray⟩] w fun e w' => e = .returned (.string ⟨(dsum l).toArray⟩) ∧ Below w.heap.size w w' := by
  go_enter Tryz.func106, Tryz.ntmps106
  go_wp2_with fail
  go_loopg [3, 4, 5, 6] (l.length / 8 + 1) (fun g s f _ _ wr => ∃ j : Nat, j ≤ l.length / 8 + 1 ∧ g = l.length / 8 + 1 - j ∧ f = .int .i64 ((8 * j : Nat) : Int) ∧ s = .int .u64 (stJ l j : Nat) ∧ Fr [] w wr)
  case atStart => exact ⟨0, by omega, by omega, rfl, rfl, Fr.refl _ _⟩
  case round =>
    obtain ⟨j, hj, hg, rfl, rfl, hfr⟩ := hrel
    have HG := Lib.hid hg
    clear hg
    by_cases hlt : 8 * j ≤ l.length
    · have HST := Lib.hid (show stJ l (j + 1) = mix (stJ l j ^^^ blk l (8 * j)) from rfl)
      have hst := stJ_lt l j
      obtain ⟨fj, hfj⟩ : ∃ fj, fj = 8 * j := ⟨_, rfl⟩
      rw [← hfj] at hlt HST ⊢
      have HFJ := Lib.hid hfj
      clear hfj
      generalize stJ l j = S at hst HST
      go_wp2_with fail
      obtain ⟨wo, rfl⟩ : ∃ wo : World, wo = wr := ⟨_, rfl⟩
      go_loopg [5, 6] 8 (fun g b i wr => ∃ m : Nat, m ≤ 8 ∧ g = 8 - m ∧ i = .int .i64 (7 - (m : Int)) ∧ b = .int .u64 (blkT l fj m : Nat) ∧ wr = wo)
      case atStart => exact ⟨0, by omega, by omega, rfl, rfl, rfl⟩
      case round =>
        obtain ⟨m, hm, hg, rfl, rfl, rfl⟩ := hrel
        have HG2 := Lib.hid hg
        clear hg
        by_cases hm8 : m < 8
        · obtain ⟨t, ht7, ht, hmt⟩ : ∃ t : Nat, t ≤ 7 ∧ (7 : Int) - (m : Int) = (t : Int) ∧ m = 7 - t := ⟨7 - m, by omega, by omega, by omega⟩
          have HT := Lib.hid hmt
          have HTT := Lib.hid ht
          rw [ht]
          have hblt : blkT l fj m < 72057594037927936 := Nat.lt_of_lt_of_le (blkT_lt l fj m) (Nat.le_trans (Nat.pow_le_pow_right (by decide) (show m ≤ 7 by omega)) (by decide))
          have HBL := Lib.hid (show blkT l fj (m + 1) = blkT l fj m * 256 + extB l (fj + t) by rw [blkT, show 7 - m = t by omega])
          generalize blkT l fj m = B at hblt HBL
          clear ht hmt
          rcases Nat.lt_trichotomy (fj + t) l.length with hc | hc | hc
          · have HE := Lib.hid (show extB l (fj + t) = (l.getD (fj + t) 0).toNat by unfold extB; rw [if_pos hc])
            have hbyte : (l.getD (fj + t) 0).toNat < 256 := (l.getD (fj + t) 0).toNat_lt
            have HBA := Lib.hid (ba_get l (fj + t) hc)
            go_wp2_with fail
            go_roundg (8 - (m + 1))
            case measure => have := HG2.out; omega
            case rel =>
              refine ⟨m + 1, by omega, rfl, ?_, ?_, rfl⟩
              · have := HTT.out; congr 1; omega
              · rw [HBL.out, HE.out, ← blk_val B _ hblt hbyte, ← HBA.out]
          · have HE := Lib.hid (show extB l (fj + t) = 1 by unfold extB; rw [if_neg (by omega), if_pos hc])
            have t1 : ((fj : Int) + (t : Int) == (l.length : Int)) = true := by simp; omega
            have HC := Lib.hid hc
            have hc1 : ¬ (fj + t < l.length) := by omega
            clear hc
            go_wp2_with fail
            go_roundg (8 - (m + 1))
            case measure => have := HG2.out; omega
            case rel =>
              refine ⟨m + 1, by omega, rfl, ?_, ?_, rfl⟩
              · have := HTT.out; congr 1; omega
              · rw [HBL.out, HE.out]; congr 1
          · have HE := Lib.hid (show extB l (fj + t) = 0 by unfold extB; rw [if_neg (by omega), if_neg (by omega)])
            have t1 : ((fj : Int) + (t : Int) == (l.length : Int)) = false := by simp; omega
            go_wp2_with fail
            go_roundg (8 - (m + 1))
            case measure => have := HG2.out; omega
            case rel =>
              refine ⟨m + 1, by omega, rfl, ?_, ?_, rfl⟩
              · have := HTT.out; congr 1; omega
              · rw [HBL.out, HE.out]; congr 1
        · obtain rfl : m = 8 := by omega
          have hbl := blk_lt l fj
          change Hid (stJ l (j + 1) = mix (S ^^^ blkT l fj 8)) at HST
          change blkT l fj 8 < 18446744073709551616 at hbl
          generalize blkT l fj 8 = B at hbl HST
          obtain ⟨X, hX, eX, e0⟩ : ∃ X : Nat, X < 18446744073709551616 ∧ X = S ^^^ B ∧ bits .xor .u64 (S : Int) (B : Int) = (X : Int) := ⟨_, Nat.xor_lt_two_pow (n := 64) hst hbl, rfl, bits_xor_u64_nat _ _ hst hbl⟩
          have EX := Lib.hid eX
          clear eX
          go_wp2_with fail
          refine (rmix_any X _ hX).mono ?_
          rintro e w3 ⟨rfl, rfl⟩
          go_wp2_with fail
          go_roundg (l.length / 8 + 1 - (j + 1))
          case measure => have := HG.out; have := HFJ.out; omega
          case rel =>
            refine ⟨j + 1, by have := HFJ.out; omega, rfl, ?_, ?_, hfr⟩
            · have := HFJ.out; congr 1; omega
            · rw [HST.out, EX.out]
    · obtain rfl : j = l.length / 8 + 1 := by omega
      have HD := Lib.hid (dsum_blocks l)
      have hst := stJ_lt l (l.length / 8 + 1)
      have t1 : decide (8 * ((l.length / 8 + 1 : Nat) : Int) ≤ (l.length : Int)) = false := by simp; omega
      generalize stJ l (l.length / 8 + 1) = S at hst HD
      generalize l.length / 8 + 1 = J at t1 hlt hj
      go_wp2_with fail
      obtain ⟨wo, rfl⟩ : ∃ wo : World, wo = wr := ⟨_, rfl⟩
      go_loopg [3, 7, 8] 16 (fun g st s i wr => ∃ k : Nat, k ≤ 16 ∧ g = 16 - k ∧ i = .int .i64 (k : Int) ∧ s = .string ⟨(digL S k).toArray⟩ ∧ st = .int .u64 (S / 16 ^ k : Nat) ∧ wr = wo)
      case atStart => exact ⟨0, by omega, by omega, rfl, rfl, by simp, rfl⟩
      case round =>
        obtain ⟨k, hk, hg, rfl, rfl, rfl, rfl⟩ := hrel
        have HG2 := Lib.hid hg
        clear hg
        by_cases hk16 : k < 16
        · have HDL := Lib.hid (show digL S (k + 1) = UInt8.ofNat (hexd (S / 16 ^ k % 16)) :: digL S k from rfl)
          have hlen : (digL S k).length ≤ 16 := by
            have : ∀ k, (digL S k).length = k := fun k => by induction k with | zero => rfl | succ k ih => simp [digL, ih]
            rw [this]; omega
          have HQ := Lib.hid (show S / 16 ^ (k + 1) = S / 16 ^ k / 16 by rw [Nat.pow_succ, Nat.div_div_eq_div_mul])
          have hT : S / 16 ^ k < 18446744073709551616 := Nat.lt_of_le_of_lt (Nat.div_le_self _ _) hst
          generalize S / 16 ^ k = T at hT HDL HQ
          generalize digL S k = D at hlen HDL
          have hd16 : T % 16 < 16 := Nat.mod_lt _ (by decide)
          have hcut := hex_cut (T % 16) hd16
          obtain ⟨d, hd⟩ : ∃ d, d = T % 16 := ⟨_, rfl⟩
          have htd : (T : Int) % 16 = (d : Int) := by rw [hd]; simp
          rw [← hd] at hd16 hcut HDL
          clear hd
          go_wp2_with fail
          go_roundg (16 - (k + 1))
          case measure => have := HG2.out; omega
          case rel =>
            refine ⟨k + 1, by omega, rfl, by go_num, ?_, ?_, rfl⟩
            · rw [HDL.out, show (⟨#[UInt8.ofNat (hexd d)]⟩ : ByteArray) = ⟨[UInt8.ofNat (hexd d)].toArray⟩ by rfl, ba_append]; rfl
            · rw [HQ.out]; simp
        · obtain rfl : k = 16 := by omega
          go_wp2_with fail
          go_ret
          exact ⟨by rw [HD.out, ← digL_16]; rfl, hfr.toBelow (by simp)⟩
end Go.Proofs.YtjddngbgbbbefaaGreatDoor
namespace Go.Proofs.YtjddngbgbbbefaaGreatDoor
open Go.RowKit

/-- A decimal digit. -/
def decC (d : Nat) : UInt8 := UInt8.ofNat (48 + d)
theorem dec_step (u : Nat) (h : 10 ≤ u) : Lib.decDigits u = Lib.decDigits (u / 10) ++ [decC (u % 10)] := by rw [Lib.decDigits, dif_neg (by omega)]; rfl
theorem dec_small (u : Nat) (h : u < 10) : Lib.decDigits u = [decC (u % 10)] := by rw [Lib.decDigits, dif_pos h, Nat.mod_eq_of_lt h]; rfl

theorem dec_cut (d : Nat) (h : d < 10) : (⟨#[48, 49, 50, 51, 52, 53, 54, 55, 56, 57]⟩ : ByteArray).extract d (d + 1) = ⟨[decC d].toArray⟩ := by
  have : ∀ d : Fin 10, (⟨#[48, 49, 50, 51, 52, 53, 54, 55, 56, 57]⟩ : ByteArray).extract d.val (d.val + 1) = ⟨[decC d.val].toArray⟩ := by decide
  exact this ⟨d, h⟩
theorem dec_len (u : Nat) (h : u < 18446744073709551616) : (Lib.decDigits u).length ≤ 20 := by
  have key : ∀ (k u : Nat), u < 10 ^ k → (Lib.decDigits u).length ≤ max k 1 := by
    intro k
    induction k with
    | zero => intro u hu; have : u = 0 := by omega
              subst this; rw [dec_small 0 (by decide)]; exact Nat.le_refl 1
    | succ k ih =>
      intro u hu
      rw [Lib.decDigits]
      split
      · simp only [List.length_cons, List.length_nil]; omega
      · have := ih (u / 10) (by rw [Nat.pow_succ] at hu; omega)
        simp only [List.length_append, List.length_cons, List.length_nil]
        have h1 : 1 ≤ k := by
          cases k with
          | zero => simp at hu; omega
          | succ k => exact Nat.succ_pos k
        omega
  exact key 20 u (by omega)
set_option maxRecDepth 100000 in
set_option maxHeartbeats 1000000 in
theorem rdigits_any (u : Nat) (w : World) (hu : u < 18446744073709551616) :
    Calls Tryz.prog 105 #[.int .u64 (u : Int)] w fun e w' => e = .returned (.string ⟨(Lib.decDigits u).toArray⟩) ∧ w = w' := by
  obtain ⟨d, ed⟩ : ∃ d, d = u % 10 := ⟨_, rfl⟩
  have hd : d < 10 := by omega
  have hcut := dec_cut d hd
  have htd : (u : Int) % 10 = (d : Int) := by omega
  have HU : Hid (Lib.decDigits u = (if u / 10 = 0 then [] else Lib.decDigits (u / 10)) ++ [decC d]) := by
    show _ = _
    split
    · rw [dec_small u (by omega), ed]; rfl
    · rw [dec_step u (by omega), ed]
  have hul := dec_len u hu
  clear ed
  go_enter Tryz.func105, Tryz.ntmps105
  go_wp2_with fail
  go_loopg [0, 3] (u / 10) (fun g n s wr => ∃ (m : Nat) (t : List UInt8), g = m ∧ n = .int .u64 (m : Int) ∧ s = .string ⟨t.toArray⟩ ∧ Lib.decDigits u = (if m = 0 then [] else Lib.decDigits m) ++ t ∧ m < 18446744073709551616 ∧ wr = w)
  case atStart => exact ⟨u / 10, [decC d], rfl, by simp, by simp, HU.out, by omega, rfl⟩
  case round =>
    obtain ⟨m, t, hg, rfl, rfl, he, hm, rfl⟩ := hrel
    have HG := Lib.hid hg
    have ht20 : t.length ≤ 20 := by rw [he, List.length_append] at hul; omega
    have HE := Lib.hid he
    clear hg he HU hcut htd hd
    by_cases h0 : m = 0
    · have t1 : decide (0 < m) = false := by simp; omega
      have H0 := Lib.hid h0
      clear h0
      go_wp2_with fail
      go_ret
      exact ⟨by rw [HE.out, if_pos H0.out]; rfl, rfl⟩
    · have t1 : decide (0 < m) = true := by simp; omega
      obtain ⟨d2, ed2⟩ : ∃ d2, d2 = m % 10 := ⟨_, rfl⟩
      have hd2 : d2 < 10 := by omega
      have hcut := dec_cut d2 hd2
      have htd : (m : Int) % 10 = (d2 : Int) := by omega
      have HM : Hid (Lib.decDigits u = (if m / 10 = 0 then [] else Lib.decDigits (m / 10)) ++ (decC d2 :: t)) := by
        show _ = _
        rw [HE.out, if_neg h0]
        split
        · rw [dec_small m (by omega), ed2]; rfl
        · rw [dec_step m (by omega), ed2, List.append_assoc]; rfl
      have hm0 : 0 < m := by omega
      clear ed2 h0
      go_wp2_with fail
      go_roundg (m / 10)
      case measure => have := HG.out; omega
      case rel =>
        refine ⟨m / 10, decC d2 :: t, rfl, by simp, ?_, HM.out, by omega, rfl⟩
        rw [show (⟨#[decC d2]⟩ : ByteArray) = ⟨[decC d2].toArray⟩ by rfl, ba_append]; rfl

theorem rdecimal_any (n : Nat) (w : World) (hn : n ≤ 9223372036854775807) :
    Calls Tryz.prog 64 #[.int .i64 (n : Int)] w fun e w' => e = .returned (.string ⟨(Lib.decDigits n).toArray⟩) ∧ w = w' := by
  have w1 : IntKind.u64.wrap (n : Int) = (n : Int) := by rw [IntKind.wrap_u64]; omega
  have hn0 : ¬ ((n : Int) < 0) := by omega
  go_enter Tryz.func64, Tryz.ntmps64
  go_wp2_with fail
  refine (rdigits_any n _ (by omega)).mono ?_
  rintro e w1 ⟨rfl, rfl⟩
  go_wp2_with fail
  go_ret
  exact ⟨rfl, rfl⟩

/-- The value of a digit; -1 if it is none. -/
def digZ (c : UInt8) : Int := if hexC c then (hexN c : Int) else -1
theorem digZ_a (c : UInt8) (h1 : 48 ≤ c.toNat) (h2 : c.toNat ≤ 57) : digZ c = (c.toNat : Int) - 48 := by
  have h : ∀ n : Fin 256, 48 ≤ n.val → n.val ≤ 57 → digZ (UInt8.ofNat n.val) = (n.val : Int) - 48 := by decide +kernel
  simpa using h ⟨c.toNat, c.toNat_lt⟩ h1 h2
theorem digZ_b (c : UInt8) (h1 : 97 ≤ c.toNat) (h2 : c.toNat ≤ 102) : digZ c = (c.toNat : Int) - 97 + 10 := by
  have h : ∀ n : Fin 256, 97 ≤ n.val → n.val ≤ 102 → digZ (UInt8.ofNat n.val) = (n.val : Int) - 97 + 10 := by decide +kernel
  simpa using h ⟨c.toNat, c.toNat_lt⟩ h1 h2
theorem digZ_c (c : UInt8) (h : c.toNat < 48 ∨ (57 < c.toNat ∧ c.toNat < 97) ∨ 102 < c.toNat) : digZ c = -1 := by
  have h' : ∀ n : Fin 256, (n.val < 48 ∨ (57 < n.val ∧ n.val < 97) ∨ 102 < n.val) → digZ (UInt8.ofNat n.val) = -1 := by decide +kernel
  simpa using h' ⟨c.toNat, c.toNat_lt⟩ h
set_option maxRecDepth 100000 in
set_option maxHeartbeats 1000000 in
theorem rdigit_any (c : UInt8) (w : World) :
    Calls Tryz.prog 112 #[.int .u8 (c.toNat : Int)] w fun e w' => e = .returned (.int .i64 (digZ c)) ∧ w = w' := by
  have hc : c.toNat < 256 := c.toNat_lt
  have HA := Lib.hid (digZ_a c)
  have HB := Lib.hid (digZ_b c)
  have HC := Lib.hid (digZ_c c)
  generalize c.toNat = n at hc HA HB HC ⊢
  rcases (show (48 ≤ n ∧ n ≤ 57) ∨ (97 ≤ n ∧ n ≤ 102) ∨ n < 48 ∨ (57 < n ∧ n < 97) ∨ 102 < n by omega) with ⟨h1, h2⟩ | ⟨h1, h2⟩ | h1 | ⟨h1, h2⟩ | h1
  · have w1 : IntKind.u8.wrap ((n : Int) - 48) = (n : Int) - 48 := by rw [IntKind.wrap_u8']; omega
    go_enter Tryz.func112, Tryz.ntmps112
    go_wp2_with fail
    go_ret
    exact ⟨by rw [HA.out h1 h2]; rfl, rfl⟩
  · have w1 : IntKind.u8.wrap ((n : Int) - 97) = (n : Int) - 97 := by rw [IntKind.wrap_u8']; omega
    go_enter Tryz.func112, Tryz.ntmps112
    go_wp2_with fail
    go_ret
    exact ⟨by rw [HB.out h1 h2]; rfl, rfl⟩
  all_goals
    go_enter Tryz.func112, Tryz.ntmps112
    go_wp2_with fail
    go_ret
    exact ⟨by rw [HC.out (by omega)]; rfl, rfl⟩

set_option maxRecDepth 100000 in
set_option maxHeartbeats 1000000 in
theorem ris_any (l : List UInt8) (w : World) (hl : l.length ≤ 9223372036854775807) :
    Calls Tryz.prog 81 #[.string ⟨l.toArray⟩] w fun e w' => e = .returned (.bool (isD l)) ∧ w = w' := by
  go_enter Tryz.func81, Tryz.ntmps81
  go_wp2_with fail
  go_loopg [3] 17 (fun g i wr => ∃ k : Nat, k ≤ 16 ∧ g = 17 - k ∧ i = .int .i64 (k : Int) ∧ k ≤ l.length ∧ (l.take k).all hexC = true ∧ wr = w)
  case atStart => exact ⟨0, by omega, by omega, rfl, by omega, by simp, rfl⟩
  case round =>
    obtain ⟨k, hk, hg, rfl, hkl, hall, rfl⟩ := hrel
    have HG := Lib.hid hg
    have HALL := Lib.hid hall
    clear hg hall
    by_cases h1 : k < l.length
    · by_cases h2 : k < 16
      · have HS := Lib.hid (take_snoc' l k 0 h1)
        have HBA := Lib.hid (ba_get l k h1)
        have HM := Lib.hid (getD_mem l k 0 h1)
        have HZ : Hid (digZ (l.getD k 0) = if hexC (l.getD k 0) then (hexN (l.getD k 0) : Int) else -1) := rfl
        generalize l.getD k 0 = c at HS HBA HM HZ
        have t1 : decide ((k : Int) < (l.length : Int)) = true := by simp; omega
        have t2 : decide ((k : Int) < 16) = true := by simp; omega
        go_wp2_with fail
        rw [HBA.out]
        refine (rdigit_any _ _).mono ?_
        rintro e w1 ⟨rfl, rfl⟩
        cases hx : hexC c with
        | true =>
          have t3 : decide (digZ c < 0) = false := by rw [HZ.out, if_pos hx]; simp only [decide_eq_false_iff_not]; omega
          have HX := Lib.hid hx
          clear hx
          go_wp2_with fail
          go_roundg (17 - (k + 1))
          case measure => have := HG.out; omega
          case rel => exact ⟨k + 1, by omega, rfl, by go_num, by omega, by rw [HS.out, List.all_append, HALL.out]; simp [HX.out], rfl⟩
        | false =>
          have t3 : decide (digZ c < 0) = true := by rw [HZ.out, if_neg (by rw [hx]; decide)]; decide
          have HX := Lib.hid hx
          clear hx
          go_wp2_with fail
          go_ret
          have hf : isD l = false := by
            simp only [isD, Bool.and_eq_false_iff]
            right
            rw [List.all_eq_false]
            exact ⟨_, HM.out, by rw [HX.out]; decide⟩
          exact ⟨by rw [hf]; rfl, rfl⟩
      · have t1 : decide ((k : Int) < (l.length : Int)) = true := by simp; omega
        have t2 : decide ((k : Int) < 16) = false := by simp; omega
        have t3 : ((l.length : Int) == 16) = decide (l.length = 16) := by rw [Bool.eq_iff_iff]; simp; omega
        obtain rfl : k = 16 := by omega
        have HF : Hid (isD l = ((l.length : Int) == 16)) := by
          show _ = _
          by_cases h16 : l.length = 16
          · have : l.take 16 = l := List.take_of_length_le (by omega)
            have hh := HALL.out
            rw [this] at hh
            simp [isD, h16, hh]
          · rw [t3]; simp [isD, h16]
        clear t3
        go_wp2_with fail
        go_ret
        exact ⟨by rw [HF.out]; rfl, rfl⟩
    · have t1 : decide ((k : Int) < (l.length : Int)) = false := by simp; omega
      have HF : Hid (isD l = ((l.length : Int) == 16)) := by
        show _ = _
        have : l.take k = l := List.take_of_length_le (by omega)
        have hh := HALL.out
        rw [this] at hh
        rw [Bool.eq_iff_iff]
        simp [isD, hh]; omega
      go_wp2_with fail
      go_ret
      exact ⟨by rw [HF.out]; rfl, rfl⟩
end Go.Proofs.YtjddngbgbbbefaaGreatDoor
namespace Go.Proofs.YtjddngbgbbbefaaGreatDoor
open Go.RowKit

/-- Room for the joined text. -/
def capN (l : List (List UInt8)) : Nat := (l.map fun s => s.length + 21).foldl (· + ·) 0
theorem capN_snoc (l : List (List UInt8)) (k : Nat) (hk : k < l.length) : capN (l.take (k + 1)) = capN (l.take k) + ((l.getD k []).length + 21) := by
  unfold capN
  rw [take_snoc' l k [] hk, List.map_append, List.foldl_append]; rfl
theorem foldl_add_le (f : List (List UInt8)) : ∀ a b : Nat, a ≤ b → (f.map fun s => s.length + 21).foldl (· + ·) a ≤ (f.map fun s => s.length + 21).foldl (· + ·) b := by
  induction f with
  | nil => intro a b h; exact h
  | cons s f ih => intro a b h; exact ih _ _ (Nat.add_le_add_right h _)
theorem foldl_add_ge (f : List (List UInt8)) (a : Nat) : a ≤ (f.map fun s => s.length + 21).foldl (· + ·) a := by
  induction f generalizing a with
  | nil => exact Nat.le_refl _
  | cons s f ih => exact Nat.le_trans (Nat.le_add_right _ _) (ih (a + (s.length + 21)))
theorem capN_take (l : List (List UInt8)) (k : Nat) : capN (l.take k) ≤ capN l := by
  unfold capN
  conv => rhs; rw [← List.take_append_drop k l]
  rw [List.map_append, List.foldl_append]
  exact foldl_add_ge _ _
theorem joinL_capN (l : List (List UInt8)) (h : ∀ s ∈ l, s.length < 18446744073709551616) : (joinL l).length ≤ capN l := by
  have key : ∀ k, k ≤ l.length → (joinL (l.take k)).length ≤ capN (l.take k) := by
    intro k
    induction k with
    | zero => intro _; simp [joinL]
    | succ k ih =>
      intro hk
      have h1 := ih (by omega)
      have h2 := dec_len (l.getD k []).length (h _ (getD_mem l k [] (by omega)))
      rw [joinL_snoc l k (by omega), capN_snoc l k (by omega), List.length_append]
      simp only [joinE, List.length_append, List.length_cons]
      omega
  have := key l.length (Nat.le_refl _)
  rwa [List.take_length] at this

theorem strCells_to (l : List UInt8) : Lib.strCells ⟨l.toArray⟩ = Lib.byteCells l := rfl
theorem ownBlock_ge {base : Nat} {w : World} {e : TypeId} {size n : Nat} {v : Value} {xs : List Value} (h : w.ownsRow base e size v n xs) : ∀ x, v.ownBlock = some x → base ≤ x := by
  intro x hx
  rcases h.2 with ⟨rfl, _⟩ | ⟨g, cap, cur, rfl, hb, hg, _⟩
  · simp [Value.ownBlock] at hx
  · obtain rfl : g = x := by simpa [Value.ownBlock] using hx
    exact hb
theorem Strs.lt {w : World} {b off cap : Nat} {l : List (List UInt8)} {n : Nat} (h : Strs w (.slice (some ⟨b, off, none⟩) n cap) l) (k : Nat) (_ : k < l.length) : b < w.heap.size := by
  rcases h with ⟨h, _⟩ | ⟨b', off', cap', hv, _, _, h3, _⟩
  · cases h
  · cases hv; exact h3
/-- 'string(b)' of bytes that the call has made. -/
theorem own_string {w : World} {base : Nat} {v : Value} {l : List UInt8} (h : w.ownsRow base 5 1 v l.length (Lib.byteCells l)) :
    ∃ ao cap, v = .slice ao l.length cap ∧ (convert 88 9 (.slice ao l.length cap)).run Tryz.prog w = .ok (.string ⟨l.toArray⟩) w := by
  rcases h.2 with ⟨rfl, h0⟩ | ⟨g, cap, cur, rfl, hb, hg, h3, h4, h5, h6⟩
  · refine ⟨none, 0, by rw [h0], ?_⟩
    have := List.length_eq_zero_iff.1 h0
    subst this
    simp only [List.length_nil]
    rw [run_convert_bytes_string w _ _ 5 none 0 0 Tryz.underlying88 Tryz.underlying5 Tryz.underlying9]
    rfl
  · refine ⟨_, cap, rfl, run_convert_bytes_back (P := Tryz.prog) w 88 9 5 ⟨g, 0, none⟩ cap l Tryz.underlying88 Tryz.underlying5 Tryz.underlying9 (fun j hj => ?_)⟩
    rw [show (⟨g, 0, none⟩ : Addr).add j = ⟨g, j, none⟩ by simp [Addr.add]; omega, row_cell hg j]
    have h7 : (cur.toList.take (l.length * 1))[j]? = cur[j]? := by rw [List.getElem?_take, if_pos (by omega), Array.getElem?_toList]
    rw [← h7, h6]
    simp [Lib.byteCells, hj]
theorem bInfo : (Tryz.prog.info? 5).map (fun i => (i.zero, i.size, i.bytes)) = some (some (.int .u8 0), 1, 1) := by kernel_rfl

set_option maxRecDepth 100000 in
set_option maxHeartbeats 2000000 in
theorem rjoined_any (v : Value) (l : List (List UInt8)) (w : World) (hv : Strs w v l) (hl : capN l ≤ 140737488355328) :
    Calls Tryz.prog 21 #[v] w fun e w' => e = .returned (.string ⟨(joinL l).toArray⟩) ∧ Below w.heap.size w w' := by
  have hv0 := hv
  obtain ⟨a, cap, rfl, hlen, ha⟩ := hv.form
  have HV := Lib.hid hv0
  clear hv hv0
  go_enter Tryz.func21, Tryz.ntmps21
  go_wp2_with fail
  go_loopg [3, 4] l.length (fun g n i wr => ∃ k : Nat, k ≤ l.length ∧ g = l.length - k ∧ i = .int .i64 (k : Int) ∧ n = .int .i64 (capN (l.take k) : Nat) ∧ wr = w)
  case atStart => exact ⟨0, Nat.zero_le _, by omega, rfl, rfl, rfl⟩
  case round =>
    obtain ⟨k, hk, hg, rfl, rfl, rfl⟩ := hrel
    have HG := Lib.hid hg
    clear hg
    by_cases hlt : k < l.length
    · obtain ⟨b, off, rfl⟩ := ha k hlt
      have hcell := HV.out.cell k hlt
      have HS := Lib.hid (capN_snoc l k hlt)
      have hc1 := capN_take l (k + 1)
      have hc2 := capN_take l k
      rw [HS.out] at hc1
      have t1 : decide ((k : Int) < (l.length : Int)) = true := by simp; omega
      generalize l.getD k [] = s at hcell HS hc1
      generalize capN (l.take k) = C at hc1 hc2 HS
      go_wp2_with fail
      go_roundg (l.length - (k + 1))
      case measure => have := HG.out; omega
      case rel => exact ⟨k + 1, by omega, rfl, by go_num, by rw [HS.out]; go_num, rfl⟩
    · obtain rfl : k = l.length := by omega
      obtain ⟨wo, rfl⟩ : ∃ wo : World, wo = wr := ⟨_, rfl⟩
      have HC := Lib.hid (show capN (l.take l.length) = capN l by rw [List.take_length])
      rw [HC.out]
      have t1 : decide ((l.length : Int) < (l.length : Int)) = false := by simp
      obtain ⟨i0, hi, hz0, hz1, hz2⟩ := info_parts bInfo
      generalize hCC : capN l = C at hl ⊢
      have HCC := Lib.hid hCC
      clear hCC
      go_wp2_with (refine wpList_make_own _ rfl _ _ 88 rfl wo.heap.size 5 i0 (.int .u8 0) 1 Tryz.underlying88 hi hz0 hz1 .i64 .i64 C C rfl rfl rfl (by rw [hz2]; omega) (by unfold maxLen; omega) (Nat.le_refl _) ?_)
      intro w1 hown hgrow
      have hf1 : Fr [] wo w1 := (Fr.refl [] wo).grown hgrow (by simp)
      have HO := Lib.hid hown
      clear hown hgrow HC t1 hlt
      go_wp2_with fail
      go_loopg [5, 6] l.length (fun g v i wx => ∃ k : Nat, k ≤ l.length ∧ g = l.length - k ∧ i = .int .i64 (k : Int) ∧ wx.ownsRow wo.heap.size 5 1 v (joinL (l.take k)).length (Lib.byteCells (joinL (l.take k))) ∧ Fr [] wo wx)
      case atStart => exact ⟨0, Nat.zero_le _, by omega, rfl, HO.out, hf1⟩
      case round =>
        obtain ⟨k, hk, hg, rfl, ho, hfr⟩ := hrel
        have HG := Lib.hid hg
        have HO2 := Lib.hid ho
        clear hg ho HO
        by_cases hlt : k < l.length
        · obtain ⟨b, off, rfl⟩ := ha k hlt
          have t2 : decide ((k : Int) < (l.length : Int)) = true := by simp; omega
          have hcell := (HV.out.fr0 hfr).cell k hlt
          have HS := Lib.hid (joinL_snoc l k hlt)
          have hJ : (joinL (l.take k)).length + (joinE (l.getD k [])).length ≤ 140737488355328 := by
            have h1 := joinE_le l k hlt
            have h2 : (joinL l).length ≤ capN l := joinL_capN l (fun s hs => by
              obtain ⟨i, hi1, hi2⟩ := List.getElem_of_mem hs
              have h3 := capN_snoc l i hi1
              have h4 := capN_take l (i + 1)
              have h5 : l.getD i [] = s := by rw [List.getD_eq_getElem?_getD, List.getElem?_eq_getElem hi1]; exact hi2
              rw [h5] at h3
              have h6 := HCC.out
              omega)
            have h6 := HCC.out
            omega
          generalize l.getD k [] = s at hcell HS hJ
          have hd : (Lib.decDigits s.length).length + (s.length + 1) + (joinL (l.take k)).length ≤ 140737488355328 := by simp only [joinE, List.length_append, List.length_cons] at hJ; omega
          clear hJ
          generalize joinL (l.take k) = J at hd HS HO2
          go_wp2_with fail
          refine (rdecimal_any s.length _ (by omega)).mono ?_
          rintro e w2 ⟨rfl, rfl⟩
          go_wp2_with (at_builtin; refine Lib.wpList_append_own_string _ rfl _ _ 88 9 rfl wo.heap.size 5 i0 Tryz.underlying88 Tryz.underlying9 hi hz0 hz1 hz2 _ _ _ rfl HO2.out ⟨(Lib.decDigits s.length).toArray⟩ rfl ?c3 ?c4 ?c5 ?_)
          case c3 => rw [ba_size]; unfold maxLen; omega
          case c4 => rw [ba_size]; omega
          case c5 => exact hfr.size
          intro v1 w3 ho3 hgr3 _
          have hfr3 : Fr [] wo w3 := hfr.grown hgr3 (fun r e => Or.inr (ownBlock_ge HO2.out r e))
          have hb : b < wo.heap.size := HV.out.lt k hlt
          have hcell3 : w3.cell? ⟨b, off + k, none⟩ = some (.string ⟨s.toArray⟩) := hgr3.cell hcell (fun e => by have := ownBlock_ge HO2.out b e.symm; omega)
          have HO3 : Hid (w3.ownsRow wo.heap.size 5 1 v1 (J ++ Lib.decDigits s.length).length (Lib.byteCells (J ++ Lib.decDigits s.length))) := by
            show World.ownsRow _ _ _ _ _ _ _
            rw [List.length_append, Lib.byteCells_append]
            simpa [ba_size, strCells_to] using ho3
          clear ho3 hgr3 HO2 hfr hcell
          go_wp2_with (at_builtin; refine wpList_append_own _ rfl _ _ 88 rfl wo.heap.size 5 i0 (.int .u8 0) 1 1 Tryz.underlying88 hi hz0 hz1 hz2 rfl (by decide) _ _ _ rfl (ownsRow_fr HO3.out ((Fr.refl [] w3).alloc _) (by simp)) ⟨w3.heap.size, 0, none⟩ 1 1 [.int .u8 58] rfl rfl (cell_one_new _ _ _) (by simp [Value.oneCell']) ?d3 ?d4 ?d5 ?_)
          case d3 => rw [List.length_append]; unfold maxLen; omega
          case d4 => rw [List.length_append]; omega
          case d5 => have := hfr3.size; simp; omega
          intro v2 w4 ho4 hgr4 _
          have hfr4 : Fr [] wo w4 := (hfr3.alloc _).grown hgr4 (fun r e => Or.inr (ownBlock_ge HO3.out r e))
          have hcell4 : w4.cell? ⟨b, off + k, none⟩ = some (.string ⟨s.toArray⟩) := hgr4.cell (((Fr.refl [] w3).alloc _).cell hcell3 (by simp)) (fun e => by have := ownBlock_ge HO3.out b e.symm; omega)
          have HO4 : Hid (w4.ownsRow wo.heap.size 5 1 v2 (J ++ Lib.decDigits s.length ++ [58]).length (Lib.byteCells (J ++ Lib.decDigits s.length ++ [58]))) := by
            show World.ownsRow _ _ _ _ _ _ _
            rw [List.length_append, Lib.byteCells_append]
            simpa [Lib.byteCells] using ho4
          clear ho4 hgr4 HO3 hfr3 hcell3
          go_wp2_with (at_builtin; refine Lib.wpList_append_own_string _ rfl _ _ 88 9 rfl wo.heap.size 5 i0 Tryz.underlying88 Tryz.underlying9 hi hz0 hz1 hz2 _ _ _ rfl HO4.out ⟨s.toArray⟩ rfl ?e3 ?e4 ?e5 ?_)
          case e3 => rw [ba_size]; simp only [List.length_append, List.length_cons, List.length_nil]; unfold maxLen; omega
          case e4 => rw [ba_size]; simp only [List.length_append, List.length_cons, List.length_nil]; omega
          case e5 => exact hfr4.size
          intro v3 w5 ho5 hgr5 _
          have hfr5 : Fr [] wo w5 := hfr4.grown hgr5 (fun r e => Or.inr (ownBlock_ge HO4.out r e))
          have HO5 : Hid (w5.ownsRow wo.heap.size 5 1 v3 (J ++ joinE s).length (Lib.byteCells (J ++ joinE s))) := by
            show World.ownsRow _ _ _ _ _ _ _
            rw [show J ++ joinE s = (J ++ Lib.decDigits s.length ++ [58]) ++ s by simp [joinE], List.length_append, Lib.byteCells_append]
            simpa [ba_size, strCells_to] using ho5
          clear ho5 hgr5 HO4 hfr4 hcell4
          go_wp2_with fail
          go_roundg (l.length - (k + 1))
          case measure => have := HG.out; omega
          case rel => exact ⟨k + 1, by omega, rfl, by go_num, by rw [HS.out]; exact HO5.out, hfr5⟩
        · obtain rfl : k = l.length := by omega
          have t2 : decide ((l.length : Int) < (l.length : Int)) = false := by simp
          have HOJ : Hid (wr.ownsRow wo.heap.size 5 1 u5 (joinL l).length (Lib.byteCells (joinL l))) := by have := HO2.out; rw [List.take_length] at this; exact this
          clear HO2
          obtain ⟨kc, hkc⟩ : ∃ ao cap, u5 = .slice ao (joinL l).length cap ∧ (convert 88 9 (.slice ao (joinL l).length cap)).run Tryz.prog wr = .ok (.string ⟨(joinL l).toArray⟩) wr := own_string HOJ.out
          obtain ⟨cap2, rfl, hkc⟩ := hkc
          go_wp2_with fail
          go_ret
          exact ⟨rfl, hfr.toBelow (by simp)⟩
end Go.Proofs.YtjddngbgbbbefaaGreatDoor
namespace Go.Proofs.YtjddngbgbbbefaaGreatDoor
open Go.RowKit

theorem rlist_any (v : Value) (l : List (List UInt8)) (w : World) (hv : Strs w v l) (hl : capN l ≤ 140737488355328) :
    Calls Tryz.prog 65 #[v] w fun e w' => e = .returned (.string ⟨(dlist l).toArray⟩) ∧ Below w.heap.size w w' := by
  have hb : (joinL l).length ≤ capN l := joinL_capN l (fun s hs => by
    obtain ⟨i, hi1, hi2⟩ := List.getElem_of_mem hs
    have h3 := capN_snoc l i hi1
    have h4 := capN_take l (i + 1)
    have h5 : l.getD i [] = s := by rw [List.getD_eq_getElem?_getD, List.getElem?_eq_getElem hi1]; exact hi2
    rw [h5] at h3
    omega)
  go_enter Tryz.func65, Tryz.ntmps65
  go_wp2_with fail
  refine (rjoined_any v l w hv hl).mono ?_
  rintro e w1 ⟨rfl, hb1⟩
  go_wp2_with fail
  refine (rsum_any (joinL l) w1 (by omega)).mono ?_
  rintro e w2 ⟨rfl, hb2⟩
  go_wp2_with fail
  go_ret
  exact ⟨rfl, hb1.trans (hb2.mono hb1.size)⟩
theorem capN_le (l : List (List UInt8)) (B : Nat) (h : ∀ s ∈ l, s.length ≤ B) : capN l ≤ l.length * (B + 21) := by
  have key : ∀ (f : List (List UInt8)) (a : Nat), (∀ s ∈ f, s.length ≤ B) → (f.map fun s => s.length + 21).foldl (· + ·) a ≤ a + f.length * (B + 21) := by
    intro f
    induction f with
    | nil => intro a _; simp
    | cons s f ih =>
      intro a hf
      have h1 := hf s (by simp)
      have h2 := ih (a + (s.length + 21)) (fun x hx => hf x (by simp [hx]))
      have h3 : (s :: f).length = f.length + 1 := rfl
      simp only [List.map_cons, List.foldl_cons]
      rw [h3, Nat.add_mul]
      omega
  have := key l 0 h
  unfold capN; omega
end Go.Proofs.YtjddngbgbbbefaaGreatDoor
namespace Go.Proofs.YtjddngbgbbbefaaGreatDoor
open Go.RowKit

end Go.Proofs.YtjddngbgbbbefaaGreatDoor
