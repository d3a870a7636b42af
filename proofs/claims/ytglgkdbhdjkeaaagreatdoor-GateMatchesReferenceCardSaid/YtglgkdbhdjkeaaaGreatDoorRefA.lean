/-
  The reference of layer 2: mix, Sum.
-/
import Derived.Test.YtglgkdbhdjkeaaaGreatDoorPlnA
namespace Go.Proofs.YtglgkdbhdjkeaaaGreatDoor
open Go.RowKit

set_option maxRecDepth 100000 in
set_option maxHeartbeats 400000 in
theorem rmix_any (X : Nat) (w : World) (hX : X < 18446744073709551616) :
    Calls Tryz.prog 115 #[.int .u64 (X : Int)] w fun e w' => e = .returned (.int .u64 (mix X : Nat)) ∧ w = w' := by
  obtain ⟨Y, hY, eY, e1⟩ := xs64 X 32 4294967296 rfl hX
  obtain ⟨Z, hZ, eZ, e2⟩ := ml64 Y 11400714819323198485
  obtain ⟨U, hU, eU, e3⟩ := xs64 Z 29 536870912 rfl hZ
  obtain ⟨V, hV, eV, e4⟩ := ml64 U 13787848793156543929
  obtain ⟨T, hT, eT, e5⟩ := xs64 V 32 4294967296 rfl hV
  have HT : Hid (T = mix X) := by show T = _; rw [eT, eV, eU, eZ, eY]; rfl
  simp only [Int.cast_ofNat_Int] at e1 e2 e3 e4 e5
  clear eY eZ eU eV eT
  have w1 : IntKind.u64.wrap ((Y : Int) * 11400714819323198485) = (Z : Int) := by rw [IntKind.wrap_u64]; exact e2
  have w2 : IntKind.u64.wrap ((U : Int) * 13787848793156543929) = (V : Int) := by rw [IntKind.wrap_u64]; exact e4
  clear e2 e4
  go_enter Tryz.func115, Tryz.ntmps115
  go_wp2
  go_ret
  exact ⟨by rw [← HT.out]; rfl, rfl⟩

theorem blk_val (B b : Nat) (hB : B < 72057594037927936) (hb : b < 256) : IntKind.u64.wrap ((B : Int) * 256 + IntKind.u64.wrap (b : Int)) = ((B * 256 + b : Nat) : Int) := by
  rw [IntKind.wrap_u64, IntKind.wrap_u64]; omega
def digL (st : Nat) : Nat → List UInt8
  | 0 => []
  | i + 1 => UInt8.ofNat (hexd (st / 16 ^ i % 16)) :: digL st i
theorem digL_16 (st : Nat) : digL st 16 = hexS st := by
  simp [digL, hexS, List.range, List.range.loop]
theorem hex_cut (d : Nat) (h : d < 16) : (⟨#[48, 49, 50, 51, 52, 53, 54, 55, 56, 57, 97, 98, 99, 100, 101, 102]⟩ : ByteArray).extract d (d + 1) = ⟨[UInt8.ofNat (hexd d)].toArray⟩ := by
  have : ∀ d : Fin 16, (⟨#[48, 49, 50, 51, 52, 53, 54, 55, 56, 57, 97, 98, 99, 100, 101, 102]⟩ : ByteArray).extract d.val (d.val + 1) = ⟨[UInt8.ofNat (hexd d.val)].toArray⟩ := by decide
  exact this ⟨d, h⟩
theorem ba_get (l : List UInt8) (i : Nat) (h : i < l.length) : (⟨l.toArray⟩ : ByteArray)[i]'(by rw [ba_size]; exact h) = l.getD i 0 := by
  rw [List.getD_eq_getElem?_getD, List.getElem?_eq_getElem h]; rfl

set_option maxRecDepth 100000 in
set_option maxHeartbeats 1000000 in
theorem rsum_any (l : List UInt8) (w : World) (hl : l.length ≤ 9223372036854770000) :
    Calls Tryz.prog 91 #[.string ⟨l.toArray⟩] w fun e w' => e = .returned (.string ⟨(dsum l).toArray⟩) ∧ Below w.heap.size w w' := by
  go_enter Tryz.func91, Tryz.ntmps91
  go_wp2_with fail
  go_loopg [3, 4, 5, 6] (l.length / 8 + 1) (fun g s f _ _ wr => ∃ j : Nat, j ≤ l.length / 8 + 1 ∧ g = l.length / 8 + 1 - j ∧ f = .int .i64 ((8 * j : Nat) : Int) ∧ s = .int .u64 (stJ l j : Nat) ∧ Fr [] w wr)
  case atStart => exact ⟨0, by omega, by omega, rfl, rfl, Fr.refl _ _⟩
  case round =>
    obtain ⟨j, hj, hg, rfl, rfl, hfr⟩ := hrel
    have HG := Lib.hid hg
    clear hg
    by_cases hlt : 8 * j ≤ l.length
    · have HST := Lib.hid (show stJ l (j + 1) = mix (stJ l j ^^^ blk l (8 * j)) from rfl)
      have hst := stJ_lt l j
      obtain ⟨fj, hfj⟩ : ∃ fj, fj = 8 * j := ⟨_, rfl⟩
      rw [← hfj] at hlt HST ⊢
      have HFJ := Lib.hid hfj
      clear hfj
      generalize stJ l j = S at hst HST
      go_wp2_with fail
      obtain ⟨wo, rfl⟩ : ∃ wo : World, wo = wr := ⟨_, rfl⟩
      go_loopg [5, 6] 8 (fun g b i wr => ∃ m : Nat, m ≤ 8 ∧ g = 8 - m ∧ i = .int .i64 (7 - (m : Int)) ∧ b = .int .u64 (blkT l fj m : Nat) ∧ wr = wo)
      case atStart => exact ⟨0, by omega, by omega, rfl, rfl, rfl⟩
      case round =>
        obtain ⟨m, hm, hg, rfl, rfl, rfl⟩ := hrel
        have HG2 := Lib.hid hg
        clear hg
        by_cases hm8 : m < 8
        · obtain ⟨t, ht7, ht, hmt⟩ : ∃ t : Nat, t ≤ 7 ∧ (7 : Int) - (m : Int) = (t : Int) ∧ m = 7 - t := ⟨7 - m, by omega, by omega, by omega⟩
          have HT := Lib.hid hmt
          have HTT := Lib.hid ht
          rw [ht]
          have hblt : blkT l fj m < 72057594037927936 := Nat.lt_of_lt_of_le (blkT_lt l fj m) (Nat.le_trans (Nat.pow_le_pow_right (by decide) (show m ≤ 7 by omega)) (by decide))
          have HBL := Lib.hid (show blkT l fj (m + 1) = blkT l fj m * 256 + extB l (fj + t) by rw [blkT, show 7 - m = t by omega])
          generalize blkT l fj m = B at hblt HBL
          clear ht hmt
          rcases Nat.lt_trichotomy (fj + t) l.length with hc | hc | hc
          · have HE := Lib.hid (show extB l (fj + t) = (l.getD (fj + t) 0).toNat by unfold extB; rw [if_pos hc])
            have hbyte : (l.getD (fj + t) 0).toNat < 256 := (l.getD (fj + t) 0).toNat_lt
            have HBA := Lib.hid (ba_get l (fj + t) hc)
            go_wp2_with fail
            go_roundg (8 - (m + 1))
            case measure => have := HG2.out; omega
            case rel =>
              refine ⟨m + 1, by omega, rfl, ?_, ?_, rfl⟩
              · have := HTT.out; congr 1; omega
              · rw [HBL.out, HE.out, ← blk_val B _ hblt hbyte, ← HBA.out]
          · have HE := Lib.hid (show extB l (fj + t) = 1 by unfold extB; rw [if_neg (by omega), if_pos hc])
            have t1 : ((fj : Int) + (t : Int) == (l.length : Int)) = true := by simp; omega
            have HC := Lib.hid hc
            have hc1 : ¬ (fj + t < l.length) := by omega
            clear hc
            go_wp2_with fail
            go_roundg (8 - (m + 1))
            case measure => have := HG2.out; omega
            case rel =>
              refine ⟨m + 1, by omega, rfl, ?_, ?_, rfl⟩
              · have := HTT.out; congr 1; omega
              · rw [HBL.out, HE.out]; congr 1
          · have HE := Lib.hid (show extB l (fj + t) = 0 by unfold extB; rw [if_neg (by omega), if_neg (by omega)])
            have t1 : ((fj : Int) + (t : Int) == (l.length : Int)) = false := by simp; omega
            go_wp2_with fail
            go_roundg (8 - (m + 1))
            case measure => have := HG2.out; omega
            case rel =>
              refine ⟨m + 1, by omega, rfl, ?_, ?_, rfl⟩
              · have := HTT.out; congr 1; omega
              · rw [HBL.out, HE.out]; congr 1
        · obtain rfl : m = 8 := by omega
          have hbl := blk_lt l fj
          change Hid (stJ l (j + 1) = mix (S ^^^ blkT l fj 8)) at HST
          change blkT l fj 8 < 18446744073709551616 at hbl
          generalize blkT l fj 8 = B at hbl HST
          obtain ⟨X, hX, eX, e0⟩ : ∃ X : Nat, X < 18446744073709551616 ∧ X = S ^^^ B ∧ bits .xor .u64 (S : Int) (B : Int) = (X : Int) := ⟨_, Nat.xor_lt_two_pow (n := 64) hst hbl, rfl, bits_xor_u64_nat _ _ hst hbl⟩
          have EX := Lib.hid eX
          clear eX
          go_wp2_with fail
          refine (rmix_any X _ hX).mono ?_
          rintro e w3 ⟨rfl, rfl⟩
          go_wp2_with fail
          go_roundg (l.length / 8 + 1 - (j + 1))
          case measure => have := HG.out; have := HFJ.out; omega
          case rel =>
            refine ⟨j + 1, by have := HFJ.out; omega, rfl, ?_, ?_, hfr⟩
            · have := HFJ.out; congr 1; omega
            · rw [HST.out, EX.out]
    · obtain rfl : j = l.length / 8 + 1 := by omega
      have HD := Lib.hid (dsum_blocks l)
      have hst := stJ_lt l (l.length / 8 + 1)
      have t1 : decide (8 * ((l.length / 8 + 1 : Nat) : Int) ≤ (l.length : Int)) = false := by simp; omega
      generalize stJ l (l.length / 8 + 1) = S at hst HD
      generalize l.length / 8 + 1 = J at t1 hlt hj
      go_wp2_with fail
      obtain ⟨wo, rfl⟩ : ∃ wo : World, wo = wr := ⟨_, rfl⟩
      go_loopg [3, 7, 8] 16 (fun g st s i wr => ∃ k : Nat, k ≤ 16 ∧ g = 16 - k ∧ i = .int .i64 (k : Int) ∧ s = .string ⟨(digL S k).toArray⟩ ∧ st = .int .u64 (S / 16 ^ k : Nat) ∧ wr = wo)
      case atStart => exact ⟨0, by omega, by omega, rfl, rfl, by simp, rfl⟩
      case round =>
        obtain ⟨k, hk, hg, rfl, rfl, rfl, rfl⟩ := hrel
        have HG2 := Lib.hid hg
        clear hg
        by_cases hk16 : k < 16
        · have HDL := Lib.hid (show digL S (k + 1) = UInt8.ofNat (hexd (S / 16 ^ k % 16)) :: digL S k from rfl)
          have hlen : (digL S k).length ≤ 16 := by
            have : ∀ k, (digL S k).length = k := fun k => by induction k with | zero => rfl | succ k ih => simp [digL, ih]
            rw [this]; omega
          have HQ := Lib.hid (show S / 16 ^ (k + 1) = S / 16 ^ k / 16 by rw [Nat.pow_succ, Nat.div_div_eq_div_mul])
          have hT : S / 16 ^ k < 18446744073709551616 := Nat.lt_of_le_of_lt (Nat.div_le_self _ _) hst
          generalize S / 16 ^ k = T at hT HDL HQ
          generalize digL S k = D at hlen HDL
          have hd16 : T % 16 < 16 := Nat.mod_lt _ (by decide)
          have hcut := hex_cut (T % 16) hd16
          obtain ⟨d, hd⟩ : ∃ d, d = T % 16 := ⟨_, rfl⟩
          have htd : (T : Int) % 16 = (d : Int) := by rw [hd]; simp
          rw [← hd] at hd16 hcut HDL
          clear hd
          go_wp2_with fail
          go_roundg (16 - (k + 1))
          case measure => have := HG2.out; omega
          case rel =>
            refine ⟨k + 1, by omega, rfl, by go_num, ?_, ?_, rfl⟩
            · rw [HDL.out, show (⟨#[UInt8.ofNat (hexd d)]⟩ : ByteArray) = ⟨[UInt8.ofNat (hexd d)].toArray⟩ by rfl, ba_append]; rfl
            · rw [HQ.out]; simp
        · obtain rfl : k = 16 := by omega
          go_wp2_with fail
          go_ret
          exact ⟨by rw [HD.out, ← digL_16]; rfl, hfr.toBelow (by simp)⟩
end Go.Proofs.YtglgkdbhdjkeaaaGreatDoor
