/-
  foyerlaw02: DigestNumbers.
-/
import Derived.Test.YtfjmoefmlfhhnaaDoorDlA
namespace Go.Proofs.YtfjmoefmlfhhnaaDoor
open Go.RowKit
theorem below_nat (d : List UInt8) (n : Nat) (h : isD d = true) (hn : 1 ≤ n) : belowS d (n : Int) = ((hexV (d.take 15) % n : Nat) : Int) := by
  unfold belowS
  have h1 : decide ((n : Int) < 1) = false := by simp; omega
  rw [h1, h]
  simp
theorem below_pow {d : List UInt8} (h : isD d = true) (D : Nat) (hD : D < 15) : belowS d ((16 ^ D : Nat) : Int) = (hexV ((d.drop (15 - D)).take D) : Nat) := by
  rw [below_nat d _ h (Nat.pow_pos (by decide))]
  have hl : d.length = 16 := by simp only [isD, Bool.and_eq_true, beq_iff_eq] at h; exact h.1
  have hh : d.all hexC = true := by simp only [isD, Bool.and_eq_true] at h; exact h.2
  have hs : d.take 15 = d.take (15 - D) ++ (d.drop (15 - D)).take D := by
    rw [show d.take 15 = d.take ((15 - D) + D) by rw [show (15 - D) + D = 15 by omega], List.take_add]
  have hlen : ((d.drop (15 - D)).take D).length = D := by rw [List.length_take, List.length_drop]; omega
  have hlt := hexV_lt ((d.drop (15 - D)).take D) (by
    rw [List.all_eq_true]; intro y hy; exact List.all_eq_true.1 hh y (List.mem_of_mem_drop (List.mem_of_mem_take hy)))
  rw [hs, hexV_append, hlen, Nat.mul_comm, Nat.mul_add_mod, Nat.mod_eq_of_lt (by rw [hlen] at hlt; exact hlt)]
set_option maxRecDepth 100000 in
set_option maxHeartbeats 2000000 in
theorem digestNumbers_any (t : List UInt8) (n : Nat) (f : Nat) (p : Nat) (w : World) (hn : n < 65536) (hf : f < 65536) (hp : p < 256) (hT : Tabs w) :
    Calls Tryd.prog 10 #[.string ⟨t.toArray⟩, .int .u16 (n : Int), .int .u16 (f : Int), .int .u8 (p : Int)] w fun e w' => e = .returned (.bool true) ∧ Below w.heap.size w w' := by
  have hmx : Tryd.prog.follows .mixedOrders = true := by kernel_rfl
  have HT := Lib.hid hT
  clear hT
  go_enter Tryd.func10, Tryd.ntmps10
  go_wp2_with fail
  refine (head2_any w HT.out).mono ?_
  rintro e w1 ⟨rfl, hb1⟩
  have hf1 : Fr [] w w1 := (Fr.refl [] w).below hb1 (Nat.le_refl _)
  by_cases hl : t.length ≤ 2000
  · have t1 : decide ((2000 : Int) < (t.length : Int)) = false := by simp; omega
    by_cases hn0 : n = 0
    · have t2 : ((n : Int) == 0) = true := by simp [hn0]
      clear hn0
      go_wp2_with fail
      all_goals go_ret
      all_goals exact ⟨rfl, hf1.toBelow (by simp)⟩
    · have t2 : ((n : Int) == 0) = false := by simp; omega
      by_cases hf0 : f = 0
      · have t3 : ((f : Int) == 0) = true := by simp [hf0]
        clear hf0
        go_wp2_with fail
        all_goals go_ret
        all_goals exact ⟨rfl, hf1.toBelow (by simp)⟩
      · have t3 : ((f : Int) == 0) = false := by simp; omega
        obtain ⟨D, hD, eD⟩ : ∃ D : Nat, D < 15 ∧ (p : Int) % 15 = (D : Int) := ⟨p % 15, by omega, by omega⟩
        have HL := Lib.hid (dsum_length t)
        have hnf : n * f ≤ 65535 * 65535 := Nat.mul_le_mul (by omega) (by omega)
        have hnf1 : 1 ≤ n * f := Nat.mul_pos (by omega) (by omega)
        obtain ⟨x, hx, ex⟩ : ∃ x : Nat, x < n ∧ x = hexV ((dsum t).take 15) % n := ⟨_, Nat.mod_lt _ (by omega), rfl⟩
        have HX : Hid (belowS (dsum t) (n : Int) = (x : Int)) := Lib.hid (by rw [below_nat _ n (dsum_isD t) (by omega), ex])
        obtain ⟨N, hN, eN⟩ : ∃ N : Nat, N = n * f ∧ (n : Int) * (f : Int) = (N : Int) := ⟨_, rfl, by simp⟩
        obtain ⟨y, hy, ey⟩ : ∃ y : Nat, y < N ∧ y = hexV ((dsum t).take 15) % N := ⟨_, Nat.mod_lt _ (by omega), rfl⟩
        have HY : Hid (belowS (dsum t) (N : Int) = (y : Int)) := Lib.hid (by rw [below_nat _ N (dsum_isD t) (by omega), ey])
        have hyx : (y : Int) % (n : Int) = (x : Int) := by
          rw [← Int.natCast_emod, ey, ex, hN, Nat.mod_mul_right_mod]
        have hNb : N ≤ 65535 * 65535 := by omega
        have hN1 : 1 ≤ N := by omega
        clear hN hnf hnf1
        have HW : Hid (belowS (dsum t) ((16 ^ D : Nat) : Int) = (hexV (((dsum t).drop (15 - D)).take D) : Nat)) := Lib.hid (below_pow (dsum_isD t) D hD)
        have HHEX : Hid ((dsum t).all hexC = true) := Lib.hid (hexS_hex _)
        clear ex ey
        have t4 : decide ((x : Int) < 0) = false := by simp
        have t5 : decide ((n : Int) ≤ (x : Int)) = false := by simp; omega
        go_wp2_with fail
        refine (suml_any t w1 (by omega) (HT.out.fr hf1)).mono ?_
        rintro e w2 ⟨rfl, hb2⟩
        have hf2 : Fr [] w w2 := hf1.below hb2 hf1.size
        generalize dsum t = d at HL HX HY HW HHEX ⊢
        go_wp2_with fail
        refine (below_any d (n : Int) w2 (by rw [HL.out]; decide) (by omega)).mono ?_
        rintro e w3 ⟨rfl, hb3⟩
        have hf3 : Fr [] w w3 := hf2.below hb3 hf2.size
        rw [HX.out]
        go_wp2_with fail
        refine (below_any d (N : Int) w3 (by rw [HL.out]; decide) (by omega)).mono ?_
        rintro e w4 ⟨rfl, hb4⟩
        have hf4 : Fr [] w w4 := hf3.below hb4 hf3.size
        rw [HY.out]
        have t6 : ((y : Int) % (n : Int) != (x : Int)) = false := by rw [hyx]; simp
        have t7 : ((d.length : Int) != 16) = false := by rw [HL.out]; rfl
        have hytm : (y : Int).tmod (n : Int) = (y : Int) % (n : Int) := by rw [Int.tmod_eq_emod_of_nonneg (by omega)]
        clear hb2 hb3 hb4 hf2 hf3 hyx
        go_wp2_with fail
        obtain ⟨j, hj, ej⟩ : ∃ j : Nat, j = 15 - D ∧ (15 : Int) - (D : Int) = (j : Int) := ⟨15 - D, rfl, by omega⟩
        have t5' : decide (n ≤ x) = false := by simp; omega
        simp only [eD, ej, t5']
        have HJ := Lib.hid hj
        have hj15 : j ≤ 15 := by omega
        have hj1 : 1 ≤ j := by omega
        clear ej hj t6 t7 hytm
        go_loopg [14, 15, 16] (15 - j) (fun g wv nv i wr => ∃ k W : Nat, j ≤ k ∧ k ≤ 15 ∧ g = 15 - k ∧ i = .int .i64 (k : Int) ∧ W = 16 ^ (k - j) ∧ wv = .int .i64 (W : Int) ∧ nv = .int .i64 (hexV ((d.drop j).take (k - j)) : Nat) ∧ wr = w4)
        case atStart => exact ⟨j, 1, Nat.le_refl _, hj15, by omega, rfl, by simp, rfl, by simp [hexV], rfl⟩
        case round =>
          obtain ⟨k, W, hjk, hk, hg, rfl, hW, rfl, rfl, rfl⟩ := hrel
          have HG := Lib.hid hg
          have HWW := Lib.hid hW
          clear hg hW
          by_cases hlt : k < 15
          · have hWb : W ≤ 72057594037927936 := by
              rw [HWW.out]
              exact Nat.le_trans (Nat.pow_le_pow_right (by decide) (show k - j ≤ 14 by omega)) (by decide)
            have hkl : k < d.length := by rw [HL.out]; omega
            have hxx := List.all_eq_true.1 HHEX.out _ (getD_mem d k 0 hkl)
            have HBA := Lib.hid (ba_get d k hkl)
            have HZ : Hid (digZ (d.getD k 0) = (hexN (d.getD k 0) : Int)) := Lib.hid (by unfold digZ; rw [if_pos hxx])
            have hd16 := (index_hex _ hxx).2
            have HS : Hid (hexV ((d.drop j).take (k + 1 - j)) = hexV ((d.drop j).take (k - j)) * 16 + hexN (d.getD k 0)) := Lib.hid (by
              rw [show k + 1 - j = (k - j) + 1 by omega, hexV_snoc _ _ (by rw [List.length_drop]; omega)]
              congr 2
              simp [List.getD_eq_getElem?_getD, show j + (k - j) = k by omega])
            have hVb : hexV ((d.drop j).take (k - j)) < 72057594037927936 := by
              have h1 := hexV_lt ((d.drop j).take (k - j)) (by
                rw [List.all_eq_true]; intro y hy; exact List.all_eq_true.1 HHEX.out y (List.mem_of_mem_drop (List.mem_of_mem_take hy)))
              rw [List.length_take, List.length_drop] at h1
              exact Nat.lt_of_lt_of_le h1 (Nat.le_trans (Nat.pow_le_pow_right (by decide) (show min (k - j) (d.length - j) ≤ 14 by omega)) (by decide))
            generalize hexV ((d.drop j).take (k - j)) = V at HS hVb ⊢
            generalize d.getD k 0 = c at HS HBA HZ hd16
            generalize hexN c = q at HS HZ hd16
            clear hxx
            have t8 : decide ((k : Int) < 15) = true := by simp; omega
            go_wp2_with fail
            rw [HBA.out]
            refine (rdigit_any _ _).mono ?_
            rintro e w5 ⟨rfl, rfl⟩
            rw [HZ.out]
            go_wp2_with fail
            go_roundg (15 - (k + 1))
            case measure => have := HG.out; omega
            case rel => exact ⟨k + 1, W * 16, by omega, by omega, rfl, by go_num, by rw [HWW.out, show k + 1 - j = (k - j) + 1 by omega, Nat.pow_succ], by go_num, by rw [HS.out]; go_num, rfl⟩
          · obtain rfl : k = 15 := by omega
            have t8 : decide ((15 : Int) < 15) = false := by simp
            have hD2 : 15 - j = D := by have := HJ.out; omega
            have hWb : W ≤ 72057594037927936 := by
              rw [HWW.out]
              exact Nat.le_trans (Nat.pow_le_pow_right (by decide) (show 15 - j ≤ 14 by omega)) (by decide)
            have HB : Hid (belowS d (W : Int) = (hexV ((d.drop j).take (15 - j)) : Nat)) := Lib.hid (by
              rw [HWW.out, hD2, HW.out, HJ.out])
            generalize hexV ((d.drop j).take (15 - j)) = V at HB ⊢
            clear hD2
            go_wp2_with fail
            refine (below_any d (W : Int) _ (by rw [HL.out]; decide) (by omega)).mono ?_
            rintro e w6 ⟨rfl, hb6⟩
            rw [HB.out]
            have q1 : ((V : Int) == (V : Int)) = true := by simp
            go_wp2_with fail
            go_ret
            exact ⟨rfl, (hf4.below hb6 hf4.size).toBelow (by simp)⟩
  · have t1 : decide ((2000 : Int) < (t.length : Int)) = true := by simp; omega
    go_wp2_with fail
    all_goals go_ret
    all_goals exact ⟨rfl, hf1.toBelow (by simp)⟩
end Go.Proofs.YtfjmoefmlfhhnaaDoor
