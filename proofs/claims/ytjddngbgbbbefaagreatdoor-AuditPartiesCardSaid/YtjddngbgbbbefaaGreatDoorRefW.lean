/-
  The reference of layer 2: Below.
  The reference of layer 2: Below, Same, Few.
  The reference of layer 2: Few.
-/
import Derived.Test.YtjddngbgbbbefaaGreatDoorRefA
import Derived.Test.YtjddngbgbbbefaaGreatDoorPlnHv
namespace Go.Proofs.YtjddngbgbbbefaaGreatDoor
open Go.RowKit

set_option maxRecDepth 100000 in
set_option maxHeartbeats 1000000 in
theorem rbelow_any (d : List UInt8) (n : Int) (w : World) (hd : d.length ≤ 9223372036854775807) (hn : -9223372036854775808 ≤ n ∧ n < 9223372036854775808) :
    Calls Tryz.prog 113 #[.string ⟨d.toArray⟩, .int .i64 n] w fun e w' => e = .returned (.int .i64 (belowS d n)) ∧ Below w.heap.size w w' := by
  by_cases hn1 : n < 1
  · have t1 : decide (n < 1) = true := by simp [hn1]
    have HB : Hid (belowS d n = 0) := by show _ = _; simp [belowS, hn1]
    go_enter Tryz.func113, Tryz.ntmps113
    go_wp2_with fail
    go_ret
    exact ⟨by rw [HB.out]; rfl, Below.refl _ _⟩
  · have t1 : decide (n < 1) = false := by simp [hn1]
    cases hD : isD d with
    | false =>
      have HB : Hid (belowS d n = 0) := by show _ = _; simp [belowS, hD]
      have HD := Lib.hid hD
      clear hD
      go_enter Tryz.func113, Tryz.ntmps113
      go_wp2_with fail
      refine (ris_any d w hd).mono ?_
      rintro e w1 ⟨rfl, rfl⟩
      rw [HD.out]
      go_wp2_with fail
      go_ret
      exact ⟨by rw [HB.out]; rfl, Below.refl _ _⟩
    | true =>
      have HB : Hid (belowS d n = (hexV (d.take 15) : Int) % n) := by show _ = _; simp [belowS, hD, hn1]
      have HD := Lib.hid hD
      simp only [isD, Bool.and_eq_true, beq_iff_eq] at hD
      have HL := Lib.hid hD.1
      have HH := Lib.hid hD.2
      clear hD
      go_enter Tryz.func113, Tryz.ntmps113
      go_wp2_with fail
      refine (ris_any d w hd).mono ?_
      rintro e w1 ⟨rfl, rfl⟩
      rw [HD.out]
      go_wp2_with fail
      go_loopg [5, 6] 15 (fun g x i wr => ∃ k : Nat, k ≤ 15 ∧ g = 15 - k ∧ i = .int .i64 (k : Int) ∧ x = .int .i64 (hexV (d.take k) : Nat) ∧ wr = w)
      case atStart => exact ⟨0, by omega, by omega, rfl, rfl, rfl⟩
      case round =>
        obtain ⟨k, hk, hg, rfl, rfl, rfl⟩ := hrel
        have HG := Lib.hid hg
        clear hg
        by_cases hlt : k < 15
        · have hkl : k < d.length := by rw [HL.out]; omega
          have hx := List.all_eq_true.1 HH.out _ (getD_mem d k 0 hkl)
          have HS := Lib.hid (hexV_snoc d k hkl)
          have HBA := Lib.hid (ba_get d k hkl)
          have HZ : Hid (digZ (d.getD k 0) = (hexN (d.getD k 0) : Int)) := Lib.hid (by unfold digZ; rw [if_pos hx])
          have hd16 := (index_hex _ hx).2
          have hVb : hexV (d.take k) < 72057594037927936 := by
            have h1 := hexV_lt (d.take k) (by
              rw [List.all_eq_true]; intro y hy; exact List.all_eq_true.1 HH.out y (List.mem_of_mem_take hy))
            rw [List.length_take, HL.out] at h1
            exact Nat.lt_of_lt_of_le h1 (Nat.le_trans (Nat.pow_le_pow_right (by decide) (show min k 16 ≤ 14 by omega)) (by decide))
          generalize hexV (d.take k) = V at HS hVb ⊢
          generalize d.getD k 0 = c at HS HBA HZ hd16
          generalize hexN c = q at HS HZ hd16
          clear hx
          have t2 : decide ((k : Int) < 15) = true := by simp; omega
          go_wp2_with fail
          rw [HBA.out]
          refine (rdigit_any _ _).mono ?_
          rintro e w1 ⟨rfl, rfl⟩
          rw [HZ.out]
          go_wp2_with fail
          go_roundg (15 - (k + 1))
          case measure => have := HG.out; omega
          case rel => exact ⟨k + 1, by omega, rfl, by go_num, by rw [HS.out]; go_num, rfl⟩
        · obtain rfl : k = 15 := by omega
          have hV : hexV (d.take 15) < 1152921504606846976 := by
            have h1 := hexV_lt (d.take 15) (by
              rw [List.all_eq_true]; intro y hy; exact List.all_eq_true.1 HH.out y (List.mem_of_mem_take hy))
            rw [List.length_take, HL.out] at h1
            exact h1
          generalize hVe : hexV (d.take 15) = V at hV HB ⊢
          have hm1 : (V : Int) % n < n := Int.emod_lt_of_pos _ (by omega)
          have hm2 : 0 ≤ (V : Int) % n := Int.emod_nonneg _ (by omega)
          have htm : (V : Int).tmod n = (V : Int) % n := by rw [Int.tmod_eq_emod_of_nonneg (by omega)]
          clear hVe
          go_wp2_with fail
          go_ret
          exact ⟨by rw [HB.out]; rfl, Below.refl _ _⟩
end Go.Proofs.YtjddngbgbbbefaaGreatDoor
namespace Go.Proofs.YtjddngbgbbbefaaGreatDoor
open Go.RowKit

set_option maxRecDepth 100000 in
set_option maxHeartbeats 1000000 in
theorem rsame2_any (av bv : Value) (la lb : List (List UInt8)) (w : World) (ha : Strs w av la) (hb : Strs w bv lb) :
    Calls Tryz.prog 16 #[av, bv] w fun e w' => e = .returned (.bool (decide (la = lb))) ∧ Below w.heap.size w w' := by
  have hmx : Tryz.prog.follows .mixedOrders = true := by kernel_rfl
  have HA := Lib.hid ha
  have HB := Lib.hid hb
  obtain ⟨aa, acap, rfl, hla, hfa⟩ := ha.form
  obtain ⟨ab, bcap, rfl, hlb, hfb⟩ := hb.form
  clear ha hb
  by_cases hlen : la.length = lb.length
  · have t1 : ((la.length : Int) != (lb.length : Int)) = false := by rw [hlen]; simp
    have HLEN := Lib.hid hlen
    clear hlen
    go_enter Tryz.func16, Tryz.ntmps16
    go_wp2_with fail
    go_loopg [5] (la.length + 1) (fun g i wr => ∃ k : Nat, k ≤ la.length ∧ g = la.length + 1 - k ∧ i = .int .i64 (k : Int) ∧ la.take k = lb.take k ∧ Fr [] w wr)
    case atStart => exact ⟨0, by omega, by omega, rfl, by simp, Fr.refl _ _⟩
    case round =>
      obtain ⟨k, hk, hg, rfl, heq, hfr⟩ := hrel
      have HG := Lib.hid hg
      have HEQ := Lib.hid heq
      clear hg heq
      by_cases hlt : k < la.length
      · have hltb : k < lb.length := by have := HLEN.out; omega
        obtain ⟨ba, offa, rfl⟩ := hfa k hlt
        obtain ⟨bb, offb, rfl⟩ := hfb k hltb
        have hca := (HA.out.fr0 hfr).cell k hlt
        have hcb := (HB.out.fr0 hfr).cell k hltb
        have HSA := Lib.hid (take_snoc' la k [] hlt)
        have HSB := Lib.hid (take_snoc' lb k [] hltb)
        have t2 : decide ((k : Int) < (la.length : Int)) = true := by simp; omega
        have HGA : Hid (la.getD k [] ≠ lb.getD k [] → la ≠ lb) := fun h h' => h (by rw [h'])
        generalize la.getD k [] = x at hca HSA HGA
        generalize lb.getD k [] = y at hcb HSB HGA
        by_cases hxy : x = y
        · have t3 : (x != y) = false := by rw [hxy]; simp
          have t4 : (x == y) = true := by rw [hxy]; simp
          have HXY := Lib.hid hxy
          clear hxy
          go_wp2_with fail
          go_quiet (fail)
          go_wp2_with fail
          go_roundg (la.length + 1 - (k + 1))
          case measure => have := HG.out; omega
          case rel => exact ⟨k + 1, by omega, rfl, by go_num, by rw [HSA.out, HSB.out, HEQ.out, HXY.out], hfr.drewN _⟩
        · have t3 : (x != y) = true := by simpa using hxy
          have t4 : (x == y) = false := by simpa using hxy
          have HXY := Lib.hid hxy
          clear hxy
          go_wp2_with fail
          go_quiet (fail)
          go_wp2_with fail
          go_ret
          have hne : decide (la = lb) = false := decide_eq_false (HGA.out HXY.out)
          exact ⟨by rw [hne]; rfl, (hfr.drewN _).toBelow (by simp)⟩
      · obtain rfl : k = la.length := by omega
        have t2 : decide ((la.length : Int) < (la.length : Int)) = false := by simp
        have HE : Hid (la = lb) := by
          have := HEQ.out
          rw [List.take_length, List.take_of_length_le (by have := HLEN.out; omega)] at this
          exact this
        go_wp2_with fail
        go_ret
        exact ⟨by rw [decide_eq_true HE.out]; rfl, hfr.toBelow (by simp)⟩
  · have t1 : ((la.length : Int) != (lb.length : Int)) = true := by simp; omega
    have HLEN := Lib.hid hlen
    clear hlen
    go_enter Tryz.func16, Tryz.ntmps16
    go_wp2_with fail
    go_ret
    have hne : decide (la = lb) = false := decide_eq_false (fun h => HLEN.out (by rw [h]))
    exact ⟨by rw [hne]; rfl, Below.refl _ _⟩

end Go.Proofs.YtjddngbgbbbefaaGreatDoor
namespace Go.Proofs.YtjddngbgbbbefaaGreatDoor
open Go.RowKit

def fewB (l : List (List UInt8)) (m : Nat) : Bool := l.all (fun s => decide (s.length ≤ m)) && decide (l.length ≤ 30)
set_option maxRecDepth 100000 in
set_option maxHeartbeats 1000000 in
theorem few_any (v : Value) (l : List (List UInt8)) (m : Nat) (w : World) (hv : Strs w v l) :
    Calls Tryz.prog 7 #[v, .int .i64 (m : Int)] w fun e w' => e = .returned (.bool (fewB l m)) ∧ Below w.heap.size w w' := by
  have HV := Lib.hid hv
  obtain ⟨a, cap, rfl, hlen, ha⟩ := hv.form
  clear hv
  go_enter Tryz.func7, Tryz.ntmps7
  go_wp2_with fail
  go_loopg [5] (l.length + 1) (fun g i wr => ∃ k : Nat, k ≤ l.length ∧ g = l.length + 1 - k ∧ i = .int .i64 (k : Int) ∧ (l.take k).all (fun s => decide (s.length ≤ m)) = true ∧ Fr [] w wr)
  case atStart => exact ⟨0, by omega, by omega, rfl, by simp, Fr.refl _ _⟩
  case round =>
    obtain ⟨k, hk, hg, rfl, hall, hfr⟩ := hrel
    have HG := Lib.hid hg
    have HALL := Lib.hid hall
    clear hg hall
    by_cases hlt : k < l.length
    · obtain ⟨b, off, rfl⟩ := ha k hlt
      have hc := (HV.out.fr0 hfr).cell k hlt
      have HS := Lib.hid (take_snoc' l k [] hlt)
      have HM := Lib.hid (getD_mem l k [] hlt)
      have t1 : decide ((k : Int) < (l.length : Int)) = true := by simp; omega
      generalize l.getD k [] = s at hc HS HM
      by_cases h3 : s.length ≤ m
      · have t2 : decide ((m : Int) < (s.length : Int)) = false := by simp; omega
        go_wp2_with fail
        go_roundg (l.length + 1 - (k + 1))
        case measure => have := HG.out; omega
        case rel => exact ⟨k + 1, by omega, rfl, by go_num, by rw [HS.out, List.all_append, HALL.out]; simp [h3], hfr⟩
      · have t2 : decide ((m : Int) < (s.length : Int)) = true := by simp; omega
        have hf : fewB l m = false := by
          simp only [fewB, Bool.and_eq_false_iff]
          left
          rw [List.all_eq_false]
          exact ⟨s, HM.out, by simp [h3]⟩
        have HF := Lib.hid hf
        clear hf
        go_wp2_with fail
        go_ret
        exact ⟨by rw [HF.out]; rfl, hfr.toBelow (by simp)⟩
    · obtain rfl : k = l.length := by omega
      have t1 : decide ((l.length : Int) < (l.length : Int)) = false := by simp
      have hf : fewB l m = decide ((l.length : Int) ≤ 30) := by
        have := HALL.out
        rw [List.take_length] at this
        simp only [fewB, this, Bool.true_and]
        rw [Bool.eq_iff_iff]; simp; omega
      have HF := Lib.hid hf
      clear hf
      go_wp2_with fail
      go_ret
      exact ⟨by rw [HF.out]; rfl, hfr.toBelow (by simp)⟩
end Go.Proofs.YtjddngbgbbbefaaGreatDoor
