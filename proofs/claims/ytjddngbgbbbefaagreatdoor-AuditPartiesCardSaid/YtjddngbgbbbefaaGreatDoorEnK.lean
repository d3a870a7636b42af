/-
  The reference of layer 18: Name, Valid, Text, Commit.
-/
import Derived.Test.YtjddngbgbbbefaaGreatDoorEnC
import Derived.Test.YtjddngbgbbbefaaGreatDoorRefA
namespace Go.Proofs.YtjddngbgbbbefaaGreatDoor
open Go.RowKit

set_option maxRecDepth 100000 in
set_option maxHeartbeats 4000000 in
theorem rname_any (l : List UInt8) (w : World) (hl : l.length ≤ 1000000) :
    Calls Tryz.prog 80 #[.string ⟨l.toArray⟩] w fun e w' => e = .returned (.bool (nameB l)) ∧ w = w' := by
  go_enter Tryz.func80, Tryz.ntmps80
  go_wp2_with fail
  go_loopg [3] (l.length + 1) (fun g i wr => ∃ k : Nat, k ≤ l.length ∧ g = l.length + 1 - k ∧ i = .int .i64 (k : Int) ∧ (∀ i, i < k → nameC i (l.getD i 0).toNat = true) ∧ wr = w)
  case atStart => exact ⟨0, by omega, by omega, rfl, fun i hi => absurd hi (Nat.not_lt_zero _), rfl⟩
  case round =>
    obtain ⟨k, hk, hg, rfl, hall, rfl⟩ := hrel
    have HG := Lib.hid hg
    have HALL := Lib.hid hall
    clear hg hall
    by_cases h1 : k < l.length
    · have t1 : decide ((k : Int) < (l.length : Int)) = true := by simp; omega
      have HBA := Lib.hid (ba_get l k h1)
      obtain ⟨c, hc⟩ : ∃ c, c = (l.getD k 0).toNat := ⟨_, rfl⟩
      have HC := Lib.hid hc
      have hc256 : c < 256 := by rw [hc]; exact UInt8.toNat_lt _
      have HCC : Hid (((⟨l.toArray⟩ : ByteArray)[k]'(by rw [ba_size]; exact h1)).toNat = c) := Lib.hid (by rw [HBA.out, ← HC.out])
      clear hc
      have hcl : c ≤ 47 ∨ (48 ≤ c ∧ c ≤ 57) ∨ (58 ≤ c ∧ c ≤ 64) ∨ (65 ≤ c ∧ c ≤ 90) ∨ (91 ≤ c ∧ c ≤ 94) ∨ c = 95 ∨ c = 96 ∨ (97 ≤ c ∧ c ≤ 122) ∨ 123 ≤ c := by omega
      rcases Nat.eq_zero_or_pos k with hk0 | hk0
      · subst hk0
        have HN : Hid (nameC 0 c = decide ((97 ≤ c ∧ c ≤ 122) ∨ (65 ≤ c ∧ c ≤ 90))) := Lib.hid (by unfold nameC; rw [Bool.eq_iff_iff, decide_eq_true_eq, decide_eq_true_eq]; omega)
        rcases hcl with hcl | hcl | hcl | hcl | hcl | hcl | hcl | hcl | hcl
        all_goals
          have HCL := Lib.hid hcl
          have hcc := HCC.out
          first | (have t2 : decide ((97 : Int) ≤ (((⟨l.toArray⟩ : ByteArray)[0]'(by rw [ba_size]; exact h1)).toNat : Int)) = true := by rw [decide_eq_true_eq, hcc]; omega) | (have t2 : decide ((97 : Int) ≤ (((⟨l.toArray⟩ : ByteArray)[0]'(by rw [ba_size]; exact h1)).toNat : Int)) = false := by rw [decide_eq_false_iff_not, hcc]; omega)
          first | (have t3 : decide ((((⟨l.toArray⟩ : ByteArray)[0]'(by rw [ba_size]; exact h1)).toNat : Int) ≤ 122) = true := by rw [decide_eq_true_eq, hcc]; omega) | (have t3 : decide ((((⟨l.toArray⟩ : ByteArray)[0]'(by rw [ba_size]; exact h1)).toNat : Int) ≤ 122) = false := by rw [decide_eq_false_iff_not, hcc]; omega)
          first | (have t4 : decide ((65 : Int) ≤ (((⟨l.toArray⟩ : ByteArray)[0]'(by rw [ba_size]; exact h1)).toNat : Int)) = true := by rw [decide_eq_true_eq, hcc]; omega) | (have t4 : decide ((65 : Int) ≤ (((⟨l.toArray⟩ : ByteArray)[0]'(by rw [ba_size]; exact h1)).toNat : Int)) = false := by rw [decide_eq_false_iff_not, hcc]; omega)
          first | (have t5 : decide ((((⟨l.toArray⟩ : ByteArray)[0]'(by rw [ba_size]; exact h1)).toNat : Int) ≤ 90) = true := by rw [decide_eq_true_eq, hcc]; omega) | (have t5 : decide ((((⟨l.toArray⟩ : ByteArray)[0]'(by rw [ba_size]; exact h1)).toNat : Int) ≤ 90) = false := by rw [decide_eq_false_iff_not, hcc]; omega)
          first | (have t6 : decide ((48 : Int) ≤ (((⟨l.toArray⟩ : ByteArray)[0]'(by rw [ba_size]; exact h1)).toNat : Int)) = true := by rw [decide_eq_true_eq, hcc]; omega) | (have t6 : decide ((48 : Int) ≤ (((⟨l.toArray⟩ : ByteArray)[0]'(by rw [ba_size]; exact h1)).toNat : Int)) = false := by rw [decide_eq_false_iff_not, hcc]; omega)
          first | (have t7 : decide ((((⟨l.toArray⟩ : ByteArray)[0]'(by rw [ba_size]; exact h1)).toNat : Int) ≤ 57) = true := by rw [decide_eq_true_eq, hcc]; omega) | (have t7 : decide ((((⟨l.toArray⟩ : ByteArray)[0]'(by rw [ba_size]; exact h1)).toNat : Int) ≤ 57) = false := by rw [decide_eq_false_iff_not, hcc]; omega)
          first | (have t8 : (((⟨l.toArray⟩ : ByteArray)[0]'(by rw [ba_size]; exact h1)).toNat : Int) = 95 := by rw [hcc]; omega) | (have t8 : ¬ (((⟨l.toArray⟩ : ByteArray)[0]'(by rw [ba_size]; exact h1)).toNat : Int) = 95 := by rw [hcc]; omega)
          clear hcc hcl
          go_wp2_with fail
          first
          | (have hn : nameC 0 c = true := by rw [HN.out, decide_eq_true_eq]; have := HCL.out; omega
             go_roundg (l.length + 1 - (0 + 1))
             case measure => have := HG.out; omega
             case rel =>
               refine ⟨0 + 1, by omega, rfl, by go_num, fun i hi => ?_, rfl⟩
               rcases Nat.lt_or_ge i 0 with h | h
               · exact HALL.out i h
               · obtain rfl : i = 0 := by omega
                 rw [← HC.out]; exact hn)
          | (have hn : nameC 0 c = false := by rw [HN.out, decide_eq_false_iff_not]; have := HCL.out; omega
             have HF : Hid (nameB l = false) := Lib.hid (nameB_bad h1 (by rw [← HC.out]; exact hn))
             go_ret
             exact ⟨by rw [HF.out]; rfl, rfl⟩)
      · have t9 : decide ((k : Int) = 0) = false := by rw [decide_eq_false_iff_not]; omega
        have t10 : ¬ (k : Int) = 0 := by omega
        have t12 : ((k : Int) == 0) = false := by rw [beq_eq_false_iff_ne]; omega
        have t11 : ¬ k = 0 := by omega
        have HN : Hid (nameC k c = decide ((97 ≤ c ∧ c ≤ 122) ∨ (65 ≤ c ∧ c ≤ 90) ∨ (48 ≤ c ∧ c ≤ 57) ∨ c = 95)) := Lib.hid (by unfold nameC; rw [Bool.eq_iff_iff, decide_eq_true_eq, decide_eq_true_eq]; omega)
        rcases hcl with hcl | hcl | hcl | hcl | hcl | hcl | hcl | hcl | hcl
        all_goals
          have HCL := Lib.hid hcl
          have hcc := HCC.out
          first | (have t2 : decide ((97 : Int) ≤ (((⟨l.toArray⟩ : ByteArray)[k]'(by rw [ba_size]; exact h1)).toNat : Int)) = true := by rw [decide_eq_true_eq, hcc]; omega) | (have t2 : decide ((97 : Int) ≤ (((⟨l.toArray⟩ : ByteArray)[k]'(by rw [ba_size]; exact h1)).toNat : Int)) = false := by rw [decide_eq_false_iff_not, hcc]; omega)
          first | (have t3 : decide ((((⟨l.toArray⟩ : ByteArray)[k]'(by rw [ba_size]; exact h1)).toNat : Int) ≤ 122) = true := by rw [decide_eq_true_eq, hcc]; omega) | (have t3 : decide ((((⟨l.toArray⟩ : ByteArray)[k]'(by rw [ba_size]; exact h1)).toNat : Int) ≤ 122) = false := by rw [decide_eq_false_iff_not, hcc]; omega)
          first | (have t4 : decide ((65 : Int) ≤ (((⟨l.toArray⟩ : ByteArray)[k]'(by rw [ba_size]; exact h1)).toNat : Int)) = true := by rw [decide_eq_true_eq, hcc]; omega) | (have t4 : decide ((65 : Int) ≤ (((⟨l.toArray⟩ : ByteArray)[k]'(by rw [ba_size]; exact h1)).toNat : Int)) = false := by rw [decide_eq_false_iff_not, hcc]; omega)
          first | (have t5 : decide ((((⟨l.toArray⟩ : ByteArray)[k]'(by rw [ba_size]; exact h1)).toNat : Int) ≤ 90) = true := by rw [decide_eq_true_eq, hcc]; omega) | (have t5 : decide ((((⟨l.toArray⟩ : ByteArray)[k]'(by rw [ba_size]; exact h1)).toNat : Int) ≤ 90) = false := by rw [decide_eq_false_iff_not, hcc]; omega)
          first | (have t6 : decide ((48 : Int) ≤ (((⟨l.toArray⟩ : ByteArray)[k]'(by rw [ba_size]; exact h1)).toNat : Int)) = true := by rw [decide_eq_true_eq, hcc]; omega) | (have t6 : decide ((48 : Int) ≤ (((⟨l.toArray⟩ : ByteArray)[k]'(by rw [ba_size]; exact h1)).toNat : Int)) = false := by rw [decide_eq_false_iff_not, hcc]; omega)
          first | (have t7 : decide ((((⟨l.toArray⟩ : ByteArray)[k]'(by rw [ba_size]; exact h1)).toNat : Int) ≤ 57) = true := by rw [decide_eq_true_eq, hcc]; omega) | (have t7 : decide ((((⟨l.toArray⟩ : ByteArray)[k]'(by rw [ba_size]; exact h1)).toNat : Int) ≤ 57) = false := by rw [decide_eq_false_iff_not, hcc]; omega)
          first | (have t8 : (((⟨l.toArray⟩ : ByteArray)[k]'(by rw [ba_size]; exact h1)).toNat : Int) = 95 := by rw [hcc]; omega) | (have t8 : ¬ (((⟨l.toArray⟩ : ByteArray)[k]'(by rw [ba_size]; exact h1)).toNat : Int) = 95 := by rw [hcc]; omega)
          first | (have t13 : ((((⟨l.toArray⟩ : ByteArray)[k]'(by rw [ba_size]; exact h1)).toNat : Int) != 95) = false := by rw [bne_eq_false_iff_eq, hcc]; omega) | (have t13 : ((((⟨l.toArray⟩ : ByteArray)[k]'(by rw [ba_size]; exact h1)).toNat : Int) != 95) = true := by rw [bne_iff_ne, ne_eq, hcc]; omega)
          clear hcc hcl
          go_wp2_with fail
          first
          | (have hn : nameC k c = true := by rw [HN.out, decide_eq_true_eq]; have := HCL.out; omega
             go_roundg (l.length + 1 - (k + 1))
             case measure => have := HG.out; omega
             case rel =>
               refine ⟨k + 1, by omega, rfl, by go_num, fun i hi => ?_, rfl⟩
               rcases Nat.lt_or_ge i k with h | h
               · exact HALL.out i h
               · obtain rfl : i = k := by omega
                 rw [← HC.out]; exact hn)
          | (have hn : nameC k c = false := by rw [HN.out, decide_eq_false_iff_not]; have := HCL.out; omega
             have HF : Hid (nameB l = false) := Lib.hid (nameB_bad h1 (by rw [← HC.out]; exact hn))
             go_ret
             exact ⟨by rw [HF.out]; rfl, rfl⟩)
    · obtain rfl : k = l.length := by omega
      have t1 : decide ((l.length : Int) < (l.length : Int)) = false := by simp
      have HF : Hid (nameB l = (decide ((1 : Int) ≤ (l.length : Int)) && decide ((l.length : Int) ≤ 24))) := Lib.hid (by
        unfold nameB
        rw [Bool.eq_iff_iff]
        simp only [decide_eq_true_eq, Bool.and_eq_true]
        constructor
        · rintro ⟨_, h2, h3⟩
          have := List.length_pos_iff.2 h2
          omega
        · rintro ⟨h2, h3⟩
          exact ⟨HALL.out, fun h => by rw [h] at h2; simp at h2, by omega⟩)
      by_cases h2 : 1 ≤ l.length
      · have t2 : decide ((1 : Int) ≤ (l.length : Int)) = true := by simp; omega
        have HF2 : Hid (nameB l = decide ((l.length : Int) ≤ 24)) := Lib.hid (by rw [HF.out, t2]; rfl)
        go_wp2_with fail
        go_ret
        exact ⟨by rw [HF2.out]; rfl, rfl⟩
      · have t2 : decide ((1 : Int) ≤ (l.length : Int)) = false := by simp; omega
        have HF2 : Hid (nameB l = false) := Lib.hid (by rw [HF.out, t2]; rfl)
        go_wp2_with fail
        go_ret
        exact ⟨by rw [HF2.out]; rfl, rfl⟩

set_option maxRecDepth 100000 in
set_option maxHeartbeats 4000000 in
theorem rvalidE_any (p : Pty) (w : World) (h0 : p.name.length ≤ 1000000) (h1 : p.com.length ≤ 1000000) (h2 : p.rev.length ≤ 1000000) :
    Calls Tryz.prog 37 #[ptyV p] w fun e w' => e = .returned (.bool (validB p)) ∧ Below w.heap.size w w' := by
  obtain ⟨x, y, z⟩ := p
  unfold ptyV validB
  simp only at h0 h1 h2 ⊢
  go_enter Tryz.func37, Tryz.ntmps37
  go_wp2_with fail
  obtain ⟨k0, k1, k2⟩ := three_cells (W := w.alloc (.cells #[.string ⟨x.toArray⟩, .string ⟨y.toArray⟩, .string ⟨z.toArray⟩] 43)) (heap_new rfl)
  have hf0 : Fr [] w (w.alloc (.cells #[.string ⟨x.toArray⟩, .string ⟨y.toArray⟩, .string ⟨z.toArray⟩] 43)) := (Fr.refl [] w).alloc _
  generalize w.heap.size = b at k0 k1 k2 ⊢
  generalize w.alloc (.cells #[.string ⟨x.toArray⟩, .string ⟨y.toArray⟩, .string ⟨z.toArray⟩] 43) = w0 at hf0 k0 k1 k2 ⊢
  refine (rname_any x w0 h0).mono ?_
  rintro e w1 ⟨rfl, rfl⟩
  cases hx : nameB x with
  | false =>
    have HX := Lib.hid hx
    clear hx
    go_wp2_with fail
    go_ret
    exact ⟨by rw [HX.out]; rfl, hf0.toBelow (by simp)⟩
  | true =>
    have HX := Lib.hid hx
    clear hx
    go_wp2_with fail
    refine (ris_any y w0 (by omega)).mono ?_
    rintro e w1 ⟨rfl, rfl⟩
    cases hy : isD y with
    | false =>
      have HY := Lib.hid hy
      clear hy
      go_wp2_with fail
      go_ret
      exact ⟨by rw [HX.out, HY.out]; rfl, hf0.toBelow (by simp)⟩
    | true =>
      have HY := Lib.hid hy
      clear hy
      go_wp2_with fail
      refine (ris_any z w0 (by omega)).mono ?_
      rintro e w2 ⟨rfl, rfl⟩
      go_wp2_with fail
      go_ret
      exact ⟨by rw [HX.out, HY.out]; rfl, hf0.toBelow (by simp)⟩

set_option maxRecDepth 100000 in
set_option maxHeartbeats 4000000 in
theorem rtextE_any (p : Pty) (w : World) (h0 : p.name.length ≤ 1000000) (h1 : p.com.length ≤ 1000000) (h2 : p.rev.length ≤ 1000000) :
    Calls Tryz.prog 59 #[ptyV p] w fun e w' => e = .returned (.string ⟨(textS p).toArray⟩) ∧ Below w.heap.size w w' := by
  have HC := Lib.hid (fun w => rvalidE_any p w h0 h1 h2)
  have HTX : Hid (textS p = if validB p then p.name ++ 32 :: p.com ++ 32 :: p.rev else []) := Lib.hid rfl
  obtain ⟨x, y, z⟩ := p
  unfold ptyV at HC ⊢
  simp only at h0 h1 h2 HC HTX ⊢
  generalize validB ⟨x, y, z⟩ = vb at HC HTX
  generalize textS ⟨x, y, z⟩ = tx at HTX ⊢
  go_enter Tryz.func59, Tryz.ntmps59
  go_wp2_with fail
  obtain ⟨k0, k1, k2⟩ := three_cells (W := w.alloc (.cells #[.string ⟨x.toArray⟩, .string ⟨y.toArray⟩, .string ⟨z.toArray⟩] 43)) (heap_new rfl)
  have hf0 : Fr [] w (w.alloc (.cells #[.string ⟨x.toArray⟩, .string ⟨y.toArray⟩, .string ⟨z.toArray⟩] 43)) := (Fr.refl [] w).alloc _
  generalize w.heap.size = b at k0 k1 k2 ⊢
  generalize w.alloc (.cells #[.string ⟨x.toArray⟩, .string ⟨y.toArray⟩, .string ⟨z.toArray⟩] 43) = w0 at hf0 k0 k1 k2 ⊢
  refine (HC.out w0).mono ?_
  rintro e w1 ⟨rfl, hb1⟩
  have hf1 : Fr [] w w1 := hf0.below hb1 hf0.size
  have k0' := (Fr.ofBelow (X := []) hb1).cell k0 (by simp)
  have k1' := (Fr.ofBelow (X := []) hb1).cell k1 (by simp)
  have k2' := (Fr.ofBelow (X := []) hb1).cell k2 (by simp)
  clear k0 k1 k2 hb1 hf0
  cases vb with
  | false =>
    go_wp2_with fail
    go_ret
    exact ⟨by rw [HTX.out]; rfl, hf1.toBelow (by simp)⟩
  | true =>
    have HE : Hid ((⟨x.toArray⟩ : ByteArray) ++ ⟨#[32]⟩ ++ ⟨y.toArray⟩ ++ ⟨#[32]⟩ ++ ⟨z.toArray⟩ = ⟨tx.toArray⟩) := Lib.hid (by
      rw [show (⟨#[32]⟩ : ByteArray) = ⟨[32].toArray⟩ by rfl, ba_append, ba_append, ba_append, ba_append, HTX.out]; simp)
    go_wp2_with fail
    go_ret
    exact ⟨by rw [← HE.out]; rfl, hf1.toBelow (by simp)⟩

theorem capN_twoE (x y : List UInt8) (hx : x.length ≤ 1000000) (hy : y.length ≤ 1000000) : capN [x, y] ≤ 140737488355328 := by
  have := capN_le [x, y] 1000000 (fun s hs => by simp only [List.mem_cons, List.not_mem_nil, or_false] at hs; rcases hs with rfl | rfl <;> assumption)
  simp at this; omega
end Go.Proofs.YtjddngbgbbbefaaGreatDoor
