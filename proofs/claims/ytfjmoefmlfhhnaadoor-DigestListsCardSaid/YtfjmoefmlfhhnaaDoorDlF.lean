/-
  foyerlaw02: DigestForm.
-/
import Derived.Test.YtfjmoefmlfhhnaaDoorDlA
namespace Go.Proofs.YtfjmoefmlfhhnaaDoor
open Go.RowKit
theorem fewB_le {l : List (List UInt8)} {m : Nat} (h : fewB l m = true) : (∀ s ∈ l, s.length ≤ m) ∧ l.length ≤ 30 := by
  simpa [fewB] using h
theorem few_join {l : List (List UInt8)} {m : Nat} (h : fewB l m = true) (hm : m ≤ 1000000) : capN l ≤ 140737488355328 ∧ (joinL l).length ≤ 140737488355328 := by
  obtain ⟨h1, h2⟩ := fewB_le h
  have h3 := capN_le l m h1
  have h4 : l.length * (m + 21) ≤ 30 * (1000000 + 21) := Nat.mul_le_mul h2 (by omega)
  have h5 : capN l ≤ 140737488355328 := by omega
  refine ⟨h5, Nat.le_trans (joinL_capN l (fun s hs => by have := h1 s hs; omega)) h5⟩
set_option maxRecDepth 100000 in
set_option maxHeartbeats 2000000 in
theorem digestForm_any (t : List UInt8) (lv : Value) (l : List (List UInt8)) (p : Nat) (w : World) (hp : p < 256) (hT : Tabs w) (hl : Strs w lv l) :
    Calls Tryd.prog 5 #[.string ⟨t.toArray⟩, lv, .int .u8 (p : Int)] w fun e w' => e = .returned (.bool true) ∧ Below w.heap.size w w' := by
  have hmx : Tryd.prog.follows .mixedOrders = true := by kernel_rfl
  have HT := Lib.hid hT
  clear hT
  have HL := Lib.hid hl
  clear hl
  go_enter Tryd.func5, Tryd.ntmps5
  go_wp2_with fail
  refine (head2_any w HT.out).mono ?_
  rintro e w1 ⟨rfl, hb1⟩
  have hf1 : Fr [] w w1 := (Fr.refl [] w).below hb1 (Nat.le_refl _)
  by_cases hl : t.length ≤ 2000
  · have t1 : decide ((2000 : Int) < (t.length : Int)) = false := by simp; omega
    go_wp2_with fail
    refine (few_any lv l 200 w1 (HL.out.fr0 hf1)).mono ?_
    rintro e w2 ⟨rfl, hb2⟩
    have hf2 : Fr [] w w2 := hf1.below hb2 hf1.size
    cases hfw : fewB l 200 with
    | false => go_wp2_with fail; go_ret; exact ⟨rfl, hf2.toBelow (by simp)⟩
    | true => ?_
    have HF := Lib.hid (few_join hfw (by decide))
    clear hfw
    obtain ⟨a, ha, ea⟩ : ∃ a : Nat, a < 30 ∧ (p : Int) % 30 = (a : Int) := ⟨p % 30, by omega, by omega⟩
    have HI1 := Lib.hid (dsum_isD t)
    have HI2 : Hid (isD (dlist l) = true) := Lib.hid (dsum_isD _)
    have HI3 : Hid (isD (dchain t (1 + (a : Int))) = true) := Lib.hid (by
      rw [show 1 + (a : Int) = ((a + 1 : Nat) : Int) by omega, dchain_nat _ _ (by omega), chainN_succ]; exact dsum_isD _)
    go_wp2_with fail
    refine (suml_any t w2 (by omega) (HT.out.fr hf2)).mono ?_
    rintro e w3 ⟨rfl, hb3⟩
    have hf3 : Fr [] w w3 := hf2.below hb3 hf2.size
    go_wp2_with fail
    refine (is_any (dsum t) w3 (by rw [dsum_length]; decide)).mono ?_
    rintro e w4 ⟨rfl, hb4⟩
    have hf4 : Fr [] w w4 := hf3.below hb4 hf3.size
    rw [HI1.out]
    go_wp2_with fail
    refine (list_any lv l w4 (HL.out.fr0 hf4) HF.out.2 (HT.out.fr hf4)).mono ?_
    rintro e w5 ⟨rfl, hb5⟩
    have hf5 : Fr [] w w5 := hf4.below hb5 hf4.size
    go_wp2_with fail
    refine (is_any (dlist l) w5 (by rw [show (dlist l).length = 16 from dsum_length _]; decide)).mono ?_
    rintro e w6 ⟨rfl, hb6⟩
    have hf6 : Fr [] w w6 := hf5.below hb6 hf5.size
    rw [HI2.out]
    go_wp2_with fail
    refine (chain_any t (1 + (a : Int)) w6 (by omega) (HT.out.fr hf6)).mono ?_
    rintro e w7 ⟨rfl, hb7⟩
    have hf7 : Fr [] w w7 := hf6.below hb7 hf6.size
    go_wp2_with fail
    refine (is_any (dchain t (1 + (a : Int))) w7 (by
      have := HI3.out
      simp only [isD, Bool.and_eq_true, beq_iff_eq] at this
      omega)).mono ?_
    rintro e w8 ⟨rfl, hb8⟩
    have hf8 : Fr [] w w8 := hf7.below hb8 hf7.size
    rw [HI3.out]
    go_wp2_with fail
    go_ret
    exact ⟨rfl, hf8.toBelow (by simp)⟩
  · have t1 : decide ((2000 : Int) < (t.length : Int)) = true := by simp; omega
    go_wp2_with fail
    go_ret
    exact ⟨rfl, hf1.toBelow (by simp)⟩
end Go.Proofs.YtfjmoefmlfhhnaaDoor
