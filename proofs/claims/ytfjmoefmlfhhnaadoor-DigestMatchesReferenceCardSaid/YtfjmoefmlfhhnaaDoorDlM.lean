/-
  foyerlaw02: DigestMatchesReference.
-/
import Derived.Test.YtfjmoefmlfhhnaaDoorDlF
namespace Go.Proofs.YtfjmoefmlfhhnaaDoor
open Go.RowKit
set_option maxRecDepth 100000 in
set_option maxHeartbeats 2000000 in
theorem digestMatchesReference_any (t : List UInt8) (lv : Value) (l : List (List UInt8)) (n : Int) (w : World) (hn : -9223372036854775808 ≤ n ∧ n < 9223372036854775808) (hT : Tabs w) (hl : Strs w lv l) :
    Calls Tryd.prog 3 #[.string ⟨t.toArray⟩, lv, .int .i64 n] w fun e w' => e = .returned (.bool true) ∧ Below w.heap.size w w' := by
  have hmx : Tryd.prog.follows .mixedOrders = true := by kernel_rfl
  have HT := Lib.hid hT
  clear hT
  have HL := Lib.hid hl
  clear hl
  go_enter Tryd.func3, Tryd.ntmps3
  go_wp2_with fail
  refine (head2_any w HT.out).mono ?_
  rintro e w1 ⟨rfl, hb1⟩
  have hf1 : Fr [] w w1 := (Fr.refl [] w).below hb1 (Nat.le_refl _)
  by_cases hl : t.length ≤ 2000
  · have t1 : decide ((2000 : Int) < (t.length : Int)) = false := by simp; omega
    go_wp2_with fail
    refine (few_any lv l 200 w1 (HL.out.fr0 hf1)).mono ?_
    rintro e w2 ⟨rfl, hb2⟩
    have hf2 : Fr [] w w2 := hf1.below hb2 hf1.size
    cases hfw : fewB l 200 with
    | false => go_wp2_with fail; go_ret; exact ⟨rfl, hf2.toBelow (by simp)⟩
    | true => ?_
    have HF := Lib.hid (few_join hfw (by decide))
    clear hfw
    go_wp2_with fail
    refine (suml_any t w2 (by omega) (HT.out.fr hf2)).mono ?_
    rintro e w3 ⟨rfl, hb3⟩
    have hf3 : Fr [] w w3 := hf2.below hb3 hf2.size
    go_wp2_with fail
    have q1 : (dsum t == dsum t) = true := by simp
    have q2 : (dlist l == dlist l) = true := by simp
    have q3 : (dchain t (n.tmod 40) == dchain t (n.tmod 40)) = true := by simp
    refine (rsum_any t w3 (by omega)).mono ?_
    rintro e w4 ⟨rfl, hb4⟩
    have hf4 : Fr [] w w4 := hf3.below hb4 hf3.size
    go_wp2_with fail
    refine (list_any lv l w4 (HL.out.fr0 hf4) HF.out.2 (HT.out.fr hf4)).mono ?_
    rintro e w5 ⟨rfl, hb5⟩
    have hf5 : Fr [] w w5 := hf4.below hb5 hf4.size
    go_wp2_with fail
    refine (rlist_any lv l w5 (HL.out.fr0 hf5) HF.out.1).mono ?_
    rintro e w6 ⟨rfl, hb6⟩
    have hf6 : Fr [] w w6 := hf5.below hb6 hf5.size
    go_wp2_with fail
    refine (chain_any t (n.tmod 40) w6 (by omega) (HT.out.fr hf6)).mono ?_
    rintro e w7 ⟨rfl, hb7⟩
    have hf7 : Fr [] w w7 := hf6.below hb7 hf6.size
    go_wp2_with fail
    refine (rchain_any t (n.tmod 40) w7 (by omega)).mono ?_
    rintro e w8 ⟨rfl, hb8⟩
    have hf8 : Fr [] w w8 := hf7.below hb8 hf7.size
    go_wp2_with fail
    refine (is_any t w8 (by omega)).mono ?_
    rintro e w9 ⟨rfl, hb9⟩
    have hf9 : Fr [] w w9 := hf8.below hb9 hf8.size
    go_wp2_with fail
    refine (ris_any t w9 (by omega)).mono ?_
    rintro e w10 ⟨rfl, rfl⟩
    go_wp2_with fail
    refine (below_any t n w9 (by omega) hn).mono ?_
    rintro e w11 ⟨rfl, hb11⟩
    have hf11 : Fr [] w w11 := hf9.below hb11 hf9.size
    go_wp2_with fail
    refine (rbelow_any t n w11 (by omega) hn).mono ?_
    rintro e w12 ⟨rfl, hb12⟩
    have hf12 : Fr [] w w12 := hf11.below hb12 hf11.size
    go_wp2_with fail
    refine (below_any (dsum t) n w12 (by rw [dsum_length]; decide) hn).mono ?_
    rintro e w13 ⟨rfl, hb13⟩
    have hf13 : Fr [] w w13 := hf12.below hb13 hf12.size
    go_wp2_with fail
    refine (rbelow_any (dsum t) n w13 (by rw [dsum_length]; decide) hn).mono ?_
    rintro e w14 ⟨rfl, hb14⟩
    have hf14 : Fr [] w w14 := hf13.below hb14 hf13.size
    go_wp2_with fail
    go_ret
    exact ⟨rfl, hf14.toBelow (by simp)⟩
  · have t1 : decide ((2000 : Int) < (t.length : Int)) = true := by simp; omega
    go_wp2_with fail
    go_ret
    exact ⟨rfl, hf1.toBelow (by simp)⟩
end Go.Proofs.YtfjmoefmlfhhnaaDoor
