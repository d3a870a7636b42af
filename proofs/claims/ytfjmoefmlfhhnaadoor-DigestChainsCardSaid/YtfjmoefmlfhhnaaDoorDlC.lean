/-
  foyerlaw02: DigestChains.
-/
import Derived.Test.YtfjmoefmlfhhnaaDoorDlA
namespace Go.Proofs.YtfjmoefmlfhhnaaDoor
open Go.RowKit
set_option maxRecDepth 100000 in
set_option maxHeartbeats 2000000 in
theorem digestChains_any (t : List UInt8) (p : Nat) (q : Nat) (w : World) (hp : p < 256) (hq : q < 256) (hT : Tabs w) :
    Calls Tryd.prog 8 #[.string ⟨t.toArray⟩, .int .u8 (p : Int), .int .u8 (q : Int)] w fun e w' => e = .returned (.bool true) ∧ Below w.heap.size w w' := by
  have hmx : Tryd.prog.follows .mixedOrders = true := by kernel_rfl
  have HT := Lib.hid hT
  clear hT
  go_enter Tryd.func8, Tryd.ntmps8
  go_wp2_with fail
  refine (head2_any w HT.out).mono ?_
  rintro e w1 ⟨rfl, hb1⟩
  have hf1 : Fr [] w w1 := (Fr.refl [] w).below hb1 (Nat.le_refl _)
  by_cases hl : t.length ≤ 2000
  · have t1 : decide ((2000 : Int) < (t.length : Int)) = false := by simp; omega
    obtain ⟨a, ha, ea⟩ : ∃ a : Nat, a < 51 ∧ (p : Int) % 51 = (a : Int) := ⟨p % 51, by omega, by omega⟩
    obtain ⟨b, hb, eb⟩ : ∃ b : Nat, b < 51 ∧ (q : Int) % 51 = (b : Int) := ⟨q % 51, by omega, by omega⟩
    have HC : Hid (dchain (dchain t (a : Int)) (b : Int) = dchain t ((a : Int) + (b : Int))) := Lib.hid (by
      rw [show (a : Int) + (b : Int) = ((a + b : Nat) : Int) by omega, dchain_nat _ _ (by omega), dchain_nat _ _ (by omega), dchain_nat _ _ (by omega), chainN_add, Nat.add_comm])
    have hcl : (dchain t (a : Int)).length ≤ 2000 := by
      rw [dchain_nat _ _ (by omega)]
      cases a with
      | zero => exact hl
      | succ a => rw [chainN_succ, dsum_length]; decide
    go_wp2_with fail
    refine (chain_any t (a : Int) w1 (by omega) (HT.out.fr hf1)).mono ?_
    rintro e w2 ⟨rfl, hb2⟩
    have hf2 : Fr [] w w2 := hf1.below hb2 hf1.size
    go_wp2_with fail
    refine (chain_any (dchain t (a : Int)) (b : Int) w2 (by omega) (HT.out.fr hf2)).mono ?_
    rintro e w3 ⟨rfl, hb3⟩
    have hf3 : Fr [] w w3 := hf2.below hb3 hf2.size
    go_wp2_with fail
    refine (chain_any t ((a : Int) + (b : Int)) w3 (by omega) (HT.out.fr hf3)).mono ?_
    rintro e w4 ⟨rfl, hb4⟩
    have hf4 : Fr [] w w4 := hf3.below hb4 hf3.size
    rw [HC.out]
    have t2 : (dchain t ((a : Int) + (b : Int)) == dchain t ((a : Int) + (b : Int))) = true := by simp
    go_wp2_with fail
    go_ret
    exact ⟨rfl, hf4.toBelow (by simp)⟩
  · have t1 : decide ((2000 : Int) < (t.length : Int)) = true := by simp; omega
    go_wp2_with fail
    go_ret
    exact ⟨rfl, hf1.toBelow (by simp)⟩
end Go.Proofs.YtfjmoefmlfhhnaaDoor
