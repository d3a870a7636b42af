/-
  foyerlaw02: DigestLong.
-/
import Derived.Test.YtfjmoefmlfhhnaaDoorDlA
namespace Go.Proofs.YtfjmoefmlfhhnaaDoor
open Go.RowKit
set_option maxRecDepth 100000 in
set_option maxHeartbeats 2000000 in
theorem digestLong_any (t : List UInt8) (n : Int) (w : World) (hn : -9223372036854775808 ≤ n ∧ n < 9223372036854775808) (hT : Tabs w) :
    Calls Tryd.prog 4 #[.string ⟨t.toArray⟩, .int .i64 n] w fun e w' => e = .returned (.bool true) ∧ Below w.heap.size w w' := by
  have hmx : Tryd.prog.follows .mixedOrders = true := by kernel_rfl
  have HT := Lib.hid hT
  clear hT
  go_enter Tryd.func4, Tryd.ntmps4
  go_wp2_with fail
  refine (head2_any w HT.out).mono ?_
  rintro e w1 ⟨rfl, hb1⟩
  have hf1 : Fr [] w w1 := (Fr.refl [] w).below hb1 (Nat.le_refl _)
  by_cases hl : t.length ≤ 200
  · have t1 : decide ((200 : Int) < (t.length : Int)) = false := by simp; omega
    by_cases h1 : n ≤ 1000
    · have t2 : decide (n ≤ 1000) = true := by simp [h1]
      go_wp2_with fail
      go_ret
      exact ⟨rfl, hf1.toBelow (by simp)⟩
    · have t2 : decide (n ≤ 1000) = false := by simp [h1]
      have HC : Hid (dchain t n = dchain t 1000) := Lib.hid (by unfold dchain cnt; congr 1; omega)
      go_wp2_with fail
      refine (chain_any t n w1 (by omega) (HT.out.fr hf1)).mono ?_
      rintro e w2 ⟨rfl, hb2⟩
      have hf2 : Fr [] w w2 := hf1.below hb2 hf1.size
      go_wp2_with fail
      refine (rchain_any t 1000 w2 (by omega)).mono ?_
      rintro e w3 ⟨rfl, hb3⟩
      have hf3 : Fr [] w w3 := hf2.below hb3 hf2.size
      rw [HC.out]
      have t3 : (dchain t 1000 == dchain t 1000) = true := by simp
      go_wp2_with fail
      go_ret
      exact ⟨rfl, hf3.toBelow (by simp)⟩
  · have t1 : decide ((200 : Int) < (t.length : Int)) = true := by simp; omega
    go_wp2_with fail
    go_ret
    exact ⟨rfl, hf1.toBelow (by simp)⟩
end Go.Proofs.YtfjmoefmlfhhnaaDoor
