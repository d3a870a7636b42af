/-
  foyerlaw19: DrawSteps.
-/
import Derived.Test.YtnbpajcecjpfpaaDoorDrD
namespace Go.Proofs.YtnbpajcecjpfpaaDoor
open Go.RowKit
set_option maxRecDepth 100000 in
set_option maxHeartbeats 2000000 in
theorem drawSteps_any (s : List UInt8) (r : Nat) (w : World) (hr : r < 65536) (hT : Tabs w) :
    Calls Tryd.prog 7 #[.string ⟨s.toArray⟩, .int .u16 (r : Int)] w fun e w' => e = .returned (.bool true) ∧ Below w.heap.size w w' := by
  have hmx : Tryd.prog.follows .mixedOrders = true := by kernel_rfl
  have HT := Lib.hid hT
  clear hT
  go_enter Tryd.func7, Tryd.ntmps7
  go_wp2_with fail
  refine (head19_any w HT.out).mono ?_
  rintro e w1 ⟨rfl, hb1⟩
  have hf1 : Fr [] w w1 := (Fr.refl [] w).below hb1 (Nat.le_refl _)
  obtain ⟨n, hn, en⟩ : ∃ n : Nat, n < 301 ∧ (r : Int) % 301 = (n : Int) := ⟨r % 301, by omega, by omega⟩
  by_cases hl : s.length ≤ 200
  · have t1 : decide ((200 : Int) < (s.length : Int)) = false := by simp; omega
    go_wp2_with fail
    refine (shuffle_any s n w1 (by omega) (by omega) (HT.out.fr hf1)).mono ?_
    rintro e w2 ⟨g1, rfl, _, ha1, hb2⟩
    have hf2 : Fr [] w w2 := hf1.below hb2 hf1.size
    go_wp2_with fail
    refine (shuffle_any s (n + 1) w2 (by omega) (by omega) (HT.out.fr hf2)).mono ?_
    rintro e w3 ⟨g2, rfl, _, ha2, hb3⟩
    have hf3 : Fr [] w w3 := hf2.below hb3 hf2.size
    have ha13 := ha1.fr (Fr.ofBelow (X := []) hb3) (by simp)
    have HA1 := Lib.hid ha13
    have HA2 := Lib.hid ha2
    obtain ⟨j, hj, hm⟩ := more_S s n
    obtain ⟨m1, m2, m3, m4⟩ := hm
    have M1 := Lib.hid m1
    have M2 := Lib.hid m2
    have M4 := Lib.hid m4
    have cj := ha2.cell n (by omega)
    rw [m3] at cj
    clear ha1 ha13 ha2 m1 m2 m3 m4 hb1 hb2 hb3 hf1 hf2
    generalize shufS s n = A at HA1 M1 M4
    generalize shufS s (n + 1) = B at HA2 M2 M4
    go_wp2_with fail
    clear cj
    go_loopg [10] (n + 1) (fun g i wr => ∃ k : Nat, k ≤ n ∧ g = n + 1 - k ∧ i = .int .i64 (k : Int) ∧ Fr [] w3 wr)
    case atStart => exact ⟨0, by omega, by omega, rfl, Fr.refl _ _⟩
    case round =>
      obtain ⟨k, hk, hg, rfl, hfr⟩ := hrel
      have HG := Lib.hid hg
      clear hg
      by_cases hlt : k < n
      · have t2 : decide ((k : Int) < (n : Int)) = true := by simp; omega
        have c1 := (HA1.out.fr hfr (by simp)).cell k (by rw [M1.out]; exact hlt)
        have c2 := (HA2.out.fr hfr (by simp)).cell k (by rw [M2.out]; omega)
        have h4 := M4.out k hlt
        generalize A.getD k 0 = x at c1 h4
        generalize B.getD k 0 = y at c2 h4
        by_cases hxj : x = j
        · rw [if_pos hxj] at h4
          subst h4 hxj
          have t3 : ((x : Int) == (x : Int)) = true := by simp
          have t4 : ((y : Int) != (y : Int)) = false := by simp
          go_wp2_with fail
          go_roundg (y + 1 - (k + 1))
          case measure => have := HG.out; omega
          case rel => exact ⟨k + 1, by omega, rfl, by go_num, hfr⟩
        · rw [if_neg hxj] at h4
          subst h4
          have t3 : ((y : Int) == (j : Int)) = false := by simp; omega
          have t4 : ((y : Int) != (y : Int)) = false := by simp
          go_wp2_with fail
          go_roundg (n + 1 - (k + 1))
          case measure => have := HG.out; omega
          case rel => exact ⟨k + 1, by omega, rfl, by go_num, hfr⟩
      · obtain rfl : n = k := by omega
        have t2 : decide ((n : Int) < (n : Int)) = false := by simp
        have t5 : decide ((0 : Int) ≤ (j : Int)) = true := by simp
        have t6 : decide ((j : Int) ≤ (n : Int)) = true := by simp; omega
        go_wp2_with fail
        go_ret
        exact ⟨rfl, (hf3.trans hfr (by simp)).toBelow (by simp)⟩
  · have t1 : decide ((200 : Int) < (s.length : Int)) = true := by simp; omega
    go_wp2_with fail
    go_ret
    exact ⟨rfl, hf1.toBelow (by simp)⟩
end Go.Proofs.YtnbpajcecjpfpaaDoor
