/-
  foyerlaw02: DigestShort.
-/
import Derived.Test.YtfjmoefmlfhhnaaDoorDlA
namespace Go.Proofs.YtfjmoefmlfhhnaaDoor
open Go.RowKit
set_option maxRecDepth 100000 in
set_option maxHeartbeats 2000000 in
theorem digestShort_any (a : List UInt8) (b : List UInt8) (w : World) (hT : Tabs w) :
    Calls Tryd.prog 6 #[.string ⟨a.toArray⟩, .string ⟨b.toArray⟩] w fun e w' => e = .returned (.bool true) ∧ Below w.heap.size w w' := by
  have hmx : Tryd.prog.follows .mixedOrders = true := by kernel_rfl
  have HT := Lib.hid hT
  clear hT
  go_enter Tryd.func6, Tryd.ntmps6
  go_wp2_with fail
  refine (head2_any w HT.out).mono ?_
  rintro e w1 ⟨rfl, hb1⟩
  have hf1 : Fr [] w w1 := (Fr.refl [] w).below hb1 (Nat.le_refl _)
  obtain ⟨m, hm, em⟩ : ∃ m : Nat, m = min a.length 7 ∧ min (a.length : Int) 7 = (m : Int) := ⟨min a.length 7, rfl, by omega⟩
  obtain ⟨n, hn, en⟩ : ∃ n : Nat, n = min b.length 7 ∧ min (b.length : Int) 7 = (n : Int) := ⟨min b.length 7, rfl, by omega⟩
  have hx := ba_take a m
  have hy := ba_take b n
  have hA : (a.take m).length ≤ 7 := by rw [List.length_take]; omega
  have hB : (b.take n).length ≤ 7 := by rw [List.length_take]; omega
  have hma : m ≤ a.length := by omega
  have hnb : n ≤ b.length := by omega
  generalize a.take m = A at hx hA
  generalize b.take n = B at hy hB
  clear hm hn
  have HD : Hid (dsum A = dsum B → A = B) := Lib.hid (dsum_short hA hB)
  go_wp2_with fail
  refine (suml_any A w1 (by omega) (HT.out.fr hf1)).mono ?_
  rintro e w2 ⟨rfl, hb2⟩
  have hf2 : Fr [] w w2 := hf1.below hb2 hf1.size
  go_wp2_with fail
  refine (suml_any B w2 (by omega) (HT.out.fr hf2)).mono ?_
  rintro e w3 ⟨rfl, hb3⟩
  have hf3 : Fr [] w w3 := hf2.below hb3 hf2.size
  by_cases h : A = B
  · have t1 : (dsum A == dsum B) = true := by rw [h]; simp
    have t2 : (A == B) = true := by rw [h]; simp
    clear h
    go_wp2_with fail
    go_ret
    exact ⟨rfl, hf3.toBelow (by simp)⟩
  · have t1 : (dsum A == dsum B) = false := by simpa using fun h' => h (HD.out h')
    have t2 : (A == B) = false := by simpa using h
    clear h
    go_wp2_with fail
    go_ret
    exact ⟨rfl, hf3.toBelow (by simp)⟩
end Go.Proofs.YtfjmoefmlfhhnaaDoor
