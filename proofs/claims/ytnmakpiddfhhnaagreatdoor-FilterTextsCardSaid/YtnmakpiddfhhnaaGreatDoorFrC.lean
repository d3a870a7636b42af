/-
  foyerlaw36.small.
-/
import Derived.Test.YtnmakpiddfhhnaaGreatDoorFlL
namespace Go.Proofs.YtnmakpiddfhhnaaGreatDoor
open Go.RowKit

/-- A slice of slices of ints, read by the lengths of its elements. -/
def Rows (w : World) (v : Value) (L : List Nat) : Prop :=
  (v = .slice none 0 0 ∧ L = []) ∨ ∃ b off cap, v = .slice (some ⟨b, off, none⟩) L.length cap ∧ L.length ≤ cap ∧ cap ≤ 9223372036854775807 ∧
    ∀ i, i < L.length → ∃ a c, w.cell? ⟨b, off + i, none⟩ = some (.slice a (L.getD i 0) c)
def smallF (f : Flt) (L : List Nat) : Bool := L.all (fun n => decide (n ≤ 60)) && decide (f.words.length ≤ 100)
set_option maxRecDepth 100000 in
set_option maxHeartbeats 4000000 in
theorem small_any (v lv : Value) (f : Flt) (L : List Nat) (w : World) (hv : FltR w v f) (hL : Rows w lv L) :
    Calls Tryz.prog 9 #[v, lv] w fun e w' => e = .returned (.bool (smallF f L)) ∧ Below w.heap.size w w' := by
  obtain ⟨v1, rfl, hw1⟩ := hv
  obtain ⟨a1, cap1, rfl, hl1, hc1, hf1⟩ := hw1.form
  obtain ⟨la, lcap, rfl, hlc, hlc9, hla⟩ : ∃ a c, lv = .slice a L.length c ∧ L.length ≤ c ∧ c ≤ 9223372036854775807 ∧ ∀ i, i < L.length → ∃ b off, a = some ⟨b, off, none⟩ ∧ ∃ x y, w.cell? ⟨b, off + i, none⟩ = some (.slice x (L.getD i 0) y) := by
    rcases hL with ⟨rfl, rfl⟩ | ⟨b, off, cap, rfl, h1, h2, h3⟩
    · exact ⟨none, 0, rfl, by simp, by simp, fun i hi => absurd hi (by simp)⟩
    · exact ⟨_, cap, rfl, h1, h2, fun i hi => ⟨b, off, rfl, h3 i hi⟩⟩
  clear hL hw1
  obtain ⟨r, er⟩ : ∃ r, r = smallF f L := ⟨_, rfl⟩
  rw [← er]
  have ER := Lib.hid er
  clear er
  obtain ⟨W0, hW0⟩ : ∃ W0, W0 = w.alloc (.cells #[.int .i64 f.bits, .int .i64 f.hashes, .slice a1 f.words.length cap1] 24) := ⟨_, rfl⟩
  obtain ⟨p, ep⟩ : ∃ p, p = w.heap.size := ⟨_, rfl⟩
  have h0 : Fr [] w W0 := by rw [hW0]; exact (Fr.refl [] w).alloc _
  have hp0 : W0.heap[p]? = some (.cells #[.int .i64 f.bits, .int .i64 f.hashes, .slice a1 f.words.length cap1] 24 (0, 0)) := by rw [hW0, ep]; exact heap_new rfl
  go_enter Tryz.func9, Tryz.ntmps9
  go_wp2_with fail
  rw [← hW0, ← ep]
  clear hW0 ep
  go_loopg [5] L.length (fun gh i wr => ∃ k : Nat, k ≤ L.length ∧ gh = L.length - k ∧ i = .int .i64 (k : Int) ∧ (∀ j, j < k → L.getD j 0 ≤ 60) ∧ W0 = wr)
  case atStart => exact ⟨0, by omega, by omega, rfl, fun j hj => absurd hj (by omega), rfl⟩
  case round =>
    obtain ⟨k, hk, hgh, rfl, hall, rfl⟩ := hrel
    have HG := Lib.hid hgh
    have HA := Lib.hid hall
    clear hgh hall
    by_cases hlt : k < L.length
    · have t1 : decide ((k : Int) < (L.length : Int)) = true := by simp; omega
      obtain ⟨b, off, rfl, x, y, hc⟩ := hla k hlt
      have hc := h0.cell hc (by simp)
      have HBIG : Hid (60 < L.getD k 0 → r = false) := Lib.hid (fun h => by
        rw [ER.out]; unfold smallF
        rw [List.all_eq_false.2 ⟨_, getD_mem L k 0 hlt, by simpa using h⟩]; rfl)
      have HOK : Hid (L.getD k 0 ≤ 60 → ∀ j, j < k + 1 → L.getD j 0 ≤ 60) := Lib.hid (fun h j hj => by
        by_cases hjk : j < k
        · exact HA.out j hjk
        · obtain rfl : j = k := by omega
          exact h)
      generalize L.getD k 0 = n at hc HBIG HOK
      have i0 : (0 : Int) ≤ (k : Int) := by omega
      have i1 : (k : Int) < (L.length : Int) := by omega
      by_cases hn : 60 < n
      · have t2 : decide ((60 : Int) < (n : Int)) = true := decide_eq_true (by omega)
        have HR := Lib.hid (HBIG.out hn)
        go_wp2_with fail
        go_ret
        exact ⟨by rw [HR.out]; rfl, h0.toBelow (by simp)⟩
      · have t2 : decide ((60 : Int) < (n : Int)) = false := decide_eq_false (by omega)
        have HR := Lib.hid (HOK.out (by omega))
        go_wp2_with fail
        go_roundg (L.length - (k + 1))
        case measure => have := HG.out; omega
        case rel => exact ⟨k + 1, by omega, rfl, by go_num, HR.out, rfl⟩
    · obtain rfl : k = L.length := by omega
      have t1 : decide ((L.length : Int) < (L.length : Int)) = false := by simp
      have HR : Hid (r = decide ((f.words.length : Int) ≤ 100)) := Lib.hid (by
        rw [ER.out]; unfold smallF
        rw [List.all_eq_true.2 (fun n hn => by
          obtain ⟨j, hj, rfl⟩ := List.getElem_of_mem hn
          have := HA.out j hj
          rw [List.getD_eq_getElem?_getD, List.getElem?_eq_getElem hj] at this
          simpa using this), Bool.true_and, decide_eq_decide]
        omega)
      have c2 := row_cell hp0 2
      simp at c2
      go_wp2_with fail
      go_ret
      exact ⟨by rw [HR.out]; first | rfl | simp, h0.toBelow (by simp)⟩
end Go.Proofs.YtnmakpiddfhhnaaGreatDoor
