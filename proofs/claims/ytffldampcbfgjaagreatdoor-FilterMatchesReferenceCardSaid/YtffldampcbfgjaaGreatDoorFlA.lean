/-
  filter.form, filter.valid, filter.positions.
-/
import Derived.Test.YtffldampcbfgjaaGreatDoorPlnFk
import Derived.Test.YtffldampcbfgjaaGreatDoorOwn
namespace Go.Proofs.YtffldampcbfgjaaGreatDoor
open Go.RowKit

/-- A slice of words. -/
def Ws (w : World) (v : Value) (l : List Nat) : Prop :=
  (l = [] ∧ ∃ a, v = .slice a 0 0) ∨ ∃ b off cap, v = .slice (some ⟨b, off, none⟩) l.length cap ∧ l.length ≤ cap ∧ cap ≤ 9223372036854775807 ∧ b < w.heap.size ∧
    ∀ i, i < l.length → w.cell? ⟨b, off + i, none⟩ = some (.int .u64 ((l.getD i 0 : Nat) : Int))
theorem Ws.fr0 {w w' : World} {v : Value} {l : List Nat} (h : Ws w v l) (hf : Fr [] w w') : Ws w' v l := by
  rcases h with h | ⟨b, off, cap, hv, h1, h2, h3, h4⟩
  · exact Or.inl h
  · exact Or.inr ⟨b, off, cap, hv, h1, h2, Nat.lt_of_lt_of_le h3 hf.size, fun i hi => hf.cell (h4 i hi) (by simp)⟩
theorem Ws.form {w : World} {v : Value} {l : List Nat} (h : Ws w v l) : ∃ a cap, v = .slice a l.length cap ∧ l.length ≤ cap ∧ cap ≤ 9223372036854775807 ∧ (∀ i, i < l.length → ∃ b off, a = some ⟨b, off, none⟩) := by
  rcases h with ⟨rfl, a, rfl⟩ | ⟨b, off, cap, rfl, h1, h2, _, _⟩
  · exact ⟨a, 0, rfl, by simp, by simp, fun i hi => absurd hi (by simp)⟩
  · exact ⟨_, cap, rfl, h1, h2, fun i hi => ⟨b, off, rfl⟩⟩
/-- A value reads as a filter. -/
def FltR (w : World) (v : Value) (f : Flt) : Prop := ∃ wv, v = .agg #[.int .i64 f.bits, .int .i64 f.hashes, wv] ∧ Ws w wv f.words

set_option maxRecDepth 100000 in
set_option maxHeartbeats 1000000 in
theorem form_any (bits hashes : Int) (w : World) :
    Calls Tryz.prog 40 #[.int .i64 bits, .int .i64 hashes] w fun e w' => e = .returned (.bool (formF bits hashes)) ∧ w = w' := by
  obtain ⟨r, er⟩ : ∃ r, r = formF bits hashes := ⟨_, rfl⟩
  have ER : Hid (r = decide (64 ≤ bits ∧ bits ≤ 65536 ∧ bits % 64 = 0 ∧ 1 ≤ hashes ∧ hashes ≤ 8)) := Lib.hid er
  rw [← er]
  clear er
  by_cases h1 : 64 ≤ bits
  case neg =>
    have t1 : decide (64 ≤ bits) = false := decide_eq_false h1
    have HX : Hid (r = false) := Lib.hid (by rw [ER.out]; exact decide_eq_false (fun h => h1 h.1))
    clear h1
    go_enter Tryz.func40, Tryz.ntmps40
    go_wp2_with fail
    go_ret
    exact ⟨by rw [HX.out]; rfl, rfl⟩
  have t1 : decide (64 ≤ bits) = true := decide_eq_true h1
  by_cases h2 : bits ≤ 65536
  case neg =>
    have t2 : decide (bits ≤ 65536) = false := decide_eq_false h2
    have HX : Hid (r = false) := Lib.hid (by rw [ER.out]; exact decide_eq_false (fun h => h2 h.2.1))
    clear h1 h2
    go_enter Tryz.func40, Tryz.ntmps40
    go_wp2_with fail
    go_ret
    exact ⟨by rw [HX.out]; rfl, rfl⟩
  have t2 : decide (bits ≤ 65536) = true := decide_eq_true h2
  obtain ⟨m, em, em2⟩ : ∃ m, bits % 64 = m ∧ bits.tmod 64 = m := ⟨_, rfl, by rw [Int.tmod_eq_emod_of_nonneg (by omega)]⟩
  by_cases h3 : m = 0
  case neg =>
    have t3 : (m == 0) = false := by rw [beq_eq_false_iff_ne]; exact h3
    have HX : Hid (r = false) := Lib.hid (by rw [ER.out]; exact decide_eq_false (fun h => h3 (by rw [← em]; exact h.2.2.1)))
    have xm : IntKind.i64.wrap m = m := IntWalk.i64_in _ (by omega)
    clear h1 h2 h3
    go_enter Tryz.func40, Tryz.ntmps40
    go_wp2_with fail
    go_ret
    exact ⟨by rw [HX.out]; rfl, rfl⟩
  subst h3
  by_cases h4 : 1 ≤ hashes
  case neg =>
    have t4 : decide (1 ≤ hashes) = false := decide_eq_false h4
    have HX : Hid (r = false) := Lib.hid (by rw [ER.out]; exact decide_eq_false (fun h => h4 h.2.2.2.1))
    clear h1 h2 h4
    go_enter Tryz.func40, Tryz.ntmps40
    go_wp2_with fail
    go_ret
    exact ⟨by rw [HX.out]; rfl, rfl⟩
  have t4 : decide (1 ≤ hashes) = true := decide_eq_true h4
  by_cases h5 : hashes ≤ 8
  case neg =>
    have t5 : decide (hashes ≤ 8) = false := decide_eq_false h5
    have HX : Hid (r = false) := Lib.hid (by rw [ER.out]; exact decide_eq_false (fun h => h5 h.2.2.2.2))
    clear h1 h2 h4 h5
    go_enter Tryz.func40, Tryz.ntmps40
    go_wp2_with fail
    go_ret
    exact ⟨by rw [HX.out]; rfl, rfl⟩
  have t5 : decide (hashes ≤ 8) = true := decide_eq_true h5
  have HX : Hid (r = true) := Lib.hid (by rw [ER.out]; exact decide_eq_true ⟨h1, h2, em, h4, h5⟩)
  clear h1 h2 h4 h5
  go_enter Tryz.func40, Tryz.ntmps40
  go_wp2_with fail
  go_ret
  exact ⟨by rw [HX.out]; rfl, rfl⟩

set_option maxRecDepth 100000 in
theorem positions_any (serial bits hashes : Int) (w : World) :
    Calls Tryz.prog 42 #[.int .i64 serial, .int .i64 bits, .int .i64 hashes] w fun e w' => e = .returned (.func (.func 81) #[] #[.pointer (some ⟨w.heap.size + 2, 0, none⟩), .pointer (some ⟨w.heap.size, 0, none⟩), .pointer (some ⟨w.heap.size + 1, 0, none⟩)]) ∧
      w' = ((w.alloc (.cells #[.int .i64 serial] 3)).alloc (.cells #[.int .i64 bits] 3)).alloc (.cells #[.int .i64 hashes] 3) := by
  go_enter Tryz.func42, Tryz.ntmps42
  go_wp2
  go_ret
  exact ⟨by simp, rfl⟩
end Go.Proofs.YtffldampcbfgjaaGreatDoor
