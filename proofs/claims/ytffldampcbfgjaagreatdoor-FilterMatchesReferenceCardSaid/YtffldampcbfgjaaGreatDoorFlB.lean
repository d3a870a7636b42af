/-
  filter.valid; the iterator over the positions of a serial number.
-/
import Derived.Test.YtffldampcbfgjaaGreatDoorFlA
namespace Go.Proofs.YtffldampcbfgjaaGreatDoor
open Go.RowKit

set_option maxRecDepth 100000 in
set_option maxHeartbeats 1000000 in
theorem valid_any (v : Value) (f : Flt) (w : World) (hv : FltR w v f) :
    Calls Tryz.prog 45 #[v] w fun e w' => e = .returned (.bool (validF f)) ∧ Below w.heap.size w w' := by
  obtain ⟨wv, rfl, hw⟩ := hv
  obtain ⟨wa, wcap, rfl, hwl, hwc, hwa⟩ := hw.form
  clear hw
  obtain ⟨r, er⟩ : ∃ r, r = validF f := ⟨_, rfl⟩
  have ER : Hid (r = (formF f.bits f.hashes && decide ((f.words.length : Int) = f.bits / 64))) := Lib.hid er
  rw [← er]
  clear er
  have f0 : Fr [] w (w.alloc (.cells #[.int .i64 f.bits, .int .i64 f.hashes, .slice wa f.words.length wcap] 25)) := (Fr.refl [] w).alloc _
  have q0 : (w.alloc (.cells #[.int .i64 f.bits, .int .i64 f.hashes, .slice wa f.words.length wcap] 25)).heap[w.heap.size]? = some (.cells #[.int .i64 f.bits, .int .i64 f.hashes, .slice wa f.words.length wcap] 25 (0, 0)) := heap_new rfl
  go_enter Tryz.func45, Tryz.ntmps45
  go_wp2_with fail
  generalize w.alloc (.cells #[.int .i64 f.bits, .int .i64 f.hashes, .slice wa f.words.length wcap] 25) = w0 at f0 q0 ⊢
  refine (form_any f.bits f.hashes w0).mono ?_
  rintro e w1 ⟨rfl, rfl⟩
  have c0 : w0.cell? ⟨w.heap.size, 0, none⟩ = some (.int .i64 f.bits) := by rw [row_cell q0 0]; rfl
  have c2 : w0.cell? ⟨w.heap.size, 2, none⟩ = some (.slice wa f.words.length wcap) := by rw [row_cell q0 2]; rfl
  clear q0
  cases hf : formF f.bits f.hashes with
  | false =>
    have HX : Hid (r = false) := Lib.hid (by rw [ER.out, hf]; rfl)
    clear hf
    go_wp2_with fail
    go_ret
    exact ⟨by rw [HX.out]; rfl, f0.toBelow (by simp)⟩
  | true =>
    have hp := formF_parts hf
    have HR2 : Hid (r = decide ((f.words.length : Int) = f.bits / 64)) := Lib.hid (by rw [ER.out, hf]; rfl)
    obtain ⟨q, eq, eq2⟩ : ∃ q, f.bits / 64 = q ∧ f.bits.tdiv 64 = q := ⟨_, rfl, by rw [Int.tdiv_eq_ediv_of_nonneg (by omega)]⟩
    have xq : IntKind.i64.wrap q = q := IntWalk.i64_in _ (by omega)
    have HEQ := Lib.hid eq
    clear hf hp eq
    by_cases hl : (f.words.length : Int) = q
    · have t1 : ((f.words.length : Int) == q) = true := by rw [beq_iff_eq]; exact hl
      have HX : Hid (r = true) := Lib.hid (by rw [HR2.out, HEQ.out]; exact decide_eq_true hl)
      clear hl
      go_wp2_with fail
      go_ret
      exact ⟨by rw [HX.out]; rfl, f0.toBelow (by simp)⟩
    · have t1 : ((f.words.length : Int) == q) = false := by rw [beq_eq_false_iff_ne]; exact hl
      have HX : Hid (r = false) := Lib.hid (by rw [HR2.out, HEQ.out]; exact decide_eq_false hl)
      clear hl
      go_wp2_with fail
      go_ret
      exact ⟨by rw [HX.out]; rfl, f0.toBelow (by simp)⟩
end Go.Proofs.YtffldampcbfgjaaGreatDoor
