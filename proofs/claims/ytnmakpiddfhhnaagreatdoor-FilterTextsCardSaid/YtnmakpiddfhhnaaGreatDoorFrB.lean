/-
  The reference of layer 36: form, Valid, Same.
-/
import Derived.Test.YtnmakpiddfhhnaaGreatDoorFlL
namespace Go.Proofs.YtnmakpiddfhhnaaGreatDoor
open Go.RowKit

set_option maxRecDepth 100000 in
set_option maxHeartbeats 1000000 in
theorem rform36_any (bits hashes : Int) (w : World) :
    Calls Tryz.prog 32 #[.int .i64 bits, .int .i64 hashes] w fun e w' => e = .returned (.bool (formF bits hashes)) ∧ w = w' := by
  obtain ⟨r, er⟩ : ∃ r, r = formF bits hashes := ⟨_, rfl⟩
  have ER : Hid (r = decide (64 ≤ bits ∧ bits ≤ 65536 ∧ bits % 64 = 0 ∧ 1 ≤ hashes ∧ hashes ≤ 8)) := Lib.hid er
  rw [← er]
  clear er
  by_cases h1 : 64 ≤ bits
  case neg =>
    have t1 : decide (64 ≤ bits) = false := decide_eq_false h1
    have HX : Hid (r = false) := Lib.hid (by rw [ER.out]; exact decide_eq_false (fun h => h1 h.1))
    clear h1
    go_enter Tryz.func32, Tryz.ntmps32
    go_wp2_with fail
    go_ret
    exact ⟨by rw [HX.out]; rfl, rfl⟩
  have t1 : decide (64 ≤ bits) = true := decide_eq_true h1
  by_cases h2 : bits ≤ 65536
  case neg =>
    have t2 : decide (bits ≤ 65536) = false := decide_eq_false h2
    have HX : Hid (r = false) := Lib.hid (by rw [ER.out]; exact decide_eq_false (fun h => h2 h.2.1))
    clear h1 h2
    go_enter Tryz.func32, Tryz.ntmps32
    go_wp2_with fail
    go_ret
    exact ⟨by rw [HX.out]; rfl, rfl⟩
  have t2 : decide (bits ≤ 65536) = true := decide_eq_true h2
  obtain ⟨m, em, em2⟩ : ∃ m, bits % 64 = m ∧ bits.tmod 64 = m := ⟨_, rfl, by rw [Int.tmod_eq_emod_of_nonneg (by omega)]⟩
  by_cases h3 : m = 0
  case neg =>
    have t3 : (m == 0) = false := by rw [beq_eq_false_iff_ne]; exact h3
    have HX : Hid (r = false) := Lib.hid (by rw [ER.out]; exact decide_eq_false (fun h => h3 (by rw [← em]; exact h.2.2.1)))
    have xm : IntKind.i64.wrap m = m := IntWalk.i64_in _ (by omega)
    clear h1 h2 h3
    go_enter Tryz.func32, Tryz.ntmps32
    go_wp2_with fail
    go_ret
    exact ⟨by rw [HX.out]; rfl, rfl⟩
  subst h3
  by_cases h4 : 1 ≤ hashes
  case neg =>
    have t4 : decide (1 ≤ hashes) = false := decide_eq_false h4
    have HX : Hid (r = false) := Lib.hid (by rw [ER.out]; exact decide_eq_false (fun h => h4 h.2.2.2.1))
    clear h1 h2 h4
    go_enter Tryz.func32, Tryz.ntmps32
    go_wp2_with fail
    go_ret
    exact ⟨by rw [HX.out]; rfl, rfl⟩
  have t4 : decide (1 ≤ hashes) = true := decide_eq_true h4
  by_cases h5 : hashes ≤ 8
  case neg =>
    have t5 : decide (hashes ≤ 8) = false := decide_eq_false h5
    have HX : Hid (r = false) := Lib.hid (by rw [ER.out]; exact decide_eq_false (fun h => h5 h.2.2.2.2))
    clear h1 h2 h4 h5
    go_enter Tryz.func32, Tryz.ntmps32
    go_wp2_with fail
    go_ret
    exact ⟨by rw [HX.out]; rfl, rfl⟩
  have t5 : decide (hashes ≤ 8) = true := decide_eq_true h5
  have HX : Hid (r = true) := Lib.hid (by rw [ER.out]; exact decide_eq_true ⟨h1, h2, em, h4, h5⟩)
  clear h1 h2 h4 h5
  go_enter Tryz.func32, Tryz.ntmps32
  go_wp2_with fail
  go_ret
  exact ⟨by rw [HX.out]; rfl, rfl⟩

set_option maxRecDepth 100000 in
set_option maxHeartbeats 1000000 in
theorem rvalid36_any (v : Value) (f : Flt) (w : World) (hv : FltR w v f) :
    Calls Tryz.prog 12 #[v] w fun e w' => e = .returned (.bool (validF f)) ∧ Below w.heap.size w w' := by
  obtain ⟨wv, rfl, hw⟩ := hv
  obtain ⟨wa, wcap, rfl, hwl, hwc, hwa⟩ := hw.form
  clear hw
  obtain ⟨r, er⟩ : ∃ r, r = validF f := ⟨_, rfl⟩
  have ER : Hid (r = (formF f.bits f.hashes && decide ((f.words.length : Int) = f.bits / 64))) := Lib.hid er
  rw [← er]
  clear er
  have f0 : Fr [] w (w.alloc (.cells #[.int .i64 f.bits, .int .i64 f.hashes, .slice wa f.words.length wcap] 24)) := (Fr.refl [] w).alloc _
  have q0 : (w.alloc (.cells #[.int .i64 f.bits, .int .i64 f.hashes, .slice wa f.words.length wcap] 24)).heap[w.heap.size]? = some (.cells #[.int .i64 f.bits, .int .i64 f.hashes, .slice wa f.words.length wcap] 24 (0, 0)) := heap_new rfl
  go_enter Tryz.func12, Tryz.ntmps12
  go_wp2_with fail
  generalize w.alloc (.cells #[.int .i64 f.bits, .int .i64 f.hashes, .slice wa f.words.length wcap] 24) = w0 at f0 q0 ⊢
  refine (rform36_any f.bits f.hashes w0).mono ?_
  rintro e w1 ⟨rfl, rfl⟩
  have c0 : w0.cell? ⟨w.heap.size, 0, none⟩ = some (.int .i64 f.bits) := by rw [row_cell q0 0]; rfl
  have c2 : w0.cell? ⟨w.heap.size, 2, none⟩ = some (.slice wa f.words.length wcap) := by rw [row_cell q0 2]; rfl
  clear q0
  cases hf : formF f.bits f.hashes with
  | false =>
    have HX : Hid (r = false) := Lib.hid (by rw [ER.out, hf]; rfl)
    clear hf
    go_wp2_with fail
    go_ret
    exact ⟨by rw [HX.out]; rfl, f0.toBelow (by simp)⟩
  | true =>
    have hp := formF_parts hf
    have HR2 : Hid (r = decide ((f.words.length : Int) = f.bits / 64)) := Lib.hid (by rw [ER.out, hf]; rfl)
    obtain ⟨q, eq, eq2⟩ : ∃ q, f.bits / 64 = q ∧ f.bits.tdiv 64 = q := ⟨_, rfl, by rw [Int.tdiv_eq_ediv_of_nonneg (by omega)]⟩
    have xq : IntKind.i64.wrap q = q := IntWalk.i64_in _ (by omega)
    have HEQ := Lib.hid eq
    clear hf hp eq
    by_cases hl : (f.words.length : Int) = q
    · have t1 : ((f.words.length : Int) == q) = true := by rw [beq_iff_eq]; exact hl
      have HX : Hid (r = true) := Lib.hid (by rw [HR2.out, HEQ.out]; exact decide_eq_true hl)
      clear hl
      go_wp2_with fail
      go_ret
      exact ⟨by rw [HX.out]; rfl, f0.toBelow (by simp)⟩
    · have t1 : ((f.words.length : Int) == q) = false := by rw [beq_eq_false_iff_ne]; exact hl
      have HX : Hid (r = false) := Lib.hid (by rw [HR2.out, HEQ.out]; exact decide_eq_false hl)
      clear hl
      go_wp2_with fail
      go_ret
      exact ⟨by rw [HX.out]; rfl, f0.toBelow (by simp)⟩
/-- Are two filters equal? -/
def sameF (a b : Flt) : Bool := decide (a.bits = b.bits) && decide (a.hashes = b.hashes) && decide (a.words = b.words)
theorem sameF_iff (a b : Flt) : sameF a b = true ↔ a = b := by
  unfold sameF
  simp only [Bool.and_eq_true, decide_eq_true_eq]
  constructor
  · rintro ⟨⟨h1, h2⟩, h3⟩; exact Flt.ext' h1 h2 h3
  · rintro rfl; exact ⟨⟨rfl, rfl⟩, rfl⟩
set_option maxRecDepth 100000 in
set_option maxHeartbeats 4000000 in
theorem rsame36_any (av bv : Value) (a b : Flt) (w : World) (ha : FltR w av a) (hb : FltR w bv b) :
    Calls Tryz.prog 13 #[av, bv] w fun e w' => e = .returned (.bool (sameF a b)) ∧ Below w.heap.size w w' := by
  have hmx : Tryz.prog.follows .mixedOrders = true := by kernel_rfl
  obtain ⟨v1, rfl, hw1⟩ := ha
  obtain ⟨v2, rfl, hw2⟩ := hb
  obtain ⟨a1, cap1, rfl, hl1, hc1, hf1⟩ := hw1.form
  obtain ⟨a2, cap2, rfl, hl2, hc2, hf2⟩ := hw2.form
  have HW1 := Lib.hid hw1
  have HW2 := Lib.hid hw2
  obtain ⟨r, er⟩ : ∃ r, r = sameF a b := ⟨_, rfl⟩
  rw [← er]
  have ER := Lib.hid er
  clear hw1 hw2 er
  obtain ⟨W0, hW0⟩ : ∃ W0, W0 = (w.alloc (.cells #[.int .i64 a.bits, .int .i64 a.hashes, .slice a1 a.words.length cap1] 24)).alloc (.cells #[.int .i64 b.bits, .int .i64 b.hashes, .slice a2 b.words.length cap2] 24) := ⟨_, rfl⟩
  obtain ⟨p, ep⟩ : ∃ p, p = w.heap.size := ⟨_, rfl⟩
  have h0 : Fr [] w W0 := by rw [hW0]; exact ((Fr.refl [] w).alloc _).alloc _
  have hp0 : W0.heap[p]? = some (.cells #[.int .i64 a.bits, .int .i64 a.hashes, .slice a1 a.words.length cap1] 24 (0, 0)) := by rw [hW0, ep]; exact heap_past _ (heap_new rfl)
  have hp1 : W0.heap[p + 1]? = some (.cells #[.int .i64 b.bits, .int .i64 b.hashes, .slice a2 b.words.length cap2] 24 (0, 0)) := by rw [hW0, ep]; exact heap_new (by simp)
  have c0 := row_cell hp0 0
  have c1 := row_cell hp0 1
  have c2 := row_cell hp0 2
  have d0 := row_cell hp1 0
  have d1 := row_cell hp1 1
  have d2 := row_cell hp1 2
  simp at c0 c1 c2 d0 d1 d2
  rw [hW0, ep] at c0 c1 c2 d0 d1 d2
  by_cases hb : a.bits = b.bits
  case neg =>
    have u1 : (a.bits != b.bits) = true := by simpa using hb
    have HR : Hid (r = false) := Lib.hid (by rw [ER.out]; unfold sameF; rw [decide_eq_false hb]; rfl)
    have HF := Lib.hid h0
    rw [hW0] at HF
    clear hb hW0 hp0 hp1 h0 ep
    go_enter Tryz.func13, Tryz.ntmps13
    go_wp2_with fail
    go_ret
    exact ⟨by rw [HR.out]; rfl, HF.out.toBelow (by simp)⟩
  have u1 : (a.bits != b.bits) = false := by simpa using hb
  by_cases hh : a.hashes = b.hashes
  case neg =>
    have u2 : (a.hashes != b.hashes) = true := by simpa using hh
    have HR : Hid (r = false) := Lib.hid (by rw [ER.out]; unfold sameF; rw [decide_eq_false hh, Bool.and_false]; rfl)
    have HF := Lib.hid h0
    rw [hW0] at HF
    clear hb hh hW0 hp0 hp1 h0 ep
    go_enter Tryz.func13, Tryz.ntmps13
    go_wp2_with fail
    go_ret
    exact ⟨by rw [HR.out]; rfl, HF.out.toBelow (by simp)⟩
  have u2 : (a.hashes != b.hashes) = false := by simpa using hh
  have HR : Hid (r = decide (a.words = b.words)) := Lib.hid (by rw [ER.out]; unfold sameF; rw [decide_eq_true hb, decide_eq_true hh]; rfl)
  clear hb hh
  by_cases hn : a.words.length = b.words.length
  case neg =>
    have u3 : ((a.words.length : Int) != (b.words.length : Int)) = true := by rw [bne_iff_ne]; omega
    have HR2 : Hid (r = false) := Lib.hid (by rw [HR.out]; exact decide_eq_false (fun e => hn (by rw [e])))
    have HF := Lib.hid h0
    rw [hW0] at HF
    clear hn hW0 hp0 hp1 h0 ep
    go_enter Tryz.func13, Tryz.ntmps13
    go_wp2_with fail
    go_ret
    exact ⟨by rw [HR2.out]; rfl, HF.out.toBelow (by simp)⟩
  have u3 : ((a.words.length : Int) != (b.words.length : Int)) = false := by rw [hn]; simp
  have HN := Lib.hid hn
  clear hn
  go_enter Tryz.func13, Tryz.ntmps13
  go_wp2_with fail
  rw [← hW0, ← ep]
  rw [← hW0, ← ep] at c0 c1 c2 d0 d1 d2
  clear hW0 ep
  have H0 := Lib.hid h0
  go_loopg [5] a.words.length (fun gh i wr => ∃ k : Nat, k ≤ a.words.length ∧ gh = a.words.length - k ∧ i = .int .i64 (k : Int) ∧ a.words.take k = b.words.take k ∧ Fr [] W0 wr)
  case atStart => exact ⟨0, by omega, by omega, rfl, by simp, Fr.refl _ _⟩
  case round =>
    obtain ⟨k, hk, hgh, rfl, heq, hfr⟩ := hrel
    have HG := Lib.hid hgh
    have HEQ := Lib.hid heq
    clear hgh heq c0 c1 c2 d0 d1 d2 h0
    have c2 := row_cell (hfr.at hp0 (by simp)) 2
    have d2 := row_cell (hfr.at hp1 (by simp)) 2
    simp at c2 d2
    by_cases hlt : k < a.words.length
    · have t1 : decide ((k : Int) < (a.words.length : Int)) = true := by simp; omega
      have hn := HN.out
      obtain ⟨b1, o1, rfl⟩ := hf1 k hlt
      obtain ⟨b2, o2, rfl⟩ := hf2 k (by omega)
      have cx : wr.cell? ⟨b1, o1 + k, none⟩ = some (.int .u64 (a.words.getD k 0 : Nat)) := by
        rcases HW1.out with ⟨h0, _⟩ | ⟨b', off', cap', h0, _, _, _, h4⟩
        · cases h0
        · cases h0; exact (H0.out.trans hfr (by simp)).cell (h4 k hlt) (by simp)
      have cy : wr.cell? ⟨b2, o2 + k, none⟩ = some (.int .u64 (b.words.getD k 0 : Nat)) := by
        rcases HW2.out with ⟨h0, _⟩ | ⟨b', off', cap', h0, _, _, _, h4⟩
        · cases h0
        · cases h0; exact (H0.out.trans hfr (by simp)).cell (h4 k (by omega)) (by simp)
      have HNX : Hid (a.words.getD k 0 = b.words.getD k 0 → a.words.take (k + 1) = b.words.take (k + 1)) := Lib.hid (fun e => by
        rw [take_snoc' _ k 0 hlt, take_snoc' _ k 0 (by omega), HEQ.out, e])
      have HNE : Hid (a.words.getD k 0 ≠ b.words.getD k 0 → r = false) := Lib.hid (fun e => by
        rw [HR.out]; exact decide_eq_false (fun e2 => e (by rw [e2])))
      generalize a.words.getD k 0 = X at cx HNX HNE
      generalize b.words.getD k 0 = Y at cy HNX HNE
      have i0 : (0 : Int) ≤ (k : Int) := by omega
      have i1 : (k : Int) < (a.words.length : Int) := by omega
      have i2 : (k : Int) < (b.words.length : Int) := by omega
      clear hn
      by_cases hxy : X = Y
      · have u4 : ((X : Int) != (Y : Int)) = false := by rw [hxy]; simp
        have HTK := Lib.hid (HNX.out hxy)
        clear hxy
        go_wp2_with fail
        go_quiet (fail)
        go_wp2_with fail
        go_roundg (a.words.length - (k + 1))
        case measure => have := HG.out; omega
        case rel => exact ⟨k + 1, by omega, rfl, by go_num, HTK.out, hfr.drewN _⟩
      · have u4 : ((X : Int) != (Y : Int)) = true := by rw [bne_iff_ne]; omega
        have HRF := Lib.hid (HNE.out hxy)
        clear hxy
        go_wp2_with fail
        go_quiet (fail)
        go_wp2_with fail
        go_ret
        exact ⟨by rw [HRF.out]; rfl, ((H0.out.trans hfr (by simp)).drewN _).toBelow (by simp)⟩
    · obtain rfl : k = a.words.length := by omega
      have t1 : decide ((a.words.length : Int) < (a.words.length : Int)) = false := by simp
      have HRT : Hid (r = true) := Lib.hid (by
        rw [HR.out]
        have := HEQ.out
        rw [List.take_length, List.take_of_length_le (by rw [HN.out]; exact Nat.le_refl _)] at this
        exact decide_eq_true this)
      go_wp2_with fail
      go_ret
      exact ⟨by rw [HRT.out]; rfl, (H0.out.trans hfr (by simp)).toBelow (by simp)⟩
end Go.Proofs.YtnmakpiddfhhnaaGreatDoor
