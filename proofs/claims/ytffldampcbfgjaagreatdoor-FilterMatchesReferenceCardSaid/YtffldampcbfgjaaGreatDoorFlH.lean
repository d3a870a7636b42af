/-
  filter.Join.
-/
import Derived.Test.YtffldampcbfgjaaGreatDoorFlG
import Derived.Test.YtffldampcbfgjaaGreatDoorSt3
import Derived.Test.YtffldampcbfgjaaGreatDoorRound
import Derived.Deep.RegionWith
namespace Go.Proofs.YtffldampcbfgjaaGreatDoor
open Go.RowKit

/-- Have both filters the same form? -/
def okJ (a b : Flt) : Bool := validF a && validF b && decide (a.bits = b.bits) && decide (a.hashes = b.hashes)
/-- What Join returns. -/
def JoinPost (w : World) (a b : Flt) (e : Ending) (w' : World) : Prop :=
  (okJ a b = true → ∃ wv, e = .returned (.tuple #[.agg #[.int .i64 a.bits, .int .i64 a.hashes, wv], .int .i64 0]) ∧ OwnW w.heap.size w' wv (joinW a.words b.words)) ∧ (okJ a b = false → e = .returned (.tuple #[zeroF, .int .i64 1])) ∧ Below w.heap.size w w'

set_option maxRecDepth 100000 in
set_option maxHeartbeats 4000000 in
theorem join_any (av bv : Value) (a b : Flt) (w : World) (ha : FltR w av a) (hb : FltR w bv b) (wa : W64 a.words) (wb : W64 b.words) :
    Calls Tryz.prog 15 #[av, bv] w (JoinPost w a b) := by
  obtain ⟨v1, rfl, hw1⟩ := ha
  obtain ⟨v2, rfl, hw2⟩ := hb
  obtain ⟨a1, cap1, rfl, hl1, hc1, hf1⟩ := hw1.form
  obtain ⟨a2, cap2, rfl, hl2, hc2, hf2⟩ := hw2.form
  have HW1 := Lib.hid hw1
  have HW2 := Lib.hid hw2
  clear hw1 hw2
  obtain ⟨W0, hW0⟩ : ∃ W0, W0 = ((w.alloc (.cells #[.int .i64 a.bits, .int .i64 a.hashes, .slice a1 a.words.length cap1] 25)).alloc (.cells #[.int .i64 b.bits, .int .i64 b.hashes, .slice a2 b.words.length cap2] 25)).alloc (.cells #[.int .i64 0, .int .i64 0, .slice none 0 0] 25) := ⟨_, rfl⟩
  obtain ⟨p, ep⟩ : ∃ p, p = w.heap.size := ⟨_, rfl⟩
  have h0 : Fr [] w W0 := by rw [hW0]; exact (((Fr.refl [] w).alloc _).alloc _).alloc _
  have hp0 : W0.heap[p]? = some (.cells #[.int .i64 a.bits, .int .i64 a.hashes, .slice a1 a.words.length cap1] 25 (0, 0)) := by rw [hW0, ep]; exact heap_past _ (heap_past _ (heap_new rfl))
  have hp1 : W0.heap[p + 1]? = some (.cells #[.int .i64 b.bits, .int .i64 b.hashes, .slice a2 b.words.length cap2] 25 (0, 0)) := by rw [hW0, ep]; exact heap_past _ (heap_new (by simp))
  have hp2 : W0.heap[p + 1 + 1]? = some (.cells #[.int .i64 0, .int .i64 0, .slice none 0 0] 25 (0, 0)) := by rw [hW0, ep]; exact heap_new (by simp)
  have c0 := row_cell hp0 0
  have c1 := row_cell hp0 1
  have c2 := row_cell hp0 2
  simp at c0 c1 c2
  rw [hW0, ep] at c0 c1 c2
  go_enter Tryz.func15, Tryz.ntmps15
  go_wp2_with fail
  rw [← hW0, ← ep]
  clear c0 c1 c2
  refine (valid_any _ a W0 ⟨_, rfl, HW1.out.fr0 h0⟩).mono ?_
  rintro e w1 ⟨rfl, hb1⟩
  have h1 : Fr [] w w1 := h0.below hb1 h0.size
  have hq0 := (Fr.ofBelow (X := []) hb1).at hp0 (by simp)
  have hq1 := (Fr.ofBelow (X := []) hb1).at hp1 (by simp)
  have hq2 := (Fr.ofBelow (X := []) hb1).at hp2 (by simp)
  have EP := Lib.hid ep
  clear hb1 hp0 hp1 hp2 hW0 h0 ep
  have c0 := row_cell hq0 0
  have c1 := row_cell hq0 1
  have c2 := row_cell hq0 2
  simp at c0 c1 c2
  have d0 := row_cell hq1 0
  have d1 := row_cell hq1 1
  have d2 := row_cell hq1 2
  simp at d0 d1 d2
  have k0 := row_cell hq2 0
  have k1 := row_cell hq2 1
  have k2 := row_cell hq2 2
  simp at k0 k1 k2
  have f0 := row_free hq2 0
  have f1 := row_free hq2 1
  have f2 := row_free hq2 2
  have hX : Fr [] w (((w1.setCell ⟨p + 1 + 1, 0, none⟩ (.int .i64 0)).setCell ⟨p + 1 + 1, 1, none⟩ (.int .i64 0)).setCell ⟨p + 1 + 1, 2, none⟩ (.slice none 0 0)) := ((h1.setCell _ _ (by right; have := EP.out; simp; omega)).setCell _ _ (by right; have := EP.out; simp; omega)).setCell _ _ (by right; have := EP.out; simp; omega)
  have HX := Lib.hid (hX.toBelow (by simp))
  have hrX := row_set (row_set (row_set hq2 0 (.int .i64 0)) 1 (.int .i64 0)) 2 (.slice none 0 0)
  have HRX := Lib.hid hrX
  clear hX hrX
  obtain ⟨va, eva⟩ : ∃ va, va = validF a := ⟨_, rfl⟩
  rw [← eva]
  have HVA := Lib.hid eva
  clear eva
  cases va with
  | false =>
    have HO : Hid (okJ a b = false) := Lib.hid (by unfold okJ; rw [← HVA.out]; rfl)
    go_wp2_with fail
    have x0 := row_cell HRX.out 0
    have x1 := row_cell HRX.out 1
    have x2 := row_cell HRX.out 2
    simp at x0 x1 x2
    refine bodyPost_ret (v := .tuple #[zeroF, .int .i64 1]) ?_ rfl ⟨fun h => absurd (HO.out.symm.trans h) (by decide), fun _ => rfl, HX.out⟩
    unfold zeroF
    rw [results_cell_tmp rfl]
    go_simp
  | true =>
    go_wp2_with fail
    refine (valid_any _ b w1 ⟨_, rfl, HW2.out.fr0 h1⟩).mono ?_
    rintro e w2 ⟨rfl, hb2⟩
    have h1 : Fr [] w w2 := h1.below hb2 h1.size
    have hq0 := (Fr.ofBelow (X := []) hb2).at hq0 (by simp)
    have hq1 := (Fr.ofBelow (X := []) hb2).at hq1 (by simp)
    have hq2 := (Fr.ofBelow (X := []) hb2).at hq2 (by simp)
    clear hb2 c0 c1 c2 d0 d1 d2 k0 k1 k2 f0 f1 f2 HX HRX
    have c0 := row_cell hq0 0
    have c1 := row_cell hq0 1
    have c2 := row_cell hq0 2
    simp at c0 c1 c2
    have d0 := row_cell hq1 0
    have d1 := row_cell hq1 1
    have d2 := row_cell hq1 2
    simp at d0 d1 d2
    have k0 := row_cell hq2 0
    have k1 := row_cell hq2 1
    have k2 := row_cell hq2 2
    simp at k0 k1 k2
    have f0 := row_free hq2 0
    have f1 := row_free hq2 1
    have f2 := row_free hq2 2
    have hX : Fr [] w (((w2.setCell ⟨p + 1 + 1, 0, none⟩ (.int .i64 0)).setCell ⟨p + 1 + 1, 1, none⟩ (.int .i64 0)).setCell ⟨p + 1 + 1, 2, none⟩ (.slice none 0 0)) := ((h1.setCell _ _ (by right; have := EP.out; simp; omega)).setCell _ _ (by right; have := EP.out; simp; omega)).setCell _ _ (by right; have := EP.out; simp; omega)
    have HX := Lib.hid (hX.toBelow (by simp))
    have hrX := row_set (row_set (row_set hq2 0 (.int .i64 0)) 1 (.int .i64 0)) 2 (.slice none 0 0)
    have HRX := Lib.hid hrX
    clear hX hrX
    obtain ⟨vb, evb⟩ : ∃ vb, vb = validF b := ⟨_, rfl⟩
    rw [← evb]
    have HVB := Lib.hid evb
    clear evb
    cases vb with
    | false =>
      have HO : Hid (okJ a b = false) := Lib.hid (by unfold okJ; rw [← HVA.out, ← HVB.out]; rfl)
      go_wp2_with fail
      have x0 := row_cell HRX.out 0
      have x1 := row_cell HRX.out 1
      have x2 := row_cell HRX.out 2
      simp at x0 x1 x2
      refine bodyPost_ret (v := .tuple #[zeroF, .int .i64 1]) ?_ rfl ⟨fun h => absurd (HO.out.symm.trans h) (by decide), fun _ => rfl, HX.out⟩
      unfold zeroF
      rw [results_cell_tmp rfl]
      go_simp
    | true =>
      by_cases hbits : a.bits = b.bits
      case neg =>
        have u1 : (a.bits != b.bits) = true := by simpa using hbits
        have HO : Hid (okJ a b = false) := Lib.hid (by unfold okJ; rw [← HVA.out, ← HVB.out, decide_eq_false hbits]; rfl)
        go_wp2_with fail
        have x0 := row_cell HRX.out 0
        have x1 := row_cell HRX.out 1
        have x2 := row_cell HRX.out 2
        simp at x0 x1 x2
        refine bodyPost_ret (v := .tuple #[zeroF, .int .i64 1]) ?_ rfl ⟨fun h => absurd (HO.out.symm.trans h) (by decide), fun _ => rfl, HX.out⟩
        unfold zeroF
        rw [results_cell_tmp rfl]
        go_simp
      have u1 : (a.bits != b.bits) = false := by simpa using hbits
      have HB1 := Lib.hid hbits
      clear hbits
      by_cases hhash : a.hashes = b.hashes
      case neg =>
        have u2 : (a.hashes != b.hashes) = true := by simpa using hhash
        have HO : Hid (okJ a b = false) := Lib.hid (by unfold okJ; rw [← HVA.out, ← HVB.out, decide_eq_true HB1.out, decide_eq_false hhash]; rfl)
        go_wp2_with fail
        have x0 := row_cell HRX.out 0
        have x1 := row_cell HRX.out 1
        have x2 := row_cell HRX.out 2
        simp at x0 x1 x2
        refine bodyPost_ret (v := .tuple #[zeroF, .int .i64 1]) ?_ rfl ⟨fun h => absurd (HO.out.symm.trans h) (by decide), fun _ => rfl, HX.out⟩
        unfold zeroF
        rw [results_cell_tmp rfl]
        go_simp
      have u2 : (a.hashes != b.hashes) = false := by simpa using hhash
      have HO : Hid (okJ a b = true) := Lib.hid (by unfold okJ; rw [← HVA.out, ← HVB.out, decide_eq_true HB1.out, decide_eq_true hhash]; rfl)
      clear hhash HX HRX
      go_wp2_with fail
      have hva := validF_parts HVA.out.symm
      have hvb := validF_parts HVB.out.symm
      have hpa := formF_parts hva.1
      have hla := hva.2
      have hlb := hvb.2
      rw [← HB1.out] at hlb
      have hn1 : 1 ≤ a.words.length := by omega
      have hnn : a.words.length ≤ 100000 := by omega
      have hlab : b.words.length = a.words.length := by omega
      have HLAB := Lib.hid hlab
      clear hva hvb hla hlb hlab
      have HP := Lib.hid hpa
      clear hpa
      have hwn : w.heap.size ≤ w2.heap.size := h1.size
      refine Code.wp_mono (Q := OnlyNormal fun _ a' w' => ∃ (fb g cap : Nat), a' = { tmps := #[.agg #[.int .i64 a.bits, .int .i64 a.hashes, .slice a1 a.words.length cap1], .agg #[.int .i64 b.bits, .int .i64 b.hashes, .slice a2 b.words.length cap2], .pointer (some ⟨p, 0, none⟩), .pointer (some ⟨p + 1, 0, none⟩), .pointer (some ⟨p + 1 + 1, 0, none⟩), .int .i64 0, .pointer (some ⟨fb, 0, none⟩), undef, undef, .agg #[.int .i64 a.bits, .int .i64 a.hashes, .slice a1 a.words.length cap1], .bool true, .bool false, .bool false, .agg #[.int .i64 b.bits, .int .i64 b.hashes, .slice a2 b.words.length cap2], .bool true, .bool false, .bool false, .bool false, .pointer (some ⟨p, 0, none⟩), .int .i64 a.bits, .pointer (some ⟨p + 1, 0, none⟩), .int .i64 b.bits, .bool false, .bool false, .bool false, .pointer (some ⟨p, 1, none⟩), .int .i64 a.hashes, .pointer (some ⟨p + 1, 1, none⟩), .int .i64 b.hashes, .bool false, .bool false, undef, .pointer (some ⟨p, 0, none⟩), .int .i64 a.bits, .pointer (some ⟨p, 1, none⟩), .int .i64 a.hashes, .pointer (some ⟨p, 2, none⟩), .slice a1 a.words.length cap1, .slice (some ⟨g, 0, none⟩) a.words.length cap, .agg #[.int .i64 a.bits, .int .i64 a.hashes, .slice (some ⟨g, 0, none⟩) a.words.length cap], undef, undef, undef, undef, undef, undef, undef, undef, undef, undef, undef, undef, undef, undef, undef, undef, undef, undef], defers := [] } ∧ w'.heap[fb]? = some (.cells #[.int .i64 a.bits, .int .i64 a.hashes, .slice (some ⟨g, 0, none⟩) a.words.length cap] 25 (0, 0)) ∧ OwnW w2.heap.size w' (.slice (some ⟨g, 0, none⟩) a.words.length cap) a.words ∧ Fr [] w2 w' ∧ w2.heap.size ≤ fb ∧ fb ≠ g) ?rest ?region
      case region =>
        have hmx : Tryz.prog.follows .mixedOrders = true := by kernel_rfl
        have hS0 : w2.drew.cell? ⟨p, 0, none⟩ = some (.int .i64 a.bits) ∧ w2.drew.cell? ⟨p, 1, none⟩ = some (.int .i64 a.hashes) ∧ w2.drew.cell? ⟨p, 2, none⟩ = some (.slice a1 a.words.length cap1) := ⟨c0, c1, c2⟩
        have hD : Fr [] w2 w2.drew := (Fr.refl [] w2).drew
        refine region_held 9 (fun W' => W'.cell? ⟨p, 0, none⟩ = some (.int .i64 a.bits) ∧ W'.cell? ⟨p, 1, none⟩ = some (.int .i64 a.hashes) ∧ W'.cell? ⟨p, 2, none⟩ = some (.slice a1 a.words.length cap1)) hmx ?_
        change Held _ _ _ _ _ _ 10 (Array.replicate 10 false) _ _
        have hwd : w2.drew.heap.size = w2.heap.size := rfl
        generalize w2.drew = wd at hS0 hD hwd ⊢
        have HWD := Lib.hid hwd
        clear hwd
        refine hd_take 0 (v := .pointer (some ⟨p, 0, none⟩)) rfl (by kernel_rfl) (by kernel_rfl) (by kernel_rfl) rfl hS0 (fun W' hS => by go_simp) rfl ?_
        refine hd_take 2 (v := .pointer (some ⟨p, 1, none⟩)) rfl (by kernel_rfl) (by kernel_rfl) (by kernel_rfl) rfl hS0 (fun W' hS => by go_simp) rfl ?_
        refine hd_take 4 (v := .pointer (some ⟨p, 2, none⟩)) rfl (by kernel_rfl) (by kernel_rfl) (by kernel_rfl) rfl hS0 (fun W' hS => by go_simp) rfl ?_
        simp only [Act.put, List.setIfInBounds_toArray, List.set_cons_zero, List.set_cons_succ]
        refine hd_take 1 (v := .int .i64 a.bits) rfl (by kernel_rfl) (by kernel_rfl) (by kernel_rfl) rfl hS0 (fun W' hS => by obtain ⟨s0, s1, s2⟩ := hS; go_simp) rfl ?_
        refine hd_take 3 (v := .int .i64 a.hashes) rfl (by kernel_rfl) (by kernel_rfl) (by kernel_rfl) rfl hS0 (fun W' hS => by obtain ⟨s0, s1, s2⟩ := hS; go_simp) rfl ?_
        refine hd_take 5 (v := .slice a1 a.words.length cap1) rfl (by kernel_rfl) (by kernel_rfl) (by kernel_rfl) rfl hS0 (fun W' hS => by obtain ⟨s0, s1, s2⟩ := hS; go_simp) rfl ?_
        simp only [Act.put, List.setIfInBounds_toArray, List.set_cons_zero, List.set_cons_succ]
        refine hd_two 6 8 (by kernel_rfl) rfl (by kernel_rfl) rfl rfl (by kernel_rfl) rfl (fun K' hK => ?_) (fun K' hK => ?_)
        · go_simp
          refine (cloneW_any _ a.words _ (HW1.out.fr0 (h1.trans hD (by simp))) hnn).mono ?_
          rintro e w5 ⟨cv, rfl, ho5, hb5⟩
          obtain ⟨g, cap, rfl⟩ : ∃ g cap, cv = .slice (some ⟨g, 0, none⟩) a.words.length cap := by
            rcases ho5.form with ⟨_, h0⟩ | ⟨g, cap, _, h0, _⟩
            · rw [h0] at hn1; simp at hn1
            · exact ⟨g, cap, h0⟩
          have hf5 : Fr [] w2 w5 := hD.below hb5 (by rw [HWD.out]; exact Nat.le_refl _)
          have hS5 := hf5
          refine hK.out _ _ (fun _ => ⟨hf5.cell c0 (by simp), hf5.cell c1 (by simp), hf5.cell c2 (by simp)⟩) ?_
          clear hK K'
          try simp only [Act.put, List.setIfInBounds_toArray, List.set_cons_zero, List.set_cons_succ]
          refine hd_take 7 (v := .agg #[.int .i64 a.bits, .int .i64 a.hashes, .slice (some ⟨g, 0, none⟩) a.words.length cap]) rfl (by kernel_rfl) (by kernel_rfl) (by kernel_rfl) rfl ⟨hf5.cell c0 (by simp), hf5.cell c1 (by simp), hf5.cell c2 (by simp)⟩ (fun W' hS => by go_simp) rfl ?_
          simp only [Act.put, List.setIfInBounds_toArray, List.set_cons_zero, List.set_cons_succ]
          refine hd_one 8 (by kernel_rfl) rfl (by kernel_rfl) rfl (fun K' hK => ?_)
          go_simp
          have hf6 := hf5.alloc (.cells #[.int .i64 0, .int .i64 0, .slice none 0 0] 25)
          refine hK.out _ _ (fun _ => ⟨hf6.cell c0 (by simp), hf6.cell c1 (by simp), hf6.cell c2 (by simp)⟩) ?_
          clear hK K'
          try simp only [Act.put, List.setIfInBounds_toArray, List.set_cons_zero, List.set_cons_succ]
          have hz : (w5.alloc (.cells #[.int .i64 0, .int .i64 0, .slice none 0 0] 25)).heap[w5.heap.size]? = some (.cells #[.int .i64 0, .int .i64 0, .slice none 0 0] 25 (0, 0)) := heap_new rfl
          have ho6 := ho5.fr ((Fr.refl [] w5).alloc (.cells #[.int .i64 0, .int .i64 0, .slice none 0 0] 25)) (by simp)
          have hgl := ho5.lt
          have hfl : w2.heap.size ≤ w5.heap.size := hf5.size
          have hfg : w5.heap.size ≠ g := by omega
          generalize w5.alloc (.cells #[.int .i64 0, .int .i64 0, .slice none 0 0] 25) = w6 at hz hf6 ho6 ⊢
          have z0 := row_cell hz 0
          have z1 := row_cell hz 1
          have z2 := row_cell hz 2
          simp at z0 z1 z2
          have y0 := row_free hz 0
          have y1 := row_free hz 1
          have y2 := row_free hz 2
          have hzs := row_set (row_set (row_set hz 0 (.int .i64 a.bits)) 1 (.int .i64 a.hashes)) 2 (.slice (some ⟨g, 0, none⟩) a.words.length cap)
          refine hd_one 9 (by kernel_rfl) rfl (by kernel_rfl) rfl (fun K' hK => ?_)
          go_simp
          refine hK.out _ _ (fun h => absurd rfl h) ?_
          clear hK K'
          refine held_done (by kernel_rfl) ?_
          refine ⟨w5.heap.size, g, cap, rfl, hzs, ?_, ?_, hfl, hfg⟩
          · rw [← HWD.out]
            exact ho6.fr ((Fr.refl [w5.heap.size] w6).store3 w5.heap.size (by simp) _ _ _) (fun k hk hm => by
              have e1 : g = k := by simpa [Value.ownBlock] using hk
              have e2 := List.mem_singleton.1 hm
              omega)
          · exact hf6.store3 _ (Or.inr hfl) _ _ _
        · go_simp
          have hf4 := hD.alloc (.cells #[.int .i64 0, .int .i64 0, .slice none 0 0] 25)
          refine hK.out _ _ (fun _ => ⟨hf4.cell c0 (by simp), hf4.cell c1 (by simp), hf4.cell c2 (by simp)⟩) ?_
          clear hK K'
          try simp only [Act.put, List.setIfInBounds_toArray, List.set_cons_zero, List.set_cons_succ]
          have hz4 : (wd.alloc (.cells #[.int .i64 0, .int .i64 0, .slice none 0 0] 25)).heap[wd.heap.size]? = some (.cells #[.int .i64 0, .int .i64 0, .slice none 0 0] 25 (0, 0)) := heap_new rfl
          have hsz4 : (wd.alloc (.cells #[.int .i64 0, .int .i64 0, .slice none 0 0] 25)).heap.size = wd.heap.size + 1 := by simp
          generalize wd.alloc (.cells #[.int .i64 0, .int .i64 0, .slice none 0 0] 25) = w4 at hz4 hf4 hsz4 ⊢
          refine hd_one 6 (by kernel_rfl) rfl (by kernel_rfl) rfl (fun K' hK => ?_)
          go_simp
          refine (cloneW_any _ a.words _ (HW1.out.fr0 (h1.trans hf4 (by simp))) hnn).mono ?_
          rintro e w6 ⟨cv, rfl, ho5, hb5⟩
          obtain ⟨g, cap, rfl⟩ : ∃ g cap, cv = .slice (some ⟨g, 0, none⟩) a.words.length cap := by
            rcases ho5.form with ⟨_, h0⟩ | ⟨g, cap, _, h0, _⟩
            · rw [h0] at hn1; simp at hn1
            · exact ⟨g, cap, h0⟩
          have hf6 : Fr [] w2 w6 := hf4.below hb5 hf4.size
          have hz := (Fr.ofBelow (X := []) hb5).at hz4 (by simp)
          have hfl : w2.heap.size ≤ wd.heap.size := by rw [HWD.out]; exact Nat.le_refl _
          have hgl := ho5.lt
          have hfg : wd.heap.size ≠ g := by omega
          have ho6 : OwnW w2.heap.size w6 (.slice (some ⟨g, 0, none⟩) a.words.length cap) a.words := by
            rcases ho5.form with ⟨h0, _⟩ | ⟨g', cap', cur, h0, hb, hgg, h3, h4, h5, h6⟩
            · cases h0
            · exact ⟨ho5.1, Or.inr ⟨g', cap', cur, h0, by have := hf4.size; omega, hgg, h3, h4, by simpa using h5, by simpa using h6⟩⟩
          refine hK.out _ _ (fun _ => ⟨hf6.cell c0 (by simp), hf6.cell c1 (by simp), hf6.cell c2 (by simp)⟩) ?_
          clear hK K'
          try simp only [Act.put, List.setIfInBounds_toArray, List.set_cons_zero, List.set_cons_succ]
          refine hd_one 7 (by kernel_rfl) rfl (by kernel_rfl) rfl (fun K' hK => ?_)
          go_simp
          refine hK.out _ _ (fun _ => ⟨hf6.cell c0 (by simp), hf6.cell c1 (by simp), hf6.cell c2 (by simp)⟩) ?_
          clear hK K'
          try simp only [Act.put, List.setIfInBounds_toArray, List.set_cons_zero, List.set_cons_succ]
          have z0 := row_cell hz 0
          have z1 := row_cell hz 1
          have z2 := row_cell hz 2
          simp at z0 z1 z2
          have y0 := row_free hz 0
          have y1 := row_free hz 1
          have y2 := row_free hz 2
          have hzs := row_set (row_set (row_set hz 0 (.int .i64 a.bits)) 1 (.int .i64 a.hashes)) 2 (.slice (some ⟨g, 0, none⟩) a.words.length cap)
          refine hd_one 9 (by kernel_rfl) rfl (by kernel_rfl) rfl (fun K' hK => ?_)
          go_simp
          refine hK.out _ _ (fun h => absurd rfl h) ?_
          clear hK K'
          refine held_done (by kernel_rfl) ?_
          refine ⟨wd.heap.size, g, cap, rfl, hzs, ?_, ?_, hfl, hfg⟩
          · exact ho6.fr ((Fr.refl [wd.heap.size] w6).store3 wd.heap.size (by simp) _ _ _) (fun k hk hm => by
              have e1 : g = k := by simpa [Value.ownBlock] using hk
              have e2 := List.mem_singleton.1 hm
              omega)
          · exact hf6.store3 _ (Or.inr hfl) _ _ _
      case rest =>
        intro e a' w3 hq
        cases e with
        | normal => ?_
        | _ => exact hq.elim
        obtain ⟨fb, g, cap, rfl, hfb, hog, hf3, hfs, hfg⟩ := hq
        have HQ2 := Lib.hid hq2
        have hr1 := hf3.at hq1 (by simp)
        clear c0 c1 c2 d0 d1 d2 k0 k1 k2 f0 f1 f2 hq0 hq1 hq2 u1 u2
        have d2 := row_cell hr1 2
        simp at d2
        have hcap : a.words.length ≤ cap ∧ cap ≤ maxLen := by
          obtain ⟨cur, _, _, h3, h4, _⟩ := hog.formN rfl
          exact ⟨h3, h4⟩
        have HOG := Lib.hid hog
        have HFB := Lib.hid hfb
        clear hog hfb
        go_wp2_with fail
        go_loopg [43] (b.words.length) (fun gh i wr => ∃ k : Nat, k ≤ b.words.length ∧ gh = b.words.length - k ∧ i = .int .i64 (k : Int) ∧ wr.heap[fb]? = some (.cells #[.int .i64 a.bits, .int .i64 a.hashes, .slice (some ⟨g, 0, none⟩) a.words.length cap] 25 (0, 0)) ∧ OwnW w2.heap.size wr (.slice (some ⟨g, 0, none⟩) a.words.length cap) ((joinW a.words b.words).take k ++ a.words.drop k) ∧ Fr [] w2 wr)
        case atStart => exact ⟨0, by omega, by omega, rfl, HFB.out, by simpa using HOG.out, hf3⟩
        case round =>
          obtain ⟨k, hk, hgh, rfl, hfb, hog, hfr⟩ := hrel
          have HGH := Lib.hid hgh
          clear hgh
          have g2 := row_cell hfb 2
          simp at g2
          by_cases hlt : k < b.words.length
          · have t1 : decide ((k : Int) < (b.words.length : Int)) = true := by simp; omega
            obtain ⟨bb, boff, rfl⟩ := hf2 k hlt
            have cb : wr.cell? ⟨bb, boff + k, none⟩ = some (.int .u64 (b.words.getD k 0 : Nat)) := by
              rcases HW2.out with ⟨h0, _⟩ | ⟨b', off', cap', h0, _, _, _, h4⟩
              · exact absurd (congrArg List.length h0) (by simp only [List.length_nil]; omega)
              · cases h0; exact (h1.trans hfr (by simp)).cell (h4 k hlt) (by simp)
            have HLAB' := HLAB.out
            have hka : k < a.words.length := by omega
            have hll : ((joinW a.words b.words).take k ++ a.words.drop k).length = a.words.length := by
              rw [List.length_append, List.length_take, List.length_drop, joinW_len _ _ (by omega)]; omega
            obtain ⟨cur, o1, o2, o3, o4, o5, o6⟩ := hog.formN hll
            have HAK : Hid (((joinW a.words b.words).take k ++ a.words.drop k).getD k 0 = a.words.getD k 0) := Lib.hid (by
              rw [List.getD_eq_getElem?_getD, List.getElem?_append_right (by rw [List.length_take]; omega), List.length_take, joinW_len _ _ (by omega), Nat.min_eq_left (by omega), Nat.sub_self, List.getElem?_drop, Nat.add_zero, ← List.getD_eq_getElem?_getD])
            have ca := row_cell o2 k
            have cw := wrdV_at o6 hll k hka
            rw [HAK.out] at cw
            rw [cw] at ca
            have cf := row_free o2 k
            have HST : Hid (((joinW a.words b.words).take k ++ a.words.drop k).set k (a.words.getD k 0 ||| b.words.getD k 0) = (joinW a.words b.words).take (k + 1) ++ a.words.drop (k + 1)) := Lib.hid (by
              have hjl := joinW_len a.words b.words (by omega)
              rw [take_snoc' _ k 0 (by omega), joinW_at (by omega), List.set_append_right _ _ (by rw [List.length_take]; omega), List.length_take, hjl, Nat.min_eq_left (by omega), Nat.sub_self, List.append_assoc]
              congr 1
              rw [List.drop_eq_getElem_cons hka]
              rfl)
            have hxa := wa.at k
            have hxb := wb.at k
            have hor := u64_or_nat _ _ hxa hxb
            have HSET := Lib.hid (ownW_set o1 o2 hll o3 o4 o5 o6 (a.words.getD k 0 ||| b.words.getD k 0) (i := k))
            generalize a.words.getD k 0 = xa at ca hor HST HSET
            generalize b.words.getD k 0 = xb at cb hor HST HSET
            have hofb : g ≠ fb := fun e => hfg e.symm
            have HFB2 := Lib.hid (((Fr.refl [g] wr).setCell ⟨g, k, none⟩ (.int .u64 ((xa ||| xb : Nat) : Int)) (by simp)).at hfb (by simp; exact hfg))
            have HFR2 := Lib.hid (hfr.setCell ⟨g, k, none⟩ (.int .u64 ((xa ||| xb : Nat) : Int)) (by right; exact o1))
            have i0 : (0 : Int) ≤ (k : Int) := by omega
            have i1 : (k : Int) < (b.words.length : Int) := by omega
            have i2 : (k : Int) < (a.words.length : Int) := by omega
            clear hog hfb hfr o1 o2 o3 o4 o5 o6 cw hll hxa hxb HLAB' HAK
            go_wp2_with fail
            go_roundg (b.words.length - (k + 1))
            case measure => have := HGH.out; omega
            case rel => exact ⟨k + 1, by omega, rfl, by go_num, HFB2.out, by rw [← HST.out]; exact HSET.out, HFR2.out⟩
          · obtain rfl : k = b.words.length := by omega
            have t1 : decide ((b.words.length : Int) < (b.words.length : Int)) = false := by simp
            have g0 := row_cell hfb 0
            have g1 := row_cell hfb 1
            simp at g0 g1
            have hq2 := hfr.at (show w2.heap[p + 1 + 1]? = _ from HQ2.out) (by simp)
            have k0 := row_cell hq2 0
            have k1 := row_cell hq2 1
            have k2 := row_cell hq2 2
            simp at k0 k1 k2
            have f0 := row_free hq2 0
            have f1 := row_free hq2 1
            have f2 := row_free hq2 2
            have HRX := Lib.hid (row_set (row_set (row_set hq2 0 (.int .i64 a.bits)) 1 (.int .i64 a.hashes)) 2 (.slice (some ⟨g, 0, none⟩) a.words.length cap))
            have HOX : Hid (OwnW w.heap.size (((wr.setCell ⟨p + 1 + 1, 0, none⟩ (.int .i64 a.bits)).setCell ⟨p + 1 + 1, 1, none⟩ (.int .i64 a.hashes)).setCell ⟨p + 1 + 1, 2, none⟩ (.slice (some ⟨g, 0, none⟩) a.words.length cap)) (.slice (some ⟨g, 0, none⟩) a.words.length cap) (joinW a.words b.words)) := Lib.hid (by
              have hl0 : (joinW a.words b.words).take b.words.length ++ a.words.drop b.words.length = joinW a.words b.words := by
                have := HLAB.out
                rw [List.drop_eq_nil_of_le (by omega), List.append_nil, List.take_of_length_le (by rw [joinW_len _ _ (by omega)]; omega)]
              rw [hl0] at hog
              have hgl := hog.lt
              have h2 := hog.fr ((Fr.refl [p + 1 + 1] wr).store3 (p + 1 + 1) (by simp) (.int .i64 a.bits) (.int .i64 a.hashes) (.slice (some ⟨g, 0, none⟩) a.words.length cap)) (fun k hk hm => by
                have e1 : g = k := by simpa [Value.ownBlock] using hk
                have e2 := List.mem_singleton.1 hm
                have := lt_of_block HQ2.out
                omega)
              rcases h2.form with ⟨h0, _⟩ | ⟨g', cap', cur, h0, hb, hgg, h3, h4, h5, h6⟩
              · cases h0
              · exact ⟨h2.1, Or.inr ⟨g', cap', cur, h0, by omega, hgg, h3, h4, by simpa using h5, by simpa using h6⟩⟩)
            have HFX := Lib.hid ((h1.trans hfr (by simp)).store3 (p + 1 + 1) (by right; have := EP.out; omega) (.int .i64 a.bits) (.int .i64 a.hashes) (.slice (some ⟨g, 0, none⟩) a.words.length cap))
            clear hog hfb hfr hq2
            go_wp2_with fail
            have x0 := row_cell HRX.out 0
            have x1 := row_cell HRX.out 1
            have x2 := row_cell HRX.out 2
            simp at x0 x1 x2
            refine bodyPost_ret (v := .tuple #[.agg #[.int .i64 a.bits, .int .i64 a.hashes, .slice (some ⟨g, 0, none⟩) a.words.length cap], .int .i64 0]) ?_ rfl ⟨fun _ => ⟨_, rfl, HOX.out⟩, fun h => absurd (HO.out.symm.trans h) (by decide), HFX.out.toBelow (by simp)⟩
            rw [results_cell_tmp rfl]
            go_simp
end Go.Proofs.YtffldampcbfgjaaGreatDoor
