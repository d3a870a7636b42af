/-
  foyerlaw36.FilterJoins.
-/
import Derived.Test.YtnmakpiddfhhnaaGreatDoorPlnFj
namespace Go.Proofs.YtnmakpiddfhhnaaGreatDoor
open Go.RowKit

set_option maxRecDepth 100000 in
set_option maxHeartbeats 16000000 in
theorem filterJoins_walk (va vb vc : Value) (a b c : Flt) (serial : Int) (w : World) (hs : -9223372036854775808 ≤ serial ∧ serial ≤ 9223372036854775807) (hT : TabsF w) (ha : FltR w va a) (hb : FltR w vb b) (hc : FltR w vc c) (wa : W64 a.words) (wb : W64 b.words) (wc : W64 c.words) :
    Calls Tryz.prog 7 #[va, vb, vc, .int .i64 serial] w fun e w' => e = .returned (.bool true) ∧ Below w.heap.size w w' := by
  obtain ⟨v1, rfl, hw1⟩ := ha
  obtain ⟨v2, rfl, hw2⟩ := hb
  obtain ⟨v3, rfl, hw3⟩ := hc
  obtain ⟨a1, cap1, rfl, _, _, _⟩ := hw1.form
  obtain ⟨a2, cap2, rfl, _, _, _⟩ := hw2.form
  obtain ⟨a3, cap3, rfl, _, _, _⟩ := hw3.form
  have HA := Lib.hid hw1
  have HB := Lib.hid hw2
  have HC := Lib.hid hw3
  have HT := Lib.hid hT
  clear hw1 hw2 hw3 hT
  obtain ⟨W0, hW0⟩ : ∃ W0, W0 = ((w.alloc (.cells #[.int .i64 a.bits, .int .i64 a.hashes, .slice a1 a.words.length cap1] 24)).alloc (.cells #[.int .i64 b.bits, .int .i64 b.hashes, .slice a2 b.words.length cap2] 24)).alloc (.cells #[.int .i64 c.bits, .int .i64 c.hashes, .slice a3 c.words.length cap3] 24) := ⟨_, rfl⟩
  obtain ⟨p, ep⟩ : ∃ p, p = w.heap.size := ⟨_, rfl⟩
  have hw0 : Fr [] w W0 := by rw [hW0]; exact (((Fr.refl [] w).alloc _).alloc _).alloc _
  have qA : W0.heap[p]? = some (.cells #[.int .i64 a.bits, .int .i64 a.hashes, .slice a1 a.words.length cap1] 24 (0, 0)) := by rw [hW0, ep]; exact heap_past _ (heap_past _ (heap_new rfl))
  have qB : W0.heap[p + 1]? = some (.cells #[.int .i64 b.bits, .int .i64 b.hashes, .slice a2 b.words.length cap2] 24 (0, 0)) := by rw [hW0, ep]; exact heap_past _ (heap_new (by simp))
  have qC : W0.heap[p + 1 + 1]? = some (.cells #[.int .i64 c.bits, .int .i64 c.hashes, .slice a3 c.words.length cap3] 24 (0, 0)) := by rw [hW0, ep]; exact heap_new (by simp)
  go_enter Tryz.func7, Tryz.ntmps7
  go_wp2_with fail
  rw [← hW0, ← ep]
  clear hW0 ep
  have hW0 := hw0
  refine (head36_any W0 (HT.out.fr hW0)).mono ?_
  rintro e x1 ⟨rfl, hb⟩
  have gx1 : Fr [] W0 x1 := Fr.ofBelow hb
  have hx1 : Fr [] w x1 := hW0.trans gx1 (by simp)
  have qA := gx1.at qA (by simp)
  have qB := gx1.at qB (by simp)
  have qC := gx1.at qC (by simp)
  clear hb gx1
  have A0 := row_cell qA 0
  have A1 := row_cell qA 1
  have A2 := row_cell qA 2
  simp at A0 A1 A2
  go_wp2_with fail
  refine (small_any (.agg #[.int .i64 a.bits, .int .i64 a.hashes, .slice a1 a.words.length cap1]) (.slice none 0 0) a [] x1 ⟨_, rfl, HA.out.fr0 hx1⟩ (Or.inl ⟨rfl, rfl⟩)).mono ?_
  rintro e x2 ⟨rfl, hb⟩
  have gx2 : Fr [] x1 x2 := Fr.ofBelow hb
  have hx2 : Fr [] w x2 := hx1.trans gx2 (by simp)
  clear A0 A1 A2
  have qA := gx2.at qA (by simp)
  have qB := gx2.at qB (by simp)
  have qC := gx2.at qC (by simp)
  clear hb gx2
  have B0 := row_cell qB 0
  have B1 := row_cell qB 1
  have B2 := row_cell qB 2
  simp at B0 B1 B2
  obtain ⟨sm, esm⟩ : ∃ sm, sm = smallF a [] := ⟨_, rfl⟩
  rw [← esm]
  clear esm
  cases sm with
  | false =>
    go_wp2_with fail
    go_ret
    exact ⟨rfl, hx2.toBelow (by simp)⟩
  | true =>
    go_wp2_with fail
    refine (small_any (.agg #[.int .i64 b.bits, .int .i64 b.hashes, .slice a2 b.words.length cap2]) (.slice none 0 0) b [] x2 ⟨_, rfl, HB.out.fr0 hx2⟩ (Or.inl ⟨rfl, rfl⟩)).mono ?_
    rintro e x3 ⟨rfl, hb⟩
    have gx3 : Fr [] x2 x3 := Fr.ofBelow hb
    have hx3 : Fr [] w x3 := hx2.trans gx3 (by simp)
    clear B0 B1 B2
    have qA := gx3.at qA (by simp)
    have qB := gx3.at qB (by simp)
    have qC := gx3.at qC (by simp)
    clear hb gx3
    have C0 := row_cell qC 0
    have C1 := row_cell qC 1
    have C2 := row_cell qC 2
    simp at C0 C1 C2
    obtain ⟨sm, esm⟩ : ∃ sm, sm = smallF b [] := ⟨_, rfl⟩
    rw [← esm]
    clear esm
    cases sm with
    | false =>
      go_wp2_with fail
      go_ret
      exact ⟨rfl, hx3.toBelow (by simp)⟩
    | true =>
      go_wp2_with fail
      refine (small_any (.agg #[.int .i64 c.bits, .int .i64 c.hashes, .slice a3 c.words.length cap3]) (.slice none 0 0) c [] x3 ⟨_, rfl, HC.out.fr0 hx3⟩ (Or.inl ⟨rfl, rfl⟩)).mono ?_
      rintro e x4 ⟨rfl, hb⟩
      have gx4 : Fr [] x3 x4 := Fr.ofBelow hb
      have hx4 : Fr [] w x4 := hx3.trans gx4 (by simp)
      clear C0 C1 C2
      have qA := gx4.at qA (by simp)
      have qB := gx4.at qB (by simp)
      have qC := gx4.at qC (by simp)
      clear hb gx4
      have A0 := row_cell qA 0
      have A1 := row_cell qA 1
      have A2 := row_cell qA 2
      have B0 := row_cell qB 0
      have B1 := row_cell qB 1
      have B2 := row_cell qB 2
      simp at A0 A1 A2 B0 B1 B2
      obtain ⟨sm, esm⟩ : ∃ sm, sm = smallF c [] := ⟨_, rfl⟩
      rw [← esm]
      clear esm
      cases sm with
      | false =>
        go_wp2_with fail
        go_ret
        exact ⟨rfl, hx4.toBelow (by simp)⟩
      | true =>
        go_wp2_with fail
        refine (joinU_any (.agg #[.int .i64 a.bits, .int .i64 a.hashes, .slice a1 a.words.length cap1]) (.agg #[.int .i64 b.bits, .int .i64 b.hashes, .slice a2 b.words.length cap2]) a b x4 ⟨_, rfl, HA.out.fr0 hx4⟩ ⟨_, rfl, HB.out.fr0 hx4⟩ wa wb).mono ?_
        rintro e x5 ⟨adX, cpX, rfl, hvX, hb⟩
        have gx5 : Fr [] x4 x5 := Fr.ofBelow hb
        have hx5 : Fr [] w x5 := hx4.trans gx5 (by simp)
        clear A0 A1 A2 B0 B1 B2
        have qA := gx5.at qA (by simp)
        have qB := gx5.at qB (by simp)
        have qC := gx5.at qC (by simp)
        clear hb gx5
        have VX := Lib.hid hvX
        clear hvX
        obtain ⟨JX, eJX⟩ : ∃ J, J = joinF a b := ⟨_, rfl⟩
        rw [← eJX] at VX ⊢
        have EJX := Lib.hid eJX
        clear eJX
        obtain ⟨EX, eEX⟩ : ∃ E, E = joinEr a b := ⟨_, rfl⟩
        rw [← eEX]
        have EEX := Lib.hid eEX
        clear eEX
        have fX : Fr [] x5 x5 := Fr.refl _ _
        obtain ⟨x6, ex6⟩ : ∃ W, W = x5.alloc (.cells #[.int .i64 JX.bits, .int .i64 JX.hashes, .slice adX JX.words.length cpX] 24) := ⟨_, rfl⟩
        obtain ⟨pX, epX⟩ : ∃ p, p = x5.heap.size := ⟨_, rfl⟩
        have gx6 : Fr [] x5 x6 := by rw [ex6]; exact (Fr.refl [] x5).alloc _
        have hx6 : Fr [] w x6 := hx5.trans gx6 (by simp)
        have fX := fX.trans gx6 (by simp)
        have qA := gx6.at qA (by simp)
        have qB := gx6.at qB (by simp)
        have qC := gx6.at qC (by simp)
        have qX : x6.heap[pX]? = some (.cells #[.int .i64 JX.bits, .int .i64 JX.hashes, .slice adX JX.words.length cpX] 24 (0, 0)) := by rw [ex6, epX]; exact heap_new rfl
        have B0 := row_cell qB 0
        have B1 := row_cell qB 1
        have B2 := row_cell qB 2
        have C0 := row_cell qC 0
        have C1 := row_cell qC 1
        have C2 := row_cell qC 2
        simp at B0 B1 B2 C0 C1 C2
        rw [ex6] at B0 B1 B2 C0 C1 C2
        go_wp2_with fail
        rw [← ex6, ← epX]
        rw [← ex6] at B0 B1 B2 C0 C1 C2
        clear ex6 epX gx6
        refine (joinU_any (.agg #[.int .i64 b.bits, .int .i64 b.hashes, .slice a2 b.words.length cap2]) (.agg #[.int .i64 c.bits, .int .i64 c.hashes, .slice a3 c.words.length cap3]) b c x6 ⟨_, rfl, HB.out.fr0 hx6⟩ ⟨_, rfl, HC.out.fr0 hx6⟩ wb wc).mono ?_
        rintro e x7 ⟨adY, cpY, rfl, hvY, hb⟩
        have gx7 : Fr [] x6 x7 := Fr.ofBelow hb
        have hx7 : Fr [] w x7 := hx6.trans gx7 (by simp)
        have fX := fX.trans gx7 (by simp)
        clear B0 B1 B2 C0 C1 C2
        have qA := gx7.at qA (by simp)
        have qB := gx7.at qB (by simp)
        have qC := gx7.at qC (by simp)
        have qX := gx7.at qX (by simp)
        clear hb gx7
        have VY := Lib.hid hvY
        clear hvY
        obtain ⟨JY, eJY⟩ : ∃ J, J = joinF b c := ⟨_, rfl⟩
        rw [← eJY] at VY ⊢
        have EJY := Lib.hid eJY
        clear eJY
        obtain ⟨EY, eEY⟩ : ∃ E, E = joinEr b c := ⟨_, rfl⟩
        rw [← eEY]
        have EEY := Lib.hid eEY
        clear eEY
        have fY : Fr [] x7 x7 := Fr.refl _ _
        cases hk1 : okJ a b with
        | false =>
          have e1 : EX = 1 := by rw [EEX.out]; exact joinEr_no hk1
          subst e1
          have HK1 := Lib.hid hk1
          clear hk1
          obtain ⟨va, eva⟩ : ∃ va, va = validF a := ⟨_, rfl⟩
          have HVA := Lib.hid eva
          clear eva
          obtain ⟨vb, evb⟩ : ∃ vb, vb = validF b := ⟨_, rfl⟩
          have HVB := Lib.hid evb
          clear evb
          obtain ⟨x8, ex8⟩ : ∃ W, W = x7.alloc (.cells #[.int .i64 JY.bits, .int .i64 JY.hashes, .slice adY JY.words.length cpY] 24) := ⟨_, rfl⟩
          obtain ⟨pY, epY⟩ : ∃ p, p = x7.heap.size := ⟨_, rfl⟩
          have gx8 : Fr [] x7 x8 := by rw [ex8]; exact (Fr.refl [] x7).alloc _
          have hx8 : Fr [] w x8 := hx7.trans gx8 (by simp)
          have fX := fX.trans gx8 (by simp)
          have fY := fY.trans gx8 (by simp)
          have qA := gx8.at qA (by simp)
          have qB := gx8.at qB (by simp)
          have qC := gx8.at qC (by simp)
          have qX := gx8.at qX (by simp)
          have qY : x8.heap[pY]? = some (.cells #[.int .i64 JY.bits, .int .i64 JY.hashes, .slice adY JY.words.length cpY] 24 (0, 0)) := by rw [ex8, epY]; exact heap_new rfl
          have A0 := row_cell qA 0
          have A1 := row_cell qA 1
          have A2 := row_cell qA 2
          have B0 := row_cell qB 0
          have B1 := row_cell qB 1
          have B2 := row_cell qB 2
          simp at A0 A1 A2 B0 B1 B2
          rw [ex8] at A0 A1 A2 B0 B1 B2
          go_wp2_with fail
          rw [← ex8, ← epY]
          rw [← ex8] at A0 A1 A2 B0 B1 B2
          clear ex8 epY gx8
          refine (rvalid36_any (.agg #[.int .i64 a.bits, .int .i64 a.hashes, .slice a1 a.words.length cap1]) a x8 ⟨_, rfl, HA.out.fr0 hx8⟩).mono ?_
          rintro e x9 ⟨rfl, hb⟩
          have gx9 : Fr [] x8 x9 := Fr.ofBelow hb
          have hx9 : Fr [] w x9 := hx8.trans gx9 (by simp)
          have fX := fX.trans gx9 (by simp)
          have fY := fY.trans gx9 (by simp)
          clear A0 A1 A2 B0 B1 B2
          have qA := gx9.at qA (by simp)
          have qB := gx9.at qB (by simp)
          have qC := gx9.at qC (by simp)
          have qX := gx9.at qX (by simp)
          have qY := gx9.at qY (by simp)
          clear hb gx9
          have A0 := row_cell qA 0
          have A1 := row_cell qA 1
          have A2 := row_cell qA 2
          have B0 := row_cell qB 0
          have B1 := row_cell qB 1
          have B2 := row_cell qB 2
          simp at A0 A1 A2 B0 B1 B2
          rw [← HVA.out]
          cases va with
          | false =>
            go_wp2_with fail
            go_ret
            exact ⟨rfl, hx9.toBelow (by simp)⟩
          | true =>
            go_wp2_with fail
            refine (rvalid36_any (.agg #[.int .i64 b.bits, .int .i64 b.hashes, .slice a2 b.words.length cap2]) b x9 ⟨_, rfl, HB.out.fr0 hx9⟩).mono ?_
            rintro e x10 ⟨rfl, hb⟩
            have gx10 : Fr [] x9 x10 := Fr.ofBelow hb
            have hx10 : Fr [] w x10 := hx9.trans gx10 (by simp)
            have fX := fX.trans gx10 (by simp)
            have fY := fY.trans gx10 (by simp)
            clear A0 A1 A2 B0 B1 B2
            have qA := gx10.at qA (by simp)
            have qB := gx10.at qB (by simp)
            have qC := gx10.at qC (by simp)
            have qX := gx10.at qX (by simp)
            have qY := gx10.at qY (by simp)
            clear hb gx10
            have A0 := row_cell qA 0
            have A1 := row_cell qA 1
            have A2 := row_cell qA 2
            have B0 := row_cell qB 0
            have B1 := row_cell qB 1
            have B2 := row_cell qB 2
            simp at A0 A1 A2 B0 B1 B2
            rw [← HVB.out]
            cases vb with
            | false =>
              go_wp2_with fail
              go_ret
              exact ⟨rfl, hx10.toBelow (by simp)⟩
            | true =>
              by_cases hbits : a.bits = b.bits
              · have u1 : (a.bits == b.bits) = true := by rw [beq_iff_eq]; exact hbits
                have hhash : ¬ (a.hashes = b.hashes) := fun h => by
                  have := okJ_of HVA.out.symm HVB.out.symm hbits h
                  rw [HK1.out] at this
                  cases this
                have u2 : (a.hashes == b.hashes) = false := by rw [beq_eq_false_iff_ne]; exact hhash
                clear hbits hhash
                go_wp2_with fail
                go_ret
                exact ⟨rfl, hx10.toBelow (by simp)⟩
              · have u1 : (a.bits == b.bits) = false := by rw [beq_eq_false_iff_ne]; exact hbits
                clear hbits
                go_wp2_with fail
                go_ret
                exact ⟨rfl, hx10.toBelow (by simp)⟩
        | true =>
          have e1 : EX = 0 := by rw [EEX.out]; exact joinEr_ok hk1
          subst e1
          have HK1 := Lib.hid hk1
          obtain ⟨hva, hvb, hbi, hha⟩ := okJ_parts hk1
          have HVA := Lib.hid hva
          have HVB := Lib.hid hvb
          have u1 : (a.bits == b.bits) = true := by rw [beq_iff_eq]; exact hbi
          have u2 : (a.hashes == b.hashes) = true := by rw [beq_iff_eq]; exact hha
          clear hk1 hva hvb hbi hha
          obtain ⟨x8, ex8⟩ : ∃ W, W = x7.alloc (.cells #[.int .i64 JY.bits, .int .i64 JY.hashes, .slice adY JY.words.length cpY] 24) := ⟨_, rfl⟩
          obtain ⟨pY, epY⟩ : ∃ p, p = x7.heap.size := ⟨_, rfl⟩
          have gx8 : Fr [] x7 x8 := by rw [ex8]; exact (Fr.refl [] x7).alloc _
          have hx8 : Fr [] w x8 := hx7.trans gx8 (by simp)
          have fX := fX.trans gx8 (by simp)
          have fY := fY.trans gx8 (by simp)
          have qA := gx8.at qA (by simp)
          have qB := gx8.at qB (by simp)
          have qC := gx8.at qC (by simp)
          have qX := gx8.at qX (by simp)
          have qY : x8.heap[pY]? = some (.cells #[.int .i64 JY.bits, .int .i64 JY.hashes, .slice adY JY.words.length cpY] 24 (0, 0)) := by rw [ex8, epY]; exact heap_new rfl
          have A0 := row_cell qA 0
          have A1 := row_cell qA 1
          have A2 := row_cell qA 2
          have B0 := row_cell qB 0
          have B1 := row_cell qB 1
          have B2 := row_cell qB 2
          simp at A0 A1 A2 B0 B1 B2
          rw [ex8] at A0 A1 A2 B0 B1 B2
          go_wp2_with fail
          rw [← ex8, ← epY]
          rw [← ex8] at A0 A1 A2 B0 B1 B2
          clear ex8 epY gx8
          refine (rvalid36_any (.agg #[.int .i64 a.bits, .int .i64 a.hashes, .slice a1 a.words.length cap1]) a x8 ⟨_, rfl, HA.out.fr0 hx8⟩).mono ?_
          rintro e x9 ⟨rfl, hb⟩
          have gx9 : Fr [] x8 x9 := Fr.ofBelow hb
          have hx9 : Fr [] w x9 := hx8.trans gx9 (by simp)
          have fX := fX.trans gx9 (by simp)
          have fY := fY.trans gx9 (by simp)
          clear A0 A1 A2 B0 B1 B2
          have qA := gx9.at qA (by simp)
          have qB := gx9.at qB (by simp)
          have qC := gx9.at qC (by simp)
          have qX := gx9.at qX (by simp)
          have qY := gx9.at qY (by simp)
          clear hb gx9
          have A0 := row_cell qA 0
          have A1 := row_cell qA 1
          have A2 := row_cell qA 2
          have B0 := row_cell qB 0
          have B1 := row_cell qB 1
          have B2 := row_cell qB 2
          simp at A0 A1 A2 B0 B1 B2
          rw [HVA.out]
          go_wp2_with fail
          refine (rvalid36_any (.agg #[.int .i64 b.bits, .int .i64 b.hashes, .slice a2 b.words.length cap2]) b x9 ⟨_, rfl, HB.out.fr0 hx9⟩).mono ?_
          rintro e x10 ⟨rfl, hb⟩
          have gx10 : Fr [] x9 x10 := Fr.ofBelow hb
          have hx10 : Fr [] w x10 := hx9.trans gx10 (by simp)
          have fX := fX.trans gx10 (by simp)
          have fY := fY.trans gx10 (by simp)
          clear A0 A1 A2 B0 B1 B2
          have qA := gx10.at qA (by simp)
          have qB := gx10.at qB (by simp)
          have qC := gx10.at qC (by simp)
          have qX := gx10.at qX (by simp)
          have qY := gx10.at qY (by simp)
          clear hb gx10
          have A0 := row_cell qA 0
          have A1 := row_cell qA 1
          have A2 := row_cell qA 2
          have B0 := row_cell qB 0
          have B1 := row_cell qB 1
          have B2 := row_cell qB 2
          have C0 := row_cell qC 0
          have C1 := row_cell qC 1
          have C2 := row_cell qC 2
          have X0 := row_cell qX 0
          have X1 := row_cell qX 1
          have X2 := row_cell qX 2
          simp at A0 A1 A2 B0 B1 B2 C0 C1 C2 X0 X1 X2
          rw [HVB.out]
          cases hk2 : okJ b c with
          | false =>
            have e2 : EY = 1 := by rw [EEY.out]; exact joinEr_no hk2
            subst e2
            go_wp2_with fail
            go_ret
            exact ⟨rfl, hx10.toBelow (by simp)⟩
          | true =>
            have e2 : EY = 0 := by rw [EEY.out]; exact joinEr_ok hk2
            subst e2
            have HK2 := Lib.hid hk2
            clear hk2
            have wX : W64 JX.words := by rw [EJX.out]; exact joinF_lt wa wb
            have wY : W64 JY.words := by rw [EJY.out]; exact joinF_lt wb wc
            go_wp2_with fail
            refine (joinU_any (.agg #[.int .i64 JX.bits, .int .i64 JX.hashes, .slice adX JX.words.length cpX]) (.agg #[.int .i64 c.bits, .int .i64 c.hashes, .slice a3 c.words.length cap3]) JX c x10 ⟨_, rfl, VX.out.fr0 fX⟩ ⟨_, rfl, HC.out.fr0 hx10⟩ wX wc).mono ?_
            rintro e x11 ⟨adP, cpP, rfl, hvP, hb⟩
            have gx11 : Fr [] x10 x11 := Fr.ofBelow hb
            have hx11 : Fr [] w x11 := hx10.trans gx11 (by simp)
            have fX := fX.trans gx11 (by simp)
            have fY := fY.trans gx11 (by simp)
            clear A0 A1 A2 B0 B1 B2 C0 C1 C2 X0 X1 X2
            have qA := gx11.at qA (by simp)
            have qB := gx11.at qB (by simp)
            have qC := gx11.at qC (by simp)
            have qX := gx11.at qX (by simp)
            have qY := gx11.at qY (by simp)
            clear hb gx11
            have VP := Lib.hid hvP
            clear hvP
            rw [show joinEr JX c = 0 from joinEr_ok (by rw [EJX.out]; exact okJ_left HK1.out HK2.out)]
            obtain ⟨JP, eJP⟩ : ∃ J, J = joinF JX c := ⟨_, rfl⟩
            rw [← eJP] at VP ⊢
            have EJP := Lib.hid eJP
            clear eJP
            have fP : Fr [] x11 x11 := Fr.refl _ _
            obtain ⟨x12, ex12⟩ : ∃ W, W = x11.alloc (.cells #[.int .i64 JP.bits, .int .i64 JP.hashes, .slice adP JP.words.length cpP] 24) := ⟨_, rfl⟩
            obtain ⟨pP, epP⟩ : ∃ p, p = x11.heap.size := ⟨_, rfl⟩
            have gx12 : Fr [] x11 x12 := by rw [ex12]; exact (Fr.refl [] x11).alloc _
            have hx12 : Fr [] w x12 := hx11.trans gx12 (by simp)
            have fX := fX.trans gx12 (by simp)
            have fY := fY.trans gx12 (by simp)
            have fP := fP.trans gx12 (by simp)
            have qA := gx12.at qA (by simp)
            have qB := gx12.at qB (by simp)
            have qC := gx12.at qC (by simp)
            have qX := gx12.at qX (by simp)
            have qY := gx12.at qY (by simp)
            have qP : x12.heap[pP]? = some (.cells #[.int .i64 JP.bits, .int .i64 JP.hashes, .slice adP JP.words.length cpP] 24 (0, 0)) := by rw [ex12, epP]; exact heap_new rfl
            have A0 := row_cell qA 0
            have A1 := row_cell qA 1
            have A2 := row_cell qA 2
            have Y0 := row_cell qY 0
            have Y1 := row_cell qY 1
            have Y2 := row_cell qY 2
            simp at A0 A1 A2 Y0 Y1 Y2
            rw [ex12] at A0 A1 A2 Y0 Y1 Y2
            go_wp2_with fail
            rw [← ex12, ← epP]
            rw [← ex12] at A0 A1 A2 Y0 Y1 Y2
            clear ex12 epP gx12
            refine (joinU_any (.agg #[.int .i64 a.bits, .int .i64 a.hashes, .slice a1 a.words.length cap1]) (.agg #[.int .i64 JY.bits, .int .i64 JY.hashes, .slice adY JY.words.length cpY]) a JY x12 ⟨_, rfl, HA.out.fr0 hx12⟩ ⟨_, rfl, VY.out.fr0 fY⟩ wa wY).mono ?_
            rintro e x13 ⟨adQ, cpQ, rfl, hvQ, hb⟩
            have gx13 : Fr [] x12 x13 := Fr.ofBelow hb
            have hx13 : Fr [] w x13 := hx12.trans gx13 (by simp)
            have fX := fX.trans gx13 (by simp)
            have fY := fY.trans gx13 (by simp)
            have fP := fP.trans gx13 (by simp)
            clear A0 A1 A2 Y0 Y1 Y2
            have qA := gx13.at qA (by simp)
            have qB := gx13.at qB (by simp)
            have qC := gx13.at qC (by simp)
            have qX := gx13.at qX (by simp)
            have qY := gx13.at qY (by simp)
            have qP := gx13.at qP (by simp)
            clear hb gx13
            have VQ := Lib.hid hvQ
            clear hvQ
            rw [show joinEr a JY = 0 from joinEr_ok (by rw [EJY.out]; exact okJ_right HK1.out HK2.out)]
            obtain ⟨JQ, eJQ⟩ : ∃ J, J = joinF a JY := ⟨_, rfl⟩
            rw [← eJQ] at VQ ⊢
            have EJQ := Lib.hid eJQ
            clear eJQ
            have fQ : Fr [] x13 x13 := Fr.refl _ _
            obtain ⟨x14, ex14⟩ : ∃ W, W = x13.alloc (.cells #[.int .i64 JQ.bits, .int .i64 JQ.hashes, .slice adQ JQ.words.length cpQ] 24) := ⟨_, rfl⟩
            obtain ⟨pQ, epQ⟩ : ∃ p, p = x13.heap.size := ⟨_, rfl⟩
            have gx14 : Fr [] x13 x14 := by rw [ex14]; exact (Fr.refl [] x13).alloc _
            have hx14 : Fr [] w x14 := hx13.trans gx14 (by simp)
            have fX := fX.trans gx14 (by simp)
            have fY := fY.trans gx14 (by simp)
            have fP := fP.trans gx14 (by simp)
            have fQ := fQ.trans gx14 (by simp)
            have qA := gx14.at qA (by simp)
            have qB := gx14.at qB (by simp)
            have qC := gx14.at qC (by simp)
            have qX := gx14.at qX (by simp)
            have qY := gx14.at qY (by simp)
            have qP := gx14.at qP (by simp)
            have qQ : x14.heap[pQ]? = some (.cells #[.int .i64 JQ.bits, .int .i64 JQ.hashes, .slice adQ JQ.words.length cpQ] 24 (0, 0)) := by rw [ex14, epQ]; exact heap_new rfl
            have P0 := row_cell qP 0
            have P1 := row_cell qP 1
            have P2 := row_cell qP 2
            simp at P0 P1 P2
            rw [ex14] at P0 P1 P2
            go_wp2_with fail
            rw [← ex14, ← epQ]
            rw [← ex14] at P0 P1 P2
            clear ex14 epQ gx14
            clear P0 P1 P2
            have P0 := row_cell qP 0
            have P1 := row_cell qP 1
            have P2 := row_cell qP 2
            have Q0 := row_cell qQ 0
            have Q1 := row_cell qQ 1
            have Q2 := row_cell qQ 2
            simp at P0 P1 P2 Q0 Q1 Q2
            go_wp2_with fail
            refine (rsame36_any (.agg #[.int .i64 JP.bits, .int .i64 JP.hashes, .slice adP JP.words.length cpP]) (.agg #[.int .i64 JQ.bits, .int .i64 JQ.hashes, .slice adQ JQ.words.length cpQ]) JP JQ x14 ⟨_, rfl, VP.out.fr0 fP⟩ ⟨_, rfl, VQ.out.fr0 fQ⟩).mono ?_
            rintro e x15 ⟨rfl, hb⟩
            have gx15 : Fr [] x14 x15 := Fr.ofBelow hb
            have hx15 : Fr [] w x15 := hx14.trans gx15 (by simp)
            have fX := fX.trans gx15 (by simp)
            have fY := fY.trans gx15 (by simp)
            have fP := fP.trans gx15 (by simp)
            have fQ := fQ.trans gx15 (by simp)
            clear P0 P1 P2 Q0 Q1 Q2
            have qA := gx15.at qA (by simp)
            have qB := gx15.at qB (by simp)
            have qC := gx15.at qC (by simp)
            have qX := gx15.at qX (by simp)
            have qY := gx15.at qY (by simp)
            have qP := gx15.at qP (by simp)
            have qQ := gx15.at qQ (by simp)
            clear hb gx15
            have A0 := row_cell qA 0
            have A1 := row_cell qA 1
            have A2 := row_cell qA 2
            have B0 := row_cell qB 0
            have B1 := row_cell qB 1
            have B2 := row_cell qB 2
            have X0 := row_cell qX 0
            have X1 := row_cell qX 1
            have X2 := row_cell qX 2
            have P0 := row_cell qP 0
            have P1 := row_cell qP 1
            have P2 := row_cell qP 2
            simp at A0 A1 A2 B0 B1 B2 X0 X1 X2 P0 P1 P2
            have hPQ : JP = JQ := by rw [EJP.out, EJQ.out, EJX.out, EJY.out]; exact joinF_assoc wa wb wc HK1.out HK2.out
            rw [(sameF_iff JP JQ).2 hPQ]
            clear hPQ
            have wP : W64 JP.words := by rw [EJP.out]; exact joinF_lt wX wc
            have HXA : Hid (hasF a serial = true → hasF JX serial = true) := Lib.hid (fun h => by rw [EJX.out]; exact has_joinL serial HK1.out h)
            have HXB : Hid (hasF b serial = true → hasF JX serial = true) := Lib.hid (fun h => by rw [EJX.out]; exact has_joinR serial HK1.out h)
            have HPX : Hid (hasF JX serial = true → hasF JP serial = true) := Lib.hid (fun h => by rw [EJP.out]; exact has_joinL serial (by rw [EJX.out]; exact okJ_left HK1.out HK2.out) h)
            obtain ⟨sa, esa⟩ : ∃ s, s = hasF a serial := ⟨_, rfl⟩
            obtain ⟨sb, esb⟩ : ∃ s, s = hasF b serial := ⟨_, rfl⟩
            obtain ⟨sx, esx⟩ : ∃ s, s = hasF JX serial := ⟨_, rfl⟩
            obtain ⟨sp, esp⟩ : ∃ s, s = hasF JP serial := ⟨_, rfl⟩
            rw [← esa, ← esx] at HXA
            rw [← esb, ← esx] at HXB
            rw [← esx, ← esp] at HPX
            have ESA := Lib.hid esa
            have ESB := Lib.hid esb
            have ESX := Lib.hid esx
            have ESP := Lib.hid esp
            clear esa esb esx esp
            go_wp2_with fail
            refine (has_any (.agg #[.int .i64 a.bits, .int .i64 a.hashes, .slice a1 a.words.length cap1]) a serial x15 ⟨_, rfl, HA.out.fr0 hx15⟩ wa hs (HT.out.fr hx15).t).mono ?_
            rintro e x16 ⟨rfl, hb⟩
            have gx16 : Fr [] x15 x16 := Fr.ofBelow hb
            have hx16 : Fr [] w x16 := hx15.trans gx16 (by simp)
            have fX := fX.trans gx16 (by simp)
            have fY := fY.trans gx16 (by simp)
            have fP := fP.trans gx16 (by simp)
            have fQ := fQ.trans gx16 (by simp)
            clear A0 A1 A2 B0 B1 B2 X0 X1 X2 P0 P1 P2
            have qA := gx16.at qA (by simp)
            have qB := gx16.at qB (by simp)
            have qC := gx16.at qC (by simp)
            have qX := gx16.at qX (by simp)
            have qY := gx16.at qY (by simp)
            have qP := gx16.at qP (by simp)
            have qQ := gx16.at qQ (by simp)
            clear hb gx16
            have A0 := row_cell qA 0
            have A1 := row_cell qA 1
            have A2 := row_cell qA 2
            have B0 := row_cell qB 0
            have B1 := row_cell qB 1
            have B2 := row_cell qB 2
            have X0 := row_cell qX 0
            have X1 := row_cell qX 1
            have X2 := row_cell qX 2
            have P0 := row_cell qP 0
            have P1 := row_cell qP 1
            have P2 := row_cell qP 2
            simp at A0 A1 A2 B0 B1 B2 X0 X1 X2 P0 P1 P2
            rw [← ESA.out]
            cases sa with
            | true =>
              obtain rfl := HXA.out rfl
              obtain rfl := HPX.out rfl
              go_wp2_with fail
              refine (has_any (.agg #[.int .i64 JX.bits, .int .i64 JX.hashes, .slice adX JX.words.length cpX]) JX serial x16 ⟨_, rfl, VX.out.fr0 fX⟩ wX hs (HT.out.fr hx16).t).mono ?_
              rintro e x17 ⟨rfl, hb⟩
              have gx17 : Fr [] x16 x17 := Fr.ofBelow hb
              have hx17 : Fr [] w x17 := hx16.trans gx17 (by simp)
              have fX := fX.trans gx17 (by simp)
              have fY := fY.trans gx17 (by simp)
              have fP := fP.trans gx17 (by simp)
              have fQ := fQ.trans gx17 (by simp)
              clear A0 A1 A2 B0 B1 B2 X0 X1 X2 P0 P1 P2
              have qA := gx17.at qA (by simp)
              have qB := gx17.at qB (by simp)
              have qC := gx17.at qC (by simp)
              have qX := gx17.at qX (by simp)
              have qY := gx17.at qY (by simp)
              have qP := gx17.at qP (by simp)
              have qQ := gx17.at qQ (by simp)
              clear hb gx17
              have A0 := row_cell qA 0
              have A1 := row_cell qA 1
              have A2 := row_cell qA 2
              have B0 := row_cell qB 0
              have B1 := row_cell qB 1
              have B2 := row_cell qB 2
              have X0 := row_cell qX 0
              have X1 := row_cell qX 1
              have X2 := row_cell qX 2
              have P0 := row_cell qP 0
              have P1 := row_cell qP 1
              have P2 := row_cell qP 2
              simp at A0 A1 A2 B0 B1 B2 X0 X1 X2 P0 P1 P2
              rw [← ESX.out]
              go_wp2_with fail
              refine (has_any (.agg #[.int .i64 JX.bits, .int .i64 JX.hashes, .slice adX JX.words.length cpX]) JX serial x17 ⟨_, rfl, VX.out.fr0 fX⟩ wX hs (HT.out.fr hx17).t).mono ?_
              rintro e x18 ⟨rfl, hb⟩
              have gx18 : Fr [] x17 x18 := Fr.ofBelow hb
              have hx18 : Fr [] w x18 := hx17.trans gx18 (by simp)
              have fX := fX.trans gx18 (by simp)
              have fY := fY.trans gx18 (by simp)
              have fP := fP.trans gx18 (by simp)
              have fQ := fQ.trans gx18 (by simp)
              clear A0 A1 A2 B0 B1 B2 X0 X1 X2 P0 P1 P2
              have qA := gx18.at qA (by simp)
              have qB := gx18.at qB (by simp)
              have qC := gx18.at qC (by simp)
              have qX := gx18.at qX (by simp)
              have qY := gx18.at qY (by simp)
              have qP := gx18.at qP (by simp)
              have qQ := gx18.at qQ (by simp)
              clear hb gx18
              have A0 := row_cell qA 0
              have A1 := row_cell qA 1
              have A2 := row_cell qA 2
              have B0 := row_cell qB 0
              have B1 := row_cell qB 1
              have B2 := row_cell qB 2
              have X0 := row_cell qX 0
              have X1 := row_cell qX 1
              have X2 := row_cell qX 2
              have P0 := row_cell qP 0
              have P1 := row_cell qP 1
              have P2 := row_cell qP 2
              simp at A0 A1 A2 B0 B1 B2 X0 X1 X2 P0 P1 P2
              rw [← ESX.out]
              go_wp2_with fail
              refine (has_any (.agg #[.int .i64 JP.bits, .int .i64 JP.hashes, .slice adP JP.words.length cpP]) JP serial x18 ⟨_, rfl, VP.out.fr0 fP⟩ wP hs (HT.out.fr hx18).t).mono ?_
              rintro e x19 ⟨rfl, hb⟩
              have gx19 : Fr [] x18 x19 := Fr.ofBelow hb
              have hx19 : Fr [] w x19 := hx18.trans gx19 (by simp)
              have fX := fX.trans gx19 (by simp)
              have fY := fY.trans gx19 (by simp)
              have fP := fP.trans gx19 (by simp)
              have fQ := fQ.trans gx19 (by simp)
              clear A0 A1 A2 B0 B1 B2 X0 X1 X2 P0 P1 P2
              have qA := gx19.at qA (by simp)
              have qB := gx19.at qB (by simp)
              have qC := gx19.at qC (by simp)
              have qX := gx19.at qX (by simp)
              have qY := gx19.at qY (by simp)
              have qP := gx19.at qP (by simp)
              have qQ := gx19.at qQ (by simp)
              clear hb gx19
              have A0 := row_cell qA 0
              have A1 := row_cell qA 1
              have A2 := row_cell qA 2
              have B0 := row_cell qB 0
              have B1 := row_cell qB 1
              have B2 := row_cell qB 2
              have X0 := row_cell qX 0
              have X1 := row_cell qX 1
              have X2 := row_cell qX 2
              have P0 := row_cell qP 0
              have P1 := row_cell qP 1
              have P2 := row_cell qP 2
              simp at A0 A1 A2 B0 B1 B2 X0 X1 X2 P0 P1 P2
              rw [← ESP.out]
              go_wp2_with fail
              go_ret
              exact ⟨rfl, hx19.toBelow (by simp)⟩
            | false =>
              go_wp2_with fail
              refine (has_any (.agg #[.int .i64 b.bits, .int .i64 b.hashes, .slice a2 b.words.length cap2]) b serial x16 ⟨_, rfl, HB.out.fr0 hx16⟩ wb hs (HT.out.fr hx16).t).mono ?_
              rintro e x17 ⟨rfl, hb⟩
              have gx17 : Fr [] x16 x17 := Fr.ofBelow hb
              have hx17 : Fr [] w x17 := hx16.trans gx17 (by simp)
              have fX := fX.trans gx17 (by simp)
              have fY := fY.trans gx17 (by simp)
              have fP := fP.trans gx17 (by simp)
              have fQ := fQ.trans gx17 (by simp)
              clear A0 A1 A2 B0 B1 B2 X0 X1 X2 P0 P1 P2
              have qA := gx17.at qA (by simp)
              have qB := gx17.at qB (by simp)
              have qC := gx17.at qC (by simp)
              have qX := gx17.at qX (by simp)
              have qY := gx17.at qY (by simp)
              have qP := gx17.at qP (by simp)
              have qQ := gx17.at qQ (by simp)
              clear hb gx17
              have A0 := row_cell qA 0
              have A1 := row_cell qA 1
              have A2 := row_cell qA 2
              have B0 := row_cell qB 0
              have B1 := row_cell qB 1
              have B2 := row_cell qB 2
              have X0 := row_cell qX 0
              have X1 := row_cell qX 1
              have X2 := row_cell qX 2
              have P0 := row_cell qP 0
              have P1 := row_cell qP 1
              have P2 := row_cell qP 2
              simp at A0 A1 A2 B0 B1 B2 X0 X1 X2 P0 P1 P2
              rw [← ESB.out]
              cases sb with
              | true =>
                obtain rfl := HXB.out rfl
                obtain rfl := HPX.out rfl
                go_wp2_with fail
                refine (has_any (.agg #[.int .i64 JX.bits, .int .i64 JX.hashes, .slice adX JX.words.length cpX]) JX serial x17 ⟨_, rfl, VX.out.fr0 fX⟩ wX hs (HT.out.fr hx17).t).mono ?_
                rintro e x18 ⟨rfl, hb⟩
                have gx18 : Fr [] x17 x18 := Fr.ofBelow hb
                have hx18 : Fr [] w x18 := hx17.trans gx18 (by simp)
                have fX := fX.trans gx18 (by simp)
                have fY := fY.trans gx18 (by simp)
                have fP := fP.trans gx18 (by simp)
                have fQ := fQ.trans gx18 (by simp)
                clear A0 A1 A2 B0 B1 B2 X0 X1 X2 P0 P1 P2
                have qA := gx18.at qA (by simp)
                have qB := gx18.at qB (by simp)
                have qC := gx18.at qC (by simp)
                have qX := gx18.at qX (by simp)
                have qY := gx18.at qY (by simp)
                have qP := gx18.at qP (by simp)
                have qQ := gx18.at qQ (by simp)
                clear hb gx18
                have A0 := row_cell qA 0
                have A1 := row_cell qA 1
                have A2 := row_cell qA 2
                have B0 := row_cell qB 0
                have B1 := row_cell qB 1
                have B2 := row_cell qB 2
                have X0 := row_cell qX 0
                have X1 := row_cell qX 1
                have X2 := row_cell qX 2
                have P0 := row_cell qP 0
                have P1 := row_cell qP 1
                have P2 := row_cell qP 2
                simp at A0 A1 A2 B0 B1 B2 X0 X1 X2 P0 P1 P2
                rw [← ESX.out]
                go_wp2_with fail
                refine (has_any (.agg #[.int .i64 JX.bits, .int .i64 JX.hashes, .slice adX JX.words.length cpX]) JX serial x18 ⟨_, rfl, VX.out.fr0 fX⟩ wX hs (HT.out.fr hx18).t).mono ?_
                rintro e x19 ⟨rfl, hb⟩
                have gx19 : Fr [] x18 x19 := Fr.ofBelow hb
                have hx19 : Fr [] w x19 := hx18.trans gx19 (by simp)
                have fX := fX.trans gx19 (by simp)
                have fY := fY.trans gx19 (by simp)
                have fP := fP.trans gx19 (by simp)
                have fQ := fQ.trans gx19 (by simp)
                clear A0 A1 A2 B0 B1 B2 X0 X1 X2 P0 P1 P2
                have qA := gx19.at qA (by simp)
                have qB := gx19.at qB (by simp)
                have qC := gx19.at qC (by simp)
                have qX := gx19.at qX (by simp)
                have qY := gx19.at qY (by simp)
                have qP := gx19.at qP (by simp)
                have qQ := gx19.at qQ (by simp)
                clear hb gx19
                have A0 := row_cell qA 0
                have A1 := row_cell qA 1
                have A2 := row_cell qA 2
                have B0 := row_cell qB 0
                have B1 := row_cell qB 1
                have B2 := row_cell qB 2
                have X0 := row_cell qX 0
                have X1 := row_cell qX 1
                have X2 := row_cell qX 2
                have P0 := row_cell qP 0
                have P1 := row_cell qP 1
                have P2 := row_cell qP 2
                simp at A0 A1 A2 B0 B1 B2 X0 X1 X2 P0 P1 P2
                rw [← ESX.out]
                go_wp2_with fail
                refine (has_any (.agg #[.int .i64 JP.bits, .int .i64 JP.hashes, .slice adP JP.words.length cpP]) JP serial x19 ⟨_, rfl, VP.out.fr0 fP⟩ wP hs (HT.out.fr hx19).t).mono ?_
                rintro e x20 ⟨rfl, hb⟩
                have gx20 : Fr [] x19 x20 := Fr.ofBelow hb
                have hx20 : Fr [] w x20 := hx19.trans gx20 (by simp)
                have fX := fX.trans gx20 (by simp)
                have fY := fY.trans gx20 (by simp)
                have fP := fP.trans gx20 (by simp)
                have fQ := fQ.trans gx20 (by simp)
                clear A0 A1 A2 B0 B1 B2 X0 X1 X2 P0 P1 P2
                have qA := gx20.at qA (by simp)
                have qB := gx20.at qB (by simp)
                have qC := gx20.at qC (by simp)
                have qX := gx20.at qX (by simp)
                have qY := gx20.at qY (by simp)
                have qP := gx20.at qP (by simp)
                have qQ := gx20.at qQ (by simp)
                clear hb gx20
                have A0 := row_cell qA 0
                have A1 := row_cell qA 1
                have A2 := row_cell qA 2
                have B0 := row_cell qB 0
                have B1 := row_cell qB 1
                have B2 := row_cell qB 2
                have X0 := row_cell qX 0
                have X1 := row_cell qX 1
                have X2 := row_cell qX 2
                have P0 := row_cell qP 0
                have P1 := row_cell qP 1
                have P2 := row_cell qP 2
                simp at A0 A1 A2 B0 B1 B2 X0 X1 X2 P0 P1 P2
                rw [← ESP.out]
                go_wp2_with fail
                go_ret
                exact ⟨rfl, hx20.toBelow (by simp)⟩
              | false =>
                go_wp2_with fail
                refine (has_any (.agg #[.int .i64 JX.bits, .int .i64 JX.hashes, .slice adX JX.words.length cpX]) JX serial x17 ⟨_, rfl, VX.out.fr0 fX⟩ wX hs (HT.out.fr hx17).t).mono ?_
                rintro e x18 ⟨rfl, hb⟩
                have gx18 : Fr [] x17 x18 := Fr.ofBelow hb
                have hx18 : Fr [] w x18 := hx17.trans gx18 (by simp)
                have fX := fX.trans gx18 (by simp)
                have fY := fY.trans gx18 (by simp)
                have fP := fP.trans gx18 (by simp)
                have fQ := fQ.trans gx18 (by simp)
                clear A0 A1 A2 B0 B1 B2 X0 X1 X2 P0 P1 P2
                have qA := gx18.at qA (by simp)
                have qB := gx18.at qB (by simp)
                have qC := gx18.at qC (by simp)
                have qX := gx18.at qX (by simp)
                have qY := gx18.at qY (by simp)
                have qP := gx18.at qP (by simp)
                have qQ := gx18.at qQ (by simp)
                clear hb gx18
                have A0 := row_cell qA 0
                have A1 := row_cell qA 1
                have A2 := row_cell qA 2
                have B0 := row_cell qB 0
                have B1 := row_cell qB 1
                have B2 := row_cell qB 2
                have X0 := row_cell qX 0
                have X1 := row_cell qX 1
                have X2 := row_cell qX 2
                have P0 := row_cell qP 0
                have P1 := row_cell qP 1
                have P2 := row_cell qP 2
                simp at A0 A1 A2 B0 B1 B2 X0 X1 X2 P0 P1 P2
                rw [← ESX.out]
                cases sx with
                | false =>
                  go_wp2_with fail
                  go_ret
                  exact ⟨rfl, hx18.toBelow (by simp)⟩
                | true =>
                  obtain rfl := HPX.out rfl
                  go_wp2_with fail
                  refine (has_any (.agg #[.int .i64 JP.bits, .int .i64 JP.hashes, .slice adP JP.words.length cpP]) JP serial x18 ⟨_, rfl, VP.out.fr0 fP⟩ wP hs (HT.out.fr hx18).t).mono ?_
                  rintro e x19 ⟨rfl, hb⟩
                  have gx19 : Fr [] x18 x19 := Fr.ofBelow hb
                  have hx19 : Fr [] w x19 := hx18.trans gx19 (by simp)
                  have fX := fX.trans gx19 (by simp)
                  have fY := fY.trans gx19 (by simp)
                  have fP := fP.trans gx19 (by simp)
                  have fQ := fQ.trans gx19 (by simp)
                  clear A0 A1 A2 B0 B1 B2 X0 X1 X2 P0 P1 P2
                  have qA := gx19.at qA (by simp)
                  have qB := gx19.at qB (by simp)
                  have qC := gx19.at qC (by simp)
                  have qX := gx19.at qX (by simp)
                  have qY := gx19.at qY (by simp)
                  have qP := gx19.at qP (by simp)
                  have qQ := gx19.at qQ (by simp)
                  clear hb gx19
                  have A0 := row_cell qA 0
                  have A1 := row_cell qA 1
                  have A2 := row_cell qA 2
                  have B0 := row_cell qB 0
                  have B1 := row_cell qB 1
                  have B2 := row_cell qB 2
                  have X0 := row_cell qX 0
                  have X1 := row_cell qX 1
                  have X2 := row_cell qX 2
                  have P0 := row_cell qP 0
                  have P1 := row_cell qP 1
                  have P2 := row_cell qP 2
                  simp at A0 A1 A2 B0 B1 B2 X0 X1 X2 P0 P1 P2
                  rw [← ESP.out]
                  go_wp2_with fail
                  go_ret
                  exact ⟨rfl, hx19.toBelow (by simp)⟩
theorem filterJoins_any (va : Value) (a : Flt) (vb : Value) (b : Flt) (vc : Value) (c : Flt) (serial : Int) (w : World) (hs : -9223372036854775808 ≤ serial ∧ serial < 9223372036854775808) (hT : TabsF w) (ha : FltR w va a) (wa : W64 a.words) (hb : FltR w vb b) (wb : W64 b.words) (hc : FltR w vc c) (wc : W64 c.words) :
    Calls Tryz.prog 7 #[va, vb, vc, .int .i64 serial] w fun e w' => e = .returned (.bool true) ∧ Below w.heap.size w w' :=
  filterJoins_walk va vb vc a b c serial w ⟨hs.1, by omega⟩ hT ha hb hc wa wb wc
end Go.Proofs.YtnmakpiddfhhnaaGreatDoor
