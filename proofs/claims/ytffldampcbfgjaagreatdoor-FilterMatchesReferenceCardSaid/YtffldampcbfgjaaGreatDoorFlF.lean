/-
  filter.Has.
-/
import Derived.Test.YtffldampcbfgjaaGreatDoorFlE
import Derived.Test.YtffldampcbfgjaaGreatDoorPlnFt
namespace Go.Proofs.YtffldampcbfgjaaGreatDoor
open Go.RowKit Go.Shelf
attribute [local go_sem] Oper.semAt_some

/-- May a filter contain a serial number? -/
def hasF (f : Flt) (serial : Int) : Bool := validF f && hasW f.words (posL serial f.bits f.hashes)

theorem bit_and (X j : Nat) (hX : X < 18446744073709551616) : (Go.bits .and .u64 ((X : Int) / 2 ^ j) 1 == 0) = !(X.testBit j) := by
  have h1 : (X : Int) / 2 ^ j = ((X / 2 ^ j : Nat) : Int) := by rw [Int.natCast_ediv]; simp
  have h2 : X / 2 ^ j < 18446744073709551616 := Nat.lt_of_le_of_lt (Nat.div_le_self _ _) hX
  have h3 := u64_and_nat (X / 2 ^ j) 1 h2 (by decide)
  rw [h1, show (1 : Int) = ((1 : Nat) : Int) from rfl, h3, Nat.and_one_is_mod, Nat.testBit_eq_decide_div_mod_eq]
  generalize X / 2 ^ j = Y
  rcases Nat.mod_two_eq_zero_or_one Y with h | h <;> simp [h]

set_option maxRecDepth 100000 in
set_option maxHeartbeats 4000000 in
theorem has_any (v : Value) (f : Flt) (serial : Int) (w : World) (hv : FltR w v f) (hW : W64 f.words) (hs : -9223372036854775808 ≤ serial ∧ serial ≤ 9223372036854775807) (hT : Tabs w) :
    Calls Tryz.prog 20 #[v, .int .i64 serial] w fun e w' => e = .returned (.bool (hasF f serial)) ∧ Below w.heap.size w w' := by
  obtain ⟨wv, rfl, hw⟩ := hv
  obtain ⟨wa, wcap, rfl, hwl, hwc, hwa⟩ := hw.form
  have HWS := Lib.hid hw
  have HT := Lib.hid hT
  clear hw hT
  obtain ⟨r, er⟩ : ∃ r, r = hasF f serial := ⟨_, rfl⟩
  rw [← er]
  have ER := Lib.hid er
  clear er
  refine (callsIn_wide (n := 3)).1 ?_
  refine callsIn_of_wp_marks Tryz.func20 rfl trivial ?_ rfl
  simp only [Tryz.ntmps20, List.size_toArray, List.length_cons, List.length_nil, Nat.reduceAdd, Nat.reduceSub, Array.replicate_succ, Array.replicate_zero, List.push_toArray, List.append_toArray, List.nil_append, List.cons_append]
  obtain ⟨W0, hW0⟩ : ∃ W0, W0 = (w.alloc (.cells #[.int .i64 f.bits, .int .i64 f.hashes, .slice wa f.words.length wcap] 25)).alloc (.cells #[.bool false] 4) := ⟨_, rfl⟩
  obtain ⟨bf, ebf⟩ : ∃ bf, bf = w.heap.size := ⟨_, rfl⟩
  have hf0 : Fr [] w W0 := by rw [hW0]; exact ((Fr.refl [] w).alloc _).alloc _
  have hbf : W0.heap[bf]? = some (.cells #[.int .i64 f.bits, .int .i64 f.hashes, .slice wa f.words.length wcap] 25 (0, 0)) := by rw [hW0, ebf]; exact heap_past _ (heap_new rfl)
  have hrb : W0.heap[bf + 1]? = some (.cells #[.bool false] 4 (0, 0)) := by rw [hW0, ebf]; exact heap_new (by simp)
  have g0 := row_cell hbf 0
  have g1 := row_cell hbf 1
  have g2 := row_cell hbf 2
  simp at g0 g1 g2
  rw [hW0, ebf] at g0 g1 g2
  gi_wp2_with fail
  rw [← hW0, ← ebf]
  rw [← hW0, ← ebf] at g0 g1 g2
  have EBF := Lib.hid ebf
  clear hW0 ebf
  refine ⟨trivial, (callsIn_wide.2 (valid_any _ f W0 ⟨_, rfl, HWS.out.fr0 hf0⟩)).mono ?_⟩
  rintro e w1 ⟨rfl, hb1⟩
  have hf1 : Fr [] W0 w1 := Fr.ofBelow hb1
  have hbf1 := hf1.at hbf (by simp)
  have hrb1 := hf1.at hrb (by simp)
  have hfw1 := hf0.trans hf1 (by simp)
  clear hb1 g0 g1 g2 hbf hrb hf1 hf0
  obtain ⟨vo, evo⟩ : ∃ vo, vo = validF f := ⟨_, rfl⟩
  rw [← evo]
  have HVO := Lib.hid evo
  clear evo
  have k0 := row_cell hbf1 0
  have k1 := row_cell hbf1 1
  have k2 := row_cell hbf1 2
  simp at k0 k1 k2
  have q0 := row_cell hrb1 0
  simp at q0
  have q1 := row_free hrb1 0
  cases vo with
  | false =>
    have HR : Hid (r = false) := Lib.hid (by rw [ER.out]; unfold hasF; rw [← HVO.out]; rfl)
    have hX : Fr [] w (w1.setCell ⟨bf + 1, 0, none⟩ (.bool false)) := hfw1.setCell _ _ (by right; have := EBF.out; simp; omega)
    have HX := Lib.hid hX
    have HRX := Lib.hid (row_set hrb1 0 (.bool false))
    clear hX k0 k1 k2
    gi_wp2_with fail
    refine leaves_marks (B := w.heap.size) [] _ ⟨List.nodup_nil, fun D hD => by cases hD⟩ (fun w' hst => ?_)
    have e0 := row_cell (hst.at HRX.out) 0
    simp at e0
    refine ⟨.bool false, ?_, by rw [HR.out], (HX.out.thenStd hst (Nat.le_refl _)).toBelow (by simp)⟩
    simp only [results]
    go_simp
  | true =>
    obtain ⟨hform, hlen⟩ := validF_parts HVO.out.symm
    have hp := formF_parts hform
    have HFM := Lib.hid hform
    have HLE := Lib.hid hlen
    clear hform hlen
    gi_wp2_with fail
    refine ⟨trivial, (callsIn_wide.2 (positions_any serial f.bits f.hashes w1)).mono ?_⟩
    rintro e w' ⟨rfl, rfl⟩
    obtain ⟨nb, enb⟩ : ∃ nb, nb = w1.heap.size := ⟨_, rfl⟩
    obtain ⟨W4, hW4⟩ : ∃ W4, W4 = ((w1.alloc (.cells #[.int .i64 serial] 3)).alloc (.cells #[.int .i64 f.bits] 3)).alloc (.cells #[.int .i64 f.hashes] 3) := ⟨_, rfl⟩
    have hsz4 : W4.heap.size = nb + 3 := by rw [hW4, enb]; simp
    have hf14 : Fr [] w1 W4 := by rw [hW4]; exact (((Fr.refl [] w1).alloc _).alloc _).alloc _
    have hbs : W4.heap[nb]? = some (.cells #[.int .i64 serial] 3 (0, 0)) := by rw [hW4, enb]; exact heap_past _ (heap_past _ (heap_new rfl))
    have hbb : W4.heap[nb + 1]? = some (.cells #[.int .i64 f.bits] 3 (0, 0)) := by rw [hW4, enb]; exact heap_past _ (heap_new (by simp))
    have hbh : W4.heap[nb + 2]? = some (.cells #[.int .i64 f.hashes] 3 (0, 0)) := by rw [hW4, enb]; exact heap_new (by simp)
    rw [← hW4, ← enb]
    have hT4 : Tabs W4 := HT.out.fr (hfw1.trans hf14 (by simp))
    have hbf4 := hf14.at hbf1 (by simp)
    have hrb4 := hf14.at hrb1 (by simp)
    have hfw4 := hfw1.trans hf14 (by simp)
    have hlt4 : bf + 1 < nb := by rw [enb]; exact lt_of_block hrb1
    have ENB := Lib.hid enb
    clear hW4 enb k0 k1 k2 q0 q1
    gi_wp2_with fail
    refine wpIn_rangeFunc_ownF rfl (by decide) (gf := 81) (lb := #[.pointer (some ⟨nb + 2, 0, none⟩), .pointer (some ⟨nb, 0, none⟩), .pointer (some ⟨nb + 1, 0, none⟩)]) rfl trivial (enters_of Tryz.func81 (by kernel_rfl) rfl)
      (positions_stops 2 (nb + 2) nb (nb + 1) serial f.bits f.hashes W4 (by decide) hs (by omega) (by omega) hbh hbs hbb hT4) KpP.t
      (fun W l o o' hl ho _ _ => KpP.fr (X := [l]) (B := w.heap.size) ((Fr.refl [l] W).grown (grownBy_putObj' W l o') (fun r e => by cases e; simp)) HT.out (Nat.le_refl _) (by have := EBF.out; simp; omega) (by simp; omega) (by simp; omega))
      (Below.refl _ _) (fun _ => rfl)
      (fun pre V => (∀ x ∈ pre, bitW f.words (posF serial f.bits x.val) = true) ∧ V.heap[bf]? = some (.cells #[.int .i64 f.bits, .int .i64 f.hashes, .slice wa f.words.length wcap] 25 (0, 0)) ∧ V.heap[bf + 1]? = some (.cells #[.bool false] 4 (0, 0)) ∧ Fr [] w V ∧ W4.heap.size ≤ V.heap.size)
      (fun c _ V => c = .ret ∧ r = false ∧ V.heap[bf + 1]? = some (.cells #[.bool false] 4 (0, 0)) ∧ Fr [] w V ∧ W4.heap.size ≤ V.heap.size)
      ?own ?ownx
      ⟨fun x hx => (by cases hx), hbf4, hrb4, hfw4, Nat.le_refl _⟩
      (fun x => { tmps := #[.agg #[.int .i64 f.bits, .int .i64 f.hashes, .slice wa f.words.length wcap], .int .i64 serial, .pointer (some ⟨bf, 0, none⟩), undef, .pointer (some ⟨bf + 1, 0, none⟩), .int .i64 (posF serial f.bits x.val : Int), .agg #[.int .i64 f.bits, .int .i64 f.hashes, .slice wa f.words.length wcap], .bool true, .bool false, .int .i64 serial, .pointer (some ⟨bf, 0, none⟩), .int .i64 f.bits, .pointer (some ⟨bf, 1, none⟩), .int .i64 f.hashes, .func (.func 81) #[] #[.pointer (some ⟨nb + 2, 0, none⟩), .pointer (some ⟨nb, 0, none⟩), .pointer (some ⟨nb + 1, 0, none⟩)], .int .i64 (posF serial f.bits x.val : Int), undef, undef, undef, undef, undef, undef, undef, undef, undef, undef, undef], defers := [] }) ?assign ?body ?done ?stop
    case own =>
      rintro pre A B row ⟨ha, hf, hb, hfr, hsz⟩ hg hr
      have hne : ∀ b o, A.heap[b]? = some o → o.isCells = true → some b ≠ row := fun b o hb ho e => by
        obtain ⟨_, o', ho', hc⟩ := hr b e.symm
        rw [hb] at ho'; cases ho'; rw [ho] at hc; cases hc
      exact ⟨ha, (hg.block _ (lt_of_block hf) (hne _ _ hf rfl)).trans hf, (hg.block _ (lt_of_block hb) (hne _ _ hb rfl)).trans hb, hfr.grown hg (fun r e => Or.inr (by have := (hr r e).1; have := EBF.out; omega)), Nat.le_trans hsz hg.size⟩
    case ownx =>
      rintro c pre A B row ⟨ha, hf, hb, hfr, hsz⟩ hg hr
      have hne : ∀ b o, A.heap[b]? = some o → o.isCells = true → some b ≠ row := fun b o hb ho e => by
        obtain ⟨_, o', ho', hc⟩ := hr b e.symm
        rw [hb] at ho'; cases ho'; rw [ho] at hc; cases hc
      exact ⟨ha, hf, (hg.block _ (lt_of_block hb) (hne _ _ hb rfl)).trans hb, hfr.grown hg (fun r e => Or.inr (by have := (hr r e).1; have := EBF.out; omega)), Nat.le_trans hsz hg.size⟩
    case assign =>
      intro l' x V K hK
      dsimp only [encsP]
      gi_wp2
      exact hK
    case body =>
      rintro l' pre x V ⟨ha, hf, hb, hfr, hsz⟩ hlen
      have k2 := row_cell hf 2
      simp at k2
      have q0 := row_cell hb 0
      simp at q0
      have q1 := row_free hb 0
      have hpx := posF_lt serial (show 1 ≤ f.bits by omega) x.val
      have HBI : Hid (bitW f.words (posF serial f.bits x.val) = (f.words.getD (posF serial f.bits x.val / 64) 0).testBit (posF serial f.bits x.val % 64)) := Lib.hid rfl
      have hLE := HLE.out
      have HNEG : Hid (bitW f.words (posF serial f.bits x.val) = false → r = false) := Lib.hid (fun h => by
        rw [ER.out]
        unfold hasF hasW posL
        rw [List.all_eq_false.2 ⟨_, List.mem_map.2 ⟨x.val, List.mem_range.2 x.2, rfl⟩, by rw [h]; simp⟩, Bool.and_false])
      have HPOS : Hid (bitW f.words (posF serial f.bits x.val) = true → ∀ y ∈ pre ++ [x], bitW f.words (posF serial f.bits y.val) = true) := Lib.hid (fun h y hy => by
        rcases List.mem_append.1 hy with hy | hy
        · exact ha y hy
        · rw [List.mem_singleton.1 hy]; exact h)
      generalize bitW f.words (posF serial f.bits x.val) = bt at HBI HNEG HPOS
      generalize posF serial f.bits x.val = p at hpx HBI ⊢
      obtain ⟨i, j, hi, hj⟩ : ∃ i j, i = p / 64 ∧ j = p % 64 := ⟨_, _, rfl, rfl⟩
      rw [← hi, ← hj] at HBI
      have hil : i < f.words.length := by omega
      have hj64 : j < 64 := by omega
      obtain ⟨b, off, rfl⟩ := hwa i hil
      have cx : V.cell? ⟨b, off + i, none⟩ = some (.int .u64 (f.words.getD i 0 : Nat)) := by
        rcases HWS.out with ⟨h0, _⟩ | ⟨b', off', cap', h0, _, _, _, h4⟩
        · exact absurd (congrArg List.length h0) (by simp only [List.length_nil]; omega)
        · cases h0; exact hfr.cell (h4 i hil) (by simp)
      have hX := hW.at i
      generalize f.words.getD i 0 = X at cx HBI hX
      have e1 : (p : Int).tdiv 64 = (i : Int) := by rw [Int.tdiv_eq_ediv_of_nonneg (by omega)]; omega
      have e2 : (p : Int).tmod 64 = (j : Int) := by rw [Int.tmod_eq_emod_of_nonneg (by omega)]; omega
      have w1i : IntKind.i64.wrap (i : Int) = (i : Int) := IntWalk.i64_in _ (by omega)
      have w1j : IntKind.i64.wrap (j : Int) = (j : Int) := IntWalk.i64_in _ (by omega)
      have i0 : (0 : Int) ≤ (i : Int) := by omega
      have i1 : (i : Int) < (f.words.length : Int) := by omega
      have hb2 := bit_and X j hX
      rw [← HBI.out] at hb2
      have HF2 := Lib.hid hf
      have HB2 := Lib.hid hb
      have HFR2 := Lib.hid hfr
      have HK0 : Hid (KeepsOthers V V) := Lib.hid (keepsOthers_fr1 (Fr.refl [] V) (fun x hx => by cases hx))
      have HKP0 : Hid (KpP nb (nb + 1) serial f.bits V V) := Lib.hid ⟨id, id, id⟩
      clear hi hj hpx hf hb hfr ha HBI
      cases bt with
      | true =>
        rw [Bool.not_true] at hb2
        have HP := Lib.hid (HPOS.out rfl)
        clear HPOS HNEG
        gi_wp2_with fail
        exact ⟨HK0.out, HKP0.out, HP.out, HF2.out, HB2.out, HFR2.out, hsz⟩
      | false =>
        rw [Bool.not_false] at hb2
        have HN := Lib.hid (HNEG.out rfl)
        clear HPOS HNEG
        have hX : Fr [bf + 1] V (V.setCell ⟨bf + 1, 0, none⟩ (.bool false)) := (Fr.refl [bf + 1] V).setCell _ _ (by simp)
        have HK2 : Hid (KeepsOthers V (V.setCell ⟨bf + 1, 0, none⟩ (.bool false))) := Lib.hid (keepsOthers_fr1 hX (fun x hx o ho' => by
          rw [List.mem_singleton.1 hx, HB2.out] at ho'
          cases ho'; rfl))
        have HR2 := Lib.hid (row_set HB2.out 0 (.bool false))
        have HFX := Lib.hid (HFR2.out.setCell ⟨bf + 1, 0, none⟩ (.bool false) (by right; have := EBF.out; simp; omega))
        have hszX : W4.heap.size ≤ (V.setCell ⟨bf + 1, 0, none⟩ (.bool false)).heap.size := Nat.le_trans hsz hX.size
        clear hX
        gi_wp2_with fail
        exact ⟨HK2.out, rfl, HN.out, HR2.out, HFX.out, hszX⟩
    case done =>
      rintro D xs V hD rfl ⟨ha, hf, hb, hfr, hsz⟩ hK
      have HR : Hid (r = true) := Lib.hid (by
        rw [ER.out]
        unfold hasF hasW
        rw [← HVO.out, Bool.true_and, List.all_eq_true]
        intro n hn
        obtain ⟨k, hk, rfl⟩ := List.mem_map.1 hn
        exact ha ⟨k, List.mem_range.1 hk⟩ (List.mem_finRange _))
      have q0 := row_cell hb 0
      simp at q0
      have q1 := row_free hb 0
      have hX : Fr [] w (V.setCell ⟨bf + 1, 0, none⟩ (.bool true)) := hfr.setCell _ _ (by right; have := EBF.out; simp; omega)
      have HX := Lib.hid hX
      have HRX := Lib.hid (row_set hb 0 (.bool true))
      have HKX := Lib.hid (((Fr.refl [bf + 1] V).setCell ⟨bf + 1, 0, none⟩ (.bool true) (by simp)).at hK (by simp; omega))
      clear hX hf hfr hb hK ha
      gi_wp2_with fail
      refine leaves_marks (B := w.heap.size) [D] _ ⟨by simp, fun D' hD' => ?_⟩ (fun w' hst => ?_)
      · rw [List.mem_singleton.1 hD']
        exact ⟨by have := EBF.out; omega, HKX.out⟩
      have e0 := row_cell (hst.at HRX.out) 0
      simp at e0
      refine ⟨.bool true, ?_, by rw [HR.out], (HX.out.thenStd hst (Nat.le_refl _)).toBelow (by simp)⟩
      simp only [results]
      go_simp
    case stop =>
      rintro D c pre V hD _ ⟨rfl, hr, hb, hfr, hsz⟩ hK
      have HR := Lib.hid hr
      have HB := Lib.hid hb
      have HFR := Lib.hid hfr
      have HK := Lib.hid hK
      clear hr hb hfr hK
      gi_wp2_with fail
      refine leaves_marks (B := w.heap.size) [D] _ ⟨by simp, fun D' hD' => ?_⟩ (fun w' hst => ?_)
      · rw [List.mem_singleton.1 hD']
        exact ⟨by have := EBF.out; omega, HK.out⟩
      have e0 := row_cell (hst.at HB.out) 0
      simp at e0
      refine ⟨.bool false, ?_, by rw [HR.out], (HFR.out.thenStd hst (Nat.le_refl _)).toBelow (by simp)⟩
      simp only [results]
      go_simp
end Go.Proofs.YtffldampcbfgjaaGreatDoor
