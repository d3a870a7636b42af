/-
  foyerlaw37.GateStale.
-/
import Derived.Test.YtglgkdbhdjkeaaaGreatDoorGaF
namespace Go.Proofs.YtglgkdbhdjkeaaaGreatDoor
open Go.RowKit

/-- What GateStale looks at behind each operation. -/
theorem stale_step (g : Gst) (o : GOp) : (doG g o).1.stale = g.stale ∧
    ((doG g o).2.2 = 0 ∧ o.kind % 4 = 0 ∧ (doG g o).1.log.length = g.log.length + 1 ∧ (doG g o).1.syn = g.syn ∧ 0 ≤ g.syn ∧ o.now ≤ g.syn + g.stale ∨
     (doG g o).2.2 = 0 ∧ o.kind % 4 = 1 ∧ (doG g o).1.log.length = g.log.length + 1 ∧ (doG g o).1.syn = g.syn ∨
     (doG g o).2.2 = 0 ∧ 2 ≤ o.kind % 4 ∧ (doG g o).1.log.length = g.log.length ∧ (doG g o).1.syn = o.now ∨
     (doG g o).2.2 ≠ 0 ∧ (doG g o).1.log.length = g.log.length ∧ (doG g o).1.syn = g.syn) := by
  refine ⟨(do_id g o).2.2, ?_⟩
  by_cases he : (doG g o).2.2 = 0
  · by_cases hr : o.kind % 4 = 0
    · obtain ⟨h1, h2, h3, h4, h5⟩ := scan_ok hr he
      refine Or.inl ⟨he, hr, ?_, ?_, h2, by omega⟩
      · rw [h5]; simp [putG]
      · rw [h5]; rfl
    · by_cases hr1 : o.kind % 4 = 1
      · obtain ⟨ow, h0, h1, h4, h5⟩ := leave_ok hr1 he
        refine Or.inr (Or.inl ⟨he, hr1, ?_, ?_⟩)
        · rw [h5]; simp [putG]
        · rw [h5]; rfl
      · obtain ⟨h1, h2, h3, h5⟩ := sync_ok (by omega) he
        exact Or.inr (Or.inr (Or.inl ⟨he, by omega, by rw [h5], by rw [h5]⟩))
  · exact Or.inr (Or.inr (Or.inr ⟨he, by rw [(do_bad he).1], by rw [(do_bad he).1]⟩))

set_option maxRecDepth 100000 in
set_option maxHeartbeats 4000000 in
theorem gateStale_any (n0 : Nat) (v : Value) (l : List GOp) (w : World) (hn0 : n0 < 65536) (hT : TabsF w) (hv : Ops w v l) (hN : ∀ o ∈ l, OpN o) :
    Calls Tryz.prog 6 #[.int .u16 (n0 : Int), v] w fun e w' => e = .returned (.bool true) ∧ Below w.heap.size w w' := by
  obtain ⟨a, cap, rfl, hl, hc9, ha⟩ := hv.form
  have HV := Lib.hid hv
  have HT := Lib.hid hT
  have HN := Lib.hid hN
  clear hv hT hN
  obtain ⟨r, er, e4⟩ : ∃ r : Nat, r = n0 % 200 ∧ ((n0 : Nat) : Int).tmod 200 = (r : Int) := ⟨_, rfl, by rw [Int.tmod_eq_emod_of_nonneg (by omega)]; omega⟩
  have hr4 : r < 200 := by omega
  have HGD : Hid (goodG 1 0 (r : Int) = true) := Lib.hid (by unfold goodG; rw [Bool.and_eq_true, decide_eq_true_eq, timeB_iff]; omega)
  clear er
  go_enter Tryz.func6, Tryz.ntmps6
  go_wp2_with fail
  refine (head37_any w HT.out).mono ?_
  rintro e w1 ⟨rfl, hb⟩
  have f1 : Fr [] w w1 := Fr.ofBelow hb
  clear hb
  go_wp2_with fail
  refine (gnew_any 1 0 (r : Int) w1).mono ?_
  rintro e w2 ⟨hy, _, hb⟩
  obtain ⟨rfl, hG1⟩ := hy HGD.out
  have f2 := f1.below hb f1.size
  have HF2 := Lib.hid f2
  have HB := Lib.hid f1.size
  obtain ⟨gp, egp⟩ : ∃ q, q = w1.heap.size + 1 := ⟨_, rfl⟩
  rw [← egp] at hG1
  rw [← egp]
  have HG2 := Lib.hid hG1
  obtain ⟨B1, eB1⟩ : ∃ q, q = w1.heap.size := ⟨_, rfl⟩
  rw [← eB1] at HG2 HB
  clear hy hb hG1 f1 f2 egp eB1
  unfold gateP
  go_wp2_with fail
  refine (fewG_any (.slice a l.length cap) l w2 (HV.out.fr HF2.out)).mono ?_
  rintro e w4 ⟨rfl, hb⟩
  have hfb : Fr [] w2 w4 := Fr.ofBelow hb
  have HF4 := Lib.hid (HF2.out.trans hfb (by simp))
  have HG4 := Lib.hid (HG2.out.fr hfb (by simp))
  clear hb hfb
  obtain ⟨x, hx⟩ : ∃ x, x = fewG l := ⟨_, rfl⟩
  rw [← hx]
  cases x with
  | false =>
    clear hx
    go_wp2_with fail
    go_ret
    exact ⟨rfl, HF4.out.toBelow (by simp)⟩
  | true =>
    have HFE := Lib.hid (fewG_ok hx.symm HN.out)
    clear hx
    go_wp2_with fail
    go_loopg [8, 9] l.length (fun gh sv i wr => ∃ (k : Nat) (g : Gst) (F : List Nat), k ≤ l.length ∧ gh = l.length - k ∧ sv = .int .i64 g.syn ∧ i = .int .i64 (k : Int) ∧ GateR B1 wr gp g F ∧ g.stale = (r : Int) ∧ Fr [] w wr)
    case atStart => exact ⟨0, _, _, by omega, by omega, rfl, rfl, HG4.out, rfl, HF4.out⟩
    case round =>
      obtain ⟨k, g, F, hk, hgh, rfl, rfl, hGR, hst, hfr⟩ := hrel
      have HG := Lib.hid hgh
      have HGR := Lib.hid hGR
      have HST := Lib.hid hst
      have HF := Lib.hid hfr
      have HBF : Hid (∀ k ∈ F, w.heap.size ≤ k) := Lib.hid (fun k hk => Nat.le_trans HB.out (hGR.blocks k hk).1)
      have hlg := hGR.inv.l
      have hsy := hGR.inv.sy
      have hnw := hGR.inv.n
      clear hgh hGR hst hfr
      by_cases hlt : k < l.length
      · have t3 : decide ((k : Int) < (l.length : Int)) = true := by simp; omega
        obtain ⟨b, off, rfl⟩ := ha k hlt
        obtain ⟨o, ho⟩ : ∃ x, l[k]? = some x := ⟨_, List.getElem?_eq_getElem hlt⟩
        have HOS := Lib.hid (HFE.out.2.1 o (List.mem_of_getElem? ho))
        have HO := Lib.hid ho
        have i0 : (0 : Int) ≤ (k : Int) := by omega
        have i1 : (k : Int) < (l.length : Int) := by omega
        clear ho
        go_wp2_with fail
        refine (log_any B1 gp g F wr HGR.out).mono ?_
        rintro e w5 ⟨lv, rfl, hown, hb⟩
        obtain ⟨la, lc, rfl, _, _, _⟩ := hown.scs.form
        have hfb : Fr [] wr w5 := Fr.ofBelow hb
        have HF5 := Lib.hid (HF.out.trans hfb (by simp))
        have HG5 := Lib.hid (HGR.out.fr hfb (by simp))
        clear hb hfb hown
        obtain ⟨ta, wa, sa, tc, wc, sc, ⟨c0, c1, c2, c3, c4, c5, c6, c7, c8, c9, c10, c11⟩, hR⟩ := ((HV.out.fr HF5.out).cells k o HO.out).opR
        have HR := Lib.hid hR
        clear hR
        go_wp2_with fail
        refine (do_any B1 gp g F _ o w5 HG5.out HR.out HOS.out (HT.out.fr HF5.out)).mono ?_
        rintro e w6 ⟨rfl, hq⟩
        have HF6 := Lib.hid (hq.fr0 HF5.out HBF.out)
        obtain ⟨F', hG6, _, _⟩ := hq
        have HG6 := Lib.hid hG6
        have hlg' := hG6.inv.l
        clear hG6 c0 c1 c2 c3 c4 c5 c6 c7 c8 c9 c10 c11
        obtain ⟨ta, wa, sa, tc, wc, sc, ⟨c0, c1, c2, c3, c4, c5, c6, c7, c8, c9, c10, c11⟩, _⟩ := ((HV.out.fr HF6.out).cells k o HO.out).opR
        clear c1 c2 c3 c4 c5 c6 c7 c8 c9 c10
        obtain ⟨hst2, hcase⟩ := stale_step g o
        have HST2 := Lib.hid hst2
        clear hst2
        obtain ⟨er, eer⟩ : ∃ m, m = (doG g o).2.2 := ⟨_, rfl⟩
        obtain ⟨g2, eg2⟩ : ∃ m, m = (doG g o).1 := ⟨_, rfl⟩
        rw [← eer, ← eg2] at hcase
        rw [← eg2] at HST2 HG6 hlg'
        rw [← eer]
        obtain ⟨r4, er4, e5⟩ : ∃ r4 : Nat, o.kind % 4 = r4 ∧ ((o.kind : Nat) : Int).tmod 4 = (r4 : Int) := ⟨_, rfl, by rw [Int.tmod_eq_emod_of_nonneg (by omega)]; omega⟩
        rw [er4] at hcase
        have hr44 : r4 < 4 := by omega
        have hk8 := HOS.out.k
        have hnow := HOS.out.n
        unfold isI at hnow
        obtain ⟨n1, en1⟩ : ∃ q, q = g.log.length := ⟨_, rfl⟩
        obtain ⟨n2, en2⟩ : ∃ q, q = g2.log.length := ⟨_, rfl⟩
        rw [← en1, ← en2] at hcase
        rw [← en1] at hlg
        rw [← en2] at hlg'
        have EN2 := Lib.hid en2
        rw [← en1]
        clear eer eg2 er4 en1 en2
        rcases hcase with ⟨rfl, hr, hn2, hsy2, h1, h2⟩ | ⟨rfl, hr, hn2, hsy2⟩ | ⟨rfl, hr, hn2, hsy2⟩ | ⟨hr, hn2, hsy2⟩
        case inl =>
          have t5 : decide (2 ≤ (r4 : Int)) = false := by simp; omega
          have t6 : ((r4 : Int) == 0) = true := by simpa using hr
          have t9 : decide (g.syn < 0) = false := by simp; omega
          have t10 : decide (g.syn + (r : Int) < o.now) = false := by have := HST.out; simp; omega
          have HSY := Lib.hid hsy2
          clear hr hsy2 h2
          have wg : IntKind.i64.wrap ((n2 : Int) - (n1 : Int)) = 1 := by rw [IntWalk.i64_in _ (by omega)]; omega
          go_wp2_with fail
          refine (log_any B1 gp g2 F' w6 HG6.out).mono ?_
          rintro e w7 ⟨lv2, rfl, hown, hb⟩
          obtain ⟨la2, lc2, rfl, _, _, _⟩ := hown.scs.form
          rw [← EN2.out]
          have hfb : Fr [] w6 w7 := Fr.ofBelow hb
          have HF7 := Lib.hid (HF6.out.trans hfb (by simp))
          have HG7 := Lib.hid (HG6.out.fr hfb (by simp))
          have d0 := hfb.cell c0 (by simp)
          have d11 := hfb.cell c11 (by simp)
          clear hb hfb hown c0 c11
          go_wp2_with fail
          go_roundg (l.length - (k + 1))
          case measure => have := HG.out; omega
          case rel => exact ⟨k + 1, g2, F', by omega, rfl, by rw [HSY.out], by go_num, HG7.out, by rw [HST2.out]; exact HST.out, HF7.out⟩
        case inr.inl =>
          have t5 : decide (2 ≤ (r4 : Int)) = false := by simp; omega
          have t6 : ((r4 : Int) == 0) = false := by rw [beq_eq_false_iff_ne]; omega
          have HSY := Lib.hid hsy2
          clear hr hsy2
          have wg : IntKind.i64.wrap ((n2 : Int) - (n1 : Int)) = 1 := by rw [IntWalk.i64_in _ (by omega)]; omega
          go_wp2_with fail
          refine (log_any B1 gp g2 F' w6 HG6.out).mono ?_
          rintro e w7 ⟨lv2, rfl, hown, hb⟩
          obtain ⟨la2, lc2, rfl, _, _, _⟩ := hown.scs.form
          rw [← EN2.out]
          have hfb : Fr [] w6 w7 := Fr.ofBelow hb
          have HF7 := Lib.hid (HF6.out.trans hfb (by simp))
          have HG7 := Lib.hid (HG6.out.fr hfb (by simp))
          have d0 := hfb.cell c0 (by simp)
          have d11 := hfb.cell c11 (by simp)
          clear hb hfb hown c0 c11
          go_wp2_with fail
          go_roundg (l.length - (k + 1))
          case measure => have := HG.out; omega
          case rel => exact ⟨k + 1, g2, F', by omega, rfl, by rw [HSY.out], by go_num, HG7.out, by rw [HST2.out]; exact HST.out, HF7.out⟩
        case inr.inr.inl =>
          have t5 : decide (2 ≤ (r4 : Int)) = true := by simp; omega
          have t6 : ((r4 : Int) == 0) = false := by rw [beq_eq_false_iff_ne]; omega
          have HSY := Lib.hid hsy2
          clear hr hsy2
          have wg : IntKind.i64.wrap ((n2 : Int) - (n1 : Int)) = 0 := by rw [IntWalk.i64_in _ (by omega)]; omega
          go_wp2_with fail
          refine (log_any B1 gp g2 F' w6 HG6.out).mono ?_
          rintro e w7 ⟨lv2, rfl, hown, hb⟩
          obtain ⟨la2, lc2, rfl, _, _, _⟩ := hown.scs.form
          rw [← EN2.out]
          have hfb : Fr [] w6 w7 := Fr.ofBelow hb
          have HF7 := Lib.hid (HF6.out.trans hfb (by simp))
          have HG7 := Lib.hid (HG6.out.fr hfb (by simp))
          have d0 := hfb.cell c0 (by simp)
          have d11 := hfb.cell c11 (by simp)
          clear hb hfb hown c0 c11
          go_wp2_with fail
          go_roundg (l.length - (k + 1))
          case measure => have := HG.out; omega
          case rel => exact ⟨k + 1, g2, F', by omega, rfl, by rw [HSY.out], by go_num, HG7.out, by rw [HST2.out]; exact HST.out, HF7.out⟩
        case inr.inr.inr =>
          have t7 : (er == 0) = false := by rw [beq_eq_false_iff_ne]; exact hr
          have t8 : (er != 0) = true := by simpa using hr
          have HSY := Lib.hid hsy2
          clear hr hsy2
          obtain ⟨y2, hy2⟩ : ∃ y, y = decide (2 ≤ (r4 : Int)) := ⟨_, rfl⟩
          obtain ⟨y0, hy0⟩ : ∃ y, y = ((r4 : Int) == 0) := ⟨_, rfl⟩
          have t5 := hy2.symm
          have t6 := hy0.symm
          clear hy2 hy0
          cases y2 <;> cases y0
          all_goals
            have wg : IntKind.i64.wrap ((n2 : Int) - (n1 : Int)) = 0 := by rw [IntWalk.i64_in _ (by omega)]; omega
            go_wp2_with fail
            refine (log_any B1 gp g2 F' w6 HG6.out).mono ?_
            rintro e w7 ⟨lv2, rfl, hown, hb⟩
            obtain ⟨la2, lc2, rfl, _, _, _⟩ := hown.scs.form
            rw [← EN2.out]
            have hfb : Fr [] w6 w7 := Fr.ofBelow hb
            have HF7 := Lib.hid (HF6.out.trans hfb (by simp))
            have HG7 := Lib.hid (HG6.out.fr hfb (by simp))
            have d0 := hfb.cell c0 (by simp)
            have d11 := hfb.cell c11 (by simp)
            clear hb hfb hown c0 c11
            go_wp2_with fail
            go_roundg (l.length - (k + 1))
            case measure => have := HG.out; omega
            case rel => exact ⟨k + 1, g2, F', by omega, rfl, by rw [HSY.out], by go_num, HG7.out, by rw [HST2.out]; exact HST.out, HF7.out⟩
      · obtain rfl : k = l.length := by omega
        have t3 : decide ((l.length : Int) < (l.length : Int)) = false := by simp
        go_wp2_with fail
        go_ret
        exact ⟨rfl, HF.out.toBelow (by simp)⟩
end Go.Proofs.YtglgkdbhdjkeaaaGreatDoor
