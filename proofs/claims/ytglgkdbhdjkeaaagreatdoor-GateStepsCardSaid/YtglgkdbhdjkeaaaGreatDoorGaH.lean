/-
  foyerlaw37.GateSteps.
-/
import Derived.Test.YtglgkdbhdjkeaaaGreatDoorGaF
import Derived.Test.YtglgkdbhdjkeaaaGreatDoorRgA
import Derived.BigQuiet
namespace Go.Proofs.YtglgkdbhdjkeaaaGreatDoor
open Go.RowKit

theorem Scs.frA {X : List Nat} {w w' : World} {v : Value} {l : List Scn} {n : Nat} (h : OwnC n w v l) (hf : Fr X w w') (hx : ∀ k ∈ X, k < n) : Scs w' v l :=
  h.scs.frX hf (fun k hk hm => by have := (h.block k hk).1; have := hx k hm; omega)
set_option maxRecDepth 100000 in
set_option maxHeartbeats 8000000 in
theorem gateSteps_any (v : Value) (l : List GOp) (w : World) (hT : TabsF w) (hv : Ops w v l) (hN : ∀ o ∈ l, OpN o) :
    Calls Tryz.prog 7 #[v] w fun e w' => e = .returned (.bool true) ∧ Below w.heap.size w w' := by
  obtain ⟨a, cap, rfl, hl, hc9, ha⟩ := hv.form
  have HV := Lib.hid hv
  have HT := Lib.hid hT
  have HN := Lib.hid hN
  clear hv hT hN
  have HGD : Hid (goodG 7 0 500 = true) := Lib.hid (by decide)
  go_enter Tryz.func7, Tryz.ntmps7
  go_wp2_with fail
  refine (head37_any w HT.out).mono ?_
  rintro e w1 ⟨rfl, hb⟩
  have f1 : Fr [] w w1 := Fr.ofBelow hb
  clear hb
  go_wp2_with fail
  refine (gnew_any 7 0 500 w1).mono ?_
  rintro e w2 ⟨hy, _, hb⟩
  obtain ⟨rfl, hG1⟩ := hy HGD.out
  have f2 := f1.below hb f1.size
  have HF2 := Lib.hid f2
  have HB := Lib.hid f1.size
  obtain ⟨gp, egp⟩ : ∃ q, q = w1.heap.size + 1 := ⟨_, rfl⟩
  rw [← egp] at hG1
  rw [← egp]
  have HG2 := Lib.hid hG1
  obtain ⟨B1, eB1⟩ : ∃ q, q = w1.heap.size := ⟨_, rfl⟩
  rw [← eB1] at HG2 HB
  clear hy hb hG1 f1 f2 egp eB1
  unfold gateP
  go_wp2_with fail
  refine (fewG_any (.slice a l.length cap) l w2 (HV.out.fr HF2.out)).mono ?_
  rintro e w4 ⟨rfl, hb⟩
  have hfb : Fr [] w2 w4 := Fr.ofBelow hb
  have HF4 := Lib.hid (HF2.out.trans hfb (by simp))
  have HG4 := Lib.hid (HG2.out.fr hfb (by simp))
  clear hb hfb
  obtain ⟨x, hx⟩ : ∃ x, x = fewG l := ⟨_, rfl⟩
  rw [← hx]
  cases x with
  | false =>
    clear hx
    go_wp2_with fail
    go_ret
    exact ⟨rfl, HF4.out.toBelow (by simp)⟩
  | true =>
    have HFE := Lib.hid (fewG_ok hx.symm HN.out)
    clear hx
    go_wp2_with fail
    go_loopg [6] l.length (fun gh i wr => ∃ (k : Nat) (g : Gst) (F : List Nat), k ≤ l.length ∧ gh = l.length - k ∧ i = .int .i64 (k : Int) ∧ GateR B1 wr gp g F ∧ Fr [] w wr)
    case atStart => exact ⟨0, _, _, by omega, by omega, rfl, HG4.out, HF4.out⟩
    case round =>
      obtain ⟨k, g, F, hk, hgh, rfl, hGR, hfr⟩ := hrel
      have HG := Lib.hid hgh
      have HGR := Lib.hid hGR
      have HF := Lib.hid hfr
      have HBF : Hid (∀ k ∈ F, w.heap.size ≤ k) := Lib.hid (fun k hk => Nat.le_trans HB.out (hGR.blocks k hk).1)
      have hlg := hGR.inv.l
      clear hgh hGR hfr
      by_cases hlt : k < l.length
      · have t3 : decide ((k : Int) < (l.length : Int)) = true := by simp; omega
        obtain ⟨b, off, rfl⟩ := ha k hlt
        obtain ⟨o, ho⟩ : ∃ x, l[k]? = some x := ⟨_, List.getElem?_eq_getElem hlt⟩
        have HOS := Lib.hid (HFE.out.2.1 o (List.mem_of_getElem? ho))
        have HO := Lib.hid ho
        have i0 : (0 : Int) ≤ (k : Int) := by omega
        have i1 : (k : Int) < (l.length : Int) := by omega
        clear ho
        go_wp2_with fail
        refine (log_any B1 gp g F wr HGR.out).mono ?_
        rintro e w5 ⟨lv, rfl, hown, hb⟩
        obtain ⟨la, lc, rfl, hlc, hlm, hla⟩ := hown.scs.form
        have hfb : Fr [] wr w5 := Fr.ofBelow hb
        have HF5 := Lib.hid (HF.out.trans hfb (by simp))
        have HG5 := Lib.hid (HGR.out.fr hfb (by simp))
        have HOW := Lib.hid hown
        have HFR : Hid (∀ k ∈ F, k < wr.heap.size) := Lib.hid (fun k hk => (HGR.out.blocks k hk).2)
        clear hb hfb hown
        obtain ⟨ta, wa, sa, tc, wc, sc, ⟨c0, c1, c2, c3, c4, c5, c6, c7, c8, c9, c10, c11⟩, hR⟩ := ((HV.out.fr HF5.out).cells k o HO.out).opR
        have HR := Lib.hid hR
        clear hR
        go_wp2_with fail
        refine (do_any B1 gp g F _ o w5 HG5.out HR.out HOS.out (HT.out.fr HF5.out)).mono ?_
        rintro e w6 ⟨rfl, hq⟩
        have HF6 := Lib.hid (hq.fr0 HF5.out HBF.out)
        obtain ⟨F', hG6, hX6, _⟩ := hq
        have HG6 := Lib.hid hG6
        have hlg' := hG6.inv.l
        have HS6 := Lib.hid (Scs.frA HOW.out hX6 HFR.out)
        clear hG6 hX6 c0 c1 c2 c3 c4 c5 c6 c7 c8 c9 c10 c11
        have HGR1 := Lib.hid (do_grown g o)
        have HADD := Lib.hid (do_added g o)
        obtain ⟨er, eer⟩ : ∃ m, m = (doG g o).2.2 := ⟨_, rfl⟩
        obtain ⟨m, em⟩ : ∃ m, m = (doG g o).2.1 := ⟨_, rfl⟩
        obtain ⟨g2, eg2⟩ : ∃ m, m = (doG g o).1 := ⟨_, rfl⟩
        rw [← eg2] at HG6 hlg'
        rw [← eer, ← eg2] at HGR1 HADD
        rw [← em] at HADD
        rw [← eer, ← em]
        obtain ⟨r4, er4, e5⟩ : ∃ r4 : Nat, o.kind % 4 = r4 ∧ ((o.kind : Nat) : Int).tmod 4 = (r4 : Int) := ⟨_, rfl, by rw [Int.tmod_eq_emod_of_nonneg (by omega)]; omega⟩
        rw [er4] at HGR1 HADD
        have hr44 : r4 < 4 := by omega
        have hk8 := HOS.out.k
        clear eer em eg2 er4
        go_wp2_with fail
        refine (log_any B1 gp g2 F' w6 HG6.out).mono ?_
        rintro e w7 ⟨lv2, rfl, hown, hb⟩
        obtain ⟨la2, lc2, rfl, hlc2, hlm2, hla2⟩ := hown.scs.form
        have hfb : Fr [] w6 w7 := Fr.ofBelow hb
        have HF7 := Lib.hid (HF6.out.trans hfb (by simp))
        have HG7 := Lib.hid (HG6.out.fr hfb (by simp))
        have HS7 := Lib.hid (HS6.out.fr hfb)
        have HN7 := Lib.hid hown.scs
        clear hb hfb hown
        obtain ⟨ta, wa, sa, tc, wc, sc, ⟨c0, c1, c2, c3, c4, c5, c6, c7, c8, c9, c10, c11⟩, _⟩ := ((HV.out.fr HF7.out).cells k o HO.out).opR
        clear c2 c3 c4 c5 c7 c8 c9 c10
        by_cases he : er = 0
        case neg =>
          have t5 : (er != 0) = true := by simpa using he
          have HL : Hid (g2.log = g.log) := Lib.hid (HGR1.out (Or.inl he))
          clear he
          go_wp2_with fail
          refine (rsame37_any _ _ g.log g2.log w7 HS7.out HN7.out).mono ?_
          rintro e w8 ⟨rfl, hb⟩
          have hfb : Fr [] w7 w8 := Fr.ofBelow hb
          have HF8 := Lib.hid (HF7.out.trans hfb (by simp))
          have HG8 := Lib.hid (HG7.out.fr hfb (by simp))
          rw [HL.out, decide_eq_true rfl]
          clear hb hfb c0 c1 c6 c11
          go_wp2_with fail
          go_roundg (l.length - (k + 1))
          case measure => have := HG.out; omega
          case rel => exact ⟨k + 1, g2, F', by omega, rfl, by go_num, HG8.out, HF8.out⟩
        by_cases hr : 2 ≤ r4
        case pos =>
          have t5 : (er != 0) = false := by simpa using he
          have t6 : decide (2 ≤ (r4 : Int)) = true := by simp; omega
          have HL : Hid (g2.log = g.log) := Lib.hid (HGR1.out (Or.inr hr))
          clear he hr
          go_wp2_with fail
          refine (rsame37_any _ _ g.log g2.log w7 HS7.out HN7.out).mono ?_
          rintro e w8 ⟨rfl, hb⟩
          have hfb : Fr [] w7 w8 := Fr.ofBelow hb
          have HF8 := Lib.hid (HF7.out.trans hfb (by simp))
          have HG8 := Lib.hid (HG7.out.fr hfb (by simp))
          rw [HL.out, decide_eq_true rfl]
          clear hb hfb c0 c1 c6 c11
          go_wp2_with fail
          go_roundg (l.length - (k + 1))
          case measure => have := HG.out; omega
          case rel => exact ⟨k + 1, g2, F', by omega, rfl, by go_num, HG8.out, HF8.out⟩
        have t5 : (er != 0) = false := by simpa using he
        have t6 : decide (2 ≤ (r4 : Int)) = false := by simp; omega
        obtain ⟨⟨sg, sn, st, ss, sk, so⟩, hlog, hs1, hs2, hs3⟩ := HADD.out he (by omega)
        simp only at hs1 hs2 hs3
        have HL := Lib.hid hlog
        have hlen : g2.log.length = g.log.length + 1 := by rw [hlog]; simp
        have t7 : ((g2.log.length : Int) != (g.log.length : Int) + 1) = false := by rw [hlen]; simp
        have wl : IntKind.i64.wrap ((g.log.length : Int) + 1) = (g.log.length : Int) + 1 := IntWalk.i64_in _ (by omega)
        obtain ⟨b2, off2, rfl⟩ := hla2 g.log.length (by omega)
        have hTK := HN7.out.take g.log.length (by omega)
        rw [hlog, List.take_left] at hTK
        have HTK := Lib.hid hTK
        have hc2 : g.log.length ≤ lc2 := by omega
        have j0 : (0 : Int) ≤ (g.log.length : Int) := by omega
        have j1 : (g.log.length : Int) < (g2.log.length : Int) := by omega
        have j2 : (g.log.length : Int) ≤ (lc2 : Int) := by omega
        have HLEN := Lib.hid hlen
        clear he hlog hTK hlen
        go_wp2_with fail
        refine (rsame37_any _ _ g.log g.log w7 HTK.out HS7.out).mono ?_
        rintro e w8 ⟨rfl, hb⟩
        rw [decide_eq_true rfl]
        have hfb : Fr [] w7 w8 := Fr.ofBelow hb
        have HF8 := Lib.hid (HF7.out.trans hfb (by simp))
        have HG8 := Lib.hid (HG7.out.fr hfb (by simp))
        obtain ⟨y0, y1, y2, y3, y4, y5⟩ := (HN7.out.fr hfb).cells g.log.length ⟨sg, sn, st, ss, sk, so⟩ (by rw [HL.out, List.getElem?_append_right (Nat.le_refl _)]; simp)
        simp only at y0 y1 y2 y3 y4 y5
        have d0 := hfb.cell c0 (by simp)
        have d1 := hfb.cell c1 (by simp)
        have d6 := hfb.cell c6 (by simp)
        have d11 := hfb.cell c11 (by simp)
        clear hb hfb c0 c1 c6 c11
        obtain ⟨W9, hW9⟩ : ∃ W9, W9 = w8.alloc (.cells #[.int .i64 sg, .int .i64 sn, .int .i64 st, .int .i64 ss, .int .i64 sk, .string ⟨so.toArray⟩] 58) := ⟨_, rfl⟩
        obtain ⟨q, eq⟩ : ∃ q, q = w8.heap.size := ⟨_, rfl⟩
        have f9 : Fr [] w8 W9 := by rw [hW9]; exact (Fr.refl [] w8).alloc _
        have hq9 : W9.heap[q]? = some (.cells #[.int .i64 sg, .int .i64 sn, .int .i64 st, .int .i64 ss, .int .i64 sk, .string ⟨so.toArray⟩] 58 (0, 0)) := by rw [hW9]; exact heap_new eq
        have HF9 := Lib.hid (HF8.out.trans f9 (by simp))
        have HG9 := Lib.hid (HG8.out.fr f9 (by simp))
        have e0 := f9.cell d0 (by simp)
        have e1 := f9.cell d1 (by simp)
        have e6 := f9.cell d6 (by simp)
        have e11 := f9.cell d11 (by simp)
        have x2 := row_cell hq9 2
        have x3 := row_cell hq9 3
        have x4 := row_cell hq9 4
        simp at x2 x3 x4
        clear f9 hq9 d0 d1 d6 d11
        rw [hW9] at e0 e1 e6 e11
        subst hs1
        by_cases hr1 : r4 = 1
        case pos =>
          rw [if_pos hr1] at hs2 hs3
          subst hs2
          subst hs3
          have t8 : ((r4 : Int) == 1) = true := by rw [hr1]; rfl
          clear hr hr1
          go_wp2_with fail
          rw [← hW9]
          rw [← hW9] at e0 e1 e6 e11
          rw [← eq]
          clear hW9 eq
          go_quiet (fail)
          go_wp2_with fail
          go_roundg (l.length - (k + 1))
          case measure => have := HG.out; omega
          case rel => exact ⟨k + 1, g2, F', by omega, rfl, by go_num, HG9.out.fr ((Fr.refl [] W9).drewN _) (by simp), HF9.out.drewN _⟩
        case neg =>
          rw [if_neg hr1] at hs2 hs3
          subst hs2
          subst hs3
          have t8 : ((r4 : Int) == 1) = false := by rw [beq_eq_false_iff_ne]; omega
          clear hr hr1
          go_wp2_with fail
          rw [← hW9]
          rw [← hW9] at e0 e1 e6 e11
          rw [← eq]
          clear hW9 eq
          go_quiet (fail)
          go_wp2_with fail
          go_roundg (l.length - (k + 1))
          case measure => have := HG.out; omega
          case rel => exact ⟨k + 1, g2, F', by omega, rfl, by go_num, HG9.out.fr ((Fr.refl [] W9).drewN _) (by simp), HF9.out.drewN _⟩
      · obtain rfl : k = l.length := by omega
        have t3 : decide ((l.length : Int) < (l.length : Int)) = false := by simp
        go_wp2_with fail
        go_ret
        exact ⟨rfl, HF.out.toBelow (by simp)⟩
end Go.Proofs.YtglgkdbhdjkeaaaGreatDoor
