/-
  foyerlaw20.AuditServes.
-/
import Derived.Test.YtcohghaanakiiaaGreatDoorAuQ
namespace Go.Proofs.YtcohghaanakiiaaGreatDoor
open Go.RowKit
set_option maxRecDepth 100000

def plcI (o : Option Nat) : Int := match o with | some k => (k : Int) | none => -1
theorem plcI_end (l : List Int) (y : Int) : plcI (plcF l l.length y) = -1 := by rw [plcF_end]; rfl
theorem plcI_zero (l : List Int) (y : Int) : plcI (plcF l 0 y) = placeL l y := plcF_place l y
theorem plcI_step (l : List Int) (y : Int) {j : Nat} (hj : j < l.length) : plcI (plcF l j y) = if l.getD j 0 = y then (j : Int) else plcI (plcF l (j + 1) y) := by
  rw [plcF_step l j hj]
  unfold putP
  by_cases h : y = l.getD j 0
  · rw [if_pos h, if_pos h.symm]; rfl
  · rw [if_neg h, if_neg (fun e => h e.symm)]
theorem allS (l : List Aud) {k : Nat} (hk : k < l.length) : (l.take (k + 1)).all (fun x => !(x.kind == 6)) = ((l.take k).all (fun x => !(x.kind == 6)) && !((l.getD k ⟨0, 0, 0⟩).kind == 6)) := by
  rw [take_snoc' l k ⟨0, 0, 0⟩ hk, List.all_append]
  simp
set_option maxHeartbeats 16000000 in
theorem auditServes_any (v : Value) (p : Pbl) (w : World) (hT : Tabs w) (hv : PblR w v p) (ho : ∀ k ∈ p.order, inI k) (hs : ∀ k ∈ p.served, inI k) :
    Calls Tryz.prog 8 #[v] w fun e w' => e = .returned (.bool true) ∧ Below w.heap.size w w' := by
  have HV := Lib.hid hv
  have HT := Lib.hid hT
  have HLW := Lib.hid (serves_law (clsL p.ents) p)
  have HOI := Lib.hid ho
  have HSI := Lib.hid hs
  obtain ⟨ev, pv, ov, sv, rfl, h1, h2, h3, h4⟩ := hv
  obtain ⟨ea, ec, rfl, _, _, _⟩ := h1.form
  obtain ⟨pa, pc, rfl, _, _, _⟩ := h2.form
  obtain ⟨oa, oc, rfl, _, _, hoa⟩ := h3.form
  obtain ⟨sa, sc, rfl, _, _, hsa⟩ := h4.form
  have HO := Lib.hid h3
  have HS := Lib.hid h4
  obtain ⟨n, en⟩ : ∃ n, n = p.ents.length := ⟨_, rfl⟩
  obtain ⟨m, em⟩ : ∃ n, n = p.parts.length := ⟨_, rfl⟩
  obtain ⟨on, eon⟩ : ∃ n, n = p.order.length := ⟨_, rfl⟩
  obtain ⟨sn, esn⟩ : ∃ n, n = p.served.length := ⟨_, rfl⟩
  rw [← eon] at hoa HO
  rw [← esn] at hsa HS
  rw [← en, ← em, ← eon, ← esn] at HV ⊢
  have EON := Lib.hid eon
  have ESN := Lib.hid esn
  have hmx : Tryz.prog.follows .mixedOrders = true := by kernel_rfl
  obtain ⟨W1, hW1⟩ : ∃ W1, W1 = w.alloc (.cells #[.slice ea n ec, .string ⟨p.root.toArray⟩, .slice pa m pc, .slice oa on oc, .slice sa sn sc] 26) := ⟨_, rfl⟩
  obtain ⟨pb, epb⟩ : ∃ q, q = w.heap.size := ⟨_, rfl⟩
  have HP1 := Lib.hid (show W1.heap[pb]? = some (.cells #[.slice ea n ec, .string ⟨p.root.toArray⟩, .slice pa m pc, .slice oa on oc, .slice sa sn sc] 26 (0, 0)) by rw [hW1]; exact heap_new epb)
  have HF1 : Hid (Fr [] w W1) := Lib.hid (by rw [hW1]; exact (Fr.refl [] w).alloc _)
  have EW := Lib.hid hW1
  have EP := Lib.hid epb
  clear ho hs h1 h2 h3 h4 hT hW1 epb en em eon esn
  go_enter Tryz.func8, Tryz.ntmps8
  go_wp2_with fail
  rw [← EW.out, ← EP.out]
  refine (head20_any W1 (HT.out.fr HF1.out)).mono ?_
  rintro e w2 ⟨rfl, hb⟩
  have f2 := Fr.ofBelow (X := []) hb
  have HF2 := Lib.hid (HF1.out.trans f2 (by simp))
  have HP2 := Lib.hid (f2.at HP1.out (by simp))
  have HV2 := Lib.hid (HV.out.fr HF2.out)
  have p0 := row_cell HP2.out 0
  have p1 := row_cell HP2.out 1
  have p2 := row_cell HP2.out 2
  have p3 := row_cell HP2.out 3
  have p4 := row_cell HP2.out 4
  simp at p0 p1 p2 p3 p4
  clear hb f2
  go_wp2_with fail
  refine (few20_any _ p 20 w2 HV2.out).mono ?_
  rintro e w3 ⟨rfl, hb⟩
  have f3 := Fr.ofBelow (X := []) hb
  have HF3 := Lib.hid (HF2.out.trans f3 (by simp))
  have HP3 := Lib.hid (f3.at HP2.out (by simp))
  clear hb f3 p0 p1 p2 p3 p4
  obtain ⟨fb, efb⟩ : ∃ q, q = few20B p 20 := ⟨_, rfl⟩
  rw [← efb]
  cases fb with
  | false =>
    clear efb
    go_wp2_with fail
    go_ret
    exact ⟨rfl, HF3.out.toBelow (by simp)⟩
  | true =>
    have HOK := Lib.hid (few20_ok efb.symm HOI.out HSI.out)
    have b1 : on ≤ 60 := by have := HOK.out.2.2.2.1; have := EON.out; omega
    have b2 : sn ≤ 60 := by have := HOK.out.2.2.2.2; have := ESN.out; omega
    clear efb
    go_wp2_with fail
    go_loopg [4, 5, 6] (sn + 1) (fun gh fi la i wr => ∃ (k : Nat) (fv : Bool) (lv : Int), k ≤ sn ∧ gh = sn + 1 - k ∧ i = .int .i64 (k : Int) ∧ fi = .bool fv ∧ la = .int .i64 lv ∧ fineS p.order p.served k = (fv, lv) ∧ Fr [] w3 wr)
    case atStart => exact ⟨0, true, -1, by omega, by omega, rfl, rfl, rfl, rfl, Fr.refl _ _⟩
    case round =>
      obtain ⟨k, fv, lv, hk, hgh, rfl, rfl, rfl, hfi, hfr⟩ := hrel
      have HG := Lib.hid hgh
      have HFI := Lib.hid hfi
      have HFR := Lib.hid hfr
      have HW0 := Lib.hid (HF3.out.trans hfr (by simp))
      have p4 := row_cell (hfr.at HP3.out (by simp)) 4
      simp at p4
      by_cases hlt : k < sn
      · have t2 : decide ((k : Int) < (sn : Int)) = true := by simp; omega
        have t2' : decide (k < sn) = true := by simp; omega
        have p3 := row_cell (hfr.at HP3.out (by simp)) 3
        simp at p3
        obtain ⟨y, ey⟩ : ∃ y, y = p.served.getD k 0 := ⟨_, rfl⟩
        have EY := Lib.hid ey
        clear hgh hfi hfr ey
        go_wp2_with fail
        obtain ⟨wo, rfl⟩ : ∃ wo : World, wo = wr := ⟨_, rfl⟩
        clear p3 p4
        go_loopg [7, 8] (on + 1) (fun gh at_ i wr => ∃ j : Nat, j ≤ on ∧ gh = j + 1 ∧ i = .int .i64 ((j : Int) - 1) ∧ at_ = .int .i64 (plcI (plcF p.order j y)) ∧ Fr [] wo wr)
        case atStart => exact ⟨on, by omega, by omega, rfl, by rw [EON.out, plcI_end], Fr.refl _ _⟩
        case round =>
          obtain ⟨j, hj, hgj, rfl, rfl, hfj⟩ := hrel
          have HGJ := Lib.hid hgj
          have HFJ := Lib.hid hfj
          have HWJ := Lib.hid (HW0.out.trans hfj (by simp))
          have p3 := row_cell (hfj.at (HFR.out.at HP3.out (by simp)) (by simp)) 3
          have p4 := row_cell (hfj.at (HFR.out.at HP3.out (by simp)) (by simp)) 4
          simp at p3 p4
          cases j with
          | zero =>
            have t4 : decide ((0 : Int) ≤ ((0 : Nat) : Int) - 1) = false := by decide
            have e0 : (((0 : Nat) : Int) - 1) = -1 := by decide
            have HPZ := Lib.hid (plcI_zero p.order y)
            obtain ⟨pl, epl⟩ : ∃ q, q = plcI (plcF p.order 0 y) := ⟨_, rfl⟩
            rw [← epl] at HPZ ⊢
            have HFS : Hid (fineS p.order p.served (k + 1) = (fv && decide (lv < pl), max lv pl)) := Lib.hid (by
              have hf := HFI.out
              rw [fineS, hf, ← EY.out, HPZ.out])
            clear hgj hfj p3 p4 epl
            rw [e0]
            by_cases hpl : lv < pl
            · have t5 : decide (lv < pl) = true := by simpa using hpl
              have hm : max lv pl = pl := by omega
              have HF5 : Hid (fineS p.order p.served (k + 1) = (fv, pl)) := Lib.hid (by rw [HFS.out, t5, hm]; simp)
              have HFJK := Lib.hid (HFR.out.trans HFJ.out (by simp))
              clear hpl
              cases fv with
              | true =>
                go_wp2_with fail
                go_roundg (sn + 1 - (k + 1))
                case measure => have := HG.out; omega
                case rel => exact ⟨k + 1, true, pl, by omega, rfl, by go_num, rfl, by first | rfl | rw [hm], HF5.out, HFJK.out⟩
              | false =>
                go_wp2_with fail
                go_roundg (sn + 1 - (k + 1))
                case measure => have := HG.out; omega
                case rel => exact ⟨k + 1, false, pl, by omega, rfl, by go_num, rfl, by first | rfl | rw [hm], HF5.out, HFJK.out⟩
            · have t5 : decide (lv < pl) = false := by simpa using hpl
              have hm : max lv pl = lv := by omega
              have HF5 : Hid (fineS p.order p.served (k + 1) = (false, lv)) := Lib.hid (by rw [HFS.out, t5, hm]; simp)
              have HFJK := Lib.hid (HFR.out.trans HFJ.out (by simp))
              clear hpl
              cases fv with
              | true =>
                go_wp2_with fail
                go_roundg (sn + 1 - (k + 1))
                case measure => have := HG.out; omega
                case rel => exact ⟨k + 1, false, lv, by omega, rfl, by go_num, rfl, by first | rfl | rw [hm], HF5.out, HFJK.out⟩
              | false =>
                go_wp2_with fail
                go_roundg (sn + 1 - (k + 1))
                case measure => have := HG.out; omega
                case rel => exact ⟨k + 1, false, lv, by omega, rfl, by go_num, rfl, by first | rfl | rw [hm], HF5.out, HFJK.out⟩
          | succ q =>
            have e0 : (((q + 1 : Nat) : Int) - 1) = (q : Int) := by omega
            rw [e0]
            have t4 : decide ((0 : Int) ≤ (q : Int)) = true := by simp
            have hqn : q < on := by omega
            obtain ⟨ob, oo, rfl⟩ := hoa q hqn
            obtain ⟨sb, so, rfl⟩ := hsa k hlt
            have co := (HO.out.fr0 HWJ.out).cell q (by rw [← EON.out]; exact hqn)
            have cs := (HS.out.fr0 HWJ.out).cell k (by rw [← ESN.out]; exact hlt)
            rw [← EY.out] at cs
            obtain ⟨x, ex⟩ : ∃ x, x = p.order.getD q 0 := ⟨_, rfl⟩
            have hst := plcI_step p.order y (j := q) (by rw [← EON.out]; exact hqn)
            rw [← ex] at co hst
            obtain ⟨pl, epl⟩ : ∃ r, r = plcI (plcF p.order (q + 1) y) := ⟨_, rfl⟩
            rw [← epl] at hst ⊢
            have HST := Lib.hid hst
            have i0 : (0 : Int) ≤ (q : Int) := by omega
            have i1 : (q : Int) < (on : Int) := by omega
            have i2 : (0 : Int) ≤ (k : Int) := by omega
            have i3 : (k : Int) < (sn : Int) := by omega
            clear hst epl ex hgj hfj e0
            by_cases hxy : x = y
            · have t5 : (x == y) = true := by simpa using hxy
              have HS2 : Hid (plcI (plcF p.order q y) = (q : Int)) := Lib.hid (by rw [HST.out, if_pos hxy])
              clear hxy
              go_wp2_with fail
              go_quiet (fail)
              go_wp2_with fail
              go_roundg (q + 1)
              case measure => have := HGJ.out; omega
              case rel => exact ⟨q, by omega, rfl, by go_num, by rw [HS2.out], HFJ.out.drewN _⟩
            · have t5 : (x == y) = false := by simpa using hxy
              have HS2 : Hid (plcI (plcF p.order q y) = pl) := Lib.hid (by rw [HST.out, if_neg hxy])
              clear hxy
              go_wp2_with fail
              go_quiet (fail)
              go_wp2_with fail
              go_roundg (q + 1)
              case measure => have := HGJ.out; omega
              case rel => exact ⟨q, by omega, rfl, by go_num, by rw [HS2.out], HFJ.out.drewN _⟩
      · obtain rfl : k = sn := by omega
        have t2 : decide ((k : Int) < (k : Int)) = false := by simp
        have HLF : Hid ((checkS (clsL p.ents) p).all (fun x => !(x.kind == 6)) = fv) := Lib.hid (by
          have h := HLW.out
          rw [← ESN.out, HFI.out] at h
          exact h.symm)
        have HPR := Lib.hid (hfr.at HP3.out (by simp))
        have p0 := row_cell HPR.out 0
        have p1 := row_cell HPR.out 1
        have p2 := row_cell HPR.out 2
        have p3 := row_cell HPR.out 3
        have p4 := row_cell HPR.out 4
        simp at p0 p1 p2 p3 p4
        clear hgh hfi hfr
        go_wp2_with fail
        refine (check20_any _ p wr (HV.out.fr HW0.out) HOK.out.1 (HT.out.fr HW0.out)).mono ?_
        rintro e w4 ⟨cv, rfl, hcv, hb⟩
        obtain ⟨ca, cc, rfl, hl1, hl2, hla⟩ := hcv.form
        have HC := Lib.hid hcv
        have HF4 := Lib.hid (HW0.out.below hb HW0.out.size)
        obtain ⟨L, eL⟩ : ∃ L, L = checkS (clsL p.ents) p := ⟨_, rfl⟩
        rw [← eL] at hl1 hla HC HLF ⊢
        obtain ⟨ln, eln⟩ : ∃ q, q = L.length := ⟨_, rfl⟩
        rw [← eln] at hl1 hla HC ⊢
        have ELN := Lib.hid eln
        clear hb hcv eL eln p0 p1 p2 p3 p4
        go_wp2_with fail
        go_loopg [10, 11] (ln + 1) (fun gh no i wr => ∃ q : Nat, q ≤ ln ∧ gh = ln + 1 - q ∧ i = .int .i64 (q : Int) ∧ no = .bool ((L.take q).all (fun x => !(x.kind == 6))) ∧ Fr [] w4 wr)
        case atStart => exact ⟨0, by omega, by omega, rfl, by simp, Fr.refl _ _⟩
        case round =>
          obtain ⟨q, hq, hgq, rfl, rfl, hfq⟩ := hrel
          have HGQ := Lib.hid hgq
          have HFQ := Lib.hid hfq
          clear hgq hfq
          by_cases hltq : q < ln
          · have t6 : decide ((q : Int) < (ln : Int)) = true := by simp; omega
            obtain ⟨ab, ao, rfl⟩ := hla q hltq
            obtain ⟨x, hx⟩ : ∃ x, L[q]? = some x := ⟨L[q]'(by rw [← ELN.out]; exact hltq), List.getElem?_eq_getElem _⟩
            have hcx := ((HC.out.fr HFQ.out).cells q x hx).1
            have HAS : Hid ((L.take (q + 1)).all (fun x => !(x.kind == 6)) = ((L.take q).all (fun x => !(x.kind == 6)) && !(x.kind == 6))) := Lib.hid (by
              have := allS L (k := q) (by rw [← ELN.out]; exact hltq)
              rw [List.getD_eq_getElem?_getD, hx] at this
              exact this)
            have i0 : (0 : Int) ≤ (q : Int) := by omega
            have i1 : (q : Int) < (ln : Int) := by omega
            obtain ⟨pa1, epa⟩ : ∃ r, r = (L.take q).all (fun x => !(x.kind == 6)) := ⟨_, rfl⟩
            rw [← epa] at HAS ⊢
            clear hx epa
            cases pa1 with
            | false =>
              go_wp2_with fail
              go_roundg (ln + 1 - (q + 1))
              case measure => have := HGQ.out; omega
              case rel => exact ⟨q + 1, by omega, rfl, by go_num, by rw [HAS.out]; rfl, HFQ.out⟩
            | true =>
              obtain ⟨kb, ekb⟩ : ∃ r, r = (x.kind == 6) := ⟨_, rfl⟩
              rw [← ekb] at HAS
              have t7 : (x.kind != 6) = !kb := by rw [ekb]; rfl
              clear ekb
              cases kb <;> simp only [Bool.not_true, Bool.not_false] at t7
              all_goals
                go_wp2_with fail
                go_roundg (ln + 1 - (q + 1))
                case measure => have := HGQ.out; omega
                case rel => exact ⟨q + 1, by omega, rfl, by go_num, by rw [HAS.out]; rfl, HFQ.out⟩
          · obtain rfl : q = ln := by omega
            have t6 : decide ((q : Int) < (q : Int)) = false := by simp
            have HE : Hid ((L.take q).all (fun x => !(x.kind == 6)) = fv) := Lib.hid (by rw [ELN.out, List.take_length]; exact HLF.out)
            rw [HE.out]
            cases fv <;>
            · go_wp2_with fail
              go_ret
              exact ⟨rfl, (HF4.out.trans HFQ.out (by simp)).toBelow (by simp)⟩
end Go.Proofs.YtcohghaanakiiaaGreatDoor
