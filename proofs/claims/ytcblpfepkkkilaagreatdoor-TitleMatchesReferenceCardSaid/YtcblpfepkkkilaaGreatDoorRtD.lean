/-
  foyerref30.Formed.
-/
import Derived.Test.YtcblpfepkkkilaaGreatDoorTtB
import Derived.Test.YtcblpfepkkkilaaGreatDoorRefB
namespace Go.Proofs.YtcblpfepkkkilaaGreatDoor
open Go.RowKit

set_option maxRecDepth 100000 in
set_option maxHeartbeats 4000000 in
theorem rformed30_any (v : Value) (t : Ttl) (w : World) (hv : TtlR w v t) (hS : TSmall t) :
    Calls Tryz.prog 52 #[v] w fun e w' => e = .returned (.bool (formedT t)) ∧ Below w.heap.size w w' := by
  obtain ⟨cv, rfl, hc⟩ := hv
  obtain ⟨a, cap, rfl, hlc, hcap, ha⟩ := hc.form
  have HC := Lib.hid hc
  have HS := Lib.hid hS
  have hs1 := hS.s
  clear hc hS
  obtain ⟨r, er⟩ : ∃ r, r = formedT t := ⟨_, rfl⟩
  rw [← er]
  have HNO : Hid (¬ ((0 ≤ t.shw ∧ t.shw < 20) ∧ (1 ≤ t.serial - (t.shw + 1) * 10000 ∧ t.serial - (t.shw + 1) * 10000 ≤ 9999) ∧ (-1 ≤ t.place ∧ t.place < 4000) ∧ isD t.first = true ∧ t.chain.length ≤ 50 ∧ t.chain.all formX = true) → r = false) := Lib.hid (fun h => er.trans (formedT_no h))
  have HYE : Hid ((0 ≤ t.shw ∧ t.shw < 20) ∧ (1 ≤ t.serial - (t.shw + 1) * 10000 ∧ t.serial - (t.shw + 1) * 10000 ≤ 9999) ∧ (-1 ≤ t.place ∧ t.place < 4000) ∧ isD t.first = true ∧ t.chain.length ≤ 50 ∧ t.chain.all formX = true → r = true) := Lib.hid (fun h => er.trans (formedT_yes h))
  clear er
  obtain ⟨W0, hW0⟩ : ∃ W0, W0 = w.alloc (.cells #[.int .i64 t.serial, .int .i64 t.shw, .int .i64 t.place, .string ⟨t.first.toArray⟩, .slice a t.chain.length cap] 24) := ⟨_, rfl⟩
  obtain ⟨p, ep⟩ : ∃ p, p = w.heap.size := ⟨_, rfl⟩
  have h0 : Fr [] w W0 := by rw [hW0]; exact (Fr.refl [] w).alloc _
  have hp0 : W0.heap[p]? = some (.cells #[.int .i64 t.serial, .int .i64 t.shw, .int .i64 t.place, .string ⟨t.first.toArray⟩, .slice a t.chain.length cap] 24 (0, 0)) := by rw [hW0, ep]; exact heap_new rfl
  have c0 := row_cell hp0 0
  have c1 := row_cell hp0 1
  have c2 := row_cell hp0 2
  have c3 := row_cell hp0 3
  have c4 := row_cell hp0 4
  simp at c0 c1 c2 c3 c4
  rw [hW0, ep] at c0 c1 c2 c3 c4
  have HP0 := Lib.hid hp0
  have H0 := Lib.hid h0
  have HFW := Lib.hid h0
  rw [hW0] at HFW
  clear hp0 h0
  by_cases h1 : 0 ≤ t.shw
  case neg =>
    have t0 : decide (t.shw < 0) = true := by simp; omega
    have HX : Hid (r = false) := Lib.hid (HNO.out (fun hp => h1 hp.1.1))
    clear hW0 ep h1
    go_enter Tryz.func52, Tryz.ntmps52
    go_wp2_with fail
    go_ret
    exact ⟨by rw [HX.out]; rfl, HFW.out.toBelow (by simp)⟩
  have t0 : decide (t.shw < 0) = false := by simp; omega
  by_cases h2 : t.shw < 20
  case neg =>
    have t1 : decide (20 ≤ t.shw) = true := by simp; omega
    have HX : Hid (r = false) := Lib.hid (HNO.out (fun hp => h2 hp.1.2))
    clear hW0 ep h1 h2
    go_enter Tryz.func52, Tryz.ntmps52
    go_wp2_with fail
    go_ret
    exact ⟨by rw [HX.out]; rfl, HFW.out.toBelow (by simp)⟩
  have t1 : decide (20 ≤ t.shw) = false := by simp; omega
  obtain ⟨kk, ekk, hkk⟩ := kk_wrap hs1 h1 h2
  have w1 : IntKind.i64.wrap (t.shw + 1) = t.shw + 1 := IntWalk.i64_in _ (by omega)
  have w2 : IntKind.i64.wrap ((t.shw + 1) * 10000) = (t.shw + 1) * 10000 := IntWalk.i64_in _ (by omega)
  rw [w1, w2] at ekk
  have HKK := Lib.hid hkk
  clear hkk
  by_cases h3 : 1 ≤ kk
  case neg =>
    have t2 : decide (kk < 1) = true := by simp; omega
    have HX : Hid (r = false) := Lib.hid (HNO.out (fun hp => h3 (HKK.out.2 hp.2.1).1))
    clear hW0 ep h1 h2 h3
    go_enter Tryz.func52, Tryz.ntmps52
    go_wp2_with fail
    go_ret
    exact ⟨by rw [HX.out]; rfl, HFW.out.toBelow (by simp)⟩
  have t2 : decide (kk < 1) = false := by simp; omega
  by_cases h4 : kk ≤ 9999
  case neg =>
    have t3 : decide (9999 < kk) = true := by simp; omega
    have HX : Hid (r = false) := Lib.hid (HNO.out (fun hp => h4 (HKK.out.2 hp.2.1).2))
    clear hW0 ep h1 h2 h3 h4
    go_enter Tryz.func52, Tryz.ntmps52
    go_wp2_with fail
    go_ret
    exact ⟨by rw [HX.out]; rfl, HFW.out.toBelow (by simp)⟩
  have t3 : decide (9999 < kk) = false := by simp; omega
  by_cases h5 : -1 ≤ t.place
  case neg =>
    have t4 : decide (t.place < -1) = true := by simp; omega
    have HX : Hid (r = false) := Lib.hid (HNO.out (fun hp => h5 hp.2.2.1.1))
    clear hW0 ep h1 h2 h3 h4 h5
    go_enter Tryz.func52, Tryz.ntmps52
    go_wp2_with fail
    go_ret
    exact ⟨by rw [HX.out]; rfl, HFW.out.toBelow (by simp)⟩
  have t4 : decide (t.place < -1) = false := by simp; omega
  by_cases h6 : t.place < 4000
  case neg =>
    have t5 : decide (4000 ≤ t.place) = true := by simp; omega
    have HX : Hid (r = false) := Lib.hid (HNO.out (fun hp => h6 hp.2.2.1.2))
    clear hW0 ep h1 h2 h3 h4 h5 h6
    go_enter Tryz.func52, Tryz.ntmps52
    go_wp2_with fail
    go_ret
    exact ⟨by rw [HX.out]; rfl, HFW.out.toBelow (by simp)⟩
  have t5 : decide (4000 ≤ t.place) = false := by simp; omega
  have HA : Hid ((0 ≤ t.shw ∧ t.shw < 20) ∧ (1 ≤ t.serial - (t.shw + 1) * 10000 ∧ t.serial - (t.shw + 1) * 10000 ≤ 9999) ∧ (-1 ≤ t.place ∧ t.place < 4000)) := Lib.hid ⟨⟨h1, h2⟩, HKK.out.1 ⟨h3, h4⟩, ⟨h5, h6⟩⟩
  clear h1 h2 h3 h4 h5 h6
  have hfl : t.first.length ≤ 9223372036854775807 := by have := HS.out.f; omega
  go_enter Tryz.func52, Tryz.ntmps52
  go_wp2_with fail
  rw [← hW0, ← ep]
  rw [← hW0, ← ep] at c0 c1 c2 c3 c4
  clear hW0 ep
  refine (ris_any t.first W0 hfl).mono ?_
  rintro e w1 ⟨rfl, hww⟩
  subst hww
  have h1 := H0.out
  have HQ0 := HP0
  clear c0 c1 c2 c3 c4
  have c4 := row_cell HP0.out 4
  simp at c4
  cases hd : isD t.first with
  | false =>
    have HX : Hid (r = false) := Lib.hid (HNO.out (fun hp => by rw [hd] at hp; exact absurd hp.2.2.2.1 (by decide)))
    clear hd
    go_wp2_with fail
    go_ret
    exact ⟨by rw [HX.out]; rfl, h1.toBelow (by simp)⟩
  | true =>
    have HD := Lib.hid hd
    clear hd
    by_cases hl : t.chain.length ≤ 50
    case neg =>
      have t7 : decide ((50 : Int) < (t.chain.length : Int)) = true := by simp; omega
      have HX : Hid (r = false) := Lib.hid (HNO.out (fun hp => hl hp.2.2.2.2.1))
      go_wp2_with fail
      go_ret
      exact ⟨by rw [HX.out]; rfl, h1.toBelow (by simp)⟩
    have t7 : decide ((50 : Int) < (t.chain.length : Int)) = false := by simp; omega
    go_wp2_with fail
    go_loopg [4] (t.chain.length + 1) (fun g i wr => ∃ k : Nat, k ≤ t.chain.length ∧ g = t.chain.length + 1 - k ∧ i = .int .i64 (k : Int) ∧ (t.chain.take k).all formX = true ∧ W0 = wr)
    case atStart => exact ⟨0, by omega, by omega, rfl, by simp, rfl⟩
    case round =>
      obtain ⟨k, hk, hg, rfl, hall, rfl⟩ := hrel
      have HG := Lib.hid hg
      have HALL := Lib.hid hall
      clear hg hall
      by_cases hlt : k < t.chain.length
      · obtain ⟨b, off, rfl⟩ := ha k hlt
        have t8 : decide ((k : Int) < (t.chain.length : Int)) = true := by simp; omega
        obtain ⟨x, hx⟩ : ∃ x, t.chain[k]? = some x := ⟨_, List.getElem?_eq_getElem hlt⟩
        obtain ⟨e0, u, e1, hu⟩ := (HC.out.fr h1).cells k x hx
        obtain ⟨sa, scap, rfl, hsl, hsc, hsa⟩ := hu.form
        have HU := Lib.hid hu
        have HM := Lib.hid (List.mem_of_getElem? hx)
        have HTK : Hid ((t.chain.take (k + 1)).all formX = ((t.chain.take k).all formX && formX x)) := Lib.hid (by rw [List.take_add_one, hx, List.all_append]; simp)
        have HFO : Hid (formX x = false → r = false) := Lib.hid (fun h => HNO.out (fun hp => by
          have := List.all_eq_true.1 hp.2.2.2.2.2 x HM.out
          rw [h] at this
          cases this))
        have hxs := HS.out.c x HM.out
        have htl : x.nk.length ≤ 9223372036854775807 := by omega
        have HXS := Lib.hid hxs.2.2
        have i0 : (0 : Int) ≤ (k : Int) := by omega
        have i1 : (k : Int) < (t.chain.length : Int) := by omega
        clear hx hu hxs
        go_wp2_with fail
        refine (ris_any x.nk W0 htl).mono ?_
        rintro e w6 ⟨rfl, hww⟩
        subst hww
        cases hd2 : isD x.nk with
        | false =>
          have HX : Hid (r = false) := Lib.hid (HFO.out (by unfold formX; rw [hd2, Bool.and_false, Bool.false_and]))
          clear hd2
          go_wp2_with fail
          go_ret
          exact ⟨by rw [HX.out]; rfl, h1.toBelow (by simp)⟩
        | true =>
          have HD2 := Lib.hid hd2
          clear hd2
          by_cases h18 : x.sig.length = 18
          case neg =>
            have t9 : ((x.sig.length : Int) != 18) = true := by rw [bne_iff_ne]; omega
            have HX : Hid (r = false) := Lib.hid (HFO.out (by unfold formX; rw [decide_eq_false h18]; rfl))
            clear h18
            go_wp2_with fail
            go_ret
            exact ⟨by rw [HX.out]; rfl, h1.toBelow (by simp)⟩
          have t9 : ((x.sig.length : Int) != 18) = false := by rw [h18]; rfl
          have HFE : Hid (formX x = x.sig.all isD) := Lib.hid (by unfold formX; rw [decide_eq_true h18, HD2.out]; rfl)
          have H18 := Lib.hid h18
          clear h18
          go_wp2_with fail
          go_loopg [5] 19 (fun gi i wi => ∃ m : Nat, m ≤ 18 ∧ gi = 19 - m ∧ i = .int .i64 (m : Int) ∧ (x.sig.take m).all isD = true ∧ W0 = wi)
          case atStart => exact ⟨0, by omega, by omega, rfl, by simp, rfl⟩
          case round =>
            obtain ⟨m, hm, hgi, rfl, hal, rfl⟩ := hrel
            have HG2 := Lib.hid hgi
            have HB := Lib.hid hal
            clear hgi hal
            by_cases hlm : m < 18
            · have t10 : decide ((m : Int) < 18) = true := by simp; omega
              have hlm2 : m < x.sig.length := by rw [H18.out]; exact hlm
              obtain ⟨sb, so, rfl⟩ := hsa m hlm2
              have hcs := HU.out.cell m hlm2
              have HTM : Hid ((x.sig.take (m + 1)).all isD = ((x.sig.take m).all isD && isD (x.sig.getD m []))) := Lib.hid (by rw [take_snoc' _ m [] hlm2, List.all_append]; simp)
              have HSM : Hid (x.sig.getD m [] ∈ x.sig) := Lib.hid (getD_mem x.sig m [] hlm2)
              generalize x.sig.getD m [] = s at hcs HSM HTM
              have hsl9 : s.length ≤ 9223372036854775807 := by have := HXS.out s HSM.out; omega
              have i2 : (0 : Int) ≤ (m : Int) := by omega
              have i3 : (m : Int) < (x.sig.length : Int) := by omega
              go_wp2_with fail
              refine (ris_any s W0 hsl9).mono ?_
              rintro e w6 ⟨rfl, hww⟩
              subst hww
              cases hd3 : isD s with
              | false =>
                have HX : Hid (r = false) := Lib.hid (HFO.out (by rw [HFE.out]; exact List.all_eq_false.2 ⟨s, HSM.out, by rw [hd3]; decide⟩))
                clear hd3
                go_wp2_with fail
                go_ret
                exact ⟨by rw [HX.out]; rfl, h1.toBelow (by simp)⟩
              | true =>
                have HT1 : Hid ((x.sig.take (m + 1)).all isD = true) := Lib.hid (by rw [HTM.out, HB.out, hd3]; rfl)
                clear hd3
                go_wp2_with fail
                go_roundg (19 - (m + 1))
                case measure => have := HG2.out; omega
                case rel => exact ⟨m + 1, by omega, rfl, by go_num, HT1.out, rfl⟩
            · obtain rfl : m = 18 := by omega
              have t10 : decide ((18 : Int) < 18) = false := by decide
              have HFX : Hid (formX x = true) := Lib.hid (by
                rw [HFE.out]
                have := HB.out
                rwa [List.take_of_length_le (by rw [H18.out]; exact Nat.le_refl _)] at this)
              go_wp2_with fail
              go_roundg (t.chain.length + 1 - (k + 1))
              case measure => have := HG.out; omega
              case rel => exact ⟨k + 1, by omega, rfl, by go_num, by rw [HTK.out, HALL.out, HFX.out]; rfl, rfl⟩
      · obtain rfl : k = t.chain.length := by omega
        have t8 : decide ((t.chain.length : Int) < (t.chain.length : Int)) = false := by simp
        have HX : Hid (r = true) := Lib.hid (HYE.out ⟨HA.out.1, HA.out.2.1, HA.out.2.2, HD.out, hl, by have := HALL.out; rwa [List.take_length] at this⟩)
        go_wp2_with fail
        go_ret
        exact ⟨by rw [HX.out]; rfl, h1.toBelow (by simp)⟩
end Go.Proofs.YtcblpfepkkkilaaGreatDoor
