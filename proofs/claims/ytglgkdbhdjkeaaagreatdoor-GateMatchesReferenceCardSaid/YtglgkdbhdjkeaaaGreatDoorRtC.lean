/-
  foyerref30.Cut.
  foyerref30.Formed.
  foyerref30: decimal, Owner, Used, Fields.
  foyerref30: Message, Valid.
-/
import Derived.Test.YtglgkdbhdjkeaaaGreatDoorTtI
import Derived.Test.YtglgkdbhdjkeaaaGreatDoorTtB
import Derived.Test.YtglgkdbhdjkeaaaGreatDoorRefB
import Derived.Test.YtglgkdbhdjkeaaaGreatDoorPlnHv
import Derived.Test.YtglgkdbhdjkeaaaGreatDoorRefD
import Derived.Test.YtglgkdbhdjkeaaaGreatDoorPlnTt
namespace Go.Proofs.YtglgkdbhdjkeaaaGreatDoor
open Go.RowKit

set_option maxRecDepth 100000 in
set_option maxHeartbeats 2000000 in
theorem rcut30_any (v : Value) (t : Ttl) (k : Nat) (w : World) (hv : TtlR w v t) (hk : k ≤ t.chain.length) :
    Calls Tryz.prog 64 #[v, .int .i64 (k : Nat)] w fun e w' => (∃ v', e = .returned v' ∧ TtlR w' v' (cutT t k)) ∧ Below w.heap.size w w' := by
  obtain ⟨cv, rfl, hc⟩ := hv
  obtain ⟨a, cap, rfl, hlc, hcap, ha⟩ := hc.form
  obtain ⟨W0, hW0⟩ : ∃ W0, W0 = (w.alloc (.cells #[.int .i64 t.serial, .int .i64 t.shw, .int .i64 t.place, .string ⟨t.first.toArray⟩, .slice a t.chain.length cap] 34)).alloc (.cells #[.int .i64 0, .int .i64 0, .int .i64 0, .string ⟨#[]⟩, .slice none 0 0] 34) := ⟨_, rfl⟩
  obtain ⟨p, ep⟩ : ∃ p, p = w.heap.size := ⟨_, rfl⟩
  have h0 : Fr [] w W0 := by rw [hW0]; exact ((Fr.refl [] w).alloc _).alloc _
  have hq0 : W0.heap[p]? = some (.cells #[.int .i64 t.serial, .int .i64 t.shw, .int .i64 t.place, .string ⟨t.first.toArray⟩, .slice a t.chain.length cap] 34 (0, 0)) := by rw [hW0, ep]; exact heap_past _ (heap_new rfl)
  have hq1 : W0.heap[p + 1]? = some (.cells #[.int .i64 0, .int .i64 0, .int .i64 0, .string ⟨#[]⟩, .slice none 0 0] 34 (0, 0)) := by rw [hW0, ep]; exact heap_new (by simp)
  have c4 := row_cell hq0 4
  have f4 := row_free hq0 4
  simp at c4
  rw [hW0, ep] at c4 f4
  have i0 : (0 : Int) ≤ (k : Int) := by omega
  have i1 : (k : Int) ≤ (cap : Int) := by omega
  have i2 : (k : Int) ≤ (t.chain.length : Int) := by omega
  obtain ⟨a', ha', htr⟩ : ∃ a', a' = a ∧ Trs w (.slice a' k cap) (t.chain.take k) := ⟨a, rfl, hc.take k hk⟩
  subst ha'
  have HTR := Lib.hid htr
  clear htr hc ha
  go_enter Tryz.func64, Tryz.ntmps64
  go_wp2_with fail
  have hz : ((w.alloc (.cells #[.int .i64 t.serial, .int .i64 t.shw, .int .i64 t.place, .string ⟨t.first.toArray⟩, .slice a' k cap] 34)).alloc (.cells #[.int .i64 t.serial, .int .i64 t.shw, .int .i64 t.place, .string ⟨t.first.toArray⟩, .slice a' k cap] 34)).heap[w.heap.size + 1]? = some (.cells #[.int .i64 t.serial, .int .i64 t.shw, .int .i64 t.place, .string ⟨t.first.toArray⟩, .slice a' k cap] 34 (0, 0)) := heap_new (by simp)
  have z0 := row_cell hz 0
  have z1 := row_cell hz 1
  have z2 := row_cell hz 2
  have z3 := row_cell hz 3
  have z4 := row_cell hz 4
  simp at z0 z1 z2 z3 z4
  have hf : Fr [] w ((w.alloc (.cells #[.int .i64 t.serial, .int .i64 t.shw, .int .i64 t.place, .string ⟨t.first.toArray⟩, .slice a' k cap] 34)).alloc (.cells #[.int .i64 t.serial, .int .i64 t.shw, .int .i64 t.place, .string ⟨t.first.toArray⟩, .slice a' k cap] 34)) := ((Fr.refl [] w).alloc _).alloc _
  refine bodyPost_ret (v := .agg #[.int .i64 t.serial, .int .i64 t.shw, .int .i64 t.place, .string ⟨t.first.toArray⟩, .slice a' k cap]) ?_ rfl ⟨⟨_, rfl, ⟨_, by unfold cutT; rfl, HTR.out.fr hf⟩⟩, hf.toBelow (by simp)⟩
  simp only [results]
  go_simp
end Go.Proofs.YtglgkdbhdjkeaaaGreatDoor
namespace Go.Proofs.YtglgkdbhdjkeaaaGreatDoor
open Go.RowKit

set_option maxRecDepth 100000 in
set_option maxHeartbeats 4000000 in
theorem rformed30_any (v : Value) (t : Ttl) (w : World) (hv : TtlR w v t) (hS : TSmall t) :
    Calls Tryz.prog 63 #[v] w fun e w' => e = .returned (.bool (formedT t)) ∧ Below w.heap.size w w' := by
  obtain ⟨cv, rfl, hc⟩ := hv
  obtain ⟨a, cap, rfl, hlc, hcap, ha⟩ := hc.form
  have HC := Lib.hid hc
  have HS := Lib.hid hS
  have hs1 := hS.s
  clear hc hS
  obtain ⟨r, er⟩ : ∃ r, r = formedT t := ⟨_, rfl⟩
  rw [← er]
  have HNO : Hid (¬ ((0 ≤ t.shw ∧ t.shw < 20) ∧ (1 ≤ t.serial - (t.shw + 1) * 10000 ∧ t.serial - (t.shw + 1) * 10000 ≤ 9999) ∧ (-1 ≤ t.place ∧ t.place < 4000) ∧ isD t.first = true ∧ t.chain.length ≤ 50 ∧ t.chain.all formX = true) → r = false) := Lib.hid (fun h => er.trans (formedT_no h))
  have HYE : Hid ((0 ≤ t.shw ∧ t.shw < 20) ∧ (1 ≤ t.serial - (t.shw + 1) * 10000 ∧ t.serial - (t.shw + 1) * 10000 ≤ 9999) ∧ (-1 ≤ t.place ∧ t.place < 4000) ∧ isD t.first = true ∧ t.chain.length ≤ 50 ∧ t.chain.all formX = true → r = true) := Lib.hid (fun h => er.trans (formedT_yes h))
  clear er
  obtain ⟨W0, hW0⟩ : ∃ W0, W0 = w.alloc (.cells #[.int .i64 t.serial, .int .i64 t.shw, .int .i64 t.place, .string ⟨t.first.toArray⟩, .slice a t.chain.length cap] 34) := ⟨_, rfl⟩
  obtain ⟨p, ep⟩ : ∃ p, p = w.heap.size := ⟨_, rfl⟩
  have h0 : Fr [] w W0 := by rw [hW0]; exact (Fr.refl [] w).alloc _
  have hp0 : W0.heap[p]? = some (.cells #[.int .i64 t.serial, .int .i64 t.shw, .int .i64 t.place, .string ⟨t.first.toArray⟩, .slice a t.chain.length cap] 34 (0, 0)) := by rw [hW0, ep]; exact heap_new rfl
  have c0 := row_cell hp0 0
  have c1 := row_cell hp0 1
  have c2 := row_cell hp0 2
  have c3 := row_cell hp0 3
  have c4 := row_cell hp0 4
  simp at c0 c1 c2 c3 c4
  rw [hW0, ep] at c0 c1 c2 c3 c4
  have HP0 := Lib.hid hp0
  have H0 := Lib.hid h0
  have HFW := Lib.hid h0
  rw [hW0] at HFW
  clear hp0 h0
  by_cases h1 : 0 ≤ t.shw
  case neg =>
    have t0 : decide (t.shw < 0) = true := by simp; omega
    have HX : Hid (r = false) := Lib.hid (HNO.out (fun hp => h1 hp.1.1))
    clear hW0 ep h1
    go_enter Tryz.func63, Tryz.ntmps63
    go_wp2_with fail
    go_ret
    exact ⟨by rw [HX.out]; rfl, HFW.out.toBelow (by simp)⟩
  have t0 : decide (t.shw < 0) = false := by simp; omega
  by_cases h2 : t.shw < 20
  case neg =>
    have t1 : decide (20 ≤ t.shw) = true := by simp; omega
    have HX : Hid (r = false) := Lib.hid (HNO.out (fun hp => h2 hp.1.2))
    clear hW0 ep h1 h2
    go_enter Tryz.func63, Tryz.ntmps63
    go_wp2_with fail
    go_ret
    exact ⟨by rw [HX.out]; rfl, HFW.out.toBelow (by simp)⟩
  have t1 : decide (20 ≤ t.shw) = false := by simp; omega
  obtain ⟨kk, ekk, hkk⟩ := kk_wrap hs1 h1 h2
  have w1 : IntKind.i64.wrap (t.shw + 1) = t.shw + 1 := IntWalk.i64_in _ (by omega)
  have w2 : IntKind.i64.wrap ((t.shw + 1) * 10000) = (t.shw + 1) * 10000 := IntWalk.i64_in _ (by omega)
  rw [w1, w2] at ekk
  have HKK := Lib.hid hkk
  clear hkk
  by_cases h3 : 1 ≤ kk
  case neg =>
    have t2 : decide (kk < 1) = true := by simp; omega
    have HX : Hid (r = false) := Lib.hid (HNO.out (fun hp => h3 (HKK.out.2 hp.2.1).1))
    clear hW0 ep h1 h2 h3
    go_enter Tryz.func63, Tryz.ntmps63
    go_wp2_with fail
    go_ret
    exact ⟨by rw [HX.out]; rfl, HFW.out.toBelow (by simp)⟩
  have t2 : decide (kk < 1) = false := by simp; omega
  by_cases h4 : kk ≤ 9999
  case neg =>
    have t3 : decide (9999 < kk) = true := by simp; omega
    have HX : Hid (r = false) := Lib.hid (HNO.out (fun hp => h4 (HKK.out.2 hp.2.1).2))
    clear hW0 ep h1 h2 h3 h4
    go_enter Tryz.func63, Tryz.ntmps63
    go_wp2_with fail
    go_ret
    exact ⟨by rw [HX.out]; rfl, HFW.out.toBelow (by simp)⟩
  have t3 : decide (9999 < kk) = false := by simp; omega
  by_cases h5 : -1 ≤ t.place
  case neg =>
    have t4 : decide (t.place < -1) = true := by simp; omega
    have HX : Hid (r = false) := Lib.hid (HNO.out (fun hp => h5 hp.2.2.1.1))
    clear hW0 ep h1 h2 h3 h4 h5
    go_enter Tryz.func63, Tryz.ntmps63
    go_wp2_with fail
    go_ret
    exact ⟨by rw [HX.out]; rfl, HFW.out.toBelow (by simp)⟩
  have t4 : decide (t.place < -1) = false := by simp; omega
  by_cases h6 : t.place < 4000
  case neg =>
    have t5 : decide (4000 ≤ t.place) = true := by simp; omega
    have HX : Hid (r = false) := Lib.hid (HNO.out (fun hp => h6 hp.2.2.1.2))
    clear hW0 ep h1 h2 h3 h4 h5 h6
    go_enter Tryz.func63, Tryz.ntmps63
    go_wp2_with fail
    go_ret
    exact ⟨by rw [HX.out]; rfl, HFW.out.toBelow (by simp)⟩
  have t5 : decide (4000 ≤ t.place) = false := by simp; omega
  have HA : Hid ((0 ≤ t.shw ∧ t.shw < 20) ∧ (1 ≤ t.serial - (t.shw + 1) * 10000 ∧ t.serial - (t.shw + 1) * 10000 ≤ 9999) ∧ (-1 ≤ t.place ∧ t.place < 4000)) := Lib.hid ⟨⟨h1, h2⟩, HKK.out.1 ⟨h3, h4⟩, ⟨h5, h6⟩⟩
  clear h1 h2 h3 h4 h5 h6
  have hfl : t.first.length ≤ 9223372036854775807 := by have := HS.out.f; omega
  go_enter Tryz.func63, Tryz.ntmps63
  go_wp2_with fail
  rw [← hW0, ← ep]
  rw [← hW0, ← ep] at c0 c1 c2 c3 c4
  clear hW0 ep
  refine (ris_any t.first W0 hfl).mono ?_
  rintro e w1 ⟨rfl, hww⟩
  subst hww
  have h1 := H0.out
  have HQ0 := HP0
  clear c0 c1 c2 c3 c4
  have c4 := row_cell HP0.out 4
  simp at c4
  cases hd : isD t.first with
  | false =>
    have HX : Hid (r = false) := Lib.hid (HNO.out (fun hp => by rw [hd] at hp; exact absurd hp.2.2.2.1 (by decide)))
    clear hd
    go_wp2_with fail
    go_ret
    exact ⟨by rw [HX.out]; rfl, h1.toBelow (by simp)⟩
  | true =>
    have HD := Lib.hid hd
    clear hd
    by_cases hl : t.chain.length ≤ 50
    case neg =>
      have t7 : decide ((50 : Int) < (t.chain.length : Int)) = true := by simp; omega
      have HX : Hid (r = false) := Lib.hid (HNO.out (fun hp => hl hp.2.2.2.2.1))
      go_wp2_with fail
      go_ret
      exact ⟨by rw [HX.out]; rfl, h1.toBelow (by simp)⟩
    have t7 : decide ((50 : Int) < (t.chain.length : Int)) = false := by simp; omega
    go_wp2_with fail
    go_loopg [4] (t.chain.length + 1) (fun g i wr => ∃ k : Nat, k ≤ t.chain.length ∧ g = t.chain.length + 1 - k ∧ i = .int .i64 (k : Int) ∧ (t.chain.take k).all formX = true ∧ W0 = wr)
    case atStart => exact ⟨0, by omega, by omega, rfl, by simp, rfl⟩
    case round =>
      obtain ⟨k, hk, hg, rfl, hall, rfl⟩ := hrel
      have HG := Lib.hid hg
      have HALL := Lib.hid hall
      clear hg hall
      by_cases hlt : k < t.chain.length
      · obtain ⟨b, off, rfl⟩ := ha k hlt
        have t8 : decide ((k : Int) < (t.chain.length : Int)) = true := by simp; omega
        obtain ⟨x, hx⟩ : ∃ x, t.chain[k]? = some x := ⟨_, List.getElem?_eq_getElem hlt⟩
        obtain ⟨e0, u, e1, hu⟩ := (HC.out.fr h1).cells k x hx
        obtain ⟨sa, scap, rfl, hsl, hsc, hsa⟩ := hu.form
        have HU := Lib.hid hu
        have HM := Lib.hid (List.mem_of_getElem? hx)
        have HTK : Hid ((t.chain.take (k + 1)).all formX = ((t.chain.take k).all formX && formX x)) := Lib.hid (by rw [List.take_add_one, hx, List.all_append]; simp)
        have HFO : Hid (formX x = false → r = false) := Lib.hid (fun h => HNO.out (fun hp => by
          have := List.all_eq_true.1 hp.2.2.2.2.2 x HM.out
          rw [h] at this
          cases this))
        have hxs := HS.out.c x HM.out
        have htl : x.nk.length ≤ 9223372036854775807 := by omega
        have HXS := Lib.hid hxs.2.2
        have i0 : (0 : Int) ≤ (k : Int) := by omega
        have i1 : (k : Int) < (t.chain.length : Int) := by omega
        clear hx hu hxs
        go_wp2_with fail
        refine (ris_any x.nk W0 htl).mono ?_
        rintro e w6 ⟨rfl, hww⟩
        subst hww
        cases hd2 : isD x.nk with
        | false =>
          have HX : Hid (r = false) := Lib.hid (HFO.out (by unfold formX; rw [hd2, Bool.and_false, Bool.false_and]))
          clear hd2
          go_wp2_with fail
          go_ret
          exact ⟨by rw [HX.out]; rfl, h1.toBelow (by simp)⟩
        | true =>
          have HD2 := Lib.hid hd2
          clear hd2
          by_cases h18 : x.sig.length = 18
          case neg =>
            have t9 : ((x.sig.length : Int) != 18) = true := by rw [bne_iff_ne]; omega
            have HX : Hid (r = false) := Lib.hid (HFO.out (by unfold formX; rw [decide_eq_false h18]; rfl))
            clear h18
            go_wp2_with fail
            go_ret
            exact ⟨by rw [HX.out]; rfl, h1.toBelow (by simp)⟩
          have t9 : ((x.sig.length : Int) != 18) = false := by rw [h18]; rfl
          have HFE : Hid (formX x = x.sig.all isD) := Lib.hid (by unfold formX; rw [decide_eq_true h18, HD2.out]; rfl)
          have H18 := Lib.hid h18
          clear h18
          go_wp2_with fail
          go_loopg [5] 19 (fun gi i wi => ∃ m : Nat, m ≤ 18 ∧ gi = 19 - m ∧ i = .int .i64 (m : Int) ∧ (x.sig.take m).all isD = true ∧ W0 = wi)
          case atStart => exact ⟨0, by omega, by omega, rfl, by simp, rfl⟩
          case round =>
            obtain ⟨m, hm, hgi, rfl, hal, rfl⟩ := hrel
            have HG2 := Lib.hid hgi
            have HB := Lib.hid hal
            clear hgi hal
            by_cases hlm : m < 18
            · have t10 : decide ((m : Int) < 18) = true := by simp; omega
              have hlm2 : m < x.sig.length := by rw [H18.out]; exact hlm
              obtain ⟨sb, so, rfl⟩ := hsa m hlm2
              have hcs := HU.out.cell m hlm2
              have HTM : Hid ((x.sig.take (m + 1)).all isD = ((x.sig.take m).all isD && isD (x.sig.getD m []))) := Lib.hid (by rw [take_snoc' _ m [] hlm2, List.all_append]; simp)
              have HSM : Hid (x.sig.getD m [] ∈ x.sig) := Lib.hid (getD_mem x.sig m [] hlm2)
              generalize x.sig.getD m [] = s at hcs HSM HTM
              have hsl9 : s.length ≤ 9223372036854775807 := by have := HXS.out s HSM.out; omega
              have i2 : (0 : Int) ≤ (m : Int) := by omega
              have i3 : (m : Int) < (x.sig.length : Int) := by omega
              go_wp2_with fail
              refine (ris_any s W0 hsl9).mono ?_
              rintro e w6 ⟨rfl, hww⟩
              subst hww
              cases hd3 : isD s with
              | false =>
                have HX : Hid (r = false) := Lib.hid (HFO.out (by rw [HFE.out]; exact List.all_eq_false.2 ⟨s, HSM.out, by rw [hd3]; decide⟩))
                clear hd3
                go_wp2_with fail
                go_ret
                exact ⟨by rw [HX.out]; rfl, h1.toBelow (by simp)⟩
              | true =>
                have HT1 : Hid ((x.sig.take (m + 1)).all isD = true) := Lib.hid (by rw [HTM.out, HB.out, hd3]; rfl)
                clear hd3
                go_wp2_with fail
                go_roundg (19 - (m + 1))
                case measure => have := HG2.out; omega
                case rel => exact ⟨m + 1, by omega, rfl, by go_num, HT1.out, rfl⟩
            · obtain rfl : m = 18 := by omega
              have t10 : decide ((18 : Int) < 18) = false := by decide
              have HFX : Hid (formX x = true) := Lib.hid (by
                rw [HFE.out]
                have := HB.out
                rwa [List.take_of_length_le (by rw [H18.out]; exact Nat.le_refl _)] at this)
              go_wp2_with fail
              go_roundg (t.chain.length + 1 - (k + 1))
              case measure => have := HG.out; omega
              case rel => exact ⟨k + 1, by omega, rfl, by go_num, by rw [HTK.out, HALL.out, HFX.out]; rfl, rfl⟩
      · obtain rfl : k = t.chain.length := by omega
        have t8 : decide ((t.chain.length : Int) < (t.chain.length : Int)) = false := by simp
        have HX : Hid (r = true) := Lib.hid (HYE.out ⟨HA.out.1, HA.out.2.1, HA.out.2.2, HD.out, hl, by have := HALL.out; rwa [List.take_length] at this⟩)
        go_wp2_with fail
        go_ret
        exact ⟨by rw [HX.out]; rfl, h1.toBelow (by simp)⟩
end Go.Proofs.YtglgkdbhdjkeaaaGreatDoor
namespace Go.Proofs.YtglgkdbhdjkeaaaGreatDoor
open Go.RowKit

set_option maxRecDepth 100000 in
set_option maxHeartbeats 1000000 in
theorem r30dec_nat (fuel : Nat) : ∀ (n : Nat) (w : World), n < 10 ^ (fuel + 1) → n ≤ 9223372036854775807 →
    Calls Tryz.prog 117 #[.int .i64 (n : Int)] w fun e w' => e = .returned (.string ⟨(Lib.decDigits n).toArray⟩) ∧ Below w.heap.size w w' := by
  induction fuel with
  | zero =>
    intro n w h h9
    have h10 : n < 10 := by omega
    have hcut := dec_cut n h10
    have HD := Lib.hid (dec_small n h10)
    rw [Nat.mod_eq_of_lt h10] at HD
    have hn0 : ¬ ((n : Int) < 0) := by omega
    clear h
    go_enter Tryz.func117, Tryz.ntmps117
    go_wp2_with fail
    go_ret
    exact ⟨by rw [HD.out]; rfl, Below.refl _ _⟩
  | succ fuel ih =>
    intro n w h h9
    have IH := Lib.hid ih
    clear ih
    have hn0 : ¬ ((n : Int) < 0) := by omega
    by_cases h10 : n < 10
    · have hcut := dec_cut n h10
      have HD := Lib.hid (dec_small n h10)
      rw [Nat.mod_eq_of_lt h10] at HD
      clear h
      go_enter Tryz.func117, Tryz.ntmps117
      go_wp2_with fail
      go_ret
      exact ⟨by rw [HD.out]; rfl, Below.refl _ _⟩
    · obtain ⟨q, r, hq, hr, eq, er⟩ : ∃ q r : Nat, q = n / 10 ∧ r = n % 10 ∧ (n : Int) / 10 = (q : Int) ∧ (n : Int) % 10 = (r : Int) := ⟨n / 10, n % 10, rfl, rfl, by omega, by omega⟩
      have hq1 : q < 10 ^ (fuel + 1) := by rw [hq]; rw [Nat.pow_succ] at h; omega
      have hq2 : q ≤ 9223372036854775807 := by omega
      have hr1 : r < 10 := by omega
      have HD : Hid (Lib.decDigits n = Lib.decDigits q ++ [decC r]) := by
        show _ = _
        rw [dec_step n (by omega), hq, hr]
      have hcut := dec_cut r hr1
      have hd20 := dec_len q (by omega)
      have HQ := Lib.hid hq1
      clear hq hr h hq1
      have hmx : Tryz.prog.follows .mixedOrders = true := by kernel_rfl
      have g0 : (0 : Int) ≤ (r : Int) := by omega
      have g1 : (r : Int) ≤ (r : Int) + 1 := by omega
      have g2 : (r : Int) + 1 ≤ 10 := by omega
      have g3 : IntKind.i64.wrap ((r : Int) + 1) = (r : Int) + 1 := IntWalk.i64_in _ (by omega)
      have g4 : ((r : Int) + 1).toNat = r + 1 := by omega
      have g7 : (n : Int).tmod 10 = (r : Int) := by rw [Int.tmod_eq_emod_of_nonneg (by omega)]; exact er
      have hnsz : ¬ (9223372036854775807 < (Lib.decDigits q).length + 1) := by omega
      have g5 : IntKind.i64.wrap (q : Int) = (q : Int) := IntWalk.i64_in _ (by omega)
      have g6 : IntKind.i64.wrap (r : Int) = (r : Int) := IntWalk.i64_in _ (by omega)
      go_enter Tryz.func117, Tryz.ntmps117
      go_wp2_with fail
      refine region_held 11 (fun _ => True) hmx ?_
      change Held _ _ _ _ _ _ 12 (Array.replicate 12 false) _ _
      refine hd_take 0 (v := .int .i64 (n : Int)) rfl (by kernel_rfl) (by kernel_rfl) (by kernel_rfl) rfl trivial (fun W' hS => by go_simp) rfl ?_
      refine hd_take 3 (v := .string ⟨#[48, 49, 50, 51, 52, 53, 54, 55, 56, 57]⟩) rfl (by kernel_rfl) (by kernel_rfl) (by kernel_rfl) rfl trivial (fun W' hS => by go_simp) rfl ?_
      refine hd_take 4 (v := .int .i64 (n : Int)) rfl (by kernel_rfl) (by kernel_rfl) (by kernel_rfl) rfl trivial (fun W' hS => by go_simp) rfl ?_
      refine hd_take 6 (v := .int .i64 (n : Int)) rfl (by kernel_rfl) (by kernel_rfl) (by kernel_rfl) rfl trivial (fun W' hS => by go_simp) rfl ?_
      simp only [Act.put, List.setIfInBounds_toArray, List.set_cons_zero, List.set_cons_succ]
      refine hd_take 1 (v := .int .i64 (q : Int)) rfl (by kernel_rfl) (by kernel_rfl) (by kernel_rfl) rfl trivial (fun W' hS => by go_simp) rfl ?_
      refine hd_take 5 (v := .int .i64 (r : Int)) rfl (by kernel_rfl) (by kernel_rfl) (by kernel_rfl) rfl trivial (fun W' hS => by go_simp) rfl ?_
      refine hd_take 7 (v := .int .i64 (r : Int)) rfl (by kernel_rfl) (by kernel_rfl) (by kernel_rfl) rfl trivial (fun W' hS => by go_simp) rfl ?_
      simp only [Act.put, List.setIfInBounds_toArray, List.set_cons_zero, List.set_cons_succ]
      refine hd_take 8 (v := .int .i64 ((r : Int) + 1)) rfl (by kernel_rfl) (by kernel_rfl) (by kernel_rfl) rfl trivial (fun W' hS => by go_simp) rfl ?_
      simp only [Act.put, List.setIfInBounds_toArray, List.set_cons_zero, List.set_cons_succ]
      refine hd_take 9 (v := .string ⟨[decC r].toArray⟩) rfl (by kernel_rfl) (by kernel_rfl) (by kernel_rfl) rfl trivial (fun W' hS => by go_simp) rfl ?_
      simp only [Act.put, List.setIfInBounds_toArray, List.set_cons_zero, List.set_cons_succ]
      refine hd_one 2 (by kernel_rfl) rfl (by kernel_rfl) rfl (fun K' hK => ?_)
      go_simp
      refine (IH.out q _ HQ.out hq2).mono ?_
      rintro e w1 ⟨rfl, hb1⟩
      have hbb := (Fr.refl [] w).drew.below hb1 (Nat.le_refl _)
      refine hK.out _ _ (fun _ => trivial) ?_
      clear hK K'
      try simp only [Act.put, List.setIfInBounds_toArray, List.set_cons_zero, List.set_cons_succ]
      refine hd_one 10 (by kernel_rfl) rfl (by kernel_rfl) rfl (fun K' hK => ?_)
      go_simp
      refine hK.out _ _ (fun _ => trivial) ?_
      clear hK K'
      try simp only [Act.put, List.setIfInBounds_toArray, List.set_cons_zero, List.set_cons_succ]
      refine hd_one 11 (by kernel_rfl) rfl (by kernel_rfl) rfl (fun K' hK => ?_)
      go_simp
      refine hK.out _ _ (fun h => absurd rfl h) ?_
      clear hK K'
      refine held_done (by kernel_rfl) ?_
      go_wp2_with fail
      go_ret
      exact ⟨by rw [HD.out, ← ba_append]; rfl, hbb.toBelow (by simp)⟩
set_option maxRecDepth 100000 in
set_option maxHeartbeats 1000000 in
theorem r30dec_neg (fuel : Nat) : ∀ (m : Nat) (x : Int) (w : World), x = -(m : Int) → 1 ≤ m → m < 10 ^ (fuel + 1) → m ≤ 9223372036854775808 →
    Calls Tryz.prog 117 #[.int .i64 x] w fun e w' => e = .returned (.string ⟨(45 :: Lib.decDigits m).toArray⟩) ∧ Below w.heap.size w w' := by
  induction fuel with
  | zero =>
    intro m x w hx h1 h h9
    have hx0 : x < 0 := by omega
    have e1 : x.tdiv 10 = 0 := by rw [hx, Int.neg_tdiv, Int.tdiv_eq_ediv_of_nonneg (by omega)]; omega
    have e2 : IntKind.i64.wrap (-x) = (m : Int) := by rw [hx, Int.neg_neg]; exact IntWalk.i64_in _ (by omega)
    have e3 : IntKind.i64.wrap 0 = 0 := by decide
    have hm20 := dec_len m (by omega)
    have hm9 : m ≤ 9 := by omega
    clear hx
    go_enter Tryz.func117, Tryz.ntmps117
    go_wp2_with fail
    refine (r30dec_nat 1 m _ (by omega) (by omega)).mono ?_
    rintro e w1 ⟨rfl, hb1⟩
    go_wp2_with fail
    go_ret
    exact ⟨by rw [show 45 :: Lib.decDigits m = [45] ++ Lib.decDigits m from rfl, ← ba_append]; rfl, hb1⟩
  | succ fuel ih =>
    intro m x w hx h1 h h9
    have IH := Lib.hid ih
    clear ih
    have hx0 : x < 0 := by omega
    by_cases h10 : m < 10
    · have e1 : x.tdiv 10 = 0 := by rw [hx, Int.neg_tdiv, Int.tdiv_eq_ediv_of_nonneg (by omega)]; omega
      have e2 : IntKind.i64.wrap (-x) = (m : Int) := by rw [hx, Int.neg_neg]; exact IntWalk.i64_in _ (by omega)
      have e3 : IntKind.i64.wrap 0 = 0 := by decide
      have hm20 := dec_len m (by omega)
      clear hx h
      go_enter Tryz.func117, Tryz.ntmps117
      go_wp2_with fail
      refine (r30dec_nat 1 m _ (by omega) (by omega)).mono ?_
      rintro e w1 ⟨rfl, hb1⟩
      go_wp2_with fail
      go_ret
      exact ⟨by rw [show 45 :: Lib.decDigits m = [45] ++ Lib.decDigits m from rfl, ← ba_append]; rfl, hb1⟩
    · obtain ⟨q, r, hq, hr⟩ : ∃ q r : Nat, q = m / 10 ∧ r = m % 10 := ⟨_, _, rfl, rfl⟩
      obtain ⟨y, hy, e1⟩ : ∃ y : Int, y = -(q : Int) ∧ x.tdiv 10 = y := ⟨_, rfl, by rw [hx, Int.neg_tdiv, Int.tdiv_eq_ediv_of_nonneg (by omega)]; omega⟩
      obtain ⟨z, hz, e4⟩ : ∃ z : Int, z = -(r : Int) ∧ x.tmod 10 = z := ⟨_, rfl, by rw [hx, Int.neg_tmod, Int.tmod_eq_emod_of_nonneg (by omega)]; omega⟩
      have e2 : (y == 0) = false := by rw [beq_eq_false_iff_ne]; omega
      have e3 : IntKind.i64.wrap y = y := IntWalk.i64_in _ (by omega)
      have e5 : IntKind.i64.wrap z = z := IntWalk.i64_in _ (by omega)
      have e6 : IntKind.i64.wrap (-z) = (r : Int) := by rw [hz, Int.neg_neg]; exact IntWalk.i64_in _ (by omega)
      have hq1 : q < 10 ^ (fuel + 1) := by rw [hq]; rw [Nat.pow_succ] at h; omega
      have hq2 : q ≤ 9223372036854775808 := by omega
      have hq0 : 1 ≤ q := by omega
      have hr1 : r < 10 := by omega
      have HD : Hid (45 :: Lib.decDigits m = (45 :: Lib.decDigits q) ++ Lib.decDigits r) := by
        show _ = _
        rw [dec_step m (by omega), dec_small r hr1, Nat.mod_eq_of_lt hr1, hq, hr]; rfl
      have hd20 := dec_len q (by omega)
      have hr20 := dec_len r (by omega)
      have HQ := Lib.hid hq1
      have HY := Lib.hid hy
      clear hq hr h hq1 hx hy hz
      have hmx : Tryz.prog.follows .mixedOrders = true := by kernel_rfl
      go_enter Tryz.func117, Tryz.ntmps117
      go_wp2_with fail
      refine (IH.out q y _ HY.out hq0 HQ.out hq2).mono ?_
      rintro e w1 ⟨rfl, hb1⟩
      go_wp2_with fail
      refine (r30dec_nat 1 r _ (by omega) (by omega)).mono ?_
      rintro e w2 ⟨rfl, hb2⟩
      go_wp2_with fail
      go_ret
      exact ⟨by rw [HD.out, ← ba_append]; rfl, hb1.trans (hb2.mono hb1.size)⟩
theorem r30dec_any (x : Int) (w : World) (h0 : -9223372036854775808 ≤ x) (h1 : x ≤ 9223372036854775807) :
    Calls Tryz.prog 117 #[.int .i64 x] w fun e w' => e = .returned (.string ⟨(Lib.itoa x).toArray⟩) ∧ Below w.heap.size w w' := by
  by_cases h : x < 0
  · rw [show Lib.itoa x = 45 :: Lib.decDigits x.natAbs by unfold Lib.itoa; rw [if_pos h]]
    have h2 : x.natAbs ≤ 9223372036854775808 := by omega
    exact r30dec_neg 20 x.natAbs x w (by omega) (by omega) (Nat.lt_of_le_of_lt h2 (by decide)) h2
  · rw [show Lib.itoa x = Lib.decDigits x.toNat by unfold Lib.itoa; rw [if_neg h]]
    have h2 : x.toNat ≤ 9223372036854775807 := by omega
    have := r30dec_nat 20 x.toNat w (Nat.lt_of_le_of_lt h2 (by decide)) h2
    rwa [show ((x.toNat : Nat) : Int) = x by omega] at this
set_option maxRecDepth 100000 in
set_option maxHeartbeats 4000000 in
theorem rowner30_any (v : Value) (t : Ttl) (w : World) (hv : TtlR w v t) :
    Calls Tryz.prog 36 #[v] w fun e w' => e = .returned (.string ⟨(ownerT t).toArray⟩) ∧ Below w.heap.size w w' := by
  obtain ⟨cv, rfl, hc⟩ := hv
  obtain ⟨a, cap, rfl, hlc, hcap, ha⟩ := hc.form
  have HC := Lib.hid hc
  clear hc
  obtain ⟨n, hn⟩ : ∃ n, n = t.chain.length := ⟨_, rfl⟩
  have H0 := Lib.hid ((Fr.refl [] w).alloc (.cells #[.int .i64 t.serial, .int .i64 t.shw, .int .i64 t.place, .string ⟨t.first.toArray⟩, .slice a t.chain.length cap] 34))
  rw [← hn] at HC hlc ha H0 ⊢
  cases n with
  | zero =>
    have HO := Lib.hid (ownerT_none hn.symm)
    rw [HO.out]
    clear hn
    go_enter Tryz.func36, Tryz.ntmps36
    go_wp2_with fail
    go_ret
    exact ⟨rfl, H0.out.toBelow (by simp)⟩
  | succ n =>
    obtain ⟨b, off, rfl⟩ := ha n (by omega)
    obtain ⟨x, hx⟩ : ∃ x, t.chain[n]? = some x := ⟨_, List.getElem?_eq_getElem (by omega)⟩
    have HO := Lib.hid (ownerT_at hn.symm hx)
    rw [HO.out]
    have c0 := H0.out.cell (HC.out.cells n x hx).1 (by simp)
    have g1 : IntKind.i64.wrap (((n + 1 : Nat) : Int) - 1) = (n : Int) := by rw [IntWalk.i64_in _ (by omega)]; omega
    have g2 : (0 : Int) < ((n + 1 : Nat) : Int) := by omega
    have g3 : decide ((0 : Int) < ((n + 1 : Nat) : Int)) = true := decide_eq_true g2
    have g4 : (0 : Int) ≤ (n : Int) := by omega
    have g5 : (n : Int) < ((n + 1 : Nat) : Int) := by omega
    clear hn hx
    go_enter Tryz.func36, Tryz.ntmps36
    go_wp2_with fail
    go_ret
    exact ⟨rfl, H0.out.toBelow (by simp)⟩

set_option maxRecDepth 100000 in
set_option maxHeartbeats 2000000 in
theorem rused30_any (v : Value) (t : Ttl) (key : List UInt8) (w : World) (hv : TtlR w v t) :
    Calls Tryz.prog 65 #[v, .string ⟨key.toArray⟩] w fun e w' => e = .returned (.bool (usedT t key)) ∧ Below w.heap.size w w' := by
  obtain ⟨cv, rfl, hc⟩ := hv
  obtain ⟨a, cap, rfl, hlc, hcap, ha⟩ := hc.form
  obtain ⟨W0, hW0⟩ : ∃ W0, W0 = w.alloc (.cells #[.int .i64 t.serial, .int .i64 t.shw, .int .i64 t.place, .string ⟨t.first.toArray⟩, .slice a t.chain.length cap] 34) := ⟨_, rfl⟩
  obtain ⟨p, ep⟩ : ∃ p, p = w.heap.size := ⟨_, rfl⟩
  have h0 : Fr [] w W0 := by rw [hW0]; exact (Fr.refl [] w).alloc _
  have hp0 : W0.heap[p]? = some (.cells #[.int .i64 t.serial, .int .i64 t.shw, .int .i64 t.place, .string ⟨t.first.toArray⟩, .slice a t.chain.length cap] 34 (0, 0)) := by rw [hW0, ep]; exact heap_new rfl
  have c3 := row_cell hp0 3
  have c4 := row_cell hp0 4
  simp at c3 c4
  rw [hW0, ep] at c3 c4
  obtain ⟨r, er⟩ : ∃ r, r = usedT t key := ⟨_, rfl⟩
  rw [← er]
  have ER := Lib.hid er
  have HC := Lib.hid (hc.fr h0)
  clear hc er
  by_cases h1 : t.first = key
  · have u1 : (t.first == key) = true := by rw [h1]; simp
    have HR : Hid (r = true) := Lib.hid (by rw [ER.out]; unfold usedT; rw [u1]; rfl)
    have HF := Lib.hid h0
    rw [hW0] at HF
    clear h1 hW0 hp0 h0 ep
    go_enter Tryz.func65, Tryz.ntmps65
    go_wp2_with fail
    go_ret
    exact ⟨by rw [HR.out]; first | rfl | simp, HF.out.toBelow (by simp)⟩
  have u1 : (t.first == key) = false := by rw [beq_eq_false_iff_ne]; exact h1
  have HR : Hid (r = t.chain.any fun x => x.nk == key) := Lib.hid (by rw [ER.out]; unfold usedT; rw [u1]; rfl)
  go_enter Tryz.func65, Tryz.ntmps65
  go_wp2_with fail
  rw [← hW0, ← ep]
  rw [← hW0, ← ep] at c3 c4
  clear hW0 ep h1
  go_loopg [5] t.chain.length (fun gh i wr => ∃ k : Nat, k ≤ t.chain.length ∧ gh = t.chain.length - k ∧ i = .int .i64 (k : Int) ∧ (∀ x ∈ t.chain.take k, (x.nk == key) = false) ∧ W0 = wr)
  case atStart => exact ⟨0, by omega, by omega, rfl, fun x hx => by simp at hx, rfl⟩
  case round =>
    obtain ⟨k, hk, hgh, rfl, hall, rfl⟩ := hrel
    have HG := Lib.hid hgh
    have HA := Lib.hid hall
    clear hgh hall
    by_cases hlt : k < t.chain.length
    · have t3 : decide ((k : Int) < (t.chain.length : Int)) = true := by simp; omega
      obtain ⟨b, off, rfl⟩ := ha k hlt
      obtain ⟨x, hx⟩ : ∃ x, t.chain[k]? = some x := ⟨_, List.getElem?_eq_getElem hlt⟩
      obtain ⟨e0, u, e1, hu⟩ := HC.out.cells k x hx
      have HXM : Hid (x ∈ t.chain) := Lib.hid (List.mem_of_getElem? hx)
      have HNX : Hid ((x.nk == key) = false → ∀ y ∈ t.chain.take (k + 1), (y.nk == key) = false) := Lib.hid (fun h y hy => by
        rw [List.take_add_one, hx, List.mem_append] at hy
        rcases hy with hy | hy
        · exact HA.out y hy
        · obtain rfl : y = x := by simpa using hy
          exact h)
      have i0 : (0 : Int) ≤ (k : Int) := by omega
      have i1 : (k : Int) < (t.chain.length : Int) := by omega
      clear hx hu e1
      by_cases h2 : x.nk = key
      · have u2 : (x.nk == key) = true := by rw [h2]; simp
        have HT : Hid (r = true) := Lib.hid (by rw [HR.out]; exact List.any_eq_true.2 ⟨x, HXM.out, u2⟩)
        clear h2
        go_wp2_with fail
        go_ret
        exact ⟨by rw [HT.out]; first | rfl | simp, h0.toBelow (by simp)⟩
      · have u2 : (x.nk == key) = false := by rw [beq_eq_false_iff_ne]; exact h2
        have HT := Lib.hid (HNX.out u2)
        clear h2
        go_wp2_with fail
        go_roundg (t.chain.length - (k + 1))
        case measure => have := HG.out; omega
        case rel => exact ⟨k + 1, by omega, rfl, by go_num, HT.out, rfl⟩
    · obtain rfl : k = t.chain.length := by omega
      have t3 : decide ((t.chain.length : Int) < (t.chain.length : Int)) = false := by simp
      have HT : Hid (r = false) := Lib.hid (by
        rw [HR.out]
        have := HA.out
        rw [List.take_length] at this
        rw [List.any_eq_false]
        exact fun x hx => by rw [this x hx]; decide)
      go_wp2_with fail
      go_ret
      exact ⟨by rw [HT.out]; rfl, h0.toBelow (by simp)⟩
set_option maxRecDepth 100000 in
set_option maxHeartbeats 4000000 in
theorem rfields30_any (v : Value) (t : Ttl) (tk : List UInt8) (w : World) (hv : TtlR w v t) (hS : TSmall t) (hto : tk.length ≤ 100000) :
    Calls Tryz.prog 94 #[v, .string ⟨tk.toArray⟩] w fun e w' => ∃ v, e = .returned v ∧ Strs w' v (fieldsT t tk) ∧ Below w.heap.size w w' := by
  have hmx : Tryz.prog.follows .mixedOrders = true := by kernel_rfl
  obtain ⟨cv, rfl, hc⟩ := hv
  obtain ⟨a, cap, rfl, hlc, hcap, ha⟩ := hc.form
  have HC := Lib.hid hc
  have HS := Lib.hid hS
  have hs1 := hS.s.1
  have hs2 := hS.s.2
  have hh1 := hS.h.1
  have hh2 := hS.h.2
  have hp1 := hS.p.1
  have hp2 := hS.p.2
  have hn100 := hS.n
  clear hc hS
  have HJ := Lib.hid (fieldsT_join HS.out hto)
  obtain ⟨W0, hW0⟩ : ∃ W0, W0 = w.alloc (.cells #[.int .i64 t.serial, .int .i64 t.shw, .int .i64 t.place, .string ⟨t.first.toArray⟩, .slice a t.chain.length cap] 34) := ⟨_, rfl⟩
  obtain ⟨p, ep⟩ : ∃ p, p = w.heap.size := ⟨_, rfl⟩
  have h0 : Fr [] w W0 := by rw [hW0]; exact (Fr.refl [] w).alloc _
  have hp0 : W0.heap[p]? = some (.cells #[.int .i64 t.serial, .int .i64 t.shw, .int .i64 t.place, .string ⟨t.first.toArray⟩, .slice a t.chain.length cap] 34 (0, 0)) := by rw [hW0, ep]; exact heap_new rfl
  go_enter Tryz.func94, Tryz.ntmps94
  go_wp2_with fail
  rw [← hW0, ← ep]
  clear hW0 ep
  have c0 := row_cell hp0 0
  have c1 := row_cell hp0 1
  have c3 := row_cell hp0 3
  simp at c0 c1 c3
  have hD : Fr [] W0 W0.drew := (Fr.refl [] W0).drew
  have hS0 : W0.drew.cell? ⟨p, 0, none⟩ = some (.int .i64 t.serial) ∧ W0.drew.cell? ⟨p, 1, none⟩ = some (.int .i64 t.shw) ∧ W0.drew.cell? ⟨p, 3, none⟩ = some (.string ⟨t.first.toArray⟩) := ⟨hD.cell c0 (by simp), hD.cell c1 (by simp), hD.cell c3 (by simp)⟩
  refine region_held 9 (fun W' => W'.cell? ⟨p, 0, none⟩ = some (.int .i64 t.serial) ∧ W'.cell? ⟨p, 1, none⟩ = some (.int .i64 t.shw) ∧ W'.cell? ⟨p, 3, none⟩ = some (.string ⟨t.first.toArray⟩)) hmx ?_
  change Held _ _ _ _ _ _ 10 (Array.replicate 10 false) _ _
  refine hd_take 0 (v := .pointer (some ⟨p, 0, none⟩)) rfl (by kernel_rfl) (by kernel_rfl) (by kernel_rfl) rfl hS0 (fun W' hS => by go_simp) rfl ?_
  refine hd_take 3 (v := .pointer (some ⟨p, 1, none⟩)) rfl (by kernel_rfl) (by kernel_rfl) (by kernel_rfl) rfl hS0 (fun W' hS => by go_simp) rfl ?_
  refine hd_take 6 (v := .pointer (some ⟨p, 3, none⟩)) rfl (by kernel_rfl) (by kernel_rfl) (by kernel_rfl) rfl hS0 (fun W' hS => by go_simp) rfl ?_
  try simp only [Act.put, List.setIfInBounds_toArray, List.set_cons_zero, List.set_cons_succ]
  refine hd_take 1 (v := .int .i64 t.serial) rfl (by kernel_rfl) (by kernel_rfl) (by kernel_rfl) rfl hS0 (fun W' hS => by obtain ⟨s0, s1, s2⟩ := hS; go_simp) rfl ?_
  refine hd_take 4 (v := .int .i64 t.shw) rfl (by kernel_rfl) (by kernel_rfl) (by kernel_rfl) rfl hS0 (fun W' hS => by obtain ⟨s0, s1, s2⟩ := hS; go_simp) rfl ?_
  refine hd_take 7 (v := .string ⟨t.first.toArray⟩) rfl (by kernel_rfl) (by kernel_rfl) (by kernel_rfl) rfl hS0 (fun W' hS => by obtain ⟨s0, s1, s2⟩ := hS; go_simp) rfl ?_
  try simp only [Act.put, List.setIfInBounds_toArray, List.set_cons_zero, List.set_cons_succ]
  refine hd_one 2 (by kernel_rfl) rfl (by kernel_rfl) rfl (fun K' hK => ?_)
  go_simp
  refine (r30dec_any t.serial _ hs1 hs2).mono ?_
  rintro e v1 ⟨rfl, hbb1⟩
  have hf1 : Fr [] W0 v1 := hD.below hbb1 hD.size
  refine hK.out _ _ (fun _ => ⟨hf1.cell c0 (by simp), hf1.cell c1 (by simp), hf1.cell c3 (by simp)⟩) ?_
  clear hK K'
  try simp only [Act.put, List.setIfInBounds_toArray, List.set_cons_zero, List.set_cons_succ]
  refine hd_one 5 (by kernel_rfl) rfl (by kernel_rfl) rfl (fun K' hK => ?_)
  go_simp
  refine (r30dec_any t.shw _ hh1 hh2).mono ?_
  rintro e v2 ⟨rfl, hbb2⟩
  have hf2 : Fr [] W0 v2 := hf1.below hbb2 hf1.size
  refine hK.out _ _ (fun _ => ⟨hf2.cell c0 (by simp), hf2.cell c1 (by simp), hf2.cell c3 (by simp)⟩) ?_
  clear hK K'
  try simp only [Act.put, List.setIfInBounds_toArray, List.set_cons_zero, List.set_cons_succ]
  refine hd_one 8 (by kernel_rfl) rfl (by kernel_rfl) rfl (fun K' hK => ?_)
  go_simp
  have hfa := hf2.alloc (.cells #[.string ⟨(Lib.itoa t.serial).toArray⟩, .string ⟨(Lib.itoa t.shw).toArray⟩, .string ⟨t.first.toArray⟩] 9)
  refine hK.out _ _ (fun _ => ⟨hfa.cell c0 (by simp), hfa.cell c1 (by simp), hfa.cell c3 (by simp)⟩) ?_
  clear hK K'
  try simp only [Act.put, List.setIfInBounds_toArray, List.set_cons_zero, List.set_cons_succ]
  have hos : OwnS v2.heap.size (v2.alloc (.cells #[.string ⟨(Lib.itoa t.serial).toArray⟩, .string ⟨(Lib.itoa t.shw).toArray⟩, .string ⟨t.first.toArray⟩] 9)) (.slice (some ⟨v2.heap.size, 0, none⟩) 3 3) [(Lib.itoa t.serial), (Lib.itoa t.shw), t.first] := ⟨rfl, Or.inr ⟨v2.heap.size, 3, _, rfl, Nat.le_refl _, heap_new rfl, Nat.le_refl _, by decide, rfl, rfl⟩⟩
  obtain ⟨wz, hwz⟩ : ∃ wz, wz = v2.alloc (.cells #[.string ⟨(Lib.itoa t.serial).toArray⟩, .string ⟨(Lib.itoa t.shw).toArray⟩, .string ⟨t.first.toArray⟩] 9) := ⟨_, rfl⟩
  rw [← hwz] at hos hfa ⊢
  clear hwz
  refine hd_one 9 (by kernel_rfl) rfl (by kernel_rfl) rfl (fun K' hK => ?_)
  go_simp
  refine hK.out _ _ (fun h => absurd rfl h) ?_
  clear hK K'
  refine held_done (by kernel_rfl) ?_
  have HOS := Lib.hid (hos.mono (base' := W0.heap.size) hf2.size)
  have HFA := Lib.hid hfa
  clear hos hfa hS0 hD hf1 hf2 hbb1 hbb2
  have HP0 := Lib.hid hp0
  have H0 := Lib.hid h0
  have hqz := HFA.out.at HP0.out (by simp)
  have c4 := row_cell hqz 4
  simp at c4
  clear hqz c0 c1 c3 hp0
  go_wp2_with fail
  clear c4
  have h0s : w.heap.size ≤ W0.heap.size := h0.size
  have hzs : W0.heap.size ≤ wz.heap.size := HFA.out.size
  have HPW : Hid (p < W0.heap.size) := Lib.hid (lt_of_block HP0.out)
  have HQZ := Lib.hid (HFA.out.at HP0.out (by simp))
  clear h0
  go_loopg [5, 6] t.chain.length (fun gh out i wr => ∃ k : Nat, k ≤ t.chain.length ∧ gh = t.chain.length - k ∧ i = .int .i64 (k : Int) ∧ OwnS W0.heap.size wr out ((fieldsT t tk).take (k + 3)) ∧ Fr [] w wr ∧ W0.heap.size ≤ wr.heap.size ∧ wr.heap[p]? = some (.cells #[.int .i64 t.serial, .int .i64 t.shw, .int .i64 t.place, .string ⟨t.first.toArray⟩, .slice a t.chain.length cap] 34 (0, 0)))
  case atStart => exact ⟨0, by omega, by omega, rfl, by rw [fieldsT_three]; exact HOS.out, H0.out.trans HFA.out (by simp), hzs, HQZ.out⟩
  case round =>
    clear HOS HFA
    obtain ⟨k, hk, hgh, rfl, hos, hfr, hsz, hq⟩ := hrel
    have HG := Lib.hid hgh
    have HOS := Lib.hid hos
    clear hgh
    have c4 := row_cell hq 4
    simp at c4
    have HQ := Lib.hid hq
    clear hq
    have HLE : Hid (((fieldsT t tk).take (k + 3)).length = k + 3) := Lib.hid (by rw [List.length_take, fieldsT_len]; omega)
    clear hos
    by_cases hlt : k < t.chain.length
    · have t1 : decide ((k : Int) < (t.chain.length : Int)) = true := by simp; omega
      obtain ⟨b, off, rfl⟩ := ha k hlt
      obtain ⟨x, hx⟩ : ∃ x, t.chain[k]? = some x := ⟨_, List.getElem?_eq_getElem hlt⟩
      obtain ⟨e0, u, e1, hu⟩ := (HC.out.fr hfr).cells k x hx
      have HSN := Lib.hid (fieldsT_snoc t tk k x hx)
      clear hx hu e1
      have hl2 : ((fieldsT t tk).take (k + 3)).length < 1000000 := by rw [HLE.out]; omega
      generalize (fieldsT t tk).take (k + 3) = L at HOS HSN hl2 HLE
      have i0 : (0 : Int) ≤ (k : Int) := by omega
      have i1 : (k : Int) < (t.chain.length : Int) := by omega
      go_wp2_with (at_builtin; go_loud (refine wpList_appS rfl (.tmp 23) (.tmp 30) rfl W0.heap.size _ L x.nk w rfl rfl HOS.out hfr h0s hsz hl2 ?_))
      intro v7 w7 g7 c7 hv7 ho7 hf7 hg7
      subst hv7
      have HO7 := Lib.hid ho7
      have hs7 : W0.heap.size ≤ w7.heap.size := Nat.le_trans hsz hg7.size
      have HQ7 := Lib.hid (hg7.at HQ.out (fun hm => by have := (ownBlock_cells HOS.out p (Option.mem_toList.1 hm)).1; have := HPW.out; omega))
      clear ho7 hg7
      go_wp2_with fail
      go_roundg (t.chain.length - (k + 1))
      case measure => have := HG.out; omega
      case rel => exact ⟨k + 1, by omega, rfl, by go_num, by rw [HSN.out]; exact HO7.out, hf7, hs7, HQ7.out⟩
    · obtain rfl : k = t.chain.length := by omega
      have t1 : decide ((t.chain.length : Int) < (t.chain.length : Int)) = false := by simp
      have HEN := Lib.hid (fieldsT_end t tk)
      have hl2 : ((fieldsT t tk).take (t.chain.length + 3)).length < 1000000 := by rw [HLE.out]; omega
      generalize (fieldsT t tk).take (t.chain.length + 3) = L at HOS HEN hl2 HLE
      go_wp2_with (at_builtin; go_loud (refine wpList_appS rfl (.tmp 32) (.tmp 34) rfl W0.heap.size _ L tk w rfl rfl HOS.out hfr h0s hsz hl2 ?_))
      intro v7 w7 g7 c7 hv7 ho7 hf7 _
      subst hv7
      rw [HEN.out] at ho7
      have HO7 := Lib.hid ho7
      clear ho7
      go_wp2_with fail
      go_ret
      exact ⟨_, rfl, HO7.out.strs, hf7.toBelow (by simp)⟩
end Go.Proofs.YtglgkdbhdjkeaaaGreatDoor
namespace Go.Proofs.YtglgkdbhdjkeaaaGreatDoor
open Go.RowKit

theorem msgT_len (t : Ttl) (tk : List UInt8) : (msgT t tk).length ≤ 1000000 := by
  unfold msgT dlist
  rw [dsum_length]; decide
theorem fieldsT_cap {t : Ttl} (h : TSmall t) {tk : List UInt8} (hto : tk.length ≤ 100000) : capN (fieldsT t tk) ≤ 140737488355328 := by
  have h1 := capN_le (fieldsT t tk) 100000 (fieldsT_small h hto)
  rw [fieldsT_len] at h1
  have h2 := h.n
  have h3 : (t.chain.length + 4) * (100000 + 21) ≤ 1004 * 100021 := Nat.mul_le_mul_right _ (by omega)
  omega
set_option maxRecDepth 100000 in
set_option maxHeartbeats 1000000 in
theorem rmessage30_any (v : Value) (t : Ttl) (tk : List UInt8) (w : World) (hv : TtlR w v t) (hS : TSmall t) (hto : tk.length ≤ 100000) :
    Calls Tryz.prog 67 #[v, .string ⟨tk.toArray⟩] w fun e w' => e = .returned (.string ⟨(msgT t tk).toArray⟩) ∧ Below w.heap.size w w' := by
  obtain ⟨cv, rfl, hc⟩ := hv
  obtain ⟨a, cap, rfl, _, _, _⟩ := hc.form
  have HCP := Lib.hid (fieldsT_cap hS hto)
  have HS := Lib.hid (And.intro hS hto)
  clear hS hto
  obtain ⟨W0, hW0⟩ : ∃ W0, W0 = w.alloc (.cells #[.int .i64 t.serial, .int .i64 t.shw, .int .i64 t.place, .string ⟨t.first.toArray⟩, .slice a t.chain.length cap] 34) := ⟨_, rfl⟩
  obtain ⟨p, ep⟩ : ∃ p, p = w.heap.size := ⟨_, rfl⟩
  have h0 : Fr [] w W0 := by rw [hW0]; exact (Fr.refl [] w).alloc _
  have hp0 : W0.heap[p]? = some (.cells #[.int .i64 t.serial, .int .i64 t.shw, .int .i64 t.place, .string ⟨t.first.toArray⟩, .slice a t.chain.length cap] 34 (0, 0)) := by rw [hW0]; exact heap_new ep
  have c0 := row_cell hp0 0
  have c1 := row_cell hp0 1
  have c2 := row_cell hp0 2
  have c3 := row_cell hp0 3
  have c4 := row_cell hp0 4
  simp at c0 c1 c2 c3 c4
  rw [hW0, ep] at c0 c1 c2 c3 c4
  have HC := Lib.hid (hc.fr h0)
  clear hc
  go_enter Tryz.func67, Tryz.ntmps67
  go_wp2_with fail
  rw [← hW0]
  refine (rfields30_any _ t tk W0 ⟨_, rfl, HC.out⟩ HS.out.1 HS.out.2).mono ?_
  rintro e w1 ⟨fv, rfl, hst, hb1⟩
  have h1 : Fr [] w w1 := h0.below hb1 h0.size
  obtain ⟨fa, fc, rfl, _, _⟩ := hst.form
  have HST := Lib.hid hst
  clear hst hb1 c0 c1 c2 c3 c4 hW0
  go_wp2_with fail
  refine (rlist_any _ (fieldsT t tk) w1 HST.out HCP.out).mono ?_
  rintro e w2 ⟨rfl, hb2⟩
  go_wp2_with fail
  go_ret
  exact ⟨rfl, (h1.below hb2 h1.size).toBelow (by simp)⟩
set_option maxRecDepth 100000 in
set_option maxHeartbeats 4000000 in
theorem rvalid30_any (v : Value) (t : Ttl) (w : World) (hv : TtlR w v t) (hS : TSmall t) :
    Calls Tryz.prog 32 #[v] w fun e w' => e = .returned (.bool (validT t)) ∧ Below w.heap.size w w' := by
  have hmx : Tryz.prog.follows .mixedOrders = true := by kernel_rfl
  obtain ⟨cv, rfl, hc⟩ := hv
  obtain ⟨a, cap, rfl, _, _, ha⟩ := hc.form
  have HS := Lib.hid hS
  clear hS
  obtain ⟨W0, hW0⟩ : ∃ W0, W0 = w.alloc (.cells #[.int .i64 t.serial, .int .i64 t.shw, .int .i64 t.place, .string ⟨t.first.toArray⟩, .slice a t.chain.length cap] 34) := ⟨_, rfl⟩
  obtain ⟨p, ep⟩ : ∃ p, p = w.heap.size := ⟨_, rfl⟩
  have h0 : Fr [] w W0 := by rw [hW0]; exact (Fr.refl [] w).alloc _
  have hp0 : W0.heap[p]? = some (.cells #[.int .i64 t.serial, .int .i64 t.shw, .int .i64 t.place, .string ⟨t.first.toArray⟩, .slice a t.chain.length cap] 34 (0, 0)) := by rw [hW0]; exact heap_new ep
  have c0 := row_cell hp0 0
  have c1 := row_cell hp0 1
  have c2 := row_cell hp0 2
  have c3 := row_cell hp0 3
  have c4 := row_cell hp0 4
  simp at c0 c1 c2 c3 c4
  rw [hW0, ep] at c0 c1 c2 c3 c4
  have HC := Lib.hid (hc.fr h0)
  clear hc
  obtain ⟨r, er⟩ : ∃ r, r = validT t := ⟨_, rfl⟩
  rw [← er]
  have ER := Lib.hid er
  clear er
  go_enter Tryz.func32, Tryz.ntmps32
  go_wp2_with fail
  rw [← hW0, ← ep]
  clear hW0 ep c0 c1 c2 c3 c4
  refine (rformed30_any _ t W0 ⟨_, rfl, HC.out⟩ HS.out).mono ?_
  rintro e w1 ⟨rfl, hb1⟩
  have h01 : Fr [] W0 w1 := Fr.ofBelow hb1
  have hp0 := h01.at hp0 (by simp)
  have HC := Lib.hid (HC.out.fr h01)
  have h1 := h0.trans h01 (by simp)
  clear hb1 h01 h0
  cases hf : formedT t with
  | false =>
    have HR : Hid (r = false) := Lib.hid (by rw [ER.out]; unfold validT; rw [hf]; rfl)
    clear hf
    go_wp2_with fail
    go_ret
    exact ⟨by rw [HR.out]; rfl, h1.toBelow (by simp)⟩
  | true =>
    have HR : Hid (r = (List.range t.chain.length).all (stepT t)) := Lib.hid (by rw [ER.out]; unfold validT; rw [hf]; rfl)
    have HF := Lib.hid (formedT_parts hf).2.2.2.2.2
    clear hf
    go_wp2_with fail
    go_loopg [3] t.chain.length (fun gh i wr => ∃ k : Nat, k ≤ t.chain.length ∧ gh = t.chain.length - k ∧ i = .int .i64 (k : Int) ∧ (∀ j, j < k → stepT t j = true) ∧ Fr [] w1 wr)
    case atStart => exact ⟨0, by omega, by omega, rfl, fun j hj => absurd hj (by omega), Fr.refl _ _⟩
    case round =>
      obtain ⟨k, hk, hgh, rfl, hall, hfr⟩ := hrel
      have HG := Lib.hid hgh
      have HA := Lib.hid hall
      clear hgh hall
      have hp0 := hfr.at hp0 (by simp)
      have HC := Lib.hid (HC.out.fr hfr)
      have hw := h1.trans hfr (by simp)
      have c0 := row_cell hp0 0
      have c1 := row_cell hp0 1
      have c2 := row_cell hp0 2
      have c3 := row_cell hp0 3
      have c4 := row_cell hp0 4
      simp at c0 c1 c2 c3 c4
      by_cases hlt : k < t.chain.length
      · have t1 : decide ((k : Int) < (t.chain.length : Int)) = true := by simp; omega
        obtain ⟨b, off, rfl⟩ := ha k hlt
        obtain ⟨x, hx⟩ : ∃ x, t.chain[k]? = some x := ⟨_, List.getElem?_eq_getElem hlt⟩
        obtain ⟨e0, u, e1, hu⟩ := HC.out.cells k x hx
        obtain ⟨sa, sc, rfl, _, _, _⟩ := hu.form
        have HM := Lib.hid (List.mem_of_getElem? hx)
        have HFX := Lib.hid (formX_parts (List.all_eq_true.1 HF.out x HM.out))
        have hsg := hu.strong (by intro h; have := HFX.out.1; rw [h] at this; simp at this)
        have HXN := Lib.hid (HS.out.c x HM.out).1
        have HXS : Hid (∀ s ∈ x.sig, s.length ≤ 1000000) := Lib.hid (fun s hs => Nat.le_trans ((HS.out.c x HM.out).2.2 s hs) (by decide))
        have HST : Hid (stepT t k = (!usedT (cutT t k) x.nk && verifyS (ownerT (cutT t k)) (msgT (cutT t k) x.nk) x.sig)) := Lib.hid (by unfold stepT; rw [hx])
        have HLT := Lib.hid hlt
        have i0 : (0 : Int) ≤ (k : Int) := by omega
        have i1 : (k : Int) < (t.chain.length : Int) := by omega
        clear hx hu hlt
        go_wp2_with fail
        refine (rcut30_any _ t k wr ⟨_, rfl, HC.out⟩ (Nat.le_of_lt HLT.out)).mono ?_
        rintro e y ⟨⟨vc, rfl, hvc⟩, hbb⟩
        have hwy : Fr [] wr y := Fr.ofBelow hbb
        obtain ⟨cc, rfl, hcc⟩ := hvc
        obtain ⟨ac, kc, rfl, _, _, _⟩ := hcc.form
        clear hbb
        obtain ⟨W4, hW4⟩ : ∃ W4, W4 = y.alloc (.cells #[.int .i64 (cutT t k).serial, .int .i64 (cutT t k).shw, .int .i64 (cutT t k).place, .string ⟨(cutT t k).first.toArray⟩, .slice ac (cutT t k).chain.length kc] 34) := ⟨_, rfl⟩
        obtain ⟨W5, hW5⟩ : ∃ W5, W5 = W4.alloc (.cells #[.string ⟨x.nk.toArray⟩, .slice sa x.sig.length sc] 82) := ⟨_, rfl⟩
        obtain ⟨b4, eb4⟩ : ∃ b, b = y.heap.size := ⟨_, rfl⟩
        obtain ⟨b5, eb5⟩ : ∃ b, b = y.heap.size + 1 := ⟨_, rfl⟩
        have f4 : Fr [] y W4 := by rw [hW4]; exact (Fr.refl [] y).alloc _
        have f5 : Fr [] W4 W5 := by rw [hW5]; exact (Fr.refl [] W4).alloc _
        have h44 : W4.heap[b4]? = some (.cells #[.int .i64 (cutT t k).serial, .int .i64 (cutT t k).shw, .int .i64 (cutT t k).place, .string ⟨(cutT t k).first.toArray⟩, .slice ac (cutT t k).chain.length kc] 34 (0, 0)) := by rw [hW4]; exact heap_new eb4
        have h45 := f5.at h44 (by simp)
        have h55 : W5.heap[b5]? = some (.cells #[.string ⟨x.nk.toArray⟩, .slice sa x.sig.length sc] 82 (0, 0)) := by rw [hW5]; exact heap_new (by rw [hW4, World.size_alloc]; exact eb5)
        have fy4 := hwy.trans f4 (by simp)
        have p4 := row_cell (fy4.at hp0 (by simp)) 4
        have p5 := fy4.cell e0 (by simp)
        have p6 := fy4.cell e1 (by simp)
        simp at p4
        rw [hW4] at p4 p5 p6
        have HCC := Lib.hid ((hcc.fr f4).fr f5)
        have HSG := Lib.hid (hsg.fr0 (fy4.trans f5 (by simp)))
        have fw5 := fy4.trans f5 (by simp)
        have HW5 := Lib.hid (And.intro eb4 (And.intro eb5 (And.intro hW4 hW5)))
        clear hcc hsg fy4 f4 f5 hwy h44 eb4 eb5 hW4 hW5 c0 c1 c2 c3 c4 e0 e1
        go_wp2_with fail
        rw [← HW5.out.2.2.1, ← HW5.out.2.2.2, ← HW5.out.2.1, ← HW5.out.1]
        clear p4 p5 p6
        have c0 := row_cell h45 0
        have c1 := row_cell h45 1
        have c2 := row_cell h45 2
        have c3 := row_cell h45 3
        have c4 := row_cell h45 4
        simp at c0 c1 c2 c3 c4
        have d0 := row_cell h55 0
        have d1 := row_cell h55 1
        simp at d0 d1
        obtain ⟨uq, huq⟩ : ∃ q, usedT (cutT t k) x.nk = q := ⟨_, rfl⟩
        have HU0 := Lib.hid huq
        clear huq
        cases uq with
        | true =>
          have gr0 : Fr [] W5 W5.drew := (Fr.refl [] W5).drew
          have hSr0 : W5.drew.cell? ⟨b4, 0, none⟩ = some (.int .i64 (cutT t k).serial) ∧ W5.drew.cell? ⟨b4, 1, none⟩ = some (.int .i64 (cutT t k).shw) ∧ W5.drew.cell? ⟨b4, 2, none⟩ = some (.int .i64 (cutT t k).place) ∧ W5.drew.cell? ⟨b4, 3, none⟩ = some (.string ⟨(cutT t k).first.toArray⟩) ∧ W5.drew.cell? ⟨b4, 4, none⟩ = some (.slice ac (cutT t k).chain.length kc) ∧ W5.drew.cell? ⟨b5, 0, none⟩ = some (.string ⟨x.nk.toArray⟩) ∧ W5.drew.cell? ⟨b5, 1, none⟩ = some (.slice sa x.sig.length sc) := ⟨gr0.cell c0 (by simp), gr0.cell c1 (by simp), gr0.cell c2 (by simp), gr0.cell c3 (by simp), gr0.cell c4 (by simp), gr0.cell d0 (by simp), gr0.cell d1 (by simp)⟩
          refine region_held 100 (fun W' => W'.cell? ⟨b4, 0, none⟩ = some (.int .i64 (cutT t k).serial) ∧ W'.cell? ⟨b4, 1, none⟩ = some (.int .i64 (cutT t k).shw) ∧ W'.cell? ⟨b4, 2, none⟩ = some (.int .i64 (cutT t k).place) ∧ W'.cell? ⟨b4, 3, none⟩ = some (.string ⟨(cutT t k).first.toArray⟩) ∧ W'.cell? ⟨b4, 4, none⟩ = some (.slice ac (cutT t k).chain.length kc) ∧ W'.cell? ⟨b5, 0, none⟩ = some (.string ⟨x.nk.toArray⟩) ∧ W'.cell? ⟨b5, 1, none⟩ = some (.slice sa x.sig.length sc)) hmx ?_
          change Held _ _ _ _ _ _ 16 (Array.replicate 16 false) _ _
          refine hd_take 0 (v := .agg #[.int .i64 (cutT t k).serial, .int .i64 (cutT t k).shw, .int .i64 (cutT t k).place, .string ⟨(cutT t k).first.toArray⟩, .slice ac (cutT t k).chain.length kc]) rfl (by kernel_rfl) (by kernel_rfl) (by kernel_rfl) rfl hSr0 (fun W' hS => by obtain ⟨s0, s1, s2, s3, s4, s5, s6⟩ := hS; go_simp) rfl ?_
          refine hd_take 1 (v := .pointer (some ⟨b5, 0, none⟩)) rfl (by kernel_rfl) (by kernel_rfl) (by kernel_rfl) rfl hSr0 (fun W' hS => by go_simp) rfl ?_
          try simp only [Act.put, List.setIfInBounds_toArray, List.set_cons_zero, List.set_cons_succ]
          refine hd_take 2 (v := .string ⟨x.nk.toArray⟩) rfl (by kernel_rfl) (by kernel_rfl) (by kernel_rfl) rfl hSr0 (fun W' hS => by obtain ⟨s0, s1, s2, s3, s4, s5, s6⟩ := hS; go_simp) rfl ?_
          try simp only [Act.put, List.setIfInBounds_toArray, List.set_cons_zero, List.set_cons_succ]
          refine hd_one 3 (by kernel_rfl) rfl (by kernel_rfl) rfl (fun K' hK => ?_)
          go_simp
          refine (rused30_any _ (cutT t k) x.nk W5.drew ⟨_, rfl, HCC.out.fr gr0⟩).mono ?_
          rintro e yr1 ⟨rfl, hbb⟩
          have gr1 : Fr [] W5 yr1 := gr0.below hbb gr0.size
          clear hbb
          have hSr1 : yr1.cell? ⟨b4, 0, none⟩ = some (.int .i64 (cutT t k).serial) ∧ yr1.cell? ⟨b4, 1, none⟩ = some (.int .i64 (cutT t k).shw) ∧ yr1.cell? ⟨b4, 2, none⟩ = some (.int .i64 (cutT t k).place) ∧ yr1.cell? ⟨b4, 3, none⟩ = some (.string ⟨(cutT t k).first.toArray⟩) ∧ yr1.cell? ⟨b4, 4, none⟩ = some (.slice ac (cutT t k).chain.length kc) ∧ yr1.cell? ⟨b5, 0, none⟩ = some (.string ⟨x.nk.toArray⟩) ∧ yr1.cell? ⟨b5, 1, none⟩ = some (.slice sa x.sig.length sc) := ⟨gr1.cell c0 (by simp), gr1.cell c1 (by simp), gr1.cell c2 (by simp), gr1.cell c3 (by simp), gr1.cell c4 (by simp), gr1.cell d0 (by simp), gr1.cell d1 (by simp)⟩
          refine hK.out _ _ (fun _ => hSr1) ?_
          clear hK K'
          try simp only [Act.put, List.setIfInBounds_toArray, List.set_cons_zero, List.set_cons_succ]
          rw [HU0.out]
          refine hd_take 4 (v := .bool true) rfl (by kernel_rfl) (by kernel_rfl) (by kernel_rfl) rfl hSr1 (fun W' hS => by go_simp) rfl ?_
          try simp only [Act.put, List.setIfInBounds_toArray, List.set_cons_zero, List.set_cons_succ]
          refine hd_skip 5 rfl (by kernel_rfl) (by kernel_rfl) (by kernel_rfl) rfl hSr1 rfl ?_
          refine hd_skip 6 rfl (by kernel_rfl) (by kernel_rfl) (by kernel_rfl) rfl hSr1 rfl ?_
          refine hd_skip 7 rfl (by kernel_rfl) (by kernel_rfl) (by kernel_rfl) rfl hSr1 rfl ?_
          refine hd_skip 8 rfl (by kernel_rfl) (by kernel_rfl) (by kernel_rfl) rfl hSr1 rfl ?_
          refine hd_skip 9 rfl (by kernel_rfl) (by kernel_rfl) (by kernel_rfl) rfl hSr1 rfl ?_
          refine hd_skip 10 rfl (by kernel_rfl) (by kernel_rfl) (by kernel_rfl) rfl hSr1 rfl ?_
          refine hd_skip 11 rfl (by kernel_rfl) (by kernel_rfl) (by kernel_rfl) rfl hSr1 rfl ?_
          refine hd_skip 12 rfl (by kernel_rfl) (by kernel_rfl) (by kernel_rfl) rfl hSr1 rfl ?_
          refine hd_skip 13 rfl (by kernel_rfl) (by kernel_rfl) (by kernel_rfl) rfl hSr1 rfl ?_
          refine hd_skip 14 rfl (by kernel_rfl) (by kernel_rfl) (by kernel_rfl) rfl hSr1 rfl ?_
          refine hd_take 15 (v := .bool true) rfl (by kernel_rfl) (by kernel_rfl) (by kernel_rfl) rfl hSr1 (fun W' hS => by go_simp) rfl ?_
          try simp only [Act.put, List.setIfInBounds_toArray, List.set_cons_zero, List.set_cons_succ]
          refine held_done (by kernel_rfl) ?_
          have HX : Hid (r = false) := Lib.hid (by
            rw [HR.out]
            exact List.all_eq_false.2 ⟨k, List.mem_range.2 HLT.out, by rw [HST.out, HU0.out]; simp⟩)
          have fe := (hw.trans fw5 (by simp)).trans gr1 (by simp)
          go_wp2_with fail
          go_ret
          exact ⟨by rw [HX.out]; rfl, fe.toBelow (by simp)⟩
        | false =>
          have gr0 : Fr [] W5 W5.drew := (Fr.refl [] W5).drew
          have hSr0 : W5.drew.cell? ⟨b4, 0, none⟩ = some (.int .i64 (cutT t k).serial) ∧ W5.drew.cell? ⟨b4, 1, none⟩ = some (.int .i64 (cutT t k).shw) ∧ W5.drew.cell? ⟨b4, 2, none⟩ = some (.int .i64 (cutT t k).place) ∧ W5.drew.cell? ⟨b4, 3, none⟩ = some (.string ⟨(cutT t k).first.toArray⟩) ∧ W5.drew.cell? ⟨b4, 4, none⟩ = some (.slice ac (cutT t k).chain.length kc) ∧ W5.drew.cell? ⟨b5, 0, none⟩ = some (.string ⟨x.nk.toArray⟩) ∧ W5.drew.cell? ⟨b5, 1, none⟩ = some (.slice sa x.sig.length sc) := ⟨gr0.cell c0 (by simp), gr0.cell c1 (by simp), gr0.cell c2 (by simp), gr0.cell c3 (by simp), gr0.cell c4 (by simp), gr0.cell d0 (by simp), gr0.cell d1 (by simp)⟩
          refine region_held 100 (fun W' => W'.cell? ⟨b4, 0, none⟩ = some (.int .i64 (cutT t k).serial) ∧ W'.cell? ⟨b4, 1, none⟩ = some (.int .i64 (cutT t k).shw) ∧ W'.cell? ⟨b4, 2, none⟩ = some (.int .i64 (cutT t k).place) ∧ W'.cell? ⟨b4, 3, none⟩ = some (.string ⟨(cutT t k).first.toArray⟩) ∧ W'.cell? ⟨b4, 4, none⟩ = some (.slice ac (cutT t k).chain.length kc) ∧ W'.cell? ⟨b5, 0, none⟩ = some (.string ⟨x.nk.toArray⟩) ∧ W'.cell? ⟨b5, 1, none⟩ = some (.slice sa x.sig.length sc)) hmx ?_
          change Held _ _ _ _ _ _ 16 (Array.replicate 16 false) _ _
          refine hd_take 0 (v := .agg #[.int .i64 (cutT t k).serial, .int .i64 (cutT t k).shw, .int .i64 (cutT t k).place, .string ⟨(cutT t k).first.toArray⟩, .slice ac (cutT t k).chain.length kc]) rfl (by kernel_rfl) (by kernel_rfl) (by kernel_rfl) rfl hSr0 (fun W' hS => by obtain ⟨s0, s1, s2, s3, s4, s5, s6⟩ := hS; go_simp) rfl ?_
          refine hd_take 1 (v := .pointer (some ⟨b5, 0, none⟩)) rfl (by kernel_rfl) (by kernel_rfl) (by kernel_rfl) rfl hSr0 (fun W' hS => by go_simp) rfl ?_
          try simp only [Act.put, List.setIfInBounds_toArray, List.set_cons_zero, List.set_cons_succ]
          refine hd_take 2 (v := .string ⟨x.nk.toArray⟩) rfl (by kernel_rfl) (by kernel_rfl) (by kernel_rfl) rfl hSr0 (fun W' hS => by obtain ⟨s0, s1, s2, s3, s4, s5, s6⟩ := hS; go_simp) rfl ?_
          try simp only [Act.put, List.setIfInBounds_toArray, List.set_cons_zero, List.set_cons_succ]
          refine hd_one 3 (by kernel_rfl) rfl (by kernel_rfl) rfl (fun K' hK => ?_)
          go_simp
          refine (rused30_any _ (cutT t k) x.nk W5.drew ⟨_, rfl, HCC.out.fr gr0⟩).mono ?_
          rintro e yr1 ⟨rfl, hbb⟩
          have gr1 : Fr [] W5 yr1 := gr0.below hbb gr0.size
          clear hbb
          have hSr1 : yr1.cell? ⟨b4, 0, none⟩ = some (.int .i64 (cutT t k).serial) ∧ yr1.cell? ⟨b4, 1, none⟩ = some (.int .i64 (cutT t k).shw) ∧ yr1.cell? ⟨b4, 2, none⟩ = some (.int .i64 (cutT t k).place) ∧ yr1.cell? ⟨b4, 3, none⟩ = some (.string ⟨(cutT t k).first.toArray⟩) ∧ yr1.cell? ⟨b4, 4, none⟩ = some (.slice ac (cutT t k).chain.length kc) ∧ yr1.cell? ⟨b5, 0, none⟩ = some (.string ⟨x.nk.toArray⟩) ∧ yr1.cell? ⟨b5, 1, none⟩ = some (.slice sa x.sig.length sc) := ⟨gr1.cell c0 (by simp), gr1.cell c1 (by simp), gr1.cell c2 (by simp), gr1.cell c3 (by simp), gr1.cell c4 (by simp), gr1.cell d0 (by simp), gr1.cell d1 (by simp)⟩
          refine hK.out _ _ (fun _ => hSr1) ?_
          clear hK K'
          try simp only [Act.put, List.setIfInBounds_toArray, List.set_cons_zero, List.set_cons_succ]
          rw [HU0.out]
          refine hd_take 4 (v := .bool false) rfl (by kernel_rfl) (by kernel_rfl) (by kernel_rfl) rfl hSr1 (fun W' hS => by go_simp) rfl ?_
          try simp only [Act.put, List.setIfInBounds_toArray, List.set_cons_zero, List.set_cons_succ]
          refine hd_take 5 (v := .agg #[.int .i64 (cutT t k).serial, .int .i64 (cutT t k).shw, .int .i64 (cutT t k).place, .string ⟨(cutT t k).first.toArray⟩, .slice ac (cutT t k).chain.length kc]) rfl (by kernel_rfl) (by kernel_rfl) (by kernel_rfl) rfl hSr1 (fun W' hS => by obtain ⟨s0, s1, s2, s3, s4, s5, s6⟩ := hS; go_simp) rfl ?_
          refine hd_take 7 (v := .agg #[.int .i64 (cutT t k).serial, .int .i64 (cutT t k).shw, .int .i64 (cutT t k).place, .string ⟨(cutT t k).first.toArray⟩, .slice ac (cutT t k).chain.length kc]) rfl (by kernel_rfl) (by kernel_rfl) (by kernel_rfl) rfl hSr1 (fun W' hS => by obtain ⟨s0, s1, s2, s3, s4, s5, s6⟩ := hS; go_simp) rfl ?_
          refine hd_take 8 (v := .pointer (some ⟨b5, 0, none⟩)) rfl (by kernel_rfl) (by kernel_rfl) (by kernel_rfl) rfl hSr1 (fun W' hS => by go_simp) rfl ?_
          refine hd_take 11 (v := .pointer (some ⟨b5, 1, none⟩)) rfl (by kernel_rfl) (by kernel_rfl) (by kernel_rfl) rfl hSr1 (fun W' hS => by go_simp) rfl ?_
          try simp only [Act.put, List.setIfInBounds_toArray, List.set_cons_zero, List.set_cons_succ]
          refine hd_take 9 (v := .string ⟨x.nk.toArray⟩) rfl (by kernel_rfl) (by kernel_rfl) (by kernel_rfl) rfl hSr1 (fun W' hS => by obtain ⟨s0, s1, s2, s3, s4, s5, s6⟩ := hS; go_simp) rfl ?_
          refine hd_take 12 (v := .slice sa x.sig.length sc) rfl (by kernel_rfl) (by kernel_rfl) (by kernel_rfl) rfl hSr1 (fun W' hS => by obtain ⟨s0, s1, s2, s3, s4, s5, s6⟩ := hS; go_simp) rfl ?_
          try simp only [Act.put, List.setIfInBounds_toArray, List.set_cons_zero, List.set_cons_succ]
          refine hd_one 6 (by kernel_rfl) rfl (by kernel_rfl) rfl (fun K' hK => ?_)
          go_simp
          refine (rowner30_any _ (cutT t k) yr1 ⟨_, rfl, HCC.out.fr gr1⟩).mono ?_
          rintro e yr2 ⟨rfl, hbb⟩
          have gr2 : Fr [] W5 yr2 := gr1.below hbb gr1.size
          clear hbb
          have hSr2 : yr2.cell? ⟨b4, 0, none⟩ = some (.int .i64 (cutT t k).serial) ∧ yr2.cell? ⟨b4, 1, none⟩ = some (.int .i64 (cutT t k).shw) ∧ yr2.cell? ⟨b4, 2, none⟩ = some (.int .i64 (cutT t k).place) ∧ yr2.cell? ⟨b4, 3, none⟩ = some (.string ⟨(cutT t k).first.toArray⟩) ∧ yr2.cell? ⟨b4, 4, none⟩ = some (.slice ac (cutT t k).chain.length kc) ∧ yr2.cell? ⟨b5, 0, none⟩ = some (.string ⟨x.nk.toArray⟩) ∧ yr2.cell? ⟨b5, 1, none⟩ = some (.slice sa x.sig.length sc) := ⟨gr2.cell c0 (by simp), gr2.cell c1 (by simp), gr2.cell c2 (by simp), gr2.cell c3 (by simp), gr2.cell c4 (by simp), gr2.cell d0 (by simp), gr2.cell d1 (by simp)⟩
          refine hK.out _ _ (fun _ => hSr2) ?_
          clear hK K'
          try simp only [Act.put, List.setIfInBounds_toArray, List.set_cons_zero, List.set_cons_succ]
          obtain ⟨ow, how⟩ : ∃ q, q = ownerT (cutT t k) := ⟨_, rfl⟩
          rw [← how]
          have HOW := Lib.hid how
          clear how
          refine hd_one 10 (by kernel_rfl) rfl (by kernel_rfl) rfl (fun K' hK => ?_)
          go_simp
          refine (rmessage30_any _ (cutT t k) x.nk yr2 ⟨_, rfl, HCC.out.fr gr2⟩ (HS.out.cut k) HXN.out).mono ?_
          rintro e yr3 ⟨rfl, hbb⟩
          have gr3 : Fr [] W5 yr3 := gr2.below hbb gr2.size
          clear hbb
          have hSr3 : yr3.cell? ⟨b4, 0, none⟩ = some (.int .i64 (cutT t k).serial) ∧ yr3.cell? ⟨b4, 1, none⟩ = some (.int .i64 (cutT t k).shw) ∧ yr3.cell? ⟨b4, 2, none⟩ = some (.int .i64 (cutT t k).place) ∧ yr3.cell? ⟨b4, 3, none⟩ = some (.string ⟨(cutT t k).first.toArray⟩) ∧ yr3.cell? ⟨b4, 4, none⟩ = some (.slice ac (cutT t k).chain.length kc) ∧ yr3.cell? ⟨b5, 0, none⟩ = some (.string ⟨x.nk.toArray⟩) ∧ yr3.cell? ⟨b5, 1, none⟩ = some (.slice sa x.sig.length sc) := ⟨gr3.cell c0 (by simp), gr3.cell c1 (by simp), gr3.cell c2 (by simp), gr3.cell c3 (by simp), gr3.cell c4 (by simp), gr3.cell d0 (by simp), gr3.cell d1 (by simp)⟩
          refine hK.out _ _ (fun _ => hSr3) ?_
          clear hK K'
          try simp only [Act.put, List.setIfInBounds_toArray, List.set_cons_zero, List.set_cons_succ]
          obtain ⟨ms, hms⟩ : ∃ q, q = msgT (cutT t k) x.nk := ⟨_, rfl⟩
          rw [← hms]
          have HMS := Lib.hid hms
          clear hms
          refine hd_one 13 (by kernel_rfl) rfl (by kernel_rfl) rfl (fun K' hK => ?_)
          go_simp
          refine (rverify_any ow ms _ x.sig yr3 (by rw [HMS.out]; exact msgT_len _ _) HXS.out (HSG.out.fr0 gr3)).mono ?_
          rintro e yr4 ⟨rfl, hbb⟩
          have gr4 : Fr [] W5 yr4 := gr3.below hbb gr3.size
          clear hbb
          have hSr4 : yr4.cell? ⟨b4, 0, none⟩ = some (.int .i64 (cutT t k).serial) ∧ yr4.cell? ⟨b4, 1, none⟩ = some (.int .i64 (cutT t k).shw) ∧ yr4.cell? ⟨b4, 2, none⟩ = some (.int .i64 (cutT t k).place) ∧ yr4.cell? ⟨b4, 3, none⟩ = some (.string ⟨(cutT t k).first.toArray⟩) ∧ yr4.cell? ⟨b4, 4, none⟩ = some (.slice ac (cutT t k).chain.length kc) ∧ yr4.cell? ⟨b5, 0, none⟩ = some (.string ⟨x.nk.toArray⟩) ∧ yr4.cell? ⟨b5, 1, none⟩ = some (.slice sa x.sig.length sc) := ⟨gr4.cell c0 (by simp), gr4.cell c1 (by simp), gr4.cell c2 (by simp), gr4.cell c3 (by simp), gr4.cell c4 (by simp), gr4.cell d0 (by simp), gr4.cell d1 (by simp)⟩
          refine hK.out _ _ (fun _ => hSr4) ?_
          clear hK K'
          try simp only [Act.put, List.setIfInBounds_toArray, List.set_cons_zero, List.set_cons_succ]
          obtain ⟨vq, hvq⟩ : ∃ q, q = verifyS ow ms x.sig := ⟨_, rfl⟩
          rw [← hvq]
          have HVQ := Lib.hid hvq
          clear hvq
          refine hd_take 14 (v := .bool (!vq)) rfl (by kernel_rfl) (by kernel_rfl) (by kernel_rfl) rfl hSr4 (fun W' hS => by go_simp) rfl ?_
          try simp only [Act.put, List.setIfInBounds_toArray, List.set_cons_zero, List.set_cons_succ]
          refine hd_take 15 (v := .bool (!vq)) rfl (by kernel_rfl) (by kernel_rfl) (by kernel_rfl) rfl hSr4 (fun W' hS => by go_simp) rfl ?_
          try simp only [Act.put, List.setIfInBounds_toArray, List.set_cons_zero, List.set_cons_succ]
          refine held_done (by kernel_rfl) ?_
          have HSV : Hid (stepT t k = vq) := Lib.hid (by rw [HST.out, HU0.out, ← HOW.out, ← HMS.out, ← HVQ.out]; simp)
          have fe := fw5.trans gr4 (by simp)
          cases vq with
          | false =>
            have HX : Hid (r = false) := Lib.hid (by
              rw [HR.out]
              exact List.all_eq_false.2 ⟨k, List.mem_range.2 HLT.out, by rw [HSV.out]; simp⟩)
            simp only [Bool.not_false]
            go_wp2_with fail
            go_ret
            exact ⟨by rw [HX.out]; rfl, (hw.trans fe (by simp)).toBelow (by simp)⟩
          | true =>
            simp only [Bool.not_true]
            go_wp2_with fail
            go_roundg (t.chain.length - (k + 1))
            case measure => have := HG.out; omega
            case rel =>
              refine ⟨k + 1, HLT.out, rfl, by go_num, fun j hj => ?_, hfr.trans fe (by simp)⟩
              by_cases hjk : j < k
              · exact HA.out j hjk
              · obtain rfl : j = k := by omega
                exact HSV.out
      · obtain rfl : k = t.chain.length := by omega
        have t1 : decide ((t.chain.length : Int) < (t.chain.length : Int)) = false := by simp
        have HX : Hid (r = true) := Lib.hid (by
          rw [HR.out]
          exact List.all_eq_true.2 fun j hj => HA.out j (List.mem_range.1 hj))
        go_wp2_with fail
        go_ret
        exact ⟨by rw [HX.out]; rfl, hw.toBelow (by simp)⟩
end Go.Proofs.YtglgkdbhdjkeaaaGreatDoor
