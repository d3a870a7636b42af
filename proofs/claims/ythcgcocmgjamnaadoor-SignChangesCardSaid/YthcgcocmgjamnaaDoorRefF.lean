/-
  The reference of layer 3: Verify, Same, decimal, Joined.
-/
import Derived.Test.YthcgcocmgjamnaaDoorRefE
namespace Go.Proofs.YthcgcocmgjamnaaDoor
open Go.RowKit

set_option maxRecDepth 100000 in
set_option maxHeartbeats 1000000 in
theorem rverify_any (pub message : List UInt8) (sv : Value) (sig : List (List UInt8)) (w : World) (hm : message.length ≤ 1000000) (hs : ∀ s ∈ sig, s.length ≤ 1000000) (hsv : Strs w sv sig) :
    Calls Tryd.prog 17 #[.string ⟨pub.toArray⟩, .string ⟨message.toArray⟩, sv] w fun e w' => e = .returned (.bool (verifyS pub message sig)) ∧ Below w.heap.size w w' := by
  have hmx : Tryd.prog.follows .mixedOrders = true := by kernel_rfl
  have HV := Lib.hid hsv
  obtain ⟨a, cap, rfl, hlen, ha⟩ := hsv.form
  clear hsv
  by_cases h18 : sig.length = 18
  · have t1 : ((sig.length : Int) != 18) = false := by rw [h18]; rfl
    obtain ⟨b, off, rfl⟩ := ha 0 (by omega)
    have H18 := Lib.hid h18
    clear h18 ha
    go_enter Tryd.func17, Tryd.ntmps17
    go_wp2_with fail
    refine (rsum_any message w (by omega)).mono ?_
    rintro e w1 ⟨rfl, hb1⟩
    go_wp2_with fail
    refine (rdigs_any (dsum message) w1 (hexS_hex _) (by rw [dsum_length]; decide)).mono ?_
    rintro e w2 ⟨dv, rfl, hd, hb2⟩
    obtain ⟨dg, dcap, rfl, hdb, hdl, hdc, hdm, hcells⟩ := hd.form (by rw [digs_length]; decide)
    rw [digs_length] at hcells hdc ⊢
    have hf2 : Fr [] w w2 := ((Fr.refl [] w).below hb1 (Nat.le_refl _)).below hb2 hb1.size
    have HV2 := Lib.hid (HV.out.fr0 hf2)
    clear hd hb1 hb2
    go_wp2_with fail
    go_loopg [8, 9] 18 (fun g ev i wr => ∃ k : Nat, k ≤ 18 ∧ g = 18 - k ∧ i = .int .i64 (k : Int) ∧ (sig.take k).all isD = true ∧ OwnS w2.heap.size wr ev (vends message (sig.take k)) ∧ Fr [] w2 wr)
    case atStart => exact ⟨0, by omega, by omega, rfl, by simp, ⟨by simp [vends], Or.inl ⟨rfl, by simp [vends]⟩⟩, Fr.refl _ _⟩
    case round =>
      obtain ⟨k, hk, hg, rfl, hall, ho, hfr⟩ := hrel
      have HG := Lib.hid hg
      have HALL := Lib.hid hall
      have HO := Lib.hid ho
      clear hg hall ho
      by_cases hlt : k < 18
      · have hls : k < sig.length := by have := H18.out; omega
        have hcell := (HV2.out.fr0 hfr).cell k hls
        have hcell0 := HV2.out.cell k hls
        have hsl := hs (sig.getD k []) (getD_mem _ _ _ hls)
        have hc0 := hcells k hlt
        have hd15 := digs_lt message k hlt
        have HS := Lib.hid (vends_snoc message sig k hls)
        have HT2 : Hid ((sig.take (k + 1)).all isD = ((sig.take k).all isD && isD (sig.getD k []))) := by
          show _ = _
          rw [take_snoc' sig k [] hls, List.all_append]; simp only [List.all_cons, List.all_nil, Bool.and_true]
        have HSD : Hid (isD (sig.getD k []) = false → sig.all isD = false) := by
          intro h
          rw [List.all_eq_false]
          exact ⟨_, getD_mem sig k [] hls, by rw [h]; decide⟩
        have hlenL : (vends message (sig.take k)).length ≤ 18 := by rw [vends_length, List.length_take]; omega
        generalize vends message (sig.take k) = L at HO HS hlenL
        generalize sig.getD k [] = s at hcell hcell0 hsl HS HT2 HSD
        generalize (digs (dsum message)).getD k 0 = d at hc0 hd15 HS
        have hc := hfr.cell hc0 (by simp)
        cases hD : isD s with
        | false =>
          have HB := Lib.hid hD
          go_wp2_with fail
          refine (ris_any s wr (by omega)).mono ?_
          rintro e w3 ⟨rfl, rfl⟩
          go_wp2_with fail
          go_ret
          have hv : verifyS pub message sig = false := by simp [verifyS, HSD.out HB.out]
          exact ⟨by rw [hv]; rfl, (hf2.trans hfr (by simp)).toBelow (by simp)⟩
        | true =>
          have HB := Lib.hid hD
          go_wp2_with fail
          refine (ris_any s wr (by omega)).mono ?_
          rintro e w3 ⟨rfl, rfl⟩
          go_wp2_with fail
          have hS0 : wr.drew.cell? ⟨dg, k, none⟩ = some (.int .i64 (d : Int)) ∧ wr.drew.cell? ⟨b, off + k, none⟩ = some (.string ⟨s.toArray⟩) := ⟨hc, hcell⟩
          refine region_held 13 (fun W' => W'.cell? ⟨dg, k, none⟩ = some (.int .i64 (d : Int)) ∧ W'.cell? ⟨b, off + k, none⟩ = some (.string ⟨s.toArray⟩)) hmx ?_
          change Held _ _ _ _ _ _ 14 (Array.replicate 14 false) _ _
          refine held_take 0 (v := u8) rfl rfl (by kernel_rfl) (by kernel_rfl) rfl hS0 (fun W' hS => by go_simp) rfl ?_
          refine held_take 1 (v := .slice (some ⟨b, off, none⟩) sig.length cap) rfl rfl (by kernel_rfl) (by kernel_rfl) rfl hS0 (fun W' hS => by go_simp) rfl ?_
          refine held_take 2 (v := .int .i64 (k : Int)) rfl rfl (by kernel_rfl) (by kernel_rfl) rfl hS0 (fun W' hS => by go_simp) rfl ?_
          refine held_take 5 (v := .slice (some ⟨dg, 0, none⟩) 18 dcap) rfl rfl (by kernel_rfl) (by kernel_rfl) rfl hS0 (fun W' hS => by go_simp) rfl ?_
          refine held_take 6 (v := .int .i64 (k : Int)) rfl rfl (by kernel_rfl) (by kernel_rfl) rfl hS0 (fun W' hS => by go_simp) rfl ?_
          simp only [Act.put]
          refine held_take 3 (v := .pointer (some ⟨b, off + k, none⟩)) rfl rfl (by kernel_rfl) (by kernel_rfl) rfl hS0 (fun W' hS => by go_simp) rfl ?_
          refine held_take 7 (v := .pointer (some ⟨dg, k, none⟩)) rfl rfl (by kernel_rfl) (by kernel_rfl) rfl hS0 (fun W' hS => by go_simp) rfl ?_
          refine held_take 4 (v := .string ⟨s.toArray⟩) rfl rfl (by kernel_rfl) (by kernel_rfl) rfl hS0 (fun W' hS => by obtain ⟨h1, h2⟩ := hS; go_simp) rfl ?_
          refine held_take 8 (v := .int .i64 (d : Int)) rfl rfl (by kernel_rfl) (by kernel_rfl) rfl hS0 (fun W' hS => by obtain ⟨h1, h2⟩ := hS; go_simp) rfl ?_
          simp only [Act.put]
          refine held_take 9 (v := .int .i64 (15 - (d : Int))) rfl rfl (by kernel_rfl) (by kernel_rfl) rfl hS0 (fun W' hS => by have wd : IntKind.i64.wrap (15 - (d : Int)) = 15 - (d : Int) := IntWalk.i64_in _ (by omega); go_simp) rfl ?_
          simp only [Act.put]
          refine held_one 10 (by kernel_rfl) rfl rfl rfl (fun K' hK => ?_)
          go_simp
          refine (rchain_any s (15 - (d : Int)) _ (by omega)).mono ?_
          rintro e w4 ⟨rfl, hb4⟩
          have hw4 : Fr [] wr w4 := (Fr.refl [] wr).drew.below hb4 (Nat.le_refl _)
          refine hK.out _ _ (fun _ => ⟨hw4.cell hc (by simp), hw4.cell hcell (by simp)⟩) ?_
          clear hK K'
          refine held_one 11 (by kernel_rfl) rfl rfl rfl (fun K' hK => ?_)
          go_simp
          refine hK.out _ _ (fun _ => ⟨(hw4.alloc _).cell hc (by simp), (hw4.alloc _).cell hcell (by simp)⟩) ?_
          clear hK K'
          have hfr4 : Fr [] w2 w4 := hfr.trans hw4 (by simp)
          have HO4 := Lib.hid (HO.out.fr hw4 (by simp))
          refine held_one 12 (by kernel_rfl) rfl rfl rfl (fun K' hK => ?_)
          refine wp_appS (.tmp 26) (.tmp 37) rfl w2.heap.size _ L (dchain s (15 - (d : Int))) w2 rfl rfl HO4.out hfr4 (Nat.le_refl _) hfr4.size (by omega) ?_
          rintro v' w5 ⟨g', cap', rfl⟩ ho5 hfr5 _
          have HO5 := Lib.hid ho5
          have hc5 := hfr5.cell hc0 (by simp)
          have hcell5 := hfr5.cell hcell0 (by simp)
          refine hK.out _ _ (fun _ => ⟨hc5, hcell5⟩) ?_
          clear hK K' HO4 HO hw4 hfr4 ho5
          refine held_one 13 (by kernel_rfl) rfl rfl rfl (fun K' hK => ?_)
          go_simp
          refine hK.out _ _ (fun h => absurd rfl h) ?_
          clear hK K'
          refine held_done (by kernel_rfl) ?_
          go_wp2_with fail
          go_roundg (18 - (k + 1))
          case measure => have := HG.out; omega
          case rel => exact ⟨k + 1, by omega, rfl, by go_num, by rw [HT2.out, HALL.out, HB.out]; rfl, by rw [HS.out]; exact HO5.out, hfr5⟩
      · obtain rfl : k = 18 := by omega
        have ht : sig.take 18 = sig := List.take_of_length_le (by have := H18.out; omega)
        have HO2 : Hid (OwnS w2.heap.size wr u8 (vends message sig)) := by have := HO.out; rw [ht] at this; exact this
        have HALL2 : Hid (sig.all isD = true) := by have := HALL.out; rw [ht] at this; exact this
        clear HO HALL ht
        have hfin : verifyS pub message sig = (dlist (vends message sig) == pub) := by simp [verifyS, H18.out, HALL2.out]
        have HFIN := Lib.hid hfin
        clear hfin
        go_wp2_with fail
        refine (rlist_any _ (vends message sig) wr HO2.out.strs ?_).mono ?_
        · have h1 := capN_le (vends message sig) 16 (fun s hs => by rw [vends_16 message sig HALL2.out s hs]; decide)
          rw [vends_length, H18.out] at h1; omega
        rintro e w3 ⟨rfl, hb3⟩
        go_wp2_with fail
        go_ret
        exact ⟨by rw [HFIN.out]; rfl, ((hf2.trans hfr (by simp)).below hb3 (by have := hf2.size; have := hfr.size; omega)).toBelow (by simp)⟩
  · have t1 : ((sig.length : Int) != 18) = true := by simp; omega
    have H18 := Lib.hid h18
    clear h18 ha
    go_enter Tryd.func17, Tryd.ntmps17
    go_wp2_with fail
    go_ret
    have hv : verifyS pub message sig = false := by simp [verifyS, H18.out]
    exact ⟨by rw [hv]; rfl, Below.refl _ _⟩

set_option maxRecDepth 100000 in
set_option maxHeartbeats 1000000 in
theorem rsame_any (av bv : Value) (la lb : List (List UInt8)) (w : World) (ha : Strs w av la) (hb : Strs w bv lb) :
    Calls Tryd.prog 13 #[av, bv] w fun e w' => e = .returned (.bool (decide (la = lb))) ∧ Below w.heap.size w w' := by
  have hmx : Tryd.prog.follows .mixedOrders = true := by kernel_rfl
  have HA := Lib.hid ha
  have HB := Lib.hid hb
  obtain ⟨aa, acap, rfl, hla, hfa⟩ := ha.form
  obtain ⟨ab, bcap, rfl, hlb, hfb⟩ := hb.form
  clear ha hb
  by_cases hlen : la.length = lb.length
  · have t1 : ((la.length : Int) != (lb.length : Int)) = false := by rw [hlen]; simp
    have HLEN := Lib.hid hlen
    clear hlen
    go_enter Tryd.func13, Tryd.ntmps13
    go_wp2_with fail
    go_loopg [5] (la.length + 1) (fun g i wr => ∃ k : Nat, k ≤ la.length ∧ g = la.length + 1 - k ∧ i = .int .i64 (k : Int) ∧ la.take k = lb.take k ∧ Fr [] w wr)
    case atStart => exact ⟨0, by omega, by omega, rfl, by simp, Fr.refl _ _⟩
    case round =>
      obtain ⟨k, hk, hg, rfl, heq, hfr⟩ := hrel
      have HG := Lib.hid hg
      have HEQ := Lib.hid heq
      clear hg heq
      by_cases hlt : k < la.length
      · have hltb : k < lb.length := by have := HLEN.out; omega
        obtain ⟨ba, offa, rfl⟩ := hfa k hlt
        obtain ⟨bb, offb, rfl⟩ := hfb k hltb
        have hca := (HA.out.fr0 hfr).cell k hlt
        have hcb := (HB.out.fr0 hfr).cell k hltb
        have HSA := Lib.hid (take_snoc' la k [] hlt)
        have HSB := Lib.hid (take_snoc' lb k [] hltb)
        have t2 : decide ((k : Int) < (la.length : Int)) = true := by simp; omega
        have HGA : Hid (la.getD k [] ≠ lb.getD k [] → la ≠ lb) := fun h h' => h (by rw [h'])
        generalize la.getD k [] = x at hca HSA HGA
        generalize lb.getD k [] = y at hcb HSB HGA
        by_cases hxy : x = y
        · have t3 : (x != y) = false := by rw [hxy]; simp
          have t4 : (x == y) = true := by rw [hxy]; simp
          have HXY := Lib.hid hxy
          clear hxy
          go_wp2_with fail
          go_quiet (fail)
          go_wp2_with fail
          go_roundg (la.length + 1 - (k + 1))
          case measure => have := HG.out; omega
          case rel => exact ⟨k + 1, by omega, rfl, by go_num, by rw [HSA.out, HSB.out, HEQ.out, HXY.out], hfr.drewN _⟩
        · have t3 : (x != y) = true := by simpa using hxy
          have t4 : (x == y) = false := by simpa using hxy
          have HXY := Lib.hid hxy
          clear hxy
          go_wp2_with fail
          go_quiet (fail)
          go_wp2_with fail
          go_ret
          have hne : decide (la = lb) = false := decide_eq_false (HGA.out HXY.out)
          exact ⟨by rw [hne]; rfl, (hfr.drewN _).toBelow (by simp)⟩
      · obtain rfl : k = la.length := by omega
        have t2 : decide ((la.length : Int) < (la.length : Int)) = false := by simp
        have HE : Hid (la = lb) := by
          have := HEQ.out
          rw [List.take_length, List.take_of_length_le (by have := HLEN.out; omega)] at this
          exact this
        go_wp2_with fail
        go_ret
        exact ⟨by rw [decide_eq_true HE.out]; rfl, hfr.toBelow (by simp)⟩
  · have t1 : ((la.length : Int) != (lb.length : Int)) = true := by simp; omega
    have HLEN := Lib.hid hlen
    clear hlen
    go_enter Tryd.func13, Tryd.ntmps13
    go_wp2_with fail
    go_ret
    have hne : decide (la = lb) = false := decide_eq_false (fun h => HLEN.out (by rw [h]))
    exact ⟨by rw [hne]; rfl, Below.refl _ _⟩

set_option maxRecDepth 100000 in
theorem r3decimal_any (fuel : Nat) : ∀ (n : Nat) (w : World), n < 10 ^ (fuel + 1) → n ≤ 9223372036854775807 →
    Calls Tryd.prog 40 #[.int .i64 (n : Int)] w fun e w' => e = .returned (.string ⟨(Lib.decDigits n).toArray⟩) ∧ Below w.heap.size w w' := by
  induction fuel with
  | zero =>
    intro n w h h9
    have h10 : n < 10 := by omega
    go_enter Tryd.func40, Tryd.ntmps40
    go_wp2_with fail
    refine (rnumber_any n _ (by omega)).mono ?_
    rintro e w1 ⟨rfl, hb1⟩
    go_wp2_with fail
    go_ret
    exact ⟨rfl, hb1⟩
  | succ fuel ih =>
    intro n w h h9
    have IH := Lib.hid ih
    clear ih
    by_cases h10 : n < 10
    · clear h
      go_enter Tryd.func40, Tryd.ntmps40
      go_wp2_with fail
      refine (rnumber_any n _ (by omega)).mono ?_
      rintro e w1 ⟨rfl, hb1⟩
      go_wp2_with fail
      go_ret
      exact ⟨rfl, hb1⟩
    · obtain ⟨q, r, hq, hr, eq, er⟩ : ∃ q r : Nat, q = n / 10 ∧ r = n % 10 ∧ (n : Int) / 10 = (q : Int) ∧ (n : Int) % 10 = (r : Int) := ⟨n / 10, n % 10, rfl, rfl, by omega, by omega⟩
      have hq1 : q < 10 ^ (fuel + 1) := by rw [hq]; rw [Nat.pow_succ] at h; omega
      have hq2 : q ≤ 9223372036854775807 := by omega
      have hr1 : r < 10 := by omega
      have HD : Hid (Lib.decDigits n = Lib.decDigits q ++ Lib.decDigits r) := by
        show _ = _
        rw [dec_step n (by omega), dec_small r hr1, Nat.mod_eq_of_lt hr1, hq, hr]
      have hd20 := dec_len q (by omega)
      have hr20 := dec_len r (by omega)
      have HQ := Lib.hid hq1
      clear hq hr h hq1
      go_enter Tryd.func40, Tryd.ntmps40
      go_wp2_with fail
      refine (IH.out q _ HQ.out hq2).mono ?_
      rintro e w1 ⟨rfl, hb1⟩
      go_wp2_with fail
      refine (rnumber_any r _ (by omega)).mono ?_
      rintro e w2 ⟨rfl, hb2⟩
      go_wp2_with fail
      go_ret
      exact ⟨by rw [HD.out, ← ba_append]; rfl, hb1.trans (hb2.mono hb1.size)⟩

set_option maxRecDepth 100000 in
set_option maxHeartbeats 1000000 in
theorem r3joined_any (v : Value) (l : List (List UInt8)) (w : World) (hv : Strs w v l) (hl : capN l ≤ 140737488355328) :
    Calls Tryd.prog 24 #[v] w fun e w' => e = .returned (.string ⟨(joinL l).toArray⟩) ∧ Below w.heap.size w w' := by
  have hmx : Tryd.prog.follows .mixedOrders = true := by kernel_rfl
  have HV := Lib.hid hv
  obtain ⟨a, cap, rfl, hlen, ha⟩ := hv.form
  clear hv
  have hJ : (joinL l).length ≤ 140737488355328 := Nat.le_trans (joinL_capN l (fun s hs => by
    obtain ⟨i, hi1, hi2⟩ := List.getElem_of_mem hs
    have h3 := capN_snoc l i hi1
    have h4 := capN_take l (i + 1)
    have h5 : l.getD i [] = s := by rw [List.getD_eq_getElem?_getD, List.getElem?_eq_getElem hi1]; exact hi2
    rw [h5] at h3
    omega)) hl
  go_enter Tryd.func24, Tryd.ntmps24
  go_wp2_with fail
  go_loopg [3, 4] l.length (fun g s i wr => ∃ k : Nat, k ≤ l.length ∧ g = l.length - k ∧ i = .int .i64 (k : Int) ∧ s = .string ⟨(joinL (l.take k)).toArray⟩ ∧ Fr [] w wr)
  case atStart => exact ⟨0, Nat.zero_le _, by omega, rfl, rfl, Fr.refl _ _⟩
  case round =>
    obtain ⟨k, hk, hg, rfl, rfl, hfr⟩ := hrel
    have HG := Lib.hid hg
    clear hg
    by_cases hlt : k < l.length
    · obtain ⟨b, off, rfl⟩ := ha k hlt
      have hc := (HV.out.fr0 hfr).cell k hlt
      have HS := Lib.hid (joinL_snoc l k hlt)
      have hE := joinE_le l k hlt
      have t1 : decide ((k : Int) < (l.length : Int)) = true := by simp; omega
      generalize l.getD k [] = s at hc HS hE
      have hd : (Lib.decDigits s.length).length + (s.length + 1) + (joinL (l.take k)).length ≤ 140737488355328 := by simp only [joinE, List.length_append, List.length_cons] at hE; omega
      clear hE
      generalize joinL (l.take k) = J at hd HS ⊢
      go_wp2_with fail
      have hS0 : wr.drew.cell? ⟨b, off + k, none⟩ = some (.string ⟨s.toArray⟩) := hc
      refine region_held 14 (fun W' => W'.cell? ⟨b, off + k, none⟩ = some (.string ⟨s.toArray⟩)) hmx ?_
      change Held _ _ _ _ _ _ 15 (Array.replicate 15 false) _ _
      refine held_take 0 (v := .string ⟨J.toArray⟩) rfl rfl (by kernel_rfl) (by kernel_rfl) rfl hS0 (fun W' hS => by go_simp) rfl ?_
      refine held_take 1 (v := .slice (some ⟨b, off, none⟩) l.length cap) rfl rfl (by kernel_rfl) (by kernel_rfl) rfl hS0 (fun W' hS => by go_simp) rfl ?_
      refine held_take 2 (v := .int .i64 (k : Int)) rfl rfl (by kernel_rfl) (by kernel_rfl) rfl hS0 (fun W' hS => by go_simp) rfl ?_
      refine held_take 9 (v := .slice (some ⟨b, off, none⟩) l.length cap) rfl rfl (by kernel_rfl) (by kernel_rfl) rfl hS0 (fun W' hS => by go_simp) rfl ?_
      refine held_take 10 (v := .int .i64 (k : Int)) rfl rfl (by kernel_rfl) (by kernel_rfl) rfl hS0 (fun W' hS => by go_simp) rfl ?_
      simp only [Act.put]
      refine held_take 3 (v := .pointer (some ⟨b, off + k, none⟩)) rfl rfl (by kernel_rfl) (by kernel_rfl) rfl hS0 (fun W' hS => by go_simp) rfl ?_
      refine held_take 11 (v := .pointer (some ⟨b, off + k, none⟩)) rfl rfl (by kernel_rfl) (by kernel_rfl) rfl hS0 (fun W' hS => by go_simp) rfl ?_
      simp only [Act.put]
      refine held_take 4 (v := .string ⟨s.toArray⟩) rfl rfl (by kernel_rfl) (by kernel_rfl) rfl hS0 (fun W' hS => by go_simp) rfl ?_
      refine held_take 12 (v := .string ⟨s.toArray⟩) rfl rfl (by kernel_rfl) (by kernel_rfl) rfl hS0 (fun W' hS => by go_simp) rfl ?_
      simp only [Act.put]
      refine held_take 5 (v := .int .i64 (s.length : Int)) rfl rfl (by kernel_rfl) (by kernel_rfl) rfl hS0 (fun W' hS => by go_simp) rfl ?_
      simp only [Act.put]
      refine held_one 6 (by kernel_rfl) rfl rfl rfl (fun K' hK => ?_)
      go_simp
      refine (r3decimal_any 20 s.length _ (by omega) (by omega)).mono ?_
      rintro e w4 ⟨rfl, hb4⟩
      have hw4 : Fr [] wr w4 := (Fr.refl [] wr).drew.below hb4 (Nat.le_refl _)
      have hc4 := hw4.cell hc (by simp)
      refine hK.out _ _ (fun _ => hc4) ?_
      clear hK K'
      have n1 : ¬ (9223372036854775807 < J.length + (Lib.decDigits s.length).length) := by omega
      have n2 : ¬ (9223372036854775807 < J.length + (Lib.decDigits s.length).length + 1) := by omega
      have n3 : ¬ (9223372036854775807 < J.length + (Lib.decDigits s.length).length + 1 + s.length) := by omega
      refine held_one 7 (by kernel_rfl) rfl rfl rfl (fun K' hK => ?_)
      go_simp
      refine hK.out _ _ (fun _ => hc4) ?_
      clear hK K'
      refine held_one 8 (by kernel_rfl) rfl rfl rfl (fun K' hK => ?_)
      go_simp
      refine hK.out _ _ (fun _ => hc4) ?_
      clear hK K'
      refine held_one 13 (by kernel_rfl) rfl rfl rfl (fun K' hK => ?_)
      go_simp
      refine hK.out _ _ (fun _ => hc4) ?_
      clear hK K'
      refine held_one 14 (by kernel_rfl) rfl rfl rfl (fun K' hK => ?_)
      go_simp
      refine hK.out _ _ (fun h => absurd rfl h) ?_
      clear hK K'
      refine held_done (by kernel_rfl) ?_
      go_wp2_with fail
      go_roundg (l.length - (k + 1))
      case measure => have := HG.out; omega
      case rel =>
        refine ⟨k + 1, by omega, rfl, by go_num, ?_, hfr.trans hw4 (by simp)⟩
        rw [HS.out, show J ++ joinE s = J ++ Lib.decDigits s.length ++ [58] ++ s by simp [joinE], ← ba_append, ← ba_append, ← ba_append]
    · obtain rfl : k = l.length := by omega
      have t1 : decide ((l.length : Int) < (l.length : Int)) = false := by simp
      have HJ := Lib.hid (show joinL (l.take l.length) = joinL l by rw [List.take_length])
      go_wp2_with fail
      go_ret
      exact ⟨by rw [← HJ.out]; rfl, hfr.toBelow (by simp)⟩
end Go.Proofs.YthcgcocmgjamnaaDoor
