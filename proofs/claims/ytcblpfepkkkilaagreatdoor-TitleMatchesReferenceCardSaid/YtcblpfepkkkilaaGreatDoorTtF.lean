/-
  title.identity; slices.Equal over strings.
  slices.EqualFunc over transfers; title.Extends.
-/
import Derived.Test.YtcblpfepkkkilaaGreatDoorTtD
import Derived.Test.YtcblpfepkkkilaaGreatDoorSt3
import Derived.Laws.StructEq
import Derived.Laws.Tables
import Derived.Laws.Cover2
namespace Go.Proofs.YtcblpfepkkkilaaGreatDoor
open Go.RowKit

set_option maxRecDepth 100000 in
set_option maxHeartbeats 1000000 in
theorem identity_any (v : Value) (t : Ttl) (w : World) (hv : TtlR w v t) (hN : TNum t) (hT : Tabs w) :
    Calls Tryz.prog 55 #[v] w fun e w' => e = .returned (.agg #[.string ⟨(Lib.itoa t.serial).toArray⟩, .string ⟨(Lib.itoa t.shw).toArray⟩, .string ⟨t.first.toArray⟩]) ∧ Below w.heap.size w w' := by
  have hmx : Tryz.prog.follows .mixedOrders = true := by kernel_rfl
  obtain ⟨cv, rfl, _⟩ := hv
  have HT := Lib.hid hT
  have hs1 := hN.s.1
  have hs2 := hN.s.2
  have hh1 := hN.h.1
  have hh2 := hN.h.2
  clear hT hN
  obtain ⟨W0, hW0⟩ : ∃ W0, W0 = (w.alloc (.cells #[.int .i64 t.serial, .int .i64 t.shw, .int .i64 t.place, .string ⟨t.first.toArray⟩, cv] 24)).alloc (.cells #[.string ⟨#[]⟩, .string ⟨#[]⟩, .string ⟨#[]⟩] 67) := ⟨_, rfl⟩
  obtain ⟨p, ep⟩ : ∃ p, p = w.heap.size := ⟨_, rfl⟩
  have h0 : Fr [] w W0 := by rw [hW0]; exact ((Fr.refl [] w).alloc _).alloc _
  have hp0 : W0.heap[p]? = some (.cells #[.int .i64 t.serial, .int .i64 t.shw, .int .i64 t.place, .string ⟨t.first.toArray⟩, cv] 24 (0, 0)) := by rw [hW0, ep]; exact heap_past _ (heap_new rfl)
  have hp1 : W0.heap[p + 1]? = some (.cells #[.string ⟨#[]⟩, .string ⟨#[]⟩, .string ⟨#[]⟩] 67 (0, 0)) := by rw [hW0, ep]; exact heap_new (by simp)
  go_enter Tryz.func55, Tryz.ntmps55
  go_wp2_with fail
  rw [← hW0, ← ep]
  have EP := Lib.hid ep
  clear hW0 ep
  have c0 := row_cell hp0 0
  have c1 := row_cell hp0 1
  have c3 := row_cell hp0 3
  simp at c0 c1 c3
  have hD : Fr [] W0 W0.drew := (Fr.refl [] W0).drew
  have hS0 : W0.drew.cell? ⟨p, 0, none⟩ = some (.int .i64 t.serial) ∧ W0.drew.cell? ⟨p, 1, none⟩ = some (.int .i64 t.shw) ∧ W0.drew.cell? ⟨p, 3, none⟩ = some (.string ⟨t.first.toArray⟩) := ⟨hD.cell c0 (by simp), hD.cell c1 (by simp), hD.cell c3 (by simp)⟩
  refine region_held 9 (fun W' => W'.cell? ⟨p, 0, none⟩ = some (.int .i64 t.serial) ∧ W'.cell? ⟨p, 1, none⟩ = some (.int .i64 t.shw) ∧ W'.cell? ⟨p, 3, none⟩ = some (.string ⟨t.first.toArray⟩)) hmx ?_
  change Held _ _ _ _ _ _ 10 (Array.replicate 10 false) _ _
  refine hd_take 0 (v := .pointer (some ⟨p, 0, none⟩)) rfl (by kernel_rfl) (by kernel_rfl) (by kernel_rfl) rfl hS0 (fun W' hS => by go_simp) rfl ?_
  refine hd_take 3 (v := .pointer (some ⟨p, 1, none⟩)) rfl (by kernel_rfl) (by kernel_rfl) (by kernel_rfl) rfl hS0 (fun W' hS => by go_simp) rfl ?_
  refine hd_take 6 (v := .pointer (some ⟨p, 3, none⟩)) rfl (by kernel_rfl) (by kernel_rfl) (by kernel_rfl) rfl hS0 (fun W' hS => by go_simp) rfl ?_
  try simp only [Act.put, List.setIfInBounds_toArray, List.set_cons_zero, List.set_cons_succ]
  refine hd_take 1 (v := .int .i64 t.serial) rfl (by kernel_rfl) (by kernel_rfl) (by kernel_rfl) rfl hS0 (fun W' hS => by obtain ⟨s0, s1, s2⟩ := hS; go_simp) rfl ?_
  refine hd_take 4 (v := .int .i64 t.shw) rfl (by kernel_rfl) (by kernel_rfl) (by kernel_rfl) rfl hS0 (fun W' hS => by obtain ⟨s0, s1, s2⟩ := hS; go_simp) rfl ?_
  refine hd_take 7 (v := .string ⟨t.first.toArray⟩) rfl (by kernel_rfl) (by kernel_rfl) (by kernel_rfl) rfl hS0 (fun W' hS => by obtain ⟨s0, s1, s2⟩ := hS; go_simp) rfl ?_
  try simp only [Act.put, List.setIfInBounds_toArray, List.set_cons_zero, List.set_cons_succ]
  refine hd_one 2 (by kernel_rfl) rfl (by kernel_rfl) rfl (fun K' hK => ?_)
  go_simp
  refine (itoaI_any t.serial _ hs1 hs2 ((HT.out.fr h0).fr hD)).mono ?_
  rintro e v1 ⟨rfl, hbb1⟩
  have hf1 : Fr [] W0 v1 := hD.below hbb1 hD.size
  refine hK.out _ _ (fun _ => ⟨hf1.cell c0 (by simp), hf1.cell c1 (by simp), hf1.cell c3 (by simp)⟩) ?_
  clear hK K'
  try simp only [Act.put, List.setIfInBounds_toArray, List.set_cons_zero, List.set_cons_succ]
  refine hd_one 5 (by kernel_rfl) rfl (by kernel_rfl) rfl (fun K' hK => ?_)
  go_simp
  refine (itoaI_any t.shw _ hh1 hh2 ((HT.out.fr h0).fr hf1)).mono ?_
  rintro e v2 ⟨rfl, hbb2⟩
  have hf2 : Fr [] W0 v2 := hf1.below hbb2 hf1.size
  refine hK.out _ _ (fun _ => ⟨hf2.cell c0 (by simp), hf2.cell c1 (by simp), hf2.cell c3 (by simp)⟩) ?_
  clear hK K'
  try simp only [Act.put, List.setIfInBounds_toArray, List.set_cons_zero, List.set_cons_succ]
  refine hd_take 8 (v := .agg #[.string ⟨(Lib.itoa t.serial).toArray⟩, .string ⟨(Lib.itoa t.shw).toArray⟩, .string ⟨t.first.toArray⟩]) rfl (by kernel_rfl) (by kernel_rfl) (by kernel_rfl) rfl ⟨hf2.cell c0 (by simp), hf2.cell c1 (by simp), hf2.cell c3 (by simp)⟩ (fun W' hS => by go_simp) rfl ?_
  try simp only [Act.put, List.setIfInBounds_toArray, List.set_cons_zero, List.set_cons_succ]
  have hr2 := hf2.at hp1 (by simp)
  have r0 := row_cell hr2 0
  have r1 := row_cell hr2 1
  have r2 := row_cell hr2 2
  simp at r0 r1 r2
  have z0 := row_free hr2 0
  have z1 := row_free hr2 1
  have z2 := row_free hr2 2
  refine hd_one 9 (by kernel_rfl) rfl (by kernel_rfl) rfl (fun K' hK => ?_)
  go_simp
  refine hK.out _ _ (fun h => absurd rfl h) ?_
  clear hK K'
  refine held_done (by kernel_rfl) ?_
  have HX := Lib.hid ((h0.trans hf2 (by simp)).store3 (p + 1) (by right; have := EP.out; omega) (.string ⟨(Lib.itoa t.serial).toArray⟩) (.string ⟨(Lib.itoa t.shw).toArray⟩) (.string ⟨t.first.toArray⟩))
  have HR := Lib.hid (row_set (row_set (row_set hr2 0 (.string ⟨(Lib.itoa t.serial).toArray⟩)) 1 (.string ⟨(Lib.itoa t.shw).toArray⟩)) 2 (.string ⟨t.first.toArray⟩))
  clear hr2 r0 r1 r2 z0 z1 z2 hf1 hf2 hbb1 hbb2 hS0 hD
  go_wp2_with fail
  have x0 := row_cell HR.out 0
  have x1 := row_cell HR.out 1
  have x2 := row_cell HR.out 2
  simp at x0 x1 x2
  refine bodyPost_ret (v := .agg #[.string ⟨(Lib.itoa t.serial).toArray⟩, .string ⟨(Lib.itoa t.shw).toArray⟩, .string ⟨t.first.toArray⟩]) ?_ rfl ⟨rfl, HX.out.toBelow (by simp)⟩
  simp only [results]
  go_simp

set_option maxRecDepth 100000 in
set_option maxHeartbeats 1000000 in
theorem equalS_any (av bv : Value) (la lb : List (List UInt8)) (w : World) (ha : StrsW w av la) (hb : StrsW w bv lb) :
    Calls Tryz.prog 58 #[av, bv] w fun e w' => e = .returned (.bool (decide (la = lb))) ∧ Below w.heap.size w w' := by
  have HA := Lib.hid ha
  have HB := Lib.hid hb
  obtain ⟨a1, c1, rfl, l1, k1, f1⟩ := ha.form
  obtain ⟨a2, c2, rfl, l2, k2, f2⟩ := hb.form
  clear ha hb
  obtain ⟨r, er⟩ : ∃ r, r = decide (la = lb) := ⟨_, rfl⟩
  rw [← er]
  have ER := Lib.hid er
  clear er
  by_cases hn : la.length = lb.length
  case neg =>
    have u1 : ((la.length : Int) != (lb.length : Int)) = true := by rw [bne_iff_ne]; omega
    have HR : Hid (r = false) := Lib.hid (by rw [ER.out]; exact decide_eq_false (fun e => hn (by rw [e])))
    clear hn
    go_enter Tryz.func58, Tryz.ntmps58
    go_wp2_with fail
    go_ret
    exact ⟨by rw [HR.out]; rfl, Below.refl _ _⟩
  have u1 : ((la.length : Int) != (lb.length : Int)) = false := by rw [hn]; simp
  have HN := Lib.hid hn
  clear hn
  go_enter Tryz.func58, Tryz.ntmps58
  go_wp2_with fail
  go_loopg [5, 13] la.length (fun g u i wr => ∃ k : Nat, k ≤ la.length ∧ g = la.length - k ∧ i = .int .i64 (k : Int) ∧ la.take k = lb.take k ∧ Fr [] w wr)
  case atStart => exact ⟨0, by omega, by omega, rfl, by simp, Fr.refl _ _⟩
  case round =>
    obtain ⟨k, hk, hg, rfl, heq, hfr⟩ := hrel
    have HG := Lib.hid hg
    have HEQ := Lib.hid heq
    clear hg heq
    by_cases hlt : k < la.length
    · have t1 : decide ((k : Int) < (la.length : Int)) = true := by simp; omega
      have hnn := HN.out
      obtain ⟨b1, o1, rfl⟩ := f1 k hlt
      obtain ⟨b2, o2, rfl⟩ := f2 k (by omega)
      have cx := hfr.cell (HA.out.cell k hlt) (by simp)
      have cy := hfr.cell (HB.out.cell k (by omega)) (by simp)
      have HNX : Hid (la.getD k [] = lb.getD k [] → la.take (k + 1) = lb.take (k + 1)) := Lib.hid (fun e => by
        rw [take_snoc' _ k [] hlt, take_snoc' _ k [] (by omega), HEQ.out, e])
      have HNE : Hid (la.getD k [] ≠ lb.getD k [] → r = false) := Lib.hid (fun e => by
        rw [ER.out]; exact decide_eq_false (fun e2 => e (by rw [e2])))
      generalize la.getD k [] = X at cx HNX HNE
      generalize lb.getD k [] = Y at cy HNX HNE
      have i0 : (0 : Int) ≤ (k : Int) := by omega
      have i1 : (k : Int) < (la.length : Int) := by omega
      have i2 : (k : Int) < (lb.length : Int) := by omega
      clear hnn
      by_cases hxy : X = Y
      · have u2 : (X == Y) = true := by rw [beq_iff_eq]; exact hxy
        have u3 : (X != Y) = false := by rw [bne, u2]; rfl
        have HTK := Lib.hid (HNX.out hxy)
        clear hxy
        go_wp2_with fail
        go_quiet (fail)
        go_wp2_with fail
        go_roundg (la.length - (k + 1))
        case measure => have := HG.out; omega
        case rel => exact ⟨k + 1, by omega, rfl, by go_num, HTK.out, hfr.drewN _⟩
      · have u2 : (X == Y) = false := by rw [beq_eq_false_iff_ne]; exact hxy
        have u3 : (X != Y) = true := by rw [bne, u2]; rfl
        have HRF := Lib.hid (HNE.out hxy)
        clear hxy
        go_wp2_with fail
        go_quiet (fail)
        go_wp2_with fail
        go_ret
        exact ⟨by rw [HRF.out]; rfl, (hfr.drewN _).toBelow (by simp)⟩
    · obtain rfl : k = la.length := by omega
      have t1 : decide ((la.length : Int) < (la.length : Int)) = false := by simp
      have HRT : Hid (r = true) := Lib.hid (by
        rw [ER.out]
        have := HEQ.out
        rw [List.take_length, List.take_of_length_le (by rw [HN.out]; exact Nat.le_refl _)] at this
        exact decide_eq_true this)
      go_wp2_with fail
      go_ret
      exact ⟨by rw [HRT.out]; rfl, hfr.toBelow (by simp)⟩

set_option maxRecDepth 100000 in
set_option maxHeartbeats 1000000 in
theorem ext1_any (x y : Trf) (u v : Value) (w : World) (hu : StrsW w u x.sig) (hv : StrsW w v y.sig) :
    Calls Tryz.prog 57 #[trfV x u, trfV y v] w fun e w' => e = .returned (.bool (decide (x = y))) ∧ Below w.heap.size w w' := by
  obtain ⟨x1, x2⟩ := x
  obtain ⟨y1, y2⟩ := y
  simp only at hu hv
  unfold trfV
  simp only
  obtain ⟨sa, sc, rfl, _, _, _⟩ := hu.form
  obtain ⟨ta, tc, rfl, _, _, _⟩ := hv.form
  have hA := ((Fr.refl [] w).alloc (.cells #[.string ⟨x1.toArray⟩, .slice sa x2.length sc] 41)).alloc (.cells #[.string ⟨y1.toArray⟩, .slice ta y2.length tc] 41)
  have HA := Lib.hid hA
  have HU := Lib.hid (hu.fr hA)
  have HV := Lib.hid (hv.fr hA)
  clear hA hu hv
  by_cases hxy : x1 = y1
  · have u2 : (x1 == y1) = true := by rw [beq_iff_eq]; exact hxy
    have u3 : (x1 != y1) = false := by rw [bne, u2]; rfl
    have HX := Lib.hid hxy
    clear hxy
    go_enter Tryz.func57, Tryz.ntmps57
    go_wp2_with fail
    refine (equalS_any _ _ x2 y2 _ HU.out HV.out).mono ?_
    rintro e w2 ⟨rfl, hb2⟩
    have HB := Lib.hid ((HA.out.below hb2 HA.out.size).toBelow (by simp))
    go_wp2_with fail
    go_ret
    refine ⟨?_, HB.out⟩
    have : decide ((⟨x1, x2⟩ : Trf) = ⟨y1, y2⟩) = decide (x2 = y2) := by rw [decide_eq_decide]; simp [HX.out]
    rw [this]; rfl
  · have u2 : (x1 == y1) = false := by rw [beq_eq_false_iff_ne]; exact hxy
    have u3 : (x1 != y1) = true := by rw [bne, u2]; rfl
    have HX : Hid (decide ((⟨x1, x2⟩ : Trf) = ⟨y1, y2⟩) = false) := Lib.hid (decide_eq_false (fun h => hxy (by cases h; rfl)))
    clear hxy
    go_enter Tryz.func57, Tryz.ntmps57
    go_wp2_with fail
    go_ret
    exact ⟨by rw [HX.out]; rfl, HA.out.toBelow (by simp)⟩
end Go.Proofs.YtcblpfepkkkilaaGreatDoor
namespace Go.Proofs.YtcblpfepkkkilaaGreatDoor
open Go.RowKit

theorem eqStr3 (a b c d e f : List UInt8) (w : World) : (Op.equalIn 10000 67 (.agg #[.string ⟨a.toArray⟩, .string ⟨b.toArray⟩, .string ⟨c.toArray⟩]) (.agg #[.string ⟨d.toArray⟩, .string ⟨e.toArray⟩, .string ⟨f.toArray⟩])).run Tryz.prog w = .ok (decide (a = d) && decide (b = e) && decide (c = f)) w := by
  have u3 := Tryz.underlying9
  have a3 := Tryz.isAgg9
  have z3 := Tryz.sizeOf9
  rw [show (10000 : Nat) = 9999 + 1 from rfl, Op.equalIn]
  simp only [Sem.run_bind, run_underlying Tryz.underlying67, Result.andThen_ok]
  simp only [Std.Legacy.Range.forIn_eq_forIn_range', Std.Legacy.Range.size, Nat.sub_zero, Nat.add_sub_cancel, Nat.div_one, List.range'_succ, List.range'_zero, List.forIn_cons, List.forIn_nil]
  go_simp
  by_cases h1 : a = d <;> by_cases h2 : b = e <;> by_cases h3 : c = f <;> simp [h1, h2, h3]
theorem enters_ext1 : ∀ args w, (callFunc 57 args).run Tryz.prog w = .ok (.enter 57 args) w := enters_of Tryz.func57 (by kernel_rfl) rfl
set_option maxRecDepth 100000 in
set_option maxHeartbeats 1000000 in
theorem equalT_any (av bv : Value) (la lb : List Trf) (w : World) (ha : Trs w av la) (hb : Trs w bv lb) :
    Calls Tryz.prog 56 #[av, bv, .func (.func 57) #[] #[]] w fun e w' => e = .returned (.bool (decide (la = lb))) ∧ Below w.heap.size w w' := by
  have HA := Lib.hid ha
  have HB := Lib.hid hb
  obtain ⟨a1, c1, rfl, l1, k1, f1⟩ := ha.form
  obtain ⟨a2, c2, rfl, l2, k2, f2⟩ := hb.form
  have he := enters_ext1
  clear ha hb
  obtain ⟨r, er⟩ : ∃ r, r = decide (la = lb) := ⟨_, rfl⟩
  rw [← er]
  have ER := Lib.hid er
  clear er
  by_cases hn : la.length = lb.length
  case neg =>
    have u1 : ((la.length : Int) != (lb.length : Int)) = true := by rw [bne_iff_ne]; omega
    have HR : Hid (r = false) := Lib.hid (by rw [ER.out]; exact decide_eq_false (fun e => hn (by rw [e])))
    clear hn
    go_enter Tryz.func56, Tryz.ntmps56
    go_wp2_with fail
    go_ret
    exact ⟨by rw [HR.out]; rfl, Below.refl _ _⟩
  have u1 : ((la.length : Int) != (lb.length : Int)) = false := by rw [hn]; simp
  have HN := Lib.hid hn
  clear hn
  go_enter Tryz.func56, Tryz.ntmps56
  go_wp2_with fail
  go_loopg [17] la.length (fun g i wr => ∃ k : Nat, k ≤ la.length ∧ g = la.length - k ∧ i = .int .i64 (k : Int) ∧ la.take k = lb.take k ∧ Fr [] w wr)
  case atStart => exact ⟨0, by omega, by omega, rfl, by simp, Fr.refl _ _⟩
  case round =>
    obtain ⟨k, hk, hg, rfl, heq, hfr⟩ := hrel
    have HG := Lib.hid hg
    have HEQ := Lib.hid heq
    clear hg heq
    by_cases hlt : k < la.length
    · have t1 : decide ((k : Int) < (la.length : Int)) = true := by simp; omega
      have hnn := HN.out
      obtain ⟨b1, o1, rfl⟩ := f1 k hlt
      obtain ⟨b2, o2, rfl⟩ := f2 k (by omega)
      obtain ⟨x, hx⟩ : ∃ x, la[k]? = some x := ⟨_, List.getElem?_eq_getElem hlt⟩
      obtain ⟨y, hy⟩ : ∃ y, lb[k]? = some y := ⟨_, List.getElem?_eq_getElem (by omega)⟩
      obtain ⟨e0, u, e1, hu⟩ := (HA.out.fr hfr).cells k x hx
      obtain ⟨f0, v, f1', hv⟩ := (HB.out.fr hfr).cells k y hy
      obtain ⟨sa, sc, rfl, _, _, _⟩ := hu.form
      obtain ⟨ta, tc, rfl, _, _, _⟩ := hv.form
      have hA1 := (Fr.refl [] wr).alloc (.cells #[.string ⟨x.nk.toArray⟩, .slice sa x.sig.length sc] 41)
      have hA2 := hA1.alloc (.cells #[.string ⟨y.nk.toArray⟩, .slice ta y.sig.length tc] 41)
      have d0 := hA1.cell f0 (by simp)
      have d1 := hA1.cell f1' (by simp)
      have HU := Lib.hid (hu.fr hA2)
      have HV := Lib.hid (hv.fr hA2)
      have HA2 := Lib.hid hA2
      have HNX : Hid (x = y → la.take (k + 1) = lb.take (k + 1)) := Lib.hid (fun e => by
        rw [List.take_add_one, List.take_add_one, HEQ.out, hx, hy, e])
      have HNE : Hid (x ≠ y → r = false) := Lib.hid (fun e => by
        rw [ER.out]; exact decide_eq_false (fun e2 => e (by rw [e2, hy] at hx; exact (Option.some.inj hx).symm)))
      have i0 : (0 : Int) ≤ (k : Int) := by omega
      have i1 : (k : Int) < (la.length : Int) := by omega
      have i2 : (k : Int) < (lb.length : Int) := by omega
      clear hnn hx hy hu hv hA1 hA2 f0 f1'
      go_wp2_with fail
      refine (ext1_any x y _ _ _ HU.out HV.out).mono ?_
      rintro e w2 ⟨rfl, hb2⟩
      have hf2 := (hfr.trans HA2.out (by simp)).below hb2 ((hfr.trans HA2.out (by simp)).size)
      clear hb2
      obtain ⟨q, eq⟩ : ∃ q, q = decide (x = y) := ⟨_, rfl⟩
      rw [← eq]
      cases q with
      | true =>
        have HTK := Lib.hid (HNX.out (of_decide_eq_true eq.symm))
        clear eq
        go_wp2_with fail
        go_roundg (la.length - (k + 1))
        case measure => have := HG.out; omega
        case rel => exact ⟨k + 1, by omega, rfl, by go_num, HTK.out, hf2⟩
      | false =>
        have HRF := Lib.hid (HNE.out (of_decide_eq_false eq.symm))
        clear eq
        go_wp2_with fail
        go_ret
        exact ⟨by rw [HRF.out]; rfl, hf2.toBelow (by simp)⟩
    · obtain rfl : k = la.length := by omega
      have t1 : decide ((la.length : Int) < (la.length : Int)) = false := by simp
      have HRT : Hid (r = true) := Lib.hid (by
        rw [ER.out]
        have := HEQ.out
        rw [List.take_length, List.take_of_length_le (by rw [HN.out]; exact Nat.le_refl _)] at this
        exact decide_eq_true this)
      go_wp2_with fail
      go_ret
      exact ⟨by rw [HRT.out]; rfl, hfr.toBelow (by simp)⟩

set_option maxRecDepth 100000 in
set_option maxHeartbeats 4000000 in
theorem extends_any (av bv : Value) (a b : Ttl) (w : World) (ha : TtlR w av a) (hb : TtlR w bv b) (hna : TNum a) (hnb : TNum b) (hT : Tabs w) :
    Calls Tryz.prog 18 #[av, bv] w fun e w' => e = .returned (.bool (extT a b)) ∧ Below w.heap.size w w' := by
  have hmx : Tryz.prog.follows .mixedOrders = true := by kernel_rfl
  obtain ⟨v1, rfl, hc1⟩ := ha
  obtain ⟨v2, rfl, hc2⟩ := hb
  obtain ⟨a1, cap1, rfl, hl1, hk1, hf1⟩ := hc1.form
  obtain ⟨a2, cap2, rfl, hl2, hk2, hf2⟩ := hc2.form
  have HC1 := Lib.hid hc1
  have HC2 := Lib.hid hc2
  have HN1 := Lib.hid hna
  have HN2 := Lib.hid hnb
  have HT := Lib.hid hT
  clear hc1 hc2 hna hnb hT
  obtain ⟨r, er⟩ : ∃ r, r = extT a b := ⟨_, rfl⟩
  rw [← er]
  have ER := Lib.hid er
  clear er
  obtain ⟨W0, hW0⟩ : ∃ W0, W0 = (w.alloc (.cells #[.int .i64 a.serial, .int .i64 a.shw, .int .i64 a.place, .string ⟨a.first.toArray⟩, .slice a1 a.chain.length cap1] 24)).alloc (.cells #[.int .i64 b.serial, .int .i64 b.shw, .int .i64 b.place, .string ⟨b.first.toArray⟩, .slice a2 b.chain.length cap2] 24) := ⟨_, rfl⟩
  obtain ⟨p, ep⟩ : ∃ p, p = w.heap.size := ⟨_, rfl⟩
  have h0 : Fr [] w W0 := by rw [hW0]; exact ((Fr.refl [] w).alloc _).alloc _
  have hp0 : W0.heap[p]? = some (.cells #[.int .i64 a.serial, .int .i64 a.shw, .int .i64 a.place, .string ⟨a.first.toArray⟩, .slice a1 a.chain.length cap1] 24 (0, 0)) := by rw [hW0, ep]; exact heap_past _ (heap_new rfl)
  have hp1 : W0.heap[p + 1]? = some (.cells #[.int .i64 b.serial, .int .i64 b.shw, .int .i64 b.place, .string ⟨b.first.toArray⟩, .slice a2 b.chain.length cap2] 24 (0, 0)) := by rw [hW0, ep]; exact heap_new (by simp)
  have c0 := row_cell hp0 0
  have c1 := row_cell hp0 1
  have c2 := row_cell hp0 2
  have c3 := row_cell hp0 3
  have c4 := row_cell hp0 4
  have d0 := row_cell hp1 0
  have d1 := row_cell hp1 1
  have d2 := row_cell hp1 2
  have d3 := row_cell hp1 3
  have d4 := row_cell hp1 4
  simp at c0 c1 c2 c3 c4 d0 d1 d2 d3 d4
  go_enter Tryz.func18, Tryz.ntmps18
  go_wp2_with fail
  rw [← hW0, ← ep]
  clear hW0 ep hp0 hp1
  have g0 : Fr [] W0 W0.drew := (Fr.refl [] W0).drew
  have hS0 : W0.drew.cell? ⟨p, 0, none⟩ = some (.int .i64 a.serial) ∧ W0.drew.cell? ⟨p, 1, none⟩ = some (.int .i64 a.shw) ∧ W0.drew.cell? ⟨p, 2, none⟩ = some (.int .i64 a.place) ∧ W0.drew.cell? ⟨p, 3, none⟩ = some (.string ⟨a.first.toArray⟩) ∧ W0.drew.cell? ⟨p, 4, none⟩ = some (.slice a1 a.chain.length cap1) ∧ W0.drew.cell? ⟨p + 1, 0, none⟩ = some (.int .i64 b.serial) ∧ W0.drew.cell? ⟨p + 1, 1, none⟩ = some (.int .i64 b.shw) ∧ W0.drew.cell? ⟨p + 1, 2, none⟩ = some (.int .i64 b.place) ∧ W0.drew.cell? ⟨p + 1, 3, none⟩ = some (.string ⟨b.first.toArray⟩) ∧ W0.drew.cell? ⟨p + 1, 4, none⟩ = some (.slice a2 b.chain.length cap2) := ⟨g0.cell c0 (by simp), g0.cell c1 (by simp), g0.cell c2 (by simp), g0.cell c3 (by simp), g0.cell c4 (by simp), g0.cell d0 (by simp), g0.cell d1 (by simp), g0.cell d2 (by simp), g0.cell d3 (by simp), g0.cell d4 (by simp)⟩
  refine region_held 100 (fun W' => W'.cell? ⟨p, 0, none⟩ = some (.int .i64 a.serial) ∧ W'.cell? ⟨p, 1, none⟩ = some (.int .i64 a.shw) ∧ W'.cell? ⟨p, 2, none⟩ = some (.int .i64 a.place) ∧ W'.cell? ⟨p, 3, none⟩ = some (.string ⟨a.first.toArray⟩) ∧ W'.cell? ⟨p, 4, none⟩ = some (.slice a1 a.chain.length cap1) ∧ W'.cell? ⟨p + 1, 0, none⟩ = some (.int .i64 b.serial) ∧ W'.cell? ⟨p + 1, 1, none⟩ = some (.int .i64 b.shw) ∧ W'.cell? ⟨p + 1, 2, none⟩ = some (.int .i64 b.place) ∧ W'.cell? ⟨p + 1, 3, none⟩ = some (.string ⟨b.first.toArray⟩) ∧ W'.cell? ⟨p + 1, 4, none⟩ = some (.slice a2 b.chain.length cap2)) hmx ?_
  change Held _ _ _ _ _ _ 14 (Array.replicate 14 false) _ _
  refine hd_take 0 (v := .agg #[.int .i64 a.serial, .int .i64 a.shw, .int .i64 a.place, .string ⟨a.first.toArray⟩, .slice a1 a.chain.length cap1]) rfl (by kernel_rfl) (by kernel_rfl) (by kernel_rfl) rfl hS0 (fun W' hS => by obtain ⟨s0, s1, s2, s3, s4, s5, s6, s7, s8, s9⟩ := hS; go_simp) rfl ?_
  refine hd_take 2 (v := .agg #[.int .i64 b.serial, .int .i64 b.shw, .int .i64 b.place, .string ⟨b.first.toArray⟩, .slice a2 b.chain.length cap2]) rfl (by kernel_rfl) (by kernel_rfl) (by kernel_rfl) rfl hS0 (fun W' hS => by obtain ⟨s0, s1, s2, s3, s4, s5, s6, s7, s8, s9⟩ := hS; go_simp) rfl ?_
  try simp only [Act.put, List.setIfInBounds_toArray, List.set_cons_zero, List.set_cons_succ]
  refine hd_one 1 (by kernel_rfl) rfl (by kernel_rfl) rfl (fun K' hK => ?_)
  go_simp
  refine (identity_any _ a _ ⟨_, rfl, HC1.out.fr (h0.trans g0 (by simp))⟩ HN1.out (HT.out.fr (h0.trans g0 (by simp)))).mono ?_
  rintro e y1 ⟨rfl, hbb⟩
  have g1 : Fr [] W0 y1 := g0.below hbb g0.size
  clear hbb
  have hS1 : y1.cell? ⟨p, 0, none⟩ = some (.int .i64 a.serial) ∧ y1.cell? ⟨p, 1, none⟩ = some (.int .i64 a.shw) ∧ y1.cell? ⟨p, 2, none⟩ = some (.int .i64 a.place) ∧ y1.cell? ⟨p, 3, none⟩ = some (.string ⟨a.first.toArray⟩) ∧ y1.cell? ⟨p, 4, none⟩ = some (.slice a1 a.chain.length cap1) ∧ y1.cell? ⟨p + 1, 0, none⟩ = some (.int .i64 b.serial) ∧ y1.cell? ⟨p + 1, 1, none⟩ = some (.int .i64 b.shw) ∧ y1.cell? ⟨p + 1, 2, none⟩ = some (.int .i64 b.place) ∧ y1.cell? ⟨p + 1, 3, none⟩ = some (.string ⟨b.first.toArray⟩) ∧ y1.cell? ⟨p + 1, 4, none⟩ = some (.slice a2 b.chain.length cap2) := ⟨g1.cell c0 (by simp), g1.cell c1 (by simp), g1.cell c2 (by simp), g1.cell c3 (by simp), g1.cell c4 (by simp), g1.cell d0 (by simp), g1.cell d1 (by simp), g1.cell d2 (by simp), g1.cell d3 (by simp), g1.cell d4 (by simp)⟩
  refine hK.out _ _ (fun _ => hS1) ?_
  clear hK K'
  try simp only [Act.put, List.setIfInBounds_toArray, List.set_cons_zero, List.set_cons_succ]
  refine hd_one 3 (by kernel_rfl) rfl (by kernel_rfl) rfl (fun K' hK => ?_)
  go_simp
  refine (identity_any _ b _ ⟨_, rfl, HC2.out.fr (h0.trans g1 (by simp))⟩ HN2.out (HT.out.fr (h0.trans g1 (by simp)))).mono ?_
  rintro e y2 ⟨rfl, hbb⟩
  have g2 : Fr [] W0 y2 := g1.below hbb g1.size
  clear hbb
  have hS2 : y2.cell? ⟨p, 0, none⟩ = some (.int .i64 a.serial) ∧ y2.cell? ⟨p, 1, none⟩ = some (.int .i64 a.shw) ∧ y2.cell? ⟨p, 2, none⟩ = some (.int .i64 a.place) ∧ y2.cell? ⟨p, 3, none⟩ = some (.string ⟨a.first.toArray⟩) ∧ y2.cell? ⟨p, 4, none⟩ = some (.slice a1 a.chain.length cap1) ∧ y2.cell? ⟨p + 1, 0, none⟩ = some (.int .i64 b.serial) ∧ y2.cell? ⟨p + 1, 1, none⟩ = some (.int .i64 b.shw) ∧ y2.cell? ⟨p + 1, 2, none⟩ = some (.int .i64 b.place) ∧ y2.cell? ⟨p + 1, 3, none⟩ = some (.string ⟨b.first.toArray⟩) ∧ y2.cell? ⟨p + 1, 4, none⟩ = some (.slice a2 b.chain.length cap2) := ⟨g2.cell c0 (by simp), g2.cell c1 (by simp), g2.cell c2 (by simp), g2.cell c3 (by simp), g2.cell c4 (by simp), g2.cell d0 (by simp), g2.cell d1 (by simp), g2.cell d2 (by simp), g2.cell d3 (by simp), g2.cell d4 (by simp)⟩
  refine hK.out _ _ (fun _ => hS2) ?_
  clear hK K'
  try simp only [Act.put, List.setIfInBounds_toArray, List.set_cons_zero, List.set_cons_succ]
  obtain ⟨bi, hbi⟩ : ∃ bi, bi = (decide (Lib.itoa a.serial = Lib.itoa b.serial) && decide (Lib.itoa a.shw = Lib.itoa b.shw) && decide (a.first = b.first)) := ⟨_, rfl⟩
  have EQ := Lib.hid (eqStr3 (Lib.itoa a.serial) (Lib.itoa a.shw) a.first (Lib.itoa b.serial) (Lib.itoa b.shw) b.first)
  rw [← hbi] at EQ
  have HRF : Hid (bi = false → r = false) := Lib.hid (fun h => by
    rw [ER.out, Bool.eq_false_iff]
    intro he
    obtain ⟨e1, e2, e3, _⟩ := (extT_iff a b).1 he
    rw [e1, e2, e3] at hbi
    rw [h] at hbi
    simp at hbi)
  have HRL : Hid (a.chain.length < b.chain.length → r = false) := Lib.hid (fun h => by
    rw [ER.out, Bool.eq_false_iff]
    intro he
    have := extT_len he
    omega)
  have HRT : Hid (bi = true → r = decide (a.chain.take b.chain.length = b.chain)) := Lib.hid (fun h => by
    rw [h] at hbi
    have h2 := hbi.symm
    simp only [Bool.and_eq_true, decide_eq_true_eq] at h2
    rw [ER.out]
    unfold extT
    rw [decide_eq_true (itoa_inj h2.1.1), decide_eq_true (itoa_inj h2.1.2), decide_eq_true h2.2]
    simp)
  clear hbi
  cases bi with
  | false =>
    refine hd_take 4 (v := .bool true) rfl (by kernel_rfl) (by kernel_rfl) (by kernel_rfl) rfl hS2 (fun W' hS => by have := EQ.out W'; go_simp) rfl ?_
    try simp only [Act.put, List.setIfInBounds_toArray, List.set_cons_zero, List.set_cons_succ]
    refine hd_take 5 (v := .bool true) rfl (by kernel_rfl) (by kernel_rfl) (by kernel_rfl) rfl hS2 (fun W' hS => by go_simp) rfl ?_
    try simp only [Act.put, List.setIfInBounds_toArray, List.set_cons_zero, List.set_cons_succ]
    refine hd_skip 6 rfl (by kernel_rfl) (by kernel_rfl) (by kernel_rfl) rfl hS2 rfl ?_
    refine hd_skip 9 rfl (by kernel_rfl) (by kernel_rfl) (by kernel_rfl) rfl hS2 rfl ?_
    try simp only [Act.put, List.setIfInBounds_toArray, List.set_cons_zero, List.set_cons_succ]
    refine hd_skip 7 rfl (by kernel_rfl) (by kernel_rfl) (by kernel_rfl) rfl hS2 rfl ?_
    refine hd_skip 10 rfl (by kernel_rfl) (by kernel_rfl) (by kernel_rfl) rfl hS2 rfl ?_
    try simp only [Act.put, List.setIfInBounds_toArray, List.set_cons_zero, List.set_cons_succ]
    refine hd_skip 8 rfl (by kernel_rfl) (by kernel_rfl) (by kernel_rfl) rfl hS2 rfl ?_
    refine hd_skip 11 rfl (by kernel_rfl) (by kernel_rfl) (by kernel_rfl) rfl hS2 rfl ?_
    try simp only [Act.put, List.setIfInBounds_toArray, List.set_cons_zero, List.set_cons_succ]
    refine hd_skip 12 rfl (by kernel_rfl) (by kernel_rfl) (by kernel_rfl) rfl hS2 rfl ?_
    try simp only [Act.put, List.setIfInBounds_toArray, List.set_cons_zero, List.set_cons_succ]
    refine hd_take 13 (v := .bool true) rfl (by kernel_rfl) (by kernel_rfl) (by kernel_rfl) rfl hS2 (fun W' hS => by go_simp) rfl ?_
    try simp only [Act.put, List.setIfInBounds_toArray, List.set_cons_zero, List.set_cons_succ]
    refine held_done (by kernel_rfl) ?_
    have HR := Lib.hid (HRF.out rfl)
    have HF2 := Lib.hid (h0.trans g2 (by simp))
    clear g0 g1 g2 hS0 hS1 hS2 h0 c0 c1 c2 c3 c4 d0 d1 d2 d3 d4
    go_wp2_with fail
    go_ret
    exact ⟨by rw [HR.out]; rfl, HF2.out.toBelow (by simp)⟩
  | true =>
    have HRB := Lib.hid (HRT.out rfl)
    by_cases hlen : a.chain.length < b.chain.length
    · have t1 : decide ((a.chain.length : Int) < (b.chain.length : Int)) = true := by simp; omega
      refine hd_take 4 (v := .bool false) rfl (by kernel_rfl) (by kernel_rfl) (by kernel_rfl) rfl hS2 (fun W' hS => by have := EQ.out W'; go_simp) rfl ?_
      try simp only [Act.put, List.setIfInBounds_toArray, List.set_cons_zero, List.set_cons_succ]
      refine hd_take 5 (v := .bool false) rfl (by kernel_rfl) (by kernel_rfl) (by kernel_rfl) rfl hS2 (fun W' hS => by go_simp) rfl ?_
      try simp only [Act.put, List.setIfInBounds_toArray, List.set_cons_zero, List.set_cons_succ]
      refine hd_take 6 (v := .pointer (some ⟨p, 4, none⟩)) rfl (by kernel_rfl) (by kernel_rfl) (by kernel_rfl) rfl hS2 (fun W' hS => by go_simp) rfl ?_
      refine hd_take 9 (v := .pointer (some ⟨p + 1, 4, none⟩)) rfl (by kernel_rfl) (by kernel_rfl) (by kernel_rfl) rfl hS2 (fun W' hS => by go_simp) rfl ?_
      try simp only [Act.put, List.setIfInBounds_toArray, List.set_cons_zero, List.set_cons_succ]
      refine hd_take 7 (v := .slice a1 a.chain.length cap1) rfl (by kernel_rfl) (by kernel_rfl) (by kernel_rfl) rfl hS2 (fun W' hS => by obtain ⟨s0, s1, s2, s3, s4, s5, s6, s7, s8, s9⟩ := hS; go_simp) rfl ?_
      refine hd_take 10 (v := .slice a2 b.chain.length cap2) rfl (by kernel_rfl) (by kernel_rfl) (by kernel_rfl) rfl hS2 (fun W' hS => by obtain ⟨s0, s1, s2, s3, s4, s5, s6, s7, s8, s9⟩ := hS; go_simp) rfl ?_
      try simp only [Act.put, List.setIfInBounds_toArray, List.set_cons_zero, List.set_cons_succ]
      refine hd_take 8 (v := .int .i64 (a.chain.length : Int)) rfl (by kernel_rfl) (by kernel_rfl) (by kernel_rfl) rfl hS2 (fun W' hS => by go_simp) rfl ?_
      refine hd_take 11 (v := .int .i64 (b.chain.length : Int)) rfl (by kernel_rfl) (by kernel_rfl) (by kernel_rfl) rfl hS2 (fun W' hS => by go_simp) rfl ?_
      try simp only [Act.put, List.setIfInBounds_toArray, List.set_cons_zero, List.set_cons_succ]
      refine hd_take 12 (v := .bool true) rfl (by kernel_rfl) (by kernel_rfl) (by kernel_rfl) rfl hS2 (fun W' hS => by go_simp) rfl ?_
      try simp only [Act.put, List.setIfInBounds_toArray, List.set_cons_zero, List.set_cons_succ]
      refine hd_take 13 (v := .bool true) rfl (by kernel_rfl) (by kernel_rfl) (by kernel_rfl) rfl hS2 (fun W' hS => by go_simp) rfl ?_
      try simp only [Act.put, List.setIfInBounds_toArray, List.set_cons_zero, List.set_cons_succ]
      refine held_done (by kernel_rfl) ?_
      have HR := Lib.hid (HRL.out hlen)
      have HF2 := Lib.hid (h0.trans g2 (by simp))
      clear g0 g1 g2 hS0 hS1 hS2 h0 c0 c1 c2 c3 c4 d0 d1 d2 d3 d4
      go_wp2_with fail
      go_ret
      exact ⟨by rw [HR.out]; rfl, HF2.out.toBelow (by simp)⟩
    · have t1 : decide ((a.chain.length : Int) < (b.chain.length : Int)) = false := by simp; omega
      refine hd_take 4 (v := .bool false) rfl (by kernel_rfl) (by kernel_rfl) (by kernel_rfl) rfl hS2 (fun W' hS => by have := EQ.out W'; go_simp) rfl ?_
      try simp only [Act.put, List.setIfInBounds_toArray, List.set_cons_zero, List.set_cons_succ]
      refine hd_take 5 (v := .bool false) rfl (by kernel_rfl) (by kernel_rfl) (by kernel_rfl) rfl hS2 (fun W' hS => by go_simp) rfl ?_
      try simp only [Act.put, List.setIfInBounds_toArray, List.set_cons_zero, List.set_cons_succ]
      refine hd_take 6 (v := .pointer (some ⟨p, 4, none⟩)) rfl (by kernel_rfl) (by kernel_rfl) (by kernel_rfl) rfl hS2 (fun W' hS => by go_simp) rfl ?_
      refine hd_take 9 (v := .pointer (some ⟨p + 1, 4, none⟩)) rfl (by kernel_rfl) (by kernel_rfl) (by kernel_rfl) rfl hS2 (fun W' hS => by go_simp) rfl ?_
      try simp only [Act.put, List.setIfInBounds_toArray, List.set_cons_zero, List.set_cons_succ]
      refine hd_take 7 (v := .slice a1 a.chain.length cap1) rfl (by kernel_rfl) (by kernel_rfl) (by kernel_rfl) rfl hS2 (fun W' hS => by obtain ⟨s0, s1, s2, s3, s4, s5, s6, s7, s8, s9⟩ := hS; go_simp) rfl ?_
      refine hd_take 10 (v := .slice a2 b.chain.length cap2) rfl (by kernel_rfl) (by kernel_rfl) (by kernel_rfl) rfl hS2 (fun W' hS => by obtain ⟨s0, s1, s2, s3, s4, s5, s6, s7, s8, s9⟩ := hS; go_simp) rfl ?_
      try simp only [Act.put, List.setIfInBounds_toArray, List.set_cons_zero, List.set_cons_succ]
      refine hd_take 8 (v := .int .i64 (a.chain.length : Int)) rfl (by kernel_rfl) (by kernel_rfl) (by kernel_rfl) rfl hS2 (fun W' hS => by go_simp) rfl ?_
      refine hd_take 11 (v := .int .i64 (b.chain.length : Int)) rfl (by kernel_rfl) (by kernel_rfl) (by kernel_rfl) rfl hS2 (fun W' hS => by go_simp) rfl ?_
      try simp only [Act.put, List.setIfInBounds_toArray, List.set_cons_zero, List.set_cons_succ]
      refine hd_take 12 (v := .bool false) rfl (by kernel_rfl) (by kernel_rfl) (by kernel_rfl) rfl hS2 (fun W' hS => by go_simp) rfl ?_
      try simp only [Act.put, List.setIfInBounds_toArray, List.set_cons_zero, List.set_cons_succ]
      refine hd_take 13 (v := .bool false) rfl (by kernel_rfl) (by kernel_rfl) (by kernel_rfl) rfl hS2 (fun W' hS => by go_simp) rfl ?_
      try simp only [Act.put, List.setIfInBounds_toArray, List.set_cons_zero, List.set_cons_succ]
      refine held_done (by kernel_rfl) ?_
      have HF2 := Lib.hid (h0.trans g2 (by simp))
      have e4 := g2.cell c4 (by simp)
      have f4 := g2.cell d4 (by simp)
      have HLE : Hid (b.chain.length ≤ a.chain.length) := Lib.hid (by omega)
      have i0 : (0 : Int) ≤ (b.chain.length : Int) := by omega
      have i1 : (b.chain.length : Int) ≤ (cap1 : Int) := by omega
      clear g0 g1 g2 hS0 hS1 hS2 h0 c0 c1 c2 c3 c4 d0 d1 d2 d3 d4
      go_wp2_with fail
      have gr0 : Fr [] y2 y2.drew := (Fr.refl [] y2).drew
      have hSr0 : y2.drew.cell? ⟨p, 4, none⟩ = some (.slice a1 a.chain.length cap1) ∧ y2.drew.cell? ⟨p + 1, 4, none⟩ = some (.slice a2 b.chain.length cap2) := ⟨gr0.cell e4 (by simp), gr0.cell f4 (by simp)⟩
      refine region_held 9 (fun W' => W'.cell? ⟨p, 4, none⟩ = some (.slice a1 a.chain.length cap1) ∧ W'.cell? ⟨p + 1, 4, none⟩ = some (.slice a2 b.chain.length cap2)) hmx ?_
      change Held _ _ _ _ _ _ 10 (Array.replicate 10 false) _ _
      refine hd_take 0 (v := .pointer (some ⟨p, 4, none⟩)) rfl (by kernel_rfl) (by kernel_rfl) (by kernel_rfl) rfl hSr0 (fun W' hS => by go_simp) rfl ?_
      refine hd_take 2 (v := .pointer (some ⟨p + 1, 4, none⟩)) rfl (by kernel_rfl) (by kernel_rfl) (by kernel_rfl) rfl hSr0 (fun W' hS => by go_simp) rfl ?_
      refine hd_take 6 (v := .pointer (some ⟨p + 1, 4, none⟩)) rfl (by kernel_rfl) (by kernel_rfl) (by kernel_rfl) rfl hSr0 (fun W' hS => by go_simp) rfl ?_
      try simp only [Act.put, List.setIfInBounds_toArray, List.set_cons_zero, List.set_cons_succ]
      refine hd_take 1 (v := .slice a1 a.chain.length cap1) rfl (by kernel_rfl) (by kernel_rfl) (by kernel_rfl) rfl hSr0 (fun W' hS => by obtain ⟨s0, s1⟩ := hS; go_simp) rfl ?_
      refine hd_take 3 (v := .slice a2 b.chain.length cap2) rfl (by kernel_rfl) (by kernel_rfl) (by kernel_rfl) rfl hSr0 (fun W' hS => by obtain ⟨s0, s1⟩ := hS; go_simp) rfl ?_
      refine hd_take 7 (v := .slice a2 b.chain.length cap2) rfl (by kernel_rfl) (by kernel_rfl) (by kernel_rfl) rfl hSr0 (fun W' hS => by obtain ⟨s0, s1⟩ := hS; go_simp) rfl ?_
      try simp only [Act.put, List.setIfInBounds_toArray, List.set_cons_zero, List.set_cons_succ]
      refine hd_take 4 (v := .int .i64 (b.chain.length : Int)) rfl (by kernel_rfl) (by kernel_rfl) (by kernel_rfl) rfl hSr0 (fun W' hS => by go_simp) rfl ?_
      try simp only [Act.put, List.setIfInBounds_toArray, List.set_cons_zero, List.set_cons_succ]
      refine hd_take 5 (v := .slice a1 b.chain.length cap1) rfl (by kernel_rfl) (by kernel_rfl) (by kernel_rfl) rfl hSr0 (fun W' hS => by go_simp) rfl ?_
      try simp only [Act.put, List.setIfInBounds_toArray, List.set_cons_zero, List.set_cons_succ]
      refine hd_one 8 (by kernel_rfl) rfl (by kernel_rfl) rfl (fun K' hK => ?_)
      go_simp
      refine (equalT_any _ _ (a.chain.take b.chain.length) b.chain _ (HC1.out.take b.chain.length HLE.out |>.fr (HF2.out.trans gr0 (by simp))) (HC2.out.fr (HF2.out.trans gr0 (by simp)))).mono ?_
      rintro e yr1 ⟨rfl, hbb⟩
      have gr1 : Fr [] y2 yr1 := gr0.below hbb gr0.size
      clear hbb
      have hSr1 : yr1.cell? ⟨p, 4, none⟩ = some (.slice a1 a.chain.length cap1) ∧ yr1.cell? ⟨p + 1, 4, none⟩ = some (.slice a2 b.chain.length cap2) := ⟨gr1.cell e4 (by simp), gr1.cell f4 (by simp)⟩
      refine hK.out _ _ (fun _ => hSr1) ?_
      clear hK K'
      try simp only [Act.put, List.setIfInBounds_toArray, List.set_cons_zero, List.set_cons_succ]
      refine hd_one 9 (by kernel_rfl) rfl (by kernel_rfl) rfl (fun K' hK => ?_)
      go_simp
      refine hK.out _ _ (fun h => absurd rfl h) ?_
      clear hK K'
      refine held_done (by kernel_rfl) ?_
      rw [← HRB.out]
      have HFR := Lib.hid (HF2.out.trans gr1 (by simp))
      go_wp2_with fail
      go_ret
      exact ⟨rfl, HFR.out.toBelow (by simp)⟩
end Go.Proofs.YtcblpfepkkkilaaGreatDoor
