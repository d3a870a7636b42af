/-
  title.identity; slices.Equal over strings.
-/
import Derived.Test.YtennhdgnpodkaaaGreatDoorTtE
import Derived.Test.YtennhdgnpodkaaaGreatDoorSt3
namespace Go.Proofs.YtennhdgnpodkaaaGreatDoor
open Go.RowKit

set_option maxRecDepth 100000 in
set_option maxHeartbeats 1000000 in
theorem identity_any (v : Value) (t : Ttl) (w : World) (hv : TtlR w v t) (hN : TNum t) (hT : Tabs w) :
    Calls Tryz.prog 59 #[v] w fun e w' => e = .returned (.agg #[.string ⟨(Lib.itoa t.serial).toArray⟩, .string ⟨(Lib.itoa t.shw).toArray⟩, .string ⟨t.first.toArray⟩]) ∧ Below w.heap.size w w' := by
  have hmx : Tryz.prog.follows .mixedOrders = true := by kernel_rfl
  obtain ⟨cv, rfl, _⟩ := hv
  have HT := Lib.hid hT
  have hs1 := hN.s.1
  have hs2 := hN.s.2
  have hh1 := hN.h.1
  have hh2 := hN.h.2
  clear hT hN
  obtain ⟨W0, hW0⟩ : ∃ W0, W0 = (w.alloc (.cells #[.int .i64 t.serial, .int .i64 t.shw, .int .i64 t.place, .string ⟨t.first.toArray⟩, cv] 24)).alloc (.cells #[.string ⟨#[]⟩, .string ⟨#[]⟩, .string ⟨#[]⟩] 71) := ⟨_, rfl⟩
  obtain ⟨p, ep⟩ : ∃ p, p = w.heap.size := ⟨_, rfl⟩
  have h0 : Fr [] w W0 := by rw [hW0]; exact ((Fr.refl [] w).alloc _).alloc _
  have hp0 : W0.heap[p]? = some (.cells #[.int .i64 t.serial, .int .i64 t.shw, .int .i64 t.place, .string ⟨t.first.toArray⟩, cv] 24 (0, 0)) := by rw [hW0, ep]; exact heap_past _ (heap_new rfl)
  have hp1 : W0.heap[p + 1]? = some (.cells #[.string ⟨#[]⟩, .string ⟨#[]⟩, .string ⟨#[]⟩] 71 (0, 0)) := by rw [hW0, ep]; exact heap_new (by simp)
  go_enter Tryz.func59, Tryz.ntmps59
  go_wp2_with fail
  rw [← hW0, ← ep]
  have EP := Lib.hid ep
  clear hW0 ep
  have c0 := row_cell hp0 0
  have c1 := row_cell hp0 1
  have c3 := row_cell hp0 3
  simp at c0 c1 c3
  have hD : Fr [] W0 W0.drew := (Fr.refl [] W0).drew
  have hS0 : W0.drew.cell? ⟨p, 0, none⟩ = some (.int .i64 t.serial) ∧ W0.drew.cell? ⟨p, 1, none⟩ = some (.int .i64 t.shw) ∧ W0.drew.cell? ⟨p, 3, none⟩ = some (.string ⟨t.first.toArray⟩) := ⟨hD.cell c0 (by simp), hD.cell c1 (by simp), hD.cell c3 (by simp)⟩
  refine region_held 9 (fun W' => W'.cell? ⟨p, 0, none⟩ = some (.int .i64 t.serial) ∧ W'.cell? ⟨p, 1, none⟩ = some (.int .i64 t.shw) ∧ W'.cell? ⟨p, 3, none⟩ = some (.string ⟨t.first.toArray⟩)) hmx ?_
  change Held _ _ _ _ _ _ 10 (Array.replicate 10 false) _ _
  refine hd_take 0 (v := .pointer (some ⟨p, 0, none⟩)) rfl (by kernel_rfl) (by kernel_rfl) (by kernel_rfl) rfl hS0 (fun W' hS => by go_simp) rfl ?_
  refine hd_take 3 (v := .pointer (some ⟨p, 1, none⟩)) rfl (by kernel_rfl) (by kernel_rfl) (by kernel_rfl) rfl hS0 (fun W' hS => by go_simp) rfl ?_
  refine hd_take 6 (v := .pointer (some ⟨p, 3, none⟩)) rfl (by kernel_rfl) (by kernel_rfl) (by kernel_rfl) rfl hS0 (fun W' hS => by go_simp) rfl ?_
  try simp only [Act.put, List.setIfInBounds_toArray, List.set_cons_zero, List.set_cons_succ]
  refine hd_take 1 (v := .int .i64 t.serial) rfl (by kernel_rfl) (by kernel_rfl) (by kernel_rfl) rfl hS0 (fun W' hS => by obtain ⟨s0, s1, s2⟩ := hS; go_simp) rfl ?_
  refine hd_take 4 (v := .int .i64 t.shw) rfl (by kernel_rfl) (by kernel_rfl) (by kernel_rfl) rfl hS0 (fun W' hS => by obtain ⟨s0, s1, s2⟩ := hS; go_simp) rfl ?_
  refine hd_take 7 (v := .string ⟨t.first.toArray⟩) rfl (by kernel_rfl) (by kernel_rfl) (by kernel_rfl) rfl hS0 (fun W' hS => by obtain ⟨s0, s1, s2⟩ := hS; go_simp) rfl ?_
  try simp only [Act.put, List.setIfInBounds_toArray, List.set_cons_zero, List.set_cons_succ]
  refine hd_one 2 (by kernel_rfl) rfl (by kernel_rfl) rfl (fun K' hK => ?_)
  go_simp
  refine (itoaI_any t.serial _ hs1 hs2 ((HT.out.fr h0).fr hD)).mono ?_
  rintro e v1 ⟨rfl, hbb1⟩
  have hf1 : Fr [] W0 v1 := hD.below hbb1 hD.size
  refine hK.out _ _ (fun _ => ⟨hf1.cell c0 (by simp), hf1.cell c1 (by simp), hf1.cell c3 (by simp)⟩) ?_
  clear hK K'
  try simp only [Act.put, List.setIfInBounds_toArray, List.set_cons_zero, List.set_cons_succ]
  refine hd_one 5 (by kernel_rfl) rfl (by kernel_rfl) rfl (fun K' hK => ?_)
  go_simp
  refine (itoaI_any t.shw _ hh1 hh2 ((HT.out.fr h0).fr hf1)).mono ?_
  rintro e v2 ⟨rfl, hbb2⟩
  have hf2 : Fr [] W0 v2 := hf1.below hbb2 hf1.size
  refine hK.out _ _ (fun _ => ⟨hf2.cell c0 (by simp), hf2.cell c1 (by simp), hf2.cell c3 (by simp)⟩) ?_
  clear hK K'
  try simp only [Act.put, List.setIfInBounds_toArray, List.set_cons_zero, List.set_cons_succ]
  refine hd_take 8 (v := .agg #[.string ⟨(Lib.itoa t.serial).toArray⟩, .string ⟨(Lib.itoa t.shw).toArray⟩, .string ⟨t.first.toArray⟩]) rfl (by kernel_rfl) (by kernel_rfl) (by kernel_rfl) rfl ⟨hf2.cell c0 (by simp), hf2.cell c1 (by simp), hf2.cell c3 (by simp)⟩ (fun W' hS => by go_simp) rfl ?_
  try simp only [Act.put, List.setIfInBounds_toArray, List.set_cons_zero, List.set_cons_succ]
  have hr2 := hf2.at hp1 (by simp)
  have r0 := row_cell hr2 0
  have r1 := row_cell hr2 1
  have r2 := row_cell hr2 2
  simp at r0 r1 r2
  have z0 := row_free hr2 0
  have z1 := row_free hr2 1
  have z2 := row_free hr2 2
  refine hd_one 9 (by kernel_rfl) rfl (by kernel_rfl) rfl (fun K' hK => ?_)
  go_simp
  refine hK.out _ _ (fun h => absurd rfl h) ?_
  clear hK K'
  refine held_done (by kernel_rfl) ?_
  have HX := Lib.hid ((h0.trans hf2 (by simp)).store3 (p + 1) (by right; have := EP.out; omega) (.string ⟨(Lib.itoa t.serial).toArray⟩) (.string ⟨(Lib.itoa t.shw).toArray⟩) (.string ⟨t.first.toArray⟩))
  have HR := Lib.hid (row_set (row_set (row_set hr2 0 (.string ⟨(Lib.itoa t.serial).toArray⟩)) 1 (.string ⟨(Lib.itoa t.shw).toArray⟩)) 2 (.string ⟨t.first.toArray⟩))
  clear hr2 r0 r1 r2 z0 z1 z2 hf1 hf2 hbb1 hbb2 hS0 hD
  go_wp2_with fail
  have x0 := row_cell HR.out 0
  have x1 := row_cell HR.out 1
  have x2 := row_cell HR.out 2
  simp at x0 x1 x2
  refine bodyPost_ret (v := .agg #[.string ⟨(Lib.itoa t.serial).toArray⟩, .string ⟨(Lib.itoa t.shw).toArray⟩, .string ⟨t.first.toArray⟩]) ?_ rfl ⟨rfl, HX.out.toBelow (by simp)⟩
  simp only [results]
  go_simp

set_option maxRecDepth 100000 in
set_option maxHeartbeats 1000000 in
theorem equalS_any (av bv : Value) (la lb : List (List UInt8)) (w : World) (ha : StrsW w av la) (hb : StrsW w bv lb) :
    Calls Tryz.prog 62 #[av, bv] w fun e w' => e = .returned (.bool (decide (la = lb))) ∧ Below w.heap.size w w' := by
  have HA := Lib.hid ha
  have HB := Lib.hid hb
  obtain ⟨a1, c1, rfl, l1, k1, f1⟩ := ha.form
  obtain ⟨a2, c2, rfl, l2, k2, f2⟩ := hb.form
  clear ha hb
  obtain ⟨r, er⟩ : ∃ r, r = decide (la = lb) := ⟨_, rfl⟩
  rw [← er]
  have ER := Lib.hid er
  clear er
  by_cases hn : la.length = lb.length
  case neg =>
    have u1 : ((la.length : Int) != (lb.length : Int)) = true := by rw [bne_iff_ne]; omega
    have HR : Hid (r = false) := Lib.hid (by rw [ER.out]; exact decide_eq_false (fun e => hn (by rw [e])))
    clear hn
    go_enter Tryz.func62, Tryz.ntmps62
    go_wp2_with fail
    go_ret
    exact ⟨by rw [HR.out]; rfl, Below.refl _ _⟩
  have u1 : ((la.length : Int) != (lb.length : Int)) = false := by rw [hn]; simp
  have HN := Lib.hid hn
  clear hn
  go_enter Tryz.func62, Tryz.ntmps62
  go_wp2_with fail
  go_loopg [5, 13] la.length (fun g u i wr => ∃ k : Nat, k ≤ la.length ∧ g = la.length - k ∧ i = .int .i64 (k : Int) ∧ la.take k = lb.take k ∧ Fr [] w wr)
  case atStart => exact ⟨0, by omega, by omega, rfl, by simp, Fr.refl _ _⟩
  case round =>
    obtain ⟨k, hk, hg, rfl, heq, hfr⟩ := hrel
    have HG := Lib.hid hg
    have HEQ := Lib.hid heq
    clear hg heq
    by_cases hlt : k < la.length
    · have t1 : decide ((k : Int) < (la.length : Int)) = true := by simp; omega
      have hnn := HN.out
      obtain ⟨b1, o1, rfl⟩ := f1 k hlt
      obtain ⟨b2, o2, rfl⟩ := f2 k (by omega)
      have cx := hfr.cell (HA.out.cell k hlt) (by simp)
      have cy := hfr.cell (HB.out.cell k (by omega)) (by simp)
      have HNX : Hid (la.getD k [] = lb.getD k [] → la.take (k + 1) = lb.take (k + 1)) := Lib.hid (fun e => by
        rw [take_snoc' _ k [] hlt, take_snoc' _ k [] (by omega), HEQ.out, e])
      have HNE : Hid (la.getD k [] ≠ lb.getD k [] → r = false) := Lib.hid (fun e => by
        rw [ER.out]; exact decide_eq_false (fun e2 => e (by rw [e2])))
      generalize la.getD k [] = X at cx HNX HNE
      generalize lb.getD k [] = Y at cy HNX HNE
      have i0 : (0 : Int) ≤ (k : Int) := by omega
      have i1 : (k : Int) < (la.length : Int) := by omega
      have i2 : (k : Int) < (lb.length : Int) := by omega
      clear hnn
      by_cases hxy : X = Y
      · have u2 : (X == Y) = true := by rw [beq_iff_eq]; exact hxy
        have u3 : (X != Y) = false := by rw [bne, u2]; rfl
        have HTK := Lib.hid (HNX.out hxy)
        clear hxy
        go_wp2_with fail
        go_quiet (fail)
        go_wp2_with fail
        go_roundg (la.length - (k + 1))
        case measure => have := HG.out; omega
        case rel => exact ⟨k + 1, by omega, rfl, by go_num, HTK.out, hfr.drewN _⟩
      · have u2 : (X == Y) = false := by rw [beq_eq_false_iff_ne]; exact hxy
        have u3 : (X != Y) = true := by rw [bne, u2]; rfl
        have HRF := Lib.hid (HNE.out hxy)
        clear hxy
        go_wp2_with fail
        go_quiet (fail)
        go_wp2_with fail
        go_ret
        exact ⟨by rw [HRF.out]; rfl, (hfr.drewN _).toBelow (by simp)⟩
    · obtain rfl : k = la.length := by omega
      have t1 : decide ((la.length : Int) < (la.length : Int)) = false := by simp
      have HRT : Hid (r = true) := Lib.hid (by
        rw [ER.out]
        have := HEQ.out
        rw [List.take_length, List.take_of_length_le (by rw [HN.out]; exact Nat.le_refl _)] at this
        exact decide_eq_true this)
      go_wp2_with fail
      go_ret
      exact ⟨by rw [HRT.out]; rfl, hfr.toBelow (by simp)⟩

set_option maxRecDepth 100000 in
set_option maxHeartbeats 1000000 in
theorem ext1_any (x y : Trf) (u v : Value) (w : World) (hu : StrsW w u x.sig) (hv : StrsW w v y.sig) :
    Calls Tryz.prog 61 #[trfV x u, trfV y v] w fun e w' => e = .returned (.bool (decide (x = y))) ∧ Below w.heap.size w w' := by
  obtain ⟨x1, x2⟩ := x
  obtain ⟨y1, y2⟩ := y
  simp only at hu hv
  unfold trfV
  simp only
  obtain ⟨sa, sc, rfl, _, _, _⟩ := hu.form
  obtain ⟨ta, tc, rfl, _, _, _⟩ := hv.form
  have hA := ((Fr.refl [] w).alloc (.cells #[.string ⟨x1.toArray⟩, .slice sa x2.length sc] 44)).alloc (.cells #[.string ⟨y1.toArray⟩, .slice ta y2.length tc] 44)
  have HA := Lib.hid hA
  have HU := Lib.hid (hu.fr hA)
  have HV := Lib.hid (hv.fr hA)
  clear hA hu hv
  by_cases hxy : x1 = y1
  · have u2 : (x1 == y1) = true := by rw [beq_iff_eq]; exact hxy
    have u3 : (x1 != y1) = false := by rw [bne, u2]; rfl
    have HX := Lib.hid hxy
    clear hxy
    go_enter Tryz.func61, Tryz.ntmps61
    go_wp2_with fail
    refine (equalS_any _ _ x2 y2 _ HU.out HV.out).mono ?_
    rintro e w2 ⟨rfl, hb2⟩
    have HB := Lib.hid ((HA.out.below hb2 HA.out.size).toBelow (by simp))
    go_wp2_with fail
    go_ret
    refine ⟨?_, HB.out⟩
    have : decide ((⟨x1, x2⟩ : Trf) = ⟨y1, y2⟩) = decide (x2 = y2) := by rw [decide_eq_decide]; simp [HX.out]
    rw [this]; rfl
  · have u2 : (x1 == y1) = false := by rw [beq_eq_false_iff_ne]; exact hxy
    have u3 : (x1 != y1) = true := by rw [bne, u2]; rfl
    have HX : Hid (decide ((⟨x1, x2⟩ : Trf) = ⟨y1, y2⟩) = false) := Lib.hid (decide_eq_false (fun h => hxy (by cases h; rfl)))
    clear hxy
    go_enter Tryz.func61, Tryz.ntmps61
    go_wp2_with fail
    go_ret
    exact ⟨by rw [HX.out]; rfl, HA.out.toBelow (by simp)⟩
end Go.Proofs.YtennhdgnpodkaaaGreatDoor
