/-
  foyerref30: Message, Valid.
-/
import Derived.Test.YtcblpfepkkkilaaGreatDoorRtC
import Derived.Test.YtcblpfepkkkilaaGreatDoorRtD
import Derived.Test.YtcblpfepkkkilaaGreatDoorRtE
import Derived.Test.YtcblpfepkkkilaaGreatDoorRefD
import Derived.Test.YtcblpfepkkkilaaGreatDoorPlnTt
namespace Go.Proofs.YtcblpfepkkkilaaGreatDoor
open Go.RowKit

theorem msgT_len (t : Ttl) (tk : List UInt8) : (msgT t tk).length ≤ 1000000 := by
  unfold msgT dlist
  rw [dsum_length]; decide
theorem fieldsT_cap {t : Ttl} (h : TSmall t) {tk : List UInt8} (hto : tk.length ≤ 100000) : capN (fieldsT t tk) ≤ 140737488355328 := by
  have h1 := capN_le (fieldsT t tk) 100000 (fieldsT_small h hto)
  rw [fieldsT_len] at h1
  have h2 := h.n
  have h3 : (t.chain.length + 4) * (100000 + 21) ≤ 1004 * 100021 := Nat.mul_le_mul_right _ (by omega)
  omega
set_option maxRecDepth 100000 in
set_option maxHeartbeats 1000000 in
theorem rmessage30_any (v : Value) (t : Ttl) (tk : List UInt8) (w : World) (hv : TtlR w v t) (hS : TSmall t) (hto : tk.length ≤ 100000) :
    Calls Tryz.prog 13 #[v, .string ⟨tk.toArray⟩] w fun e w' => e = .returned (.string ⟨(msgT t tk).toArray⟩) ∧ Below w.heap.size w w' := by
  obtain ⟨cv, rfl, hc⟩ := hv
  obtain ⟨a, cap, rfl, _, _, _⟩ := hc.form
  have HCP := Lib.hid (fieldsT_cap hS hto)
  have HS := Lib.hid (And.intro hS hto)
  clear hS hto
  obtain ⟨W0, hW0⟩ : ∃ W0, W0 = w.alloc (.cells #[.int .i64 t.serial, .int .i64 t.shw, .int .i64 t.place, .string ⟨t.first.toArray⟩, .slice a t.chain.length cap] 24) := ⟨_, rfl⟩
  obtain ⟨p, ep⟩ : ∃ p, p = w.heap.size := ⟨_, rfl⟩
  have h0 : Fr [] w W0 := by rw [hW0]; exact (Fr.refl [] w).alloc _
  have hp0 : W0.heap[p]? = some (.cells #[.int .i64 t.serial, .int .i64 t.shw, .int .i64 t.place, .string ⟨t.first.toArray⟩, .slice a t.chain.length cap] 24 (0, 0)) := by rw [hW0]; exact heap_new ep
  have c0 := row_cell hp0 0
  have c1 := row_cell hp0 1
  have c2 := row_cell hp0 2
  have c3 := row_cell hp0 3
  have c4 := row_cell hp0 4
  simp at c0 c1 c2 c3 c4
  rw [hW0, ep] at c0 c1 c2 c3 c4
  have HC := Lib.hid (hc.fr h0)
  clear hc
  go_enter Tryz.func13, Tryz.ntmps13
  go_wp2_with fail
  rw [← hW0]
  refine (rfields30_any _ t tk W0 ⟨_, rfl, HC.out⟩ HS.out.1 HS.out.2).mono ?_
  rintro e w1 ⟨fv, rfl, hst, hb1⟩
  have h1 : Fr [] w w1 := h0.below hb1 h0.size
  obtain ⟨fa, fc, rfl, _, _⟩ := hst.form
  have HST := Lib.hid hst
  clear hst hb1 c0 c1 c2 c3 c4 hW0
  go_wp2_with fail
  refine (rlist_any _ (fieldsT t tk) w1 HST.out HCP.out).mono ?_
  rintro e w2 ⟨rfl, hb2⟩
  go_wp2_with fail
  go_ret
  exact ⟨rfl, (h1.below hb2 h1.size).toBelow (by simp)⟩
set_option maxRecDepth 100000 in
set_option maxHeartbeats 4000000 in
theorem rvalid30_any (v : Value) (t : Ttl) (w : World) (hv : TtlR w v t) (hS : TSmall t) :
    Calls Tryz.prog 17 #[v] w fun e w' => e = .returned (.bool (validT t)) ∧ Below w.heap.size w w' := by
  have hmx : Tryz.prog.follows .mixedOrders = true := by kernel_rfl
  obtain ⟨cv, rfl, hc⟩ := hv
  obtain ⟨a, cap, rfl, _, _, ha⟩ := hc.form
  have HS := Lib.hid hS
  clear hS
  obtain ⟨W0, hW0⟩ : ∃ W0, W0 = w.alloc (.cells #[.int .i64 t.serial, .int .i64 t.shw, .int .i64 t.place, .string ⟨t.first.toArray⟩, .slice a t.chain.length cap] 24) := ⟨_, rfl⟩
  obtain ⟨p, ep⟩ : ∃ p, p = w.heap.size := ⟨_, rfl⟩
  have h0 : Fr [] w W0 := by rw [hW0]; exact (Fr.refl [] w).alloc _
  have hp0 : W0.heap[p]? = some (.cells #[.int .i64 t.serial, .int .i64 t.shw, .int .i64 t.place, .string ⟨t.first.toArray⟩, .slice a t.chain.length cap] 24 (0, 0)) := by rw [hW0]; exact heap_new ep
  have c0 := row_cell hp0 0
  have c1 := row_cell hp0 1
  have c2 := row_cell hp0 2
  have c3 := row_cell hp0 3
  have c4 := row_cell hp0 4
  simp at c0 c1 c2 c3 c4
  rw [hW0, ep] at c0 c1 c2 c3 c4
  have HC := Lib.hid (hc.fr h0)
  clear hc
  obtain ⟨r, er⟩ : ∃ r, r = validT t := ⟨_, rfl⟩
  rw [← er]
  have ER := Lib.hid er
  clear er
  go_enter Tryz.func17, Tryz.ntmps17
  go_wp2_with fail
  rw [← hW0, ← ep]
  clear hW0 ep c0 c1 c2 c3 c4
  refine (rformed30_any _ t W0 ⟨_, rfl, HC.out⟩ HS.out).mono ?_
  rintro e w1 ⟨rfl, hb1⟩
  have h01 : Fr [] W0 w1 := Fr.ofBelow hb1
  have hp0 := h01.at hp0 (by simp)
  have HC := Lib.hid (HC.out.fr h01)
  have h1 := h0.trans h01 (by simp)
  clear hb1 h01 h0
  cases hf : formedT t with
  | false =>
    have HR : Hid (r = false) := Lib.hid (by rw [ER.out]; unfold validT; rw [hf]; rfl)
    clear hf
    go_wp2_with fail
    go_ret
    exact ⟨by rw [HR.out]; rfl, h1.toBelow (by simp)⟩
  | true =>
    have HR : Hid (r = (List.range t.chain.length).all (stepT t)) := Lib.hid (by rw [ER.out]; unfold validT; rw [hf]; rfl)
    have HF := Lib.hid (formedT_parts hf).2.2.2.2.2
    clear hf
    go_wp2_with fail
    go_loopg [3] t.chain.length (fun gh i wr => ∃ k : Nat, k ≤ t.chain.length ∧ gh = t.chain.length - k ∧ i = .int .i64 (k : Int) ∧ (∀ j, j < k → stepT t j = true) ∧ Fr [] w1 wr)
    case atStart => exact ⟨0, by omega, by omega, rfl, fun j hj => absurd hj (by omega), Fr.refl _ _⟩
    case round =>
      obtain ⟨k, hk, hgh, rfl, hall, hfr⟩ := hrel
      have HG := Lib.hid hgh
      have HA := Lib.hid hall
      clear hgh hall
      have hp0 := hfr.at hp0 (by simp)
      have HC := Lib.hid (HC.out.fr hfr)
      have hw := h1.trans hfr (by simp)
      have c0 := row_cell hp0 0
      have c1 := row_cell hp0 1
      have c2 := row_cell hp0 2
      have c3 := row_cell hp0 3
      have c4 := row_cell hp0 4
      simp at c0 c1 c2 c3 c4
      by_cases hlt : k < t.chain.length
      · have t1 : decide ((k : Int) < (t.chain.length : Int)) = true := by simp; omega
        obtain ⟨b, off, rfl⟩ := ha k hlt
        obtain ⟨x, hx⟩ : ∃ x, t.chain[k]? = some x := ⟨_, List.getElem?_eq_getElem hlt⟩
        obtain ⟨e0, u, e1, hu⟩ := HC.out.cells k x hx
        obtain ⟨sa, sc, rfl, _, _, _⟩ := hu.form
        have HM := Lib.hid (List.mem_of_getElem? hx)
        have HFX := Lib.hid (formX_parts (List.all_eq_true.1 HF.out x HM.out))
        have hsg := hu.strong (by intro h; have := HFX.out.1; rw [h] at this; simp at this)
        have HXN := Lib.hid (HS.out.c x HM.out).1
        have HXS : Hid (∀ s ∈ x.sig, s.length ≤ 1000000) := Lib.hid (fun s hs => Nat.le_trans ((HS.out.c x HM.out).2.2 s hs) (by decide))
        have HST : Hid (stepT t k = (!usedT (cutT t k) x.nk && verifyS (ownerT (cutT t k)) (msgT (cutT t k) x.nk) x.sig)) := Lib.hid (by unfold stepT; rw [hx])
        have HLT := Lib.hid hlt
        have i0 : (0 : Int) ≤ (k : Int) := by omega
        have i1 : (k : Int) < (t.chain.length : Int) := by omega
        clear hx hu hlt
        go_wp2_with fail
        refine (rcut30_any _ t k wr ⟨_, rfl, HC.out⟩ (Nat.le_of_lt HLT.out)).mono ?_
        rintro e y ⟨⟨vc, rfl, hvc⟩, hbb⟩
        have hwy : Fr [] wr y := Fr.ofBelow hbb
        obtain ⟨cc, rfl, hcc⟩ := hvc
        obtain ⟨ac, kc, rfl, _, _, _⟩ := hcc.form
        clear hbb
        obtain ⟨W4, hW4⟩ : ∃ W4, W4 = y.alloc (.cells #[.int .i64 (cutT t k).serial, .int .i64 (cutT t k).shw, .int .i64 (cutT t k).place, .string ⟨(cutT t k).first.toArray⟩, .slice ac (cutT t k).chain.length kc] 24) := ⟨_, rfl⟩
        obtain ⟨W5, hW5⟩ : ∃ W5, W5 = W4.alloc (.cells #[.string ⟨x.nk.toArray⟩, .slice sa x.sig.length sc] 41) := ⟨_, rfl⟩
        obtain ⟨b4, eb4⟩ : ∃ b, b = y.heap.size := ⟨_, rfl⟩
        obtain ⟨b5, eb5⟩ : ∃ b, b = y.heap.size + 1 := ⟨_, rfl⟩
        have f4 : Fr [] y W4 := by rw [hW4]; exact (Fr.refl [] y).alloc _
        have f5 : Fr [] W4 W5 := by rw [hW5]; exact (Fr.refl [] W4).alloc _
        have h44 : W4.heap[b4]? = some (.cells #[.int .i64 (cutT t k).serial, .int .i64 (cutT t k).shw, .int .i64 (cutT t k).place, .string ⟨(cutT t k).first.toArray⟩, .slice ac (cutT t k).chain.length kc] 24 (0, 0)) := by rw [hW4]; exact heap_new eb4
        have h45 := f5.at h44 (by simp)
        have h55 : W5.heap[b5]? = some (.cells #[.string ⟨x.nk.toArray⟩, .slice sa x.sig.length sc] 41 (0, 0)) := by rw [hW5]; exact heap_new (by rw [hW4, World.size_alloc]; exact eb5)
        have fy4 := hwy.trans f4 (by simp)
        have p4 := row_cell (fy4.at hp0 (by simp)) 4
        have p5 := fy4.cell e0 (by simp)
        have p6 := fy4.cell e1 (by simp)
        simp at p4
        rw [hW4] at p4 p5 p6
        have HCC := Lib.hid ((hcc.fr f4).fr f5)
        have HSG := Lib.hid (hsg.fr0 (fy4.trans f5 (by simp)))
        have fw5 := fy4.trans f5 (by simp)
        have HW5 := Lib.hid (And.intro eb4 (And.intro eb5 (And.intro hW4 hW5)))
        clear hcc hsg fy4 f4 f5 hwy h44 eb4 eb5 hW4 hW5 c0 c1 c2 c3 c4 e0 e1
        go_wp2_with fail
        rw [← HW5.out.2.2.1, ← HW5.out.2.2.2, ← HW5.out.2.1, ← HW5.out.1]
        clear p4 p5 p6
        have c0 := row_cell h45 0
        have c1 := row_cell h45 1
        have c2 := row_cell h45 2
        have c3 := row_cell h45 3
        have c4 := row_cell h45 4
        simp at c0 c1 c2 c3 c4
        have d0 := row_cell h55 0
        have d1 := row_cell h55 1
        simp at d0 d1
        obtain ⟨uq, huq⟩ : ∃ q, usedT (cutT t k) x.nk = q := ⟨_, rfl⟩
        have HU0 := Lib.hid huq
        clear huq
        cases uq with
        | true =>
          have gr0 : Fr [] W5 W5.drew := (Fr.refl [] W5).drew
          have hSr0 : W5.drew.cell? ⟨b4, 0, none⟩ = some (.int .i64 (cutT t k).serial) ∧ W5.drew.cell? ⟨b4, 1, none⟩ = some (.int .i64 (cutT t k).shw) ∧ W5.drew.cell? ⟨b4, 2, none⟩ = some (.int .i64 (cutT t k).place) ∧ W5.drew.cell? ⟨b4, 3, none⟩ = some (.string ⟨(cutT t k).first.toArray⟩) ∧ W5.drew.cell? ⟨b4, 4, none⟩ = some (.slice ac (cutT t k).chain.length kc) ∧ W5.drew.cell? ⟨b5, 0, none⟩ = some (.string ⟨x.nk.toArray⟩) ∧ W5.drew.cell? ⟨b5, 1, none⟩ = some (.slice sa x.sig.length sc) := ⟨gr0.cell c0 (by simp), gr0.cell c1 (by simp), gr0.cell c2 (by simp), gr0.cell c3 (by simp), gr0.cell c4 (by simp), gr0.cell d0 (by simp), gr0.cell d1 (by simp)⟩
          refine region_held 100 (fun W' => W'.cell? ⟨b4, 0, none⟩ = some (.int .i64 (cutT t k).serial) ∧ W'.cell? ⟨b4, 1, none⟩ = some (.int .i64 (cutT t k).shw) ∧ W'.cell? ⟨b4, 2, none⟩ = some (.int .i64 (cutT t k).place) ∧ W'.cell? ⟨b4, 3, none⟩ = some (.string ⟨(cutT t k).first.toArray⟩) ∧ W'.cell? ⟨b4, 4, none⟩ = some (.slice ac (cutT t k).chain.length kc) ∧ W'.cell? ⟨b5, 0, none⟩ = some (.string ⟨x.nk.toArray⟩) ∧ W'.cell? ⟨b5, 1, none⟩ = some (.slice sa x.sig.length sc)) hmx ?_
          change Held _ _ _ _ _ _ 16 (Array.replicate 16 false) _ _
          refine hd_take 0 (v := .agg #[.int .i64 (cutT t k).serial, .int .i64 (cutT t k).shw, .int .i64 (cutT t k).place, .string ⟨(cutT t k).first.toArray⟩, .slice ac (cutT t k).chain.length kc]) rfl (by kernel_rfl) (by kernel_rfl) (by kernel_rfl) rfl hSr0 (fun W' hS => by obtain ⟨s0, s1, s2, s3, s4, s5, s6⟩ := hS; go_simp) rfl ?_
          refine hd_take 1 (v := .pointer (some ⟨b5, 0, none⟩)) rfl (by kernel_rfl) (by kernel_rfl) (by kernel_rfl) rfl hSr0 (fun W' hS => by go_simp) rfl ?_
          try simp only [Act.put, List.setIfInBounds_toArray, List.set_cons_zero, List.set_cons_succ]
          refine hd_take 2 (v := .string ⟨x.nk.toArray⟩) rfl (by kernel_rfl) (by kernel_rfl) (by kernel_rfl) rfl hSr0 (fun W' hS => by obtain ⟨s0, s1, s2, s3, s4, s5, s6⟩ := hS; go_simp) rfl ?_
          try simp only [Act.put, List.setIfInBounds_toArray, List.set_cons_zero, List.set_cons_succ]
          refine hd_one 3 (by kernel_rfl) rfl (by kernel_rfl) rfl (fun K' hK => ?_)
          go_simp
          refine (rused30_any _ (cutT t k) x.nk W5.drew ⟨_, rfl, HCC.out.fr gr0⟩).mono ?_
          rintro e yr1 ⟨rfl, hbb⟩
          have gr1 : Fr [] W5 yr1 := gr0.below hbb gr0.size
          clear hbb
          have hSr1 : yr1.cell? ⟨b4, 0, none⟩ = some (.int .i64 (cutT t k).serial) ∧ yr1.cell? ⟨b4, 1, none⟩ = some (.int .i64 (cutT t k).shw) ∧ yr1.cell? ⟨b4, 2, none⟩ = some (.int .i64 (cutT t k).place) ∧ yr1.cell? ⟨b4, 3, none⟩ = some (.string ⟨(cutT t k).first.toArray⟩) ∧ yr1.cell? ⟨b4, 4, none⟩ = some (.slice ac (cutT t k).chain.length kc) ∧ yr1.cell? ⟨b5, 0, none⟩ = some (.string ⟨x.nk.toArray⟩) ∧ yr1.cell? ⟨b5, 1, none⟩ = some (.slice sa x.sig.length sc) := ⟨gr1.cell c0 (by simp), gr1.cell c1 (by simp), gr1.cell c2 (by simp), gr1.cell c3 (by simp), gr1.cell c4 (by simp), gr1.cell d0 (by simp), gr1.cell d1 (by simp)⟩
          refine hK.out _ _ (fun _ => hSr1) ?_
          clear hK K'
          try simp only [Act.put, List.setIfInBounds_toArray, List.set_cons_zero, List.set_cons_succ]
          rw [HU0.out]
          refine hd_take 4 (v := .bool true) rfl (by kernel_rfl) (by kernel_rfl) (by kernel_rfl) rfl hSr1 (fun W' hS => by go_simp) rfl ?_
          try simp only [Act.put, List.setIfInBounds_toArray, List.set_cons_zero, List.set_cons_succ]
          refine hd_skip 5 rfl (by kernel_rfl) (by kernel_rfl) (by kernel_rfl) rfl hSr1 rfl ?_
          refine hd_skip 6 rfl (by kernel_rfl) (by kernel_rfl) (by kernel_rfl) rfl hSr1 rfl ?_
          refine hd_skip 7 rfl (by kernel_rfl) (by kernel_rfl) (by kernel_rfl) rfl hSr1 rfl ?_
          refine hd_skip 8 rfl (by kernel_rfl) (by kernel_rfl) (by kernel_rfl) rfl hSr1 rfl ?_
          refine hd_skip 9 rfl (by kernel_rfl) (by kernel_rfl) (by kernel_rfl) rfl hSr1 rfl ?_
          refine hd_skip 10 rfl (by kernel_rfl) (by kernel_rfl) (by kernel_rfl) rfl hSr1 rfl ?_
          refine hd_skip 11 rfl (by kernel_rfl) (by kernel_rfl) (by kernel_rfl) rfl hSr1 rfl ?_
          refine hd_skip 12 rfl (by kernel_rfl) (by kernel_rfl) (by kernel_rfl) rfl hSr1 rfl ?_
          refine hd_skip 13 rfl (by kernel_rfl) (by kernel_rfl) (by kernel_rfl) rfl hSr1 rfl ?_
          refine hd_skip 14 rfl (by kernel_rfl) (by kernel_rfl) (by kernel_rfl) rfl hSr1 rfl ?_
          refine hd_take 15 (v := .bool true) rfl (by kernel_rfl) (by kernel_rfl) (by kernel_rfl) rfl hSr1 (fun W' hS => by go_simp) rfl ?_
          try simp only [Act.put, List.setIfInBounds_toArray, List.set_cons_zero, List.set_cons_succ]
          refine held_done (by kernel_rfl) ?_
          have HX : Hid (r = false) := Lib.hid (by
            rw [HR.out]
            exact List.all_eq_false.2 ⟨k, List.mem_range.2 HLT.out, by rw [HST.out, HU0.out]; simp⟩)
          have fe := (hw.trans fw5 (by simp)).trans gr1 (by simp)
          go_wp2_with fail
          go_ret
          exact ⟨by rw [HX.out]; rfl, fe.toBelow (by simp)⟩
        | false =>
          have gr0 : Fr [] W5 W5.drew := (Fr.refl [] W5).drew
          have hSr0 : W5.drew.cell? ⟨b4, 0, none⟩ = some (.int .i64 (cutT t k).serial) ∧ W5.drew.cell? ⟨b4, 1, none⟩ = some (.int .i64 (cutT t k).shw) ∧ W5.drew.cell? ⟨b4, 2, none⟩ = some (.int .i64 (cutT t k).place) ∧ W5.drew.cell? ⟨b4, 3, none⟩ = some (.string ⟨(cutT t k).first.toArray⟩) ∧ W5.drew.cell? ⟨b4, 4, none⟩ = some (.slice ac (cutT t k).chain.length kc) ∧ W5.drew.cell? ⟨b5, 0, none⟩ = some (.string ⟨x.nk.toArray⟩) ∧ W5.drew.cell? ⟨b5, 1, none⟩ = some (.slice sa x.sig.length sc) := ⟨gr0.cell c0 (by simp), gr0.cell c1 (by simp), gr0.cell c2 (by simp), gr0.cell c3 (by simp), gr0.cell c4 (by simp), gr0.cell d0 (by simp), gr0.cell d1 (by simp)⟩
          refine region_held 100 (fun W' => W'.cell? ⟨b4, 0, none⟩ = some (.int .i64 (cutT t k).serial) ∧ W'.cell? ⟨b4, 1, none⟩ = some (.int .i64 (cutT t k).shw) ∧ W'.cell? ⟨b4, 2, none⟩ = some (.int .i64 (cutT t k).place) ∧ W'.cell? ⟨b4, 3, none⟩ = some (.string ⟨(cutT t k).first.toArray⟩) ∧ W'.cell? ⟨b4, 4, none⟩ = some (.slice ac (cutT t k).chain.length kc) ∧ W'.cell? ⟨b5, 0, none⟩ = some (.string ⟨x.nk.toArray⟩) ∧ W'.cell? ⟨b5, 1, none⟩ = some (.slice sa x.sig.length sc)) hmx ?_
          change Held _ _ _ _ _ _ 16 (Array.replicate 16 false) _ _
          refine hd_take 0 (v := .agg #[.int .i64 (cutT t k).serial, .int .i64 (cutT t k).shw, .int .i64 (cutT t k).place, .string ⟨(cutT t k).first.toArray⟩, .slice ac (cutT t k).chain.length kc]) rfl (by kernel_rfl) (by kernel_rfl) (by kernel_rfl) rfl hSr0 (fun W' hS => by obtain ⟨s0, s1, s2, s3, s4, s5, s6⟩ := hS; go_simp) rfl ?_
          refine hd_take 1 (v := .pointer (some ⟨b5, 0, none⟩)) rfl (by kernel_rfl) (by kernel_rfl) (by kernel_rfl) rfl hSr0 (fun W' hS => by go_simp) rfl ?_
          try simp only [Act.put, List.setIfInBounds_toArray, List.set_cons_zero, List.set_cons_succ]
          refine hd_take 2 (v := .string ⟨x.nk.toArray⟩) rfl (by kernel_rfl) (by kernel_rfl) (by kernel_rfl) rfl hSr0 (fun W' hS => by obtain ⟨s0, s1, s2, s3, s4, s5, s6⟩ := hS; go_simp) rfl ?_
          try simp only [Act.put, List.setIfInBounds_toArray, List.set_cons_zero, List.set_cons_succ]
          refine hd_one 3 (by kernel_rfl) rfl (by kernel_rfl) rfl (fun K' hK => ?_)
          go_simp
          refine (rused30_any _ (cutT t k) x.nk W5.drew ⟨_, rfl, HCC.out.fr gr0⟩).mono ?_
          rintro e yr1 ⟨rfl, hbb⟩
          have gr1 : Fr [] W5 yr1 := gr0.below hbb gr0.size
          clear hbb
          have hSr1 : yr1.cell? ⟨b4, 0, none⟩ = some (.int .i64 (cutT t k).serial) ∧ yr1.cell? ⟨b4, 1, none⟩ = some (.int .i64 (cutT t k).shw) ∧ yr1.cell? ⟨b4, 2, none⟩ = some (.int .i64 (cutT t k).place) ∧ yr1.cell? ⟨b4, 3, none⟩ = some (.string ⟨(cutT t k).first.toArray⟩) ∧ yr1.cell? ⟨b4, 4, none⟩ = some (.slice ac (cutT t k).chain.length kc) ∧ yr1.cell? ⟨b5, 0, none⟩ = some (.string ⟨x.nk.toArray⟩) ∧ yr1.cell? ⟨b5, 1, none⟩ = some (.slice sa x.sig.length sc) := ⟨gr1.cell c0 (by simp), gr1.cell c1 (by simp), gr1.cell c2 (by simp), gr1.cell c3 (by simp), gr1.cell c4 (by simp), gr1.cell d0 (by simp), gr1.cell d1 (by simp)⟩
          refine hK.out _ _ (fun _ => hSr1) ?_
          clear hK K'
          try simp only [Act.put, List.setIfInBounds_toArray, List.set_cons_zero, List.set_cons_succ]
          rw [HU0.out]
          refine hd_take 4 (v := .bool false) rfl (by kernel_rfl) (by kernel_rfl) (by kernel_rfl) rfl hSr1 (fun W' hS => by go_simp) rfl ?_
          try simp only [Act.put, List.setIfInBounds_toArray, List.set_cons_zero, List.set_cons_succ]
          refine hd_take 5 (v := .agg #[.int .i64 (cutT t k).serial, .int .i64 (cutT t k).shw, .int .i64 (cutT t k).place, .string ⟨(cutT t k).first.toArray⟩, .slice ac (cutT t k).chain.length kc]) rfl (by kernel_rfl) (by kernel_rfl) (by kernel_rfl) rfl hSr1 (fun W' hS => by obtain ⟨s0, s1, s2, s3, s4, s5, s6⟩ := hS; go_simp) rfl ?_
          refine hd_take 7 (v := .agg #[.int .i64 (cutT t k).serial, .int .i64 (cutT t k).shw, .int .i64 (cutT t k).place, .string ⟨(cutT t k).first.toArray⟩, .slice ac (cutT t k).chain.length kc]) rfl (by kernel_rfl) (by kernel_rfl) (by kernel_rfl) rfl hSr1 (fun W' hS => by obtain ⟨s0, s1, s2, s3, s4, s5, s6⟩ := hS; go_simp) rfl ?_
          refine hd_take 8 (v := .pointer (some ⟨b5, 0, none⟩)) rfl (by kernel_rfl) (by kernel_rfl) (by kernel_rfl) rfl hSr1 (fun W' hS => by go_simp) rfl ?_
          refine hd_take 11 (v := .pointer (some ⟨b5, 1, none⟩)) rfl (by kernel_rfl) (by kernel_rfl) (by kernel_rfl) rfl hSr1 (fun W' hS => by go_simp) rfl ?_
          try simp only [Act.put, List.setIfInBounds_toArray, List.set_cons_zero, List.set_cons_succ]
          refine hd_take 9 (v := .string ⟨x.nk.toArray⟩) rfl (by kernel_rfl) (by kernel_rfl) (by kernel_rfl) rfl hSr1 (fun W' hS => by obtain ⟨s0, s1, s2, s3, s4, s5, s6⟩ := hS; go_simp) rfl ?_
          refine hd_take 12 (v := .slice sa x.sig.length sc) rfl (by kernel_rfl) (by kernel_rfl) (by kernel_rfl) rfl hSr1 (fun W' hS => by obtain ⟨s0, s1, s2, s3, s4, s5, s6⟩ := hS; go_simp) rfl ?_
          try simp only [Act.put, List.setIfInBounds_toArray, List.set_cons_zero, List.set_cons_succ]
          refine hd_one 6 (by kernel_rfl) rfl (by kernel_rfl) rfl (fun K' hK => ?_)
          go_simp
          refine (rowner30_any _ (cutT t k) yr1 ⟨_, rfl, HCC.out.fr gr1⟩).mono ?_
          rintro e yr2 ⟨rfl, hbb⟩
          have gr2 : Fr [] W5 yr2 := gr1.below hbb gr1.size
          clear hbb
          have hSr2 : yr2.cell? ⟨b4, 0, none⟩ = some (.int .i64 (cutT t k).serial) ∧ yr2.cell? ⟨b4, 1, none⟩ = some (.int .i64 (cutT t k).shw) ∧ yr2.cell? ⟨b4, 2, none⟩ = some (.int .i64 (cutT t k).place) ∧ yr2.cell? ⟨b4, 3, none⟩ = some (.string ⟨(cutT t k).first.toArray⟩) ∧ yr2.cell? ⟨b4, 4, none⟩ = some (.slice ac (cutT t k).chain.length kc) ∧ yr2.cell? ⟨b5, 0, none⟩ = some (.string ⟨x.nk.toArray⟩) ∧ yr2.cell? ⟨b5, 1, none⟩ = some (.slice sa x.sig.length sc) := ⟨gr2.cell c0 (by simp), gr2.cell c1 (by simp), gr2.cell c2 (by simp), gr2.cell c3 (by simp), gr2.cell c4 (by simp), gr2.cell d0 (by simp), gr2.cell d1 (by simp)⟩
          refine hK.out _ _ (fun _ => hSr2) ?_
          clear hK K'
          try simp only [Act.put, List.setIfInBounds_toArray, List.set_cons_zero, List.set_cons_succ]
          obtain ⟨ow, how⟩ : ∃ q, q = ownerT (cutT t k) := ⟨_, rfl⟩
          rw [← how]
          have HOW := Lib.hid how
          clear how
          refine hd_one 10 (by kernel_rfl) rfl (by kernel_rfl) rfl (fun K' hK => ?_)
          go_simp
          refine (rmessage30_any _ (cutT t k) x.nk yr2 ⟨_, rfl, HCC.out.fr gr2⟩ (HS.out.cut k) HXN.out).mono ?_
          rintro e yr3 ⟨rfl, hbb⟩
          have gr3 : Fr [] W5 yr3 := gr2.below hbb gr2.size
          clear hbb
          have hSr3 : yr3.cell? ⟨b4, 0, none⟩ = some (.int .i64 (cutT t k).serial) ∧ yr3.cell? ⟨b4, 1, none⟩ = some (.int .i64 (cutT t k).shw) ∧ yr3.cell? ⟨b4, 2, none⟩ = some (.int .i64 (cutT t k).place) ∧ yr3.cell? ⟨b4, 3, none⟩ = some (.string ⟨(cutT t k).first.toArray⟩) ∧ yr3.cell? ⟨b4, 4, none⟩ = some (.slice ac (cutT t k).chain.length kc) ∧ yr3.cell? ⟨b5, 0, none⟩ = some (.string ⟨x.nk.toArray⟩) ∧ yr3.cell? ⟨b5, 1, none⟩ = some (.slice sa x.sig.length sc) := ⟨gr3.cell c0 (by simp), gr3.cell c1 (by simp), gr3.cell c2 (by simp), gr3.cell c3 (by simp), gr3.cell c4 (by simp), gr3.cell d0 (by simp), gr3.cell d1 (by simp)⟩
          refine hK.out _ _ (fun _ => hSr3) ?_
          clear hK K'
          try simp only [Act.put, List.setIfInBounds_toArray, List.set_cons_zero, List.set_cons_succ]
          obtain ⟨ms, hms⟩ : ∃ q, q = msgT (cutT t k) x.nk := ⟨_, rfl⟩
          rw [← hms]
          have HMS := Lib.hid hms
          clear hms
          refine hd_one 13 (by kernel_rfl) rfl (by kernel_rfl) rfl (fun K' hK => ?_)
          go_simp
          refine (rverify_any ow ms _ x.sig yr3 (by rw [HMS.out]; exact msgT_len _ _) HXS.out (HSG.out.fr0 gr3)).mono ?_
          rintro e yr4 ⟨rfl, hbb⟩
          have gr4 : Fr [] W5 yr4 := gr3.below hbb gr3.size
          clear hbb
          have hSr4 : yr4.cell? ⟨b4, 0, none⟩ = some (.int .i64 (cutT t k).serial) ∧ yr4.cell? ⟨b4, 1, none⟩ = some (.int .i64 (cutT t k).shw) ∧ yr4.cell? ⟨b4, 2, none⟩ = some (.int .i64 (cutT t k).place) ∧ yr4.cell? ⟨b4, 3, none⟩ = some (.string ⟨(cutT t k).first.toArray⟩) ∧ yr4.cell? ⟨b4, 4, none⟩ = some (.slice ac (cutT t k).chain.length kc) ∧ yr4.cell? ⟨b5, 0, none⟩ = some (.string ⟨x.nk.toArray⟩) ∧ yr4.cell? ⟨b5, 1, none⟩ = some (.slice sa x.sig.length sc) := ⟨gr4.cell c0 (by simp), gr4.cell c1 (by simp), gr4.cell c2 (by simp), gr4.cell c3 (by simp), gr4.cell c4 (by simp), gr4.cell d0 (by simp), gr4.cell d1 (by simp)⟩
          refine hK.out _ _ (fun _ => hSr4) ?_
          clear hK K'
          try simp only [Act.put, List.setIfInBounds_toArray, List.set_cons_zero, List.set_cons_succ]
          obtain ⟨vq, hvq⟩ : ∃ q, q = verifyS ow ms x.sig := ⟨_, rfl⟩
          rw [← hvq]
          have HVQ := Lib.hid hvq
          clear hvq
          refine hd_take 14 (v := .bool (!vq)) rfl (by kernel_rfl) (by kernel_rfl) (by kernel_rfl) rfl hSr4 (fun W' hS => by go_simp) rfl ?_
          try simp only [Act.put, List.setIfInBounds_toArray, List.set_cons_zero, List.set_cons_succ]
          refine hd_take 15 (v := .bool (!vq)) rfl (by kernel_rfl) (by kernel_rfl) (by kernel_rfl) rfl hSr4 (fun W' hS => by go_simp) rfl ?_
          try simp only [Act.put, List.setIfInBounds_toArray, List.set_cons_zero, List.set_cons_succ]
          refine held_done (by kernel_rfl) ?_
          have HSV : Hid (stepT t k = vq) := Lib.hid (by rw [HST.out, HU0.out, ← HOW.out, ← HMS.out, ← HVQ.out]; simp)
          have fe := fw5.trans gr4 (by simp)
          cases vq with
          | false =>
            have HX : Hid (r = false) := Lib.hid (by
              rw [HR.out]
              exact List.all_eq_false.2 ⟨k, List.mem_range.2 HLT.out, by rw [HSV.out]; simp⟩)
            simp only [Bool.not_false]
            go_wp2_with fail
            go_ret
            exact ⟨by rw [HX.out]; rfl, (hw.trans fe (by simp)).toBelow (by simp)⟩
          | true =>
            simp only [Bool.not_true]
            go_wp2_with fail
            go_roundg (t.chain.length - (k + 1))
            case measure => have := HG.out; omega
            case rel =>
              refine ⟨k + 1, HLT.out, rfl, by go_num, fun j hj => ?_, hfr.trans fe (by simp)⟩
              by_cases hjk : j < k
              · exact HA.out j hjk
              · obtain rfl : j = k := by omega
                exact HSV.out
      · obtain rfl : k = t.chain.length := by omega
        have t1 : decide ((t.chain.length : Int) < (t.chain.length : Int)) = false := by simp
        have HX : Hid (r = true) := Lib.hid (by
          rw [HR.out]
          exact List.all_eq_true.2 fun j hj => HA.out j (List.mem_range.1 hj))
        go_wp2_with fail
        go_ret
        exact ⟨by rw [HX.out]; rfl, hw.toBelow (by simp)⟩
end Go.Proofs.YtcblpfepkkkilaaGreatDoor
