/-
  foyerlaw30.TitlePasses.
-/
import Derived.Test.YtennhdgnpodkaaaGreatDoorLxE
import Derived.Test.YtennhdgnpodkaaaGreatDoorRtC
namespace Go.Proofs.YtennhdgnpodkaaaGreatDoor
open Go.RowKit

/-- What Pass answers, plainly. -/
theorem passR_cases (t : Ttl) (tk se : List UInt8) : (∃ x, passR t tk se = (x, 0) ∧ passT t tk se = .inl x ∧ validT t = true ∧ validT x = true ∧ ownerT x = tk ∧ extT x t = true ∧ extT t x = false ∧ x.chain.length = t.chain.length + 1 ∧ x.place = t.place ∧ publicS se = ownerT t ∧ x.chain.length ≤ 50) ∨
    (∃ e, passR t tk se = (zeroTtl, e) ∧ e ≠ 0 ∧ (validT t = false → e = 1)) := by
  cases h : passT t tk se with
  | inl x =>
    left
    have hv := passT_valid h
    obtain ⟨h1, h2, h3, h4, h5, h6⟩ := passT_ok h
    have hx : x.chain.length = t.chain.length + 1 := by rw [h6]; simp
    refine ⟨x, by unfold passR; rw [h], rfl, h1, hv, by rw [h6, ownerT_snoc], ?_, ?_, hx, by rw [h6], h5, ?_⟩
    · rw [h6]
      refine (extT_iff _ _).2 ⟨rfl, rfl, rfl, ?_⟩
      simp
    · rw [Bool.eq_false_iff]
      intro he
      have := extT_len he
      omega
    · unfold validT at hv
      rw [Bool.and_eq_true] at hv
      exact (formedT_parts hv.1).2.2.2.2.1
  | inr e =>
    right
    exact ⟨e, by unfold passR; rw [h], (passT_err h).1, (passT_err h).2⟩
set_option maxRecDepth 100000 in
set_option maxHeartbeats 8000000 in
theorem titlePasses_any (tv : Value) (t : Ttl) (tk se : List UInt8) (w : World) (hT : TabsU w) (ht : TtlR w tv t) (hnt : TNum t) :
    Calls Tryz.prog 4 #[tv, .string ⟨tk.toArray⟩, .string ⟨se.toArray⟩] w fun e w' => e = .returned (.bool true) ∧ Below w.heap.size w w' := by
  have hmx : Tryz.prog.follows .mixedOrders = true := by kernel_rfl
  obtain ⟨vt, rfl, hct⟩ := ht
  obtain ⟨a_t, kt, rfl, _, _, _⟩ := hct.form
  have HT := Lib.hid hT
  have HN := Lib.hid hnt
  clear hT hnt
  obtain ⟨W0, hW0⟩ : ∃ W0, W0 = w.alloc (.cells #[.int .i64 t.serial, .int .i64 t.shw, .int .i64 t.place, .string ⟨t.first.toArray⟩, .slice a_t t.chain.length kt] 24) := ⟨_, rfl⟩
  obtain ⟨p, ep⟩ : ∃ p, p = w.heap.size := ⟨_, rfl⟩
  have fW0 : Fr [] w W0 := by rw [hW0]; exact (Fr.refl [] w).alloc _
  have hbt : W0.heap[p]? = some (.cells #[.int .i64 t.serial, .int .i64 t.shw, .int .i64 t.place, .string ⟨t.first.toArray⟩, .slice a_t t.chain.length kt] 24 (0, 0)) := by rw [hW0]; exact heap_new ep
  have Ht := Lib.hid (hct.fr fW0)
  clear hct
  go_enter Tryz.func4, Tryz.ntmps4
  go_wp2_with fail
  rw [← hW0, ← ep]
  clear hW0 ep
  refine (head30_any W0 (HT.out.fr fW0)).mono ?_
  rintro e y1 ⟨rfl, hbb⟩
  have hf : Fr [] W0 y1 := Fr.ofBelow hbb
  have hbt := hf.at hbt (by simp)
  have Ht := Lib.hid (Ht.out.fr hf)
  have fy1 := fW0.trans hf (by simp)
  clear hbb hf fW0
  have c0 := row_cell hbt 0
  have c1 := row_cell hbt 1
  have c2 := row_cell hbt 2
  have c3 := row_cell hbt 3
  have c4 := row_cell hbt 4
  simp at c0 c1 c2 c3 c4
  go_wp2_with fail
  obtain ⟨W2, hW2⟩ : ∃ W2, W2 = (y1.alloc (.cells #[.int .i64 t.serial, .int .i64 t.shw, .int .i64 t.place, .string ⟨t.first.toArray⟩, .slice a_t t.chain.length kt] 24)).alloc (.cells #[.string ⟨tk.toArray⟩, .string ⟨se.toArray⟩] 9) := ⟨_, rfl⟩
  have hf : Fr [] y1 W2 := by rw [hW2]; exact ((Fr.refl [] y1).alloc _).alloc _
  have hbt := hf.at hbt (by simp)
  have Ht := Lib.hid (Ht.out.fr hf)
  have fW2 := fy1.trans hf (by simp)
  have hrow : W2.heap[y1.heap.size]? = some (.cells #[.int .i64 t.serial, .int .i64 t.shw, .int .i64 t.place, .string ⟨t.first.toArray⟩, .slice a_t t.chain.length kt] 24 (0, 0)) := by rw [hW2]; exact heap_past _ (heap_new rfl)
  have hstr : Strs W2 (.slice (some ⟨y1.heap.size + 1, 0, none⟩) 2 2) [tk, se] := by rw [hW2]; exact strs_two (heap_new (by simp))
  rw [← hW2]
  clear c0 c1 c2 c3 c4
  have htts : Tts W2 (.slice (some ⟨y1.heap.size, 0, none⟩) 1 1) [t] := tts_row hrow rfl (by decide) (fun i x hx => by
    match i with
    | 0 => obtain rfl : t = x := by simpa using hx
           exact ⟨rfl, rfl, rfl, rfl, a_t, kt, rfl, Ht.out⟩
    | i + 1 => simp at hx)
  have HTTS := Lib.hid (And.intro htts hstr)
  clear htts hrow hstr hW2 hf fy1
  refine (small30_any _ _ [t] [tk, se] W2 HTTS.out.1 HTTS.out.2).mono ?_
  rintro e y2 ⟨rfl, hbb⟩
  have hf : Fr [] W2 y2 := Fr.ofBelow hbb
  have hbt := hf.at hbt (by simp)
  have Ht := Lib.hid (Ht.out.fr hf)
  have fy2 := fW2.trans hf (by simp)
  clear hbb hf fW2
  clear HTTS
  obtain ⟨sm, hsm⟩ : ∃ q, q = smallT [t] [tk, se] := ⟨_, rfl⟩
  rw [← hsm]
  cases sm with
  | false =>
    clear hsm
    go_wp2_with fail
    go_ret
    exact ⟨rfl, fy2.toBelow (by simp)⟩
  | true =>
    have hsp := smallT_parts hsm.symm
    have HST := Lib.hid (fewT_small (hsp.1 t (by simp)) (by decide) HN.out)
    have HTK := Lib.hid (And.intro (hsp.2 tk (by simp)) (hsp.2 se (by simp)))
    have HC6 : Hid (t.chain.length ≤ 6) := Lib.hid (by
      have h := hsp.1 t (by simp)
      unfold fewT at h
      simp only [Bool.and_eq_true, decide_eq_true_eq] at h
      exact h.1.1)
    clear hsm hsp
    have c0 := row_cell hbt 0
    have c1 := row_cell hbt 1
    have c2 := row_cell hbt 2
    have c3 := row_cell hbt 3
    have c4 := row_cell hbt 4
    simp at c0 c1 c2 c3 c4
    go_wp2_with fail
    refine (pass_any _ t tk se y2 ⟨_, rfl, Ht.out⟩ HST.out (by have := HTK.out; omega) (by have := HTK.out; omega) (HT.out.t.fr fy2)).mono ?_
    rintro e y3 ⟨vv, rfl, hv, hbb⟩
    have hf : Fr [] y2 y3 := Fr.ofBelow hbb
    have hbt := hf.at hbt (by simp)
    have Ht := Lib.hid (Ht.out.fr hf)
    have fy3 := fy2.trans hf (by simp)
    clear hbb hf fy2
    clear c0 c1 c2 c3 c4
    have HCS := Lib.hid (passR_cases t tk se)
    obtain ⟨x, er, hxe⟩ : ∃ x er, passR t tk se = (x, er) := ⟨_, _, rfl⟩
    rw [hxe] at hv ⊢
    obtain ⟨vx, rfl, hcx⟩ := hv
    obtain ⟨ax, kx, rfl, _, _, _⟩ := hcx.form
    have Hx := Lib.hid hcx
    clear hcx
    obtain ⟨W4, hW4⟩ : ∃ W4, W4 = y3.alloc (.cells #[.int .i64 x.serial, .int .i64 x.shw, .int .i64 x.place, .string ⟨x.first.toArray⟩, .slice ax x.chain.length kx] 24) := ⟨_, rfl⟩
    obtain ⟨b, eb⟩ : ∃ b, b = y3.heap.size := ⟨_, rfl⟩
    have hf : Fr [] y3 W4 := by rw [hW4]; exact (Fr.refl [] y3).alloc _
    have hbt := hf.at hbt (by simp)
    have Ht := Lib.hid (Ht.out.fr hf)
    have Hx := Lib.hid (Hx.out.fr hf)
    have fW4 := fy3.trans hf (by simp)
    have hbx : W4.heap[b]? = some (.cells #[.int .i64 x.serial, .int .i64 x.shw, .int .i64 x.place, .string ⟨x.first.toArray⟩, .slice ax x.chain.length kx] 24 (0, 0)) := by rw [hW4]; exact heap_new eb
    go_wp2_with fail
    rw [← eb, ← hW4]
    clear hf hW4 eb fy3
    have c0 := row_cell hbt 0
    have c1 := row_cell hbt 1
    have c2 := row_cell hbt 2
    have c3 := row_cell hbt 3
    have c4 := row_cell hbt 4
    simp at c0 c1 c2 c3 c4
    have x0 := row_cell hbx 0
    have x1 := row_cell hbx 1
    have x2 := row_cell hbx 2
    have x3 := row_cell hbx 3
    have x4 := row_cell hbx 4
    simp at x0 x1 x2 x3 x4
    rcases HCS.out with ⟨x2, h1, h2, h3, h4, h5, h6, h7, h8, h9, h10, h11⟩ | ⟨e2, h1, h2, h3⟩
    · obtain ⟨rfl, rfl⟩ : x = x2 ∧ er = 0 := by rw [hxe] at h1; exact Prod.mk.inj h1
      have HE := Lib.hid (And.intro h3 (And.intro h4 (And.intro h5 (And.intro h6 (And.intro h7 h10)))))
      have HV := Lib.hid h3
      have HLX := Lib.hid (And.intro h8 h9)
      have HSX : Hid (TSmall x) := Lib.hid (by
        obtain ⟨_, _, _, _, _, h6⟩ := passT_ok h2
        rw [h6]
        refine ⟨⟨HN.out.s, HN.out.h, HN.out.p⟩, HST.out.f, by simp only [List.length_append, List.length_singleton]; have := HC6.out; omega, fun y hy => ?_⟩
        rcases List.mem_append.1 hy with hy | hy
        · exact HST.out.c y hy
        · rw [List.mem_singleton.1 hy]
          refine ⟨by have := HTK.out; simp only; omega, by rw [sigS_length]; decide, fun s hs => ?_⟩
          rw [isD_16 (List.all_eq_true.1 (sigS_isD _ _) s hs)]; decide)
      have u8 : ((x.chain.length : Int) != (t.chain.length : Int) + 1) = false := by rw [h8]; simp
      have u9 : (x.place != t.place) = false := by rw [h9]; simp
      have hc6 := HC6.out
      have hwr : IntKind.i64.wrap ((t.chain.length : Int) + 1) = (t.chain.length : Int) + 1 := by rw [IntWalk.i64_in _ (by omega)]
      clear h1 h2 h3 h4 h5 h6 h7 h8 h9 h10 h11 hxe HCS
      have gr0 : Fr [] W4 W4.drew := (Fr.refl [] W4).drew
      have hSr0 : W4.drew.cell? ⟨p, 0, none⟩ = some (.int .i64 t.serial) ∧ W4.drew.cell? ⟨p, 1, none⟩ = some (.int .i64 t.shw) ∧ W4.drew.cell? ⟨p, 2, none⟩ = some (.int .i64 t.place) ∧ W4.drew.cell? ⟨p, 3, none⟩ = some (.string ⟨t.first.toArray⟩) ∧ W4.drew.cell? ⟨p, 4, none⟩ = some (.slice a_t t.chain.length kt) ∧ W4.drew.cell? ⟨b, 0, none⟩ = some (.int .i64 x.serial) ∧ W4.drew.cell? ⟨b, 1, none⟩ = some (.int .i64 x.shw) ∧ W4.drew.cell? ⟨b, 2, none⟩ = some (.int .i64 x.place) ∧ W4.drew.cell? ⟨b, 3, none⟩ = some (.string ⟨x.first.toArray⟩) ∧ W4.drew.cell? ⟨b, 4, none⟩ = some (.slice ax x.chain.length kx) := ⟨gr0.cell c0 (by simp), gr0.cell c1 (by simp), gr0.cell c2 (by simp), gr0.cell c3 (by simp), gr0.cell c4 (by simp), gr0.cell x0 (by simp), gr0.cell x1 (by simp), gr0.cell x2 (by simp), gr0.cell x3 (by simp), gr0.cell x4 (by simp)⟩
      refine region_held 100 (fun W' => W'.cell? ⟨p, 0, none⟩ = some (.int .i64 t.serial) ∧ W'.cell? ⟨p, 1, none⟩ = some (.int .i64 t.shw) ∧ W'.cell? ⟨p, 2, none⟩ = some (.int .i64 t.place) ∧ W'.cell? ⟨p, 3, none⟩ = some (.string ⟨t.first.toArray⟩) ∧ W'.cell? ⟨p, 4, none⟩ = some (.slice a_t t.chain.length kt) ∧ W'.cell? ⟨b, 0, none⟩ = some (.int .i64 x.serial) ∧ W'.cell? ⟨b, 1, none⟩ = some (.int .i64 x.shw) ∧ W'.cell? ⟨b, 2, none⟩ = some (.int .i64 x.place) ∧ W'.cell? ⟨b, 3, none⟩ = some (.string ⟨x.first.toArray⟩) ∧ W'.cell? ⟨b, 4, none⟩ = some (.slice ax x.chain.length kx)) hmx ?_
      change Held _ _ _ _ _ _ 53 (Array.replicate 53 false) _ _
      refine hd_take 0 (v := .int .i64 0) rfl (by kernel_rfl) (by kernel_rfl) (by kernel_rfl) rfl hSr0 (fun W' hS => by go_simp) rfl ?_
      try simp only [Act.put, List.setIfInBounds_toArray, List.set_cons_zero, List.set_cons_succ]
      refine hd_take 1 (v := .bool true) rfl (by kernel_rfl) (by kernel_rfl) (by kernel_rfl) rfl hSr0 (fun W' hS => by go_simp) rfl ?_
      try simp only [Act.put, List.setIfInBounds_toArray, List.set_cons_zero, List.set_cons_succ]
      refine hd_take 2 (v := .bool true) rfl (by kernel_rfl) (by kernel_rfl) (by kernel_rfl) rfl hSr0 (fun W' hS => by go_simp) rfl ?_
      try simp only [Act.put, List.setIfInBounds_toArray, List.set_cons_zero, List.set_cons_succ]
      refine hd_take 3 (v := .agg #[.int .i64 t.serial, .int .i64 t.shw, .int .i64 t.place, .string ⟨t.first.toArray⟩, .slice a_t t.chain.length kt]) rfl (by kernel_rfl) (by kernel_rfl) (by kernel_rfl) rfl hSr0 (fun W' hS => by obtain ⟨s0, s1, s2, s3, s4, s5, s6, s7, s8, s9⟩ := hS; go_simp) rfl ?_
      try simp only [Act.put, List.setIfInBounds_toArray, List.set_cons_zero, List.set_cons_succ]
      refine hd_one 4 (by kernel_rfl) rfl (by kernel_rfl) rfl (fun K' hK => ?_)
      go_simp
      refine (valid30_any _ t W4.drew ⟨_, rfl, Ht.out.fr gr0⟩ HST.out (HT.out.t.fr (fW4.trans gr0 (by simp)))).mono ?_
      rintro e yr1 ⟨rfl, hbb⟩
      have gr1 : Fr [] W4 yr1 := gr0.below hbb gr0.size
      clear hbb
      have hSr1 : yr1.cell? ⟨p, 0, none⟩ = some (.int .i64 t.serial) ∧ yr1.cell? ⟨p, 1, none⟩ = some (.int .i64 t.shw) ∧ yr1.cell? ⟨p, 2, none⟩ = some (.int .i64 t.place) ∧ yr1.cell? ⟨p, 3, none⟩ = some (.string ⟨t.first.toArray⟩) ∧ yr1.cell? ⟨p, 4, none⟩ = some (.slice a_t t.chain.length kt) ∧ yr1.cell? ⟨b, 0, none⟩ = some (.int .i64 x.serial) ∧ yr1.cell? ⟨b, 1, none⟩ = some (.int .i64 x.shw) ∧ yr1.cell? ⟨b, 2, none⟩ = some (.int .i64 x.place) ∧ yr1.cell? ⟨b, 3, none⟩ = some (.string ⟨x.first.toArray⟩) ∧ yr1.cell? ⟨b, 4, none⟩ = some (.slice ax x.chain.length kx) := ⟨gr1.cell c0 (by simp), gr1.cell c1 (by simp), gr1.cell c2 (by simp), gr1.cell c3 (by simp), gr1.cell c4 (by simp), gr1.cell x0 (by simp), gr1.cell x1 (by simp), gr1.cell x2 (by simp), gr1.cell x3 (by simp), gr1.cell x4 (by simp)⟩
      refine hK.out _ _ (fun _ => hSr1) ?_
      clear hK K'
      try simp only [Act.put, List.setIfInBounds_toArray, List.set_cons_zero, List.set_cons_succ]
      rw [HE.out.1]
      refine hd_take 5 (v := .bool false) rfl (by kernel_rfl) (by kernel_rfl) (by kernel_rfl) rfl hSr1 (fun W' hS => by go_simp) rfl ?_
      try simp only [Act.put, List.setIfInBounds_toArray, List.set_cons_zero, List.set_cons_succ]
      refine hd_take 6 (v := .bool false) rfl (by kernel_rfl) (by kernel_rfl) (by kernel_rfl) rfl hSr1 (fun W' hS => by go_simp) rfl ?_
      try simp only [Act.put, List.setIfInBounds_toArray, List.set_cons_zero, List.set_cons_succ]
      refine hd_take 7 (v := .agg #[.int .i64 x.serial, .int .i64 x.shw, .int .i64 x.place, .string ⟨x.first.toArray⟩, .slice ax x.chain.length kx]) rfl (by kernel_rfl) (by kernel_rfl) (by kernel_rfl) rfl hSr1 (fun W' hS => by obtain ⟨s0, s1, s2, s3, s4, s5, s6, s7, s8, s9⟩ := hS; go_simp) rfl ?_
      try simp only [Act.put, List.setIfInBounds_toArray, List.set_cons_zero, List.set_cons_succ]
      refine hd_one 8 (by kernel_rfl) rfl (by kernel_rfl) rfl (fun K' hK => ?_)
      go_simp
      refine (valid30_any _ x yr1 ⟨_, rfl, Hx.out.fr gr1⟩ HSX.out (HT.out.t.fr (fW4.trans gr1 (by simp)))).mono ?_
      rintro e yr2 ⟨rfl, hbb⟩
      have gr2 : Fr [] W4 yr2 := gr1.below hbb gr1.size
      clear hbb
      have hSr2 : yr2.cell? ⟨p, 0, none⟩ = some (.int .i64 t.serial) ∧ yr2.cell? ⟨p, 1, none⟩ = some (.int .i64 t.shw) ∧ yr2.cell? ⟨p, 2, none⟩ = some (.int .i64 t.place) ∧ yr2.cell? ⟨p, 3, none⟩ = some (.string ⟨t.first.toArray⟩) ∧ yr2.cell? ⟨p, 4, none⟩ = some (.slice a_t t.chain.length kt) ∧ yr2.cell? ⟨b, 0, none⟩ = some (.int .i64 x.serial) ∧ yr2.cell? ⟨b, 1, none⟩ = some (.int .i64 x.shw) ∧ yr2.cell? ⟨b, 2, none⟩ = some (.int .i64 x.place) ∧ yr2.cell? ⟨b, 3, none⟩ = some (.string ⟨x.first.toArray⟩) ∧ yr2.cell? ⟨b, 4, none⟩ = some (.slice ax x.chain.length kx) := ⟨gr2.cell c0 (by simp), gr2.cell c1 (by simp), gr2.cell c2 (by simp), gr2.cell c3 (by simp), gr2.cell c4 (by simp), gr2.cell x0 (by simp), gr2.cell x1 (by simp), gr2.cell x2 (by simp), gr2.cell x3 (by simp), gr2.cell x4 (by simp)⟩
      refine hK.out _ _ (fun _ => hSr2) ?_
      clear hK K'
      try simp only [Act.put, List.setIfInBounds_toArray, List.set_cons_zero, List.set_cons_succ]
      rw [HE.out.2.1]
      refine hd_take 9 (v := .bool false) rfl (by kernel_rfl) (by kernel_rfl) (by kernel_rfl) rfl hSr2 (fun W' hS => by go_simp) rfl ?_
      try simp only [Act.put, List.setIfInBounds_toArray, List.set_cons_zero, List.set_cons_succ]
      refine hd_take 10 (v := .bool false) rfl (by kernel_rfl) (by kernel_rfl) (by kernel_rfl) rfl hSr2 (fun W' hS => by go_simp) rfl ?_
      try simp only [Act.put, List.setIfInBounds_toArray, List.set_cons_zero, List.set_cons_succ]
      refine hd_take 11 (v := .bool false) rfl (by kernel_rfl) (by kernel_rfl) (by kernel_rfl) rfl hSr2 (fun W' hS => by go_simp) rfl ?_
      try simp only [Act.put, List.setIfInBounds_toArray, List.set_cons_zero, List.set_cons_succ]
      refine hd_take 12 (v := .agg #[.int .i64 x.serial, .int .i64 x.shw, .int .i64 x.place, .string ⟨x.first.toArray⟩, .slice ax x.chain.length kx]) rfl (by kernel_rfl) (by kernel_rfl) (by kernel_rfl) rfl hSr2 (fun W' hS => by obtain ⟨s0, s1, s2, s3, s4, s5, s6, s7, s8, s9⟩ := hS; go_simp) rfl ?_
      refine hd_take 14 (v := .string ⟨tk.toArray⟩) rfl (by kernel_rfl) (by kernel_rfl) (by kernel_rfl) rfl hSr2 (fun W' hS => by go_simp) rfl ?_
      try simp only [Act.put, List.setIfInBounds_toArray, List.set_cons_zero, List.set_cons_succ]
      refine hd_one 13 (by kernel_rfl) rfl (by kernel_rfl) rfl (fun K' hK => ?_)
      go_simp
      refine (owner_any _ x yr2 ⟨_, rfl, Hx.out.fr gr2⟩).mono ?_
      rintro e yr3 ⟨rfl, hbb⟩
      have gr3 : Fr [] W4 yr3 := gr2.below hbb gr2.size
      clear hbb
      have hSr3 : yr3.cell? ⟨p, 0, none⟩ = some (.int .i64 t.serial) ∧ yr3.cell? ⟨p, 1, none⟩ = some (.int .i64 t.shw) ∧ yr3.cell? ⟨p, 2, none⟩ = some (.int .i64 t.place) ∧ yr3.cell? ⟨p, 3, none⟩ = some (.string ⟨t.first.toArray⟩) ∧ yr3.cell? ⟨p, 4, none⟩ = some (.slice a_t t.chain.length kt) ∧ yr3.cell? ⟨b, 0, none⟩ = some (.int .i64 x.serial) ∧ yr3.cell? ⟨b, 1, none⟩ = some (.int .i64 x.shw) ∧ yr3.cell? ⟨b, 2, none⟩ = some (.int .i64 x.place) ∧ yr3.cell? ⟨b, 3, none⟩ = some (.string ⟨x.first.toArray⟩) ∧ yr3.cell? ⟨b, 4, none⟩ = some (.slice ax x.chain.length kx) := ⟨gr3.cell c0 (by simp), gr3.cell c1 (by simp), gr3.cell c2 (by simp), gr3.cell c3 (by simp), gr3.cell c4 (by simp), gr3.cell x0 (by simp), gr3.cell x1 (by simp), gr3.cell x2 (by simp), gr3.cell x3 (by simp), gr3.cell x4 (by simp)⟩
      refine hK.out _ _ (fun _ => hSr3) ?_
      clear hK K'
      try simp only [Act.put, List.setIfInBounds_toArray, List.set_cons_zero, List.set_cons_succ]
      rw [HE.out.2.2.1]
      refine hd_take 15 (v := .bool false) rfl (by kernel_rfl) (by kernel_rfl) (by kernel_rfl) rfl hSr3 (fun W' hS => by go_simp) rfl ?_
      try simp only [Act.put, List.setIfInBounds_toArray, List.set_cons_zero, List.set_cons_succ]
      refine hd_take 16 (v := .bool false) rfl (by kernel_rfl) (by kernel_rfl) (by kernel_rfl) rfl hSr3 (fun W' hS => by go_simp) rfl ?_
      try simp only [Act.put, List.setIfInBounds_toArray, List.set_cons_zero, List.set_cons_succ]
      refine hd_take 17 (v := .bool false) rfl (by kernel_rfl) (by kernel_rfl) (by kernel_rfl) rfl hSr3 (fun W' hS => by go_simp) rfl ?_
      try simp only [Act.put, List.setIfInBounds_toArray, List.set_cons_zero, List.set_cons_succ]
      refine hd_take 18 (v := .agg #[.int .i64 x.serial, .int .i64 x.shw, .int .i64 x.place, .string ⟨x.first.toArray⟩, .slice ax x.chain.length kx]) rfl (by kernel_rfl) (by kernel_rfl) (by kernel_rfl) rfl hSr3 (fun W' hS => by obtain ⟨s0, s1, s2, s3, s4, s5, s6, s7, s8, s9⟩ := hS; go_simp) rfl ?_
      refine hd_take 19 (v := .agg #[.int .i64 t.serial, .int .i64 t.shw, .int .i64 t.place, .string ⟨t.first.toArray⟩, .slice a_t t.chain.length kt]) rfl (by kernel_rfl) (by kernel_rfl) (by kernel_rfl) rfl hSr3 (fun W' hS => by obtain ⟨s0, s1, s2, s3, s4, s5, s6, s7, s8, s9⟩ := hS; go_simp) rfl ?_
      try simp only [Act.put, List.setIfInBounds_toArray, List.set_cons_zero, List.set_cons_succ]
      refine hd_one 20 (by kernel_rfl) rfl (by kernel_rfl) rfl (fun K' hK => ?_)
      go_simp
      refine (extends_any _ _ x t yr3 ⟨_, rfl, Hx.out.fr gr3⟩ ⟨_, rfl, Ht.out.fr gr3⟩ HSX.out.toTNum HN.out (HT.out.t.fr (fW4.trans gr3 (by simp)))).mono ?_
      rintro e yr4 ⟨rfl, hbb⟩
      have gr4 : Fr [] W4 yr4 := gr3.below hbb gr3.size
      clear hbb
      have hSr4 : yr4.cell? ⟨p, 0, none⟩ = some (.int .i64 t.serial) ∧ yr4.cell? ⟨p, 1, none⟩ = some (.int .i64 t.shw) ∧ yr4.cell? ⟨p, 2, none⟩ = some (.int .i64 t.place) ∧ yr4.cell? ⟨p, 3, none⟩ = some (.string ⟨t.first.toArray⟩) ∧ yr4.cell? ⟨p, 4, none⟩ = some (.slice a_t t.chain.length kt) ∧ yr4.cell? ⟨b, 0, none⟩ = some (.int .i64 x.serial) ∧ yr4.cell? ⟨b, 1, none⟩ = some (.int .i64 x.shw) ∧ yr4.cell? ⟨b, 2, none⟩ = some (.int .i64 x.place) ∧ yr4.cell? ⟨b, 3, none⟩ = some (.string ⟨x.first.toArray⟩) ∧ yr4.cell? ⟨b, 4, none⟩ = some (.slice ax x.chain.length kx) := ⟨gr4.cell c0 (by simp), gr4.cell c1 (by simp), gr4.cell c2 (by simp), gr4.cell c3 (by simp), gr4.cell c4 (by simp), gr4.cell x0 (by simp), gr4.cell x1 (by simp), gr4.cell x2 (by simp), gr4.cell x3 (by simp), gr4.cell x4 (by simp)⟩
      refine hK.out _ _ (fun _ => hSr4) ?_
      clear hK K'
      try simp only [Act.put, List.setIfInBounds_toArray, List.set_cons_zero, List.set_cons_succ]
      rw [HE.out.2.2.2.1]
      refine hd_take 21 (v := .bool false) rfl (by kernel_rfl) (by kernel_rfl) (by kernel_rfl) rfl hSr4 (fun W' hS => by go_simp) rfl ?_
      try simp only [Act.put, List.setIfInBounds_toArray, List.set_cons_zero, List.set_cons_succ]
      refine hd_take 22 (v := .bool false) rfl (by kernel_rfl) (by kernel_rfl) (by kernel_rfl) rfl hSr4 (fun W' hS => by go_simp) rfl ?_
      try simp only [Act.put, List.setIfInBounds_toArray, List.set_cons_zero, List.set_cons_succ]
      refine hd_take 23 (v := .bool false) rfl (by kernel_rfl) (by kernel_rfl) (by kernel_rfl) rfl hSr4 (fun W' hS => by go_simp) rfl ?_
      try simp only [Act.put, List.setIfInBounds_toArray, List.set_cons_zero, List.set_cons_succ]
      refine hd_take 24 (v := .agg #[.int .i64 t.serial, .int .i64 t.shw, .int .i64 t.place, .string ⟨t.first.toArray⟩, .slice a_t t.chain.length kt]) rfl (by kernel_rfl) (by kernel_rfl) (by kernel_rfl) rfl hSr4 (fun W' hS => by obtain ⟨s0, s1, s2, s3, s4, s5, s6, s7, s8, s9⟩ := hS; go_simp) rfl ?_
      refine hd_take 25 (v := .agg #[.int .i64 x.serial, .int .i64 x.shw, .int .i64 x.place, .string ⟨x.first.toArray⟩, .slice ax x.chain.length kx]) rfl (by kernel_rfl) (by kernel_rfl) (by kernel_rfl) rfl hSr4 (fun W' hS => by obtain ⟨s0, s1, s2, s3, s4, s5, s6, s7, s8, s9⟩ := hS; go_simp) rfl ?_
      try simp only [Act.put, List.setIfInBounds_toArray, List.set_cons_zero, List.set_cons_succ]
      refine hd_one 26 (by kernel_rfl) rfl (by kernel_rfl) rfl (fun K' hK => ?_)
      go_simp
      refine (extends_any _ _ t x yr4 ⟨_, rfl, Ht.out.fr gr4⟩ ⟨_, rfl, Hx.out.fr gr4⟩ HN.out HSX.out.toTNum (HT.out.t.fr (fW4.trans gr4 (by simp)))).mono ?_
      rintro e yr5 ⟨rfl, hbb⟩
      have gr5 : Fr [] W4 yr5 := gr4.below hbb gr4.size
      clear hbb
      have hSr5 : yr5.cell? ⟨p, 0, none⟩ = some (.int .i64 t.serial) ∧ yr5.cell? ⟨p, 1, none⟩ = some (.int .i64 t.shw) ∧ yr5.cell? ⟨p, 2, none⟩ = some (.int .i64 t.place) ∧ yr5.cell? ⟨p, 3, none⟩ = some (.string ⟨t.first.toArray⟩) ∧ yr5.cell? ⟨p, 4, none⟩ = some (.slice a_t t.chain.length kt) ∧ yr5.cell? ⟨b, 0, none⟩ = some (.int .i64 x.serial) ∧ yr5.cell? ⟨b, 1, none⟩ = some (.int .i64 x.shw) ∧ yr5.cell? ⟨b, 2, none⟩ = some (.int .i64 x.place) ∧ yr5.cell? ⟨b, 3, none⟩ = some (.string ⟨x.first.toArray⟩) ∧ yr5.cell? ⟨b, 4, none⟩ = some (.slice ax x.chain.length kx) := ⟨gr5.cell c0 (by simp), gr5.cell c1 (by simp), gr5.cell c2 (by simp), gr5.cell c3 (by simp), gr5.cell c4 (by simp), gr5.cell x0 (by simp), gr5.cell x1 (by simp), gr5.cell x2 (by simp), gr5.cell x3 (by simp), gr5.cell x4 (by simp)⟩
      refine hK.out _ _ (fun _ => hSr5) ?_
      clear hK K'
      try simp only [Act.put, List.setIfInBounds_toArray, List.set_cons_zero, List.set_cons_succ]
      rw [HE.out.2.2.2.2.1]
      refine hd_take 27 (v := .bool false) rfl (by kernel_rfl) (by kernel_rfl) (by kernel_rfl) rfl hSr5 (fun W' hS => by go_simp) rfl ?_
      try simp only [Act.put, List.setIfInBounds_toArray, List.set_cons_zero, List.set_cons_succ]
      refine hd_take 28 (v := .bool false) rfl (by kernel_rfl) (by kernel_rfl) (by kernel_rfl) rfl hSr5 (fun W' hS => by go_simp) rfl ?_
      try simp only [Act.put, List.setIfInBounds_toArray, List.set_cons_zero, List.set_cons_succ]
      refine hd_take 29 (v := .pointer (some ⟨b, 4, none⟩)) rfl (by kernel_rfl) (by kernel_rfl) (by kernel_rfl) rfl hSr5 (fun W' hS => by go_simp) rfl ?_
      refine hd_take 32 (v := .pointer (some ⟨p, 4, none⟩)) rfl (by kernel_rfl) (by kernel_rfl) (by kernel_rfl) rfl hSr5 (fun W' hS => by go_simp) rfl ?_
      try simp only [Act.put, List.setIfInBounds_toArray, List.set_cons_zero, List.set_cons_succ]
      refine hd_take 30 (v := .slice ax x.chain.length kx) rfl (by kernel_rfl) (by kernel_rfl) (by kernel_rfl) rfl hSr5 (fun W' hS => by obtain ⟨s0, s1, s2, s3, s4, s5, s6, s7, s8, s9⟩ := hS; go_simp) rfl ?_
      refine hd_take 33 (v := .slice a_t t.chain.length kt) rfl (by kernel_rfl) (by kernel_rfl) (by kernel_rfl) rfl hSr5 (fun W' hS => by obtain ⟨s0, s1, s2, s3, s4, s5, s6, s7, s8, s9⟩ := hS; go_simp) rfl ?_
      try simp only [Act.put, List.setIfInBounds_toArray, List.set_cons_zero, List.set_cons_succ]
      refine hd_take 31 (v := .int .i64 (x.chain.length : Nat)) rfl (by kernel_rfl) (by kernel_rfl) (by kernel_rfl) rfl hSr5 (fun W' hS => by go_simp) rfl ?_
      refine hd_take 34 (v := .int .i64 (t.chain.length : Nat)) rfl (by kernel_rfl) (by kernel_rfl) (by kernel_rfl) rfl hSr5 (fun W' hS => by go_simp) rfl ?_
      try simp only [Act.put, List.setIfInBounds_toArray, List.set_cons_zero, List.set_cons_succ]
      refine hd_take 35 (v := .int .i64 ((t.chain.length : Nat) + 1)) rfl (by kernel_rfl) (by kernel_rfl) (by kernel_rfl) rfl hSr5 (fun W' hS => by go_simp) rfl ?_
      try simp only [Act.put, List.setIfInBounds_toArray, List.set_cons_zero, List.set_cons_succ]
      refine hd_take 36 (v := .bool false) rfl (by kernel_rfl) (by kernel_rfl) (by kernel_rfl) rfl hSr5 (fun W' hS => by go_simp) rfl ?_
      try simp only [Act.put, List.setIfInBounds_toArray, List.set_cons_zero, List.set_cons_succ]
      refine hd_take 37 (v := .bool false) rfl (by kernel_rfl) (by kernel_rfl) (by kernel_rfl) rfl hSr5 (fun W' hS => by go_simp) rfl ?_
      try simp only [Act.put, List.setIfInBounds_toArray, List.set_cons_zero, List.set_cons_succ]
      refine hd_take 38 (v := .bool false) rfl (by kernel_rfl) (by kernel_rfl) (by kernel_rfl) rfl hSr5 (fun W' hS => by go_simp) rfl ?_
      try simp only [Act.put, List.setIfInBounds_toArray, List.set_cons_zero, List.set_cons_succ]
      refine hd_take 39 (v := .pointer (some ⟨b, 2, none⟩)) rfl (by kernel_rfl) (by kernel_rfl) (by kernel_rfl) rfl hSr5 (fun W' hS => by go_simp) rfl ?_
      refine hd_take 41 (v := .pointer (some ⟨p, 2, none⟩)) rfl (by kernel_rfl) (by kernel_rfl) (by kernel_rfl) rfl hSr5 (fun W' hS => by go_simp) rfl ?_
      try simp only [Act.put, List.setIfInBounds_toArray, List.set_cons_zero, List.set_cons_succ]
      refine hd_take 40 (v := .int .i64 x.place) rfl (by kernel_rfl) (by kernel_rfl) (by kernel_rfl) rfl hSr5 (fun W' hS => by obtain ⟨s0, s1, s2, s3, s4, s5, s6, s7, s8, s9⟩ := hS; go_simp) rfl ?_
      refine hd_take 42 (v := .int .i64 t.place) rfl (by kernel_rfl) (by kernel_rfl) (by kernel_rfl) rfl hSr5 (fun W' hS => by obtain ⟨s0, s1, s2, s3, s4, s5, s6, s7, s8, s9⟩ := hS; go_simp) rfl ?_
      try simp only [Act.put, List.setIfInBounds_toArray, List.set_cons_zero, List.set_cons_succ]
      refine hd_take 43 (v := .bool false) rfl (by kernel_rfl) (by kernel_rfl) (by kernel_rfl) rfl hSr5 (fun W' hS => by go_simp) rfl ?_
      try simp only [Act.put, List.setIfInBounds_toArray, List.set_cons_zero, List.set_cons_succ]
      refine hd_take 44 (v := .bool false) rfl (by kernel_rfl) (by kernel_rfl) (by kernel_rfl) rfl hSr5 (fun W' hS => by go_simp) rfl ?_
      try simp only [Act.put, List.setIfInBounds_toArray, List.set_cons_zero, List.set_cons_succ]
      refine hd_take 45 (v := .bool false) rfl (by kernel_rfl) (by kernel_rfl) (by kernel_rfl) rfl hSr5 (fun W' hS => by go_simp) rfl ?_
      try simp only [Act.put, List.setIfInBounds_toArray, List.set_cons_zero, List.set_cons_succ]
      refine hd_take 46 (v := .string ⟨se.toArray⟩) rfl (by kernel_rfl) (by kernel_rfl) (by kernel_rfl) rfl hSr5 (fun W' hS => by go_simp) rfl ?_
      refine hd_take 48 (v := .agg #[.int .i64 t.serial, .int .i64 t.shw, .int .i64 t.place, .string ⟨t.first.toArray⟩, .slice a_t t.chain.length kt]) rfl (by kernel_rfl) (by kernel_rfl) (by kernel_rfl) rfl hSr5 (fun W' hS => by obtain ⟨s0, s1, s2, s3, s4, s5, s6, s7, s8, s9⟩ := hS; go_simp) rfl ?_
      try simp only [Act.put, List.setIfInBounds_toArray, List.set_cons_zero, List.set_cons_succ]
      refine hd_one 47 (by kernel_rfl) rfl (by kernel_rfl) rfl (fun K' hK => ?_)
      go_simp
      refine (public_any se yr5 (by have := HTK.out; omega) (HT.out.t.fr (fW4.trans gr5 (by simp)))).mono ?_
      rintro e yr6 ⟨rfl, hbb⟩
      have gr6 : Fr [] W4 yr6 := gr5.below hbb gr5.size
      clear hbb
      have hSr6 : yr6.cell? ⟨p, 0, none⟩ = some (.int .i64 t.serial) ∧ yr6.cell? ⟨p, 1, none⟩ = some (.int .i64 t.shw) ∧ yr6.cell? ⟨p, 2, none⟩ = some (.int .i64 t.place) ∧ yr6.cell? ⟨p, 3, none⟩ = some (.string ⟨t.first.toArray⟩) ∧ yr6.cell? ⟨p, 4, none⟩ = some (.slice a_t t.chain.length kt) ∧ yr6.cell? ⟨b, 0, none⟩ = some (.int .i64 x.serial) ∧ yr6.cell? ⟨b, 1, none⟩ = some (.int .i64 x.shw) ∧ yr6.cell? ⟨b, 2, none⟩ = some (.int .i64 x.place) ∧ yr6.cell? ⟨b, 3, none⟩ = some (.string ⟨x.first.toArray⟩) ∧ yr6.cell? ⟨b, 4, none⟩ = some (.slice ax x.chain.length kx) := ⟨gr6.cell c0 (by simp), gr6.cell c1 (by simp), gr6.cell c2 (by simp), gr6.cell c3 (by simp), gr6.cell c4 (by simp), gr6.cell x0 (by simp), gr6.cell x1 (by simp), gr6.cell x2 (by simp), gr6.cell x3 (by simp), gr6.cell x4 (by simp)⟩
      refine hK.out _ _ (fun _ => hSr6) ?_
      clear hK K'
      try simp only [Act.put, List.setIfInBounds_toArray, List.set_cons_zero, List.set_cons_succ]
      rw [HE.out.2.2.2.2.2]
      obtain ⟨ow, how⟩ : ∃ q, q = ownerT t := ⟨_, rfl⟩
      rw [← how]
      refine hd_one 49 (by kernel_rfl) rfl (by kernel_rfl) rfl (fun K' hK => ?_)
      go_simp
      refine (owner_any _ t yr6 ⟨_, rfl, Ht.out.fr gr6⟩).mono ?_
      rintro e yr7 ⟨rfl, hbb⟩
      have gr7 : Fr [] W4 yr7 := gr6.below hbb gr6.size
      clear hbb
      have hSr7 : yr7.cell? ⟨p, 0, none⟩ = some (.int .i64 t.serial) ∧ yr7.cell? ⟨p, 1, none⟩ = some (.int .i64 t.shw) ∧ yr7.cell? ⟨p, 2, none⟩ = some (.int .i64 t.place) ∧ yr7.cell? ⟨p, 3, none⟩ = some (.string ⟨t.first.toArray⟩) ∧ yr7.cell? ⟨p, 4, none⟩ = some (.slice a_t t.chain.length kt) ∧ yr7.cell? ⟨b, 0, none⟩ = some (.int .i64 x.serial) ∧ yr7.cell? ⟨b, 1, none⟩ = some (.int .i64 x.shw) ∧ yr7.cell? ⟨b, 2, none⟩ = some (.int .i64 x.place) ∧ yr7.cell? ⟨b, 3, none⟩ = some (.string ⟨x.first.toArray⟩) ∧ yr7.cell? ⟨b, 4, none⟩ = some (.slice ax x.chain.length kx) := ⟨gr7.cell c0 (by simp), gr7.cell c1 (by simp), gr7.cell c2 (by simp), gr7.cell c3 (by simp), gr7.cell c4 (by simp), gr7.cell x0 (by simp), gr7.cell x1 (by simp), gr7.cell x2 (by simp), gr7.cell x3 (by simp), gr7.cell x4 (by simp)⟩
      refine hK.out _ _ (fun _ => hSr7) ?_
      clear hK K'
      try simp only [Act.put, List.setIfInBounds_toArray, List.set_cons_zero, List.set_cons_succ]
      rw [← how]
      clear how
      refine hd_take 50 (v := .bool false) rfl (by kernel_rfl) (by kernel_rfl) (by kernel_rfl) rfl hSr7 (fun W' hS => by go_simp) rfl ?_
      try simp only [Act.put, List.setIfInBounds_toArray, List.set_cons_zero, List.set_cons_succ]
      refine hd_take 51 (v := .bool false) rfl (by kernel_rfl) (by kernel_rfl) (by kernel_rfl) rfl hSr7 (fun W' hS => by go_simp) rfl ?_
      try simp only [Act.put, List.setIfInBounds_toArray, List.set_cons_zero, List.set_cons_succ]
      refine hd_take 52 (v := .bool false) rfl (by kernel_rfl) (by kernel_rfl) (by kernel_rfl) rfl hSr7 (fun W' hS => by go_simp) rfl ?_
      try simp only [Act.put, List.setIfInBounds_toArray, List.set_cons_zero, List.set_cons_succ]
      refine held_done (by kernel_rfl) ?_
      have hf : Fr [] W4 yr7 := gr7
      have hbt := hf.at hbt (by simp)
      have hbx := hf.at hbx (by simp)
      have Ht := Lib.hid (Ht.out.fr hf)
      have fz := fW4.trans hf (by simp)
      generalize yr7 = z at hbt hbx Ht fz ⊢
      clear c0 c1 c2 c3 c4 x0 x1 x2 x3 x4
      clear hf gr0 gr1 gr2 gr3 gr4 gr5 gr6 gr7 hSr0 hSr1 hSr2 hSr3 hSr4 hSr5 hSr6 hSr7 fW4
      clear u8 u9
      have c0 := row_cell hbt 0
      have c1 := row_cell hbt 1
      have c2 := row_cell hbt 2
      have c3 := row_cell hbt 3
      have c4 := row_cell hbt 4
      simp at c0 c1 c2 c3 c4
      go_wp2_with fail
      refine (valid30_any _ t z ⟨_, rfl, Ht.out⟩ HST.out (HT.out.t.fr fz)).mono ?_
      rintro e z2 ⟨rfl, hbb⟩
      rw [HV.out]
      have hf : Fr [] z z2 := Fr.ofBelow hbb
      have hbt := hf.at hbt (by simp)
      have Ht := Lib.hid (Ht.out.fr hf)
      have fz2 := fz.trans hf (by simp)
      clear hbb hf fz
      clear c0 c1 c2 c3 c4
      go_wp2_with fail
      go_loopg [10] (t.chain.length + 1) (fun gh i wr => ∃ k : Nat, k ≤ t.chain.length + 1 ∧ gh = t.chain.length + 1 - k ∧ i = .int .i64 (k : Int) ∧ Fr [] z2 wr)
      case atStart => exact ⟨0, by omega, by omega, rfl, Fr.refl _ _⟩
      case round =>
        obtain ⟨k, hk, hgh, rfl, hfr⟩ := hrel
        have HG := Lib.hid hgh
        clear hgh
        have hbt := hfr.at hbt (by simp)
        have c0 := row_cell hbt 0
        have c1 := row_cell hbt 1
        have c2 := row_cell hbt 2
        have c3 := row_cell hbt 3
        have c4 := row_cell hbt 4
        simp at c0 c1 c2 c3 c4
        have Ht := Lib.hid (Ht.out.fr hfr)
        have HFR := Lib.hid hfr
        have hc6 := HC6.out
        by_cases hlt : k ≤ t.chain.length
        · have t1 : decide ((k : Int) ≤ (t.chain.length : Int)) = true := by simp; omega
          have t2 : k ≤ t.chain.length := hlt
          have HLT := Lib.hid hlt
          clear hlt hfr
          go_wp2_with fail
          have gs0 : Fr [] wr wr.drew := (Fr.refl [] wr).drew
          have hSs0 : wr.drew.cell? ⟨p, 0, none⟩ = some (.int .i64 t.serial) ∧ wr.drew.cell? ⟨p, 1, none⟩ = some (.int .i64 t.shw) ∧ wr.drew.cell? ⟨p, 2, none⟩ = some (.int .i64 t.place) ∧ wr.drew.cell? ⟨p, 3, none⟩ = some (.string ⟨t.first.toArray⟩) ∧ wr.drew.cell? ⟨p, 4, none⟩ = some (.slice a_t t.chain.length kt) := ⟨gs0.cell c0 (by simp), gs0.cell c1 (by simp), gs0.cell c2 (by simp), gs0.cell c3 (by simp), gs0.cell c4 (by simp)⟩
          refine region_held 100 (fun W' => W'.cell? ⟨p, 0, none⟩ = some (.int .i64 t.serial) ∧ W'.cell? ⟨p, 1, none⟩ = some (.int .i64 t.shw) ∧ W'.cell? ⟨p, 2, none⟩ = some (.int .i64 t.place) ∧ W'.cell? ⟨p, 3, none⟩ = some (.string ⟨t.first.toArray⟩) ∧ W'.cell? ⟨p, 4, none⟩ = some (.slice a_t t.chain.length kt)) hmx ?_
          change Held _ _ _ _ _ _ 13 (Array.replicate 13 false) _ _
          refine hd_take 0 (v := .agg #[.int .i64 t.serial, .int .i64 t.shw, .int .i64 t.place, .string ⟨t.first.toArray⟩, .slice a_t t.chain.length kt]) rfl (by kernel_rfl) (by kernel_rfl) (by kernel_rfl) rfl hSs0 (fun W' hS => by obtain ⟨s0, s1, s2, s3, s4⟩ := hS; go_simp) rfl ?_
          refine hd_take 1 (v := .int .i64 (k : Int)) rfl (by kernel_rfl) (by kernel_rfl) (by kernel_rfl) rfl hSs0 (fun W' hS => by go_simp) rfl ?_
          try simp only [Act.put, List.setIfInBounds_toArray, List.set_cons_zero, List.set_cons_succ]
          refine hd_one 2 (by kernel_rfl) rfl (by kernel_rfl) rfl (fun K' hK => ?_)
          go_simp
          refine (rcut30_any _ t k wr.drew ⟨_, rfl, Ht.out.fr gs0⟩ HLT.out).mono ?_
          rintro e ys1 ⟨⟨vc1, rfl, hvc1⟩, hbb⟩
          have gs1 : Fr [] wr ys1 := gs0.below hbb gs0.size
          obtain ⟨cc1, rfl, hcc1⟩ := hvc1
          obtain ⟨ac1, kc1, rfl, _, _, _⟩ := hcc1.form
          have HCC1 := Lib.hid hcc1
          clear hbb hcc1
          have hSs1 : ys1.cell? ⟨p, 0, none⟩ = some (.int .i64 t.serial) ∧ ys1.cell? ⟨p, 1, none⟩ = some (.int .i64 t.shw) ∧ ys1.cell? ⟨p, 2, none⟩ = some (.int .i64 t.place) ∧ ys1.cell? ⟨p, 3, none⟩ = some (.string ⟨t.first.toArray⟩) ∧ ys1.cell? ⟨p, 4, none⟩ = some (.slice a_t t.chain.length kt) := ⟨gs1.cell c0 (by simp), gs1.cell c1 (by simp), gs1.cell c2 (by simp), gs1.cell c3 (by simp), gs1.cell c4 (by simp)⟩
          refine hK.out _ _ (fun _ => hSs1) ?_
          clear hK K'
          try simp only [Act.put, List.setIfInBounds_toArray, List.set_cons_zero, List.set_cons_succ]
          refine hd_one 3 (by kernel_rfl) rfl (by kernel_rfl) rfl (fun K' hK => ?_)
          go_simp
          refine (valid30_any _ (cutT t k) ys1 ⟨_, rfl, HCC1.out⟩ (HST.out.cut k) (HT.out.t.fr (fz2.trans (HFR.out.trans gs1 (by simp)) (by simp)))).mono ?_
          rintro e ys2 ⟨rfl, hbb⟩
          have gs2 : Fr [] wr ys2 := gs1.below hbb gs1.size
          clear hbb
          have hSs2 : ys2.cell? ⟨p, 0, none⟩ = some (.int .i64 t.serial) ∧ ys2.cell? ⟨p, 1, none⟩ = some (.int .i64 t.shw) ∧ ys2.cell? ⟨p, 2, none⟩ = some (.int .i64 t.place) ∧ ys2.cell? ⟨p, 3, none⟩ = some (.string ⟨t.first.toArray⟩) ∧ ys2.cell? ⟨p, 4, none⟩ = some (.slice a_t t.chain.length kt) := ⟨gs2.cell c0 (by simp), gs2.cell c1 (by simp), gs2.cell c2 (by simp), gs2.cell c3 (by simp), gs2.cell c4 (by simp)⟩
          refine hK.out _ _ (fun _ => hSs2) ?_
          clear hK K'
          try simp only [Act.put, List.setIfInBounds_toArray, List.set_cons_zero, List.set_cons_succ]
          rw [validT_cut HV.out]
          refine hd_take 4 (v := .bool false) rfl (by kernel_rfl) (by kernel_rfl) (by kernel_rfl) rfl hSs2 (fun W' hS => by go_simp) rfl ?_
          try simp only [Act.put, List.setIfInBounds_toArray, List.set_cons_zero, List.set_cons_succ]
          refine hd_take 5 (v := .bool false) rfl (by kernel_rfl) (by kernel_rfl) (by kernel_rfl) rfl hSs2 (fun W' hS => by go_simp) rfl ?_
          try simp only [Act.put, List.setIfInBounds_toArray, List.set_cons_zero, List.set_cons_succ]
          refine hd_take 6 (v := .agg #[.int .i64 t.serial, .int .i64 t.shw, .int .i64 t.place, .string ⟨t.first.toArray⟩, .slice a_t t.chain.length kt]) rfl (by kernel_rfl) (by kernel_rfl) (by kernel_rfl) rfl hSs2 (fun W' hS => by obtain ⟨s0, s1, s2, s3, s4⟩ := hS; go_simp) rfl ?_
          refine hd_take 7 (v := .agg #[.int .i64 t.serial, .int .i64 t.shw, .int .i64 t.place, .string ⟨t.first.toArray⟩, .slice a_t t.chain.length kt]) rfl (by kernel_rfl) (by kernel_rfl) (by kernel_rfl) rfl hSs2 (fun W' hS => by obtain ⟨s0, s1, s2, s3, s4⟩ := hS; go_simp) rfl ?_
          refine hd_take 8 (v := .int .i64 (k : Int)) rfl (by kernel_rfl) (by kernel_rfl) (by kernel_rfl) rfl hSs2 (fun W' hS => by go_simp) rfl ?_
          try simp only [Act.put, List.setIfInBounds_toArray, List.set_cons_zero, List.set_cons_succ]
          refine hd_one 9 (by kernel_rfl) rfl (by kernel_rfl) rfl (fun K' hK => ?_)
          go_simp
          refine (rcut30_any _ t k ys2 ⟨_, rfl, Ht.out.fr gs2⟩ HLT.out).mono ?_
          rintro e ys3 ⟨⟨vc2, rfl, hvc2⟩, hbb⟩
          have gs3 : Fr [] wr ys3 := gs2.below hbb gs2.size
          obtain ⟨cc2, rfl, hcc2⟩ := hvc2
          obtain ⟨ac2, kc2, rfl, _, _, _⟩ := hcc2.form
          have HCC2 := Lib.hid hcc2
          clear hbb hcc2
          have hSs3 : ys3.cell? ⟨p, 0, none⟩ = some (.int .i64 t.serial) ∧ ys3.cell? ⟨p, 1, none⟩ = some (.int .i64 t.shw) ∧ ys3.cell? ⟨p, 2, none⟩ = some (.int .i64 t.place) ∧ ys3.cell? ⟨p, 3, none⟩ = some (.string ⟨t.first.toArray⟩) ∧ ys3.cell? ⟨p, 4, none⟩ = some (.slice a_t t.chain.length kt) := ⟨gs3.cell c0 (by simp), gs3.cell c1 (by simp), gs3.cell c2 (by simp), gs3.cell c3 (by simp), gs3.cell c4 (by simp)⟩
          refine hK.out _ _ (fun _ => hSs3) ?_
          clear hK K'
          try simp only [Act.put, List.setIfInBounds_toArray, List.set_cons_zero, List.set_cons_succ]
          refine hd_one 10 (by kernel_rfl) rfl (by kernel_rfl) rfl (fun K' hK => ?_)
          go_simp
          refine (extends_any _ _ t (cutT t k) ys3 ⟨_, rfl, Ht.out.fr gs3⟩ ⟨_, rfl, HCC2.out⟩ HN.out (HST.out.cut k).toTNum (HT.out.t.fr (fz2.trans (HFR.out.trans gs3 (by simp)) (by simp)))).mono ?_
          rintro e ys4 ⟨rfl, hbb⟩
          have gs4 : Fr [] wr ys4 := gs3.below hbb gs3.size
          clear hbb
          have hSs4 : ys4.cell? ⟨p, 0, none⟩ = some (.int .i64 t.serial) ∧ ys4.cell? ⟨p, 1, none⟩ = some (.int .i64 t.shw) ∧ ys4.cell? ⟨p, 2, none⟩ = some (.int .i64 t.place) ∧ ys4.cell? ⟨p, 3, none⟩ = some (.string ⟨t.first.toArray⟩) ∧ ys4.cell? ⟨p, 4, none⟩ = some (.slice a_t t.chain.length kt) := ⟨gs4.cell c0 (by simp), gs4.cell c1 (by simp), gs4.cell c2 (by simp), gs4.cell c3 (by simp), gs4.cell c4 (by simp)⟩
          refine hK.out _ _ (fun _ => hSs4) ?_
          clear hK K'
          try simp only [Act.put, List.setIfInBounds_toArray, List.set_cons_zero, List.set_cons_succ]
          rw [extT_cut]
          refine hd_take 11 (v := .bool false) rfl (by kernel_rfl) (by kernel_rfl) (by kernel_rfl) rfl hSs4 (fun W' hS => by go_simp) rfl ?_
          try simp only [Act.put, List.setIfInBounds_toArray, List.set_cons_zero, List.set_cons_succ]
          refine hd_take 12 (v := .bool false) rfl (by kernel_rfl) (by kernel_rfl) (by kernel_rfl) rfl hSs4 (fun W' hS => by go_simp) rfl ?_
          try simp only [Act.put, List.setIfInBounds_toArray, List.set_cons_zero, List.set_cons_succ]
          refine held_done (by kernel_rfl) ?_
          have hfe := HFR.out.trans gs4 (by simp)
          go_wp2_with fail
          go_roundg (t.chain.length + 1 - (k + 1))
          case measure => have := HG.out; omega
          case rel => exact ⟨k + 1, by omega, rfl, by go_num, hfe⟩
        · obtain rfl : k = t.chain.length + 1 := by omega
          have t1 : decide (((t.chain.length + 1 : Nat) : Int) ≤ (t.chain.length : Int)) = false := by simp; omega
          go_wp2_with fail
          go_ret
          exact ⟨rfl, (fz2.trans HFR.out (by simp)).toBelow (by simp)⟩
    · obtain ⟨rfl, rfl⟩ : x = zeroTtl ∧ er = e2 := by rw [hxe] at h1; exact Prod.mk.inj h1
      have HE2 := Lib.hid h3
      have u1 : (er == 0) = false := by simpa using h2
      have u2 : (er != 0) = true := by simpa using h2
      clear h1 h3 hxe HCS
      have gr0 : Fr [] W4 W4.drew := (Fr.refl [] W4).drew
      have hSr0 : W4.drew.cell? ⟨p, 0, none⟩ = some (.int .i64 t.serial) ∧ W4.drew.cell? ⟨p, 1, none⟩ = some (.int .i64 t.shw) ∧ W4.drew.cell? ⟨p, 2, none⟩ = some (.int .i64 t.place) ∧ W4.drew.cell? ⟨p, 3, none⟩ = some (.string ⟨t.first.toArray⟩) ∧ W4.drew.cell? ⟨p, 4, none⟩ = some (.slice a_t t.chain.length kt) ∧ W4.drew.cell? ⟨b, 0, none⟩ = some (.int .i64 zeroTtl.serial) ∧ W4.drew.cell? ⟨b, 1, none⟩ = some (.int .i64 zeroTtl.shw) ∧ W4.drew.cell? ⟨b, 2, none⟩ = some (.int .i64 zeroTtl.place) ∧ W4.drew.cell? ⟨b, 3, none⟩ = some (.string ⟨zeroTtl.first.toArray⟩) ∧ W4.drew.cell? ⟨b, 4, none⟩ = some (.slice ax zeroTtl.chain.length kx) := ⟨gr0.cell c0 (by simp), gr0.cell c1 (by simp), gr0.cell c2 (by simp), gr0.cell c3 (by simp), gr0.cell c4 (by simp), gr0.cell x0 (by simp), gr0.cell x1 (by simp), gr0.cell x2 (by simp), gr0.cell x3 (by simp), gr0.cell x4 (by simp)⟩
      refine region_held 100 (fun W' => W'.cell? ⟨p, 0, none⟩ = some (.int .i64 t.serial) ∧ W'.cell? ⟨p, 1, none⟩ = some (.int .i64 t.shw) ∧ W'.cell? ⟨p, 2, none⟩ = some (.int .i64 t.place) ∧ W'.cell? ⟨p, 3, none⟩ = some (.string ⟨t.first.toArray⟩) ∧ W'.cell? ⟨p, 4, none⟩ = some (.slice a_t t.chain.length kt) ∧ W'.cell? ⟨b, 0, none⟩ = some (.int .i64 zeroTtl.serial) ∧ W'.cell? ⟨b, 1, none⟩ = some (.int .i64 zeroTtl.shw) ∧ W'.cell? ⟨b, 2, none⟩ = some (.int .i64 zeroTtl.place) ∧ W'.cell? ⟨b, 3, none⟩ = some (.string ⟨zeroTtl.first.toArray⟩) ∧ W'.cell? ⟨b, 4, none⟩ = some (.slice ax zeroTtl.chain.length kx)) hmx ?_
      change Held _ _ _ _ _ _ 53 (Array.replicate 53 false) _ _
      refine hd_take 0 (v := .int .i64 er) rfl (by kernel_rfl) (by kernel_rfl) (by kernel_rfl) rfl hSr0 (fun W' hS => by go_simp) rfl ?_
      try simp only [Act.put, List.setIfInBounds_toArray, List.set_cons_zero, List.set_cons_succ]
      refine hd_take 1 (v := .bool false) rfl (by kernel_rfl) (by kernel_rfl) (by kernel_rfl) rfl hSr0 (fun W' hS => by go_simp) rfl ?_
      try simp only [Act.put, List.setIfInBounds_toArray, List.set_cons_zero, List.set_cons_succ]
      refine hd_take 2 (v := .bool false) rfl (by kernel_rfl) (by kernel_rfl) (by kernel_rfl) rfl hSr0 (fun W' hS => by go_simp) rfl ?_
      try simp only [Act.put, List.setIfInBounds_toArray, List.set_cons_zero, List.set_cons_succ]
      refine hd_skip 3 rfl (by kernel_rfl) (by kernel_rfl) (by kernel_rfl) rfl hSr0 rfl ?_
      refine hd_skip 4 rfl (by kernel_rfl) (by kernel_rfl) (by kernel_rfl) rfl hSr0 rfl ?_
      refine hd_skip 5 rfl (by kernel_rfl) (by kernel_rfl) (by kernel_rfl) rfl hSr0 rfl ?_
      refine hd_skip 6 rfl (by kernel_rfl) (by kernel_rfl) (by kernel_rfl) rfl hSr0 rfl ?_
      refine hd_skip 7 rfl (by kernel_rfl) (by kernel_rfl) (by kernel_rfl) rfl hSr0 rfl ?_
      refine hd_skip 8 rfl (by kernel_rfl) (by kernel_rfl) (by kernel_rfl) rfl hSr0 rfl ?_
      refine hd_skip 9 rfl (by kernel_rfl) (by kernel_rfl) (by kernel_rfl) rfl hSr0 rfl ?_
      refine hd_skip 10 rfl (by kernel_rfl) (by kernel_rfl) (by kernel_rfl) rfl hSr0 rfl ?_
      refine hd_skip 11 rfl (by kernel_rfl) (by kernel_rfl) (by kernel_rfl) rfl hSr0 rfl ?_
      refine hd_skip 12 rfl (by kernel_rfl) (by kernel_rfl) (by kernel_rfl) rfl hSr0 rfl ?_
      refine hd_skip 13 rfl (by kernel_rfl) (by kernel_rfl) (by kernel_rfl) rfl hSr0 rfl ?_
      refine hd_skip 14 rfl (by kernel_rfl) (by kernel_rfl) (by kernel_rfl) rfl hSr0 rfl ?_
      refine hd_skip 15 rfl (by kernel_rfl) (by kernel_rfl) (by kernel_rfl) rfl hSr0 rfl ?_
      refine hd_skip 16 rfl (by kernel_rfl) (by kernel_rfl) (by kernel_rfl) rfl hSr0 rfl ?_
      refine hd_skip 17 rfl (by kernel_rfl) (by kernel_rfl) (by kernel_rfl) rfl hSr0 rfl ?_
      refine hd_skip 18 rfl (by kernel_rfl) (by kernel_rfl) (by kernel_rfl) rfl hSr0 rfl ?_
      refine hd_skip 19 rfl (by kernel_rfl) (by kernel_rfl) (by kernel_rfl) rfl hSr0 rfl ?_
      refine hd_skip 20 rfl (by kernel_rfl) (by kernel_rfl) (by kernel_rfl) rfl hSr0 rfl ?_
      refine hd_skip 21 rfl (by kernel_rfl) (by kernel_rfl) (by kernel_rfl) rfl hSr0 rfl ?_
      refine hd_skip 22 rfl (by kernel_rfl) (by kernel_rfl) (by kernel_rfl) rfl hSr0 rfl ?_
      refine hd_skip 23 rfl (by kernel_rfl) (by kernel_rfl) (by kernel_rfl) rfl hSr0 rfl ?_
      refine hd_skip 24 rfl (by kernel_rfl) (by kernel_rfl) (by kernel_rfl) rfl hSr0 rfl ?_
      refine hd_skip 25 rfl (by kernel_rfl) (by kernel_rfl) (by kernel_rfl) rfl hSr0 rfl ?_
      refine hd_skip 26 rfl (by kernel_rfl) (by kernel_rfl) (by kernel_rfl) rfl hSr0 rfl ?_
      refine hd_skip 27 rfl (by kernel_rfl) (by kernel_rfl) (by kernel_rfl) rfl hSr0 rfl ?_
      refine hd_skip 28 rfl (by kernel_rfl) (by kernel_rfl) (by kernel_rfl) rfl hSr0 rfl ?_
      refine hd_skip 29 rfl (by kernel_rfl) (by kernel_rfl) (by kernel_rfl) rfl hSr0 rfl ?_
      refine hd_skip 30 rfl (by kernel_rfl) (by kernel_rfl) (by kernel_rfl) rfl hSr0 rfl ?_
      refine hd_skip 31 rfl (by kernel_rfl) (by kernel_rfl) (by kernel_rfl) rfl hSr0 rfl ?_
      refine hd_skip 32 rfl (by kernel_rfl) (by kernel_rfl) (by kernel_rfl) rfl hSr0 rfl ?_
      refine hd_skip 33 rfl (by kernel_rfl) (by kernel_rfl) (by kernel_rfl) rfl hSr0 rfl ?_
      refine hd_skip 34 rfl (by kernel_rfl) (by kernel_rfl) (by kernel_rfl) rfl hSr0 rfl ?_
      refine hd_skip 35 rfl (by kernel_rfl) (by kernel_rfl) (by kernel_rfl) rfl hSr0 rfl ?_
      refine hd_skip 36 rfl (by kernel_rfl) (by kernel_rfl) (by kernel_rfl) rfl hSr0 rfl ?_
      refine hd_skip 37 rfl (by kernel_rfl) (by kernel_rfl) (by kernel_rfl) rfl hSr0 rfl ?_
      refine hd_skip 38 rfl (by kernel_rfl) (by kernel_rfl) (by kernel_rfl) rfl hSr0 rfl ?_
      refine hd_skip 39 rfl (by kernel_rfl) (by kernel_rfl) (by kernel_rfl) rfl hSr0 rfl ?_
      refine hd_skip 40 rfl (by kernel_rfl) (by kernel_rfl) (by kernel_rfl) rfl hSr0 rfl ?_
      refine hd_skip 41 rfl (by kernel_rfl) (by kernel_rfl) (by kernel_rfl) rfl hSr0 rfl ?_
      refine hd_skip 42 rfl (by kernel_rfl) (by kernel_rfl) (by kernel_rfl) rfl hSr0 rfl ?_
      refine hd_skip 43 rfl (by kernel_rfl) (by kernel_rfl) (by kernel_rfl) rfl hSr0 rfl ?_
      refine hd_skip 44 rfl (by kernel_rfl) (by kernel_rfl) (by kernel_rfl) rfl hSr0 rfl ?_
      refine hd_skip 45 rfl (by kernel_rfl) (by kernel_rfl) (by kernel_rfl) rfl hSr0 rfl ?_
      refine hd_skip 46 rfl (by kernel_rfl) (by kernel_rfl) (by kernel_rfl) rfl hSr0 rfl ?_
      refine hd_skip 47 rfl (by kernel_rfl) (by kernel_rfl) (by kernel_rfl) rfl hSr0 rfl ?_
      refine hd_skip 48 rfl (by kernel_rfl) (by kernel_rfl) (by kernel_rfl) rfl hSr0 rfl ?_
      refine hd_skip 49 rfl (by kernel_rfl) (by kernel_rfl) (by kernel_rfl) rfl hSr0 rfl ?_
      refine hd_skip 50 rfl (by kernel_rfl) (by kernel_rfl) (by kernel_rfl) rfl hSr0 rfl ?_
      refine hd_skip 51 rfl (by kernel_rfl) (by kernel_rfl) (by kernel_rfl) rfl hSr0 rfl ?_
      refine hd_take 52 (v := .bool false) rfl (by kernel_rfl) (by kernel_rfl) (by kernel_rfl) rfl hSr0 (fun W' hS => by go_simp) rfl ?_
      try simp only [Act.put, List.setIfInBounds_toArray, List.set_cons_zero, List.set_cons_succ]
      refine held_done (by kernel_rfl) ?_
      have hf : Fr [] W4 W4.drew := gr0
      have hbt := hf.at hbt (by simp)
      have hbx := hf.at hbx (by simp)
      have Ht := Lib.hid (Ht.out.fr hf)
      have fz := fW4.trans hf (by simp)
      generalize W4.drew = z at hbt hbx Ht fz ⊢
      clear c0 c1 c2 c3 c4 x0 x1 x2 x3 x4
      clear hf gr0 hSr0 fW4
      have c0 := row_cell hbt 0
      have c1 := row_cell hbt 1
      have c2 := row_cell hbt 2
      have c3 := row_cell hbt 3
      have c4 := row_cell hbt 4
      simp at c0 c1 c2 c3 c4
      have x0 := row_cell hbx 0
      have x1 := row_cell hbx 1
      have x2 := row_cell hbx 2
      have x3 := row_cell hbx 3
      have x4 := row_cell hbx 4
      simp at x0 x1 x2 x3 x4
      have zs : zeroTtl.serial = 0 := rfl
      have zl : zeroTtl.chain.length = 0 := rfl
      rw [zs] at x0
      rw [zl] at x4
      go_wp2_with fail
      obtain ⟨q, hq⟩ : ∃ q, q = validT t := ⟨_, rfl⟩
      refine (valid30_any _ t z ⟨_, rfl, Ht.out⟩ HST.out (HT.out.t.fr fz)).mono ?_
      rintro e z2 ⟨rfl, hbb⟩
      rw [← hq]
      have hf : Fr [] z z2 := Fr.ofBelow hbb
      have hbt := hf.at hbt (by simp)
      have Ht := Lib.hid (Ht.out.fr hf)
      have fz2 := fz.trans hf (by simp)
      clear hbb hf fz
      clear c0 c1 c2 c3 c4 x0 x1 x2 x3 x4
      cases q with
      | false =>
        obtain rfl := HE2.out hq.symm
        clear hq
        go_wp2_with fail
        go_ret
        exact ⟨rfl, fz2.toBelow (by simp)⟩
      | true =>
        have HV : Hid (validT t = true) := Lib.hid hq.symm
        clear hq u1 u2 h2
        go_wp2_with fail
        go_loopg [10] (t.chain.length + 1) (fun gh i wr => ∃ k : Nat, k ≤ t.chain.length + 1 ∧ gh = t.chain.length + 1 - k ∧ i = .int .i64 (k : Int) ∧ Fr [] z2 wr)
        case atStart => exact ⟨0, by omega, by omega, rfl, Fr.refl _ _⟩
        case round =>
          obtain ⟨k, hk, hgh, rfl, hfr⟩ := hrel
          have HG := Lib.hid hgh
          clear hgh
          have hbt := hfr.at hbt (by simp)
          have c0 := row_cell hbt 0
          have c1 := row_cell hbt 1
          have c2 := row_cell hbt 2
          have c3 := row_cell hbt 3
          have c4 := row_cell hbt 4
          simp at c0 c1 c2 c3 c4
          have Ht := Lib.hid (Ht.out.fr hfr)
          have HFR := Lib.hid hfr
          have hc6 := HC6.out
          by_cases hlt : k ≤ t.chain.length
          · have t1 : decide ((k : Int) ≤ (t.chain.length : Int)) = true := by simp; omega
            have t2 : k ≤ t.chain.length := hlt
            have HLT := Lib.hid hlt
            clear hlt hfr
            go_wp2_with fail
            have gs0 : Fr [] wr wr.drew := (Fr.refl [] wr).drew
            have hSs0 : wr.drew.cell? ⟨p, 0, none⟩ = some (.int .i64 t.serial) ∧ wr.drew.cell? ⟨p, 1, none⟩ = some (.int .i64 t.shw) ∧ wr.drew.cell? ⟨p, 2, none⟩ = some (.int .i64 t.place) ∧ wr.drew.cell? ⟨p, 3, none⟩ = some (.string ⟨t.first.toArray⟩) ∧ wr.drew.cell? ⟨p, 4, none⟩ = some (.slice a_t t.chain.length kt) := ⟨gs0.cell c0 (by simp), gs0.cell c1 (by simp), gs0.cell c2 (by simp), gs0.cell c3 (by simp), gs0.cell c4 (by simp)⟩
            refine region_held 100 (fun W' => W'.cell? ⟨p, 0, none⟩ = some (.int .i64 t.serial) ∧ W'.cell? ⟨p, 1, none⟩ = some (.int .i64 t.shw) ∧ W'.cell? ⟨p, 2, none⟩ = some (.int .i64 t.place) ∧ W'.cell? ⟨p, 3, none⟩ = some (.string ⟨t.first.toArray⟩) ∧ W'.cell? ⟨p, 4, none⟩ = some (.slice a_t t.chain.length kt)) hmx ?_
            change Held _ _ _ _ _ _ 13 (Array.replicate 13 false) _ _
            refine hd_take 0 (v := .agg #[.int .i64 t.serial, .int .i64 t.shw, .int .i64 t.place, .string ⟨t.first.toArray⟩, .slice a_t t.chain.length kt]) rfl (by kernel_rfl) (by kernel_rfl) (by kernel_rfl) rfl hSs0 (fun W' hS => by obtain ⟨s0, s1, s2, s3, s4⟩ := hS; go_simp) rfl ?_
            refine hd_take 1 (v := .int .i64 (k : Int)) rfl (by kernel_rfl) (by kernel_rfl) (by kernel_rfl) rfl hSs0 (fun W' hS => by go_simp) rfl ?_
            try simp only [Act.put, List.setIfInBounds_toArray, List.set_cons_zero, List.set_cons_succ]
            refine hd_one 2 (by kernel_rfl) rfl (by kernel_rfl) rfl (fun K' hK => ?_)
            go_simp
            refine (rcut30_any _ t k wr.drew ⟨_, rfl, Ht.out.fr gs0⟩ HLT.out).mono ?_
            rintro e ys1 ⟨⟨vc1, rfl, hvc1⟩, hbb⟩
            have gs1 : Fr [] wr ys1 := gs0.below hbb gs0.size
            obtain ⟨cc1, rfl, hcc1⟩ := hvc1
            obtain ⟨ac1, kc1, rfl, _, _, _⟩ := hcc1.form
            have HCC1 := Lib.hid hcc1
            clear hbb hcc1
            have hSs1 : ys1.cell? ⟨p, 0, none⟩ = some (.int .i64 t.serial) ∧ ys1.cell? ⟨p, 1, none⟩ = some (.int .i64 t.shw) ∧ ys1.cell? ⟨p, 2, none⟩ = some (.int .i64 t.place) ∧ ys1.cell? ⟨p, 3, none⟩ = some (.string ⟨t.first.toArray⟩) ∧ ys1.cell? ⟨p, 4, none⟩ = some (.slice a_t t.chain.length kt) := ⟨gs1.cell c0 (by simp), gs1.cell c1 (by simp), gs1.cell c2 (by simp), gs1.cell c3 (by simp), gs1.cell c4 (by simp)⟩
            refine hK.out _ _ (fun _ => hSs1) ?_
            clear hK K'
            try simp only [Act.put, List.setIfInBounds_toArray, List.set_cons_zero, List.set_cons_succ]
            refine hd_one 3 (by kernel_rfl) rfl (by kernel_rfl) rfl (fun K' hK => ?_)
            go_simp
            refine (valid30_any _ (cutT t k) ys1 ⟨_, rfl, HCC1.out⟩ (HST.out.cut k) (HT.out.t.fr (fz2.trans (HFR.out.trans gs1 (by simp)) (by simp)))).mono ?_
            rintro e ys2 ⟨rfl, hbb⟩
            have gs2 : Fr [] wr ys2 := gs1.below hbb gs1.size
            clear hbb
            have hSs2 : ys2.cell? ⟨p, 0, none⟩ = some (.int .i64 t.serial) ∧ ys2.cell? ⟨p, 1, none⟩ = some (.int .i64 t.shw) ∧ ys2.cell? ⟨p, 2, none⟩ = some (.int .i64 t.place) ∧ ys2.cell? ⟨p, 3, none⟩ = some (.string ⟨t.first.toArray⟩) ∧ ys2.cell? ⟨p, 4, none⟩ = some (.slice a_t t.chain.length kt) := ⟨gs2.cell c0 (by simp), gs2.cell c1 (by simp), gs2.cell c2 (by simp), gs2.cell c3 (by simp), gs2.cell c4 (by simp)⟩
            refine hK.out _ _ (fun _ => hSs2) ?_
            clear hK K'
            try simp only [Act.put, List.setIfInBounds_toArray, List.set_cons_zero, List.set_cons_succ]
            rw [validT_cut HV.out]
            refine hd_take 4 (v := .bool false) rfl (by kernel_rfl) (by kernel_rfl) (by kernel_rfl) rfl hSs2 (fun W' hS => by go_simp) rfl ?_
            try simp only [Act.put, List.setIfInBounds_toArray, List.set_cons_zero, List.set_cons_succ]
            refine hd_take 5 (v := .bool false) rfl (by kernel_rfl) (by kernel_rfl) (by kernel_rfl) rfl hSs2 (fun W' hS => by go_simp) rfl ?_
            try simp only [Act.put, List.setIfInBounds_toArray, List.set_cons_zero, List.set_cons_succ]
            refine hd_take 6 (v := .agg #[.int .i64 t.serial, .int .i64 t.shw, .int .i64 t.place, .string ⟨t.first.toArray⟩, .slice a_t t.chain.length kt]) rfl (by kernel_rfl) (by kernel_rfl) (by kernel_rfl) rfl hSs2 (fun W' hS => by obtain ⟨s0, s1, s2, s3, s4⟩ := hS; go_simp) rfl ?_
            refine hd_take 7 (v := .agg #[.int .i64 t.serial, .int .i64 t.shw, .int .i64 t.place, .string ⟨t.first.toArray⟩, .slice a_t t.chain.length kt]) rfl (by kernel_rfl) (by kernel_rfl) (by kernel_rfl) rfl hSs2 (fun W' hS => by obtain ⟨s0, s1, s2, s3, s4⟩ := hS; go_simp) rfl ?_
            refine hd_take 8 (v := .int .i64 (k : Int)) rfl (by kernel_rfl) (by kernel_rfl) (by kernel_rfl) rfl hSs2 (fun W' hS => by go_simp) rfl ?_
            try simp only [Act.put, List.setIfInBounds_toArray, List.set_cons_zero, List.set_cons_succ]
            refine hd_one 9 (by kernel_rfl) rfl (by kernel_rfl) rfl (fun K' hK => ?_)
            go_simp
            refine (rcut30_any _ t k ys2 ⟨_, rfl, Ht.out.fr gs2⟩ HLT.out).mono ?_
            rintro e ys3 ⟨⟨vc2, rfl, hvc2⟩, hbb⟩
            have gs3 : Fr [] wr ys3 := gs2.below hbb gs2.size
            obtain ⟨cc2, rfl, hcc2⟩ := hvc2
            obtain ⟨ac2, kc2, rfl, _, _, _⟩ := hcc2.form
            have HCC2 := Lib.hid hcc2
            clear hbb hcc2
            have hSs3 : ys3.cell? ⟨p, 0, none⟩ = some (.int .i64 t.serial) ∧ ys3.cell? ⟨p, 1, none⟩ = some (.int .i64 t.shw) ∧ ys3.cell? ⟨p, 2, none⟩ = some (.int .i64 t.place) ∧ ys3.cell? ⟨p, 3, none⟩ = some (.string ⟨t.first.toArray⟩) ∧ ys3.cell? ⟨p, 4, none⟩ = some (.slice a_t t.chain.length kt) := ⟨gs3.cell c0 (by simp), gs3.cell c1 (by simp), gs3.cell c2 (by simp), gs3.cell c3 (by simp), gs3.cell c4 (by simp)⟩
            refine hK.out _ _ (fun _ => hSs3) ?_
            clear hK K'
            try simp only [Act.put, List.setIfInBounds_toArray, List.set_cons_zero, List.set_cons_succ]
            refine hd_one 10 (by kernel_rfl) rfl (by kernel_rfl) rfl (fun K' hK => ?_)
            go_simp
            refine (extends_any _ _ t (cutT t k) ys3 ⟨_, rfl, Ht.out.fr gs3⟩ ⟨_, rfl, HCC2.out⟩ HN.out (HST.out.cut k).toTNum (HT.out.t.fr (fz2.trans (HFR.out.trans gs3 (by simp)) (by simp)))).mono ?_
            rintro e ys4 ⟨rfl, hbb⟩
            have gs4 : Fr [] wr ys4 := gs3.below hbb gs3.size
            clear hbb
            have hSs4 : ys4.cell? ⟨p, 0, none⟩ = some (.int .i64 t.serial) ∧ ys4.cell? ⟨p, 1, none⟩ = some (.int .i64 t.shw) ∧ ys4.cell? ⟨p, 2, none⟩ = some (.int .i64 t.place) ∧ ys4.cell? ⟨p, 3, none⟩ = some (.string ⟨t.first.toArray⟩) ∧ ys4.cell? ⟨p, 4, none⟩ = some (.slice a_t t.chain.length kt) := ⟨gs4.cell c0 (by simp), gs4.cell c1 (by simp), gs4.cell c2 (by simp), gs4.cell c3 (by simp), gs4.cell c4 (by simp)⟩
            refine hK.out _ _ (fun _ => hSs4) ?_
            clear hK K'
            try simp only [Act.put, List.setIfInBounds_toArray, List.set_cons_zero, List.set_cons_succ]
            rw [extT_cut]
            refine hd_take 11 (v := .bool false) rfl (by kernel_rfl) (by kernel_rfl) (by kernel_rfl) rfl hSs4 (fun W' hS => by go_simp) rfl ?_
            try simp only [Act.put, List.setIfInBounds_toArray, List.set_cons_zero, List.set_cons_succ]
            refine hd_take 12 (v := .bool false) rfl (by kernel_rfl) (by kernel_rfl) (by kernel_rfl) rfl hSs4 (fun W' hS => by go_simp) rfl ?_
            try simp only [Act.put, List.setIfInBounds_toArray, List.set_cons_zero, List.set_cons_succ]
            refine held_done (by kernel_rfl) ?_
            have hfe := HFR.out.trans gs4 (by simp)
            go_wp2_with fail
            go_roundg (t.chain.length + 1 - (k + 1))
            case measure => have := HG.out; omega
            case rel => exact ⟨k + 1, by omega, rfl, by go_num, hfe⟩
          · obtain rfl : k = t.chain.length + 1 := by omega
            have t1 : decide (((t.chain.length + 1 : Nat) : Int) ≤ (t.chain.length : Int)) = false := by simp; omega
            go_wp2_with fail
            go_ret
            exact ⟨rfl, (fz2.trans HFR.out (by simp)).toBelow (by simp)⟩
end Go.Proofs.YtennhdgnpodkaaaGreatDoor
