/-
  foyerlaw30.TitleTexts.
-/
import Derived.Test.YtennhdgnpodkaaaGreatDoorLxE
import Derived.Test.YtennhdgnpodkaaaGreatDoorRtD
namespace Go.Proofs.YtennhdgnpodkaaaGreatDoor
open Go.RowKit

theorem formedT_small {g : Ttl} (h : formedT g = true) : TSmall g := by
  obtain ⟨h1, h2, h3, h4, h5, h6⟩ := formedT_parts h
  refine ⟨⟨by omega, by omega, by omega⟩, by rw [isD_16 h4]; decide, by omega, fun x hx => ?_⟩
  obtain ⟨e1, e2, e3⟩ := formX_parts (List.all_eq_true.1 h6 x hx)
  exact ⟨by rw [isD_16 e2]; decide, by omega, fun s hs => by rw [isD_16 (List.all_eq_true.1 e3 s hs)]; decide⟩
theorem parsed_own {a : Ttl} {o : Option Ttl} (h : ParsedT (textT a) o) (hf : formedT a = true) : o = some a := (h a).2 ⟨hf, rfl⟩
theorem parsed_nil {o : Option Ttl} (h : ParsedT [] o) : o = none := by
  cases o with
  | none => rfl
  | some g => exact absurd ((h g).1 rfl).2 (textT_ne ((h g).1 rfl).1)
theorem text_same {a b : Ttl} (hf : formedT a = true) : (textT a == textT b) = sameT a b := by
  rw [Bool.eq_iff_iff, beq_iff_eq, sameT_iff]
  constructor
  · intro h
    cases hb : formedT b with
    | true => exact textT_inj hf hb h
    | false => rw [textT_nil hb] at h; exact absurd h (textT_ne hf)
  · rintro rfl; rfl
theorem valid_formed {a : Ttl} (h : validT a = true) : formedT a = true := by
  unfold validT at h
  rw [Bool.and_eq_true] at h
  exact h.1
set_option maxRecDepth 100000 in
set_option maxHeartbeats 8000000 in
theorem titleTexts_any (av : Value) (a : Ttl) (bv : Value) (b : Ttl) (text : List UInt8) (w : World) (hT : TabsU w) (ha : TtlR w av a) (hna : TNum a) (hb : TtlR w bv b) (hnb : TNum b) :
    Calls Tryz.prog 7 #[av, bv, .string ⟨text.toArray⟩] w fun e w' => e = .returned (.bool true) ∧ Below w.heap.size w w' := by
  have hmx : Tryz.prog.follows .mixedOrders = true := by kernel_rfl
  obtain ⟨va, rfl, hca⟩ := ha
  obtain ⟨aa, ka, rfl, _, _, _⟩ := hca.form
  obtain ⟨vb, rfl, hcb⟩ := hb
  obtain ⟨ab, kb, rfl, _, _, _⟩ := hcb.form
  have HT := Lib.hid hT
  have HN := Lib.hid (And.intro hna hnb)
  clear hT hna hnb
  obtain ⟨W0, hW0⟩ : ∃ W0, W0 = (w.alloc (.cells #[.int .i64 a.serial, .int .i64 a.shw, .int .i64 a.place, .string ⟨a.first.toArray⟩, .slice aa a.chain.length ka] 24)).alloc (.cells #[.int .i64 b.serial, .int .i64 b.shw, .int .i64 b.place, .string ⟨b.first.toArray⟩, .slice ab b.chain.length kb] 24) := ⟨_, rfl⟩
  obtain ⟨p, ep⟩ : ∃ p, p = w.heap.size := ⟨_, rfl⟩
  have fW0 : Fr [] w W0 := by rw [hW0]; exact ((Fr.refl [] w).alloc _).alloc _
  have hba : W0.heap[p]? = some (.cells #[.int .i64 a.serial, .int .i64 a.shw, .int .i64 a.place, .string ⟨a.first.toArray⟩, .slice aa a.chain.length ka] 24 (0, 0)) := by rw [hW0, ep]; exact heap_past _ (heap_new rfl)
  have hbo : W0.heap[p + 1]? = some (.cells #[.int .i64 b.serial, .int .i64 b.shw, .int .i64 b.place, .string ⟨b.first.toArray⟩, .slice ab b.chain.length kb] 24 (0, 0)) := by rw [hW0, ep]; exact heap_new (by simp)
  have Ha := Lib.hid (hca.fr fW0)
  have Hb := Lib.hid (hcb.fr fW0)
  clear hca hcb
  go_enter Tryz.func7, Tryz.ntmps7
  go_wp2_with fail
  rw [← hW0, ← ep]
  clear hW0 ep
  refine (head30_any W0 (HT.out.fr fW0)).mono ?_
  rintro e y1 ⟨rfl, hbb⟩
  have hf : Fr [] W0 y1 := Fr.ofBelow hbb
  have hba := hf.at hba (by simp)
  have hbo := hf.at hbo (by simp)
  have Ha := Lib.hid (Ha.out.fr hf)
  have Hb := Lib.hid (Hb.out.fr hf)
  have fy1 := fW0.trans hf (by simp)
  clear hbb hf fW0
  have c0 := row_cell hba 0
  have c1 := row_cell hba 1
  have c2 := row_cell hba 2
  have c3 := row_cell hba 3
  have c4 := row_cell hba 4
  simp at c0 c1 c2 c3 c4
  have d0 := row_cell hbo 0
  have d1 := row_cell hbo 1
  have d2 := row_cell hbo 2
  have d3 := row_cell hbo 3
  have d4 := row_cell hbo 4
  simp at d0 d1 d2 d3 d4
  go_wp2_with fail
  obtain ⟨W2, hW2⟩ : ∃ W2, W2 = y1.alloc (.cells #[.int .i64 a.serial, .int .i64 a.shw, .int .i64 a.place, .string ⟨a.first.toArray⟩, .slice aa a.chain.length ka, .int .i64 b.serial, .int .i64 b.shw, .int .i64 b.place, .string ⟨b.first.toArray⟩, .slice ab b.chain.length kb] 24) := ⟨_, rfl⟩
  have hf : Fr [] y1 W2 := by rw [hW2]; exact (Fr.refl [] y1).alloc _
  have hba := hf.at hba (by simp)
  have hbo := hf.at hbo (by simp)
  have Ha := Lib.hid (Ha.out.fr hf)
  have Hb := Lib.hid (Hb.out.fr hf)
  have fW2 := fy1.trans hf (by simp)
  have hrow : W2.heap[y1.heap.size]? = some (.cells #[.int .i64 a.serial, .int .i64 a.shw, .int .i64 a.place, .string ⟨a.first.toArray⟩, .slice aa a.chain.length ka, .int .i64 b.serial, .int .i64 b.shw, .int .i64 b.place, .string ⟨b.first.toArray⟩, .slice ab b.chain.length kb] 24 (0, 0)) := by rw [hW2]; exact heap_new rfl
  rw [← hW2]
  clear c0 c1 c2 c3 c4 d0 d1 d2 d3 d4
  have htts : Tts W2 (.slice (some ⟨y1.heap.size, 0, none⟩) 2 2) [a, b] := tts_row hrow rfl (by decide) (fun i x hx => by
    match i with
    | 0 => obtain rfl : a = x := by simpa using hx
           exact ⟨rfl, rfl, rfl, rfl, aa, ka, rfl, Ha.out⟩
    | 1 => obtain rfl : b = x := by simpa using hx
           exact ⟨rfl, rfl, rfl, rfl, ab, kb, rfl, Hb.out⟩
    | i + 2 => simp at hx)
  have HTTS := Lib.hid htts
  clear htts hrow hW2 hf fy1
  refine (small30_any _ _ [a, b] [] W2 HTTS.out (Or.inl ⟨rfl, rfl⟩)).mono ?_
  rintro e y2 ⟨rfl, hbb⟩
  have hf : Fr [] W2 y2 := Fr.ofBelow hbb
  have hba := hf.at hba (by simp)
  have hbo := hf.at hbo (by simp)
  have Ha := Lib.hid (Ha.out.fr hf)
  have Hb := Lib.hid (Hb.out.fr hf)
  have fy2 := fW2.trans hf (by simp)
  clear hbb hf fW2
  clear HTTS
  obtain ⟨sm, hsm⟩ : ∃ q, q = smallT [a, b] [] := ⟨_, rfl⟩
  rw [← hsm]
  cases sm with
  | false =>
    clear hsm
    go_wp2_with fail
    go_ret
    exact ⟨rfl, fy2.toBelow (by simp)⟩
  | true =>
    by_cases hl : 3000 < text.length
    · have t1 : decide ((3000 : Int) < (text.length : Int)) = true := by simp; omega
      clear hsm hl
      go_wp2_with fail
      go_ret
      exact ⟨rfl, fy2.toBelow (by simp)⟩
    have t1 : decide ((3000 : Int) < (text.length : Int)) = false := by simp; omega
    have HL : Hid (text.length ≤ 3000) := Lib.hid (by omega)
    clear hl
    have hsp := smallT_parts hsm.symm
    have HSA := Lib.hid (fewT_small (hsp.1 a (by simp)) (by decide) HN.out.1)
    have HSB := Lib.hid (fewT_small (hsp.1 b (by simp)) (by decide) HN.out.2)
    have HC6 : Hid (a.chain.length ≤ 6) := Lib.hid (by
      have h := hsp.1 a (by simp)
      unfold fewT at h
      simp only [Bool.and_eq_true, decide_eq_true_eq] at h
      exact h.1.1)
    clear hsm hsp
    have c0 := row_cell hba 0
    have c1 := row_cell hba 1
    have c2 := row_cell hba 2
    have c3 := row_cell hba 3
    have c4 := row_cell hba 4
    simp at c0 c1 c2 c3 c4
    have d0 := row_cell hbo 0
    have d1 := row_cell hbo 1
    have d2 := row_cell hbo 2
    have d3 := row_cell hbo 3
    have d4 := row_cell hbo 4
    simp at d0 d1 d2 d3 d4
    go_wp2_with fail
    have gr0 : Fr [] y2 y2.drew := (Fr.refl [] y2).drew
    have hSr0 : y2.drew.cell? ⟨p, 0, none⟩ = some (.int .i64 a.serial) ∧ y2.drew.cell? ⟨p, 1, none⟩ = some (.int .i64 a.shw) ∧ y2.drew.cell? ⟨p, 2, none⟩ = some (.int .i64 a.place) ∧ y2.drew.cell? ⟨p, 3, none⟩ = some (.string ⟨a.first.toArray⟩) ∧ y2.drew.cell? ⟨p, 4, none⟩ = some (.slice aa a.chain.length ka) ∧ y2.drew.cell? ⟨p + 1, 0, none⟩ = some (.int .i64 b.serial) ∧ y2.drew.cell? ⟨p + 1, 1, none⟩ = some (.int .i64 b.shw) ∧ y2.drew.cell? ⟨p + 1, 2, none⟩ = some (.int .i64 b.place) ∧ y2.drew.cell? ⟨p + 1, 3, none⟩ = some (.string ⟨b.first.toArray⟩) ∧ y2.drew.cell? ⟨p + 1, 4, none⟩ = some (.slice ab b.chain.length kb) := ⟨gr0.cell c0 (by simp), gr0.cell c1 (by simp), gr0.cell c2 (by simp), gr0.cell c3 (by simp), gr0.cell c4 (by simp), gr0.cell d0 (by simp), gr0.cell d1 (by simp), gr0.cell d2 (by simp), gr0.cell d3 (by simp), gr0.cell d4 (by simp)⟩
    refine region_held 100 (fun W' => W'.cell? ⟨p, 0, none⟩ = some (.int .i64 a.serial) ∧ W'.cell? ⟨p, 1, none⟩ = some (.int .i64 a.shw) ∧ W'.cell? ⟨p, 2, none⟩ = some (.int .i64 a.place) ∧ W'.cell? ⟨p, 3, none⟩ = some (.string ⟨a.first.toArray⟩) ∧ W'.cell? ⟨p, 4, none⟩ = some (.slice aa a.chain.length ka) ∧ W'.cell? ⟨p + 1, 0, none⟩ = some (.int .i64 b.serial) ∧ W'.cell? ⟨p + 1, 1, none⟩ = some (.int .i64 b.shw) ∧ W'.cell? ⟨p + 1, 2, none⟩ = some (.int .i64 b.place) ∧ W'.cell? ⟨p + 1, 3, none⟩ = some (.string ⟨b.first.toArray⟩) ∧ W'.cell? ⟨p + 1, 4, none⟩ = some (.slice ab b.chain.length kb)) hmx ?_
    change Held _ _ _ _ _ _ 6 (Array.replicate 6 false) _ _
    refine hd_take 0 (v := .agg #[.int .i64 a.serial, .int .i64 a.shw, .int .i64 a.place, .string ⟨a.first.toArray⟩, .slice aa a.chain.length ka]) rfl (by kernel_rfl) (by kernel_rfl) (by kernel_rfl) rfl hSr0 (fun W' hS => by obtain ⟨s0, s1, s2, s3, s4, s5, s6, s7, s8, s9⟩ := hS; go_simp) rfl ?_
    refine hd_take 2 (v := .agg #[.int .i64 b.serial, .int .i64 b.shw, .int .i64 b.place, .string ⟨b.first.toArray⟩, .slice ab b.chain.length kb]) rfl (by kernel_rfl) (by kernel_rfl) (by kernel_rfl) rfl hSr0 (fun W' hS => by obtain ⟨s0, s1, s2, s3, s4, s5, s6, s7, s8, s9⟩ := hS; go_simp) rfl ?_
    try simp only [Act.put, List.setIfInBounds_toArray, List.set_cons_zero, List.set_cons_succ]
    refine hd_one 1 (by kernel_rfl) rfl (by kernel_rfl) rfl (fun K' hK => ?_)
    go_simp
    refine (ttext_any _ a y2.drew ⟨_, rfl, Ha.out.fr gr0⟩ HSA.out (HT.out.t.fr (fy2.trans gr0 (by simp)))).mono ?_
    rintro e yr1 ⟨rfl, hbb⟩
    have gr1 : Fr [] y2 yr1 := gr0.below hbb gr0.size
    clear hbb
    have hSr1 : yr1.cell? ⟨p, 0, none⟩ = some (.int .i64 a.serial) ∧ yr1.cell? ⟨p, 1, none⟩ = some (.int .i64 a.shw) ∧ yr1.cell? ⟨p, 2, none⟩ = some (.int .i64 a.place) ∧ yr1.cell? ⟨p, 3, none⟩ = some (.string ⟨a.first.toArray⟩) ∧ yr1.cell? ⟨p, 4, none⟩ = some (.slice aa a.chain.length ka) ∧ yr1.cell? ⟨p + 1, 0, none⟩ = some (.int .i64 b.serial) ∧ yr1.cell? ⟨p + 1, 1, none⟩ = some (.int .i64 b.shw) ∧ yr1.cell? ⟨p + 1, 2, none⟩ = some (.int .i64 b.place) ∧ yr1.cell? ⟨p + 1, 3, none⟩ = some (.string ⟨b.first.toArray⟩) ∧ yr1.cell? ⟨p + 1, 4, none⟩ = some (.slice ab b.chain.length kb) := ⟨gr1.cell c0 (by simp), gr1.cell c1 (by simp), gr1.cell c2 (by simp), gr1.cell c3 (by simp), gr1.cell c4 (by simp), gr1.cell d0 (by simp), gr1.cell d1 (by simp), gr1.cell d2 (by simp), gr1.cell d3 (by simp), gr1.cell d4 (by simp)⟩
    refine hK.out _ _ (fun _ => hSr1) ?_
    clear hK K'
    try simp only [Act.put, List.setIfInBounds_toArray, List.set_cons_zero, List.set_cons_succ]
    obtain ⟨sa, hsa⟩ : ∃ s, s = textT a := ⟨_, rfl⟩
    rw [← hsa]
    refine hd_one 3 (by kernel_rfl) rfl (by kernel_rfl) rfl (fun K' hK => ?_)
    go_simp
    refine (ttext_any _ b yr1 ⟨_, rfl, Hb.out.fr gr1⟩ HSB.out (HT.out.t.fr (fy2.trans gr1 (by simp)))).mono ?_
    rintro e yr2 ⟨rfl, hbb⟩
    have gr2 : Fr [] y2 yr2 := gr1.below hbb gr1.size
    clear hbb
    have hSr2 : yr2.cell? ⟨p, 0, none⟩ = some (.int .i64 a.serial) ∧ yr2.cell? ⟨p, 1, none⟩ = some (.int .i64 a.shw) ∧ yr2.cell? ⟨p, 2, none⟩ = some (.int .i64 a.place) ∧ yr2.cell? ⟨p, 3, none⟩ = some (.string ⟨a.first.toArray⟩) ∧ yr2.cell? ⟨p, 4, none⟩ = some (.slice aa a.chain.length ka) ∧ yr2.cell? ⟨p + 1, 0, none⟩ = some (.int .i64 b.serial) ∧ yr2.cell? ⟨p + 1, 1, none⟩ = some (.int .i64 b.shw) ∧ yr2.cell? ⟨p + 1, 2, none⟩ = some (.int .i64 b.place) ∧ yr2.cell? ⟨p + 1, 3, none⟩ = some (.string ⟨b.first.toArray⟩) ∧ yr2.cell? ⟨p + 1, 4, none⟩ = some (.slice ab b.chain.length kb) := ⟨gr2.cell c0 (by simp), gr2.cell c1 (by simp), gr2.cell c2 (by simp), gr2.cell c3 (by simp), gr2.cell c4 (by simp), gr2.cell d0 (by simp), gr2.cell d1 (by simp), gr2.cell d2 (by simp), gr2.cell d3 (by simp), gr2.cell d4 (by simp)⟩
    refine hK.out _ _ (fun _ => hSr2) ?_
    clear hK K'
    try simp only [Act.put, List.setIfInBounds_toArray, List.set_cons_zero, List.set_cons_succ]
    obtain ⟨sb, hsb⟩ : ∃ s, s = textT b := ⟨_, rfl⟩
    rw [← hsb]
    refine hd_take 4 (v := .string ⟨sa.toArray⟩) rfl (by kernel_rfl) (by kernel_rfl) (by kernel_rfl) rfl hSr2 (fun W' hS => by go_simp) rfl ?_
    refine hd_take 5 (v := .string ⟨sb.toArray⟩) rfl (by kernel_rfl) (by kernel_rfl) (by kernel_rfl) rfl hSr2 (fun W' hS => by go_simp) rfl ?_
    try simp only [Act.put, List.setIfInBounds_toArray, List.set_cons_zero, List.set_cons_succ]
    refine held_done (by kernel_rfl) ?_
    have hf : Fr [] y2 yr2 := gr2
    have hba := hf.at hba (by simp)
    have hbo := hf.at hbo (by simp)
    have Ha := Lib.hid (Ha.out.fr hf)
    have Hb := Lib.hid (Hb.out.fr hf)
    have fz := fy2.trans hf (by simp)
    have HSS := Lib.hid (And.intro hsa hsb)
    generalize yr2 = z at hba hbo Ha Hb fz ⊢
    clear c0 c1 c2 c3 c4 d0 d1 d2 d3 d4
    clear hf fy2 hsa hsb gr0 gr1 gr2 hSr0 hSr1 hSr2
    go_wp2_with fail
    refine (tparse_any sa z (by rw [HSS.out.1]; have := textT_len a HN.out.1; have := HC6.out; omega) (HT.out.fr fz)).mono ?_
    rintro e z1 ⟨o, ho, vv, rfl, hv, hbb⟩
    have hf : Fr [] z z1 := Fr.ofBelow hbb
    have hba := hf.at hba (by simp)
    have hbo := hf.at hbo (by simp)
    have Ha := Lib.hid (Ha.out.fr hf)
    have Hb := Lib.hid (Hb.out.fr hf)
    have fz1 := fz.trans hf (by simp)
    clear hbb hf fz
    rw [HSS.out.1] at ho
    obtain ⟨fa, hfa⟩ : ∃ q, q = formedT a := ⟨_, rfl⟩
    cases fa with
    | false =>
      have hsa0 : textT a = [] := textT_nil hfa.symm
      rw [hsa0] at ho
      obtain rfl := parsed_nil ho
      rw [show (if (none : Option Ttl).isSome then (0 : Int) else 4) = 4 from rfl]
      have hv : TtlR z1 vv zeroTtl := hv
      have hse : sa = [] := HSS.out.1.trans hsa0
      subst hse
      have HFA := Lib.hid hfa.symm
      clear ho hsa0 hfa
      obtain ⟨vx, rfl, hcx⟩ := hv
      obtain ⟨ax, kx, rfl, _, _, _⟩ := hcx.form
      obtain ⟨W4, hW4⟩ : ∃ W4, W4 = z1.alloc (.cells #[.int .i64 zeroTtl.serial, .int .i64 zeroTtl.shw, .int .i64 zeroTtl.place, .string ⟨zeroTtl.first.toArray⟩, .slice ax zeroTtl.chain.length kx] 24) := ⟨_, rfl⟩
      obtain ⟨bx, eb⟩ : ∃ b, b = z1.heap.size := ⟨_, rfl⟩
      have hf : Fr [] z1 W4 := by rw [hW4]; exact (Fr.refl [] z1).alloc _
      have h14 := hf.at hba (by simp)
      have c0 := row_cell h14 0
      have c1 := row_cell h14 1
      have c2 := row_cell h14 2
      have c3 := row_cell h14 3
      have c4 := row_cell h14 4
      simp at c0 c1 c2 c3 c4
      rw [hW4] at c0 c1 c2 c3 c4
      have hba := hf.at hba (by simp)
      have hbo := hf.at hbo (by simp)
      have Ha := Lib.hid (Ha.out.fr hf)
      have Hb := Lib.hid (Hb.out.fr hf)
      have Hx := Lib.hid (hcx.fr hf)
      have fW4 := fz1.trans hf (by simp)
      have hbx : W4.heap[bx]? = some (.cells #[.int .i64 zeroTtl.serial, .int .i64 zeroTtl.shw, .int .i64 zeroTtl.place, .string ⟨zeroTtl.first.toArray⟩, .slice ax zeroTtl.chain.length kx] 24 (0, 0)) := by rw [hW4]; exact heap_new eb
      have HW4 := Lib.hid (And.intro eb hW4)
      clear hcx hf h14 eb hW4 fz1
      go_wp2_with fail
      rw [← HW4.out.1, ← HW4.out.2]
      clear c0 c1 c2 c3 c4
      refine (rformed30_any _ a W4 ⟨_, rfl, Ha.out⟩ HSA.out).mono ?_
      rintro e z5 ⟨rfl, hbb⟩
      rw [HFA.out]
      have hf : Fr [] W4 z5 := Fr.ofBelow hbb
      have hba := hf.at hba (by simp)
      have hbo := hf.at hbo (by simp)
      have hbx := hf.at hbx (by simp)
      have Ha := Lib.hid (Ha.out.fr hf)
      have Hb := Lib.hid (Hb.out.fr hf)
      have fz5 := fW4.trans hf (by simp)
      clear hbb hf fW4
      have HVF : Hid (validT a = false) := Lib.hid (by
        rw [Bool.eq_false_iff]
        intro h
        have h2 := valid_formed h
        rw [HFA.out] at h2
        cases h2)
      have c0 := row_cell hba 0
      have c1 := row_cell hba 1
      have c2 := row_cell hba 2
      have c3 := row_cell hba 3
      have c4 := row_cell hba 4
      simp at c0 c1 c2 c3 c4
      go_wp2_with fail
      refine (valid30_any _ a z5 ⟨_, rfl, Ha.out⟩ HSA.out (HT.out.t.fr fz5)).mono ?_
      rintro e z6 ⟨rfl, hbb⟩
      rw [HVF.out]
      have hf : Fr [] z5 z6 := Fr.ofBelow hbb
      have fz6 := fz5.trans hf (by simp)
      clear hbb hf fz5
      clear c0 c1 c2 c3 c4
      go_wp2_with fail
      refine (tparse_any text z6 (by have := HL.out; omega) (HT.out.fr fz6)).mono ?_
      rintro e q1 ⟨o2, ho2, vv, rfl, hv, hbb⟩
      have fq : Fr [] w q1 := fz6.trans (Y := []) (Fr.ofBelow hbb) (by simp)
      clear hbb
      cases o2 with
      | none =>
        rw [show (if (none : Option Ttl).isSome then (0 : Int) else 4) = 4 from rfl]
        obtain ⟨vy, rfl, hcy⟩ := (show TtlR q1 vv zeroTtl from hv)
        obtain ⟨ay, ky, rfl, _, _, _⟩ := hcy.form
        clear ho2
        have hby : (q1.alloc (.cells #[.int .i64 zeroTtl.serial, .int .i64 zeroTtl.shw, .int .i64 zeroTtl.place, .string ⟨zeroTtl.first.toArray⟩, .slice ay zeroTtl.chain.length ky] 24)).heap[q1.heap.size]? = some (.cells #[.int .i64 zeroTtl.serial, .int .i64 zeroTtl.shw, .int .i64 zeroTtl.place, .string ⟨zeroTtl.first.toArray⟩, .slice ay zeroTtl.chain.length ky] 24 (0, 0)) := heap_new rfl
        have c0 := row_cell hby 0
        have c1 := row_cell hby 1
        have c2 := row_cell hby 2
        have c3 := row_cell hby 3
        have c4 := row_cell hby 4
        simp at c0 c1 c2 c3 c4
        have zs : zeroTtl.serial = 0 := rfl
        have zb : (zeroTtl.serial == 0) = true := rfl
        have fe : Fr [] w (q1.alloc (.cells #[.int .i64 zeroTtl.serial, .int .i64 zeroTtl.shw, .int .i64 zeroTtl.place, .string ⟨zeroTtl.first.toArray⟩, .slice ay zeroTtl.chain.length ky] 24)) := fq.alloc _
        have HFE := Lib.hid fe
        clear fe hby
        go_wp2_with fail
        go_ret
        exact ⟨rfl, HFE.out.toBelow (by simp)⟩
      | some g =>
        obtain ⟨hgf, hgt⟩ := (ho2 g).1 rfl
        obtain ⟨vy, rfl, hcy⟩ := (show TtlR q1 vv g from hv)
        obtain ⟨ay, ky, rfl, _, _, _⟩ := hcy.form
        obtain ⟨W5, hW5⟩ : ∃ W5, W5 = q1.alloc (.cells #[.int .i64 g.serial, .int .i64 g.shw, .int .i64 g.place, .string ⟨g.first.toArray⟩, .slice ay g.chain.length ky] 24) := ⟨_, rfl⟩
        obtain ⟨by5, eb5⟩ : ∃ b, b = q1.heap.size := ⟨_, rfl⟩
        have hf : Fr [] q1 W5 := by rw [hW5]; exact (Fr.refl [] q1).alloc _
        have hby : W5.heap[by5]? = some (.cells #[.int .i64 g.serial, .int .i64 g.shw, .int .i64 g.place, .string ⟨g.first.toArray⟩, .slice ay g.chain.length ky] 24 (0, 0)) := by rw [hW5]; exact heap_new eb5
        have c0 := row_cell hby 0
        have c1 := row_cell hby 1
        have c2 := row_cell hby 2
        have c3 := row_cell hby 3
        have c4 := row_cell hby 4
        simp at c0 c1 c2 c3 c4
        rw [hW5, eb5] at c0 c1 c2 c3 c4
        have Hy := Lib.hid (hcy.fr hf)
        have fW5 := fq.trans hf (by simp)
        have HG := Lib.hid (And.intro hgf hgt)
        have HSG := Lib.hid (formedT_small hgf)
        have HW5 := Lib.hid (And.intro eb5 hW5)
        have Hy := Lib.hid (hcy.fr hf)
        have fW5 := fq.trans hf (by simp)
        have HG := Lib.hid (And.intro hgf hgt)
        have HSG := Lib.hid (formedT_small hgf)
        have HW5 := Lib.hid (And.intro eb5 hW5)
        clear hcy hf hgf hgt ho2 hW5 eb5
        go_wp2_with fail
        rw [← HW5.out.1, ← HW5.out.2]
        clear c0 c1 c2 c3 c4
        refine (ttext_any _ g W5 ⟨_, rfl, Hy.out⟩ HSG.out (HT.out.t.fr fW5)).mono ?_
        rintro e q2 ⟨rfl, hbb⟩
        rw [HG.out.2]
        have hf : Fr [] W5 q2 := Fr.ofBelow hbb
        have hby := hf.at hby (by simp)
        have Hy := Lib.hid (Hy.out.fr hf)
        have fq2 := fW5.trans hf (by simp)
        clear hbb hf fW5
        have c0 := row_cell hby 0
        have c1 := row_cell hby 1
        have c2 := row_cell hby 2
        have c3 := row_cell hby 3
        have c4 := row_cell hby 4
        simp at c0 c1 c2 c3 c4
        go_wp2_with fail
        refine (rformed30_any _ g q2 ⟨_, rfl, Hy.out⟩ HSG.out).mono ?_
        rintro e q3 ⟨rfl, hbb⟩
        rw [HG.out.1]
        have hf : Fr [] q2 q3 := Fr.ofBelow hbb
        have fq3 := fq2.trans hf (by simp)
        clear hbb hf fq2
        go_wp2_with fail
        go_ret
        exact ⟨rfl, fq3.toBelow (by simp)⟩
    | true =>
      obtain rfl := parsed_own ho hfa.symm
      have hv : TtlR z1 vv a := hv
      clear ho
      have HFA := Lib.hid hfa.symm
      clear hfa
      have hsn : sa ≠ [] := by rw [HSS.out.1]; exact textT_ne HFA.out
      have s1 : (sa == []) = false := by rw [beq_eq_false_iff_ne]; exact hsn
      have s2 : (sa != []) = true := by rw [bne_iff_ne]; exact hsn
      obtain ⟨vx, rfl, hcx⟩ := hv
      obtain ⟨ax, kx, rfl, _, _, _⟩ := hcx.form
      obtain ⟨W4, hW4⟩ : ∃ W4, W4 = z1.alloc (.cells #[.int .i64 a.serial, .int .i64 a.shw, .int .i64 a.place, .string ⟨a.first.toArray⟩, .slice ax a.chain.length kx] 24) := ⟨_, rfl⟩
      obtain ⟨bx, eb⟩ : ∃ b, b = z1.heap.size := ⟨_, rfl⟩
      have hf : Fr [] z1 W4 := by rw [hW4]; exact (Fr.refl [] z1).alloc _
      have h14 := hf.at hba (by simp)
      have c0 := row_cell h14 0
      have c1 := row_cell h14 1
      have c2 := row_cell h14 2
      have c3 := row_cell h14 3
      have c4 := row_cell h14 4
      simp at c0 c1 c2 c3 c4
      rw [hW4] at c0 c1 c2 c3 c4
      have hba := hf.at hba (by simp)
      have hbo := hf.at hbo (by simp)
      have Ha := Lib.hid (Ha.out.fr hf)
      have Hb := Lib.hid (Hb.out.fr hf)
      have Hx := Lib.hid (hcx.fr hf)
      have fW4 := fz1.trans hf (by simp)
      have hbx : W4.heap[bx]? = some (.cells #[.int .i64 a.serial, .int .i64 a.shw, .int .i64 a.place, .string ⟨a.first.toArray⟩, .slice ax a.chain.length kx] 24 (0, 0)) := by rw [hW4]; exact heap_new eb
      have HW4 := Lib.hid (And.intro eb hW4)
      clear hcx hf h14 eb hW4 fz1
      go_wp2_with fail
      rw [← HW4.out.1, ← HW4.out.2]
      clear c0 c1 c2 c3 c4
      refine (rformed30_any _ a W4 ⟨_, rfl, Ha.out⟩ HSA.out).mono ?_
      rintro e z5 ⟨rfl, hbb⟩
      rw [HFA.out]
      have hf : Fr [] W4 z5 := Fr.ofBelow hbb
      have hba := hf.at hba (by simp)
      have hbo := hf.at hbo (by simp)
      have hbx := hf.at hbx (by simp)
      have Ha := Lib.hid (Ha.out.fr hf)
      have Hb := Lib.hid (Hb.out.fr hf)
      have Hx := Lib.hid (Hx.out.fr hf)
      have fz5 := fW4.trans hf (by simp)
      clear hbb hf fW4
      have c0 := row_cell hba 0
      have c1 := row_cell hba 1
      have c2 := row_cell hba 2
      have c3 := row_cell hba 3
      have c4 := row_cell hba 4
      simp at c0 c1 c2 c3 c4
      have x0 := row_cell hbx 0
      have x1 := row_cell hbx 1
      have x2 := row_cell hbx 2
      have x3 := row_cell hbx 3
      have x4 := row_cell hbx 4
      simp at x0 x1 x2 x3 x4
      go_wp2_with fail
      refine (rsame30_any _ _ a a z5 ⟨_, rfl, Hx.out⟩ ⟨_, rfl, Ha.out⟩).mono ?_
      rintro e z6 ⟨rfl, hbb⟩
      rw [sameT_refl]
      have hf : Fr [] z5 z6 := Fr.ofBelow hbb
      have hba := hf.at hba (by simp)
      have hbo := hf.at hbo (by simp)
      have Ha := Lib.hid (Ha.out.fr hf)
      have Hb := Lib.hid (Hb.out.fr hf)
      have fz6 := fz5.trans hf (by simp)
      clear hbb hf fz5
      clear c0 c1 c2 c3 c4 x0 x1 x2 x3 x4
      have c0 := row_cell hba 0
      have c1 := row_cell hba 1
      have c2 := row_cell hba 2
      have c3 := row_cell hba 3
      have c4 := row_cell hba 4
      simp at c0 c1 c2 c3 c4
      have d0 := row_cell hbo 0
      have d1 := row_cell hbo 1
      have d2 := row_cell hbo 2
      have d3 := row_cell hbo 3
      have d4 := row_cell hbo 4
      simp at d0 d1 d2 d3 d4
      obtain ⟨qs, hqs⟩ : ∃ q, (sa == sb) = q := ⟨_, rfl⟩
      have HQS : Hid (sameT a b = qs) := Lib.hid (by rw [← hqs, HSS.out.1, HSS.out.2]; exact (text_same HFA.out).symm)
      have hqq : (qs != qs) = false := by cases qs <;> rfl
      go_wp2_with fail
      refine (rsame30_any _ _ a b z6 ⟨_, rfl, Ha.out⟩ ⟨_, rfl, Hb.out⟩).mono ?_
      rintro e z7 ⟨rfl, hbb⟩
      rw [HQS.out]
      have hf : Fr [] z6 z7 := Fr.ofBelow hbb
      have hba := hf.at hba (by simp)
      have Ha := Lib.hid (Ha.out.fr hf)
      have fz7 := fz6.trans hf (by simp)
      clear hbb hf fz6
      clear c0 c1 c2 c3 c4 d0 d1 d2 d3 d4
      have c0 := row_cell hba 0
      have c1 := row_cell hba 1
      have c2 := row_cell hba 2
      have c3 := row_cell hba 3
      have c4 := row_cell hba 4
      simp at c0 c1 c2 c3 c4
      go_wp2_with fail
      obtain ⟨va, hva⟩ : ∃ q, q = validT a := ⟨_, rfl⟩
      refine (valid30_any _ a z7 ⟨_, rfl, Ha.out⟩ HSA.out (HT.out.t.fr fz7)).mono ?_
      rintro e z8 ⟨rfl, hbb⟩
      rw [← hva]
      have hf : Fr [] z7 z8 := Fr.ofBelow hbb
      have fz8 := fz7.trans hf (by simp)
      clear hbb hf fz7
      clear hva hqs hqq s1 s2 hsn
      clear c0 c1 c2 c3 c4
      cases va with
      | false =>
        go_wp2_with fail
        refine (tparse_any text z8 (by have := HL.out; omega) (HT.out.fr fz8)).mono ?_
        rintro e q1 ⟨o2, ho2, vv, rfl, hv, hbb⟩
        have fq : Fr [] w q1 := fz8.trans (Y := []) (Fr.ofBelow hbb) (by simp)
        clear hbb
        cases o2 with
        | none =>
          rw [show (if (none : Option Ttl).isSome then (0 : Int) else 4) = 4 from rfl]
          obtain ⟨vy, rfl, hcy⟩ := (show TtlR q1 vv zeroTtl from hv)
          obtain ⟨ay, ky, rfl, _, _, _⟩ := hcy.form
          clear ho2
          have hby : (q1.alloc (.cells #[.int .i64 zeroTtl.serial, .int .i64 zeroTtl.shw, .int .i64 zeroTtl.place, .string ⟨zeroTtl.first.toArray⟩, .slice ay zeroTtl.chain.length ky] 24)).heap[q1.heap.size]? = some (.cells #[.int .i64 zeroTtl.serial, .int .i64 zeroTtl.shw, .int .i64 zeroTtl.place, .string ⟨zeroTtl.first.toArray⟩, .slice ay zeroTtl.chain.length ky] 24 (0, 0)) := heap_new rfl
          have c0 := row_cell hby 0
          have c1 := row_cell hby 1
          have c2 := row_cell hby 2
          have c3 := row_cell hby 3
          have c4 := row_cell hby 4
          simp at c0 c1 c2 c3 c4
          have zs : zeroTtl.serial = 0 := rfl
          have zb : (zeroTtl.serial == 0) = true := rfl
          have fe : Fr [] w (q1.alloc (.cells #[.int .i64 zeroTtl.serial, .int .i64 zeroTtl.shw, .int .i64 zeroTtl.place, .string ⟨zeroTtl.first.toArray⟩, .slice ay zeroTtl.chain.length ky] 24)) := fq.alloc _
          have HFE := Lib.hid fe
          clear fe hby
          go_wp2_with fail
          go_ret
          exact ⟨rfl, HFE.out.toBelow (by simp)⟩
        | some g =>
          obtain ⟨hgf, hgt⟩ := (ho2 g).1 rfl
          obtain ⟨vy, rfl, hcy⟩ := (show TtlR q1 vv g from hv)
          obtain ⟨ay, ky, rfl, _, _, _⟩ := hcy.form
          obtain ⟨W5, hW5⟩ : ∃ W5, W5 = q1.alloc (.cells #[.int .i64 g.serial, .int .i64 g.shw, .int .i64 g.place, .string ⟨g.first.toArray⟩, .slice ay g.chain.length ky] 24) := ⟨_, rfl⟩
          obtain ⟨by5, eb5⟩ : ∃ b, b = q1.heap.size := ⟨_, rfl⟩
          have hf : Fr [] q1 W5 := by rw [hW5]; exact (Fr.refl [] q1).alloc _
          have hby : W5.heap[by5]? = some (.cells #[.int .i64 g.serial, .int .i64 g.shw, .int .i64 g.place, .string ⟨g.first.toArray⟩, .slice ay g.chain.length ky] 24 (0, 0)) := by rw [hW5]; exact heap_new eb5
          have c0 := row_cell hby 0
          have c1 := row_cell hby 1
          have c2 := row_cell hby 2
          have c3 := row_cell hby 3
          have c4 := row_cell hby 4
          simp at c0 c1 c2 c3 c4
          rw [hW5, eb5] at c0 c1 c2 c3 c4
          have Hy := Lib.hid (hcy.fr hf)
          have fW5 := fq.trans hf (by simp)
          have HG := Lib.hid (And.intro hgf hgt)
          have HSG := Lib.hid (formedT_small hgf)
          have HW5 := Lib.hid (And.intro eb5 hW5)
          have Hy := Lib.hid (hcy.fr hf)
          have fW5 := fq.trans hf (by simp)
          have HG := Lib.hid (And.intro hgf hgt)
          have HSG := Lib.hid (formedT_small hgf)
          have HW5 := Lib.hid (And.intro eb5 hW5)
          clear hcy hf hgf hgt ho2 hW5 eb5
          go_wp2_with fail
          rw [← HW5.out.1, ← HW5.out.2]
          clear c0 c1 c2 c3 c4
          refine (ttext_any _ g W5 ⟨_, rfl, Hy.out⟩ HSG.out (HT.out.t.fr fW5)).mono ?_
          rintro e q2 ⟨rfl, hbb⟩
          rw [HG.out.2]
          have hf : Fr [] W5 q2 := Fr.ofBelow hbb
          have hby := hf.at hby (by simp)
          have Hy := Lib.hid (Hy.out.fr hf)
          have fq2 := fW5.trans hf (by simp)
          clear hbb hf fW5
          have c0 := row_cell hby 0
          have c1 := row_cell hby 1
          have c2 := row_cell hby 2
          have c3 := row_cell hby 3
          have c4 := row_cell hby 4
          simp at c0 c1 c2 c3 c4
          go_wp2_with fail
          refine (rformed30_any _ g q2 ⟨_, rfl, Hy.out⟩ HSG.out).mono ?_
          rintro e q3 ⟨rfl, hbb⟩
          rw [HG.out.1]
          have hf : Fr [] q2 q3 := Fr.ofBelow hbb
          have fq3 := fq2.trans hf (by simp)
          clear hbb hf fq2
          go_wp2_with fail
          go_ret
          exact ⟨rfl, fq3.toBelow (by simp)⟩
      | true =>
        go_wp2_with fail
        refine (tparse_any text z8 (by have := HL.out; omega) (HT.out.fr fz8)).mono ?_
        rintro e q1 ⟨o2, ho2, vv, rfl, hv, hbb⟩
        have fq : Fr [] w q1 := fz8.trans (Y := []) (Fr.ofBelow hbb) (by simp)
        clear hbb
        cases o2 with
        | none =>
          rw [show (if (none : Option Ttl).isSome then (0 : Int) else 4) = 4 from rfl]
          obtain ⟨vy, rfl, hcy⟩ := (show TtlR q1 vv zeroTtl from hv)
          obtain ⟨ay, ky, rfl, _, _, _⟩ := hcy.form
          clear ho2
          have hby : (q1.alloc (.cells #[.int .i64 zeroTtl.serial, .int .i64 zeroTtl.shw, .int .i64 zeroTtl.place, .string ⟨zeroTtl.first.toArray⟩, .slice ay zeroTtl.chain.length ky] 24)).heap[q1.heap.size]? = some (.cells #[.int .i64 zeroTtl.serial, .int .i64 zeroTtl.shw, .int .i64 zeroTtl.place, .string ⟨zeroTtl.first.toArray⟩, .slice ay zeroTtl.chain.length ky] 24 (0, 0)) := heap_new rfl
          have c0 := row_cell hby 0
          have c1 := row_cell hby 1
          have c2 := row_cell hby 2
          have c3 := row_cell hby 3
          have c4 := row_cell hby 4
          simp at c0 c1 c2 c3 c4
          have zs : zeroTtl.serial = 0 := rfl
          have zb : (zeroTtl.serial == 0) = true := rfl
          have fe : Fr [] w (q1.alloc (.cells #[.int .i64 zeroTtl.serial, .int .i64 zeroTtl.shw, .int .i64 zeroTtl.place, .string ⟨zeroTtl.first.toArray⟩, .slice ay zeroTtl.chain.length ky] 24)) := fq.alloc _
          have HFE := Lib.hid fe
          clear fe hby
          go_wp2_with fail
          go_ret
          exact ⟨rfl, HFE.out.toBelow (by simp)⟩
        | some g =>
          obtain ⟨hgf, hgt⟩ := (ho2 g).1 rfl
          obtain ⟨vy, rfl, hcy⟩ := (show TtlR q1 vv g from hv)
          obtain ⟨ay, ky, rfl, _, _, _⟩ := hcy.form
          obtain ⟨W5, hW5⟩ : ∃ W5, W5 = q1.alloc (.cells #[.int .i64 g.serial, .int .i64 g.shw, .int .i64 g.place, .string ⟨g.first.toArray⟩, .slice ay g.chain.length ky] 24) := ⟨_, rfl⟩
          obtain ⟨by5, eb5⟩ : ∃ b, b = q1.heap.size := ⟨_, rfl⟩
          have hf : Fr [] q1 W5 := by rw [hW5]; exact (Fr.refl [] q1).alloc _
          have hby : W5.heap[by5]? = some (.cells #[.int .i64 g.serial, .int .i64 g.shw, .int .i64 g.place, .string ⟨g.first.toArray⟩, .slice ay g.chain.length ky] 24 (0, 0)) := by rw [hW5]; exact heap_new eb5
          have c0 := row_cell hby 0
          have c1 := row_cell hby 1
          have c2 := row_cell hby 2
          have c3 := row_cell hby 3
          have c4 := row_cell hby 4
          simp at c0 c1 c2 c3 c4
          rw [hW5, eb5] at c0 c1 c2 c3 c4
          have Hy := Lib.hid (hcy.fr hf)
          have fW5 := fq.trans hf (by simp)
          have HG := Lib.hid (And.intro hgf hgt)
          have HSG := Lib.hid (formedT_small hgf)
          have HW5 := Lib.hid (And.intro eb5 hW5)
          have Hy := Lib.hid (hcy.fr hf)
          have fW5 := fq.trans hf (by simp)
          have HG := Lib.hid (And.intro hgf hgt)
          have HSG := Lib.hid (formedT_small hgf)
          have HW5 := Lib.hid (And.intro eb5 hW5)
          clear hcy hf hgf hgt ho2 hW5 eb5
          go_wp2_with fail
          rw [← HW5.out.1, ← HW5.out.2]
          clear c0 c1 c2 c3 c4
          refine (ttext_any _ g W5 ⟨_, rfl, Hy.out⟩ HSG.out (HT.out.t.fr fW5)).mono ?_
          rintro e q2 ⟨rfl, hbb⟩
          rw [HG.out.2]
          have hf : Fr [] W5 q2 := Fr.ofBelow hbb
          have hby := hf.at hby (by simp)
          have Hy := Lib.hid (Hy.out.fr hf)
          have fq2 := fW5.trans hf (by simp)
          clear hbb hf fW5
          have c0 := row_cell hby 0
          have c1 := row_cell hby 1
          have c2 := row_cell hby 2
          have c3 := row_cell hby 3
          have c4 := row_cell hby 4
          simp at c0 c1 c2 c3 c4
          go_wp2_with fail
          refine (rformed30_any _ g q2 ⟨_, rfl, Hy.out⟩ HSG.out).mono ?_
          rintro e q3 ⟨rfl, hbb⟩
          rw [HG.out.1]
          have hf : Fr [] q2 q3 := Fr.ofBelow hbb
          have fq3 := fq2.trans hf (by simp)
          clear hbb hf fq2
          go_wp2_with fail
          go_ret
          exact ⟨rfl, fq3.toBelow (by simp)⟩
end Go.Proofs.YtennhdgnpodkaaaGreatDoor
