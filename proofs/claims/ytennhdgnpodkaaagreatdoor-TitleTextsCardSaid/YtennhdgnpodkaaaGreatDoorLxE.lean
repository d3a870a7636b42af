/-
  foyerlaw30.TitleExtends.
-/
import Derived.Test.YtennhdgnpodkaaaGreatDoorHeT
namespace Go.Proofs.YtennhdgnpodkaaaGreatDoor
open Go.RowKit

theorem tts_row {w : World} {b : Nat} {cs : Array Value} {fr : Nat × Nat} {l : List Ttl} {n : Nat} (h : w.heap[b]? = some (.cells cs 24 fr)) (hn : n = l.length) (hs : n ≤ 1000000)
    (hc : ∀ (i : Nat) (t : Ttl), l[i]? = some t → cs[i * 5]? = some (.int .i64 t.serial) ∧ cs[i * 5 + 1]? = some (.int .i64 t.shw) ∧ cs[i * 5 + 2]? = some (.int .i64 t.place) ∧ cs[i * 5 + 3]? = some (.string ⟨t.first.toArray⟩) ∧
      ∃ a n, cs[i * 5 + 4]? = some (.slice a t.chain.length n) ∧ Trs w (.slice a t.chain.length n) t.chain) : Tts w (.slice (some ⟨b, 0, none⟩) n n) l := by
  subst hn
  refine ⟨b, 0, l.length, rfl, Nat.le_refl _, by omega, fun i t ht => ?_⟩
  obtain ⟨h0, h1, h2, h3, a, n, h4, h5⟩ := hc i t ht
  rw [Nat.zero_add, row_cell h, row_cell h, row_cell h, row_cell h, row_cell h]
  exact ⟨h0, h1, h2, h3, a, n, h4, h5⟩
set_option maxRecDepth 100000 in
set_option maxHeartbeats 8000000 in
theorem titleExtends_any (av : Value) (a : Ttl) (bv : Value) (b : Ttl) (cv : Value) (c : Ttl) (w : World) (hT : TabsU w) (ha : TtlR w av a) (hna : TNum a) (hb : TtlR w bv b) (hnb : TNum b) (hc : TtlR w cv c) (hnc : TNum c) :
    Calls Tryz.prog 6 #[av, bv, cv] w fun e w' => e = .returned (.bool true) ∧ Below w.heap.size w w' := by
  have hmx : Tryz.prog.follows .mixedOrders = true := by kernel_rfl
  obtain ⟨va, rfl, hca⟩ := ha
  obtain ⟨aa, ka, rfl, _, _, _⟩ := hca.form
  obtain ⟨vb, rfl, hcb⟩ := hb
  obtain ⟨ab, kb, rfl, _, _, _⟩ := hcb.form
  obtain ⟨vc, rfl, hcc⟩ := hc
  obtain ⟨ac, kc, rfl, _, _, _⟩ := hcc.form
  have HT := Lib.hid hT
  have HN := Lib.hid (And.intro hna (And.intro hnb hnc))
  clear hT hna hnb hnc
  obtain ⟨W0, hW0⟩ : ∃ W0, W0 = (((w.alloc (.cells #[.int .i64 a.serial, .int .i64 a.shw, .int .i64 a.place, .string ⟨a.first.toArray⟩, .slice aa a.chain.length ka] 24)).alloc (.cells #[.int .i64 b.serial, .int .i64 b.shw, .int .i64 b.place, .string ⟨b.first.toArray⟩, .slice ab b.chain.length kb] 24)).alloc (.cells #[.int .i64 c.serial, .int .i64 c.shw, .int .i64 c.place, .string ⟨c.first.toArray⟩, .slice ac c.chain.length kc] 24)) := ⟨_, rfl⟩
  obtain ⟨p, ep⟩ : ∃ p, p = w.heap.size := ⟨_, rfl⟩
  have fW0 : Fr [] w W0 := by rw [hW0]; exact (((Fr.refl [] w).alloc _).alloc _).alloc _
  have hba : W0.heap[p]? = some (.cells #[.int .i64 a.serial, .int .i64 a.shw, .int .i64 a.place, .string ⟨a.first.toArray⟩, .slice aa a.chain.length ka] 24 (0, 0)) := by rw [hW0, ep]; exact heap_past _ (heap_past _ (heap_new rfl))
  have hbb0 : W0.heap[p + 1]? = some (.cells #[.int .i64 b.serial, .int .i64 b.shw, .int .i64 b.place, .string ⟨b.first.toArray⟩, .slice ab b.chain.length kb] 24 (0, 0)) := by rw [hW0, ep]; exact heap_past _ (heap_new (by simp))
  have hbc : W0.heap[p + 1 + 1]? = some (.cells #[.int .i64 c.serial, .int .i64 c.shw, .int .i64 c.place, .string ⟨c.first.toArray⟩, .slice ac c.chain.length kc] 24 (0, 0)) := by rw [hW0, ep]; exact heap_new (by simp)
  have Ha := Lib.hid (hca.fr fW0)
  have Hb := Lib.hid (hcb.fr fW0)
  have Hc := Lib.hid (hcc.fr fW0)
  clear hca hcb hcc
  go_enter Tryz.func6, Tryz.ntmps6
  go_wp2_with fail
  rw [← hW0, ← ep]
  clear hW0 ep
  refine (head30_any W0 (HT.out.fr fW0)).mono ?_
  rintro e y1 ⟨rfl, hbb⟩
  have hf : Fr [] W0 y1 := Fr.ofBelow hbb
  have hba := hf.at hba (by simp)
  have hbb0 := hf.at hbb0 (by simp)
  have hbc := hf.at hbc (by simp)
  have Ha := Lib.hid (Ha.out.fr hf)
  have Hb := Lib.hid (Hb.out.fr hf)
  have Hc := Lib.hid (Hc.out.fr hf)
  have fy1 := fW0.trans hf (by simp)
  clear hbb hf fW0
  have c0 := row_cell hba 0
  have c1 := row_cell hba 1
  have c2 := row_cell hba 2
  have c3 := row_cell hba 3
  have c4 := row_cell hba 4
  simp at c0 c1 c2 c3 c4
  have d0 := row_cell hbb0 0
  have d1 := row_cell hbb0 1
  have d2 := row_cell hbb0 2
  have d3 := row_cell hbb0 3
  have d4 := row_cell hbb0 4
  simp at d0 d1 d2 d3 d4
  have e0 := row_cell hbc 0
  have e1 := row_cell hbc 1
  have e2 := row_cell hbc 2
  have e3 := row_cell hbc 3
  have e4 := row_cell hbc 4
  simp at e0 e1 e2 e3 e4
  go_wp2_with fail
  obtain ⟨W2, hW2⟩ : ∃ W2, W2 = y1.alloc (.cells #[.int .i64 a.serial, .int .i64 a.shw, .int .i64 a.place, .string ⟨a.first.toArray⟩, .slice aa a.chain.length ka, .int .i64 b.serial, .int .i64 b.shw, .int .i64 b.place, .string ⟨b.first.toArray⟩, .slice ab b.chain.length kb, .int .i64 c.serial, .int .i64 c.shw, .int .i64 c.place, .string ⟨c.first.toArray⟩, .slice ac c.chain.length kc] 24) := ⟨_, rfl⟩
  have hf : Fr [] y1 W2 := by rw [hW2]; exact (Fr.refl [] y1).alloc _
  have hba := hf.at hba (by simp)
  have hbb0 := hf.at hbb0 (by simp)
  have hbc := hf.at hbc (by simp)
  have Ha := Lib.hid (Ha.out.fr hf)
  have Hb := Lib.hid (Hb.out.fr hf)
  have Hc := Lib.hid (Hc.out.fr hf)
  have fW2 := fy1.trans hf (by simp)
  have hrow : W2.heap[y1.heap.size]? = some (.cells #[.int .i64 a.serial, .int .i64 a.shw, .int .i64 a.place, .string ⟨a.first.toArray⟩, .slice aa a.chain.length ka, .int .i64 b.serial, .int .i64 b.shw, .int .i64 b.place, .string ⟨b.first.toArray⟩, .slice ab b.chain.length kb, .int .i64 c.serial, .int .i64 c.shw, .int .i64 c.place, .string ⟨c.first.toArray⟩, .slice ac c.chain.length kc] 24 (0, 0)) := by rw [hW2]; exact heap_new rfl
  rw [← hW2]
  clear c0 c1 c2 c3 c4 d0 d1 d2 d3 d4 e0 e1 e2 e3 e4
  have htts : Tts W2 (.slice (some ⟨y1.heap.size, 0, none⟩) 3 3) [a, b, c] := tts_row hrow rfl (by decide) (fun i t ht => by
    match i with
    | 0 => obtain rfl : a = t := by simpa using ht
           exact ⟨rfl, rfl, rfl, rfl, aa, ka, rfl, Ha.out⟩
    | 1 => obtain rfl : b = t := by simpa using ht
           exact ⟨rfl, rfl, rfl, rfl, ab, kb, rfl, Hb.out⟩
    | 2 => obtain rfl : c = t := by simpa using ht
           exact ⟨rfl, rfl, rfl, rfl, ac, kc, rfl, Hc.out⟩
    | i + 3 => simp at ht)
  have HTTS := Lib.hid htts
  clear htts hrow hW2 hf fy1
  refine (small30_any _ _ [a, b, c] [] W2 HTTS.out (Or.inl ⟨rfl, rfl⟩)).mono ?_
  rintro e y2 ⟨rfl, hbb⟩
  have hf : Fr [] W2 y2 := Fr.ofBelow hbb
  have hba := hf.at hba (by simp)
  have hbb0 := hf.at hbb0 (by simp)
  have hbc := hf.at hbc (by simp)
  have Ha := Lib.hid (Ha.out.fr hf)
  have Hb := Lib.hid (Hb.out.fr hf)
  have Hc := Lib.hid (Hc.out.fr hf)
  have fy2 := fW2.trans hf (by simp)
  clear hbb hf fW2
  clear HTTS
  obtain ⟨sm, hsm⟩ : ∃ q, q = smallT [a, b, c] [] := ⟨_, rfl⟩
  rw [← hsm]
  cases sm with
  | false =>
    clear hsm
    go_wp2_with fail
    go_ret
    exact ⟨rfl, fy2.toBelow (by simp)⟩
  | true =>
    clear hsm
    have c0 := row_cell hba 0
    have c1 := row_cell hba 1
    have c2 := row_cell hba 2
    have c3 := row_cell hba 3
    have c4 := row_cell hba 4
    simp at c0 c1 c2 c3 c4
    have d0 := row_cell hbb0 0
    have d1 := row_cell hbb0 1
    have d2 := row_cell hbb0 2
    have d3 := row_cell hbb0 3
    have d4 := row_cell hbb0 4
    simp at d0 d1 d2 d3 d4
    have e0 := row_cell hbc 0
    have e1 := row_cell hbc 1
    have e2 := row_cell hbc 2
    have e3 := row_cell hbc 3
    have e4 := row_cell hbc 4
    simp at e0 e1 e2 e3 e4
    go_wp2_with fail
    have gr0 : Fr [] y2 y2.drew := (Fr.refl [] y2).drew
    have hSr0 : y2.drew.cell? ⟨p, 0, none⟩ = some (.int .i64 a.serial) ∧ y2.drew.cell? ⟨p, 1, none⟩ = some (.int .i64 a.shw) ∧ y2.drew.cell? ⟨p, 2, none⟩ = some (.int .i64 a.place) ∧ y2.drew.cell? ⟨p, 3, none⟩ = some (.string ⟨a.first.toArray⟩) ∧ y2.drew.cell? ⟨p, 4, none⟩ = some (.slice aa a.chain.length ka) ∧ y2.drew.cell? ⟨p + 1, 0, none⟩ = some (.int .i64 b.serial) ∧ y2.drew.cell? ⟨p + 1, 1, none⟩ = some (.int .i64 b.shw) ∧ y2.drew.cell? ⟨p + 1, 2, none⟩ = some (.int .i64 b.place) ∧ y2.drew.cell? ⟨p + 1, 3, none⟩ = some (.string ⟨b.first.toArray⟩) ∧ y2.drew.cell? ⟨p + 1, 4, none⟩ = some (.slice ab b.chain.length kb) ∧ y2.drew.cell? ⟨p + 1 + 1, 0, none⟩ = some (.int .i64 c.serial) ∧ y2.drew.cell? ⟨p + 1 + 1, 1, none⟩ = some (.int .i64 c.shw) ∧ y2.drew.cell? ⟨p + 1 + 1, 2, none⟩ = some (.int .i64 c.place) ∧ y2.drew.cell? ⟨p + 1 + 1, 3, none⟩ = some (.string ⟨c.first.toArray⟩) ∧ y2.drew.cell? ⟨p + 1 + 1, 4, none⟩ = some (.slice ac c.chain.length kc) := ⟨gr0.cell c0 (by simp), gr0.cell c1 (by simp), gr0.cell c2 (by simp), gr0.cell c3 (by simp), gr0.cell c4 (by simp), gr0.cell d0 (by simp), gr0.cell d1 (by simp), gr0.cell d2 (by simp), gr0.cell d3 (by simp), gr0.cell d4 (by simp), gr0.cell e0 (by simp), gr0.cell e1 (by simp), gr0.cell e2 (by simp), gr0.cell e3 (by simp), gr0.cell e4 (by simp)⟩
    refine region_held 100 (fun W' => W'.cell? ⟨p, 0, none⟩ = some (.int .i64 a.serial) ∧ W'.cell? ⟨p, 1, none⟩ = some (.int .i64 a.shw) ∧ W'.cell? ⟨p, 2, none⟩ = some (.int .i64 a.place) ∧ W'.cell? ⟨p, 3, none⟩ = some (.string ⟨a.first.toArray⟩) ∧ W'.cell? ⟨p, 4, none⟩ = some (.slice aa a.chain.length ka) ∧ W'.cell? ⟨p + 1, 0, none⟩ = some (.int .i64 b.serial) ∧ W'.cell? ⟨p + 1, 1, none⟩ = some (.int .i64 b.shw) ∧ W'.cell? ⟨p + 1, 2, none⟩ = some (.int .i64 b.place) ∧ W'.cell? ⟨p + 1, 3, none⟩ = some (.string ⟨b.first.toArray⟩) ∧ W'.cell? ⟨p + 1, 4, none⟩ = some (.slice ab b.chain.length kb) ∧ W'.cell? ⟨p + 1 + 1, 0, none⟩ = some (.int .i64 c.serial) ∧ W'.cell? ⟨p + 1 + 1, 1, none⟩ = some (.int .i64 c.shw) ∧ W'.cell? ⟨p + 1 + 1, 2, none⟩ = some (.int .i64 c.place) ∧ W'.cell? ⟨p + 1 + 1, 3, none⟩ = some (.string ⟨c.first.toArray⟩) ∧ W'.cell? ⟨p + 1 + 1, 4, none⟩ = some (.slice ac c.chain.length kc)) hmx ?_
    change Held _ _ _ _ _ _ 16 (Array.replicate 16 false) _ _
    refine hd_take 0 (v := .agg #[.int .i64 a.serial, .int .i64 a.shw, .int .i64 a.place, .string ⟨a.first.toArray⟩, .slice aa a.chain.length ka]) rfl (by kernel_rfl) (by kernel_rfl) (by kernel_rfl) rfl hSr0 (fun W' hS => by obtain ⟨s0, s1, s2, s3, s4, s5, s6, s7, s8, s9, s10, s11, s12, s13, s14⟩ := hS; go_simp) rfl ?_
    refine hd_take 1 (v := .agg #[.int .i64 b.serial, .int .i64 b.shw, .int .i64 b.place, .string ⟨b.first.toArray⟩, .slice ab b.chain.length kb]) rfl (by kernel_rfl) (by kernel_rfl) (by kernel_rfl) rfl hSr0 (fun W' hS => by obtain ⟨s0, s1, s2, s3, s4, s5, s6, s7, s8, s9, s10, s11, s12, s13, s14⟩ := hS; go_simp) rfl ?_
    refine hd_take 3 (v := .agg #[.int .i64 b.serial, .int .i64 b.shw, .int .i64 b.place, .string ⟨b.first.toArray⟩, .slice ab b.chain.length kb]) rfl (by kernel_rfl) (by kernel_rfl) (by kernel_rfl) rfl hSr0 (fun W' hS => by obtain ⟨s0, s1, s2, s3, s4, s5, s6, s7, s8, s9, s10, s11, s12, s13, s14⟩ := hS; go_simp) rfl ?_
    refine hd_take 4 (v := .agg #[.int .i64 a.serial, .int .i64 a.shw, .int .i64 a.place, .string ⟨a.first.toArray⟩, .slice aa a.chain.length ka]) rfl (by kernel_rfl) (by kernel_rfl) (by kernel_rfl) rfl hSr0 (fun W' hS => by obtain ⟨s0, s1, s2, s3, s4, s5, s6, s7, s8, s9, s10, s11, s12, s13, s14⟩ := hS; go_simp) rfl ?_
    refine hd_take 6 (v := .agg #[.int .i64 b.serial, .int .i64 b.shw, .int .i64 b.place, .string ⟨b.first.toArray⟩, .slice ab b.chain.length kb]) rfl (by kernel_rfl) (by kernel_rfl) (by kernel_rfl) rfl hSr0 (fun W' hS => by obtain ⟨s0, s1, s2, s3, s4, s5, s6, s7, s8, s9, s10, s11, s12, s13, s14⟩ := hS; go_simp) rfl ?_
    refine hd_take 7 (v := .agg #[.int .i64 c.serial, .int .i64 c.shw, .int .i64 c.place, .string ⟨c.first.toArray⟩, .slice ac c.chain.length kc]) rfl (by kernel_rfl) (by kernel_rfl) (by kernel_rfl) rfl hSr0 (fun W' hS => by obtain ⟨s0, s1, s2, s3, s4, s5, s6, s7, s8, s9, s10, s11, s12, s13, s14⟩ := hS; go_simp) rfl ?_
    refine hd_take 9 (v := .agg #[.int .i64 a.serial, .int .i64 a.shw, .int .i64 a.place, .string ⟨a.first.toArray⟩, .slice aa a.chain.length ka]) rfl (by kernel_rfl) (by kernel_rfl) (by kernel_rfl) rfl hSr0 (fun W' hS => by obtain ⟨s0, s1, s2, s3, s4, s5, s6, s7, s8, s9, s10, s11, s12, s13, s14⟩ := hS; go_simp) rfl ?_
    refine hd_take 10 (v := .agg #[.int .i64 c.serial, .int .i64 c.shw, .int .i64 c.place, .string ⟨c.first.toArray⟩, .slice ac c.chain.length kc]) rfl (by kernel_rfl) (by kernel_rfl) (by kernel_rfl) rfl hSr0 (fun W' hS => by obtain ⟨s0, s1, s2, s3, s4, s5, s6, s7, s8, s9, s10, s11, s12, s13, s14⟩ := hS; go_simp) rfl ?_
    try simp only [Act.put, List.setIfInBounds_toArray, List.set_cons_zero, List.set_cons_succ]
    refine hd_one 2 (by kernel_rfl) rfl (by kernel_rfl) rfl (fun K' hK => ?_)
    go_simp
    refine (extends_any _ _ a b y2.drew ⟨_, rfl, Ha.out.fr gr0⟩ ⟨_, rfl, Hb.out.fr gr0⟩ HN.out.1 HN.out.2.1 (HT.out.t.fr (fy2.trans gr0 (by simp)))).mono ?_
    rintro e yr1 ⟨rfl, hbb⟩
    have gr1 : Fr [] y2 yr1 := gr0.below hbb gr0.size
    clear hbb
    have hSr1 : yr1.cell? ⟨p, 0, none⟩ = some (.int .i64 a.serial) ∧ yr1.cell? ⟨p, 1, none⟩ = some (.int .i64 a.shw) ∧ yr1.cell? ⟨p, 2, none⟩ = some (.int .i64 a.place) ∧ yr1.cell? ⟨p, 3, none⟩ = some (.string ⟨a.first.toArray⟩) ∧ yr1.cell? ⟨p, 4, none⟩ = some (.slice aa a.chain.length ka) ∧ yr1.cell? ⟨p + 1, 0, none⟩ = some (.int .i64 b.serial) ∧ yr1.cell? ⟨p + 1, 1, none⟩ = some (.int .i64 b.shw) ∧ yr1.cell? ⟨p + 1, 2, none⟩ = some (.int .i64 b.place) ∧ yr1.cell? ⟨p + 1, 3, none⟩ = some (.string ⟨b.first.toArray⟩) ∧ yr1.cell? ⟨p + 1, 4, none⟩ = some (.slice ab b.chain.length kb) ∧ yr1.cell? ⟨p + 1 + 1, 0, none⟩ = some (.int .i64 c.serial) ∧ yr1.cell? ⟨p + 1 + 1, 1, none⟩ = some (.int .i64 c.shw) ∧ yr1.cell? ⟨p + 1 + 1, 2, none⟩ = some (.int .i64 c.place) ∧ yr1.cell? ⟨p + 1 + 1, 3, none⟩ = some (.string ⟨c.first.toArray⟩) ∧ yr1.cell? ⟨p + 1 + 1, 4, none⟩ = some (.slice ac c.chain.length kc) := ⟨gr1.cell c0 (by simp), gr1.cell c1 (by simp), gr1.cell c2 (by simp), gr1.cell c3 (by simp), gr1.cell c4 (by simp), gr1.cell d0 (by simp), gr1.cell d1 (by simp), gr1.cell d2 (by simp), gr1.cell d3 (by simp), gr1.cell d4 (by simp), gr1.cell e0 (by simp), gr1.cell e1 (by simp), gr1.cell e2 (by simp), gr1.cell e3 (by simp), gr1.cell e4 (by simp)⟩
    refine hK.out _ _ (fun _ => hSr1) ?_
    clear hK K'
    try simp only [Act.put, List.setIfInBounds_toArray, List.set_cons_zero, List.set_cons_succ]
    obtain ⟨qab, hqab⟩ : ∃ q, q = extT a b := ⟨_, rfl⟩
    rw [← hqab]
    refine hd_one 5 (by kernel_rfl) rfl (by kernel_rfl) rfl (fun K' hK => ?_)
    go_simp
    refine (extends_any _ _ b a yr1 ⟨_, rfl, Hb.out.fr gr1⟩ ⟨_, rfl, Ha.out.fr gr1⟩ HN.out.2.1 HN.out.1 (HT.out.t.fr (fy2.trans gr1 (by simp)))).mono ?_
    rintro e yr2 ⟨rfl, hbb⟩
    have gr2 : Fr [] y2 yr2 := gr1.below hbb gr1.size
    clear hbb
    have hSr2 : yr2.cell? ⟨p, 0, none⟩ = some (.int .i64 a.serial) ∧ yr2.cell? ⟨p, 1, none⟩ = some (.int .i64 a.shw) ∧ yr2.cell? ⟨p, 2, none⟩ = some (.int .i64 a.place) ∧ yr2.cell? ⟨p, 3, none⟩ = some (.string ⟨a.first.toArray⟩) ∧ yr2.cell? ⟨p, 4, none⟩ = some (.slice aa a.chain.length ka) ∧ yr2.cell? ⟨p + 1, 0, none⟩ = some (.int .i64 b.serial) ∧ yr2.cell? ⟨p + 1, 1, none⟩ = some (.int .i64 b.shw) ∧ yr2.cell? ⟨p + 1, 2, none⟩ = some (.int .i64 b.place) ∧ yr2.cell? ⟨p + 1, 3, none⟩ = some (.string ⟨b.first.toArray⟩) ∧ yr2.cell? ⟨p + 1, 4, none⟩ = some (.slice ab b.chain.length kb) ∧ yr2.cell? ⟨p + 1 + 1, 0, none⟩ = some (.int .i64 c.serial) ∧ yr2.cell? ⟨p + 1 + 1, 1, none⟩ = some (.int .i64 c.shw) ∧ yr2.cell? ⟨p + 1 + 1, 2, none⟩ = some (.int .i64 c.place) ∧ yr2.cell? ⟨p + 1 + 1, 3, none⟩ = some (.string ⟨c.first.toArray⟩) ∧ yr2.cell? ⟨p + 1 + 1, 4, none⟩ = some (.slice ac c.chain.length kc) := ⟨gr2.cell c0 (by simp), gr2.cell c1 (by simp), gr2.cell c2 (by simp), gr2.cell c3 (by simp), gr2.cell c4 (by simp), gr2.cell d0 (by simp), gr2.cell d1 (by simp), gr2.cell d2 (by simp), gr2.cell d3 (by simp), gr2.cell d4 (by simp), gr2.cell e0 (by simp), gr2.cell e1 (by simp), gr2.cell e2 (by simp), gr2.cell e3 (by simp), gr2.cell e4 (by simp)⟩
    refine hK.out _ _ (fun _ => hSr2) ?_
    clear hK K'
    try simp only [Act.put, List.setIfInBounds_toArray, List.set_cons_zero, List.set_cons_succ]
    obtain ⟨qba, hqba⟩ : ∃ q, q = extT b a := ⟨_, rfl⟩
    rw [← hqba]
    refine hd_one 8 (by kernel_rfl) rfl (by kernel_rfl) rfl (fun K' hK => ?_)
    go_simp
    refine (extends_any _ _ b c yr2 ⟨_, rfl, Hb.out.fr gr2⟩ ⟨_, rfl, Hc.out.fr gr2⟩ HN.out.2.1 HN.out.2.2 (HT.out.t.fr (fy2.trans gr2 (by simp)))).mono ?_
    rintro e yr3 ⟨rfl, hbb⟩
    have gr3 : Fr [] y2 yr3 := gr2.below hbb gr2.size
    clear hbb
    have hSr3 : yr3.cell? ⟨p, 0, none⟩ = some (.int .i64 a.serial) ∧ yr3.cell? ⟨p, 1, none⟩ = some (.int .i64 a.shw) ∧ yr3.cell? ⟨p, 2, none⟩ = some (.int .i64 a.place) ∧ yr3.cell? ⟨p, 3, none⟩ = some (.string ⟨a.first.toArray⟩) ∧ yr3.cell? ⟨p, 4, none⟩ = some (.slice aa a.chain.length ka) ∧ yr3.cell? ⟨p + 1, 0, none⟩ = some (.int .i64 b.serial) ∧ yr3.cell? ⟨p + 1, 1, none⟩ = some (.int .i64 b.shw) ∧ yr3.cell? ⟨p + 1, 2, none⟩ = some (.int .i64 b.place) ∧ yr3.cell? ⟨p + 1, 3, none⟩ = some (.string ⟨b.first.toArray⟩) ∧ yr3.cell? ⟨p + 1, 4, none⟩ = some (.slice ab b.chain.length kb) ∧ yr3.cell? ⟨p + 1 + 1, 0, none⟩ = some (.int .i64 c.serial) ∧ yr3.cell? ⟨p + 1 + 1, 1, none⟩ = some (.int .i64 c.shw) ∧ yr3.cell? ⟨p + 1 + 1, 2, none⟩ = some (.int .i64 c.place) ∧ yr3.cell? ⟨p + 1 + 1, 3, none⟩ = some (.string ⟨c.first.toArray⟩) ∧ yr3.cell? ⟨p + 1 + 1, 4, none⟩ = some (.slice ac c.chain.length kc) := ⟨gr3.cell c0 (by simp), gr3.cell c1 (by simp), gr3.cell c2 (by simp), gr3.cell c3 (by simp), gr3.cell c4 (by simp), gr3.cell d0 (by simp), gr3.cell d1 (by simp), gr3.cell d2 (by simp), gr3.cell d3 (by simp), gr3.cell d4 (by simp), gr3.cell e0 (by simp), gr3.cell e1 (by simp), gr3.cell e2 (by simp), gr3.cell e3 (by simp), gr3.cell e4 (by simp)⟩
    refine hK.out _ _ (fun _ => hSr3) ?_
    clear hK K'
    try simp only [Act.put, List.setIfInBounds_toArray, List.set_cons_zero, List.set_cons_succ]
    obtain ⟨qbc, hqbc⟩ : ∃ q, q = extT b c := ⟨_, rfl⟩
    rw [← hqbc]
    refine hd_one 11 (by kernel_rfl) rfl (by kernel_rfl) rfl (fun K' hK => ?_)
    go_simp
    refine (extends_any _ _ a c yr3 ⟨_, rfl, Ha.out.fr gr3⟩ ⟨_, rfl, Hc.out.fr gr3⟩ HN.out.1 HN.out.2.2 (HT.out.t.fr (fy2.trans gr3 (by simp)))).mono ?_
    rintro e yr4 ⟨rfl, hbb⟩
    have gr4 : Fr [] y2 yr4 := gr3.below hbb gr3.size
    clear hbb
    have hSr4 : yr4.cell? ⟨p, 0, none⟩ = some (.int .i64 a.serial) ∧ yr4.cell? ⟨p, 1, none⟩ = some (.int .i64 a.shw) ∧ yr4.cell? ⟨p, 2, none⟩ = some (.int .i64 a.place) ∧ yr4.cell? ⟨p, 3, none⟩ = some (.string ⟨a.first.toArray⟩) ∧ yr4.cell? ⟨p, 4, none⟩ = some (.slice aa a.chain.length ka) ∧ yr4.cell? ⟨p + 1, 0, none⟩ = some (.int .i64 b.serial) ∧ yr4.cell? ⟨p + 1, 1, none⟩ = some (.int .i64 b.shw) ∧ yr4.cell? ⟨p + 1, 2, none⟩ = some (.int .i64 b.place) ∧ yr4.cell? ⟨p + 1, 3, none⟩ = some (.string ⟨b.first.toArray⟩) ∧ yr4.cell? ⟨p + 1, 4, none⟩ = some (.slice ab b.chain.length kb) ∧ yr4.cell? ⟨p + 1 + 1, 0, none⟩ = some (.int .i64 c.serial) ∧ yr4.cell? ⟨p + 1 + 1, 1, none⟩ = some (.int .i64 c.shw) ∧ yr4.cell? ⟨p + 1 + 1, 2, none⟩ = some (.int .i64 c.place) ∧ yr4.cell? ⟨p + 1 + 1, 3, none⟩ = some (.string ⟨c.first.toArray⟩) ∧ yr4.cell? ⟨p + 1 + 1, 4, none⟩ = some (.slice ac c.chain.length kc) := ⟨gr4.cell c0 (by simp), gr4.cell c1 (by simp), gr4.cell c2 (by simp), gr4.cell c3 (by simp), gr4.cell c4 (by simp), gr4.cell d0 (by simp), gr4.cell d1 (by simp), gr4.cell d2 (by simp), gr4.cell d3 (by simp), gr4.cell d4 (by simp), gr4.cell e0 (by simp), gr4.cell e1 (by simp), gr4.cell e2 (by simp), gr4.cell e3 (by simp), gr4.cell e4 (by simp)⟩
    refine hK.out _ _ (fun _ => hSr4) ?_
    clear hK K'
    try simp only [Act.put, List.setIfInBounds_toArray, List.set_cons_zero, List.set_cons_succ]
    obtain ⟨qac, hqac⟩ : ∃ q, q = extT a c := ⟨_, rfl⟩
    rw [← hqac]
    refine hd_take 12 (v := .bool qab) rfl (by kernel_rfl) (by kernel_rfl) (by kernel_rfl) rfl hSr4 (fun W' hS => by go_simp) rfl ?_
    refine hd_take 13 (v := .bool qba) rfl (by kernel_rfl) (by kernel_rfl) (by kernel_rfl) rfl hSr4 (fun W' hS => by go_simp) rfl ?_
    refine hd_take 14 (v := .bool qbc) rfl (by kernel_rfl) (by kernel_rfl) (by kernel_rfl) rfl hSr4 (fun W' hS => by go_simp) rfl ?_
    refine hd_take 15 (v := .bool qac) rfl (by kernel_rfl) (by kernel_rfl) (by kernel_rfl) rfl hSr4 (fun W' hS => by go_simp) rfl ?_
    try simp only [Act.put, List.setIfInBounds_toArray, List.set_cons_zero, List.set_cons_succ]
    refine held_done (by kernel_rfl) ?_
    have hf : Fr [] y2 yr4 := gr4
    have hba := hf.at hba (by simp)
    have hbb0 := hf.at hbb0 (by simp)
    have hbc := hf.at hbc (by simp)
    have Ha := Lib.hid (Ha.out.fr hf)
    have Hb := Lib.hid (Hb.out.fr hf)
    have Hc := Lib.hid (Hc.out.fr hf)
    have fz := fy2.trans hf (by simp)
    have HQ := Lib.hid (And.intro hqab (And.intro hqba (And.intro hqbc hqac)))
    generalize yr4 = z at hba hbb0 hbc Ha Hb Hc fz ⊢
    clear c0 c1 c2 c3 c4 d0 d1 d2 d3 d4 e0 e1 e2 e3 e4
    clear hf gr0 gr1 gr2 gr3 gr4 hSr0 hSr1 hSr2 hSr3 hSr4 fy2 hqab hqba hqbc hqac
    have c0 := row_cell hba 0
    have c1 := row_cell hba 1
    have c2 := row_cell hba 2
    have c3 := row_cell hba 3
    have c4 := row_cell hba 4
    simp at c0 c1 c2 c3 c4
    go_wp2_with fail
    refine (extends_any _ _ a a z ⟨_, rfl, Ha.out⟩ ⟨_, rfl, Ha.out⟩ HN.out.1 HN.out.1 (HT.out.t.fr fz)).mono ?_
    rintro e y5 ⟨rfl, hbb⟩
    rw [extT_refl]
    have hf : Fr [] z y5 := Fr.ofBelow hbb
    have hba := hf.at hba (by simp)
    have hbb0 := hf.at hbb0 (by simp)
    have hbc := hf.at hbc (by simp)
    have Ha := Lib.hid (Ha.out.fr hf)
    have Hb := Lib.hid (Hb.out.fr hf)
    have Hc := Lib.hid (Hc.out.fr hf)
    have fy5 := fz.trans hf (by simp)
    clear hbb hf fz
    clear c0 c1 c2 c3 c4
    skip
    have h1 : qab = true → qbc = true → qac = true := fun h1 h2 => by
      rw [HQ.out.1] at h1; rw [HQ.out.2.2.1] at h2; rw [HQ.out.2.2.2]; exact extT_trans h1 h2
    have h2 : qab = true → qac = true → qbc = false → extT c b = true := fun h1 h2 h3 => by
      rw [HQ.out.1] at h1; rw [HQ.out.2.2.2] at h2; rw [HQ.out.2.2.1] at h3
      rcases extT_two h1 h2 with h | h
      · rw [h] at h3; cases h3
      · exact h
    cases qab with
    | false =>
      clear h1 h2
      cases qba with
      | false =>
        obtain ⟨W7, hW7⟩ : ∃ W7, W7 = y5.alloc (.cells #[.int .i64 a.serial, .int .i64 a.shw, .int .i64 b.place, .string ⟨a.first.toArray⟩, .slice aa a.chain.length ka] 24) := ⟨_, rfl⟩
        have hf : Fr [] y5 W7 := by rw [hW7]; exact (Fr.refl [] y5).alloc _
        have hx7 : W7.heap[y5.heap.size]? = some (.cells #[.int .i64 a.serial, .int .i64 a.shw, .int .i64 b.place, .string ⟨a.first.toArray⟩, .slice aa a.chain.length ka] 24 (0, 0)) := by rw [hW7]; exact heap_new rfl
        have hbb7 := hf.at hbb0 (by simp)
        have c0 := row_cell hba 0
        have c1 := row_cell hba 1
        have c2 := row_cell hba 2
        have c3 := row_cell hba 3
        have c4 := row_cell hba 4
        simp at c0 c1 c2 c3 c4
        have d0 := row_cell hbb0 0
        have d1 := row_cell hbb0 1
        have d2 := row_cell hbb0 2
        have d3 := row_cell hbb0 3
        have d4 := row_cell hbb0 4
        simp at d0 d1 d2 d3 d4
        have z2 := row_cell (((Fr.refl [] y5).alloc (.cells #[.int .i64 a.serial, .int .i64 a.shw, .int .i64 a.place, .string ⟨a.first.toArray⟩, .slice aa a.chain.length ka] 24)).at hbb0 (by simp)) 2
        simp at z2
        have x0 := row_cell hx7 0
        have x1 := row_cell hx7 1
        have x2 := row_cell hx7 2
        have x3 := row_cell hx7 3
        have x4 := row_cell hx7 4
        simp at x0 x1 x2 x3 x4
        rw [hW7] at x0 x1 x2 x3 x4
        have y0 := row_cell hbb7 0
        have y1 := row_cell hbb7 1
        have y2 := row_cell hbb7 2
        have y3 := row_cell hbb7 3
        have y4 := row_cell hbb7 4
        simp at y0 y1 y2 y3 y4
        rw [hW7] at y0 y1 y2 y3 y4
        have f7 := fy5.trans hf (by simp)
        have Ha := Lib.hid (Ha.out.fr hf)
        have Hb := Lib.hid (Hb.out.fr hf)
        have HW7 := Lib.hid hW7
        clear hf hx7 hbb7 hW7
        go_wp2_with fail
        rw [← HW7.out]
        refine (rsame30_any _ _ { a with place := b.place } b W7 ⟨_, rfl, Ha.out⟩ ⟨_, rfl, Hb.out⟩).mono ?_
        rintro e y8 ⟨rfl, hb8⟩
        have f8 := f7.trans (Y := []) (Fr.ofBelow hb8) (by simp)
        rw [← ext_both, ← HQ.out.1, ← HQ.out.2.1]
        clear hb8 c0 c1 c2 c3 c4 d0 d1 d2 d3 d4 x0 x1 x2 x3 x4 z2 y0 y1 y2 y3 y4
        go_wp2_with fail
        go_ret
        exact ⟨rfl, f8.toBelow (by simp)⟩
      | true =>
        obtain ⟨W7, hW7⟩ : ∃ W7, W7 = y5.alloc (.cells #[.int .i64 a.serial, .int .i64 a.shw, .int .i64 b.place, .string ⟨a.first.toArray⟩, .slice aa a.chain.length ka] 24) := ⟨_, rfl⟩
        have hf : Fr [] y5 W7 := by rw [hW7]; exact (Fr.refl [] y5).alloc _
        have hx7 : W7.heap[y5.heap.size]? = some (.cells #[.int .i64 a.serial, .int .i64 a.shw, .int .i64 b.place, .string ⟨a.first.toArray⟩, .slice aa a.chain.length ka] 24 (0, 0)) := by rw [hW7]; exact heap_new rfl
        have hbb7 := hf.at hbb0 (by simp)
        have c0 := row_cell hba 0
        have c1 := row_cell hba 1
        have c2 := row_cell hba 2
        have c3 := row_cell hba 3
        have c4 := row_cell hba 4
        simp at c0 c1 c2 c3 c4
        have d0 := row_cell hbb0 0
        have d1 := row_cell hbb0 1
        have d2 := row_cell hbb0 2
        have d3 := row_cell hbb0 3
        have d4 := row_cell hbb0 4
        simp at d0 d1 d2 d3 d4
        have z2 := row_cell (((Fr.refl [] y5).alloc (.cells #[.int .i64 a.serial, .int .i64 a.shw, .int .i64 a.place, .string ⟨a.first.toArray⟩, .slice aa a.chain.length ka] 24)).at hbb0 (by simp)) 2
        simp at z2
        have x0 := row_cell hx7 0
        have x1 := row_cell hx7 1
        have x2 := row_cell hx7 2
        have x3 := row_cell hx7 3
        have x4 := row_cell hx7 4
        simp at x0 x1 x2 x3 x4
        rw [hW7] at x0 x1 x2 x3 x4
        have y0 := row_cell hbb7 0
        have y1 := row_cell hbb7 1
        have y2 := row_cell hbb7 2
        have y3 := row_cell hbb7 3
        have y4 := row_cell hbb7 4
        simp at y0 y1 y2 y3 y4
        rw [hW7] at y0 y1 y2 y3 y4
        have f7 := fy5.trans hf (by simp)
        have Ha := Lib.hid (Ha.out.fr hf)
        have Hb := Lib.hid (Hb.out.fr hf)
        have HW7 := Lib.hid hW7
        clear hf hx7 hbb7 hW7
        go_wp2_with fail
        rw [← HW7.out]
        refine (rsame30_any _ _ { a with place := b.place } b W7 ⟨_, rfl, Ha.out⟩ ⟨_, rfl, Hb.out⟩).mono ?_
        rintro e y8 ⟨rfl, hb8⟩
        have f8 := f7.trans (Y := []) (Fr.ofBelow hb8) (by simp)
        rw [← ext_both, ← HQ.out.1, ← HQ.out.2.1]
        clear hb8 c0 c1 c2 c3 c4 d0 d1 d2 d3 d4 x0 x1 x2 x3 x4 z2 y0 y1 y2 y3 y4
        go_wp2_with fail
        go_ret
        exact ⟨rfl, f8.toBelow (by simp)⟩
    | true =>
      cases qba with
      | false =>
        cases qbc with
        | false =>
          cases qac with
          | false =>
            clear h1 h2
            obtain ⟨W7, hW7⟩ : ∃ W7, W7 = y5.alloc (.cells #[.int .i64 a.serial, .int .i64 a.shw, .int .i64 b.place, .string ⟨a.first.toArray⟩, .slice aa a.chain.length ka] 24) := ⟨_, rfl⟩
            have hf : Fr [] y5 W7 := by rw [hW7]; exact (Fr.refl [] y5).alloc _
            have hx7 : W7.heap[y5.heap.size]? = some (.cells #[.int .i64 a.serial, .int .i64 a.shw, .int .i64 b.place, .string ⟨a.first.toArray⟩, .slice aa a.chain.length ka] 24 (0, 0)) := by rw [hW7]; exact heap_new rfl
            have hbb7 := hf.at hbb0 (by simp)
            have c0 := row_cell hba 0
            have c1 := row_cell hba 1
            have c2 := row_cell hba 2
            have c3 := row_cell hba 3
            have c4 := row_cell hba 4
            simp at c0 c1 c2 c3 c4
            have d0 := row_cell hbb0 0
            have d1 := row_cell hbb0 1
            have d2 := row_cell hbb0 2
            have d3 := row_cell hbb0 3
            have d4 := row_cell hbb0 4
            simp at d0 d1 d2 d3 d4
            have z2 := row_cell (((Fr.refl [] y5).alloc (.cells #[.int .i64 a.serial, .int .i64 a.shw, .int .i64 a.place, .string ⟨a.first.toArray⟩, .slice aa a.chain.length ka] 24)).at hbb0 (by simp)) 2
            simp at z2
            have x0 := row_cell hx7 0
            have x1 := row_cell hx7 1
            have x2 := row_cell hx7 2
            have x3 := row_cell hx7 3
            have x4 := row_cell hx7 4
            simp at x0 x1 x2 x3 x4
            rw [hW7] at x0 x1 x2 x3 x4
            have y0 := row_cell hbb7 0
            have y1 := row_cell hbb7 1
            have y2 := row_cell hbb7 2
            have y3 := row_cell hbb7 3
            have y4 := row_cell hbb7 4
            simp at y0 y1 y2 y3 y4
            rw [hW7] at y0 y1 y2 y3 y4
            have f7 := fy5.trans hf (by simp)
            have Ha := Lib.hid (Ha.out.fr hf)
            have Hb := Lib.hid (Hb.out.fr hf)
            have HW7 := Lib.hid hW7
            clear hf hx7 hbb7 hW7
            go_wp2_with fail
            rw [← HW7.out]
            refine (rsame30_any _ _ { a with place := b.place } b W7 ⟨_, rfl, Ha.out⟩ ⟨_, rfl, Hb.out⟩).mono ?_
            rintro e y8 ⟨rfl, hb8⟩
            have f8 := f7.trans (Y := []) (Fr.ofBelow hb8) (by simp)
            rw [← ext_both, ← HQ.out.1, ← HQ.out.2.1]
            clear hb8 c0 c1 c2 c3 c4 d0 d1 d2 d3 d4 x0 x1 x2 x3 x4 z2 y0 y1 y2 y3 y4
            go_wp2_with fail
            go_ret
            exact ⟨rfl, f8.toBelow (by simp)⟩
          | true =>
            have HCB := Lib.hid (h2 rfl rfl rfl)
            clear h1 h2
            have c0 := row_cell hbc 0
            have c1 := row_cell hbc 1
            have c2 := row_cell hbc 2
            have c3 := row_cell hbc 3
            have c4 := row_cell hbc 4
            simp at c0 c1 c2 c3 c4
            have d0 := row_cell hbb0 0
            have d1 := row_cell hbb0 1
            have d2 := row_cell hbb0 2
            have d3 := row_cell hbb0 3
            have d4 := row_cell hbb0 4
            simp at d0 d1 d2 d3 d4
            go_wp2_with fail
            refine (extends_any _ _ c b y5 ⟨_, rfl, Hc.out⟩ ⟨_, rfl, Hb.out⟩ HN.out.2.2 HN.out.2.1 (HT.out.t.fr fy5)).mono ?_
            rintro e y6 ⟨rfl, hbb⟩
            rw [HCB.out]
            have hf : Fr [] y5 y6 := Fr.ofBelow hbb
            have hba := hf.at hba (by simp)
            have hbb0 := hf.at hbb0 (by simp)
            have hbc := hf.at hbc (by simp)
            have Ha := Lib.hid (Ha.out.fr hf)
            have Hb := Lib.hid (Hb.out.fr hf)
            have Hc := Lib.hid (Hc.out.fr hf)
            have fy6 := fy5.trans hf (by simp)
            clear hbb hf fy5
            clear c0 c1 c2 c3 c4 d0 d1 d2 d3 d4
            obtain ⟨W7, hW7⟩ : ∃ W7, W7 = y6.alloc (.cells #[.int .i64 a.serial, .int .i64 a.shw, .int .i64 b.place, .string ⟨a.first.toArray⟩, .slice aa a.chain.length ka] 24) := ⟨_, rfl⟩
            have hf : Fr [] y6 W7 := by rw [hW7]; exact (Fr.refl [] y6).alloc _
            have hx7 : W7.heap[y6.heap.size]? = some (.cells #[.int .i64 a.serial, .int .i64 a.shw, .int .i64 b.place, .string ⟨a.first.toArray⟩, .slice aa a.chain.length ka] 24 (0, 0)) := by rw [hW7]; exact heap_new rfl
            have hbb7 := hf.at hbb0 (by simp)
            have c0 := row_cell hba 0
            have c1 := row_cell hba 1
            have c2 := row_cell hba 2
            have c3 := row_cell hba 3
            have c4 := row_cell hba 4
            simp at c0 c1 c2 c3 c4
            have d0 := row_cell hbb0 0
            have d1 := row_cell hbb0 1
            have d2 := row_cell hbb0 2
            have d3 := row_cell hbb0 3
            have d4 := row_cell hbb0 4
            simp at d0 d1 d2 d3 d4
            have z2 := row_cell (((Fr.refl [] y6).alloc (.cells #[.int .i64 a.serial, .int .i64 a.shw, .int .i64 a.place, .string ⟨a.first.toArray⟩, .slice aa a.chain.length ka] 24)).at hbb0 (by simp)) 2
            simp at z2
            have x0 := row_cell hx7 0
            have x1 := row_cell hx7 1
            have x2 := row_cell hx7 2
            have x3 := row_cell hx7 3
            have x4 := row_cell hx7 4
            simp at x0 x1 x2 x3 x4
            rw [hW7] at x0 x1 x2 x3 x4
            have y0 := row_cell hbb7 0
            have y1 := row_cell hbb7 1
            have y2 := row_cell hbb7 2
            have y3 := row_cell hbb7 3
            have y4 := row_cell hbb7 4
            simp at y0 y1 y2 y3 y4
            rw [hW7] at y0 y1 y2 y3 y4
            have f7 := fy6.trans hf (by simp)
            have Ha := Lib.hid (Ha.out.fr hf)
            have Hb := Lib.hid (Hb.out.fr hf)
            have HW7 := Lib.hid hW7
            clear hf hx7 hbb7 hW7
            go_wp2_with fail
            rw [← HW7.out]
            refine (rsame30_any _ _ { a with place := b.place } b W7 ⟨_, rfl, Ha.out⟩ ⟨_, rfl, Hb.out⟩).mono ?_
            rintro e y8 ⟨rfl, hb8⟩
            have f8 := f7.trans (Y := []) (Fr.ofBelow hb8) (by simp)
            rw [← ext_both, ← HQ.out.1, ← HQ.out.2.1]
            clear hb8 c0 c1 c2 c3 c4 d0 d1 d2 d3 d4 x0 x1 x2 x3 x4 z2 y0 y1 y2 y3 y4
            go_wp2_with fail
            go_ret
            exact ⟨rfl, f8.toBelow (by simp)⟩
        | true =>
          cases qac with
          | false =>
            exact absurd (h1 rfl rfl) (by decide)
          | true =>
            clear h1 h2
            obtain ⟨W7, hW7⟩ : ∃ W7, W7 = y5.alloc (.cells #[.int .i64 a.serial, .int .i64 a.shw, .int .i64 b.place, .string ⟨a.first.toArray⟩, .slice aa a.chain.length ka] 24) := ⟨_, rfl⟩
            have hf : Fr [] y5 W7 := by rw [hW7]; exact (Fr.refl [] y5).alloc _
            have hx7 : W7.heap[y5.heap.size]? = some (.cells #[.int .i64 a.serial, .int .i64 a.shw, .int .i64 b.place, .string ⟨a.first.toArray⟩, .slice aa a.chain.length ka] 24 (0, 0)) := by rw [hW7]; exact heap_new rfl
            have hbb7 := hf.at hbb0 (by simp)
            have c0 := row_cell hba 0
            have c1 := row_cell hba 1
            have c2 := row_cell hba 2
            have c3 := row_cell hba 3
            have c4 := row_cell hba 4
            simp at c0 c1 c2 c3 c4
            have d0 := row_cell hbb0 0
            have d1 := row_cell hbb0 1
            have d2 := row_cell hbb0 2
            have d3 := row_cell hbb0 3
            have d4 := row_cell hbb0 4
            simp at d0 d1 d2 d3 d4
            have z2 := row_cell (((Fr.refl [] y5).alloc (.cells #[.int .i64 a.serial, .int .i64 a.shw, .int .i64 a.place, .string ⟨a.first.toArray⟩, .slice aa a.chain.length ka] 24)).at hbb0 (by simp)) 2
            simp at z2
            have x0 := row_cell hx7 0
            have x1 := row_cell hx7 1
            have x2 := row_cell hx7 2
            have x3 := row_cell hx7 3
            have x4 := row_cell hx7 4
            simp at x0 x1 x2 x3 x4
            rw [hW7] at x0 x1 x2 x3 x4
            have y0 := row_cell hbb7 0
            have y1 := row_cell hbb7 1
            have y2 := row_cell hbb7 2
            have y3 := row_cell hbb7 3
            have y4 := row_cell hbb7 4
            simp at y0 y1 y2 y3 y4
            rw [hW7] at y0 y1 y2 y3 y4
            have f7 := fy5.trans hf (by simp)
            have Ha := Lib.hid (Ha.out.fr hf)
            have Hb := Lib.hid (Hb.out.fr hf)
            have HW7 := Lib.hid hW7
            clear hf hx7 hbb7 hW7
            go_wp2_with fail
            rw [← HW7.out]
            refine (rsame30_any _ _ { a with place := b.place } b W7 ⟨_, rfl, Ha.out⟩ ⟨_, rfl, Hb.out⟩).mono ?_
            rintro e y8 ⟨rfl, hb8⟩
            have f8 := f7.trans (Y := []) (Fr.ofBelow hb8) (by simp)
            rw [← ext_both, ← HQ.out.1, ← HQ.out.2.1]
            clear hb8 c0 c1 c2 c3 c4 d0 d1 d2 d3 d4 x0 x1 x2 x3 x4 z2 y0 y1 y2 y3 y4
            go_wp2_with fail
            go_ret
            exact ⟨rfl, f8.toBelow (by simp)⟩
      | true =>
        cases qbc with
        | false =>
          cases qac with
          | false =>
            clear h1 h2
            obtain ⟨W7, hW7⟩ : ∃ W7, W7 = y5.alloc (.cells #[.int .i64 a.serial, .int .i64 a.shw, .int .i64 b.place, .string ⟨a.first.toArray⟩, .slice aa a.chain.length ka] 24) := ⟨_, rfl⟩
            have hf : Fr [] y5 W7 := by rw [hW7]; exact (Fr.refl [] y5).alloc _
            have hx7 : W7.heap[y5.heap.size]? = some (.cells #[.int .i64 a.serial, .int .i64 a.shw, .int .i64 b.place, .string ⟨a.first.toArray⟩, .slice aa a.chain.length ka] 24 (0, 0)) := by rw [hW7]; exact heap_new rfl
            have hbb7 := hf.at hbb0 (by simp)
            have c0 := row_cell hba 0
            have c1 := row_cell hba 1
            have c2 := row_cell hba 2
            have c3 := row_cell hba 3
            have c4 := row_cell hba 4
            simp at c0 c1 c2 c3 c4
            have d0 := row_cell hbb0 0
            have d1 := row_cell hbb0 1
            have d2 := row_cell hbb0 2
            have d3 := row_cell hbb0 3
            have d4 := row_cell hbb0 4
            simp at d0 d1 d2 d3 d4
            have z2 := row_cell (((Fr.refl [] y5).alloc (.cells #[.int .i64 a.serial, .int .i64 a.shw, .int .i64 a.place, .string ⟨a.first.toArray⟩, .slice aa a.chain.length ka] 24)).at hbb0 (by simp)) 2
            simp at z2
            have x0 := row_cell hx7 0
            have x1 := row_cell hx7 1
            have x2 := row_cell hx7 2
            have x3 := row_cell hx7 3
            have x4 := row_cell hx7 4
            simp at x0 x1 x2 x3 x4
            rw [hW7] at x0 x1 x2 x3 x4
            have y0 := row_cell hbb7 0
            have y1 := row_cell hbb7 1
            have y2 := row_cell hbb7 2
            have y3 := row_cell hbb7 3
            have y4 := row_cell hbb7 4
            simp at y0 y1 y2 y3 y4
            rw [hW7] at y0 y1 y2 y3 y4
            have f7 := fy5.trans hf (by simp)
            have Ha := Lib.hid (Ha.out.fr hf)
            have Hb := Lib.hid (Hb.out.fr hf)
            have HW7 := Lib.hid hW7
            clear hf hx7 hbb7 hW7
            go_wp2_with fail
            rw [← HW7.out]
            refine (rsame30_any _ _ { a with place := b.place } b W7 ⟨_, rfl, Ha.out⟩ ⟨_, rfl, Hb.out⟩).mono ?_
            rintro e y8 ⟨rfl, hb8⟩
            have f8 := f7.trans (Y := []) (Fr.ofBelow hb8) (by simp)
            rw [← ext_both, ← HQ.out.1, ← HQ.out.2.1]
            clear hb8 c0 c1 c2 c3 c4 d0 d1 d2 d3 d4 x0 x1 x2 x3 x4 z2 y0 y1 y2 y3 y4
            go_wp2_with fail
            go_ret
            exact ⟨rfl, f8.toBelow (by simp)⟩
          | true =>
            have HCB := Lib.hid (h2 rfl rfl rfl)
            clear h1 h2
            have c0 := row_cell hbc 0
            have c1 := row_cell hbc 1
            have c2 := row_cell hbc 2
            have c3 := row_cell hbc 3
            have c4 := row_cell hbc 4
            simp at c0 c1 c2 c3 c4
            have d0 := row_cell hbb0 0
            have d1 := row_cell hbb0 1
            have d2 := row_cell hbb0 2
            have d3 := row_cell hbb0 3
            have d4 := row_cell hbb0 4
            simp at d0 d1 d2 d3 d4
            go_wp2_with fail
            refine (extends_any _ _ c b y5 ⟨_, rfl, Hc.out⟩ ⟨_, rfl, Hb.out⟩ HN.out.2.2 HN.out.2.1 (HT.out.t.fr fy5)).mono ?_
            rintro e y6 ⟨rfl, hbb⟩
            rw [HCB.out]
            have hf : Fr [] y5 y6 := Fr.ofBelow hbb
            have hba := hf.at hba (by simp)
            have hbb0 := hf.at hbb0 (by simp)
            have hbc := hf.at hbc (by simp)
            have Ha := Lib.hid (Ha.out.fr hf)
            have Hb := Lib.hid (Hb.out.fr hf)
            have Hc := Lib.hid (Hc.out.fr hf)
            have fy6 := fy5.trans hf (by simp)
            clear hbb hf fy5
            clear c0 c1 c2 c3 c4 d0 d1 d2 d3 d4
            obtain ⟨W7, hW7⟩ : ∃ W7, W7 = y6.alloc (.cells #[.int .i64 a.serial, .int .i64 a.shw, .int .i64 b.place, .string ⟨a.first.toArray⟩, .slice aa a.chain.length ka] 24) := ⟨_, rfl⟩
            have hf : Fr [] y6 W7 := by rw [hW7]; exact (Fr.refl [] y6).alloc _
            have hx7 : W7.heap[y6.heap.size]? = some (.cells #[.int .i64 a.serial, .int .i64 a.shw, .int .i64 b.place, .string ⟨a.first.toArray⟩, .slice aa a.chain.length ka] 24 (0, 0)) := by rw [hW7]; exact heap_new rfl
            have hbb7 := hf.at hbb0 (by simp)
            have c0 := row_cell hba 0
            have c1 := row_cell hba 1
            have c2 := row_cell hba 2
            have c3 := row_cell hba 3
            have c4 := row_cell hba 4
            simp at c0 c1 c2 c3 c4
            have d0 := row_cell hbb0 0
            have d1 := row_cell hbb0 1
            have d2 := row_cell hbb0 2
            have d3 := row_cell hbb0 3
            have d4 := row_cell hbb0 4
            simp at d0 d1 d2 d3 d4
            have z2 := row_cell (((Fr.refl [] y6).alloc (.cells #[.int .i64 a.serial, .int .i64 a.shw, .int .i64 a.place, .string ⟨a.first.toArray⟩, .slice aa a.chain.length ka] 24)).at hbb0 (by simp)) 2
            simp at z2
            have x0 := row_cell hx7 0
            have x1 := row_cell hx7 1
            have x2 := row_cell hx7 2
            have x3 := row_cell hx7 3
            have x4 := row_cell hx7 4
            simp at x0 x1 x2 x3 x4
            rw [hW7] at x0 x1 x2 x3 x4
            have y0 := row_cell hbb7 0
            have y1 := row_cell hbb7 1
            have y2 := row_cell hbb7 2
            have y3 := row_cell hbb7 3
            have y4 := row_cell hbb7 4
            simp at y0 y1 y2 y3 y4
            rw [hW7] at y0 y1 y2 y3 y4
            have f7 := fy6.trans hf (by simp)
            have Ha := Lib.hid (Ha.out.fr hf)
            have Hb := Lib.hid (Hb.out.fr hf)
            have HW7 := Lib.hid hW7
            clear hf hx7 hbb7 hW7
            go_wp2_with fail
            rw [← HW7.out]
            refine (rsame30_any _ _ { a with place := b.place } b W7 ⟨_, rfl, Ha.out⟩ ⟨_, rfl, Hb.out⟩).mono ?_
            rintro e y8 ⟨rfl, hb8⟩
            have f8 := f7.trans (Y := []) (Fr.ofBelow hb8) (by simp)
            rw [← ext_both, ← HQ.out.1, ← HQ.out.2.1]
            clear hb8 c0 c1 c2 c3 c4 d0 d1 d2 d3 d4 x0 x1 x2 x3 x4 z2 y0 y1 y2 y3 y4
            go_wp2_with fail
            go_ret
            exact ⟨rfl, f8.toBelow (by simp)⟩
        | true =>
          cases qac with
          | false =>
            exact absurd (h1 rfl rfl) (by decide)
          | true =>
            clear h1 h2
            obtain ⟨W7, hW7⟩ : ∃ W7, W7 = y5.alloc (.cells #[.int .i64 a.serial, .int .i64 a.shw, .int .i64 b.place, .string ⟨a.first.toArray⟩, .slice aa a.chain.length ka] 24) := ⟨_, rfl⟩
            have hf : Fr [] y5 W7 := by rw [hW7]; exact (Fr.refl [] y5).alloc _
            have hx7 : W7.heap[y5.heap.size]? = some (.cells #[.int .i64 a.serial, .int .i64 a.shw, .int .i64 b.place, .string ⟨a.first.toArray⟩, .slice aa a.chain.length ka] 24 (0, 0)) := by rw [hW7]; exact heap_new rfl
            have hbb7 := hf.at hbb0 (by simp)
            have c0 := row_cell hba 0
            have c1 := row_cell hba 1
            have c2 := row_cell hba 2
            have c3 := row_cell hba 3
            have c4 := row_cell hba 4
            simp at c0 c1 c2 c3 c4
            have d0 := row_cell hbb0 0
            have d1 := row_cell hbb0 1
            have d2 := row_cell hbb0 2
            have d3 := row_cell hbb0 3
            have d4 := row_cell hbb0 4
            simp at d0 d1 d2 d3 d4
            have z2 := row_cell (((Fr.refl [] y5).alloc (.cells #[.int .i64 a.serial, .int .i64 a.shw, .int .i64 a.place, .string ⟨a.first.toArray⟩, .slice aa a.chain.length ka] 24)).at hbb0 (by simp)) 2
            simp at z2
            have x0 := row_cell hx7 0
            have x1 := row_cell hx7 1
            have x2 := row_cell hx7 2
            have x3 := row_cell hx7 3
            have x4 := row_cell hx7 4
            simp at x0 x1 x2 x3 x4
            rw [hW7] at x0 x1 x2 x3 x4
            have y0 := row_cell hbb7 0
            have y1 := row_cell hbb7 1
            have y2 := row_cell hbb7 2
            have y3 := row_cell hbb7 3
            have y4 := row_cell hbb7 4
            simp at y0 y1 y2 y3 y4
            rw [hW7] at y0 y1 y2 y3 y4
            have f7 := fy5.trans hf (by simp)
            have Ha := Lib.hid (Ha.out.fr hf)
            have Hb := Lib.hid (Hb.out.fr hf)
            have HW7 := Lib.hid hW7
            clear hf hx7 hbb7 hW7
            go_wp2_with fail
            rw [← HW7.out]
            refine (rsame30_any _ _ { a with place := b.place } b W7 ⟨_, rfl, Ha.out⟩ ⟨_, rfl, Hb.out⟩).mono ?_
            rintro e y8 ⟨rfl, hb8⟩
            have f8 := f7.trans (Y := []) (Fr.ofBelow hb8) (by simp)
            rw [← ext_both, ← HQ.out.1, ← HQ.out.2.1]
            clear hb8 c0 c1 c2 c3 c4 d0 d1 d2 d3 d4 x0 x1 x2 x3 x4 z2 y0 y1 y2 y3 y4
            go_wp2_with fail
            go_ret
            exact ⟨rfl, f8.toBelow (by simp)⟩
end Go.Proofs.YtennhdgnpodkaaaGreatDoor
