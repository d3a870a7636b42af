/-
  foyerlaw30.TitlePlaces.
-/
import Derived.Test.YtennhdgnpodkaaaGreatDoorLxE
namespace Go.Proofs.YtennhdgnpodkaaaGreatDoor
open Go.RowKit
set_option maxRecDepth 100000 in
set_option maxHeartbeats 8000000 in
theorem titlePlaces_any (tv : Value) (t : Ttl) (ov : Value) (o : Ttl) (tk : List UInt8) (n : Int) (w : World) (hn : -9223372036854775808 ≤ n ∧ n < 9223372036854775808) (hT : TabsU w) (ht : TtlR w tv t) (hnt : TNum t) (ho : TtlR w ov o) (hno : TNum o) :
    Calls Tryz.prog 8 #[tv, ov, .string ⟨tk.toArray⟩, .int .i64 n] w fun e w' => e = .returned (.bool true) ∧ Below w.heap.size w w' := by
  have hmx : Tryz.prog.follows .mixedOrders = true := by kernel_rfl
  obtain ⟨vt, rfl, hct⟩ := ht
  obtain ⟨a_t, kt, rfl, _, _, _⟩ := hct.form
  obtain ⟨vo, rfl, hco⟩ := ho
  obtain ⟨ao, ko, rfl, _, _, _⟩ := hco.form
  have HT := Lib.hid hT
  have HN := Lib.hid (And.intro hnt hno)
  have HNN := Lib.hid hn
  clear hT hnt hno hn
  obtain ⟨W0, hW0⟩ : ∃ W0, W0 = (w.alloc (.cells #[.int .i64 t.serial, .int .i64 t.shw, .int .i64 t.place, .string ⟨t.first.toArray⟩, .slice a_t t.chain.length kt] 24)).alloc (.cells #[.int .i64 o.serial, .int .i64 o.shw, .int .i64 o.place, .string ⟨o.first.toArray⟩, .slice ao o.chain.length ko] 24) := ⟨_, rfl⟩
  obtain ⟨p, ep⟩ : ∃ p, p = w.heap.size := ⟨_, rfl⟩
  have fW0 : Fr [] w W0 := by rw [hW0]; exact ((Fr.refl [] w).alloc _).alloc _
  have hbt : W0.heap[p]? = some (.cells #[.int .i64 t.serial, .int .i64 t.shw, .int .i64 t.place, .string ⟨t.first.toArray⟩, .slice a_t t.chain.length kt] 24 (0, 0)) := by rw [hW0, ep]; exact heap_past _ (heap_new rfl)
  have hbo : W0.heap[p + 1]? = some (.cells #[.int .i64 o.serial, .int .i64 o.shw, .int .i64 o.place, .string ⟨o.first.toArray⟩, .slice ao o.chain.length ko] 24 (0, 0)) := by rw [hW0, ep]; exact heap_new (by simp)
  have Ht := Lib.hid (hct.fr fW0)
  have Ho := Lib.hid (hco.fr fW0)
  clear hct hco
  go_enter Tryz.func8, Tryz.ntmps8
  go_wp2_with fail
  rw [← hW0, ← ep]
  clear hW0 ep
  refine (head30_any W0 (HT.out.fr fW0)).mono ?_
  rintro e y1 ⟨rfl, hbb⟩
  have hf : Fr [] W0 y1 := Fr.ofBelow hbb
  have hbt := hf.at hbt (by simp)
  have hbo := hf.at hbo (by simp)
  have Ht := Lib.hid (Ht.out.fr hf)
  have Ho := Lib.hid (Ho.out.fr hf)
  have fy1 := fW0.trans hf (by simp)
  clear hbb hf fW0
  have c0 := row_cell hbt 0
  have c1 := row_cell hbt 1
  have c2 := row_cell hbt 2
  have c3 := row_cell hbt 3
  have c4 := row_cell hbt 4
  simp at c0 c1 c2 c3 c4
  have d0 := row_cell hbo 0
  have d1 := row_cell hbo 1
  have d2 := row_cell hbo 2
  have d3 := row_cell hbo 3
  have d4 := row_cell hbo 4
  simp at d0 d1 d2 d3 d4
  go_wp2_with fail
  obtain ⟨W2, hW2⟩ : ∃ W2, W2 = (y1.alloc (.cells #[.int .i64 t.serial, .int .i64 t.shw, .int .i64 t.place, .string ⟨t.first.toArray⟩, .slice a_t t.chain.length kt, .int .i64 o.serial, .int .i64 o.shw, .int .i64 o.place, .string ⟨o.first.toArray⟩, .slice ao o.chain.length ko] 24)).alloc (.cells #[.string ⟨tk.toArray⟩] 9) := ⟨_, rfl⟩
  have hf : Fr [] y1 W2 := by rw [hW2]; exact ((Fr.refl [] y1).alloc _).alloc _
  have hbt := hf.at hbt (by simp)
  have hbo := hf.at hbo (by simp)
  have Ht := Lib.hid (Ht.out.fr hf)
  have Ho := Lib.hid (Ho.out.fr hf)
  have fW2 := fy1.trans hf (by simp)
  have hrow : W2.heap[y1.heap.size]? = some (.cells #[.int .i64 t.serial, .int .i64 t.shw, .int .i64 t.place, .string ⟨t.first.toArray⟩, .slice a_t t.chain.length kt, .int .i64 o.serial, .int .i64 o.shw, .int .i64 o.place, .string ⟨o.first.toArray⟩, .slice ao o.chain.length ko] 24 (0, 0)) := by rw [hW2]; exact heap_past _ (heap_new rfl)
  have hstr : Strs W2 (.slice (some ⟨y1.heap.size + 1, 0, none⟩) 1 1) [tk] := by rw [hW2]; exact strs_one (heap_new (by simp))
  rw [← hW2]
  clear c0 c1 c2 c3 c4 d0 d1 d2 d3 d4
  have htts : Tts W2 (.slice (some ⟨y1.heap.size, 0, none⟩) 2 2) [t, o] := tts_row hrow rfl (by decide) (fun i x hx => by
    match i with
    | 0 => obtain rfl : t = x := by simpa using hx
           exact ⟨rfl, rfl, rfl, rfl, a_t, kt, rfl, Ht.out⟩
    | 1 => obtain rfl : o = x := by simpa using hx
           exact ⟨rfl, rfl, rfl, rfl, ao, ko, rfl, Ho.out⟩
    | i + 2 => simp at hx)
  have HTTS := Lib.hid (And.intro htts hstr)
  clear htts hrow hstr hW2 hf fy1
  refine (small30_any _ _ [t, o] [tk] W2 HTTS.out.1 HTTS.out.2).mono ?_
  rintro e y2 ⟨rfl, hbb⟩
  have hf : Fr [] W2 y2 := Fr.ofBelow hbb
  have hbt := hf.at hbt (by simp)
  have hbo := hf.at hbo (by simp)
  have Ht := Lib.hid (Ht.out.fr hf)
  have Ho := Lib.hid (Ho.out.fr hf)
  have fy2 := fW2.trans hf (by simp)
  clear hbb hf fW2
  clear HTTS
  obtain ⟨sm, hsm⟩ : ∃ q, q = smallT [t, o] [tk] := ⟨_, rfl⟩
  rw [← hsm]
  cases sm with
  | false =>
    clear hsm
    go_wp2_with fail
    go_ret
    exact ⟨rfl, fy2.toBelow (by simp)⟩
  | true =>
    have hsp := smallT_parts hsm.symm
    have HST := Lib.hid (fewT_small (hsp.1 t (by simp)) (by decide) HN.out.1)
    have HSX : Hid (TSmall { t with place := n }) := Lib.hid ⟨⟨HST.out.s, HST.out.h, by have := HNN.out; simp only; omega⟩, HST.out.f, HST.out.n, HST.out.c⟩
    have HTK := Lib.hid (hsp.2 tk (by simp))
    clear hsm hsp
    obtain ⟨W3, hW3⟩ : ∃ W3, W3 = y2.alloc (.cells #[.int .i64 t.serial, .int .i64 t.shw, .int .i64 n, .string ⟨t.first.toArray⟩, .slice a_t t.chain.length kt] 24) := ⟨_, rfl⟩
    obtain ⟨b, eb⟩ : ∃ b, b = y2.heap.size := ⟨_, rfl⟩
    have hf : Fr [] y2 W3 := by rw [hW3]; exact (Fr.refl [] y2).alloc _
    have c0 := row_cell hbt 0
    have c1 := row_cell hbt 1
    have c2 := row_cell hbt 2
    have c3 := row_cell hbt 3
    have c4 := row_cell hbt 4
    simp at c0 c1 c2 c3 c4
    have hbt := hf.at hbt (by simp)
    have hbo := hf.at hbo (by simp)
    have Ht := Lib.hid (Ht.out.fr hf)
    have Ho := Lib.hid (Ho.out.fr hf)
    have hbx : W3.heap[b]? = some (.cells #[.int .i64 t.serial, .int .i64 t.shw, .int .i64 n, .string ⟨t.first.toArray⟩, .slice a_t t.chain.length kt] 24 (0, 0)) := by rw [hW3]; exact heap_new eb
    have fW3 := fy2.trans hf (by simp)
    go_wp2_with fail
    rw [← eb, ← hW3]
    clear hf hW3 eb fy2
    clear c0 c1 c2 c3 c4
    have c0 := row_cell hbt 0
    have c1 := row_cell hbt 1
    have c2 := row_cell hbt 2
    have c3 := row_cell hbt 3
    have c4 := row_cell hbt 4
    simp at c0 c1 c2 c3 c4
    have d0 := row_cell hbo 0
    have d1 := row_cell hbo 1
    have d2 := row_cell hbo 2
    have d3 := row_cell hbo 3
    have d4 := row_cell hbo 4
    simp at d0 d1 d2 d3 d4
    have x0 := row_cell hbx 0
    have x1 := row_cell hbx 1
    have x2 := row_cell hbx 2
    have x3 := row_cell hbx 3
    have x4 := row_cell hbx 4
    simp at x0 x1 x2 x3 x4
    have gr0 : Fr [] W3 W3.drew := (Fr.refl [] W3).drew
    have hSr0 : W3.drew.cell? ⟨p, 0, none⟩ = some (.int .i64 t.serial) ∧ W3.drew.cell? ⟨p, 1, none⟩ = some (.int .i64 t.shw) ∧ W3.drew.cell? ⟨p, 2, none⟩ = some (.int .i64 t.place) ∧ W3.drew.cell? ⟨p, 3, none⟩ = some (.string ⟨t.first.toArray⟩) ∧ W3.drew.cell? ⟨p, 4, none⟩ = some (.slice a_t t.chain.length kt) ∧ W3.drew.cell? ⟨p + 1, 0, none⟩ = some (.int .i64 o.serial) ∧ W3.drew.cell? ⟨p + 1, 1, none⟩ = some (.int .i64 o.shw) ∧ W3.drew.cell? ⟨p + 1, 2, none⟩ = some (.int .i64 o.place) ∧ W3.drew.cell? ⟨p + 1, 3, none⟩ = some (.string ⟨o.first.toArray⟩) ∧ W3.drew.cell? ⟨p + 1, 4, none⟩ = some (.slice ao o.chain.length ko) ∧ W3.drew.cell? ⟨b, 0, none⟩ = some (.int .i64 t.serial) ∧ W3.drew.cell? ⟨b, 1, none⟩ = some (.int .i64 t.shw) ∧ W3.drew.cell? ⟨b, 2, none⟩ = some (.int .i64 n) ∧ W3.drew.cell? ⟨b, 3, none⟩ = some (.string ⟨t.first.toArray⟩) ∧ W3.drew.cell? ⟨b, 4, none⟩ = some (.slice a_t t.chain.length kt) := ⟨gr0.cell c0 (by simp), gr0.cell c1 (by simp), gr0.cell c2 (by simp), gr0.cell c3 (by simp), gr0.cell c4 (by simp), gr0.cell d0 (by simp), gr0.cell d1 (by simp), gr0.cell d2 (by simp), gr0.cell d3 (by simp), gr0.cell d4 (by simp), gr0.cell x0 (by simp), gr0.cell x1 (by simp), gr0.cell x2 (by simp), gr0.cell x3 (by simp), gr0.cell x4 (by simp)⟩
    refine region_held 100 (fun W' => W'.cell? ⟨p, 0, none⟩ = some (.int .i64 t.serial) ∧ W'.cell? ⟨p, 1, none⟩ = some (.int .i64 t.shw) ∧ W'.cell? ⟨p, 2, none⟩ = some (.int .i64 t.place) ∧ W'.cell? ⟨p, 3, none⟩ = some (.string ⟨t.first.toArray⟩) ∧ W'.cell? ⟨p, 4, none⟩ = some (.slice a_t t.chain.length kt) ∧ W'.cell? ⟨p + 1, 0, none⟩ = some (.int .i64 o.serial) ∧ W'.cell? ⟨p + 1, 1, none⟩ = some (.int .i64 o.shw) ∧ W'.cell? ⟨p + 1, 2, none⟩ = some (.int .i64 o.place) ∧ W'.cell? ⟨p + 1, 3, none⟩ = some (.string ⟨o.first.toArray⟩) ∧ W'.cell? ⟨p + 1, 4, none⟩ = some (.slice ao o.chain.length ko) ∧ W'.cell? ⟨b, 0, none⟩ = some (.int .i64 t.serial) ∧ W'.cell? ⟨b, 1, none⟩ = some (.int .i64 t.shw) ∧ W'.cell? ⟨b, 2, none⟩ = some (.int .i64 n) ∧ W'.cell? ⟨b, 3, none⟩ = some (.string ⟨t.first.toArray⟩) ∧ W'.cell? ⟨b, 4, none⟩ = some (.slice a_t t.chain.length kt)) hmx ?_
    change Held _ _ _ _ _ _ 32 (Array.replicate 32 false) _ _
    refine hd_take 0 (v := .agg #[.int .i64 t.serial, .int .i64 t.shw, .int .i64 n, .string ⟨t.first.toArray⟩, .slice a_t t.chain.length kt]) rfl (by kernel_rfl) (by kernel_rfl) (by kernel_rfl) rfl hSr0 (fun W' hS => by obtain ⟨s0, s1, s2, s3, s4, s5, s6, s7, s8, s9, s10, s11, s12, s13, s14⟩ := hS; go_simp) rfl ?_
    refine hd_take 3 (v := .agg #[.int .i64 t.serial, .int .i64 t.shw, .int .i64 t.place, .string ⟨t.first.toArray⟩, .slice a_t t.chain.length kt]) rfl (by kernel_rfl) (by kernel_rfl) (by kernel_rfl) rfl hSr0 (fun W' hS => by obtain ⟨s0, s1, s2, s3, s4, s5, s6, s7, s8, s9, s10, s11, s12, s13, s14⟩ := hS; go_simp) rfl ?_
    refine hd_take 1 (v := .string ⟨tk.toArray⟩) rfl (by kernel_rfl) (by kernel_rfl) (by kernel_rfl) rfl hSr0 (fun W' hS => by go_simp) rfl ?_
    refine hd_take 4 (v := .string ⟨tk.toArray⟩) rfl (by kernel_rfl) (by kernel_rfl) (by kernel_rfl) rfl hSr0 (fun W' hS => by go_simp) rfl ?_
    try simp only [Act.put, List.setIfInBounds_toArray, List.set_cons_zero, List.set_cons_succ]
    refine hd_one 2 (by kernel_rfl) rfl (by kernel_rfl) rfl (fun K' hK => ?_)
    go_simp
    refine (message_any _ { t with place := n } tk W3.drew ⟨_, rfl, Ht.out.fr gr0⟩ HSX.out (by have := HTK.out; omega) (HT.out.t.fr (fW3.trans gr0 (by simp)))).mono ?_
    rintro e yr1 ⟨rfl, hbb⟩
    have gr1 : Fr [] W3 yr1 := gr0.below hbb gr0.size
    clear hbb
    have hSr1 : yr1.cell? ⟨p, 0, none⟩ = some (.int .i64 t.serial) ∧ yr1.cell? ⟨p, 1, none⟩ = some (.int .i64 t.shw) ∧ yr1.cell? ⟨p, 2, none⟩ = some (.int .i64 t.place) ∧ yr1.cell? ⟨p, 3, none⟩ = some (.string ⟨t.first.toArray⟩) ∧ yr1.cell? ⟨p, 4, none⟩ = some (.slice a_t t.chain.length kt) ∧ yr1.cell? ⟨p + 1, 0, none⟩ = some (.int .i64 o.serial) ∧ yr1.cell? ⟨p + 1, 1, none⟩ = some (.int .i64 o.shw) ∧ yr1.cell? ⟨p + 1, 2, none⟩ = some (.int .i64 o.place) ∧ yr1.cell? ⟨p + 1, 3, none⟩ = some (.string ⟨o.first.toArray⟩) ∧ yr1.cell? ⟨p + 1, 4, none⟩ = some (.slice ao o.chain.length ko) ∧ yr1.cell? ⟨b, 0, none⟩ = some (.int .i64 t.serial) ∧ yr1.cell? ⟨b, 1, none⟩ = some (.int .i64 t.shw) ∧ yr1.cell? ⟨b, 2, none⟩ = some (.int .i64 n) ∧ yr1.cell? ⟨b, 3, none⟩ = some (.string ⟨t.first.toArray⟩) ∧ yr1.cell? ⟨b, 4, none⟩ = some (.slice a_t t.chain.length kt) := ⟨gr1.cell c0 (by simp), gr1.cell c1 (by simp), gr1.cell c2 (by simp), gr1.cell c3 (by simp), gr1.cell c4 (by simp), gr1.cell d0 (by simp), gr1.cell d1 (by simp), gr1.cell d2 (by simp), gr1.cell d3 (by simp), gr1.cell d4 (by simp), gr1.cell x0 (by simp), gr1.cell x1 (by simp), gr1.cell x2 (by simp), gr1.cell x3 (by simp), gr1.cell x4 (by simp)⟩
    refine hK.out _ _ (fun _ => hSr1) ?_
    clear hK K'
    try simp only [Act.put, List.setIfInBounds_toArray, List.set_cons_zero, List.set_cons_succ]
    rw [msgT_place]
    obtain ⟨m, hm⟩ : ∃ m, m = msgT t tk := ⟨_, rfl⟩
    rw [← hm]
    refine hd_one 5 (by kernel_rfl) rfl (by kernel_rfl) rfl (fun K' hK => ?_)
    go_simp
    refine (message_any _ t tk yr1 ⟨_, rfl, Ht.out.fr gr1⟩ HST.out (by have := HTK.out; omega) (HT.out.t.fr (fW3.trans gr1 (by simp)))).mono ?_
    rintro e yr2 ⟨rfl, hbb⟩
    have gr2 : Fr [] W3 yr2 := gr1.below hbb gr1.size
    clear hbb
    have hSr2 : yr2.cell? ⟨p, 0, none⟩ = some (.int .i64 t.serial) ∧ yr2.cell? ⟨p, 1, none⟩ = some (.int .i64 t.shw) ∧ yr2.cell? ⟨p, 2, none⟩ = some (.int .i64 t.place) ∧ yr2.cell? ⟨p, 3, none⟩ = some (.string ⟨t.first.toArray⟩) ∧ yr2.cell? ⟨p, 4, none⟩ = some (.slice a_t t.chain.length kt) ∧ yr2.cell? ⟨p + 1, 0, none⟩ = some (.int .i64 o.serial) ∧ yr2.cell? ⟨p + 1, 1, none⟩ = some (.int .i64 o.shw) ∧ yr2.cell? ⟨p + 1, 2, none⟩ = some (.int .i64 o.place) ∧ yr2.cell? ⟨p + 1, 3, none⟩ = some (.string ⟨o.first.toArray⟩) ∧ yr2.cell? ⟨p + 1, 4, none⟩ = some (.slice ao o.chain.length ko) ∧ yr2.cell? ⟨b, 0, none⟩ = some (.int .i64 t.serial) ∧ yr2.cell? ⟨b, 1, none⟩ = some (.int .i64 t.shw) ∧ yr2.cell? ⟨b, 2, none⟩ = some (.int .i64 n) ∧ yr2.cell? ⟨b, 3, none⟩ = some (.string ⟨t.first.toArray⟩) ∧ yr2.cell? ⟨b, 4, none⟩ = some (.slice a_t t.chain.length kt) := ⟨gr2.cell c0 (by simp), gr2.cell c1 (by simp), gr2.cell c2 (by simp), gr2.cell c3 (by simp), gr2.cell c4 (by simp), gr2.cell d0 (by simp), gr2.cell d1 (by simp), gr2.cell d2 (by simp), gr2.cell d3 (by simp), gr2.cell d4 (by simp), gr2.cell x0 (by simp), gr2.cell x1 (by simp), gr2.cell x2 (by simp), gr2.cell x3 (by simp), gr2.cell x4 (by simp)⟩
    refine hK.out _ _ (fun _ => hSr2) ?_
    clear hK K'
    try simp only [Act.put, List.setIfInBounds_toArray, List.set_cons_zero, List.set_cons_succ]
    rw [← hm]
    clear hm
    refine hd_take 6 (v := .bool false) rfl (by kernel_rfl) (by kernel_rfl) (by kernel_rfl) rfl hSr2 (fun W' hS => by go_simp) rfl ?_
    try simp only [Act.put, List.setIfInBounds_toArray, List.set_cons_zero, List.set_cons_succ]
    refine hd_take 7 (v := .bool false) rfl (by kernel_rfl) (by kernel_rfl) (by kernel_rfl) rfl hSr2 (fun W' hS => by go_simp) rfl ?_
    try simp only [Act.put, List.setIfInBounds_toArray, List.set_cons_zero, List.set_cons_succ]
    refine hd_take 8 (v := .agg #[.int .i64 t.serial, .int .i64 t.shw, .int .i64 n, .string ⟨t.first.toArray⟩, .slice a_t t.chain.length kt]) rfl (by kernel_rfl) (by kernel_rfl) (by kernel_rfl) rfl hSr2 (fun W' hS => by obtain ⟨s0, s1, s2, s3, s4, s5, s6, s7, s8, s9, s10, s11, s12, s13, s14⟩ := hS; go_simp) rfl ?_
    refine hd_take 10 (v := .agg #[.int .i64 t.serial, .int .i64 t.shw, .int .i64 t.place, .string ⟨t.first.toArray⟩, .slice a_t t.chain.length kt]) rfl (by kernel_rfl) (by kernel_rfl) (by kernel_rfl) rfl hSr2 (fun W' hS => by obtain ⟨s0, s1, s2, s3, s4, s5, s6, s7, s8, s9, s10, s11, s12, s13, s14⟩ := hS; go_simp) rfl ?_
    try simp only [Act.put, List.setIfInBounds_toArray, List.set_cons_zero, List.set_cons_succ]
    refine hd_one 9 (by kernel_rfl) rfl (by kernel_rfl) rfl (fun K' hK => ?_)
    go_simp
    refine (owner_any _ { t with place := n } yr2 ⟨_, rfl, Ht.out.fr gr2⟩).mono ?_
    rintro e yr3 ⟨rfl, hbb⟩
    have gr3 : Fr [] W3 yr3 := gr2.below hbb gr2.size
    clear hbb
    have hSr3 : yr3.cell? ⟨p, 0, none⟩ = some (.int .i64 t.serial) ∧ yr3.cell? ⟨p, 1, none⟩ = some (.int .i64 t.shw) ∧ yr3.cell? ⟨p, 2, none⟩ = some (.int .i64 t.place) ∧ yr3.cell? ⟨p, 3, none⟩ = some (.string ⟨t.first.toArray⟩) ∧ yr3.cell? ⟨p, 4, none⟩ = some (.slice a_t t.chain.length kt) ∧ yr3.cell? ⟨p + 1, 0, none⟩ = some (.int .i64 o.serial) ∧ yr3.cell? ⟨p + 1, 1, none⟩ = some (.int .i64 o.shw) ∧ yr3.cell? ⟨p + 1, 2, none⟩ = some (.int .i64 o.place) ∧ yr3.cell? ⟨p + 1, 3, none⟩ = some (.string ⟨o.first.toArray⟩) ∧ yr3.cell? ⟨p + 1, 4, none⟩ = some (.slice ao o.chain.length ko) ∧ yr3.cell? ⟨b, 0, none⟩ = some (.int .i64 t.serial) ∧ yr3.cell? ⟨b, 1, none⟩ = some (.int .i64 t.shw) ∧ yr3.cell? ⟨b, 2, none⟩ = some (.int .i64 n) ∧ yr3.cell? ⟨b, 3, none⟩ = some (.string ⟨t.first.toArray⟩) ∧ yr3.cell? ⟨b, 4, none⟩ = some (.slice a_t t.chain.length kt) := ⟨gr3.cell c0 (by simp), gr3.cell c1 (by simp), gr3.cell c2 (by simp), gr3.cell c3 (by simp), gr3.cell c4 (by simp), gr3.cell d0 (by simp), gr3.cell d1 (by simp), gr3.cell d2 (by simp), gr3.cell d3 (by simp), gr3.cell d4 (by simp), gr3.cell x0 (by simp), gr3.cell x1 (by simp), gr3.cell x2 (by simp), gr3.cell x3 (by simp), gr3.cell x4 (by simp)⟩
    refine hK.out _ _ (fun _ => hSr3) ?_
    clear hK K'
    try simp only [Act.put, List.setIfInBounds_toArray, List.set_cons_zero, List.set_cons_succ]
    rw [ownerT_place]
    obtain ⟨m2, hm2⟩ : ∃ m, m = ownerT t := ⟨_, rfl⟩
    rw [← hm2]
    refine hd_one 11 (by kernel_rfl) rfl (by kernel_rfl) rfl (fun K' hK => ?_)
    go_simp
    refine (owner_any _ t yr3 ⟨_, rfl, Ht.out.fr gr3⟩).mono ?_
    rintro e yr4 ⟨rfl, hbb⟩
    have gr4 : Fr [] W3 yr4 := gr3.below hbb gr3.size
    clear hbb
    have hSr4 : yr4.cell? ⟨p, 0, none⟩ = some (.int .i64 t.serial) ∧ yr4.cell? ⟨p, 1, none⟩ = some (.int .i64 t.shw) ∧ yr4.cell? ⟨p, 2, none⟩ = some (.int .i64 t.place) ∧ yr4.cell? ⟨p, 3, none⟩ = some (.string ⟨t.first.toArray⟩) ∧ yr4.cell? ⟨p, 4, none⟩ = some (.slice a_t t.chain.length kt) ∧ yr4.cell? ⟨p + 1, 0, none⟩ = some (.int .i64 o.serial) ∧ yr4.cell? ⟨p + 1, 1, none⟩ = some (.int .i64 o.shw) ∧ yr4.cell? ⟨p + 1, 2, none⟩ = some (.int .i64 o.place) ∧ yr4.cell? ⟨p + 1, 3, none⟩ = some (.string ⟨o.first.toArray⟩) ∧ yr4.cell? ⟨p + 1, 4, none⟩ = some (.slice ao o.chain.length ko) ∧ yr4.cell? ⟨b, 0, none⟩ = some (.int .i64 t.serial) ∧ yr4.cell? ⟨b, 1, none⟩ = some (.int .i64 t.shw) ∧ yr4.cell? ⟨b, 2, none⟩ = some (.int .i64 n) ∧ yr4.cell? ⟨b, 3, none⟩ = some (.string ⟨t.first.toArray⟩) ∧ yr4.cell? ⟨b, 4, none⟩ = some (.slice a_t t.chain.length kt) := ⟨gr4.cell c0 (by simp), gr4.cell c1 (by simp), gr4.cell c2 (by simp), gr4.cell c3 (by simp), gr4.cell c4 (by simp), gr4.cell d0 (by simp), gr4.cell d1 (by simp), gr4.cell d2 (by simp), gr4.cell d3 (by simp), gr4.cell d4 (by simp), gr4.cell x0 (by simp), gr4.cell x1 (by simp), gr4.cell x2 (by simp), gr4.cell x3 (by simp), gr4.cell x4 (by simp)⟩
    refine hK.out _ _ (fun _ => hSr4) ?_
    clear hK K'
    try simp only [Act.put, List.setIfInBounds_toArray, List.set_cons_zero, List.set_cons_succ]
    rw [← hm2]
    clear hm2
    refine hd_take 12 (v := .bool false) rfl (by kernel_rfl) (by kernel_rfl) (by kernel_rfl) rfl hSr4 (fun W' hS => by go_simp) rfl ?_
    try simp only [Act.put, List.setIfInBounds_toArray, List.set_cons_zero, List.set_cons_succ]
    refine hd_take 13 (v := .bool false) rfl (by kernel_rfl) (by kernel_rfl) (by kernel_rfl) rfl hSr4 (fun W' hS => by go_simp) rfl ?_
    try simp only [Act.put, List.setIfInBounds_toArray, List.set_cons_zero, List.set_cons_succ]
    refine hd_take 14 (v := .bool false) rfl (by kernel_rfl) (by kernel_rfl) (by kernel_rfl) rfl hSr4 (fun W' hS => by go_simp) rfl ?_
    try simp only [Act.put, List.setIfInBounds_toArray, List.set_cons_zero, List.set_cons_succ]
    refine hd_take 15 (v := .agg #[.int .i64 t.serial, .int .i64 t.shw, .int .i64 n, .string ⟨t.first.toArray⟩, .slice a_t t.chain.length kt]) rfl (by kernel_rfl) (by kernel_rfl) (by kernel_rfl) rfl hSr4 (fun W' hS => by obtain ⟨s0, s1, s2, s3, s4, s5, s6, s7, s8, s9, s10, s11, s12, s13, s14⟩ := hS; go_simp) rfl ?_
    refine hd_take 16 (v := .agg #[.int .i64 o.serial, .int .i64 o.shw, .int .i64 o.place, .string ⟨o.first.toArray⟩, .slice ao o.chain.length ko]) rfl (by kernel_rfl) (by kernel_rfl) (by kernel_rfl) rfl hSr4 (fun W' hS => by obtain ⟨s0, s1, s2, s3, s4, s5, s6, s7, s8, s9, s10, s11, s12, s13, s14⟩ := hS; go_simp) rfl ?_
    refine hd_take 18 (v := .agg #[.int .i64 t.serial, .int .i64 t.shw, .int .i64 t.place, .string ⟨t.first.toArray⟩, .slice a_t t.chain.length kt]) rfl (by kernel_rfl) (by kernel_rfl) (by kernel_rfl) rfl hSr4 (fun W' hS => by obtain ⟨s0, s1, s2, s3, s4, s5, s6, s7, s8, s9, s10, s11, s12, s13, s14⟩ := hS; go_simp) rfl ?_
    refine hd_take 19 (v := .agg #[.int .i64 o.serial, .int .i64 o.shw, .int .i64 o.place, .string ⟨o.first.toArray⟩, .slice ao o.chain.length ko]) rfl (by kernel_rfl) (by kernel_rfl) (by kernel_rfl) rfl hSr4 (fun W' hS => by obtain ⟨s0, s1, s2, s3, s4, s5, s6, s7, s8, s9, s10, s11, s12, s13, s14⟩ := hS; go_simp) rfl ?_
    try simp only [Act.put, List.setIfInBounds_toArray, List.set_cons_zero, List.set_cons_succ]
    refine hd_one 17 (by kernel_rfl) rfl (by kernel_rfl) rfl (fun K' hK => ?_)
    go_simp
    refine (extends_any _ _ { t with place := n } o yr4 ⟨_, rfl, Ht.out.fr gr4⟩ ⟨_, rfl, Ho.out.fr gr4⟩ HSX.out.toTNum HN.out.2 (HT.out.t.fr (fW3.trans gr4 (by simp)))).mono ?_
    rintro e yr5 ⟨rfl, hbb⟩
    have gr5 : Fr [] W3 yr5 := gr4.below hbb gr4.size
    clear hbb
    have hSr5 : yr5.cell? ⟨p, 0, none⟩ = some (.int .i64 t.serial) ∧ yr5.cell? ⟨p, 1, none⟩ = some (.int .i64 t.shw) ∧ yr5.cell? ⟨p, 2, none⟩ = some (.int .i64 t.place) ∧ yr5.cell? ⟨p, 3, none⟩ = some (.string ⟨t.first.toArray⟩) ∧ yr5.cell? ⟨p, 4, none⟩ = some (.slice a_t t.chain.length kt) ∧ yr5.cell? ⟨p + 1, 0, none⟩ = some (.int .i64 o.serial) ∧ yr5.cell? ⟨p + 1, 1, none⟩ = some (.int .i64 o.shw) ∧ yr5.cell? ⟨p + 1, 2, none⟩ = some (.int .i64 o.place) ∧ yr5.cell? ⟨p + 1, 3, none⟩ = some (.string ⟨o.first.toArray⟩) ∧ yr5.cell? ⟨p + 1, 4, none⟩ = some (.slice ao o.chain.length ko) ∧ yr5.cell? ⟨b, 0, none⟩ = some (.int .i64 t.serial) ∧ yr5.cell? ⟨b, 1, none⟩ = some (.int .i64 t.shw) ∧ yr5.cell? ⟨b, 2, none⟩ = some (.int .i64 n) ∧ yr5.cell? ⟨b, 3, none⟩ = some (.string ⟨t.first.toArray⟩) ∧ yr5.cell? ⟨b, 4, none⟩ = some (.slice a_t t.chain.length kt) := ⟨gr5.cell c0 (by simp), gr5.cell c1 (by simp), gr5.cell c2 (by simp), gr5.cell c3 (by simp), gr5.cell c4 (by simp), gr5.cell d0 (by simp), gr5.cell d1 (by simp), gr5.cell d2 (by simp), gr5.cell d3 (by simp), gr5.cell d4 (by simp), gr5.cell x0 (by simp), gr5.cell x1 (by simp), gr5.cell x2 (by simp), gr5.cell x3 (by simp), gr5.cell x4 (by simp)⟩
    refine hK.out _ _ (fun _ => hSr5) ?_
    clear hK K'
    try simp only [Act.put, List.setIfInBounds_toArray, List.set_cons_zero, List.set_cons_succ]
    rw [extT_place]
    obtain ⟨q1, hq1⟩ : ∃ m, m = extT t o := ⟨_, rfl⟩
    rw [← hq1]
    refine hd_one 20 (by kernel_rfl) rfl (by kernel_rfl) rfl (fun K' hK => ?_)
    go_simp
    refine (extends_any _ _ t o yr5 ⟨_, rfl, Ht.out.fr gr5⟩ ⟨_, rfl, Ho.out.fr gr5⟩ HN.out.1 HN.out.2 (HT.out.t.fr (fW3.trans gr5 (by simp)))).mono ?_
    rintro e yr6 ⟨rfl, hbb⟩
    have gr6 : Fr [] W3 yr6 := gr5.below hbb gr5.size
    clear hbb
    have hSr6 : yr6.cell? ⟨p, 0, none⟩ = some (.int .i64 t.serial) ∧ yr6.cell? ⟨p, 1, none⟩ = some (.int .i64 t.shw) ∧ yr6.cell? ⟨p, 2, none⟩ = some (.int .i64 t.place) ∧ yr6.cell? ⟨p, 3, none⟩ = some (.string ⟨t.first.toArray⟩) ∧ yr6.cell? ⟨p, 4, none⟩ = some (.slice a_t t.chain.length kt) ∧ yr6.cell? ⟨p + 1, 0, none⟩ = some (.int .i64 o.serial) ∧ yr6.cell? ⟨p + 1, 1, none⟩ = some (.int .i64 o.shw) ∧ yr6.cell? ⟨p + 1, 2, none⟩ = some (.int .i64 o.place) ∧ yr6.cell? ⟨p + 1, 3, none⟩ = some (.string ⟨o.first.toArray⟩) ∧ yr6.cell? ⟨p + 1, 4, none⟩ = some (.slice ao o.chain.length ko) ∧ yr6.cell? ⟨b, 0, none⟩ = some (.int .i64 t.serial) ∧ yr6.cell? ⟨b, 1, none⟩ = some (.int .i64 t.shw) ∧ yr6.cell? ⟨b, 2, none⟩ = some (.int .i64 n) ∧ yr6.cell? ⟨b, 3, none⟩ = some (.string ⟨t.first.toArray⟩) ∧ yr6.cell? ⟨b, 4, none⟩ = some (.slice a_t t.chain.length kt) := ⟨gr6.cell c0 (by simp), gr6.cell c1 (by simp), gr6.cell c2 (by simp), gr6.cell c3 (by simp), gr6.cell c4 (by simp), gr6.cell d0 (by simp), gr6.cell d1 (by simp), gr6.cell d2 (by simp), gr6.cell d3 (by simp), gr6.cell d4 (by simp), gr6.cell x0 (by simp), gr6.cell x1 (by simp), gr6.cell x2 (by simp), gr6.cell x3 (by simp), gr6.cell x4 (by simp)⟩
    refine hK.out _ _ (fun _ => hSr6) ?_
    clear hK K'
    try simp only [Act.put, List.setIfInBounds_toArray, List.set_cons_zero, List.set_cons_succ]
    rw [← hq1]
    clear hq1
    have hqq1 : (q1 != q1) = false := by cases q1 <;> rfl
    refine hd_take 21 (v := .bool false) rfl (by kernel_rfl) (by kernel_rfl) (by kernel_rfl) rfl hSr6 (fun W' hS => by go_simp) rfl ?_
    try simp only [Act.put, List.setIfInBounds_toArray, List.set_cons_zero, List.set_cons_succ]
    refine hd_take 22 (v := .bool false) rfl (by kernel_rfl) (by kernel_rfl) (by kernel_rfl) rfl hSr6 (fun W' hS => by go_simp) rfl ?_
    try simp only [Act.put, List.setIfInBounds_toArray, List.set_cons_zero, List.set_cons_succ]
    refine hd_take 23 (v := .bool false) rfl (by kernel_rfl) (by kernel_rfl) (by kernel_rfl) rfl hSr6 (fun W' hS => by go_simp) rfl ?_
    try simp only [Act.put, List.setIfInBounds_toArray, List.set_cons_zero, List.set_cons_succ]
    refine hd_take 24 (v := .agg #[.int .i64 o.serial, .int .i64 o.shw, .int .i64 o.place, .string ⟨o.first.toArray⟩, .slice ao o.chain.length ko]) rfl (by kernel_rfl) (by kernel_rfl) (by kernel_rfl) rfl hSr6 (fun W' hS => by obtain ⟨s0, s1, s2, s3, s4, s5, s6, s7, s8, s9, s10, s11, s12, s13, s14⟩ := hS; go_simp) rfl ?_
    refine hd_take 25 (v := .agg #[.int .i64 t.serial, .int .i64 t.shw, .int .i64 n, .string ⟨t.first.toArray⟩, .slice a_t t.chain.length kt]) rfl (by kernel_rfl) (by kernel_rfl) (by kernel_rfl) rfl hSr6 (fun W' hS => by obtain ⟨s0, s1, s2, s3, s4, s5, s6, s7, s8, s9, s10, s11, s12, s13, s14⟩ := hS; go_simp) rfl ?_
    refine hd_take 27 (v := .agg #[.int .i64 o.serial, .int .i64 o.shw, .int .i64 o.place, .string ⟨o.first.toArray⟩, .slice ao o.chain.length ko]) rfl (by kernel_rfl) (by kernel_rfl) (by kernel_rfl) rfl hSr6 (fun W' hS => by obtain ⟨s0, s1, s2, s3, s4, s5, s6, s7, s8, s9, s10, s11, s12, s13, s14⟩ := hS; go_simp) rfl ?_
    refine hd_take 28 (v := .agg #[.int .i64 t.serial, .int .i64 t.shw, .int .i64 t.place, .string ⟨t.first.toArray⟩, .slice a_t t.chain.length kt]) rfl (by kernel_rfl) (by kernel_rfl) (by kernel_rfl) rfl hSr6 (fun W' hS => by obtain ⟨s0, s1, s2, s3, s4, s5, s6, s7, s8, s9, s10, s11, s12, s13, s14⟩ := hS; go_simp) rfl ?_
    try simp only [Act.put, List.setIfInBounds_toArray, List.set_cons_zero, List.set_cons_succ]
    refine hd_one 26 (by kernel_rfl) rfl (by kernel_rfl) rfl (fun K' hK => ?_)
    go_simp
    refine (extends_any _ _ o { t with place := n } yr6 ⟨_, rfl, Ho.out.fr gr6⟩ ⟨_, rfl, Ht.out.fr gr6⟩ HN.out.2 HSX.out.toTNum (HT.out.t.fr (fW3.trans gr6 (by simp)))).mono ?_
    rintro e yr7 ⟨rfl, hbb⟩
    have gr7 : Fr [] W3 yr7 := gr6.below hbb gr6.size
    clear hbb
    have hSr7 : yr7.cell? ⟨p, 0, none⟩ = some (.int .i64 t.serial) ∧ yr7.cell? ⟨p, 1, none⟩ = some (.int .i64 t.shw) ∧ yr7.cell? ⟨p, 2, none⟩ = some (.int .i64 t.place) ∧ yr7.cell? ⟨p, 3, none⟩ = some (.string ⟨t.first.toArray⟩) ∧ yr7.cell? ⟨p, 4, none⟩ = some (.slice a_t t.chain.length kt) ∧ yr7.cell? ⟨p + 1, 0, none⟩ = some (.int .i64 o.serial) ∧ yr7.cell? ⟨p + 1, 1, none⟩ = some (.int .i64 o.shw) ∧ yr7.cell? ⟨p + 1, 2, none⟩ = some (.int .i64 o.place) ∧ yr7.cell? ⟨p + 1, 3, none⟩ = some (.string ⟨o.first.toArray⟩) ∧ yr7.cell? ⟨p + 1, 4, none⟩ = some (.slice ao o.chain.length ko) ∧ yr7.cell? ⟨b, 0, none⟩ = some (.int .i64 t.serial) ∧ yr7.cell? ⟨b, 1, none⟩ = some (.int .i64 t.shw) ∧ yr7.cell? ⟨b, 2, none⟩ = some (.int .i64 n) ∧ yr7.cell? ⟨b, 3, none⟩ = some (.string ⟨t.first.toArray⟩) ∧ yr7.cell? ⟨b, 4, none⟩ = some (.slice a_t t.chain.length kt) := ⟨gr7.cell c0 (by simp), gr7.cell c1 (by simp), gr7.cell c2 (by simp), gr7.cell c3 (by simp), gr7.cell c4 (by simp), gr7.cell d0 (by simp), gr7.cell d1 (by simp), gr7.cell d2 (by simp), gr7.cell d3 (by simp), gr7.cell d4 (by simp), gr7.cell x0 (by simp), gr7.cell x1 (by simp), gr7.cell x2 (by simp), gr7.cell x3 (by simp), gr7.cell x4 (by simp)⟩
    refine hK.out _ _ (fun _ => hSr7) ?_
    clear hK K'
    try simp only [Act.put, List.setIfInBounds_toArray, List.set_cons_zero, List.set_cons_succ]
    rw [extT_place']
    obtain ⟨q2, hq2⟩ : ∃ m, m = extT o t := ⟨_, rfl⟩
    rw [← hq2]
    refine hd_one 29 (by kernel_rfl) rfl (by kernel_rfl) rfl (fun K' hK => ?_)
    go_simp
    refine (extends_any _ _ o t yr7 ⟨_, rfl, Ho.out.fr gr7⟩ ⟨_, rfl, Ht.out.fr gr7⟩ HN.out.2 HN.out.1 (HT.out.t.fr (fW3.trans gr7 (by simp)))).mono ?_
    rintro e yr8 ⟨rfl, hbb⟩
    have gr8 : Fr [] W3 yr8 := gr7.below hbb gr7.size
    clear hbb
    have hSr8 : yr8.cell? ⟨p, 0, none⟩ = some (.int .i64 t.serial) ∧ yr8.cell? ⟨p, 1, none⟩ = some (.int .i64 t.shw) ∧ yr8.cell? ⟨p, 2, none⟩ = some (.int .i64 t.place) ∧ yr8.cell? ⟨p, 3, none⟩ = some (.string ⟨t.first.toArray⟩) ∧ yr8.cell? ⟨p, 4, none⟩ = some (.slice a_t t.chain.length kt) ∧ yr8.cell? ⟨p + 1, 0, none⟩ = some (.int .i64 o.serial) ∧ yr8.cell? ⟨p + 1, 1, none⟩ = some (.int .i64 o.shw) ∧ yr8.cell? ⟨p + 1, 2, none⟩ = some (.int .i64 o.place) ∧ yr8.cell? ⟨p + 1, 3, none⟩ = some (.string ⟨o.first.toArray⟩) ∧ yr8.cell? ⟨p + 1, 4, none⟩ = some (.slice ao o.chain.length ko) ∧ yr8.cell? ⟨b, 0, none⟩ = some (.int .i64 t.serial) ∧ yr8.cell? ⟨b, 1, none⟩ = some (.int .i64 t.shw) ∧ yr8.cell? ⟨b, 2, none⟩ = some (.int .i64 n) ∧ yr8.cell? ⟨b, 3, none⟩ = some (.string ⟨t.first.toArray⟩) ∧ yr8.cell? ⟨b, 4, none⟩ = some (.slice a_t t.chain.length kt) := ⟨gr8.cell c0 (by simp), gr8.cell c1 (by simp), gr8.cell c2 (by simp), gr8.cell c3 (by simp), gr8.cell c4 (by simp), gr8.cell d0 (by simp), gr8.cell d1 (by simp), gr8.cell d2 (by simp), gr8.cell d3 (by simp), gr8.cell d4 (by simp), gr8.cell x0 (by simp), gr8.cell x1 (by simp), gr8.cell x2 (by simp), gr8.cell x3 (by simp), gr8.cell x4 (by simp)⟩
    refine hK.out _ _ (fun _ => hSr8) ?_
    clear hK K'
    try simp only [Act.put, List.setIfInBounds_toArray, List.set_cons_zero, List.set_cons_succ]
    rw [← hq2]
    clear hq2
    have hqq2 : (q2 != q2) = false := by cases q2 <;> rfl
    refine hd_take 30 (v := .bool false) rfl (by kernel_rfl) (by kernel_rfl) (by kernel_rfl) rfl hSr8 (fun W' hS => by go_simp) rfl ?_
    try simp only [Act.put, List.setIfInBounds_toArray, List.set_cons_zero, List.set_cons_succ]
    refine hd_take 31 (v := .bool false) rfl (by kernel_rfl) (by kernel_rfl) (by kernel_rfl) rfl hSr8 (fun W' hS => by go_simp) rfl ?_
    try simp only [Act.put, List.setIfInBounds_toArray, List.set_cons_zero, List.set_cons_succ]
    refine held_done (by kernel_rfl) ?_
    have hf : Fr [] W3 yr8 := gr8
    have hbt := hf.at hbt (by simp)
    have hbo := hf.at hbo (by simp)
    have hbx := hf.at hbx (by simp)
    have Ht := Lib.hid (Ht.out.fr hf)
    have Ho := Lib.hid (Ho.out.fr hf)
    have fz := fW3.trans hf (by simp)
    generalize yr8 = z at hbt hbo hbx Ht Ho fz ⊢
    clear c0 c1 c2 c3 c4 d0 d1 d2 d3 d4 x0 x1 x2 x3 x4
    clear hf gr0 gr1 gr2 gr3 gr4 gr5 gr6 gr7 gr8 hSr0 hSr1 hSr2 hSr3 hSr4 hSr5 hSr6 hSr7 hSr8 fW3 hqq1 hqq2
    have c0 := row_cell hbt 0
    have c1 := row_cell hbt 1
    have c2 := row_cell hbt 2
    have c3 := row_cell hbt 3
    have c4 := row_cell hbt 4
    simp at c0 c1 c2 c3 c4
    by_cases hA1 : -1 ≤ n
    · by_cases hB : n < 4000
      · skip
        by_cases hA7 : -1 ≤ t.place
        · by_cases hB : t.place < 4000
          · skip
            have u1 : decide (-1 ≤ n) = true := by simp; omega
            have u2 : decide (n < 4000) = true := by simp; omega
            have s1 : decide (-1 ≤ t.place) = true := by simp; omega
            have s2 : decide (t.place < 4000) = true := by simp; omega
            have HVE : Hid (validT { t with place := n } = validT t) := Lib.hid (validT_place (by omega) (by omega))
            skip
            go_wp2_with fail
            have x0 := row_cell hbx 0
            have x1 := row_cell hbx 1
            have x2 := row_cell hbx 2
            have x3 := row_cell hbx 3
            have x4 := row_cell hbx 4
            simp at x0 x1 x2 x3 x4
            have gs0 : Fr [] z z.drew := (Fr.refl [] z).drew
            have hSs0 : z.drew.cell? ⟨p, 0, none⟩ = some (.int .i64 t.serial) ∧ z.drew.cell? ⟨p, 1, none⟩ = some (.int .i64 t.shw) ∧ z.drew.cell? ⟨p, 2, none⟩ = some (.int .i64 t.place) ∧ z.drew.cell? ⟨p, 3, none⟩ = some (.string ⟨t.first.toArray⟩) ∧ z.drew.cell? ⟨p, 4, none⟩ = some (.slice a_t t.chain.length kt) ∧ z.drew.cell? ⟨b, 0, none⟩ = some (.int .i64 t.serial) ∧ z.drew.cell? ⟨b, 1, none⟩ = some (.int .i64 t.shw) ∧ z.drew.cell? ⟨b, 2, none⟩ = some (.int .i64 n) ∧ z.drew.cell? ⟨b, 3, none⟩ = some (.string ⟨t.first.toArray⟩) ∧ z.drew.cell? ⟨b, 4, none⟩ = some (.slice a_t t.chain.length kt) := ⟨gs0.cell c0 (by simp), gs0.cell c1 (by simp), gs0.cell c2 (by simp), gs0.cell c3 (by simp), gs0.cell c4 (by simp), gs0.cell x0 (by simp), gs0.cell x1 (by simp), gs0.cell x2 (by simp), gs0.cell x3 (by simp), gs0.cell x4 (by simp)⟩
            refine region_held 100 (fun W' => W'.cell? ⟨p, 0, none⟩ = some (.int .i64 t.serial) ∧ W'.cell? ⟨p, 1, none⟩ = some (.int .i64 t.shw) ∧ W'.cell? ⟨p, 2, none⟩ = some (.int .i64 t.place) ∧ W'.cell? ⟨p, 3, none⟩ = some (.string ⟨t.first.toArray⟩) ∧ W'.cell? ⟨p, 4, none⟩ = some (.slice a_t t.chain.length kt) ∧ W'.cell? ⟨b, 0, none⟩ = some (.int .i64 t.serial) ∧ W'.cell? ⟨b, 1, none⟩ = some (.int .i64 t.shw) ∧ W'.cell? ⟨b, 2, none⟩ = some (.int .i64 n) ∧ W'.cell? ⟨b, 3, none⟩ = some (.string ⟨t.first.toArray⟩) ∧ W'.cell? ⟨b, 4, none⟩ = some (.slice a_t t.chain.length kt)) hmx ?_
            change Held _ _ _ _ _ _ 25 (Array.replicate 25 false) _ _
            refine hd_take 0 (v := .bool true) rfl (by kernel_rfl) (by kernel_rfl) (by kernel_rfl) rfl hSs0 (fun W' hS => by go_simp) rfl ?_
            try simp only [Act.put, List.setIfInBounds_toArray, List.set_cons_zero, List.set_cons_succ]
            refine hd_take 1 (v := .bool true) rfl (by kernel_rfl) (by kernel_rfl) (by kernel_rfl) rfl hSs0 (fun W' hS => by go_simp) rfl ?_
            try simp only [Act.put, List.setIfInBounds_toArray, List.set_cons_zero, List.set_cons_succ]
            refine hd_take 2 (v := .bool true) rfl (by kernel_rfl) (by kernel_rfl) (by kernel_rfl) rfl hSs0 (fun W' hS => by go_simp) rfl ?_
            try simp only [Act.put, List.setIfInBounds_toArray, List.set_cons_zero, List.set_cons_succ]
            refine hd_take 3 (v := .bool true) rfl (by kernel_rfl) (by kernel_rfl) (by kernel_rfl) rfl hSs0 (fun W' hS => by go_simp) rfl ?_
            try simp only [Act.put, List.setIfInBounds_toArray, List.set_cons_zero, List.set_cons_succ]
            refine hd_skip 4 rfl (by kernel_rfl) (by kernel_rfl) (by kernel_rfl) rfl hSs0 rfl ?_
            refine hd_skip 5 rfl (by kernel_rfl) (by kernel_rfl) (by kernel_rfl) rfl hSs0 rfl ?_
            refine hd_skip 6 rfl (by kernel_rfl) (by kernel_rfl) (by kernel_rfl) rfl hSs0 rfl ?_
            refine hd_take 7 (v := .bool true) rfl (by kernel_rfl) (by kernel_rfl) (by kernel_rfl) rfl hSs0 (fun W' hS => by go_simp) rfl ?_
            try simp only [Act.put, List.setIfInBounds_toArray, List.set_cons_zero, List.set_cons_succ]
            refine hd_take 8 (v := .bool true) rfl (by kernel_rfl) (by kernel_rfl) (by kernel_rfl) rfl hSs0 (fun W' hS => by go_simp) rfl ?_
            try simp only [Act.put, List.setIfInBounds_toArray, List.set_cons_zero, List.set_cons_succ]
            refine hd_take 9 (v := .bool true) rfl (by kernel_rfl) (by kernel_rfl) (by kernel_rfl) rfl hSs0 (fun W' hS => by go_simp) rfl ?_
            try simp only [Act.put, List.setIfInBounds_toArray, List.set_cons_zero, List.set_cons_succ]
            refine hd_take 10 (v := .bool true) rfl (by kernel_rfl) (by kernel_rfl) (by kernel_rfl) rfl hSs0 (fun W' hS => by go_simp) rfl ?_
            try simp only [Act.put, List.setIfInBounds_toArray, List.set_cons_zero, List.set_cons_succ]
            refine hd_take 11 (v := .bool false) rfl (by kernel_rfl) (by kernel_rfl) (by kernel_rfl) rfl hSs0 (fun W' hS => by go_simp) rfl ?_
            try simp only [Act.put, List.setIfInBounds_toArray, List.set_cons_zero, List.set_cons_succ]
            refine hd_take 12 (v := .bool false) rfl (by kernel_rfl) (by kernel_rfl) (by kernel_rfl) rfl hSs0 (fun W' hS => by go_simp) rfl ?_
            try simp only [Act.put, List.setIfInBounds_toArray, List.set_cons_zero, List.set_cons_succ]
            refine hd_take 13 (v := .bool true) rfl (by kernel_rfl) (by kernel_rfl) (by kernel_rfl) rfl hSs0 (fun W' hS => by go_simp) rfl ?_
            try simp only [Act.put, List.setIfInBounds_toArray, List.set_cons_zero, List.set_cons_succ]
            refine hd_take 14 (v := .bool false) rfl (by kernel_rfl) (by kernel_rfl) (by kernel_rfl) rfl hSs0 (fun W' hS => by go_simp) rfl ?_
            try simp only [Act.put, List.setIfInBounds_toArray, List.set_cons_zero, List.set_cons_succ]
            refine hd_take 15 (v := .bool false) rfl (by kernel_rfl) (by kernel_rfl) (by kernel_rfl) rfl hSs0 (fun W' hS => by go_simp) rfl ?_
            try simp only [Act.put, List.setIfInBounds_toArray, List.set_cons_zero, List.set_cons_succ]
            refine hd_take 16 (v := .bool false) rfl (by kernel_rfl) (by kernel_rfl) (by kernel_rfl) rfl hSs0 (fun W' hS => by go_simp) rfl ?_
            try simp only [Act.put, List.setIfInBounds_toArray, List.set_cons_zero, List.set_cons_succ]
            refine hd_take 17 (v := .agg #[.int .i64 t.serial, .int .i64 t.shw, .int .i64 n, .string ⟨t.first.toArray⟩, .slice a_t t.chain.length kt]) rfl (by kernel_rfl) (by kernel_rfl) (by kernel_rfl) rfl hSs0 (fun W' hS => by obtain ⟨s0, s1, s2, s3, s4, s5, s6, s7, s8, s9⟩ := hS; go_simp) rfl ?_
            refine hd_take 19 (v := .agg #[.int .i64 t.serial, .int .i64 t.shw, .int .i64 t.place, .string ⟨t.first.toArray⟩, .slice a_t t.chain.length kt]) rfl (by kernel_rfl) (by kernel_rfl) (by kernel_rfl) rfl hSs0 (fun W' hS => by obtain ⟨s0, s1, s2, s3, s4, s5, s6, s7, s8, s9⟩ := hS; go_simp) rfl ?_
            try simp only [Act.put, List.setIfInBounds_toArray, List.set_cons_zero, List.set_cons_succ]
            refine hd_one 18 (by kernel_rfl) rfl (by kernel_rfl) rfl (fun K' hK => ?_)
            go_simp
            refine (valid30_any _ { t with place := n } z.drew ⟨_, rfl, Ht.out.fr gs0⟩ HSX.out (HT.out.t.fr (fz.trans gs0 (by simp)))).mono ?_
            rintro e ys1 ⟨rfl, hbb⟩
            have gs1 : Fr [] z ys1 := gs0.below hbb gs0.size
            clear hbb
            have hSs1 : ys1.cell? ⟨p, 0, none⟩ = some (.int .i64 t.serial) ∧ ys1.cell? ⟨p, 1, none⟩ = some (.int .i64 t.shw) ∧ ys1.cell? ⟨p, 2, none⟩ = some (.int .i64 t.place) ∧ ys1.cell? ⟨p, 3, none⟩ = some (.string ⟨t.first.toArray⟩) ∧ ys1.cell? ⟨p, 4, none⟩ = some (.slice a_t t.chain.length kt) ∧ ys1.cell? ⟨b, 0, none⟩ = some (.int .i64 t.serial) ∧ ys1.cell? ⟨b, 1, none⟩ = some (.int .i64 t.shw) ∧ ys1.cell? ⟨b, 2, none⟩ = some (.int .i64 n) ∧ ys1.cell? ⟨b, 3, none⟩ = some (.string ⟨t.first.toArray⟩) ∧ ys1.cell? ⟨b, 4, none⟩ = some (.slice a_t t.chain.length kt) := ⟨gs1.cell c0 (by simp), gs1.cell c1 (by simp), gs1.cell c2 (by simp), gs1.cell c3 (by simp), gs1.cell c4 (by simp), gs1.cell x0 (by simp), gs1.cell x1 (by simp), gs1.cell x2 (by simp), gs1.cell x3 (by simp), gs1.cell x4 (by simp)⟩
            refine hK.out _ _ (fun _ => hSs1) ?_
            clear hK K'
            try simp only [Act.put, List.setIfInBounds_toArray, List.set_cons_zero, List.set_cons_succ]
            rw [HVE.out]
            obtain ⟨vq, hvq⟩ : ∃ q, q = validT t := ⟨_, rfl⟩
            rw [← hvq]
            refine hd_one 20 (by kernel_rfl) rfl (by kernel_rfl) rfl (fun K' hK => ?_)
            go_simp
            refine (valid30_any _ t ys1 ⟨_, rfl, Ht.out.fr gs1⟩ HST.out (HT.out.t.fr (fz.trans gs1 (by simp)))).mono ?_
            rintro e ys2 ⟨rfl, hbb⟩
            have gs2 : Fr [] z ys2 := gs1.below hbb gs1.size
            clear hbb
            have hSs2 : ys2.cell? ⟨p, 0, none⟩ = some (.int .i64 t.serial) ∧ ys2.cell? ⟨p, 1, none⟩ = some (.int .i64 t.shw) ∧ ys2.cell? ⟨p, 2, none⟩ = some (.int .i64 t.place) ∧ ys2.cell? ⟨p, 3, none⟩ = some (.string ⟨t.first.toArray⟩) ∧ ys2.cell? ⟨p, 4, none⟩ = some (.slice a_t t.chain.length kt) ∧ ys2.cell? ⟨b, 0, none⟩ = some (.int .i64 t.serial) ∧ ys2.cell? ⟨b, 1, none⟩ = some (.int .i64 t.shw) ∧ ys2.cell? ⟨b, 2, none⟩ = some (.int .i64 n) ∧ ys2.cell? ⟨b, 3, none⟩ = some (.string ⟨t.first.toArray⟩) ∧ ys2.cell? ⟨b, 4, none⟩ = some (.slice a_t t.chain.length kt) := ⟨gs2.cell c0 (by simp), gs2.cell c1 (by simp), gs2.cell c2 (by simp), gs2.cell c3 (by simp), gs2.cell c4 (by simp), gs2.cell x0 (by simp), gs2.cell x1 (by simp), gs2.cell x2 (by simp), gs2.cell x3 (by simp), gs2.cell x4 (by simp)⟩
            refine hK.out _ _ (fun _ => hSs2) ?_
            clear hK K'
            try simp only [Act.put, List.setIfInBounds_toArray, List.set_cons_zero, List.set_cons_succ]
            rw [← hvq]
            clear hvq
            have hvv : (vq == vq) = true := by cases vq <;> rfl
            refine hd_take 21 (v := .bool true) rfl (by kernel_rfl) (by kernel_rfl) (by kernel_rfl) rfl hSs2 (fun W' hS => by go_simp) rfl ?_
            try simp only [Act.put, List.setIfInBounds_toArray, List.set_cons_zero, List.set_cons_succ]
            refine hd_take 22 (v := .bool true) rfl (by kernel_rfl) (by kernel_rfl) (by kernel_rfl) rfl hSs2 (fun W' hS => by go_simp) rfl ?_
            try simp only [Act.put, List.setIfInBounds_toArray, List.set_cons_zero, List.set_cons_succ]
            refine hd_take 23 (v := .bool true) rfl (by kernel_rfl) (by kernel_rfl) (by kernel_rfl) rfl hSs2 (fun W' hS => by go_simp) rfl ?_
            try simp only [Act.put, List.setIfInBounds_toArray, List.set_cons_zero, List.set_cons_succ]
            refine hd_take 24 (v := .bool true) rfl (by kernel_rfl) (by kernel_rfl) (by kernel_rfl) rfl hSs2 (fun W' hS => by go_simp) rfl ?_
            try simp only [Act.put, List.setIfInBounds_toArray, List.set_cons_zero, List.set_cons_succ]
            refine held_done (by kernel_rfl) ?_
            have fe := fz.trans gs2 (by simp)
            go_wp2_with fail
            go_ret
            exact ⟨rfl, fe.toBelow (by simp)⟩
          · skip
            have u1 : decide (-1 ≤ n) = true := by simp; omega
            have u2 : decide (n < 4000) = true := by simp; omega
            have s1 : decide (-1 ≤ t.place) = true := by simp; omega
            have s2 : decide (t.place < 4000) = false := by simp; omega
            skip
            go_wp2_with fail
            have x0 := row_cell hbx 0
            have x1 := row_cell hbx 1
            have x2 := row_cell hbx 2
            have x3 := row_cell hbx 3
            have x4 := row_cell hbx 4
            simp at x0 x1 x2 x3 x4
            have gs0 : Fr [] z z.drew := (Fr.refl [] z).drew
            have hSs0 : z.drew.cell? ⟨p, 0, none⟩ = some (.int .i64 t.serial) ∧ z.drew.cell? ⟨p, 1, none⟩ = some (.int .i64 t.shw) ∧ z.drew.cell? ⟨p, 2, none⟩ = some (.int .i64 t.place) ∧ z.drew.cell? ⟨p, 3, none⟩ = some (.string ⟨t.first.toArray⟩) ∧ z.drew.cell? ⟨p, 4, none⟩ = some (.slice a_t t.chain.length kt) ∧ z.drew.cell? ⟨b, 0, none⟩ = some (.int .i64 t.serial) ∧ z.drew.cell? ⟨b, 1, none⟩ = some (.int .i64 t.shw) ∧ z.drew.cell? ⟨b, 2, none⟩ = some (.int .i64 n) ∧ z.drew.cell? ⟨b, 3, none⟩ = some (.string ⟨t.first.toArray⟩) ∧ z.drew.cell? ⟨b, 4, none⟩ = some (.slice a_t t.chain.length kt) := ⟨gs0.cell c0 (by simp), gs0.cell c1 (by simp), gs0.cell c2 (by simp), gs0.cell c3 (by simp), gs0.cell c4 (by simp), gs0.cell x0 (by simp), gs0.cell x1 (by simp), gs0.cell x2 (by simp), gs0.cell x3 (by simp), gs0.cell x4 (by simp)⟩
            refine region_held 100 (fun W' => W'.cell? ⟨p, 0, none⟩ = some (.int .i64 t.serial) ∧ W'.cell? ⟨p, 1, none⟩ = some (.int .i64 t.shw) ∧ W'.cell? ⟨p, 2, none⟩ = some (.int .i64 t.place) ∧ W'.cell? ⟨p, 3, none⟩ = some (.string ⟨t.first.toArray⟩) ∧ W'.cell? ⟨p, 4, none⟩ = some (.slice a_t t.chain.length kt) ∧ W'.cell? ⟨b, 0, none⟩ = some (.int .i64 t.serial) ∧ W'.cell? ⟨b, 1, none⟩ = some (.int .i64 t.shw) ∧ W'.cell? ⟨b, 2, none⟩ = some (.int .i64 n) ∧ W'.cell? ⟨b, 3, none⟩ = some (.string ⟨t.first.toArray⟩) ∧ W'.cell? ⟨b, 4, none⟩ = some (.slice a_t t.chain.length kt)) hmx ?_
            change Held _ _ _ _ _ _ 25 (Array.replicate 25 false) _ _
            refine hd_take 0 (v := .bool true) rfl (by kernel_rfl) (by kernel_rfl) (by kernel_rfl) rfl hSs0 (fun W' hS => by go_simp) rfl ?_
            try simp only [Act.put, List.setIfInBounds_toArray, List.set_cons_zero, List.set_cons_succ]
            refine hd_take 1 (v := .bool true) rfl (by kernel_rfl) (by kernel_rfl) (by kernel_rfl) rfl hSs0 (fun W' hS => by go_simp) rfl ?_
            try simp only [Act.put, List.setIfInBounds_toArray, List.set_cons_zero, List.set_cons_succ]
            refine hd_take 2 (v := .bool true) rfl (by kernel_rfl) (by kernel_rfl) (by kernel_rfl) rfl hSs0 (fun W' hS => by go_simp) rfl ?_
            try simp only [Act.put, List.setIfInBounds_toArray, List.set_cons_zero, List.set_cons_succ]
            refine hd_take 3 (v := .bool true) rfl (by kernel_rfl) (by kernel_rfl) (by kernel_rfl) rfl hSs0 (fun W' hS => by go_simp) rfl ?_
            try simp only [Act.put, List.setIfInBounds_toArray, List.set_cons_zero, List.set_cons_succ]
            refine hd_skip 4 rfl (by kernel_rfl) (by kernel_rfl) (by kernel_rfl) rfl hSs0 rfl ?_
            refine hd_skip 5 rfl (by kernel_rfl) (by kernel_rfl) (by kernel_rfl) rfl hSs0 rfl ?_
            refine hd_skip 6 rfl (by kernel_rfl) (by kernel_rfl) (by kernel_rfl) rfl hSs0 rfl ?_
            refine hd_take 7 (v := .bool true) rfl (by kernel_rfl) (by kernel_rfl) (by kernel_rfl) rfl hSs0 (fun W' hS => by go_simp) rfl ?_
            try simp only [Act.put, List.setIfInBounds_toArray, List.set_cons_zero, List.set_cons_succ]
            refine hd_take 8 (v := .bool true) rfl (by kernel_rfl) (by kernel_rfl) (by kernel_rfl) rfl hSs0 (fun W' hS => by go_simp) rfl ?_
            try simp only [Act.put, List.setIfInBounds_toArray, List.set_cons_zero, List.set_cons_succ]
            refine hd_take 9 (v := .bool true) rfl (by kernel_rfl) (by kernel_rfl) (by kernel_rfl) rfl hSs0 (fun W' hS => by go_simp) rfl ?_
            try simp only [Act.put, List.setIfInBounds_toArray, List.set_cons_zero, List.set_cons_succ]
            refine hd_take 10 (v := .bool true) rfl (by kernel_rfl) (by kernel_rfl) (by kernel_rfl) rfl hSs0 (fun W' hS => by go_simp) rfl ?_
            try simp only [Act.put, List.setIfInBounds_toArray, List.set_cons_zero, List.set_cons_succ]
            refine hd_take 11 (v := .bool false) rfl (by kernel_rfl) (by kernel_rfl) (by kernel_rfl) rfl hSs0 (fun W' hS => by go_simp) rfl ?_
            try simp only [Act.put, List.setIfInBounds_toArray, List.set_cons_zero, List.set_cons_succ]
            refine hd_take 12 (v := .bool false) rfl (by kernel_rfl) (by kernel_rfl) (by kernel_rfl) rfl hSs0 (fun W' hS => by go_simp) rfl ?_
            try simp only [Act.put, List.setIfInBounds_toArray, List.set_cons_zero, List.set_cons_succ]
            refine hd_take 13 (v := .bool false) rfl (by kernel_rfl) (by kernel_rfl) (by kernel_rfl) rfl hSs0 (fun W' hS => by go_simp) rfl ?_
            try simp only [Act.put, List.setIfInBounds_toArray, List.set_cons_zero, List.set_cons_succ]
            refine hd_take 14 (v := .bool true) rfl (by kernel_rfl) (by kernel_rfl) (by kernel_rfl) rfl hSs0 (fun W' hS => by go_simp) rfl ?_
            try simp only [Act.put, List.setIfInBounds_toArray, List.set_cons_zero, List.set_cons_succ]
            refine hd_take 15 (v := .bool true) rfl (by kernel_rfl) (by kernel_rfl) (by kernel_rfl) rfl hSs0 (fun W' hS => by go_simp) rfl ?_
            try simp only [Act.put, List.setIfInBounds_toArray, List.set_cons_zero, List.set_cons_succ]
            refine hd_take 16 (v := .bool true) rfl (by kernel_rfl) (by kernel_rfl) (by kernel_rfl) rfl hSs0 (fun W' hS => by go_simp) rfl ?_
            try simp only [Act.put, List.setIfInBounds_toArray, List.set_cons_zero, List.set_cons_succ]
            refine hd_skip 17 rfl (by kernel_rfl) (by kernel_rfl) (by kernel_rfl) rfl hSs0 rfl ?_
            refine hd_skip 18 rfl (by kernel_rfl) (by kernel_rfl) (by kernel_rfl) rfl hSs0 rfl ?_
            refine hd_skip 19 rfl (by kernel_rfl) (by kernel_rfl) (by kernel_rfl) rfl hSs0 rfl ?_
            refine hd_skip 20 rfl (by kernel_rfl) (by kernel_rfl) (by kernel_rfl) rfl hSs0 rfl ?_
            refine hd_skip 21 rfl (by kernel_rfl) (by kernel_rfl) (by kernel_rfl) rfl hSs0 rfl ?_
            refine hd_take 22 (v := .bool true) rfl (by kernel_rfl) (by kernel_rfl) (by kernel_rfl) rfl hSs0 (fun W' hS => by go_simp) rfl ?_
            try simp only [Act.put, List.setIfInBounds_toArray, List.set_cons_zero, List.set_cons_succ]
            refine hd_take 23 (v := .bool true) rfl (by kernel_rfl) (by kernel_rfl) (by kernel_rfl) rfl hSs0 (fun W' hS => by go_simp) rfl ?_
            try simp only [Act.put, List.setIfInBounds_toArray, List.set_cons_zero, List.set_cons_succ]
            refine hd_take 24 (v := .bool true) rfl (by kernel_rfl) (by kernel_rfl) (by kernel_rfl) rfl hSs0 (fun W' hS => by go_simp) rfl ?_
            try simp only [Act.put, List.setIfInBounds_toArray, List.set_cons_zero, List.set_cons_succ]
            refine held_done (by kernel_rfl) ?_
            have fe := fz.trans gs0 (by simp)
            go_wp2_with fail
            go_ret
            exact ⟨rfl, fe.toBelow (by simp)⟩
        · skip
          have u1 : decide (-1 ≤ n) = true := by simp; omega
          have u2 : decide (n < 4000) = true := by simp; omega
          have s1 : decide (-1 ≤ t.place) = false := by simp; omega
          skip
          go_wp2_with fail
          have x0 := row_cell hbx 0
          have x1 := row_cell hbx 1
          have x2 := row_cell hbx 2
          have x3 := row_cell hbx 3
          have x4 := row_cell hbx 4
          simp at x0 x1 x2 x3 x4
          have gs0 : Fr [] z z.drew := (Fr.refl [] z).drew
          have hSs0 : z.drew.cell? ⟨p, 0, none⟩ = some (.int .i64 t.serial) ∧ z.drew.cell? ⟨p, 1, none⟩ = some (.int .i64 t.shw) ∧ z.drew.cell? ⟨p, 2, none⟩ = some (.int .i64 t.place) ∧ z.drew.cell? ⟨p, 3, none⟩ = some (.string ⟨t.first.toArray⟩) ∧ z.drew.cell? ⟨p, 4, none⟩ = some (.slice a_t t.chain.length kt) ∧ z.drew.cell? ⟨b, 0, none⟩ = some (.int .i64 t.serial) ∧ z.drew.cell? ⟨b, 1, none⟩ = some (.int .i64 t.shw) ∧ z.drew.cell? ⟨b, 2, none⟩ = some (.int .i64 n) ∧ z.drew.cell? ⟨b, 3, none⟩ = some (.string ⟨t.first.toArray⟩) ∧ z.drew.cell? ⟨b, 4, none⟩ = some (.slice a_t t.chain.length kt) := ⟨gs0.cell c0 (by simp), gs0.cell c1 (by simp), gs0.cell c2 (by simp), gs0.cell c3 (by simp), gs0.cell c4 (by simp), gs0.cell x0 (by simp), gs0.cell x1 (by simp), gs0.cell x2 (by simp), gs0.cell x3 (by simp), gs0.cell x4 (by simp)⟩
          refine region_held 100 (fun W' => W'.cell? ⟨p, 0, none⟩ = some (.int .i64 t.serial) ∧ W'.cell? ⟨p, 1, none⟩ = some (.int .i64 t.shw) ∧ W'.cell? ⟨p, 2, none⟩ = some (.int .i64 t.place) ∧ W'.cell? ⟨p, 3, none⟩ = some (.string ⟨t.first.toArray⟩) ∧ W'.cell? ⟨p, 4, none⟩ = some (.slice a_t t.chain.length kt) ∧ W'.cell? ⟨b, 0, none⟩ = some (.int .i64 t.serial) ∧ W'.cell? ⟨b, 1, none⟩ = some (.int .i64 t.shw) ∧ W'.cell? ⟨b, 2, none⟩ = some (.int .i64 n) ∧ W'.cell? ⟨b, 3, none⟩ = some (.string ⟨t.first.toArray⟩) ∧ W'.cell? ⟨b, 4, none⟩ = some (.slice a_t t.chain.length kt)) hmx ?_
          change Held _ _ _ _ _ _ 25 (Array.replicate 25 false) _ _
          refine hd_take 0 (v := .bool true) rfl (by kernel_rfl) (by kernel_rfl) (by kernel_rfl) rfl hSs0 (fun W' hS => by go_simp) rfl ?_
          try simp only [Act.put, List.setIfInBounds_toArray, List.set_cons_zero, List.set_cons_succ]
          refine hd_take 1 (v := .bool true) rfl (by kernel_rfl) (by kernel_rfl) (by kernel_rfl) rfl hSs0 (fun W' hS => by go_simp) rfl ?_
          try simp only [Act.put, List.setIfInBounds_toArray, List.set_cons_zero, List.set_cons_succ]
          refine hd_take 2 (v := .bool true) rfl (by kernel_rfl) (by kernel_rfl) (by kernel_rfl) rfl hSs0 (fun W' hS => by go_simp) rfl ?_
          try simp only [Act.put, List.setIfInBounds_toArray, List.set_cons_zero, List.set_cons_succ]
          refine hd_take 3 (v := .bool true) rfl (by kernel_rfl) (by kernel_rfl) (by kernel_rfl) rfl hSs0 (fun W' hS => by go_simp) rfl ?_
          try simp only [Act.put, List.setIfInBounds_toArray, List.set_cons_zero, List.set_cons_succ]
          refine hd_skip 4 rfl (by kernel_rfl) (by kernel_rfl) (by kernel_rfl) rfl hSs0 rfl ?_
          refine hd_skip 5 rfl (by kernel_rfl) (by kernel_rfl) (by kernel_rfl) rfl hSs0 rfl ?_
          refine hd_skip 6 rfl (by kernel_rfl) (by kernel_rfl) (by kernel_rfl) rfl hSs0 rfl ?_
          refine hd_take 7 (v := .bool true) rfl (by kernel_rfl) (by kernel_rfl) (by kernel_rfl) rfl hSs0 (fun W' hS => by go_simp) rfl ?_
          try simp only [Act.put, List.setIfInBounds_toArray, List.set_cons_zero, List.set_cons_succ]
          refine hd_take 8 (v := .bool true) rfl (by kernel_rfl) (by kernel_rfl) (by kernel_rfl) rfl hSs0 (fun W' hS => by go_simp) rfl ?_
          try simp only [Act.put, List.setIfInBounds_toArray, List.set_cons_zero, List.set_cons_succ]
          refine hd_take 9 (v := .bool true) rfl (by kernel_rfl) (by kernel_rfl) (by kernel_rfl) rfl hSs0 (fun W' hS => by go_simp) rfl ?_
          try simp only [Act.put, List.setIfInBounds_toArray, List.set_cons_zero, List.set_cons_succ]
          refine hd_take 10 (v := .bool true) rfl (by kernel_rfl) (by kernel_rfl) (by kernel_rfl) rfl hSs0 (fun W' hS => by go_simp) rfl ?_
          try simp only [Act.put, List.setIfInBounds_toArray, List.set_cons_zero, List.set_cons_succ]
          refine hd_take 11 (v := .bool false) rfl (by kernel_rfl) (by kernel_rfl) (by kernel_rfl) rfl hSs0 (fun W' hS => by go_simp) rfl ?_
          try simp only [Act.put, List.setIfInBounds_toArray, List.set_cons_zero, List.set_cons_succ]
          refine hd_take 12 (v := .bool false) rfl (by kernel_rfl) (by kernel_rfl) (by kernel_rfl) rfl hSs0 (fun W' hS => by go_simp) rfl ?_
          try simp only [Act.put, List.setIfInBounds_toArray, List.set_cons_zero, List.set_cons_succ]
          refine hd_take 13 (v := .bool false) rfl (by kernel_rfl) (by kernel_rfl) (by kernel_rfl) rfl hSs0 (fun W' hS => by go_simp) rfl ?_
          try simp only [Act.put, List.setIfInBounds_toArray, List.set_cons_zero, List.set_cons_succ]
          refine hd_take 14 (v := .bool true) rfl (by kernel_rfl) (by kernel_rfl) (by kernel_rfl) rfl hSs0 (fun W' hS => by go_simp) rfl ?_
          try simp only [Act.put, List.setIfInBounds_toArray, List.set_cons_zero, List.set_cons_succ]
          refine hd_take 15 (v := .bool true) rfl (by kernel_rfl) (by kernel_rfl) (by kernel_rfl) rfl hSs0 (fun W' hS => by go_simp) rfl ?_
          try simp only [Act.put, List.setIfInBounds_toArray, List.set_cons_zero, List.set_cons_succ]
          refine hd_take 16 (v := .bool true) rfl (by kernel_rfl) (by kernel_rfl) (by kernel_rfl) rfl hSs0 (fun W' hS => by go_simp) rfl ?_
          try simp only [Act.put, List.setIfInBounds_toArray, List.set_cons_zero, List.set_cons_succ]
          refine hd_skip 17 rfl (by kernel_rfl) (by kernel_rfl) (by kernel_rfl) rfl hSs0 rfl ?_
          refine hd_skip 18 rfl (by kernel_rfl) (by kernel_rfl) (by kernel_rfl) rfl hSs0 rfl ?_
          refine hd_skip 19 rfl (by kernel_rfl) (by kernel_rfl) (by kernel_rfl) rfl hSs0 rfl ?_
          refine hd_skip 20 rfl (by kernel_rfl) (by kernel_rfl) (by kernel_rfl) rfl hSs0 rfl ?_
          refine hd_skip 21 rfl (by kernel_rfl) (by kernel_rfl) (by kernel_rfl) rfl hSs0 rfl ?_
          refine hd_take 22 (v := .bool true) rfl (by kernel_rfl) (by kernel_rfl) (by kernel_rfl) rfl hSs0 (fun W' hS => by go_simp) rfl ?_
          try simp only [Act.put, List.setIfInBounds_toArray, List.set_cons_zero, List.set_cons_succ]
          refine hd_take 23 (v := .bool true) rfl (by kernel_rfl) (by kernel_rfl) (by kernel_rfl) rfl hSs0 (fun W' hS => by go_simp) rfl ?_
          try simp only [Act.put, List.setIfInBounds_toArray, List.set_cons_zero, List.set_cons_succ]
          refine hd_take 24 (v := .bool true) rfl (by kernel_rfl) (by kernel_rfl) (by kernel_rfl) rfl hSs0 (fun W' hS => by go_simp) rfl ?_
          try simp only [Act.put, List.setIfInBounds_toArray, List.set_cons_zero, List.set_cons_succ]
          refine held_done (by kernel_rfl) ?_
          have fe := fz.trans gs0 (by simp)
          go_wp2_with fail
          go_ret
          exact ⟨rfl, fe.toBelow (by simp)⟩
      · skip
        by_cases hA7 : -1 ≤ t.place
        · by_cases hB : t.place < 4000
          · skip
            have u1 : decide (-1 ≤ n) = true := by simp; omega
            have u2 : decide (n < 4000) = false := by simp; omega
            have s1 : decide (-1 ≤ t.place) = true := by simp; omega
            have s2 : decide (t.place < 4000) = true := by simp; omega
            have HVF : Hid (validT { t with place := n } = false) := Lib.hid (validT_out (by omega))
            skip
            go_wp2_with fail
            have x0 := row_cell hbx 0
            have x1 := row_cell hbx 1
            have x2 := row_cell hbx 2
            have x3 := row_cell hbx 3
            have x4 := row_cell hbx 4
            simp at x0 x1 x2 x3 x4
            have gs0 : Fr [] z z.drew := (Fr.refl [] z).drew
            have hSs0 : z.drew.cell? ⟨p, 0, none⟩ = some (.int .i64 t.serial) ∧ z.drew.cell? ⟨p, 1, none⟩ = some (.int .i64 t.shw) ∧ z.drew.cell? ⟨p, 2, none⟩ = some (.int .i64 t.place) ∧ z.drew.cell? ⟨p, 3, none⟩ = some (.string ⟨t.first.toArray⟩) ∧ z.drew.cell? ⟨p, 4, none⟩ = some (.slice a_t t.chain.length kt) ∧ z.drew.cell? ⟨b, 0, none⟩ = some (.int .i64 t.serial) ∧ z.drew.cell? ⟨b, 1, none⟩ = some (.int .i64 t.shw) ∧ z.drew.cell? ⟨b, 2, none⟩ = some (.int .i64 n) ∧ z.drew.cell? ⟨b, 3, none⟩ = some (.string ⟨t.first.toArray⟩) ∧ z.drew.cell? ⟨b, 4, none⟩ = some (.slice a_t t.chain.length kt) := ⟨gs0.cell c0 (by simp), gs0.cell c1 (by simp), gs0.cell c2 (by simp), gs0.cell c3 (by simp), gs0.cell c4 (by simp), gs0.cell x0 (by simp), gs0.cell x1 (by simp), gs0.cell x2 (by simp), gs0.cell x3 (by simp), gs0.cell x4 (by simp)⟩
            refine region_held 100 (fun W' => W'.cell? ⟨p, 0, none⟩ = some (.int .i64 t.serial) ∧ W'.cell? ⟨p, 1, none⟩ = some (.int .i64 t.shw) ∧ W'.cell? ⟨p, 2, none⟩ = some (.int .i64 t.place) ∧ W'.cell? ⟨p, 3, none⟩ = some (.string ⟨t.first.toArray⟩) ∧ W'.cell? ⟨p, 4, none⟩ = some (.slice a_t t.chain.length kt) ∧ W'.cell? ⟨b, 0, none⟩ = some (.int .i64 t.serial) ∧ W'.cell? ⟨b, 1, none⟩ = some (.int .i64 t.shw) ∧ W'.cell? ⟨b, 2, none⟩ = some (.int .i64 n) ∧ W'.cell? ⟨b, 3, none⟩ = some (.string ⟨t.first.toArray⟩) ∧ W'.cell? ⟨b, 4, none⟩ = some (.slice a_t t.chain.length kt)) hmx ?_
            change Held _ _ _ _ _ _ 25 (Array.replicate 25 false) _ _
            refine hd_take 0 (v := .bool true) rfl (by kernel_rfl) (by kernel_rfl) (by kernel_rfl) rfl hSs0 (fun W' hS => by go_simp) rfl ?_
            try simp only [Act.put, List.setIfInBounds_toArray, List.set_cons_zero, List.set_cons_succ]
            refine hd_take 1 (v := .bool true) rfl (by kernel_rfl) (by kernel_rfl) (by kernel_rfl) rfl hSs0 (fun W' hS => by go_simp) rfl ?_
            try simp only [Act.put, List.setIfInBounds_toArray, List.set_cons_zero, List.set_cons_succ]
            refine hd_take 2 (v := .bool false) rfl (by kernel_rfl) (by kernel_rfl) (by kernel_rfl) rfl hSs0 (fun W' hS => by go_simp) rfl ?_
            try simp only [Act.put, List.setIfInBounds_toArray, List.set_cons_zero, List.set_cons_succ]
            refine hd_take 3 (v := .bool false) rfl (by kernel_rfl) (by kernel_rfl) (by kernel_rfl) rfl hSs0 (fun W' hS => by go_simp) rfl ?_
            try simp only [Act.put, List.setIfInBounds_toArray, List.set_cons_zero, List.set_cons_succ]
            refine hd_take 4 (v := .agg #[.int .i64 t.serial, .int .i64 t.shw, .int .i64 n, .string ⟨t.first.toArray⟩, .slice a_t t.chain.length kt]) rfl (by kernel_rfl) (by kernel_rfl) (by kernel_rfl) rfl hSs0 (fun W' hS => by obtain ⟨s0, s1, s2, s3, s4, s5, s6, s7, s8, s9⟩ := hS; go_simp) rfl ?_
            try simp only [Act.put, List.setIfInBounds_toArray, List.set_cons_zero, List.set_cons_succ]
            refine hd_one 5 (by kernel_rfl) rfl (by kernel_rfl) rfl (fun K' hK => ?_)
            go_simp
            refine (valid30_any _ { t with place := n } z.drew ⟨_, rfl, Ht.out.fr gs0⟩ HSX.out (HT.out.t.fr (fz.trans gs0 (by simp)))).mono ?_
            rintro e ys1 ⟨rfl, hbb⟩
            have gs1 : Fr [] z ys1 := gs0.below hbb gs0.size
            clear hbb
            have hSs1 : ys1.cell? ⟨p, 0, none⟩ = some (.int .i64 t.serial) ∧ ys1.cell? ⟨p, 1, none⟩ = some (.int .i64 t.shw) ∧ ys1.cell? ⟨p, 2, none⟩ = some (.int .i64 t.place) ∧ ys1.cell? ⟨p, 3, none⟩ = some (.string ⟨t.first.toArray⟩) ∧ ys1.cell? ⟨p, 4, none⟩ = some (.slice a_t t.chain.length kt) ∧ ys1.cell? ⟨b, 0, none⟩ = some (.int .i64 t.serial) ∧ ys1.cell? ⟨b, 1, none⟩ = some (.int .i64 t.shw) ∧ ys1.cell? ⟨b, 2, none⟩ = some (.int .i64 n) ∧ ys1.cell? ⟨b, 3, none⟩ = some (.string ⟨t.first.toArray⟩) ∧ ys1.cell? ⟨b, 4, none⟩ = some (.slice a_t t.chain.length kt) := ⟨gs1.cell c0 (by simp), gs1.cell c1 (by simp), gs1.cell c2 (by simp), gs1.cell c3 (by simp), gs1.cell c4 (by simp), gs1.cell x0 (by simp), gs1.cell x1 (by simp), gs1.cell x2 (by simp), gs1.cell x3 (by simp), gs1.cell x4 (by simp)⟩
            refine hK.out _ _ (fun _ => hSs1) ?_
            clear hK K'
            try simp only [Act.put, List.setIfInBounds_toArray, List.set_cons_zero, List.set_cons_succ]
            rw [HVF.out]
            refine hd_take 6 (v := .bool true) rfl (by kernel_rfl) (by kernel_rfl) (by kernel_rfl) rfl hSs1 (fun W' hS => by go_simp) rfl ?_
            try simp only [Act.put, List.setIfInBounds_toArray, List.set_cons_zero, List.set_cons_succ]
            refine hd_take 7 (v := .bool true) rfl (by kernel_rfl) (by kernel_rfl) (by kernel_rfl) rfl hSs1 (fun W' hS => by go_simp) rfl ?_
            try simp only [Act.put, List.setIfInBounds_toArray, List.set_cons_zero, List.set_cons_succ]
            refine hd_take 8 (v := .bool true) rfl (by kernel_rfl) (by kernel_rfl) (by kernel_rfl) rfl hSs1 (fun W' hS => by go_simp) rfl ?_
            try simp only [Act.put, List.setIfInBounds_toArray, List.set_cons_zero, List.set_cons_succ]
            refine hd_take 9 (v := .bool true) rfl (by kernel_rfl) (by kernel_rfl) (by kernel_rfl) rfl hSs1 (fun W' hS => by go_simp) rfl ?_
            try simp only [Act.put, List.setIfInBounds_toArray, List.set_cons_zero, List.set_cons_succ]
            refine hd_take 10 (v := .bool false) rfl (by kernel_rfl) (by kernel_rfl) (by kernel_rfl) rfl hSs1 (fun W' hS => by go_simp) rfl ?_
            try simp only [Act.put, List.setIfInBounds_toArray, List.set_cons_zero, List.set_cons_succ]
            refine hd_take 11 (v := .bool true) rfl (by kernel_rfl) (by kernel_rfl) (by kernel_rfl) rfl hSs1 (fun W' hS => by go_simp) rfl ?_
            try simp only [Act.put, List.setIfInBounds_toArray, List.set_cons_zero, List.set_cons_succ]
            refine hd_take 12 (v := .bool true) rfl (by kernel_rfl) (by kernel_rfl) (by kernel_rfl) rfl hSs1 (fun W' hS => by go_simp) rfl ?_
            try simp only [Act.put, List.setIfInBounds_toArray, List.set_cons_zero, List.set_cons_succ]
            refine hd_skip 13 rfl (by kernel_rfl) (by kernel_rfl) (by kernel_rfl) rfl hSs1 rfl ?_
            refine hd_skip 14 rfl (by kernel_rfl) (by kernel_rfl) (by kernel_rfl) rfl hSs1 rfl ?_
            refine hd_take 15 (v := .bool true) rfl (by kernel_rfl) (by kernel_rfl) (by kernel_rfl) rfl hSs1 (fun W' hS => by go_simp) rfl ?_
            try simp only [Act.put, List.setIfInBounds_toArray, List.set_cons_zero, List.set_cons_succ]
            refine hd_take 16 (v := .bool true) rfl (by kernel_rfl) (by kernel_rfl) (by kernel_rfl) rfl hSs1 (fun W' hS => by go_simp) rfl ?_
            try simp only [Act.put, List.setIfInBounds_toArray, List.set_cons_zero, List.set_cons_succ]
            refine hd_skip 17 rfl (by kernel_rfl) (by kernel_rfl) (by kernel_rfl) rfl hSs1 rfl ?_
            refine hd_skip 18 rfl (by kernel_rfl) (by kernel_rfl) (by kernel_rfl) rfl hSs1 rfl ?_
            refine hd_skip 19 rfl (by kernel_rfl) (by kernel_rfl) (by kernel_rfl) rfl hSs1 rfl ?_
            refine hd_skip 20 rfl (by kernel_rfl) (by kernel_rfl) (by kernel_rfl) rfl hSs1 rfl ?_
            refine hd_skip 21 rfl (by kernel_rfl) (by kernel_rfl) (by kernel_rfl) rfl hSs1 rfl ?_
            refine hd_take 22 (v := .bool true) rfl (by kernel_rfl) (by kernel_rfl) (by kernel_rfl) rfl hSs1 (fun W' hS => by go_simp) rfl ?_
            try simp only [Act.put, List.setIfInBounds_toArray, List.set_cons_zero, List.set_cons_succ]
            refine hd_take 23 (v := .bool true) rfl (by kernel_rfl) (by kernel_rfl) (by kernel_rfl) rfl hSs1 (fun W' hS => by go_simp) rfl ?_
            try simp only [Act.put, List.setIfInBounds_toArray, List.set_cons_zero, List.set_cons_succ]
            refine hd_take 24 (v := .bool true) rfl (by kernel_rfl) (by kernel_rfl) (by kernel_rfl) rfl hSs1 (fun W' hS => by go_simp) rfl ?_
            try simp only [Act.put, List.setIfInBounds_toArray, List.set_cons_zero, List.set_cons_succ]
            refine held_done (by kernel_rfl) ?_
            have fe := fz.trans gs1 (by simp)
            go_wp2_with fail
            go_ret
            exact ⟨rfl, fe.toBelow (by simp)⟩
          · skip
            have u1 : decide (-1 ≤ n) = true := by simp; omega
            have u2 : decide (n < 4000) = false := by simp; omega
            have s1 : decide (-1 ≤ t.place) = true := by simp; omega
            have s2 : decide (t.place < 4000) = false := by simp; omega
            have HVF : Hid (validT { t with place := n } = false) := Lib.hid (validT_out (by omega))
            skip
            go_wp2_with fail
            have x0 := row_cell hbx 0
            have x1 := row_cell hbx 1
            have x2 := row_cell hbx 2
            have x3 := row_cell hbx 3
            have x4 := row_cell hbx 4
            simp at x0 x1 x2 x3 x4
            have gs0 : Fr [] z z.drew := (Fr.refl [] z).drew
            have hSs0 : z.drew.cell? ⟨p, 0, none⟩ = some (.int .i64 t.serial) ∧ z.drew.cell? ⟨p, 1, none⟩ = some (.int .i64 t.shw) ∧ z.drew.cell? ⟨p, 2, none⟩ = some (.int .i64 t.place) ∧ z.drew.cell? ⟨p, 3, none⟩ = some (.string ⟨t.first.toArray⟩) ∧ z.drew.cell? ⟨p, 4, none⟩ = some (.slice a_t t.chain.length kt) ∧ z.drew.cell? ⟨b, 0, none⟩ = some (.int .i64 t.serial) ∧ z.drew.cell? ⟨b, 1, none⟩ = some (.int .i64 t.shw) ∧ z.drew.cell? ⟨b, 2, none⟩ = some (.int .i64 n) ∧ z.drew.cell? ⟨b, 3, none⟩ = some (.string ⟨t.first.toArray⟩) ∧ z.drew.cell? ⟨b, 4, none⟩ = some (.slice a_t t.chain.length kt) := ⟨gs0.cell c0 (by simp), gs0.cell c1 (by simp), gs0.cell c2 (by simp), gs0.cell c3 (by simp), gs0.cell c4 (by simp), gs0.cell x0 (by simp), gs0.cell x1 (by simp), gs0.cell x2 (by simp), gs0.cell x3 (by simp), gs0.cell x4 (by simp)⟩
            refine region_held 100 (fun W' => W'.cell? ⟨p, 0, none⟩ = some (.int .i64 t.serial) ∧ W'.cell? ⟨p, 1, none⟩ = some (.int .i64 t.shw) ∧ W'.cell? ⟨p, 2, none⟩ = some (.int .i64 t.place) ∧ W'.cell? ⟨p, 3, none⟩ = some (.string ⟨t.first.toArray⟩) ∧ W'.cell? ⟨p, 4, none⟩ = some (.slice a_t t.chain.length kt) ∧ W'.cell? ⟨b, 0, none⟩ = some (.int .i64 t.serial) ∧ W'.cell? ⟨b, 1, none⟩ = some (.int .i64 t.shw) ∧ W'.cell? ⟨b, 2, none⟩ = some (.int .i64 n) ∧ W'.cell? ⟨b, 3, none⟩ = some (.string ⟨t.first.toArray⟩) ∧ W'.cell? ⟨b, 4, none⟩ = some (.slice a_t t.chain.length kt)) hmx ?_
            change Held _ _ _ _ _ _ 25 (Array.replicate 25 false) _ _
            refine hd_take 0 (v := .bool true) rfl (by kernel_rfl) (by kernel_rfl) (by kernel_rfl) rfl hSs0 (fun W' hS => by go_simp) rfl ?_
            try simp only [Act.put, List.setIfInBounds_toArray, List.set_cons_zero, List.set_cons_succ]
            refine hd_take 1 (v := .bool true) rfl (by kernel_rfl) (by kernel_rfl) (by kernel_rfl) rfl hSs0 (fun W' hS => by go_simp) rfl ?_
            try simp only [Act.put, List.setIfInBounds_toArray, List.set_cons_zero, List.set_cons_succ]
            refine hd_take 2 (v := .bool false) rfl (by kernel_rfl) (by kernel_rfl) (by kernel_rfl) rfl hSs0 (fun W' hS => by go_simp) rfl ?_
            try simp only [Act.put, List.setIfInBounds_toArray, List.set_cons_zero, List.set_cons_succ]
            refine hd_take 3 (v := .bool false) rfl (by kernel_rfl) (by kernel_rfl) (by kernel_rfl) rfl hSs0 (fun W' hS => by go_simp) rfl ?_
            try simp only [Act.put, List.setIfInBounds_toArray, List.set_cons_zero, List.set_cons_succ]
            refine hd_take 4 (v := .agg #[.int .i64 t.serial, .int .i64 t.shw, .int .i64 n, .string ⟨t.first.toArray⟩, .slice a_t t.chain.length kt]) rfl (by kernel_rfl) (by kernel_rfl) (by kernel_rfl) rfl hSs0 (fun W' hS => by obtain ⟨s0, s1, s2, s3, s4, s5, s6, s7, s8, s9⟩ := hS; go_simp) rfl ?_
            try simp only [Act.put, List.setIfInBounds_toArray, List.set_cons_zero, List.set_cons_succ]
            refine hd_one 5 (by kernel_rfl) rfl (by kernel_rfl) rfl (fun K' hK => ?_)
            go_simp
            refine (valid30_any _ { t with place := n } z.drew ⟨_, rfl, Ht.out.fr gs0⟩ HSX.out (HT.out.t.fr (fz.trans gs0 (by simp)))).mono ?_
            rintro e ys1 ⟨rfl, hbb⟩
            have gs1 : Fr [] z ys1 := gs0.below hbb gs0.size
            clear hbb
            have hSs1 : ys1.cell? ⟨p, 0, none⟩ = some (.int .i64 t.serial) ∧ ys1.cell? ⟨p, 1, none⟩ = some (.int .i64 t.shw) ∧ ys1.cell? ⟨p, 2, none⟩ = some (.int .i64 t.place) ∧ ys1.cell? ⟨p, 3, none⟩ = some (.string ⟨t.first.toArray⟩) ∧ ys1.cell? ⟨p, 4, none⟩ = some (.slice a_t t.chain.length kt) ∧ ys1.cell? ⟨b, 0, none⟩ = some (.int .i64 t.serial) ∧ ys1.cell? ⟨b, 1, none⟩ = some (.int .i64 t.shw) ∧ ys1.cell? ⟨b, 2, none⟩ = some (.int .i64 n) ∧ ys1.cell? ⟨b, 3, none⟩ = some (.string ⟨t.first.toArray⟩) ∧ ys1.cell? ⟨b, 4, none⟩ = some (.slice a_t t.chain.length kt) := ⟨gs1.cell c0 (by simp), gs1.cell c1 (by simp), gs1.cell c2 (by simp), gs1.cell c3 (by simp), gs1.cell c4 (by simp), gs1.cell x0 (by simp), gs1.cell x1 (by simp), gs1.cell x2 (by simp), gs1.cell x3 (by simp), gs1.cell x4 (by simp)⟩
            refine hK.out _ _ (fun _ => hSs1) ?_
            clear hK K'
            try simp only [Act.put, List.setIfInBounds_toArray, List.set_cons_zero, List.set_cons_succ]
            rw [HVF.out]
            refine hd_take 6 (v := .bool true) rfl (by kernel_rfl) (by kernel_rfl) (by kernel_rfl) rfl hSs1 (fun W' hS => by go_simp) rfl ?_
            try simp only [Act.put, List.setIfInBounds_toArray, List.set_cons_zero, List.set_cons_succ]
            refine hd_take 7 (v := .bool true) rfl (by kernel_rfl) (by kernel_rfl) (by kernel_rfl) rfl hSs1 (fun W' hS => by go_simp) rfl ?_
            try simp only [Act.put, List.setIfInBounds_toArray, List.set_cons_zero, List.set_cons_succ]
            refine hd_take 8 (v := .bool true) rfl (by kernel_rfl) (by kernel_rfl) (by kernel_rfl) rfl hSs1 (fun W' hS => by go_simp) rfl ?_
            try simp only [Act.put, List.setIfInBounds_toArray, List.set_cons_zero, List.set_cons_succ]
            refine hd_take 9 (v := .bool true) rfl (by kernel_rfl) (by kernel_rfl) (by kernel_rfl) rfl hSs1 (fun W' hS => by go_simp) rfl ?_
            try simp only [Act.put, List.setIfInBounds_toArray, List.set_cons_zero, List.set_cons_succ]
            refine hd_take 10 (v := .bool false) rfl (by kernel_rfl) (by kernel_rfl) (by kernel_rfl) rfl hSs1 (fun W' hS => by go_simp) rfl ?_
            try simp only [Act.put, List.setIfInBounds_toArray, List.set_cons_zero, List.set_cons_succ]
            refine hd_take 11 (v := .bool true) rfl (by kernel_rfl) (by kernel_rfl) (by kernel_rfl) rfl hSs1 (fun W' hS => by go_simp) rfl ?_
            try simp only [Act.put, List.setIfInBounds_toArray, List.set_cons_zero, List.set_cons_succ]
            refine hd_take 12 (v := .bool true) rfl (by kernel_rfl) (by kernel_rfl) (by kernel_rfl) rfl hSs1 (fun W' hS => by go_simp) rfl ?_
            try simp only [Act.put, List.setIfInBounds_toArray, List.set_cons_zero, List.set_cons_succ]
            refine hd_skip 13 rfl (by kernel_rfl) (by kernel_rfl) (by kernel_rfl) rfl hSs1 rfl ?_
            refine hd_skip 14 rfl (by kernel_rfl) (by kernel_rfl) (by kernel_rfl) rfl hSs1 rfl ?_
            refine hd_take 15 (v := .bool true) rfl (by kernel_rfl) (by kernel_rfl) (by kernel_rfl) rfl hSs1 (fun W' hS => by go_simp) rfl ?_
            try simp only [Act.put, List.setIfInBounds_toArray, List.set_cons_zero, List.set_cons_succ]
            refine hd_take 16 (v := .bool true) rfl (by kernel_rfl) (by kernel_rfl) (by kernel_rfl) rfl hSs1 (fun W' hS => by go_simp) rfl ?_
            try simp only [Act.put, List.setIfInBounds_toArray, List.set_cons_zero, List.set_cons_succ]
            refine hd_skip 17 rfl (by kernel_rfl) (by kernel_rfl) (by kernel_rfl) rfl hSs1 rfl ?_
            refine hd_skip 18 rfl (by kernel_rfl) (by kernel_rfl) (by kernel_rfl) rfl hSs1 rfl ?_
            refine hd_skip 19 rfl (by kernel_rfl) (by kernel_rfl) (by kernel_rfl) rfl hSs1 rfl ?_
            refine hd_skip 20 rfl (by kernel_rfl) (by kernel_rfl) (by kernel_rfl) rfl hSs1 rfl ?_
            refine hd_skip 21 rfl (by kernel_rfl) (by kernel_rfl) (by kernel_rfl) rfl hSs1 rfl ?_
            refine hd_take 22 (v := .bool true) rfl (by kernel_rfl) (by kernel_rfl) (by kernel_rfl) rfl hSs1 (fun W' hS => by go_simp) rfl ?_
            try simp only [Act.put, List.setIfInBounds_toArray, List.set_cons_zero, List.set_cons_succ]
            refine hd_take 23 (v := .bool true) rfl (by kernel_rfl) (by kernel_rfl) (by kernel_rfl) rfl hSs1 (fun W' hS => by go_simp) rfl ?_
            try simp only [Act.put, List.setIfInBounds_toArray, List.set_cons_zero, List.set_cons_succ]
            refine hd_take 24 (v := .bool true) rfl (by kernel_rfl) (by kernel_rfl) (by kernel_rfl) rfl hSs1 (fun W' hS => by go_simp) rfl ?_
            try simp only [Act.put, List.setIfInBounds_toArray, List.set_cons_zero, List.set_cons_succ]
            refine held_done (by kernel_rfl) ?_
            have fe := fz.trans gs1 (by simp)
            go_wp2_with fail
            go_ret
            exact ⟨rfl, fe.toBelow (by simp)⟩
        · skip
          have u1 : decide (-1 ≤ n) = true := by simp; omega
          have u2 : decide (n < 4000) = false := by simp; omega
          have s1 : decide (-1 ≤ t.place) = false := by simp; omega
          have HVF : Hid (validT { t with place := n } = false) := Lib.hid (validT_out (by omega))
          skip
          go_wp2_with fail
          have x0 := row_cell hbx 0
          have x1 := row_cell hbx 1
          have x2 := row_cell hbx 2
          have x3 := row_cell hbx 3
          have x4 := row_cell hbx 4
          simp at x0 x1 x2 x3 x4
          have gs0 : Fr [] z z.drew := (Fr.refl [] z).drew
          have hSs0 : z.drew.cell? ⟨p, 0, none⟩ = some (.int .i64 t.serial) ∧ z.drew.cell? ⟨p, 1, none⟩ = some (.int .i64 t.shw) ∧ z.drew.cell? ⟨p, 2, none⟩ = some (.int .i64 t.place) ∧ z.drew.cell? ⟨p, 3, none⟩ = some (.string ⟨t.first.toArray⟩) ∧ z.drew.cell? ⟨p, 4, none⟩ = some (.slice a_t t.chain.length kt) ∧ z.drew.cell? ⟨b, 0, none⟩ = some (.int .i64 t.serial) ∧ z.drew.cell? ⟨b, 1, none⟩ = some (.int .i64 t.shw) ∧ z.drew.cell? ⟨b, 2, none⟩ = some (.int .i64 n) ∧ z.drew.cell? ⟨b, 3, none⟩ = some (.string ⟨t.first.toArray⟩) ∧ z.drew.cell? ⟨b, 4, none⟩ = some (.slice a_t t.chain.length kt) := ⟨gs0.cell c0 (by simp), gs0.cell c1 (by simp), gs0.cell c2 (by simp), gs0.cell c3 (by simp), gs0.cell c4 (by simp), gs0.cell x0 (by simp), gs0.cell x1 (by simp), gs0.cell x2 (by simp), gs0.cell x3 (by simp), gs0.cell x4 (by simp)⟩
          refine region_held 100 (fun W' => W'.cell? ⟨p, 0, none⟩ = some (.int .i64 t.serial) ∧ W'.cell? ⟨p, 1, none⟩ = some (.int .i64 t.shw) ∧ W'.cell? ⟨p, 2, none⟩ = some (.int .i64 t.place) ∧ W'.cell? ⟨p, 3, none⟩ = some (.string ⟨t.first.toArray⟩) ∧ W'.cell? ⟨p, 4, none⟩ = some (.slice a_t t.chain.length kt) ∧ W'.cell? ⟨b, 0, none⟩ = some (.int .i64 t.serial) ∧ W'.cell? ⟨b, 1, none⟩ = some (.int .i64 t.shw) ∧ W'.cell? ⟨b, 2, none⟩ = some (.int .i64 n) ∧ W'.cell? ⟨b, 3, none⟩ = some (.string ⟨t.first.toArray⟩) ∧ W'.cell? ⟨b, 4, none⟩ = some (.slice a_t t.chain.length kt)) hmx ?_
          change Held _ _ _ _ _ _ 25 (Array.replicate 25 false) _ _
          refine hd_take 0 (v := .bool true) rfl (by kernel_rfl) (by kernel_rfl) (by kernel_rfl) rfl hSs0 (fun W' hS => by go_simp) rfl ?_
          try simp only [Act.put, List.setIfInBounds_toArray, List.set_cons_zero, List.set_cons_succ]
          refine hd_take 1 (v := .bool true) rfl (by kernel_rfl) (by kernel_rfl) (by kernel_rfl) rfl hSs0 (fun W' hS => by go_simp) rfl ?_
          try simp only [Act.put, List.setIfInBounds_toArray, List.set_cons_zero, List.set_cons_succ]
          refine hd_take 2 (v := .bool false) rfl (by kernel_rfl) (by kernel_rfl) (by kernel_rfl) rfl hSs0 (fun W' hS => by go_simp) rfl ?_
          try simp only [Act.put, List.setIfInBounds_toArray, List.set_cons_zero, List.set_cons_succ]
          refine hd_take 3 (v := .bool false) rfl (by kernel_rfl) (by kernel_rfl) (by kernel_rfl) rfl hSs0 (fun W' hS => by go_simp) rfl ?_
          try simp only [Act.put, List.setIfInBounds_toArray, List.set_cons_zero, List.set_cons_succ]
          refine hd_take 4 (v := .agg #[.int .i64 t.serial, .int .i64 t.shw, .int .i64 n, .string ⟨t.first.toArray⟩, .slice a_t t.chain.length kt]) rfl (by kernel_rfl) (by kernel_rfl) (by kernel_rfl) rfl hSs0 (fun W' hS => by obtain ⟨s0, s1, s2, s3, s4, s5, s6, s7, s8, s9⟩ := hS; go_simp) rfl ?_
          try simp only [Act.put, List.setIfInBounds_toArray, List.set_cons_zero, List.set_cons_succ]
          refine hd_one 5 (by kernel_rfl) rfl (by kernel_rfl) rfl (fun K' hK => ?_)
          go_simp
          refine (valid30_any _ { t with place := n } z.drew ⟨_, rfl, Ht.out.fr gs0⟩ HSX.out (HT.out.t.fr (fz.trans gs0 (by simp)))).mono ?_
          rintro e ys1 ⟨rfl, hbb⟩
          have gs1 : Fr [] z ys1 := gs0.below hbb gs0.size
          clear hbb
          have hSs1 : ys1.cell? ⟨p, 0, none⟩ = some (.int .i64 t.serial) ∧ ys1.cell? ⟨p, 1, none⟩ = some (.int .i64 t.shw) ∧ ys1.cell? ⟨p, 2, none⟩ = some (.int .i64 t.place) ∧ ys1.cell? ⟨p, 3, none⟩ = some (.string ⟨t.first.toArray⟩) ∧ ys1.cell? ⟨p, 4, none⟩ = some (.slice a_t t.chain.length kt) ∧ ys1.cell? ⟨b, 0, none⟩ = some (.int .i64 t.serial) ∧ ys1.cell? ⟨b, 1, none⟩ = some (.int .i64 t.shw) ∧ ys1.cell? ⟨b, 2, none⟩ = some (.int .i64 n) ∧ ys1.cell? ⟨b, 3, none⟩ = some (.string ⟨t.first.toArray⟩) ∧ ys1.cell? ⟨b, 4, none⟩ = some (.slice a_t t.chain.length kt) := ⟨gs1.cell c0 (by simp), gs1.cell c1 (by simp), gs1.cell c2 (by simp), gs1.cell c3 (by simp), gs1.cell c4 (by simp), gs1.cell x0 (by simp), gs1.cell x1 (by simp), gs1.cell x2 (by simp), gs1.cell x3 (by simp), gs1.cell x4 (by simp)⟩
          refine hK.out _ _ (fun _ => hSs1) ?_
          clear hK K'
          try simp only [Act.put, List.setIfInBounds_toArray, List.set_cons_zero, List.set_cons_succ]
          rw [HVF.out]
          refine hd_take 6 (v := .bool true) rfl (by kernel_rfl) (by kernel_rfl) (by kernel_rfl) rfl hSs1 (fun W' hS => by go_simp) rfl ?_
          try simp only [Act.put, List.setIfInBounds_toArray, List.set_cons_zero, List.set_cons_succ]
          refine hd_take 7 (v := .bool true) rfl (by kernel_rfl) (by kernel_rfl) (by kernel_rfl) rfl hSs1 (fun W' hS => by go_simp) rfl ?_
          try simp only [Act.put, List.setIfInBounds_toArray, List.set_cons_zero, List.set_cons_succ]
          refine hd_take 8 (v := .bool true) rfl (by kernel_rfl) (by kernel_rfl) (by kernel_rfl) rfl hSs1 (fun W' hS => by go_simp) rfl ?_
          try simp only [Act.put, List.setIfInBounds_toArray, List.set_cons_zero, List.set_cons_succ]
          refine hd_take 9 (v := .bool true) rfl (by kernel_rfl) (by kernel_rfl) (by kernel_rfl) rfl hSs1 (fun W' hS => by go_simp) rfl ?_
          try simp only [Act.put, List.setIfInBounds_toArray, List.set_cons_zero, List.set_cons_succ]
          refine hd_take 10 (v := .bool false) rfl (by kernel_rfl) (by kernel_rfl) (by kernel_rfl) rfl hSs1 (fun W' hS => by go_simp) rfl ?_
          try simp only [Act.put, List.setIfInBounds_toArray, List.set_cons_zero, List.set_cons_succ]
          refine hd_take 11 (v := .bool true) rfl (by kernel_rfl) (by kernel_rfl) (by kernel_rfl) rfl hSs1 (fun W' hS => by go_simp) rfl ?_
          try simp only [Act.put, List.setIfInBounds_toArray, List.set_cons_zero, List.set_cons_succ]
          refine hd_take 12 (v := .bool true) rfl (by kernel_rfl) (by kernel_rfl) (by kernel_rfl) rfl hSs1 (fun W' hS => by go_simp) rfl ?_
          try simp only [Act.put, List.setIfInBounds_toArray, List.set_cons_zero, List.set_cons_succ]
          refine hd_skip 13 rfl (by kernel_rfl) (by kernel_rfl) (by kernel_rfl) rfl hSs1 rfl ?_
          refine hd_skip 14 rfl (by kernel_rfl) (by kernel_rfl) (by kernel_rfl) rfl hSs1 rfl ?_
          refine hd_take 15 (v := .bool true) rfl (by kernel_rfl) (by kernel_rfl) (by kernel_rfl) rfl hSs1 (fun W' hS => by go_simp) rfl ?_
          try simp only [Act.put, List.setIfInBounds_toArray, List.set_cons_zero, List.set_cons_succ]
          refine hd_take 16 (v := .bool true) rfl (by kernel_rfl) (by kernel_rfl) (by kernel_rfl) rfl hSs1 (fun W' hS => by go_simp) rfl ?_
          try simp only [Act.put, List.setIfInBounds_toArray, List.set_cons_zero, List.set_cons_succ]
          refine hd_skip 17 rfl (by kernel_rfl) (by kernel_rfl) (by kernel_rfl) rfl hSs1 rfl ?_
          refine hd_skip 18 rfl (by kernel_rfl) (by kernel_rfl) (by kernel_rfl) rfl hSs1 rfl ?_
          refine hd_skip 19 rfl (by kernel_rfl) (by kernel_rfl) (by kernel_rfl) rfl hSs1 rfl ?_
          refine hd_skip 20 rfl (by kernel_rfl) (by kernel_rfl) (by kernel_rfl) rfl hSs1 rfl ?_
          refine hd_skip 21 rfl (by kernel_rfl) (by kernel_rfl) (by kernel_rfl) rfl hSs1 rfl ?_
          refine hd_take 22 (v := .bool true) rfl (by kernel_rfl) (by kernel_rfl) (by kernel_rfl) rfl hSs1 (fun W' hS => by go_simp) rfl ?_
          try simp only [Act.put, List.setIfInBounds_toArray, List.set_cons_zero, List.set_cons_succ]
          refine hd_take 23 (v := .bool true) rfl (by kernel_rfl) (by kernel_rfl) (by kernel_rfl) rfl hSs1 (fun W' hS => by go_simp) rfl ?_
          try simp only [Act.put, List.setIfInBounds_toArray, List.set_cons_zero, List.set_cons_succ]
          refine hd_take 24 (v := .bool true) rfl (by kernel_rfl) (by kernel_rfl) (by kernel_rfl) rfl hSs1 (fun W' hS => by go_simp) rfl ?_
          try simp only [Act.put, List.setIfInBounds_toArray, List.set_cons_zero, List.set_cons_succ]
          refine held_done (by kernel_rfl) ?_
          have fe := fz.trans gs1 (by simp)
          go_wp2_with fail
          go_ret
          exact ⟨rfl, fe.toBelow (by simp)⟩
    · skip
      by_cases hA7 : -1 ≤ t.place
      · by_cases hB : t.place < 4000
        · skip
          have u1 : decide (-1 ≤ n) = false := by simp; omega
          have s1 : decide (-1 ≤ t.place) = true := by simp; omega
          have s2 : decide (t.place < 4000) = true := by simp; omega
          have HVF : Hid (validT { t with place := n } = false) := Lib.hid (validT_out (by omega))
          skip
          go_wp2_with fail
          have x0 := row_cell hbx 0
          have x1 := row_cell hbx 1
          have x2 := row_cell hbx 2
          have x3 := row_cell hbx 3
          have x4 := row_cell hbx 4
          simp at x0 x1 x2 x3 x4
          have gs0 : Fr [] z z.drew := (Fr.refl [] z).drew
          have hSs0 : z.drew.cell? ⟨p, 0, none⟩ = some (.int .i64 t.serial) ∧ z.drew.cell? ⟨p, 1, none⟩ = some (.int .i64 t.shw) ∧ z.drew.cell? ⟨p, 2, none⟩ = some (.int .i64 t.place) ∧ z.drew.cell? ⟨p, 3, none⟩ = some (.string ⟨t.first.toArray⟩) ∧ z.drew.cell? ⟨p, 4, none⟩ = some (.slice a_t t.chain.length kt) ∧ z.drew.cell? ⟨b, 0, none⟩ = some (.int .i64 t.serial) ∧ z.drew.cell? ⟨b, 1, none⟩ = some (.int .i64 t.shw) ∧ z.drew.cell? ⟨b, 2, none⟩ = some (.int .i64 n) ∧ z.drew.cell? ⟨b, 3, none⟩ = some (.string ⟨t.first.toArray⟩) ∧ z.drew.cell? ⟨b, 4, none⟩ = some (.slice a_t t.chain.length kt) := ⟨gs0.cell c0 (by simp), gs0.cell c1 (by simp), gs0.cell c2 (by simp), gs0.cell c3 (by simp), gs0.cell c4 (by simp), gs0.cell x0 (by simp), gs0.cell x1 (by simp), gs0.cell x2 (by simp), gs0.cell x3 (by simp), gs0.cell x4 (by simp)⟩
          refine region_held 100 (fun W' => W'.cell? ⟨p, 0, none⟩ = some (.int .i64 t.serial) ∧ W'.cell? ⟨p, 1, none⟩ = some (.int .i64 t.shw) ∧ W'.cell? ⟨p, 2, none⟩ = some (.int .i64 t.place) ∧ W'.cell? ⟨p, 3, none⟩ = some (.string ⟨t.first.toArray⟩) ∧ W'.cell? ⟨p, 4, none⟩ = some (.slice a_t t.chain.length kt) ∧ W'.cell? ⟨b, 0, none⟩ = some (.int .i64 t.serial) ∧ W'.cell? ⟨b, 1, none⟩ = some (.int .i64 t.shw) ∧ W'.cell? ⟨b, 2, none⟩ = some (.int .i64 n) ∧ W'.cell? ⟨b, 3, none⟩ = some (.string ⟨t.first.toArray⟩) ∧ W'.cell? ⟨b, 4, none⟩ = some (.slice a_t t.chain.length kt)) hmx ?_
          change Held _ _ _ _ _ _ 25 (Array.replicate 25 false) _ _
          refine hd_take 0 (v := .bool true) rfl (by kernel_rfl) (by kernel_rfl) (by kernel_rfl) rfl hSs0 (fun W' hS => by go_simp) rfl ?_
          try simp only [Act.put, List.setIfInBounds_toArray, List.set_cons_zero, List.set_cons_succ]
          refine hd_take 1 (v := .bool true) rfl (by kernel_rfl) (by kernel_rfl) (by kernel_rfl) rfl hSs0 (fun W' hS => by go_simp) rfl ?_
          try simp only [Act.put, List.setIfInBounds_toArray, List.set_cons_zero, List.set_cons_succ]
          refine hd_take 2 (v := .bool false) rfl (by kernel_rfl) (by kernel_rfl) (by kernel_rfl) rfl hSs0 (fun W' hS => by go_simp) rfl ?_
          try simp only [Act.put, List.setIfInBounds_toArray, List.set_cons_zero, List.set_cons_succ]
          refine hd_take 3 (v := .bool false) rfl (by kernel_rfl) (by kernel_rfl) (by kernel_rfl) rfl hSs0 (fun W' hS => by go_simp) rfl ?_
          try simp only [Act.put, List.setIfInBounds_toArray, List.set_cons_zero, List.set_cons_succ]
          refine hd_take 4 (v := .agg #[.int .i64 t.serial, .int .i64 t.shw, .int .i64 n, .string ⟨t.first.toArray⟩, .slice a_t t.chain.length kt]) rfl (by kernel_rfl) (by kernel_rfl) (by kernel_rfl) rfl hSs0 (fun W' hS => by obtain ⟨s0, s1, s2, s3, s4, s5, s6, s7, s8, s9⟩ := hS; go_simp) rfl ?_
          try simp only [Act.put, List.setIfInBounds_toArray, List.set_cons_zero, List.set_cons_succ]
          refine hd_one 5 (by kernel_rfl) rfl (by kernel_rfl) rfl (fun K' hK => ?_)
          go_simp
          refine (valid30_any _ { t with place := n } z.drew ⟨_, rfl, Ht.out.fr gs0⟩ HSX.out (HT.out.t.fr (fz.trans gs0 (by simp)))).mono ?_
          rintro e ys1 ⟨rfl, hbb⟩
          have gs1 : Fr [] z ys1 := gs0.below hbb gs0.size
          clear hbb
          have hSs1 : ys1.cell? ⟨p, 0, none⟩ = some (.int .i64 t.serial) ∧ ys1.cell? ⟨p, 1, none⟩ = some (.int .i64 t.shw) ∧ ys1.cell? ⟨p, 2, none⟩ = some (.int .i64 t.place) ∧ ys1.cell? ⟨p, 3, none⟩ = some (.string ⟨t.first.toArray⟩) ∧ ys1.cell? ⟨p, 4, none⟩ = some (.slice a_t t.chain.length kt) ∧ ys1.cell? ⟨b, 0, none⟩ = some (.int .i64 t.serial) ∧ ys1.cell? ⟨b, 1, none⟩ = some (.int .i64 t.shw) ∧ ys1.cell? ⟨b, 2, none⟩ = some (.int .i64 n) ∧ ys1.cell? ⟨b, 3, none⟩ = some (.string ⟨t.first.toArray⟩) ∧ ys1.cell? ⟨b, 4, none⟩ = some (.slice a_t t.chain.length kt) := ⟨gs1.cell c0 (by simp), gs1.cell c1 (by simp), gs1.cell c2 (by simp), gs1.cell c3 (by simp), gs1.cell c4 (by simp), gs1.cell x0 (by simp), gs1.cell x1 (by simp), gs1.cell x2 (by simp), gs1.cell x3 (by simp), gs1.cell x4 (by simp)⟩
          refine hK.out _ _ (fun _ => hSs1) ?_
          clear hK K'
          try simp only [Act.put, List.setIfInBounds_toArray, List.set_cons_zero, List.set_cons_succ]
          rw [HVF.out]
          refine hd_take 6 (v := .bool true) rfl (by kernel_rfl) (by kernel_rfl) (by kernel_rfl) rfl hSs1 (fun W' hS => by go_simp) rfl ?_
          try simp only [Act.put, List.setIfInBounds_toArray, List.set_cons_zero, List.set_cons_succ]
          refine hd_take 7 (v := .bool true) rfl (by kernel_rfl) (by kernel_rfl) (by kernel_rfl) rfl hSs1 (fun W' hS => by go_simp) rfl ?_
          try simp only [Act.put, List.setIfInBounds_toArray, List.set_cons_zero, List.set_cons_succ]
          refine hd_take 8 (v := .bool true) rfl (by kernel_rfl) (by kernel_rfl) (by kernel_rfl) rfl hSs1 (fun W' hS => by go_simp) rfl ?_
          try simp only [Act.put, List.setIfInBounds_toArray, List.set_cons_zero, List.set_cons_succ]
          refine hd_take 9 (v := .bool true) rfl (by kernel_rfl) (by kernel_rfl) (by kernel_rfl) rfl hSs1 (fun W' hS => by go_simp) rfl ?_
          try simp only [Act.put, List.setIfInBounds_toArray, List.set_cons_zero, List.set_cons_succ]
          refine hd_take 10 (v := .bool false) rfl (by kernel_rfl) (by kernel_rfl) (by kernel_rfl) rfl hSs1 (fun W' hS => by go_simp) rfl ?_
          try simp only [Act.put, List.setIfInBounds_toArray, List.set_cons_zero, List.set_cons_succ]
          refine hd_take 11 (v := .bool true) rfl (by kernel_rfl) (by kernel_rfl) (by kernel_rfl) rfl hSs1 (fun W' hS => by go_simp) rfl ?_
          try simp only [Act.put, List.setIfInBounds_toArray, List.set_cons_zero, List.set_cons_succ]
          refine hd_take 12 (v := .bool true) rfl (by kernel_rfl) (by kernel_rfl) (by kernel_rfl) rfl hSs1 (fun W' hS => by go_simp) rfl ?_
          try simp only [Act.put, List.setIfInBounds_toArray, List.set_cons_zero, List.set_cons_succ]
          refine hd_skip 13 rfl (by kernel_rfl) (by kernel_rfl) (by kernel_rfl) rfl hSs1 rfl ?_
          refine hd_skip 14 rfl (by kernel_rfl) (by kernel_rfl) (by kernel_rfl) rfl hSs1 rfl ?_
          refine hd_take 15 (v := .bool true) rfl (by kernel_rfl) (by kernel_rfl) (by kernel_rfl) rfl hSs1 (fun W' hS => by go_simp) rfl ?_
          try simp only [Act.put, List.setIfInBounds_toArray, List.set_cons_zero, List.set_cons_succ]
          refine hd_take 16 (v := .bool true) rfl (by kernel_rfl) (by kernel_rfl) (by kernel_rfl) rfl hSs1 (fun W' hS => by go_simp) rfl ?_
          try simp only [Act.put, List.setIfInBounds_toArray, List.set_cons_zero, List.set_cons_succ]
          refine hd_skip 17 rfl (by kernel_rfl) (by kernel_rfl) (by kernel_rfl) rfl hSs1 rfl ?_
          refine hd_skip 18 rfl (by kernel_rfl) (by kernel_rfl) (by kernel_rfl) rfl hSs1 rfl ?_
          refine hd_skip 19 rfl (by kernel_rfl) (by kernel_rfl) (by kernel_rfl) rfl hSs1 rfl ?_
          refine hd_skip 20 rfl (by kernel_rfl) (by kernel_rfl) (by kernel_rfl) rfl hSs1 rfl ?_
          refine hd_skip 21 rfl (by kernel_rfl) (by kernel_rfl) (by kernel_rfl) rfl hSs1 rfl ?_
          refine hd_take 22 (v := .bool true) rfl (by kernel_rfl) (by kernel_rfl) (by kernel_rfl) rfl hSs1 (fun W' hS => by go_simp) rfl ?_
          try simp only [Act.put, List.setIfInBounds_toArray, List.set_cons_zero, List.set_cons_succ]
          refine hd_take 23 (v := .bool true) rfl (by kernel_rfl) (by kernel_rfl) (by kernel_rfl) rfl hSs1 (fun W' hS => by go_simp) rfl ?_
          try simp only [Act.put, List.setIfInBounds_toArray, List.set_cons_zero, List.set_cons_succ]
          refine hd_take 24 (v := .bool true) rfl (by kernel_rfl) (by kernel_rfl) (by kernel_rfl) rfl hSs1 (fun W' hS => by go_simp) rfl ?_
          try simp only [Act.put, List.setIfInBounds_toArray, List.set_cons_zero, List.set_cons_succ]
          refine held_done (by kernel_rfl) ?_
          have fe := fz.trans gs1 (by simp)
          go_wp2_with fail
          go_ret
          exact ⟨rfl, fe.toBelow (by simp)⟩
        · skip
          have u1 : decide (-1 ≤ n) = false := by simp; omega
          have s1 : decide (-1 ≤ t.place) = true := by simp; omega
          have s2 : decide (t.place < 4000) = false := by simp; omega
          have HVF : Hid (validT { t with place := n } = false) := Lib.hid (validT_out (by omega))
          skip
          go_wp2_with fail
          have x0 := row_cell hbx 0
          have x1 := row_cell hbx 1
          have x2 := row_cell hbx 2
          have x3 := row_cell hbx 3
          have x4 := row_cell hbx 4
          simp at x0 x1 x2 x3 x4
          have gs0 : Fr [] z z.drew := (Fr.refl [] z).drew
          have hSs0 : z.drew.cell? ⟨p, 0, none⟩ = some (.int .i64 t.serial) ∧ z.drew.cell? ⟨p, 1, none⟩ = some (.int .i64 t.shw) ∧ z.drew.cell? ⟨p, 2, none⟩ = some (.int .i64 t.place) ∧ z.drew.cell? ⟨p, 3, none⟩ = some (.string ⟨t.first.toArray⟩) ∧ z.drew.cell? ⟨p, 4, none⟩ = some (.slice a_t t.chain.length kt) ∧ z.drew.cell? ⟨b, 0, none⟩ = some (.int .i64 t.serial) ∧ z.drew.cell? ⟨b, 1, none⟩ = some (.int .i64 t.shw) ∧ z.drew.cell? ⟨b, 2, none⟩ = some (.int .i64 n) ∧ z.drew.cell? ⟨b, 3, none⟩ = some (.string ⟨t.first.toArray⟩) ∧ z.drew.cell? ⟨b, 4, none⟩ = some (.slice a_t t.chain.length kt) := ⟨gs0.cell c0 (by simp), gs0.cell c1 (by simp), gs0.cell c2 (by simp), gs0.cell c3 (by simp), gs0.cell c4 (by simp), gs0.cell x0 (by simp), gs0.cell x1 (by simp), gs0.cell x2 (by simp), gs0.cell x3 (by simp), gs0.cell x4 (by simp)⟩
          refine region_held 100 (fun W' => W'.cell? ⟨p, 0, none⟩ = some (.int .i64 t.serial) ∧ W'.cell? ⟨p, 1, none⟩ = some (.int .i64 t.shw) ∧ W'.cell? ⟨p, 2, none⟩ = some (.int .i64 t.place) ∧ W'.cell? ⟨p, 3, none⟩ = some (.string ⟨t.first.toArray⟩) ∧ W'.cell? ⟨p, 4, none⟩ = some (.slice a_t t.chain.length kt) ∧ W'.cell? ⟨b, 0, none⟩ = some (.int .i64 t.serial) ∧ W'.cell? ⟨b, 1, none⟩ = some (.int .i64 t.shw) ∧ W'.cell? ⟨b, 2, none⟩ = some (.int .i64 n) ∧ W'.cell? ⟨b, 3, none⟩ = some (.string ⟨t.first.toArray⟩) ∧ W'.cell? ⟨b, 4, none⟩ = some (.slice a_t t.chain.length kt)) hmx ?_
          change Held _ _ _ _ _ _ 25 (Array.replicate 25 false) _ _
          refine hd_take 0 (v := .bool true) rfl (by kernel_rfl) (by kernel_rfl) (by kernel_rfl) rfl hSs0 (fun W' hS => by go_simp) rfl ?_
          try simp only [Act.put, List.setIfInBounds_toArray, List.set_cons_zero, List.set_cons_succ]
          refine hd_take 1 (v := .bool true) rfl (by kernel_rfl) (by kernel_rfl) (by kernel_rfl) rfl hSs0 (fun W' hS => by go_simp) rfl ?_
          try simp only [Act.put, List.setIfInBounds_toArray, List.set_cons_zero, List.set_cons_succ]
          refine hd_take 2 (v := .bool false) rfl (by kernel_rfl) (by kernel_rfl) (by kernel_rfl) rfl hSs0 (fun W' hS => by go_simp) rfl ?_
          try simp only [Act.put, List.setIfInBounds_toArray, List.set_cons_zero, List.set_cons_succ]
          refine hd_take 3 (v := .bool false) rfl (by kernel_rfl) (by kernel_rfl) (by kernel_rfl) rfl hSs0 (fun W' hS => by go_simp) rfl ?_
          try simp only [Act.put, List.setIfInBounds_toArray, List.set_cons_zero, List.set_cons_succ]
          refine hd_take 4 (v := .agg #[.int .i64 t.serial, .int .i64 t.shw, .int .i64 n, .string ⟨t.first.toArray⟩, .slice a_t t.chain.length kt]) rfl (by kernel_rfl) (by kernel_rfl) (by kernel_rfl) rfl hSs0 (fun W' hS => by obtain ⟨s0, s1, s2, s3, s4, s5, s6, s7, s8, s9⟩ := hS; go_simp) rfl ?_
          try simp only [Act.put, List.setIfInBounds_toArray, List.set_cons_zero, List.set_cons_succ]
          refine hd_one 5 (by kernel_rfl) rfl (by kernel_rfl) rfl (fun K' hK => ?_)
          go_simp
          refine (valid30_any _ { t with place := n } z.drew ⟨_, rfl, Ht.out.fr gs0⟩ HSX.out (HT.out.t.fr (fz.trans gs0 (by simp)))).mono ?_
          rintro e ys1 ⟨rfl, hbb⟩
          have gs1 : Fr [] z ys1 := gs0.below hbb gs0.size
          clear hbb
          have hSs1 : ys1.cell? ⟨p, 0, none⟩ = some (.int .i64 t.serial) ∧ ys1.cell? ⟨p, 1, none⟩ = some (.int .i64 t.shw) ∧ ys1.cell? ⟨p, 2, none⟩ = some (.int .i64 t.place) ∧ ys1.cell? ⟨p, 3, none⟩ = some (.string ⟨t.first.toArray⟩) ∧ ys1.cell? ⟨p, 4, none⟩ = some (.slice a_t t.chain.length kt) ∧ ys1.cell? ⟨b, 0, none⟩ = some (.int .i64 t.serial) ∧ ys1.cell? ⟨b, 1, none⟩ = some (.int .i64 t.shw) ∧ ys1.cell? ⟨b, 2, none⟩ = some (.int .i64 n) ∧ ys1.cell? ⟨b, 3, none⟩ = some (.string ⟨t.first.toArray⟩) ∧ ys1.cell? ⟨b, 4, none⟩ = some (.slice a_t t.chain.length kt) := ⟨gs1.cell c0 (by simp), gs1.cell c1 (by simp), gs1.cell c2 (by simp), gs1.cell c3 (by simp), gs1.cell c4 (by simp), gs1.cell x0 (by simp), gs1.cell x1 (by simp), gs1.cell x2 (by simp), gs1.cell x3 (by simp), gs1.cell x4 (by simp)⟩
          refine hK.out _ _ (fun _ => hSs1) ?_
          clear hK K'
          try simp only [Act.put, List.setIfInBounds_toArray, List.set_cons_zero, List.set_cons_succ]
          rw [HVF.out]
          refine hd_take 6 (v := .bool true) rfl (by kernel_rfl) (by kernel_rfl) (by kernel_rfl) rfl hSs1 (fun W' hS => by go_simp) rfl ?_
          try simp only [Act.put, List.setIfInBounds_toArray, List.set_cons_zero, List.set_cons_succ]
          refine hd_take 7 (v := .bool true) rfl (by kernel_rfl) (by kernel_rfl) (by kernel_rfl) rfl hSs1 (fun W' hS => by go_simp) rfl ?_
          try simp only [Act.put, List.setIfInBounds_toArray, List.set_cons_zero, List.set_cons_succ]
          refine hd_take 8 (v := .bool true) rfl (by kernel_rfl) (by kernel_rfl) (by kernel_rfl) rfl hSs1 (fun W' hS => by go_simp) rfl ?_
          try simp only [Act.put, List.setIfInBounds_toArray, List.set_cons_zero, List.set_cons_succ]
          refine hd_take 9 (v := .bool true) rfl (by kernel_rfl) (by kernel_rfl) (by kernel_rfl) rfl hSs1 (fun W' hS => by go_simp) rfl ?_
          try simp only [Act.put, List.setIfInBounds_toArray, List.set_cons_zero, List.set_cons_succ]
          refine hd_take 10 (v := .bool false) rfl (by kernel_rfl) (by kernel_rfl) (by kernel_rfl) rfl hSs1 (fun W' hS => by go_simp) rfl ?_
          try simp only [Act.put, List.setIfInBounds_toArray, List.set_cons_zero, List.set_cons_succ]
          refine hd_take 11 (v := .bool true) rfl (by kernel_rfl) (by kernel_rfl) (by kernel_rfl) rfl hSs1 (fun W' hS => by go_simp) rfl ?_
          try simp only [Act.put, List.setIfInBounds_toArray, List.set_cons_zero, List.set_cons_succ]
          refine hd_take 12 (v := .bool true) rfl (by kernel_rfl) (by kernel_rfl) (by kernel_rfl) rfl hSs1 (fun W' hS => by go_simp) rfl ?_
          try simp only [Act.put, List.setIfInBounds_toArray, List.set_cons_zero, List.set_cons_succ]
          refine hd_skip 13 rfl (by kernel_rfl) (by kernel_rfl) (by kernel_rfl) rfl hSs1 rfl ?_
          refine hd_skip 14 rfl (by kernel_rfl) (by kernel_rfl) (by kernel_rfl) rfl hSs1 rfl ?_
          refine hd_take 15 (v := .bool true) rfl (by kernel_rfl) (by kernel_rfl) (by kernel_rfl) rfl hSs1 (fun W' hS => by go_simp) rfl ?_
          try simp only [Act.put, List.setIfInBounds_toArray, List.set_cons_zero, List.set_cons_succ]
          refine hd_take 16 (v := .bool true) rfl (by kernel_rfl) (by kernel_rfl) (by kernel_rfl) rfl hSs1 (fun W' hS => by go_simp) rfl ?_
          try simp only [Act.put, List.setIfInBounds_toArray, List.set_cons_zero, List.set_cons_succ]
          refine hd_skip 17 rfl (by kernel_rfl) (by kernel_rfl) (by kernel_rfl) rfl hSs1 rfl ?_
          refine hd_skip 18 rfl (by kernel_rfl) (by kernel_rfl) (by kernel_rfl) rfl hSs1 rfl ?_
          refine hd_skip 19 rfl (by kernel_rfl) (by kernel_rfl) (by kernel_rfl) rfl hSs1 rfl ?_
          refine hd_skip 20 rfl (by kernel_rfl) (by kernel_rfl) (by kernel_rfl) rfl hSs1 rfl ?_
          refine hd_skip 21 rfl (by kernel_rfl) (by kernel_rfl) (by kernel_rfl) rfl hSs1 rfl ?_
          refine hd_take 22 (v := .bool true) rfl (by kernel_rfl) (by kernel_rfl) (by kernel_rfl) rfl hSs1 (fun W' hS => by go_simp) rfl ?_
          try simp only [Act.put, List.setIfInBounds_toArray, List.set_cons_zero, List.set_cons_succ]
          refine hd_take 23 (v := .bool true) rfl (by kernel_rfl) (by kernel_rfl) (by kernel_rfl) rfl hSs1 (fun W' hS => by go_simp) rfl ?_
          try simp only [Act.put, List.setIfInBounds_toArray, List.set_cons_zero, List.set_cons_succ]
          refine hd_take 24 (v := .bool true) rfl (by kernel_rfl) (by kernel_rfl) (by kernel_rfl) rfl hSs1 (fun W' hS => by go_simp) rfl ?_
          try simp only [Act.put, List.setIfInBounds_toArray, List.set_cons_zero, List.set_cons_succ]
          refine held_done (by kernel_rfl) ?_
          have fe := fz.trans gs1 (by simp)
          go_wp2_with fail
          go_ret
          exact ⟨rfl, fe.toBelow (by simp)⟩
      · skip
        have u1 : decide (-1 ≤ n) = false := by simp; omega
        have s1 : decide (-1 ≤ t.place) = false := by simp; omega
        have HVF : Hid (validT { t with place := n } = false) := Lib.hid (validT_out (by omega))
        skip
        go_wp2_with fail
        have x0 := row_cell hbx 0
        have x1 := row_cell hbx 1
        have x2 := row_cell hbx 2
        have x3 := row_cell hbx 3
        have x4 := row_cell hbx 4
        simp at x0 x1 x2 x3 x4
        have gs0 : Fr [] z z.drew := (Fr.refl [] z).drew
        have hSs0 : z.drew.cell? ⟨p, 0, none⟩ = some (.int .i64 t.serial) ∧ z.drew.cell? ⟨p, 1, none⟩ = some (.int .i64 t.shw) ∧ z.drew.cell? ⟨p, 2, none⟩ = some (.int .i64 t.place) ∧ z.drew.cell? ⟨p, 3, none⟩ = some (.string ⟨t.first.toArray⟩) ∧ z.drew.cell? ⟨p, 4, none⟩ = some (.slice a_t t.chain.length kt) ∧ z.drew.cell? ⟨b, 0, none⟩ = some (.int .i64 t.serial) ∧ z.drew.cell? ⟨b, 1, none⟩ = some (.int .i64 t.shw) ∧ z.drew.cell? ⟨b, 2, none⟩ = some (.int .i64 n) ∧ z.drew.cell? ⟨b, 3, none⟩ = some (.string ⟨t.first.toArray⟩) ∧ z.drew.cell? ⟨b, 4, none⟩ = some (.slice a_t t.chain.length kt) := ⟨gs0.cell c0 (by simp), gs0.cell c1 (by simp), gs0.cell c2 (by simp), gs0.cell c3 (by simp), gs0.cell c4 (by simp), gs0.cell x0 (by simp), gs0.cell x1 (by simp), gs0.cell x2 (by simp), gs0.cell x3 (by simp), gs0.cell x4 (by simp)⟩
        refine region_held 100 (fun W' => W'.cell? ⟨p, 0, none⟩ = some (.int .i64 t.serial) ∧ W'.cell? ⟨p, 1, none⟩ = some (.int .i64 t.shw) ∧ W'.cell? ⟨p, 2, none⟩ = some (.int .i64 t.place) ∧ W'.cell? ⟨p, 3, none⟩ = some (.string ⟨t.first.toArray⟩) ∧ W'.cell? ⟨p, 4, none⟩ = some (.slice a_t t.chain.length kt) ∧ W'.cell? ⟨b, 0, none⟩ = some (.int .i64 t.serial) ∧ W'.cell? ⟨b, 1, none⟩ = some (.int .i64 t.shw) ∧ W'.cell? ⟨b, 2, none⟩ = some (.int .i64 n) ∧ W'.cell? ⟨b, 3, none⟩ = some (.string ⟨t.first.toArray⟩) ∧ W'.cell? ⟨b, 4, none⟩ = some (.slice a_t t.chain.length kt)) hmx ?_
        change Held _ _ _ _ _ _ 25 (Array.replicate 25 false) _ _
        refine hd_take 0 (v := .bool true) rfl (by kernel_rfl) (by kernel_rfl) (by kernel_rfl) rfl hSs0 (fun W' hS => by go_simp) rfl ?_
        try simp only [Act.put, List.setIfInBounds_toArray, List.set_cons_zero, List.set_cons_succ]
        refine hd_take 1 (v := .bool true) rfl (by kernel_rfl) (by kernel_rfl) (by kernel_rfl) rfl hSs0 (fun W' hS => by go_simp) rfl ?_
        try simp only [Act.put, List.setIfInBounds_toArray, List.set_cons_zero, List.set_cons_succ]
        refine hd_take 2 (v := .bool false) rfl (by kernel_rfl) (by kernel_rfl) (by kernel_rfl) rfl hSs0 (fun W' hS => by go_simp) rfl ?_
        try simp only [Act.put, List.setIfInBounds_toArray, List.set_cons_zero, List.set_cons_succ]
        refine hd_take 3 (v := .bool false) rfl (by kernel_rfl) (by kernel_rfl) (by kernel_rfl) rfl hSs0 (fun W' hS => by go_simp) rfl ?_
        try simp only [Act.put, List.setIfInBounds_toArray, List.set_cons_zero, List.set_cons_succ]
        refine hd_take 4 (v := .agg #[.int .i64 t.serial, .int .i64 t.shw, .int .i64 n, .string ⟨t.first.toArray⟩, .slice a_t t.chain.length kt]) rfl (by kernel_rfl) (by kernel_rfl) (by kernel_rfl) rfl hSs0 (fun W' hS => by obtain ⟨s0, s1, s2, s3, s4, s5, s6, s7, s8, s9⟩ := hS; go_simp) rfl ?_
        try simp only [Act.put, List.setIfInBounds_toArray, List.set_cons_zero, List.set_cons_succ]
        refine hd_one 5 (by kernel_rfl) rfl (by kernel_rfl) rfl (fun K' hK => ?_)
        go_simp
        refine (valid30_any _ { t with place := n } z.drew ⟨_, rfl, Ht.out.fr gs0⟩ HSX.out (HT.out.t.fr (fz.trans gs0 (by simp)))).mono ?_
        rintro e ys1 ⟨rfl, hbb⟩
        have gs1 : Fr [] z ys1 := gs0.below hbb gs0.size
        clear hbb
        have hSs1 : ys1.cell? ⟨p, 0, none⟩ = some (.int .i64 t.serial) ∧ ys1.cell? ⟨p, 1, none⟩ = some (.int .i64 t.shw) ∧ ys1.cell? ⟨p, 2, none⟩ = some (.int .i64 t.place) ∧ ys1.cell? ⟨p, 3, none⟩ = some (.string ⟨t.first.toArray⟩) ∧ ys1.cell? ⟨p, 4, none⟩ = some (.slice a_t t.chain.length kt) ∧ ys1.cell? ⟨b, 0, none⟩ = some (.int .i64 t.serial) ∧ ys1.cell? ⟨b, 1, none⟩ = some (.int .i64 t.shw) ∧ ys1.cell? ⟨b, 2, none⟩ = some (.int .i64 n) ∧ ys1.cell? ⟨b, 3, none⟩ = some (.string ⟨t.first.toArray⟩) ∧ ys1.cell? ⟨b, 4, none⟩ = some (.slice a_t t.chain.length kt) := ⟨gs1.cell c0 (by simp), gs1.cell c1 (by simp), gs1.cell c2 (by simp), gs1.cell c3 (by simp), gs1.cell c4 (by simp), gs1.cell x0 (by simp), gs1.cell x1 (by simp), gs1.cell x2 (by simp), gs1.cell x3 (by simp), gs1.cell x4 (by simp)⟩
        refine hK.out _ _ (fun _ => hSs1) ?_
        clear hK K'
        try simp only [Act.put, List.setIfInBounds_toArray, List.set_cons_zero, List.set_cons_succ]
        rw [HVF.out]
        refine hd_take 6 (v := .bool true) rfl (by kernel_rfl) (by kernel_rfl) (by kernel_rfl) rfl hSs1 (fun W' hS => by go_simp) rfl ?_
        try simp only [Act.put, List.setIfInBounds_toArray, List.set_cons_zero, List.set_cons_succ]
        refine hd_take 7 (v := .bool true) rfl (by kernel_rfl) (by kernel_rfl) (by kernel_rfl) rfl hSs1 (fun W' hS => by go_simp) rfl ?_
        try simp only [Act.put, List.setIfInBounds_toArray, List.set_cons_zero, List.set_cons_succ]
        refine hd_take 8 (v := .bool true) rfl (by kernel_rfl) (by kernel_rfl) (by kernel_rfl) rfl hSs1 (fun W' hS => by go_simp) rfl ?_
        try simp only [Act.put, List.setIfInBounds_toArray, List.set_cons_zero, List.set_cons_succ]
        refine hd_take 9 (v := .bool true) rfl (by kernel_rfl) (by kernel_rfl) (by kernel_rfl) rfl hSs1 (fun W' hS => by go_simp) rfl ?_
        try simp only [Act.put, List.setIfInBounds_toArray, List.set_cons_zero, List.set_cons_succ]
        refine hd_take 10 (v := .bool false) rfl (by kernel_rfl) (by kernel_rfl) (by kernel_rfl) rfl hSs1 (fun W' hS => by go_simp) rfl ?_
        try simp only [Act.put, List.setIfInBounds_toArray, List.set_cons_zero, List.set_cons_succ]
        refine hd_take 11 (v := .bool true) rfl (by kernel_rfl) (by kernel_rfl) (by kernel_rfl) rfl hSs1 (fun W' hS => by go_simp) rfl ?_
        try simp only [Act.put, List.setIfInBounds_toArray, List.set_cons_zero, List.set_cons_succ]
        refine hd_take 12 (v := .bool true) rfl (by kernel_rfl) (by kernel_rfl) (by kernel_rfl) rfl hSs1 (fun W' hS => by go_simp) rfl ?_
        try simp only [Act.put, List.setIfInBounds_toArray, List.set_cons_zero, List.set_cons_succ]
        refine hd_skip 13 rfl (by kernel_rfl) (by kernel_rfl) (by kernel_rfl) rfl hSs1 rfl ?_
        refine hd_skip 14 rfl (by kernel_rfl) (by kernel_rfl) (by kernel_rfl) rfl hSs1 rfl ?_
        refine hd_take 15 (v := .bool true) rfl (by kernel_rfl) (by kernel_rfl) (by kernel_rfl) rfl hSs1 (fun W' hS => by go_simp) rfl ?_
        try simp only [Act.put, List.setIfInBounds_toArray, List.set_cons_zero, List.set_cons_succ]
        refine hd_take 16 (v := .bool true) rfl (by kernel_rfl) (by kernel_rfl) (by kernel_rfl) rfl hSs1 (fun W' hS => by go_simp) rfl ?_
        try simp only [Act.put, List.setIfInBounds_toArray, List.set_cons_zero, List.set_cons_succ]
        refine hd_skip 17 rfl (by kernel_rfl) (by kernel_rfl) (by kernel_rfl) rfl hSs1 rfl ?_
        refine hd_skip 18 rfl (by kernel_rfl) (by kernel_rfl) (by kernel_rfl) rfl hSs1 rfl ?_
        refine hd_skip 19 rfl (by kernel_rfl) (by kernel_rfl) (by kernel_rfl) rfl hSs1 rfl ?_
        refine hd_skip 20 rfl (by kernel_rfl) (by kernel_rfl) (by kernel_rfl) rfl hSs1 rfl ?_
        refine hd_skip 21 rfl (by kernel_rfl) (by kernel_rfl) (by kernel_rfl) rfl hSs1 rfl ?_
        refine hd_take 22 (v := .bool true) rfl (by kernel_rfl) (by kernel_rfl) (by kernel_rfl) rfl hSs1 (fun W' hS => by go_simp) rfl ?_
        try simp only [Act.put, List.setIfInBounds_toArray, List.set_cons_zero, List.set_cons_succ]
        refine hd_take 23 (v := .bool true) rfl (by kernel_rfl) (by kernel_rfl) (by kernel_rfl) rfl hSs1 (fun W' hS => by go_simp) rfl ?_
        try simp only [Act.put, List.setIfInBounds_toArray, List.set_cons_zero, List.set_cons_succ]
        refine hd_take 24 (v := .bool true) rfl (by kernel_rfl) (by kernel_rfl) (by kernel_rfl) rfl hSs1 (fun W' hS => by go_simp) rfl ?_
        try simp only [Act.put, List.setIfInBounds_toArray, List.set_cons_zero, List.set_cons_succ]
        refine held_done (by kernel_rfl) ?_
        have fe := fz.trans gs1 (by simp)
        go_wp2_with fail
        go_ret
        exact ⟨rfl, fe.toBelow (by simp)⟩
end Go.Proofs.YtennhdgnpodkaaaGreatDoor
