/-
  foyerref30.Pass.
-/
import Derived.Test.YtcblpfepkkkilaaGreatDoorTtI
import Derived.Test.YtcblpfepkkkilaaGreatDoorRtF
namespace Go.Proofs.YtcblpfepkkkilaaGreatDoor
open Go.RowKit

set_option maxRecDepth 100000 in
set_option maxHeartbeats 8000000 in
theorem rpass30_any (v : Value) (t : Ttl) (tk secret : List UInt8) (w : World) (hv : TtlR w v t) (hS : TSmall t) (htk : tk.length ≤ 100000) (hse : secret.length ≤ 1000000) :
    Calls Tryz.prog 8 #[v, .string ⟨tk.toArray⟩, .string ⟨secret.toArray⟩] w (PassPost w t tk secret) := by
  have hmx : Tryz.prog.follows .mixedOrders = true := by kernel_rfl
  obtain ⟨cv, rfl, hc⟩ := hv
  obtain ⟨a, cap, rfl, hlc, hcap, ha⟩ := hc.form
  have HC := Lib.hid hc
  have HS := Lib.hid hS
  clear hc hS
  obtain ⟨W0, hW0⟩ : ∃ W0, W0 = (w.alloc (.cells #[.int .i64 t.serial, .int .i64 t.shw, .int .i64 t.place, .string ⟨t.first.toArray⟩, .slice a t.chain.length cap] 24)).alloc (.cells #[.int .i64 0, .int .i64 0, .int .i64 0, .string ⟨#[]⟩, .slice none 0 0] 24) := ⟨_, rfl⟩
  obtain ⟨p, ep⟩ : ∃ p, p = w.heap.size := ⟨_, rfl⟩
  have h0 : Fr [] w W0 := by rw [hW0]; exact ((Fr.refl [] w).alloc _).alloc _
  have hq0 : W0.heap[p]? = some (.cells #[.int .i64 t.serial, .int .i64 t.shw, .int .i64 t.place, .string ⟨t.first.toArray⟩, .slice a t.chain.length cap] 24 (0, 0)) := by rw [hW0, ep]; exact heap_past _ (heap_new rfl)
  have hq1 : W0.heap[p + 1]? = some (.cells #[.int .i64 0, .int .i64 0, .int .i64 0, .string ⟨#[]⟩, .slice none 0 0] 24 (0, 0)) := by rw [hW0, ep]; exact heap_new (by simp)
  have c0 := row_cell hq0 0
  have c1 := row_cell hq0 1
  have c2 := row_cell hq0 2
  have c3 := row_cell hq0 3
  have c4 := row_cell hq0 4
  have z0 := row_cell hq1 0
  have z1 := row_cell hq1 1
  have z2 := row_cell hq1 2
  have z3 := row_cell hq1 3
  have z4 := row_cell hq1 4
  have f0 := row_free hq1 0
  have f1 := row_free hq1 1
  have f2 := row_free hq1 2
  have f3 := row_free hq1 3
  have f4 := row_free hq1 4
  simp at c0 c1 c2 c3 c4 z0 z1 z2 z3 z4
  rw [hW0, ep] at c0 c1 c2 c3 c4
  go_enter Tryz.func8, Tryz.ntmps8
  go_wp2_with fail
  rw [← hW0, ← ep]
  rw [← hW0, ← ep] at c0 c1 c2 c3 c4
  have EP := Lib.hid ep
  clear hW0 ep
  refine (rvalid30_any _ t W0 ⟨_, rfl, HC.out.fr h0⟩ HS.out).mono ?_
  rintro e w1 ⟨rfl, hb⟩
  have h1 : Fr [] w w1 := h0.below hb h0.size
  have hq0 := (Fr.ofBelow (X := []) hb).at hq0 (by simp)
  have hq1 := (Fr.ofBelow (X := []) hb).at hq1 (by simp)
  clear hb c0 c1 c2 c3 c4 z0 z1 z2 z3 z4 f0 f1 f2 f3 f4
  have c0 := row_cell hq0 0
  have c1 := row_cell hq0 1
  have c2 := row_cell hq0 2
  have c3 := row_cell hq0 3
  have c4 := row_cell hq0 4
  have z0 := row_cell hq1 0
  have z1 := row_cell hq1 1
  have z2 := row_cell hq1 2
  have z3 := row_cell hq1 3
  have z4 := row_cell hq1 4
  have f0 := row_free hq1 0
  have f1 := row_free hq1 1
  have f2 := row_free hq1 2
  have f3 := row_free hq1 3
  have f4 := row_free hq1 4
  simp at c0 c1 c2 c3 c4 z0 z1 z2 z3 z4
  obtain ⟨vo, evo⟩ : ∃ vo, vo = validT t := ⟨_, rfl⟩
  rw [← evo]
  have HVO := Lib.hid evo
  clear evo
  cases vo with
  | false =>
    have HR : Hid (passR t tk secret = (zeroTtl, 1)) := Lib.hid (by unfold passR passT; rw [← HVO.out]; rfl)
    have HX := Lib.hid (h1.store5 (p + 1) (by right; have := EP.out; omega) (.int .i64 0) (.int .i64 0) (.int .i64 0) (.string ⟨#[]⟩) (.slice none 0 0))
    have HRX := Lib.hid (row_set (row_set (row_set (row_set (row_set hq1 0 (.int .i64 0)) 1 (.int .i64 0)) 2 (.int .i64 0)) 3 (.string ⟨#[]⟩)) 4 (.slice none 0 0))
    clear hq0 hq1
    go_wp2_with fail
    have x0 := row_cell HRX.out 0
    have x1 := row_cell HRX.out 1
    have x2 := row_cell HRX.out 2
    have x3 := row_cell HRX.out 3
    have x4 := row_cell HRX.out 4
    simp at x0 x1 x2 x3 x4
    refine bodyPost_ret (v := .tuple #[zeroTV, .int .i64 1]) ?_ rfl ⟨zeroTV, by rw [HR.out], by rw [HR.out]; exact zeroT_reads _, HX.out.toBelow (by simp)⟩
    unfold zeroTV
    rw [results_cell_tmp rfl]
    go_simp
  | true =>
    have htl : tk.length ≤ 9223372036854775807 := by omega
    go_wp2_with fail
    refine (ris_any tk w1 htl).mono ?_
    rintro e w2 ⟨rfl, rfl⟩
    obtain ⟨io, eio⟩ : ∃ io, io = isD tk := ⟨_, rfl⟩
    rw [← eio]
    have HIO := Lib.hid eio
    clear eio
    cases io with
    | false =>
      have HR : Hid (passR t tk secret = (zeroTtl, 1)) := Lib.hid (by unfold passR passT; rw [← HVO.out, ← HIO.out]; rfl)
      have HX := Lib.hid (h1.store5 (p + 1) (by right; have := EP.out; omega) (.int .i64 0) (.int .i64 0) (.int .i64 0) (.string ⟨#[]⟩) (.slice none 0 0))
      have HRX := Lib.hid (row_set (row_set (row_set (row_set (row_set hq1 0 (.int .i64 0)) 1 (.int .i64 0)) 2 (.int .i64 0)) 3 (.string ⟨#[]⟩)) 4 (.slice none 0 0))
      clear hq0 hq1
      go_wp2_with fail
      have x0 := row_cell HRX.out 0
      have x1 := row_cell HRX.out 1
      have x2 := row_cell HRX.out 2
      have x3 := row_cell HRX.out 3
      have x4 := row_cell HRX.out 4
      simp at x0 x1 x2 x3 x4
      refine bodyPost_ret (v := .tuple #[zeroTV, .int .i64 1]) ?_ rfl ⟨zeroTV, by rw [HR.out], by rw [HR.out]; exact zeroT_reads _, HX.out.toBelow (by simp)⟩
      unfold zeroTV
      rw [results_cell_tmp rfl]
      go_simp
    | true =>
      by_cases h50 : t.chain.length = 50
      · have t1 : ((t.chain.length : Int) == 50) = true := by rw [h50]; rfl
        have H50 := Lib.hid h50
        clear h50
        have HR : Hid (passR t tk secret = (zeroTtl, 3)) := Lib.hid (by unfold passR passT; rw [← HVO.out, ← HIO.out, if_neg (by decide), if_pos H50.out])
        have HX := Lib.hid (h1.store5 (p + 1) (by right; have := EP.out; omega) (.int .i64 0) (.int .i64 0) (.int .i64 0) (.string ⟨#[]⟩) (.slice none 0 0))
        have HRX := Lib.hid (row_set (row_set (row_set (row_set (row_set hq1 0 (.int .i64 0)) 1 (.int .i64 0)) 2 (.int .i64 0)) 3 (.string ⟨#[]⟩)) 4 (.slice none 0 0))
        clear hq0 hq1
        go_wp2_with fail
        have x0 := row_cell HRX.out 0
        have x1 := row_cell HRX.out 1
        have x2 := row_cell HRX.out 2
        have x3 := row_cell HRX.out 3
        have x4 := row_cell HRX.out 4
        simp at x0 x1 x2 x3 x4
        refine bodyPost_ret (v := .tuple #[zeroTV, .int .i64 3]) ?_ rfl ⟨zeroTV, by rw [HR.out], by rw [HR.out]; exact zeroT_reads _, HX.out.toBelow (by simp)⟩
        unfold zeroTV
        rw [results_cell_tmp rfl]
        go_simp
      have t1 : ((t.chain.length : Int) == 50) = false := by rw [beq_eq_false_iff_ne]; omega
      have H50 := Lib.hid h50
      clear h50
      go_wp2_with fail
      refine (rused30_any _ t tk w1 ⟨_, rfl, HC.out.fr h1⟩).mono ?_
      rintro e w3 ⟨rfl, hb⟩
      have h3 : Fr [] w w3 := h1.below hb h1.size
      have hq0 := (Fr.ofBelow (X := []) hb).at hq0 (by simp)
      have hq1 := (Fr.ofBelow (X := []) hb).at hq1 (by simp)
      clear hb c0 c1 c2 c3 c4 z0 z1 z2 z3 z4 f0 f1 f2 f3 f4
      have c0 := row_cell hq0 0
      have c1 := row_cell hq0 1
      have c2 := row_cell hq0 2
      have c3 := row_cell hq0 3
      have c4 := row_cell hq0 4
      have z0 := row_cell hq1 0
      have z1 := row_cell hq1 1
      have z2 := row_cell hq1 2
      have z3 := row_cell hq1 3
      have z4 := row_cell hq1 4
      have f0 := row_free hq1 0
      have f1 := row_free hq1 1
      have f2 := row_free hq1 2
      have f3 := row_free hq1 3
      have f4 := row_free hq1 4
      simp at c0 c1 c2 c3 c4 z0 z1 z2 z3 z4
      obtain ⟨uo, euo⟩ : ∃ uo, uo = usedT t tk := ⟨_, rfl⟩
      rw [← euo]
      have HUO := Lib.hid euo
      clear euo
      cases uo with
      | true =>
        have HR : Hid (passR t tk secret = (zeroTtl, 9)) := Lib.hid (by unfold passR passT; rw [← HVO.out, ← HIO.out, if_neg (by decide), if_neg H50.out, ← HUO.out, if_pos rfl])
        have HX := Lib.hid (h3.store5 (p + 1) (by right; have := EP.out; omega) (.int .i64 0) (.int .i64 0) (.int .i64 0) (.string ⟨#[]⟩) (.slice none 0 0))
        have HRX := Lib.hid (row_set (row_set (row_set (row_set (row_set hq1 0 (.int .i64 0)) 1 (.int .i64 0)) 2 (.int .i64 0)) 3 (.string ⟨#[]⟩)) 4 (.slice none 0 0))
        clear hq0 hq1
        go_wp2_with fail
        have x0 := row_cell HRX.out 0
        have x1 := row_cell HRX.out 1
        have x2 := row_cell HRX.out 2
        have x3 := row_cell HRX.out 3
        have x4 := row_cell HRX.out 4
        simp at x0 x1 x2 x3 x4
        refine bodyPost_ret (v := .tuple #[zeroTV, .int .i64 9]) ?_ rfl ⟨zeroTV, by rw [HR.out], by rw [HR.out]; exact zeroT_reads _, HX.out.toBelow (by simp)⟩
        unfold zeroTV
        rw [results_cell_tmp rfl]
        go_simp
      | false =>
        obtain ⟨kb, ekb⟩ : ∃ kb, kb = (publicS secret != ownerT t) := ⟨_, rfl⟩
        have HKB := Lib.hid ekb
        have u1 : (publicS secret == ownerT t) = !kb := by rw [ekb, bne, Bool.not_not]
        have u2 : (publicS secret != ownerT t) = kb := ekb.symm
        clear ekb
        go_wp2_with fail
        have ga0 : Fr [] w3 w3.drew := (Fr.refl [] w3).drew
        have hSa0 : w3.drew.cell? ⟨p, 0, none⟩ = some (.int .i64 t.serial) ∧ w3.drew.cell? ⟨p, 1, none⟩ = some (.int .i64 t.shw) ∧ w3.drew.cell? ⟨p, 2, none⟩ = some (.int .i64 t.place) ∧ w3.drew.cell? ⟨p, 3, none⟩ = some (.string ⟨t.first.toArray⟩) ∧ w3.drew.cell? ⟨p, 4, none⟩ = some (.slice a t.chain.length cap) := ⟨ga0.cell c0 (by simp), ga0.cell c1 (by simp), ga0.cell c2 (by simp), ga0.cell c3 (by simp), ga0.cell c4 (by simp)⟩
        refine region_held 100 (fun W' => W'.cell? ⟨p, 0, none⟩ = some (.int .i64 t.serial) ∧ W'.cell? ⟨p, 1, none⟩ = some (.int .i64 t.shw) ∧ W'.cell? ⟨p, 2, none⟩ = some (.int .i64 t.place) ∧ W'.cell? ⟨p, 3, none⟩ = some (.string ⟨t.first.toArray⟩) ∧ W'.cell? ⟨p, 4, none⟩ = some (.slice a t.chain.length cap)) hmx ?_
        change Held _ _ _ _ _ _ 5 (Array.replicate 5 false) _ _
        refine hd_take 0 (v := .string ⟨secret.toArray⟩) rfl (by kernel_rfl) (by kernel_rfl) (by kernel_rfl) rfl hSa0 (fun W' hS => by go_simp) rfl ?_
        refine hd_take 2 (v := .agg #[.int .i64 t.serial, .int .i64 t.shw, .int .i64 t.place, .string ⟨t.first.toArray⟩, .slice a t.chain.length cap]) rfl (by kernel_rfl) (by kernel_rfl) (by kernel_rfl) rfl hSa0 (fun W' hS => by obtain ⟨s0, s1, s2, s3, s4⟩ := hS; go_simp) rfl ?_
        try simp only [Act.put, List.setIfInBounds_toArray, List.set_cons_zero, List.set_cons_succ]
        refine hd_one 1 (by kernel_rfl) rfl (by kernel_rfl) rfl (fun K' hK => ?_)
        go_simp
        refine (rpublic_any secret w3.drew hse).mono ?_
        rintro e ya1 ⟨rfl, hbb⟩
        have ga1 : Fr [] w3 ya1 := ga0.below hbb ga0.size
        clear hbb
        have hSa1 : ya1.cell? ⟨p, 0, none⟩ = some (.int .i64 t.serial) ∧ ya1.cell? ⟨p, 1, none⟩ = some (.int .i64 t.shw) ∧ ya1.cell? ⟨p, 2, none⟩ = some (.int .i64 t.place) ∧ ya1.cell? ⟨p, 3, none⟩ = some (.string ⟨t.first.toArray⟩) ∧ ya1.cell? ⟨p, 4, none⟩ = some (.slice a t.chain.length cap) := ⟨ga1.cell c0 (by simp), ga1.cell c1 (by simp), ga1.cell c2 (by simp), ga1.cell c3 (by simp), ga1.cell c4 (by simp)⟩
        refine hK.out _ _ (fun _ => hSa1) ?_
        clear hK K'
        try simp only [Act.put, List.setIfInBounds_toArray, List.set_cons_zero, List.set_cons_succ]
        refine hd_one 3 (by kernel_rfl) rfl (by kernel_rfl) rfl (fun K' hK => ?_)
        go_simp
        refine (rowner30_any _ t ya1 ⟨_, rfl, HC.out.fr (h3.trans ga1 (by simp))⟩).mono ?_
        rintro e ya2 ⟨rfl, hbb⟩
        have ga2 : Fr [] w3 ya2 := ga1.below hbb ga1.size
        clear hbb
        have hSa2 : ya2.cell? ⟨p, 0, none⟩ = some (.int .i64 t.serial) ∧ ya2.cell? ⟨p, 1, none⟩ = some (.int .i64 t.shw) ∧ ya2.cell? ⟨p, 2, none⟩ = some (.int .i64 t.place) ∧ ya2.cell? ⟨p, 3, none⟩ = some (.string ⟨t.first.toArray⟩) ∧ ya2.cell? ⟨p, 4, none⟩ = some (.slice a t.chain.length cap) := ⟨ga2.cell c0 (by simp), ga2.cell c1 (by simp), ga2.cell c2 (by simp), ga2.cell c3 (by simp), ga2.cell c4 (by simp)⟩
        refine hK.out _ _ (fun _ => hSa2) ?_
        clear hK K'
        try simp only [Act.put, List.setIfInBounds_toArray, List.set_cons_zero, List.set_cons_succ]
        refine hd_take 4 (v := .bool kb) rfl (by kernel_rfl) (by kernel_rfl) (by kernel_rfl) rfl hSa2 (fun W' hS => by go_simp) rfl ?_
        try simp only [Act.put, List.setIfInBounds_toArray, List.set_cons_zero, List.set_cons_succ]
        refine held_done (by kernel_rfl) ?_
        have h4 : Fr [] w ya2 := h3.trans ga2 (by simp)
        have hq0 := ga2.at hq0 (by simp)
        have hq1 := ga2.at hq1 (by simp)
        clear ga0 ga1 ga2 hSa0 hSa1 hSa2 c0 c1 c2 c3 c4 z0 z1 z2 z3 z4 f0 f1 f2 f3 f4
        have c0 := row_cell hq0 0
        have c1 := row_cell hq0 1
        have c2 := row_cell hq0 2
        have c3 := row_cell hq0 3
        have c4 := row_cell hq0 4
        have z0 := row_cell hq1 0
        have z1 := row_cell hq1 1
        have z2 := row_cell hq1 2
        have z3 := row_cell hq1 3
        have z4 := row_cell hq1 4
        have f0 := row_free hq1 0
        have f1 := row_free hq1 1
        have f2 := row_free hq1 2
        have f3 := row_free hq1 3
        have f4 := row_free hq1 4
        simp at c0 c1 c2 c3 c4 z0 z1 z2 z3 z4
        cases kb with
        | true =>
          have HR : Hid (passR t tk secret = (zeroTtl, 20)) := Lib.hid (by unfold passR passT; rw [← HVO.out, ← HIO.out, if_neg (by decide), if_neg H50.out, ← HUO.out, if_neg (by decide), ← HKB.out]; rfl)
          have HX := Lib.hid (h4.store5 (p + 1) (by right; have := EP.out; omega) (.int .i64 0) (.int .i64 0) (.int .i64 0) (.string ⟨#[]⟩) (.slice none 0 0))
          have HRX := Lib.hid (row_set (row_set (row_set (row_set (row_set hq1 0 (.int .i64 0)) 1 (.int .i64 0)) 2 (.int .i64 0)) 3 (.string ⟨#[]⟩)) 4 (.slice none 0 0))
          clear hq0 hq1
          go_wp2_with fail
          have x0 := row_cell HRX.out 0
          have x1 := row_cell HRX.out 1
          have x2 := row_cell HRX.out 2
          have x3 := row_cell HRX.out 3
          have x4 := row_cell HRX.out 4
          simp at x0 x1 x2 x3 x4
          refine bodyPost_ret (v := .tuple #[zeroTV, .int .i64 20]) ?_ rfl ⟨zeroTV, by rw [HR.out], by rw [HR.out]; exact zeroT_reads _, HX.out.toBelow (by simp)⟩
          unfold zeroTV
          rw [results_cell_tmp rfl]
          go_simp
        | false =>
          obtain ⟨R, hRm, hRW, hRS⟩ := HC.out.raw
          have HRW := Lib.hid hRW
          have HSG := Lib.hid hRS
          have hRn : R.length = t.chain.length := by rw [← hRm, List.length_map]
          have hRl : R.length ≤ 100000 := by have := HS.out.n; omega
          have HML : Hid ((msgT t tk).length ≤ 1000000) := Lib.hid (by unfold msgT dlist; rw [dsum_length]; decide)
          have HRM := Lib.hid hRm
          clear hRW hRS hRm
          have HR : Hid (passR t tk secret = ({ t with chain := t.chain ++ [⟨tk, sigS secret (msgT t tk)⟩] }, 0)) := Lib.hid (by
            unfold passR passT
            rw [← HVO.out, ← HIO.out, if_neg (by decide), if_neg H50.out, ← HUO.out, if_neg (by decide), ← HKB.out]
            rfl)
          have hpl : p + 1 < ya2.heap.size := lt_of_block hq1
          clear u1 u2
          go_wp2_with fail
          refine (rmessage30_any _ t tk ya2 ⟨_, rfl, HC.out.fr h4⟩ HS.out htk).mono ?_
          rintro e y5 ⟨rfl, hb⟩
          have k5 : Fr [] ya2 y5 := Fr.ofBelow hb
          have hpl5 : p + 1 < y5.heap.size := Nat.lt_of_lt_of_le hpl k5.size
          clear hb
          go_wp2_with fail
          refine (rsign_any secret (msgT t tk) y5 hse HML.out).mono ?_
          rintro e y6 ⟨sv, rfl, hos, hb⟩
          have k6 : Fr [] ya2 y6 := k5.below hb k5.size
          have hys : ∀ k, sv.ownBlock = some k → y5.heap.size ≤ k := fun k hk => (ownBlock_cells hos k hk).1
          obtain ⟨sg, sgc, rfl⟩ := hos.slice (sigS_length _ _) (by decide)
          have hstr := hos.strs
          clear hos hb
          obtain ⟨Y, eY⟩ : ∃ Y, Y = y6.alloc (.cells #[.string ⟨tk.toArray⟩, .slice (some ⟨sg, 0, none⟩) 18 sgc] 41) := ⟨_, rfl⟩
          obtain ⟨q, eq⟩ : ∃ q, q = y6.heap.size := ⟨_, rfl⟩
          have hd : Y.heap[q]? = some (.cells #[.string ⟨tk.toArray⟩, .slice (some ⟨sg, 0, none⟩) 18 sgc] 41 (0, 0)) := by rw [eY]; exact heap_new eq
          have kY : Fr [] y6 Y := by rw [eY]; exact (Fr.refl [] y6).alloc _
          have HOSg := Lib.hid (hstr.fr0 kY)
          have k7 := k6.trans kY (by simp)
          have HY := Lib.hid (h4.trans k7 (by simp))
          have hq0 := k7.at hq0 (by simp)
          have hq1 := k7.at hq1 (by simp)
          have hplY : p + 1 < Y.heap.size := lt_of_block hq1
          go_wp2_with fail
          rw [← eq, ← eY]
          clear eq eY hstr k5 k6 kY k7 h4 hpl c0 c1 c2 c3 c4 z0 z1 z2 z3 z4 f0 f1 f2 f3 f4
          have c0 := row_cell hq0 0
          have c1 := row_cell hq0 1
          have c2 := row_cell hq0 2
          have c3 := row_cell hq0 3
          have c4 := row_cell hq0 4
          have z0 := row_cell hq1 0
          have z1 := row_cell hq1 1
          have z2 := row_cell hq1 2
          have z3 := row_cell hq1 3
          have z4 := row_cell hq1 4
          have f0 := row_free hq1 0
          have f1 := row_free hq1 1
          have f2 := row_free hq1 2
          have f3 := row_free hq1 3
          have f4 := row_free hq1 4
          simp at c0 c1 c2 c3 c4 z0 z1 z2 z3 z4
          have d0 := row_cell hd 0
          have d1 := row_cell hd 1
          simp at d0 d1
          clear c0 c1 c2 c3
          have gb0 : Fr [] Y Y.drew := (Fr.refl [] Y).drew
          have hSb0 : Y.drew.cell? ⟨p, 4, none⟩ = some (.slice a t.chain.length cap) ∧ Y.drew.cell? ⟨q, 0, none⟩ = some (.string ⟨tk.toArray⟩) ∧ Y.drew.cell? ⟨q, 1, none⟩ = some (.slice (some ⟨sg, 0, none⟩) 18 sgc) := ⟨gb0.cell c4 (by simp), gb0.cell d0 (by simp), gb0.cell d1 (by simp)⟩
          refine region_held 8 (fun W' => W'.cell? ⟨p, 4, none⟩ = some (.slice a t.chain.length cap) ∧ W'.cell? ⟨q, 0, none⟩ = some (.string ⟨tk.toArray⟩) ∧ W'.cell? ⟨q, 1, none⟩ = some (.slice (some ⟨sg, 0, none⟩) 18 sgc)) hmx ?_
          change Held _ _ _ _ _ _ 9 (Array.replicate 9 false) _ _
          refine hd_take 1 (v := .pointer (some ⟨p, 4, none⟩)) rfl (by kernel_rfl) (by kernel_rfl) (by kernel_rfl) rfl hSb0 (fun W' hS => by go_simp) rfl ?_
          refine hd_take 4 (v := .agg #[.string ⟨tk.toArray⟩, .slice (some ⟨sg, 0, none⟩) 18 sgc]) rfl (by kernel_rfl) (by kernel_rfl) (by kernel_rfl) rfl hSb0 (fun W' hS => by obtain ⟨s0, s1, s2⟩ := hS; go_simp) rfl ?_
          try simp only [Act.put, List.setIfInBounds_toArray, List.set_cons_zero, List.set_cons_succ]
          refine hd_take 2 (v := .slice a t.chain.length cap) rfl (by kernel_rfl) (by kernel_rfl) (by kernel_rfl) rfl hSb0 (fun W' hS => by obtain ⟨s0, s1, s2⟩ := hS; go_simp) rfl ?_
          try simp only [Act.put, List.setIfInBounds_toArray, List.set_cons_zero, List.set_cons_succ]
          generalize Y.drew = Yd at gb0 hSb0 ⊢
          refine hd_two 0 5 (by kernel_rfl) rfl (by kernel_rfl) rfl rfl (by kernel_rfl) rfl (fun K' hK => ?_) (fun K' hK => ?_)
          · go_simp
            have gg1 := gb0.alloc (.cells #[] 41)
            obtain ⟨e0, ee0⟩ : ∃ e0, e0 = Yd.heap.size := ⟨_, rfl⟩
            have le0 : Y.heap.size ≤ e0 := by rw [ee0]; exact gb0.size
            have HO0 := Lib.hid (show OwnT Y.heap.size (Yd.alloc (.cells #[] 41)) (.slice (some ⟨e0, 0, none⟩) 0 0) [] by rw [ee0]; exact ownT_empty gb0.size)
            rw [← ee0]
            generalize Yd.alloc (.cells #[] 41) = v1 at gg1 HO0  ⊢
            clear ee0
            have hS2 : v1.cell? ⟨p, 4, none⟩ = some (.slice a t.chain.length cap) ∧ v1.cell? ⟨q, 0, none⟩ = some (.string ⟨tk.toArray⟩) ∧ v1.cell? ⟨q, 1, none⟩ = some (.slice (some ⟨sg, 0, none⟩) 18 sgc) := ⟨gg1.cell c4 (by simp), gg1.cell d0 (by simp), gg1.cell d1 (by simp)⟩
            refine hK.out _ _ (fun _ => hS2) ?_
            clear hK K'
            try simp only [Act.put, List.setIfInBounds_toArray, List.set_cons_zero, List.set_cons_succ]
            refine hd_two 3 5 (by kernel_rfl) rfl (by kernel_rfl) rfl rfl (by kernel_rfl) rfl (fun K' hK => ?_) (fun K' hK => ?_)
            · refine wp_appT (.tmp 40) (.tmp 42) rfl Y.heap.size (.slice (some ⟨e0, 0, none⟩) 0 0) _ [] R Y (by kernel_rfl) (by kernel_rfl) (HRW.out.fr (HY.out.trans gg1 (by simp))) (HSG.out.fr (HY.out.trans gg1 (by simp))) HO0.out gg1 (Nat.le_refl _) gg1.size (by simp; omega) ?_
              intro ov w3 ho3 hf3 hg3
              rw [List.nil_append] at ho3
              have HO3 := Lib.hid ho3
              have hyl : ∀ k, ov.ownBlock = some k → k < w3.heap.size := fun k hk => ownBlock_lt ho3 k hk
              clear ho3 HO0
              have hS4 : w3.cell? ⟨p, 4, none⟩ = some (.slice a t.chain.length cap) ∧ w3.cell? ⟨q, 0, none⟩ = some (.string ⟨tk.toArray⟩) ∧ w3.cell? ⟨q, 1, none⟩ = some (.slice (some ⟨sg, 0, none⟩) 18 sgc) := ⟨hf3.cell c4 (by simp), hf3.cell d0 (by simp), hf3.cell d1 (by simp)⟩
              refine hK.out _ _ (fun _ => hS4) ?_
              clear hK K'
              try simp only [Act.put, List.setIfInBounds_toArray, List.set_cons_zero, List.set_cons_succ]
              refine hd_one 5 (by kernel_rfl) rfl (by kernel_rfl) rfl (fun K' hK => ?_)
              go_simp
              have gg5 := hf3.alloc (.cells #[.string ⟨tk.toArray⟩, .slice (some ⟨sg, 0, none⟩) 18 sgc] 41)
              have HO3 := Lib.hid (HO3.out.fr ((Fr.refl [] w3).alloc (.cells #[.string ⟨tk.toArray⟩, .slice (some ⟨sg, 0, none⟩) 18 sgc] 41)) (by simp))
              obtain ⟨e5, ee5⟩ : ∃ e5, e5 = w3.heap.size := ⟨_, rfl⟩
              have le5 : Y.heap.size ≤ e5 := by rw [ee5]; exact hf3.size
              have hq5 : (w3.alloc (.cells #[.string ⟨tk.toArray⟩, .slice (some ⟨sg, 0, none⟩) 18 sgc] 41)).heap[e5]? = some (.cells #[.string ⟨tk.toArray⟩, .slice (some ⟨sg, 0, none⟩) 18 sgc] 41 (0, 0)) := heap_new ee5
              rw [← ee5]
              generalize w3.alloc (.cells #[.string ⟨tk.toArray⟩, .slice (some ⟨sg, 0, none⟩) 18 sgc] 41) = v5 at gg5 hq5 HO3 ⊢
              clear ee5
              have hS6 : v5.cell? ⟨p, 4, none⟩ = some (.slice a t.chain.length cap) ∧ v5.cell? ⟨q, 0, none⟩ = some (.string ⟨tk.toArray⟩) ∧ v5.cell? ⟨q, 1, none⟩ = some (.slice (some ⟨sg, 0, none⟩) 18 sgc) := ⟨gg5.cell c4 (by simp), gg5.cell d0 (by simp), gg5.cell d1 (by simp)⟩
              refine hK.out _ _ (fun _ => hS6) ?_
              clear hK K'
              try simp only [Act.put, List.setIfInBounds_toArray, List.set_cons_zero, List.set_cons_succ]
              refine hd_one 6 (by kernel_rfl) rfl (by kernel_rfl) rfl (fun K' hK => ?_)
              refine wp_appT (.tmp 43) (.tmp 45) rfl Y.heap.size ov _ R [(⟨tk, sigS secret (msgT t tk)⟩, .slice (some ⟨sg, 0, none⟩) 18 sgc)] Y (by kernel_rfl) (by kernel_rfl) (rawT_one hq5) (fun q hq => by rw [List.mem_singleton.1 hq]; exact Or.inl (HOSg.out.fr0 gg5)) HO3.out gg5 (Nat.le_refl _) gg5.size (by simp; omega) ?_
              intro v' w7 ho7 hf7 hg7
              obtain ⟨g7, c7, hv7, hgb7⟩ := ho7.someN (by simp)
              rw [show (R ++ [((⟨tk, sigS secret (msgT t tk)⟩ : Trf), (Value.slice (some ⟨sg, 0, none⟩) 18 sgc))]).length = t.chain.length + 1 by rw [List.length_append, hRn]; rfl] at hv7
              subst hv7
              have hS7 : w7.cell? ⟨p, 4, none⟩ = some (.slice a t.chain.length cap) ∧ w7.cell? ⟨q, 0, none⟩ = some (.string ⟨tk.toArray⟩) ∧ w7.cell? ⟨q, 1, none⟩ = some (.slice (some ⟨sg, 0, none⟩) 18 sgc) := ⟨hf7.cell c4 (by simp), hf7.cell d0 (by simp), hf7.cell d1 (by simp)⟩
              refine hK.out _ _ (fun _ => hS7) ?_
              clear hK K'
              try simp only [Act.put, List.setIfInBounds_toArray, List.set_cons_zero, List.set_cons_succ]
              refine hd_take 7 (v := .pointer (some ⟨p, 4, none⟩)) rfl (by kernel_rfl) (by kernel_rfl) (by kernel_rfl) rfl hS7 (fun W' hS => by go_simp) rfl ?_
              try simp only [Act.put, List.setIfInBounds_toArray, List.set_cons_zero, List.set_cons_succ]
              have hq7 := hf7.at hq0 (by simp)
              have r4 := row_cell hq7 4
              simp at r4
              have y4 := row_free hq7 4
              refine hd_one 8 (by kernel_rfl) rfl (by kernel_rfl) rfl (fun K' hK => ?_)
              go_simp
              refine hK.out _ _ (fun h => absurd rfl h) ?_
              clear hK K'
              refine held_done (by kernel_rfl) ?_
              have hf8 : Fr [] w (w7.setCell ⟨p, 4, none⟩ (.slice (some ⟨g7, 0, none⟩) (t.chain.length + 1) c7)) := (HY.out.trans hf7 (by simp)).setCell _ _ (by right; have := EP.out; simp; omega)
              have hp8 := row_set hq7 4 (.slice (some ⟨g7, 0, none⟩) (t.chain.length + 1) c7)
              have hz8 := heap_other (hf7.at hq1 (by simp)) ⟨p, 4, none⟩ (.slice (some ⟨g7, 0, none⟩) (t.chain.length + 1) c7) (by simp)
              have hst2 : Fr [p, p + 1] w7 ((((((w7.setCell ⟨p, 4, none⟩ (.slice (some ⟨g7, 0, none⟩) (t.chain.length + 1) c7)).setCell ⟨p + 1, 0, none⟩ (.int .i64 t.serial)).setCell ⟨p + 1, 1, none⟩ (.int .i64 t.shw)).setCell ⟨p + 1, 2, none⟩ (.int .i64 t.place)).setCell ⟨p + 1, 3, none⟩ (.string ⟨t.first.toArray⟩)).setCell ⟨p + 1, 4, none⟩ (.slice (some ⟨g7, 0, none⟩) (t.chain.length + 1) c7)) := (((Fr.refl [p, p + 1] w7).setCell ⟨p, 4, none⟩ (.slice (some ⟨g7, 0, none⟩) (t.chain.length + 1) c7) (by simp)).store5 (p + 1) (by simp) _ _ _ _ _)
              have hfZ : Fr [] w ((((((w7.setCell ⟨p, 4, none⟩ (.slice (some ⟨g7, 0, none⟩) (t.chain.length + 1) c7)).setCell ⟨p + 1, 0, none⟩ (.int .i64 t.serial)).setCell ⟨p + 1, 1, none⟩ (.int .i64 t.shw)).setCell ⟨p + 1, 2, none⟩ (.int .i64 t.place)).setCell ⟨p + 1, 3, none⟩ (.string ⟨t.first.toArray⟩)).setCell ⟨p + 1, 4, none⟩ (.slice (some ⟨g7, 0, none⟩) (t.chain.length + 1) c7)) := hf8.store5 (p + 1) (by right; have := EP.out; omega) _ _ _ _ _
              have htrZ : Trs ((((((w7.setCell ⟨p, 4, none⟩ (.slice (some ⟨g7, 0, none⟩) (t.chain.length + 1) c7)).setCell ⟨p + 1, 0, none⟩ (.int .i64 t.serial)).setCell ⟨p + 1, 1, none⟩ (.int .i64 t.shw)).setCell ⟨p + 1, 2, none⟩ (.int .i64 t.place)).setCell ⟨p + 1, 3, none⟩ (.string ⟨t.first.toArray⟩)).setCell ⟨p + 1, 4, none⟩ (.slice (some ⟨g7, 0, none⟩) (t.chain.length + 1) c7)) (.slice (some ⟨g7, 0, none⟩) (t.chain.length + 1) c7) (t.chain ++ [⟨tk, sigS secret (msgT t tk)⟩]) := by
                have ho8 := ho7.fr hst2 (fun k hk hm => by
                  have h1 := (ownBlock_cells ho7 k hk).1
                  simp only [List.mem_cons, List.not_mem_nil, or_false] at hm
                  omega)
                have hsl := hys sg rfl
                have hsv8 : StrsW ((((((w7.setCell ⟨p, 4, none⟩ (.slice (some ⟨g7, 0, none⟩) (t.chain.length + 1) c7)).setCell ⟨p + 1, 0, none⟩ (.int .i64 t.serial)).setCell ⟨p + 1, 1, none⟩ (.int .i64 t.shw)).setCell ⟨p + 1, 2, none⟩ (.int .i64 t.place)).setCell ⟨p + 1, 3, none⟩ (.string ⟨t.first.toArray⟩)).setCell ⟨p + 1, 4, none⟩ (.slice (some ⟨g7, 0, none⟩) (t.chain.length + 1) c7)) (.slice (some ⟨sg, 0, none⟩) 18 sgc) (sigS secret (msgT t tk)) := by
                  refine StrsW.frX (StrsW.fr (Or.inl HOSg.out) hf7) hst2 (fun k hk hm => ?_)
                  have e1 : sg = k := by simpa [Value.ownBlock] using hk
                  simp only [List.mem_cons, List.not_mem_nil, or_false] at hm
                  omega
                have hsig8 : SigsR ((((((w7.setCell ⟨p, 4, none⟩ (.slice (some ⟨g7, 0, none⟩) (t.chain.length + 1) c7)).setCell ⟨p + 1, 0, none⟩ (.int .i64 t.serial)).setCell ⟨p + 1, 1, none⟩ (.int .i64 t.shw)).setCell ⟨p + 1, 2, none⟩ (.int .i64 t.place)).setCell ⟨p + 1, 3, none⟩ (.string ⟨t.first.toArray⟩)).setCell ⟨p + 1, 4, none⟩ (.slice (some ⟨g7, 0, none⟩) (t.chain.length + 1) c7)) (R ++ [((⟨tk, sigS secret (msgT t tk)⟩ : Trf), (Value.slice (some ⟨sg, 0, none⟩) 18 sgc))]) :=
                  (HSG.out.fr hfZ).app (fun q hq => by rw [List.mem_singleton.1 hq]; exact hsv8)
                have h2 := ho8.raw.trs hsig8
                rw [List.map_append, HRM.out] at h2
                exact h2
              clear hst2
              generalize w7.setCell ⟨p, 4, none⟩ (.slice (some ⟨g7, 0, none⟩) (t.chain.length + 1) c7) = w8 at hf8 hp8 hz8 htrZ hfZ ⊢
              have HTX := Lib.hid htrZ
              have HX := Lib.hid hfZ
              clear htrZ hfZ hf8 ho7 hf7 hg7 hq7 r4 y4 hS7
              clear c4 d0 d1 z0 z1 z2 z3 z4 f0 f1 f2 f3 f4
              have c0 := row_cell hp8 0
              have c1 := row_cell hp8 1
              have c2 := row_cell hp8 2
              have c3 := row_cell hp8 3
              have c4 := row_cell hp8 4
              have z0 := row_cell hz8 0
              have z1 := row_cell hz8 1
              have z2 := row_cell hz8 2
              have z3 := row_cell hz8 3
              have z4 := row_cell hz8 4
              have f0 := row_free hz8 0
              have f1 := row_free hz8 1
              have f2 := row_free hz8 2
              have f3 := row_free hz8 3
              have f4 := row_free hz8 4
              simp at c0 c1 c2 c3 c4 z0 z1 z2 z3 z4
              have HRX := Lib.hid (row_set (row_set (row_set (row_set (row_set hz8 0 (.int .i64 t.serial)) 1 (.int .i64 t.shw)) 2 (.int .i64 t.place)) 3 (.string ⟨t.first.toArray⟩)) 4 (.slice (some ⟨g7, 0, none⟩) (t.chain.length + 1) c7))
              clear hp8 hz8 hq0 hq1 hd
              go_wp2_with fail
              have x0 := row_cell HRX.out 0
              have x1 := row_cell HRX.out 1
              have x2 := row_cell HRX.out 2
              have x3 := row_cell HRX.out 3
              have x4 := row_cell HRX.out 4
              simp at x0 x1 x2 x3 x4
              refine bodyPost_ret (v := .tuple #[.agg #[.int .i64 t.serial, .int .i64 t.shw, .int .i64 t.place, .string ⟨t.first.toArray⟩, .slice (some ⟨g7, 0, none⟩) (t.chain.length + 1) c7], .int .i64 0]) ?_ rfl ⟨_, by rw [HR.out], by rw [HR.out]; exact ⟨_, rfl, HTX.out⟩, HX.out.toBelow (by simp)⟩
              rw [results_cell_tmp rfl]
              go_simp
            · have HO0old := HO0
              go_simp
              have gg7 := gg1.alloc (.cells #[.string ⟨tk.toArray⟩, .slice (some ⟨sg, 0, none⟩) 18 sgc] 41)
              have HO0 := Lib.hid (HO0.out.fr ((Fr.refl [] v1).alloc (.cells #[.string ⟨tk.toArray⟩, .slice (some ⟨sg, 0, none⟩) 18 sgc] 41)) (by simp))
              obtain ⟨e5, ee5⟩ : ∃ e5, e5 = v1.heap.size := ⟨_, rfl⟩
              have le5 : Y.heap.size ≤ e5 := by rw [ee5]; exact gg1.size
              have hq5 : (v1.alloc (.cells #[.string ⟨tk.toArray⟩, .slice (some ⟨sg, 0, none⟩) 18 sgc] 41)).heap[e5]? = some (.cells #[.string ⟨tk.toArray⟩, .slice (some ⟨sg, 0, none⟩) 18 sgc] 41 (0, 0)) := heap_new ee5
              have ne05 : e0 ≠ e5 := by have := ownBlock_lt HO0old.out e0 rfl; omega
              rw [← ee5]
              generalize v1.alloc (.cells #[.string ⟨tk.toArray⟩, .slice (some ⟨sg, 0, none⟩) 18 sgc] 41) = v7 at gg7 hq5 HO0 ⊢
              clear ee5
              clear HO0old
              have hS8 : v7.cell? ⟨p, 4, none⟩ = some (.slice a t.chain.length cap) ∧ v7.cell? ⟨q, 0, none⟩ = some (.string ⟨tk.toArray⟩) ∧ v7.cell? ⟨q, 1, none⟩ = some (.slice (some ⟨sg, 0, none⟩) 18 sgc) := ⟨gg7.cell c4 (by simp), gg7.cell d0 (by simp), gg7.cell d1 (by simp)⟩
              refine hK.out _ _ (fun _ => hS8) ?_
              clear hK K'
              try simp only [Act.put, List.setIfInBounds_toArray, List.set_cons_zero, List.set_cons_succ]
              refine hd_one 3 (by kernel_rfl) rfl (by kernel_rfl) rfl (fun K' hK => ?_)
              refine wp_appT (.tmp 40) (.tmp 42) rfl Y.heap.size (.slice (some ⟨e0, 0, none⟩) 0 0) _ [] R Y (by kernel_rfl) (by kernel_rfl) (HRW.out.fr (HY.out.trans gg7 (by simp))) (HSG.out.fr (HY.out.trans gg7 (by simp))) HO0.out gg7 (Nat.le_refl _) gg7.size (by simp; omega) ?_
              intro ov w9 ho3 hf9 hg9
              rw [List.nil_append] at ho3
              have HO3 := Lib.hid ho3
              have hyl : ∀ k, ov.ownBlock = some k → k < w9.heap.size := fun k hk => ownBlock_lt ho3 k hk
              have hq5 := hg9.at hq5 (by simpa [Value.ownBlock] using (Ne.symm ne05))
              clear ho3 HO0
              have hS10 : w9.cell? ⟨p, 4, none⟩ = some (.slice a t.chain.length cap) ∧ w9.cell? ⟨q, 0, none⟩ = some (.string ⟨tk.toArray⟩) ∧ w9.cell? ⟨q, 1, none⟩ = some (.slice (some ⟨sg, 0, none⟩) 18 sgc) := ⟨hf9.cell c4 (by simp), hf9.cell d0 (by simp), hf9.cell d1 (by simp)⟩
              refine hK.out _ _ (fun _ => hS10) ?_
              clear hK K'
              try simp only [Act.put, List.setIfInBounds_toArray, List.set_cons_zero, List.set_cons_succ]
              refine hd_one 6 (by kernel_rfl) rfl (by kernel_rfl) rfl (fun K' hK => ?_)
              refine wp_appT (.tmp 43) (.tmp 45) rfl Y.heap.size ov _ R [(⟨tk, sigS secret (msgT t tk)⟩, .slice (some ⟨sg, 0, none⟩) 18 sgc)] Y (by kernel_rfl) (by kernel_rfl) (rawT_one hq5) (fun q hq => by rw [List.mem_singleton.1 hq]; exact Or.inl (HOSg.out.fr0 hf9)) HO3.out hf9 (Nat.le_refl _) hf9.size (by simp; omega) ?_
              intro v' w7 ho7 hf7 hg7
              obtain ⟨g7, c7, hv7, hgb7⟩ := ho7.someN (by simp)
              rw [show (R ++ [((⟨tk, sigS secret (msgT t tk)⟩ : Trf), (Value.slice (some ⟨sg, 0, none⟩) 18 sgc))]).length = t.chain.length + 1 by rw [List.length_append, hRn]; rfl] at hv7
              subst hv7
              have hS7 : w7.cell? ⟨p, 4, none⟩ = some (.slice a t.chain.length cap) ∧ w7.cell? ⟨q, 0, none⟩ = some (.string ⟨tk.toArray⟩) ∧ w7.cell? ⟨q, 1, none⟩ = some (.slice (some ⟨sg, 0, none⟩) 18 sgc) := ⟨hf7.cell c4 (by simp), hf7.cell d0 (by simp), hf7.cell d1 (by simp)⟩
              refine hK.out _ _ (fun _ => hS7) ?_
              clear hK K'
              try simp only [Act.put, List.setIfInBounds_toArray, List.set_cons_zero, List.set_cons_succ]
              refine hd_take 7 (v := .pointer (some ⟨p, 4, none⟩)) rfl (by kernel_rfl) (by kernel_rfl) (by kernel_rfl) rfl hS7 (fun W' hS => by go_simp) rfl ?_
              try simp only [Act.put, List.setIfInBounds_toArray, List.set_cons_zero, List.set_cons_succ]
              have hq7 := hf7.at hq0 (by simp)
              have r4 := row_cell hq7 4
              simp at r4
              have y4 := row_free hq7 4
              refine hd_one 8 (by kernel_rfl) rfl (by kernel_rfl) rfl (fun K' hK => ?_)
              go_simp
              refine hK.out _ _ (fun h => absurd rfl h) ?_
              clear hK K'
              refine held_done (by kernel_rfl) ?_
              have hf8 : Fr [] w (w7.setCell ⟨p, 4, none⟩ (.slice (some ⟨g7, 0, none⟩) (t.chain.length + 1) c7)) := (HY.out.trans hf7 (by simp)).setCell _ _ (by right; have := EP.out; simp; omega)
              have hp8 := row_set hq7 4 (.slice (some ⟨g7, 0, none⟩) (t.chain.length + 1) c7)
              have hz8 := heap_other (hf7.at hq1 (by simp)) ⟨p, 4, none⟩ (.slice (some ⟨g7, 0, none⟩) (t.chain.length + 1) c7) (by simp)
              have hst2 : Fr [p, p + 1] w7 ((((((w7.setCell ⟨p, 4, none⟩ (.slice (some ⟨g7, 0, none⟩) (t.chain.length + 1) c7)).setCell ⟨p + 1, 0, none⟩ (.int .i64 t.serial)).setCell ⟨p + 1, 1, none⟩ (.int .i64 t.shw)).setCell ⟨p + 1, 2, none⟩ (.int .i64 t.place)).setCell ⟨p + 1, 3, none⟩ (.string ⟨t.first.toArray⟩)).setCell ⟨p + 1, 4, none⟩ (.slice (some ⟨g7, 0, none⟩) (t.chain.length + 1) c7)) := (((Fr.refl [p, p + 1] w7).setCell ⟨p, 4, none⟩ (.slice (some ⟨g7, 0, none⟩) (t.chain.length + 1) c7) (by simp)).store5 (p + 1) (by simp) _ _ _ _ _)
              have hfZ : Fr [] w ((((((w7.setCell ⟨p, 4, none⟩ (.slice (some ⟨g7, 0, none⟩) (t.chain.length + 1) c7)).setCell ⟨p + 1, 0, none⟩ (.int .i64 t.serial)).setCell ⟨p + 1, 1, none⟩ (.int .i64 t.shw)).setCell ⟨p + 1, 2, none⟩ (.int .i64 t.place)).setCell ⟨p + 1, 3, none⟩ (.string ⟨t.first.toArray⟩)).setCell ⟨p + 1, 4, none⟩ (.slice (some ⟨g7, 0, none⟩) (t.chain.length + 1) c7)) := hf8.store5 (p + 1) (by right; have := EP.out; omega) _ _ _ _ _
              have htrZ : Trs ((((((w7.setCell ⟨p, 4, none⟩ (.slice (some ⟨g7, 0, none⟩) (t.chain.length + 1) c7)).setCell ⟨p + 1, 0, none⟩ (.int .i64 t.serial)).setCell ⟨p + 1, 1, none⟩ (.int .i64 t.shw)).setCell ⟨p + 1, 2, none⟩ (.int .i64 t.place)).setCell ⟨p + 1, 3, none⟩ (.string ⟨t.first.toArray⟩)).setCell ⟨p + 1, 4, none⟩ (.slice (some ⟨g7, 0, none⟩) (t.chain.length + 1) c7)) (.slice (some ⟨g7, 0, none⟩) (t.chain.length + 1) c7) (t.chain ++ [⟨tk, sigS secret (msgT t tk)⟩]) := by
                have ho8 := ho7.fr hst2 (fun k hk hm => by
                  have h1 := (ownBlock_cells ho7 k hk).1
                  simp only [List.mem_cons, List.not_mem_nil, or_false] at hm
                  omega)
                have hsl := hys sg rfl
                have hsv8 : StrsW ((((((w7.setCell ⟨p, 4, none⟩ (.slice (some ⟨g7, 0, none⟩) (t.chain.length + 1) c7)).setCell ⟨p + 1, 0, none⟩ (.int .i64 t.serial)).setCell ⟨p + 1, 1, none⟩ (.int .i64 t.shw)).setCell ⟨p + 1, 2, none⟩ (.int .i64 t.place)).setCell ⟨p + 1, 3, none⟩ (.string ⟨t.first.toArray⟩)).setCell ⟨p + 1, 4, none⟩ (.slice (some ⟨g7, 0, none⟩) (t.chain.length + 1) c7)) (.slice (some ⟨sg, 0, none⟩) 18 sgc) (sigS secret (msgT t tk)) := by
                  refine StrsW.frX (StrsW.fr (Or.inl HOSg.out) hf7) hst2 (fun k hk hm => ?_)
                  have e1 : sg = k := by simpa [Value.ownBlock] using hk
                  simp only [List.mem_cons, List.not_mem_nil, or_false] at hm
                  omega
                have hsig8 : SigsR ((((((w7.setCell ⟨p, 4, none⟩ (.slice (some ⟨g7, 0, none⟩) (t.chain.length + 1) c7)).setCell ⟨p + 1, 0, none⟩ (.int .i64 t.serial)).setCell ⟨p + 1, 1, none⟩ (.int .i64 t.shw)).setCell ⟨p + 1, 2, none⟩ (.int .i64 t.place)).setCell ⟨p + 1, 3, none⟩ (.string ⟨t.first.toArray⟩)).setCell ⟨p + 1, 4, none⟩ (.slice (some ⟨g7, 0, none⟩) (t.chain.length + 1) c7)) (R ++ [((⟨tk, sigS secret (msgT t tk)⟩ : Trf), (Value.slice (some ⟨sg, 0, none⟩) 18 sgc))]) :=
                  (HSG.out.fr hfZ).app (fun q hq => by rw [List.mem_singleton.1 hq]; exact hsv8)
                have h2 := ho8.raw.trs hsig8
                rw [List.map_append, HRM.out] at h2
                exact h2
              clear hst2
              generalize w7.setCell ⟨p, 4, none⟩ (.slice (some ⟨g7, 0, none⟩) (t.chain.length + 1) c7) = w8 at hf8 hp8 hz8 htrZ hfZ ⊢
              have HTX := Lib.hid htrZ
              have HX := Lib.hid hfZ
              clear htrZ hfZ hf8 ho7 hf7 hg7 hq7 r4 y4 hS7
              clear c4 d0 d1 z0 z1 z2 z3 z4 f0 f1 f2 f3 f4
              have c0 := row_cell hp8 0
              have c1 := row_cell hp8 1
              have c2 := row_cell hp8 2
              have c3 := row_cell hp8 3
              have c4 := row_cell hp8 4
              have z0 := row_cell hz8 0
              have z1 := row_cell hz8 1
              have z2 := row_cell hz8 2
              have z3 := row_cell hz8 3
              have z4 := row_cell hz8 4
              have f0 := row_free hz8 0
              have f1 := row_free hz8 1
              have f2 := row_free hz8 2
              have f3 := row_free hz8 3
              have f4 := row_free hz8 4
              simp at c0 c1 c2 c3 c4 z0 z1 z2 z3 z4
              have HRX := Lib.hid (row_set (row_set (row_set (row_set (row_set hz8 0 (.int .i64 t.serial)) 1 (.int .i64 t.shw)) 2 (.int .i64 t.place)) 3 (.string ⟨t.first.toArray⟩)) 4 (.slice (some ⟨g7, 0, none⟩) (t.chain.length + 1) c7))
              clear hp8 hz8 hq0 hq1 hd
              go_wp2_with fail
              have x0 := row_cell HRX.out 0
              have x1 := row_cell HRX.out 1
              have x2 := row_cell HRX.out 2
              have x3 := row_cell HRX.out 3
              have x4 := row_cell HRX.out 4
              simp at x0 x1 x2 x3 x4
              refine bodyPost_ret (v := .tuple #[.agg #[.int .i64 t.serial, .int .i64 t.shw, .int .i64 t.place, .string ⟨t.first.toArray⟩, .slice (some ⟨g7, 0, none⟩) (t.chain.length + 1) c7], .int .i64 0]) ?_ rfl ⟨_, by rw [HR.out], by rw [HR.out]; exact ⟨_, rfl, HTX.out⟩, HX.out.toBelow (by simp)⟩
              rw [results_cell_tmp rfl]
              go_simp
          · go_simp
            have gg11 := gb0.alloc (.cells #[.string ⟨tk.toArray⟩, .slice (some ⟨sg, 0, none⟩) 18 sgc] 41)
            obtain ⟨e5, ee5⟩ : ∃ e5, e5 = Yd.heap.size := ⟨_, rfl⟩
            have le5 : Y.heap.size ≤ e5 := by rw [ee5]; exact gb0.size
            have hq5 : (Yd.alloc (.cells #[.string ⟨tk.toArray⟩, .slice (some ⟨sg, 0, none⟩) 18 sgc] 41)).heap[e5]? = some (.cells #[.string ⟨tk.toArray⟩, .slice (some ⟨sg, 0, none⟩) 18 sgc] 41 (0, 0)) := heap_new ee5
            rw [← ee5]
            generalize Yd.alloc (.cells #[.string ⟨tk.toArray⟩, .slice (some ⟨sg, 0, none⟩) 18 sgc] 41) = v11 at gg11 hq5  ⊢
            clear ee5
            have hS12 : v11.cell? ⟨p, 4, none⟩ = some (.slice a t.chain.length cap) ∧ v11.cell? ⟨q, 0, none⟩ = some (.string ⟨tk.toArray⟩) ∧ v11.cell? ⟨q, 1, none⟩ = some (.slice (some ⟨sg, 0, none⟩) 18 sgc) := ⟨gg11.cell c4 (by simp), gg11.cell d0 (by simp), gg11.cell d1 (by simp)⟩
            refine hK.out _ _ (fun _ => hS12) ?_
            clear hK K'
            try simp only [Act.put, List.setIfInBounds_toArray, List.set_cons_zero, List.set_cons_succ]
            refine hd_one 0 (by kernel_rfl) rfl (by kernel_rfl) rfl (fun K' hK => ?_)
            have hq5old := hq5
            go_simp
            have gg13 := gg11.alloc (.cells #[] 41)
            have hq5 := ((Fr.refl [] v11).alloc (.cells #[] 41)).at hq5 (by simp)
            obtain ⟨e0, ee0⟩ : ∃ e0, e0 = v11.heap.size := ⟨_, rfl⟩
            have le0 : Y.heap.size ≤ e0 := by rw [ee0]; exact gg11.size
            have HO0 := Lib.hid (show OwnT Y.heap.size (v11.alloc (.cells #[] 41)) (.slice (some ⟨e0, 0, none⟩) 0 0) [] by rw [ee0]; exact ownT_empty gg11.size)
            have ne05 : e0 ≠ e5 := by have := lt_of_block hq5old; omega
            rw [← ee0]
            generalize v11.alloc (.cells #[] 41) = v13 at gg13 HO0 hq5 ⊢
            clear ee0
            clear hq5old
            have hS14 : v13.cell? ⟨p, 4, none⟩ = some (.slice a t.chain.length cap) ∧ v13.cell? ⟨q, 0, none⟩ = some (.string ⟨tk.toArray⟩) ∧ v13.cell? ⟨q, 1, none⟩ = some (.slice (some ⟨sg, 0, none⟩) 18 sgc) := ⟨gg13.cell c4 (by simp), gg13.cell d0 (by simp), gg13.cell d1 (by simp)⟩
            refine hK.out _ _ (fun _ => hS14) ?_
            clear hK K'
            try simp only [Act.put, List.setIfInBounds_toArray, List.set_cons_zero, List.set_cons_succ]
            refine hd_one 3 (by kernel_rfl) rfl (by kernel_rfl) rfl (fun K' hK => ?_)
            refine wp_appT (.tmp 40) (.tmp 42) rfl Y.heap.size (.slice (some ⟨e0, 0, none⟩) 0 0) _ [] R Y (by kernel_rfl) (by kernel_rfl) (HRW.out.fr (HY.out.trans gg13 (by simp))) (HSG.out.fr (HY.out.trans gg13 (by simp))) HO0.out gg13 (Nat.le_refl _) gg13.size (by simp; omega) ?_
            intro ov w15 ho3 hf15 hg15
            rw [List.nil_append] at ho3
            have HO3 := Lib.hid ho3
            have hyl : ∀ k, ov.ownBlock = some k → k < w15.heap.size := fun k hk => ownBlock_lt ho3 k hk
            have hq5 := hg15.at hq5 (by simpa [Value.ownBlock] using (Ne.symm ne05))
            clear ho3 HO0
            have hS16 : w15.cell? ⟨p, 4, none⟩ = some (.slice a t.chain.length cap) ∧ w15.cell? ⟨q, 0, none⟩ = some (.string ⟨tk.toArray⟩) ∧ w15.cell? ⟨q, 1, none⟩ = some (.slice (some ⟨sg, 0, none⟩) 18 sgc) := ⟨hf15.cell c4 (by simp), hf15.cell d0 (by simp), hf15.cell d1 (by simp)⟩
            refine hK.out _ _ (fun _ => hS16) ?_
            clear hK K'
            try simp only [Act.put, List.setIfInBounds_toArray, List.set_cons_zero, List.set_cons_succ]
            refine hd_one 6 (by kernel_rfl) rfl (by kernel_rfl) rfl (fun K' hK => ?_)
            refine wp_appT (.tmp 43) (.tmp 45) rfl Y.heap.size ov _ R [(⟨tk, sigS secret (msgT t tk)⟩, .slice (some ⟨sg, 0, none⟩) 18 sgc)] Y (by kernel_rfl) (by kernel_rfl) (rawT_one hq5) (fun q hq => by rw [List.mem_singleton.1 hq]; exact Or.inl (HOSg.out.fr0 hf15)) HO3.out hf15 (Nat.le_refl _) hf15.size (by simp; omega) ?_
            intro v' w7 ho7 hf7 hg7
            obtain ⟨g7, c7, hv7, hgb7⟩ := ho7.someN (by simp)
            rw [show (R ++ [((⟨tk, sigS secret (msgT t tk)⟩ : Trf), (Value.slice (some ⟨sg, 0, none⟩) 18 sgc))]).length = t.chain.length + 1 by rw [List.length_append, hRn]; rfl] at hv7
            subst hv7
            have hS7 : w7.cell? ⟨p, 4, none⟩ = some (.slice a t.chain.length cap) ∧ w7.cell? ⟨q, 0, none⟩ = some (.string ⟨tk.toArray⟩) ∧ w7.cell? ⟨q, 1, none⟩ = some (.slice (some ⟨sg, 0, none⟩) 18 sgc) := ⟨hf7.cell c4 (by simp), hf7.cell d0 (by simp), hf7.cell d1 (by simp)⟩
            refine hK.out _ _ (fun _ => hS7) ?_
            clear hK K'
            try simp only [Act.put, List.setIfInBounds_toArray, List.set_cons_zero, List.set_cons_succ]
            refine hd_take 7 (v := .pointer (some ⟨p, 4, none⟩)) rfl (by kernel_rfl) (by kernel_rfl) (by kernel_rfl) rfl hS7 (fun W' hS => by go_simp) rfl ?_
            try simp only [Act.put, List.setIfInBounds_toArray, List.set_cons_zero, List.set_cons_succ]
            have hq7 := hf7.at hq0 (by simp)
            have r4 := row_cell hq7 4
            simp at r4
            have y4 := row_free hq7 4
            refine hd_one 8 (by kernel_rfl) rfl (by kernel_rfl) rfl (fun K' hK => ?_)
            go_simp
            refine hK.out _ _ (fun h => absurd rfl h) ?_
            clear hK K'
            refine held_done (by kernel_rfl) ?_
            have hf8 : Fr [] w (w7.setCell ⟨p, 4, none⟩ (.slice (some ⟨g7, 0, none⟩) (t.chain.length + 1) c7)) := (HY.out.trans hf7 (by simp)).setCell _ _ (by right; have := EP.out; simp; omega)
            have hp8 := row_set hq7 4 (.slice (some ⟨g7, 0, none⟩) (t.chain.length + 1) c7)
            have hz8 := heap_other (hf7.at hq1 (by simp)) ⟨p, 4, none⟩ (.slice (some ⟨g7, 0, none⟩) (t.chain.length + 1) c7) (by simp)
            have hst2 : Fr [p, p + 1] w7 ((((((w7.setCell ⟨p, 4, none⟩ (.slice (some ⟨g7, 0, none⟩) (t.chain.length + 1) c7)).setCell ⟨p + 1, 0, none⟩ (.int .i64 t.serial)).setCell ⟨p + 1, 1, none⟩ (.int .i64 t.shw)).setCell ⟨p + 1, 2, none⟩ (.int .i64 t.place)).setCell ⟨p + 1, 3, none⟩ (.string ⟨t.first.toArray⟩)).setCell ⟨p + 1, 4, none⟩ (.slice (some ⟨g7, 0, none⟩) (t.chain.length + 1) c7)) := (((Fr.refl [p, p + 1] w7).setCell ⟨p, 4, none⟩ (.slice (some ⟨g7, 0, none⟩) (t.chain.length + 1) c7) (by simp)).store5 (p + 1) (by simp) _ _ _ _ _)
            have hfZ : Fr [] w ((((((w7.setCell ⟨p, 4, none⟩ (.slice (some ⟨g7, 0, none⟩) (t.chain.length + 1) c7)).setCell ⟨p + 1, 0, none⟩ (.int .i64 t.serial)).setCell ⟨p + 1, 1, none⟩ (.int .i64 t.shw)).setCell ⟨p + 1, 2, none⟩ (.int .i64 t.place)).setCell ⟨p + 1, 3, none⟩ (.string ⟨t.first.toArray⟩)).setCell ⟨p + 1, 4, none⟩ (.slice (some ⟨g7, 0, none⟩) (t.chain.length + 1) c7)) := hf8.store5 (p + 1) (by right; have := EP.out; omega) _ _ _ _ _
            have htrZ : Trs ((((((w7.setCell ⟨p, 4, none⟩ (.slice (some ⟨g7, 0, none⟩) (t.chain.length + 1) c7)).setCell ⟨p + 1, 0, none⟩ (.int .i64 t.serial)).setCell ⟨p + 1, 1, none⟩ (.int .i64 t.shw)).setCell ⟨p + 1, 2, none⟩ (.int .i64 t.place)).setCell ⟨p + 1, 3, none⟩ (.string ⟨t.first.toArray⟩)).setCell ⟨p + 1, 4, none⟩ (.slice (some ⟨g7, 0, none⟩) (t.chain.length + 1) c7)) (.slice (some ⟨g7, 0, none⟩) (t.chain.length + 1) c7) (t.chain ++ [⟨tk, sigS secret (msgT t tk)⟩]) := by
              have ho8 := ho7.fr hst2 (fun k hk hm => by
                have h1 := (ownBlock_cells ho7 k hk).1
                simp only [List.mem_cons, List.not_mem_nil, or_false] at hm
                omega)
              have hsl := hys sg rfl
              have hsv8 : StrsW ((((((w7.setCell ⟨p, 4, none⟩ (.slice (some ⟨g7, 0, none⟩) (t.chain.length + 1) c7)).setCell ⟨p + 1, 0, none⟩ (.int .i64 t.serial)).setCell ⟨p + 1, 1, none⟩ (.int .i64 t.shw)).setCell ⟨p + 1, 2, none⟩ (.int .i64 t.place)).setCell ⟨p + 1, 3, none⟩ (.string ⟨t.first.toArray⟩)).setCell ⟨p + 1, 4, none⟩ (.slice (some ⟨g7, 0, none⟩) (t.chain.length + 1) c7)) (.slice (some ⟨sg, 0, none⟩) 18 sgc) (sigS secret (msgT t tk)) := by
                refine StrsW.frX (StrsW.fr (Or.inl HOSg.out) hf7) hst2 (fun k hk hm => ?_)
                have e1 : sg = k := by simpa [Value.ownBlock] using hk
                simp only [List.mem_cons, List.not_mem_nil, or_false] at hm
                omega
              have hsig8 : SigsR ((((((w7.setCell ⟨p, 4, none⟩ (.slice (some ⟨g7, 0, none⟩) (t.chain.length + 1) c7)).setCell ⟨p + 1, 0, none⟩ (.int .i64 t.serial)).setCell ⟨p + 1, 1, none⟩ (.int .i64 t.shw)).setCell ⟨p + 1, 2, none⟩ (.int .i64 t.place)).setCell ⟨p + 1, 3, none⟩ (.string ⟨t.first.toArray⟩)).setCell ⟨p + 1, 4, none⟩ (.slice (some ⟨g7, 0, none⟩) (t.chain.length + 1) c7)) (R ++ [((⟨tk, sigS secret (msgT t tk)⟩ : Trf), (Value.slice (some ⟨sg, 0, none⟩) 18 sgc))]) :=
                (HSG.out.fr hfZ).app (fun q hq => by rw [List.mem_singleton.1 hq]; exact hsv8)
              have h2 := ho8.raw.trs hsig8
              rw [List.map_append, HRM.out] at h2
              exact h2
            clear hst2
            generalize w7.setCell ⟨p, 4, none⟩ (.slice (some ⟨g7, 0, none⟩) (t.chain.length + 1) c7) = w8 at hf8 hp8 hz8 htrZ hfZ ⊢
            have HTX := Lib.hid htrZ
            have HX := Lib.hid hfZ
            clear htrZ hfZ hf8 ho7 hf7 hg7 hq7 r4 y4 hS7
            clear c4 d0 d1 z0 z1 z2 z3 z4 f0 f1 f2 f3 f4
            have c0 := row_cell hp8 0
            have c1 := row_cell hp8 1
            have c2 := row_cell hp8 2
            have c3 := row_cell hp8 3
            have c4 := row_cell hp8 4
            have z0 := row_cell hz8 0
            have z1 := row_cell hz8 1
            have z2 := row_cell hz8 2
            have z3 := row_cell hz8 3
            have z4 := row_cell hz8 4
            have f0 := row_free hz8 0
            have f1 := row_free hz8 1
            have f2 := row_free hz8 2
            have f3 := row_free hz8 3
            have f4 := row_free hz8 4
            simp at c0 c1 c2 c3 c4 z0 z1 z2 z3 z4
            have HRX := Lib.hid (row_set (row_set (row_set (row_set (row_set hz8 0 (.int .i64 t.serial)) 1 (.int .i64 t.shw)) 2 (.int .i64 t.place)) 3 (.string ⟨t.first.toArray⟩)) 4 (.slice (some ⟨g7, 0, none⟩) (t.chain.length + 1) c7))
            clear hp8 hz8 hq0 hq1 hd
            go_wp2_with fail
            have x0 := row_cell HRX.out 0
            have x1 := row_cell HRX.out 1
            have x2 := row_cell HRX.out 2
            have x3 := row_cell HRX.out 3
            have x4 := row_cell HRX.out 4
            simp at x0 x1 x2 x3 x4
            refine bodyPost_ret (v := .tuple #[.agg #[.int .i64 t.serial, .int .i64 t.shw, .int .i64 t.place, .string ⟨t.first.toArray⟩, .slice (some ⟨g7, 0, none⟩) (t.chain.length + 1) c7], .int .i64 0]) ?_ rfl ⟨_, by rw [HR.out], by rw [HR.out]; exact ⟨_, rfl, HTX.out⟩, HX.out.toBelow (by simp)⟩
            rw [results_cell_tmp rfl]
            go_simp
end Go.Proofs.YtcblpfepkkkilaaGreatDoor
