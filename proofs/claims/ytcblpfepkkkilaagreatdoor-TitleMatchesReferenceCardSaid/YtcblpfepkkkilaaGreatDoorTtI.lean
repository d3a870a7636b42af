/-
  title.Pass.
-/
import Derived.Test.YtcblpfepkkkilaaGreatDoorTtH
import Derived.Test.YtcblpfepkkkilaaGreatDoorOwnT
namespace Go.Proofs.YtcblpfepkkkilaaGreatDoor
open Go.RowKit

def zeroTtl : Ttl := ⟨0, 0, 0, [], []⟩
def zeroTV : Value := .agg #[.int .i64 0, .int .i64 0, .int .i64 0, .string ⟨#[]⟩, .slice none 0 0]
theorem zeroT_reads (w : World) : TtlR w zeroTV zeroTtl := ⟨_, rfl, Trs.nil w⟩
/-- What Pass answers. -/
def passR (t : Ttl) (tk secret : List UInt8) : Ttl × Int := match passT t tk secret with
  | .inl x => (x, 0)
  | .inr e => (zeroTtl, e)
def PassPost (w : World) (t : Ttl) (tk secret : List UInt8) (e : Ending) (w' : World) : Prop :=
  ∃ v, e = .returned (.tuple #[v, .int .i64 (passR t tk secret).2]) ∧ TtlR w' v (passR t tk secret).1 ∧ Below w.heap.size w w'
theorem StrsW.frX {X : List Nat} {w w' : World} {v : Value} {l : List (List UInt8)} (h : StrsW w v l) (hf : Fr X w w') (hx : ∀ k, v.ownBlock = some k → k ∉ X) : StrsW w' v l := by
  rcases h with h | h
  · rcases h with ⟨h1, h2⟩ | ⟨b, off, cap, rfl, h1, h2, h3, h4⟩
    · exact Or.inl (Or.inl ⟨h1, h2⟩)
    · exact Or.inl (Or.inr ⟨b, off, cap, rfl, h1, h2, Nat.lt_of_lt_of_le h3 hf.size, fun i hi => hf.cell (h4 i hi) (hx b rfl)⟩)
  · exact Or.inr h
theorem ownBlock_lt {base : Nat} {w : World} {e : TypeId} {size n : Nat} {v : Value} {xs : List Value} (h : w.ownsRow base e size v n xs) : ∀ x, v.ownBlock = some x → x < w.heap.size := by
  intro x hx
  rcases h.2 with ⟨rfl, _⟩ | ⟨g, cap, cur, rfl, hb, hg, _⟩
  · simp [Value.ownBlock] at hx
  · obtain rfl : g = x := by simpa [Value.ownBlock] using hx
    exact lt_of_block hg
set_option maxRecDepth 100000 in
set_option maxHeartbeats 4000000 in
theorem pass_any (v : Value) (t : Ttl) (tk secret : List UInt8) (w : World) (hv : TtlR w v t) (hS : TSmall t) (htk : tk.length ≤ 100000) (hse : secret.length ≤ 1000000) (hT : Tabs w) :
    Calls Tryz.prog 7 #[v, .string ⟨tk.toArray⟩, .string ⟨secret.toArray⟩] w (PassPost w t tk secret) := by
  have hmx : Tryz.prog.follows .mixedOrders = true := by kernel_rfl
  obtain ⟨cv, rfl, hc⟩ := hv
  obtain ⟨a, cap, rfl, hlc, hcap, ha⟩ := hc.form
  have HC := Lib.hid hc
  have HT := Lib.hid hT
  have HS := Lib.hid hS
  clear hc hT hS
  obtain ⟨W0, hW0⟩ : ∃ W0, W0 = (w.alloc (.cells #[.int .i64 t.serial, .int .i64 t.shw, .int .i64 t.place, .string ⟨t.first.toArray⟩, .slice a t.chain.length cap] 24)).alloc (.cells #[.int .i64 0, .int .i64 0, .int .i64 0, .string ⟨#[]⟩, .slice none 0 0] 24) := ⟨_, rfl⟩
  obtain ⟨p, ep⟩ : ∃ p, p = w.heap.size := ⟨_, rfl⟩
  have h0 : Fr [] w W0 := by rw [hW0]; exact ((Fr.refl [] w).alloc _).alloc _
  have hq0 : W0.heap[p]? = some (.cells #[.int .i64 t.serial, .int .i64 t.shw, .int .i64 t.place, .string ⟨t.first.toArray⟩, .slice a t.chain.length cap] 24 (0, 0)) := by rw [hW0, ep]; exact heap_past _ (heap_new rfl)
  have hq1 : W0.heap[p + 1]? = some (.cells #[.int .i64 0, .int .i64 0, .int .i64 0, .string ⟨#[]⟩, .slice none 0 0] 24 (0, 0)) := by rw [hW0, ep]; exact heap_new (by simp)
  have c0 := row_cell hq0 0
  have c1 := row_cell hq0 1
  have c2 := row_cell hq0 2
  have c3 := row_cell hq0 3
  have c4 := row_cell hq0 4
  have z0 := row_cell hq1 0
  have z1 := row_cell hq1 1
  have z2 := row_cell hq1 2
  have z3 := row_cell hq1 3
  have z4 := row_cell hq1 4
  have f0 := row_free hq1 0
  have f1 := row_free hq1 1
  have f2 := row_free hq1 2
  have f3 := row_free hq1 3
  have f4 := row_free hq1 4
  simp at c0 c1 c2 c3 c4 z0 z1 z2 z3 z4
  rw [hW0, ep] at c0 c1 c2 c3 c4
  go_enter Tryz.func7, Tryz.ntmps7
  go_wp2_with fail
  rw [← hW0, ← ep]
  rw [← hW0, ← ep] at c0 c1 c2 c3 c4
  have EP := Lib.hid ep
  clear hW0 ep
  refine (valid30_any _ t W0 ⟨_, rfl, HC.out.fr h0⟩ HS.out (HT.out.fr h0)).mono ?_
  rintro e w1 ⟨rfl, hb⟩
  have h1 : Fr [] w w1 := h0.below hb h0.size
  have hq0 := (Fr.ofBelow (X := []) hb).at hq0 (by simp)
  have hq1 := (Fr.ofBelow (X := []) hb).at hq1 (by simp)
  clear hb c0 c1 c2 c3 c4 z0 z1 z2 z3 z4 f0 f1 f2 f3 f4
  have c0 := row_cell hq0 0
  have c1 := row_cell hq0 1
  have c2 := row_cell hq0 2
  have c3 := row_cell hq0 3
  have c4 := row_cell hq0 4
  have z0 := row_cell hq1 0
  have z1 := row_cell hq1 1
  have z2 := row_cell hq1 2
  have z3 := row_cell hq1 3
  have z4 := row_cell hq1 4
  have f0 := row_free hq1 0
  have f1 := row_free hq1 1
  have f2 := row_free hq1 2
  have f3 := row_free hq1 3
  have f4 := row_free hq1 4
  simp at c0 c1 c2 c3 c4 z0 z1 z2 z3 z4
  obtain ⟨vo, evo⟩ : ∃ vo, vo = validT t := ⟨_, rfl⟩
  rw [← evo]
  have HVO := Lib.hid evo
  clear evo
  cases vo with
  | false =>
    have HR : Hid (passR t tk secret = (zeroTtl, 1)) := Lib.hid (by unfold passR passT; rw [← HVO.out]; rfl)
    have HX := Lib.hid (h1.store5 (p + 1) (by right; have := EP.out; omega) (.int .i64 0) (.int .i64 0) (.int .i64 0) (.string ⟨#[]⟩) (.slice none 0 0))
    have HRX := Lib.hid (row_set (row_set (row_set (row_set (row_set hq1 0 (.int .i64 0)) 1 (.int .i64 0)) 2 (.int .i64 0)) 3 (.string ⟨#[]⟩)) 4 (.slice none 0 0))
    clear hq0 hq1
    go_wp2_with fail
    have x0 := row_cell HRX.out 0
    have x1 := row_cell HRX.out 1
    have x2 := row_cell HRX.out 2
    have x3 := row_cell HRX.out 3
    have x4 := row_cell HRX.out 4
    simp at x0 x1 x2 x3 x4
    refine bodyPost_ret (v := .tuple #[zeroTV, .int .i64 1]) ?_ rfl ⟨zeroTV, by rw [HR.out], by rw [HR.out]; exact zeroT_reads _, HX.out.toBelow (by simp)⟩
    unfold zeroTV
    rw [results_cell_tmp rfl]
    go_simp
  | true =>
    have htl : tk.length ≤ 9223372036854775807 := by omega
    go_wp2_with fail
    refine (is_any tk w1 htl).mono ?_
    rintro e w2 ⟨rfl, hb⟩
    have h2 : Fr [] w w2 := h1.below hb h1.size
    have hq0 := (Fr.ofBelow (X := []) hb).at hq0 (by simp)
    have hq1 := (Fr.ofBelow (X := []) hb).at hq1 (by simp)
    clear hb c0 c1 c2 c3 c4 z0 z1 z2 z3 z4 f0 f1 f2 f3 f4
    have c0 := row_cell hq0 0
    have c1 := row_cell hq0 1
    have c2 := row_cell hq0 2
    have c3 := row_cell hq0 3
    have c4 := row_cell hq0 4
    have z0 := row_cell hq1 0
    have z1 := row_cell hq1 1
    have z2 := row_cell hq1 2
    have z3 := row_cell hq1 3
    have z4 := row_cell hq1 4
    have f0 := row_free hq1 0
    have f1 := row_free hq1 1
    have f2 := row_free hq1 2
    have f3 := row_free hq1 3
    have f4 := row_free hq1 4
    simp at c0 c1 c2 c3 c4 z0 z1 z2 z3 z4
    obtain ⟨io, eio⟩ : ∃ io, io = isD tk := ⟨_, rfl⟩
    rw [← eio]
    have HIO := Lib.hid eio
    clear eio
    cases io with
    | false =>
      have HR : Hid (passR t tk secret = (zeroTtl, 1)) := Lib.hid (by unfold passR passT; rw [← HVO.out, ← HIO.out]; rfl)
      have HX := Lib.hid (h2.store5 (p + 1) (by right; have := EP.out; omega) (.int .i64 0) (.int .i64 0) (.int .i64 0) (.string ⟨#[]⟩) (.slice none 0 0))
      have HRX := Lib.hid (row_set (row_set (row_set (row_set (row_set hq1 0 (.int .i64 0)) 1 (.int .i64 0)) 2 (.int .i64 0)) 3 (.string ⟨#[]⟩)) 4 (.slice none 0 0))
      clear hq0 hq1
      go_wp2_with fail
      have x0 := row_cell HRX.out 0
      have x1 := row_cell HRX.out 1
      have x2 := row_cell HRX.out 2
      have x3 := row_cell HRX.out 3
      have x4 := row_cell HRX.out 4
      simp at x0 x1 x2 x3 x4
      refine bodyPost_ret (v := .tuple #[zeroTV, .int .i64 1]) ?_ rfl ⟨zeroTV, by rw [HR.out], by rw [HR.out]; exact zeroT_reads _, HX.out.toBelow (by simp)⟩
      unfold zeroTV
      rw [results_cell_tmp rfl]
      go_simp
    | true =>
      by_cases h50 : t.chain.length = 50
      · have t1 : ((t.chain.length : Int) == 50) = true := by rw [h50]; rfl
        have H50 := Lib.hid h50
        clear h50
        have HR : Hid (passR t tk secret = (zeroTtl, 3)) := Lib.hid (by unfold passR passT; rw [← HVO.out, ← HIO.out, if_neg (by decide), if_pos H50.out])
        have HX := Lib.hid (h2.store5 (p + 1) (by right; have := EP.out; omega) (.int .i64 0) (.int .i64 0) (.int .i64 0) (.string ⟨#[]⟩) (.slice none 0 0))
        have HRX := Lib.hid (row_set (row_set (row_set (row_set (row_set hq1 0 (.int .i64 0)) 1 (.int .i64 0)) 2 (.int .i64 0)) 3 (.string ⟨#[]⟩)) 4 (.slice none 0 0))
        clear hq0 hq1
        go_wp2_with fail
        have x0 := row_cell HRX.out 0
        have x1 := row_cell HRX.out 1
        have x2 := row_cell HRX.out 2
        have x3 := row_cell HRX.out 3
        have x4 := row_cell HRX.out 4
        simp at x0 x1 x2 x3 x4
        refine bodyPost_ret (v := .tuple #[zeroTV, .int .i64 3]) ?_ rfl ⟨zeroTV, by rw [HR.out], by rw [HR.out]; exact zeroT_reads _, HX.out.toBelow (by simp)⟩
        unfold zeroTV
        rw [results_cell_tmp rfl]
        go_simp
      have t1 : ((t.chain.length : Int) == 50) = false := by rw [beq_eq_false_iff_ne]; omega
      have H50 := Lib.hid h50
      clear h50
      go_wp2_with fail
      refine (used_any _ t tk w2 ⟨_, rfl, HC.out.fr h2⟩).mono ?_
      rintro e w3 ⟨rfl, hb⟩
      have h3 : Fr [] w w3 := h2.below hb h2.size
      have hq0 := (Fr.ofBelow (X := []) hb).at hq0 (by simp)
      have hq1 := (Fr.ofBelow (X := []) hb).at hq1 (by simp)
      clear hb c0 c1 c2 c3 c4 z0 z1 z2 z3 z4 f0 f1 f2 f3 f4
      have c0 := row_cell hq0 0
      have c1 := row_cell hq0 1
      have c2 := row_cell hq0 2
      have c3 := row_cell hq0 3
      have c4 := row_cell hq0 4
      have z0 := row_cell hq1 0
      have z1 := row_cell hq1 1
      have z2 := row_cell hq1 2
      have z3 := row_cell hq1 3
      have z4 := row_cell hq1 4
      have f0 := row_free hq1 0
      have f1 := row_free hq1 1
      have f2 := row_free hq1 2
      have f3 := row_free hq1 3
      have f4 := row_free hq1 4
      simp at c0 c1 c2 c3 c4 z0 z1 z2 z3 z4
      obtain ⟨uo, euo⟩ : ∃ uo, uo = usedT t tk := ⟨_, rfl⟩
      rw [← euo]
      have HUO := Lib.hid euo
      clear euo
      cases uo with
      | true =>
        have HR : Hid (passR t tk secret = (zeroTtl, 9)) := Lib.hid (by unfold passR passT; rw [← HVO.out, ← HIO.out, if_neg (by decide), if_neg H50.out, ← HUO.out, if_pos rfl])
        have HX := Lib.hid (h3.store5 (p + 1) (by right; have := EP.out; omega) (.int .i64 0) (.int .i64 0) (.int .i64 0) (.string ⟨#[]⟩) (.slice none 0 0))
        have HRX := Lib.hid (row_set (row_set (row_set (row_set (row_set hq1 0 (.int .i64 0)) 1 (.int .i64 0)) 2 (.int .i64 0)) 3 (.string ⟨#[]⟩)) 4 (.slice none 0 0))
        clear hq0 hq1
        go_wp2_with fail
        have x0 := row_cell HRX.out 0
        have x1 := row_cell HRX.out 1
        have x2 := row_cell HRX.out 2
        have x3 := row_cell HRX.out 3
        have x4 := row_cell HRX.out 4
        simp at x0 x1 x2 x3 x4
        refine bodyPost_ret (v := .tuple #[zeroTV, .int .i64 9]) ?_ rfl ⟨zeroTV, by rw [HR.out], by rw [HR.out]; exact zeroT_reads _, HX.out.toBelow (by simp)⟩
        unfold zeroTV
        rw [results_cell_tmp rfl]
        go_simp
      | false =>
        obtain ⟨kb, ekb⟩ : ∃ kb, kb = (publicS secret != ownerT t) := ⟨_, rfl⟩
        have HKB := Lib.hid ekb
        have u1 : (publicS secret == ownerT t) = !kb := by rw [ekb, bne, Bool.not_not]
        have u2 : (publicS secret != ownerT t) = kb := ekb.symm
        clear ekb
        go_wp2_with fail
        have ga0 : Fr [] w3 w3.drew := (Fr.refl [] w3).drew
        have hSa0 : w3.drew.cell? ⟨p, 0, none⟩ = some (.int .i64 t.serial) ∧ w3.drew.cell? ⟨p, 1, none⟩ = some (.int .i64 t.shw) ∧ w3.drew.cell? ⟨p, 2, none⟩ = some (.int .i64 t.place) ∧ w3.drew.cell? ⟨p, 3, none⟩ = some (.string ⟨t.first.toArray⟩) ∧ w3.drew.cell? ⟨p, 4, none⟩ = some (.slice a t.chain.length cap) := ⟨ga0.cell c0 (by simp), ga0.cell c1 (by simp), ga0.cell c2 (by simp), ga0.cell c3 (by simp), ga0.cell c4 (by simp)⟩
        refine region_held 100 (fun W' => W'.cell? ⟨p, 0, none⟩ = some (.int .i64 t.serial) ∧ W'.cell? ⟨p, 1, none⟩ = some (.int .i64 t.shw) ∧ W'.cell? ⟨p, 2, none⟩ = some (.int .i64 t.place) ∧ W'.cell? ⟨p, 3, none⟩ = some (.string ⟨t.first.toArray⟩) ∧ W'.cell? ⟨p, 4, none⟩ = some (.slice a t.chain.length cap)) hmx ?_
        change Held _ _ _ _ _ _ 6 (Array.replicate 6 false) _ _
        refine hd_take 0 (v := .string ⟨secret.toArray⟩) rfl (by kernel_rfl) (by kernel_rfl) (by kernel_rfl) rfl hSa0 (fun W' hS => by go_simp) rfl ?_
        refine hd_take 2 (v := .agg #[.int .i64 t.serial, .int .i64 t.shw, .int .i64 t.place, .string ⟨t.first.toArray⟩, .slice a t.chain.length cap]) rfl (by kernel_rfl) (by kernel_rfl) (by kernel_rfl) rfl hSa0 (fun W' hS => by obtain ⟨s0, s1, s2, s3, s4⟩ := hS; go_simp) rfl ?_
        try simp only [Act.put, List.setIfInBounds_toArray, List.set_cons_zero, List.set_cons_succ]
        refine hd_one 1 (by kernel_rfl) rfl (by kernel_rfl) rfl (fun K' hK => ?_)
        go_simp
        refine (public_any secret _ hse (HT.out.fr (h3.trans ga0 (by simp)))).mono ?_
        rintro e ya1 ⟨rfl, hbb⟩
        have ga1 : Fr [] w3 ya1 := ga0.below hbb ga0.size
        clear hbb
        have hSa1 : ya1.cell? ⟨p, 0, none⟩ = some (.int .i64 t.serial) ∧ ya1.cell? ⟨p, 1, none⟩ = some (.int .i64 t.shw) ∧ ya1.cell? ⟨p, 2, none⟩ = some (.int .i64 t.place) ∧ ya1.cell? ⟨p, 3, none⟩ = some (.string ⟨t.first.toArray⟩) ∧ ya1.cell? ⟨p, 4, none⟩ = some (.slice a t.chain.length cap) := ⟨ga1.cell c0 (by simp), ga1.cell c1 (by simp), ga1.cell c2 (by simp), ga1.cell c3 (by simp), ga1.cell c4 (by simp)⟩
        refine hK.out _ _ (fun _ => hSa1) ?_
        clear hK K'
        try simp only [Act.put, List.setIfInBounds_toArray, List.set_cons_zero, List.set_cons_succ]
        refine hd_one 3 (by kernel_rfl) rfl (by kernel_rfl) rfl (fun K' hK => ?_)
        go_simp
        refine (owner_any _ t _ ⟨_, rfl, HC.out.fr (h3.trans ga1 (by simp))⟩).mono ?_
        rintro e ya2 ⟨rfl, hbb⟩
        have ga2 : Fr [] w3 ya2 := ga1.below hbb ga1.size
        clear hbb
        have hSa2 : ya2.cell? ⟨p, 0, none⟩ = some (.int .i64 t.serial) ∧ ya2.cell? ⟨p, 1, none⟩ = some (.int .i64 t.shw) ∧ ya2.cell? ⟨p, 2, none⟩ = some (.int .i64 t.place) ∧ ya2.cell? ⟨p, 3, none⟩ = some (.string ⟨t.first.toArray⟩) ∧ ya2.cell? ⟨p, 4, none⟩ = some (.slice a t.chain.length cap) := ⟨ga2.cell c0 (by simp), ga2.cell c1 (by simp), ga2.cell c2 (by simp), ga2.cell c3 (by simp), ga2.cell c4 (by simp)⟩
        refine hK.out _ _ (fun _ => hSa2) ?_
        clear hK K'
        try simp only [Act.put, List.setIfInBounds_toArray, List.set_cons_zero, List.set_cons_succ]
        refine hd_take 4 (v := .bool kb) rfl (by kernel_rfl) (by kernel_rfl) (by kernel_rfl) rfl hSa2 (fun W' hS => by go_simp) rfl ?_
        try simp only [Act.put, List.setIfInBounds_toArray, List.set_cons_zero, List.set_cons_succ]
        refine hd_take 5 (v := .bool kb) rfl (by kernel_rfl) (by kernel_rfl) (by kernel_rfl) rfl hSa2 (fun W' hS => by go_simp) rfl ?_
        try simp only [Act.put, List.setIfInBounds_toArray, List.set_cons_zero, List.set_cons_succ]
        refine held_done (by kernel_rfl) ?_
        have h4 : Fr [] w ya2 := h3.trans ga2 (by simp)
        have hq0 := ga2.at hq0 (by simp)
        have hq1 := ga2.at hq1 (by simp)
        clear ga0 ga1 ga2 hSa0 hSa1 hSa2 c0 c1 c2 c3 c4 z0 z1 z2 z3 z4 f0 f1 f2 f3 f4
        have c0 := row_cell hq0 0
        have c1 := row_cell hq0 1
        have c2 := row_cell hq0 2
        have c3 := row_cell hq0 3
        have c4 := row_cell hq0 4
        have z0 := row_cell hq1 0
        have z1 := row_cell hq1 1
        have z2 := row_cell hq1 2
        have z3 := row_cell hq1 3
        have z4 := row_cell hq1 4
        have f0 := row_free hq1 0
        have f1 := row_free hq1 1
        have f2 := row_free hq1 2
        have f3 := row_free hq1 3
        have f4 := row_free hq1 4
        simp at c0 c1 c2 c3 c4 z0 z1 z2 z3 z4
        cases kb with
        | true =>
          have HR : Hid (passR t tk secret = (zeroTtl, 20)) := Lib.hid (by unfold passR passT; rw [← HVO.out, ← HIO.out, if_neg (by decide), if_neg H50.out, ← HUO.out, if_neg (by decide), ← HKB.out]; rfl)
          have HX := Lib.hid (h4.store5 (p + 1) (by right; have := EP.out; omega) (.int .i64 0) (.int .i64 0) (.int .i64 0) (.string ⟨#[]⟩) (.slice none 0 0))
          have HRX := Lib.hid (row_set (row_set (row_set (row_set (row_set hq1 0 (.int .i64 0)) 1 (.int .i64 0)) 2 (.int .i64 0)) 3 (.string ⟨#[]⟩)) 4 (.slice none 0 0))
          clear hq0 hq1
          go_wp2_with fail
          have x0 := row_cell HRX.out 0
          have x1 := row_cell HRX.out 1
          have x2 := row_cell HRX.out 2
          have x3 := row_cell HRX.out 3
          have x4 := row_cell HRX.out 4
          simp at x0 x1 x2 x3 x4
          refine bodyPost_ret (v := .tuple #[zeroTV, .int .i64 20]) ?_ rfl ⟨zeroTV, by rw [HR.out], by rw [HR.out]; exact zeroT_reads _, HX.out.toBelow (by simp)⟩
          unfold zeroTV
          rw [results_cell_tmp rfl]
          go_simp
        | false =>
          obtain ⟨R, hRm, hRW, hRS⟩ := HC.out.raw
          have HRW := Lib.hid hRW
          have HSG := Lib.hid hRS
          have hRn : R.length = t.chain.length := by rw [← hRm, List.length_map]
          have hRl : R.length ≤ 100000 := by have := HS.out.n; omega
          have HML : Hid ((msgT t tk).length ≤ 1000000) := Lib.hid (by unfold msgT dlist; rw [dsum_length]; decide)
          have HRM := Lib.hid hRm
          clear hRW hRS hRm
          have HR : Hid (passR t tk secret = ({ t with chain := t.chain ++ [⟨tk, sigS secret (msgT t tk)⟩] }, 0)) := Lib.hid (by
            unfold passR passT
            rw [← HVO.out, ← HIO.out, if_neg (by decide), if_neg H50.out, ← HUO.out, if_neg (by decide), ← HKB.out]
            rfl)
          have hpl : p + 1 < ya2.heap.size := lt_of_block hq1
          go_wp2_with fail
          have gb0 : Fr [] ya2 ya2.drew := (Fr.refl [] ya2).drew
          have hSb0 : ya2.drew.cell? ⟨p, 0, none⟩ = some (.int .i64 t.serial) ∧ ya2.drew.cell? ⟨p, 1, none⟩ = some (.int .i64 t.shw) ∧ ya2.drew.cell? ⟨p, 2, none⟩ = some (.int .i64 t.place) ∧ ya2.drew.cell? ⟨p, 3, none⟩ = some (.string ⟨t.first.toArray⟩) ∧ ya2.drew.cell? ⟨p, 4, none⟩ = some (.slice a t.chain.length cap) := ⟨gb0.cell c0 (by simp), gb0.cell c1 (by simp), gb0.cell c2 (by simp), gb0.cell c3 (by simp), gb0.cell c4 (by simp)⟩
          refine region_held 13 (fun W' => W'.cell? ⟨p, 0, none⟩ = some (.int .i64 t.serial) ∧ W'.cell? ⟨p, 1, none⟩ = some (.int .i64 t.shw) ∧ W'.cell? ⟨p, 2, none⟩ = some (.int .i64 t.place) ∧ W'.cell? ⟨p, 3, none⟩ = some (.string ⟨t.first.toArray⟩) ∧ W'.cell? ⟨p, 4, none⟩ = some (.slice a t.chain.length cap)) hmx ?_
          change Held _ _ _ _ _ _ 14 (Array.replicate 14 false) _ _
          refine hd_take 0 (v := .pointer (some ⟨p, 4, none⟩)) rfl (by kernel_rfl) (by kernel_rfl) (by kernel_rfl) rfl hSb0 (fun W' hS => by go_simp) rfl ?_
          refine hd_take 3 (v := .string ⟨tk.toArray⟩) rfl (by kernel_rfl) (by kernel_rfl) (by kernel_rfl) rfl hSb0 (fun W' hS => by go_simp) rfl ?_
          refine hd_take 4 (v := .string ⟨secret.toArray⟩) rfl (by kernel_rfl) (by kernel_rfl) (by kernel_rfl) rfl hSb0 (fun W' hS => by go_simp) rfl ?_
          refine hd_take 6 (v := .string ⟨tk.toArray⟩) rfl (by kernel_rfl) (by kernel_rfl) (by kernel_rfl) rfl hSb0 (fun W' hS => by go_simp) rfl ?_
          try simp only [Act.put, List.setIfInBounds_toArray, List.set_cons_zero, List.set_cons_succ]
          refine hd_take 1 (v := .slice a t.chain.length cap) rfl (by kernel_rfl) (by kernel_rfl) (by kernel_rfl) rfl hSb0 (fun W' hS => by obtain ⟨s0, s1, s2, s3, s4⟩ := hS; go_simp) rfl ?_
          refine hd_take 5 (v := .agg #[.int .i64 t.serial, .int .i64 t.shw, .int .i64 t.place, .string ⟨t.first.toArray⟩, .slice a t.chain.length cap]) rfl (by kernel_rfl) (by kernel_rfl) (by kernel_rfl) rfl hSb0 (fun W' hS => by obtain ⟨s0, s1, s2, s3, s4⟩ := hS; go_simp) rfl ?_
          try simp only [Act.put, List.setIfInBounds_toArray, List.set_cons_zero, List.set_cons_succ]
          refine hd_one 2 (by kernel_rfl) rfl (by kernel_rfl) rfl (fun K' hK => ?_)
          go_simp
          refine (cloneT_any _ R _ (HRW.out.fr (h4.trans gb0 (by simp))) (HSG.out.fr (h4.trans gb0 (by simp))) hRl).mono ?_
          rintro e yb1 ⟨ov, rfl, hoc, hbb⟩
          have gb1 : Fr [] ya2 yb1 := gb0.below hbb gb0.size
          have hyl : ∀ k, ov.ownBlock = some k → ya2.heap.size ≤ k ∧ k < yb1.heap.size := fun k hk => ⟨(ownBlock_cells hoc k hk).1, ownBlock_lt hoc k hk⟩
          have HOC := Lib.hid hoc
          clear hoc
          clear hbb
          have hSb1 : yb1.cell? ⟨p, 0, none⟩ = some (.int .i64 t.serial) ∧ yb1.cell? ⟨p, 1, none⟩ = some (.int .i64 t.shw) ∧ yb1.cell? ⟨p, 2, none⟩ = some (.int .i64 t.place) ∧ yb1.cell? ⟨p, 3, none⟩ = some (.string ⟨t.first.toArray⟩) ∧ yb1.cell? ⟨p, 4, none⟩ = some (.slice a t.chain.length cap) := ⟨gb1.cell c0 (by simp), gb1.cell c1 (by simp), gb1.cell c2 (by simp), gb1.cell c3 (by simp), gb1.cell c4 (by simp)⟩
          refine hK.out _ _ (fun _ => hSb1) ?_
          clear hK K'
          try simp only [Act.put, List.setIfInBounds_toArray, List.set_cons_zero, List.set_cons_succ]
          refine hd_one 7 (by kernel_rfl) rfl (by kernel_rfl) rfl (fun K' hK => ?_)
          go_simp
          refine (message_any _ t tk _ ⟨_, rfl, HC.out.fr (h4.trans gb1 (by simp))⟩ HS.out htk (HT.out.fr (h4.trans gb1 (by simp)))).mono ?_
          rintro e yb2 ⟨rfl, hbb⟩
          have gb2 : Fr [] ya2 yb2 := gb1.below hbb gb1.size
          have k2 : Fr [] yb1 yb2 := Fr.ofBelow hbb
          clear hbb
          have hSb2 : yb2.cell? ⟨p, 0, none⟩ = some (.int .i64 t.serial) ∧ yb2.cell? ⟨p, 1, none⟩ = some (.int .i64 t.shw) ∧ yb2.cell? ⟨p, 2, none⟩ = some (.int .i64 t.place) ∧ yb2.cell? ⟨p, 3, none⟩ = some (.string ⟨t.first.toArray⟩) ∧ yb2.cell? ⟨p, 4, none⟩ = some (.slice a t.chain.length cap) := ⟨gb2.cell c0 (by simp), gb2.cell c1 (by simp), gb2.cell c2 (by simp), gb2.cell c3 (by simp), gb2.cell c4 (by simp)⟩
          refine hK.out _ _ (fun _ => hSb2) ?_
          clear hK K'
          try simp only [Act.put, List.setIfInBounds_toArray, List.set_cons_zero, List.set_cons_succ]
          refine hd_one 8 (by kernel_rfl) rfl (by kernel_rfl) rfl (fun K' hK => ?_)
          go_simp
          refine (sign_any secret (msgT t tk) _ hse HML.out (HT.out.fr (h4.trans gb2 (by simp)))).mono ?_
          rintro e yb3 ⟨sv, rfl, hos, hbb⟩
          have gb3 : Fr [] ya2 yb3 := gb2.below hbb gb2.size
          have k3 : Fr [] yb1 yb3 := k2.below hbb k2.size
          have HOSg := Lib.hid hos
          have hys : ∀ k, sv.ownBlock = some k → yb2.heap.size ≤ k := fun k hk => (ownBlock_cells hos k hk).1
          obtain ⟨sg, sgc, rfl⟩ := hos.slice (sigS_length _ _) (by decide)
          clear hos
          clear hbb
          have hSb3 : yb3.cell? ⟨p, 0, none⟩ = some (.int .i64 t.serial) ∧ yb3.cell? ⟨p, 1, none⟩ = some (.int .i64 t.shw) ∧ yb3.cell? ⟨p, 2, none⟩ = some (.int .i64 t.place) ∧ yb3.cell? ⟨p, 3, none⟩ = some (.string ⟨t.first.toArray⟩) ∧ yb3.cell? ⟨p, 4, none⟩ = some (.slice a t.chain.length cap) := ⟨gb3.cell c0 (by simp), gb3.cell c1 (by simp), gb3.cell c2 (by simp), gb3.cell c3 (by simp), gb3.cell c4 (by simp)⟩
          refine hK.out _ _ (fun _ => hSb3) ?_
          clear hK K'
          try simp only [Act.put, List.setIfInBounds_toArray, List.set_cons_zero, List.set_cons_succ]
          refine hd_take 9 (v := .agg #[.string ⟨tk.toArray⟩, .slice (some ⟨sg, 0, none⟩) 18 sgc]) rfl (by kernel_rfl) (by kernel_rfl) (by kernel_rfl) rfl hSb3 (fun W' hS => by go_simp) rfl ?_
          try simp only [Act.put, List.setIfInBounds_toArray, List.set_cons_zero, List.set_cons_succ]
          refine hd_one 10 (by kernel_rfl) rfl (by kernel_rfl) rfl (fun K' hK => ?_)
          go_simp
          have gb4 := gb3.alloc (.cells #[.string ⟨tk.toArray⟩, .slice (some ⟨sg, 0, none⟩) 18 sgc] 41)
          have hSb4 : (yb3.alloc (.cells #[.string ⟨tk.toArray⟩, .slice (some ⟨sg, 0, none⟩) 18 sgc] 41)).cell? ⟨p, 0, none⟩ = some (.int .i64 t.serial) ∧ (yb3.alloc (.cells #[.string ⟨tk.toArray⟩, .slice (some ⟨sg, 0, none⟩) 18 sgc] 41)).cell? ⟨p, 1, none⟩ = some (.int .i64 t.shw) ∧ (yb3.alloc (.cells #[.string ⟨tk.toArray⟩, .slice (some ⟨sg, 0, none⟩) 18 sgc] 41)).cell? ⟨p, 2, none⟩ = some (.int .i64 t.place) ∧ (yb3.alloc (.cells #[.string ⟨tk.toArray⟩, .slice (some ⟨sg, 0, none⟩) 18 sgc] 41)).cell? ⟨p, 3, none⟩ = some (.string ⟨t.first.toArray⟩) ∧ (yb3.alloc (.cells #[.string ⟨tk.toArray⟩, .slice (some ⟨sg, 0, none⟩) 18 sgc] 41)).cell? ⟨p, 4, none⟩ = some (.slice a t.chain.length cap) := ⟨gb4.cell c0 (by simp), gb4.cell c1 (by simp), gb4.cell c2 (by simp), gb4.cell c3 (by simp), gb4.cell c4 (by simp)⟩
          refine hK.out _ _ (fun _ => hSb4) ?_
          clear hK K'
          try simp only [Act.put, List.setIfInBounds_toArray, List.set_cons_zero, List.set_cons_succ]
          have hone : RawT (yb3.alloc (.cells #[.string ⟨tk.toArray⟩, .slice (some ⟨sg, 0, none⟩) 18 sgc] 41)) (.slice (some ⟨yb3.heap.size, 0, none⟩) 1 1) [(⟨tk, sigS secret (msgT t tk)⟩, .slice (some ⟨sg, 0, none⟩) 18 sgc)] := rawT_one (heap_new rfl)
          have k4 := k3.alloc (.cells #[.string ⟨tk.toArray⟩, .slice (some ⟨sg, 0, none⟩) 18 sgc] 41)
          have hsg4 : StrsW (yb3.alloc (.cells #[.string ⟨tk.toArray⟩, .slice (some ⟨sg, 0, none⟩) 18 sgc] 41)) (.slice (some ⟨sg, 0, none⟩) 18 sgc) (sigS secret (msgT t tk)) := Or.inl (HOSg.out.strs.fr0 ((Fr.refl [] yb3).alloc _))
          generalize yb3.alloc (.cells #[.string ⟨tk.toArray⟩, .slice (some ⟨sg, 0, none⟩) 18 sgc] 41) = yc at hone k4 hsg4 gb4 hSb4 ⊢
          refine hd_one 11 (by kernel_rfl) rfl (by kernel_rfl) rfl (fun K' hK => ?_)
          refine wp_appT (.tmp 38) (.tmp 46) rfl ya2.heap.size ov _ R [(⟨tk, sigS secret (msgT t tk)⟩, .slice (some ⟨sg, 0, none⟩) 18 sgc)] ya2 (by kernel_rfl) (by kernel_rfl) hone (fun q hq => by rw [List.mem_singleton.1 hq]; exact hsg4) (HOC.out.fr k4 (by simp)) gb4 (Nat.le_refl _) gb4.size (by simp; omega) ?_
          intro v' w7 ho7 hf7 hg7
          obtain ⟨g7, c7, hv7, hgb7⟩ := ho7.someN (by simp)
          rw [show (R ++ [((⟨tk, sigS secret (msgT t tk)⟩ : Trf), (Value.slice (some ⟨sg, 0, none⟩) 18 sgc))]).length = t.chain.length + 1 by rw [List.length_append, hRn]; rfl] at hv7
          subst hv7
          have hS7 : w7.cell? ⟨p, 0, none⟩ = some (.int .i64 t.serial) ∧ w7.cell? ⟨p, 1, none⟩ = some (.int .i64 t.shw) ∧ w7.cell? ⟨p, 2, none⟩ = some (.int .i64 t.place) ∧ w7.cell? ⟨p, 3, none⟩ = some (.string ⟨t.first.toArray⟩) ∧ w7.cell? ⟨p, 4, none⟩ = some (.slice a t.chain.length cap) := ⟨hf7.cell c0 (by simp), hf7.cell c1 (by simp), hf7.cell c2 (by simp), hf7.cell c3 (by simp), hf7.cell c4 (by simp)⟩
          refine hK.out _ _ (fun _ => hS7) ?_
          clear hK K'
          try simp only [Act.put, List.setIfInBounds_toArray, List.set_cons_zero, List.set_cons_succ]
          refine hd_take 12 (v := .pointer (some ⟨p, 4, none⟩)) rfl (by kernel_rfl) (by kernel_rfl) (by kernel_rfl) rfl hS7 (fun W' hS => by go_simp) rfl ?_
          try simp only [Act.put, List.setIfInBounds_toArray, List.set_cons_zero, List.set_cons_succ]
          have hq7 := hf7.at hq0 (by simp)
          have r4 := row_cell hq7 4
          simp at r4
          have y4 := row_free hq7 4
          refine hd_one 13 (by kernel_rfl) rfl (by kernel_rfl) rfl (fun K' hK => ?_)
          go_simp
          refine hK.out _ _ (fun h => absurd rfl h) ?_
          clear hK K'
          refine held_done (by kernel_rfl) ?_
          have hf8 : Fr [] w (w7.setCell ⟨p, 4, none⟩ (.slice (some ⟨g7, 0, none⟩) (t.chain.length + 1) c7)) := (h4.trans hf7 (by simp)).setCell _ _ (by right; have := EP.out; simp; omega)
          have hp8 := row_set hq7 4 (.slice (some ⟨g7, 0, none⟩) (t.chain.length + 1) c7)
          have hz8 := heap_other (hf7.at hq1 (by simp)) ⟨p, 4, none⟩ (.slice (some ⟨g7, 0, none⟩) (t.chain.length + 1) c7) (by simp)
          have hst2 : Fr [p, p + 1] w7 ((((((w7.setCell ⟨p, 4, none⟩ (.slice (some ⟨g7, 0, none⟩) (t.chain.length + 1) c7)).setCell ⟨p + 1, 0, none⟩ (.int .i64 t.serial)).setCell ⟨p + 1, 1, none⟩ (.int .i64 t.shw)).setCell ⟨p + 1, 2, none⟩ (.int .i64 t.place)).setCell ⟨p + 1, 3, none⟩ (.string ⟨t.first.toArray⟩)).setCell ⟨p + 1, 4, none⟩ (.slice (some ⟨g7, 0, none⟩) (t.chain.length + 1) c7)) := (((Fr.refl [p, p + 1] w7).setCell ⟨p, 4, none⟩ (.slice (some ⟨g7, 0, none⟩) (t.chain.length + 1) c7) (by simp)).store5 (p + 1) (by simp) _ _ _ _ _)
          have hfZ : Fr [] w ((((((w7.setCell ⟨p, 4, none⟩ (.slice (some ⟨g7, 0, none⟩) (t.chain.length + 1) c7)).setCell ⟨p + 1, 0, none⟩ (.int .i64 t.serial)).setCell ⟨p + 1, 1, none⟩ (.int .i64 t.shw)).setCell ⟨p + 1, 2, none⟩ (.int .i64 t.place)).setCell ⟨p + 1, 3, none⟩ (.string ⟨t.first.toArray⟩)).setCell ⟨p + 1, 4, none⟩ (.slice (some ⟨g7, 0, none⟩) (t.chain.length + 1) c7)) := hf8.store5 (p + 1) (by right; have := EP.out; omega) _ _ _ _ _
          have htrZ : Trs ((((((w7.setCell ⟨p, 4, none⟩ (.slice (some ⟨g7, 0, none⟩) (t.chain.length + 1) c7)).setCell ⟨p + 1, 0, none⟩ (.int .i64 t.serial)).setCell ⟨p + 1, 1, none⟩ (.int .i64 t.shw)).setCell ⟨p + 1, 2, none⟩ (.int .i64 t.place)).setCell ⟨p + 1, 3, none⟩ (.string ⟨t.first.toArray⟩)).setCell ⟨p + 1, 4, none⟩ (.slice (some ⟨g7, 0, none⟩) (t.chain.length + 1) c7)) (.slice (some ⟨g7, 0, none⟩) (t.chain.length + 1) c7) (t.chain ++ [⟨tk, sigS secret (msgT t tk)⟩]) := by
            have ho8 := ho7.fr hst2 (fun k hk hm => by
              have h1 := (ownBlock_cells ho7 k hk).1
              simp only [List.mem_cons, List.not_mem_nil, or_false] at hm
              omega)
            have hsl := hys sg rfl
            have hk2 := k2.size
            have hg2 := gb2.size
            have hsv8 : StrsW ((((((w7.setCell ⟨p, 4, none⟩ (.slice (some ⟨g7, 0, none⟩) (t.chain.length + 1) c7)).setCell ⟨p + 1, 0, none⟩ (.int .i64 t.serial)).setCell ⟨p + 1, 1, none⟩ (.int .i64 t.shw)).setCell ⟨p + 1, 2, none⟩ (.int .i64 t.place)).setCell ⟨p + 1, 3, none⟩ (.string ⟨t.first.toArray⟩)).setCell ⟨p + 1, 4, none⟩ (.slice (some ⟨g7, 0, none⟩) (t.chain.length + 1) c7)) (.slice (some ⟨sg, 0, none⟩) 18 sgc) (sigS secret (msgT t tk)) := by
              refine (hsg4.frX hg7 (fun k hk hm => ?_)).frX hst2 (fun k hk hm => ?_)
              · have e1 : sg = k := by simpa [Value.ownBlock] using hk
                have e2 := hyl k (Option.mem_toList.1 hm)
                omega
              · have e1 : sg = k := by simpa [Value.ownBlock] using hk
                simp only [List.mem_cons, List.not_mem_nil, or_false] at hm
                omega
            have hsig8 : SigsR ((((((w7.setCell ⟨p, 4, none⟩ (.slice (some ⟨g7, 0, none⟩) (t.chain.length + 1) c7)).setCell ⟨p + 1, 0, none⟩ (.int .i64 t.serial)).setCell ⟨p + 1, 1, none⟩ (.int .i64 t.shw)).setCell ⟨p + 1, 2, none⟩ (.int .i64 t.place)).setCell ⟨p + 1, 3, none⟩ (.string ⟨t.first.toArray⟩)).setCell ⟨p + 1, 4, none⟩ (.slice (some ⟨g7, 0, none⟩) (t.chain.length + 1) c7)) (R ++ [((⟨tk, sigS secret (msgT t tk)⟩ : Trf), (Value.slice (some ⟨sg, 0, none⟩) 18 sgc))]) :=
              (HSG.out.fr hfZ).app (fun q hq => by rw [List.mem_singleton.1 hq]; exact hsv8)
            have h2 := ho8.raw.trs hsig8
            rw [List.map_append, HRM.out] at h2
            exact h2
          clear hst2
          generalize w7.setCell ⟨p, 4, none⟩ (.slice (some ⟨g7, 0, none⟩) (t.chain.length + 1) c7) = w8 at hf8 hp8 hz8 htrZ hfZ ⊢
          have HTX := Lib.hid htrZ
          have HX := Lib.hid hfZ
          clear htrZ hfZ hf8 ho7 hf7 hg7 hq7 r4 y4 hS7 hone hsg4 gb0 gb1 gb2 gb3 gb4 hSb0 hSb1 hSb2 hSb3 hSb4 k2 k3 k4 hyl hys hq0 hq1 c0 c1 c2 c3 c4 z0 z1 z2 z3 z4 f0 f1 f2 f3 f4
          have c0 := row_cell hp8 0
          have c1 := row_cell hp8 1
          have c2 := row_cell hp8 2
          have c3 := row_cell hp8 3
          have c4 := row_cell hp8 4
          have z0 := row_cell hz8 0
          have z1 := row_cell hz8 1
          have z2 := row_cell hz8 2
          have z3 := row_cell hz8 3
          have z4 := row_cell hz8 4
          have f0 := row_free hz8 0
          have f1 := row_free hz8 1
          have f2 := row_free hz8 2
          have f3 := row_free hz8 3
          have f4 := row_free hz8 4
          simp at c0 c1 c2 c3 c4 z0 z1 z2 z3 z4
          have HRX := Lib.hid (row_set (row_set (row_set (row_set (row_set hz8 0 (.int .i64 t.serial)) 1 (.int .i64 t.shw)) 2 (.int .i64 t.place)) 3 (.string ⟨t.first.toArray⟩)) 4 (.slice (some ⟨g7, 0, none⟩) (t.chain.length + 1) c7))
          clear hp8 hz8
          go_wp2_with fail
          have x0 := row_cell HRX.out 0
          have x1 := row_cell HRX.out 1
          have x2 := row_cell HRX.out 2
          have x3 := row_cell HRX.out 3
          have x4 := row_cell HRX.out 4
          simp at x0 x1 x2 x3 x4
          refine bodyPost_ret (v := .tuple #[.agg #[.int .i64 t.serial, .int .i64 t.shw, .int .i64 t.place, .string ⟨t.first.toArray⟩, .slice (some ⟨g7, 0, none⟩) (t.chain.length + 1) c7], .int .i64 0]) ?_ rfl ⟨_, by rw [HR.out], by rw [HR.out]; exact ⟨_, rfl, HTX.out⟩, HX.out.toBelow (by simp)⟩
          rw [results_cell_tmp rfl]
          go_simp
end Go.Proofs.YtcblpfepkkkilaaGreatDoor
