/-
  title.Parse: its two closures.
-/
import Derived.Test.YtcblpfepkkkilaaGreatDoorTtI
import Derived.Test.YtcblpfepkkkilaaGreatDoorErU
namespace Go.Proofs.YtcblpfepkkkilaaGreatDoor
open Go.RowKit

/-- The words that are left. -/
def NX (W : World) (b4 g : Nat) (ws : List (List UInt8)) : Prop :=
  ∃ off cap, W.heap[b4]? = some (.cells #[.slice (some ⟨g, off, none⟩) ws.length cap] 39 (0, 0)) ∧ Strs W (.slice (some ⟨g, off, none⟩) ws.length cap) ws
theorem NX.fr {X : List Nat} {W W' : World} {b4 g : Nat} {ws : List (List UInt8)} (h : NX W b4 g ws) (hf : Fr X W W') (h1 : b4 ∉ X) (h2 : g ∉ X) : NX W' b4 g ws :=
  let ⟨off, cap, a, b⟩ := h; ⟨off, cap, hf.at a h1, b.frN hf h2⟩
theorem NX.lt {W : World} {b4 g : Nat} {ws : List (List UInt8)} (h : NX W b4 g ws) : b4 < W.heap.size ∧ g < W.heap.size := by
  obtain ⟨off, cap, a, b⟩ := h
  refine ⟨lt_of_block a, ?_⟩
  rcases b with ⟨b, _⟩ | ⟨b', off', cap', hv, _, _, h3, _⟩
  · cases b
  · cases hv; exact h3
theorem strs_tl {w : World} {b off n cap : Nat} {x : List UInt8} {l : List (List UInt8)} (h : Strs w (.slice (some ⟨b, off, none⟩) n cap) (x :: l)) : Strs w (.slice (some ⟨b, off + 1, none⟩) l.length (cap - 1)) l := by
  rcases h with ⟨h, _⟩ | ⟨b', off', cap', hv, h1, h2, h3, h4⟩
  · cases h
  · cases hv
    refine Or.inr ⟨b, off + 1, cap - 1, rfl, by simp at h1; omega, by omega, h3, fun i hi => ?_⟩
    have := h4 (i + 1) (by simp; omega)
    rw [show off + 1 + i = off + (i + 1) by omega, this]
    simp
set_option maxRecDepth 100000 in
set_option maxHeartbeats 2000000 in
theorem next_any (b4 g : Nat) (ws : List (List UInt8)) (w : World) (h : NX w b4 g ws) (hg : g ≠ b4) :
    Calls Tryz.prog 41 #[.pointer (some ⟨b4, 0, none⟩)] w fun e w' => e = .returned (.string ⟨(ws.headD []).toArray⟩) ∧ Fr [b4] w w' ∧ NX w' b4 g ws.tail := by
  have hmx : Tryz.prog.follows .mixedOrders = true := by kernel_rfl
  have HN := Lib.hid h
  obtain ⟨off, cap, hb, hs⟩ := h
  have c4 := cell_of_one hb
  cases ws with
  | nil =>
    clear hb hs
    go_enter Tryz.func41, Tryz.ntmps41
    go_wp2_with fail
    go_ret
    exact ⟨rfl, Fr.refl _ _, HN.out⟩
  | cons x xs =>
    simp only [List.length_cons] at hb hs c4
    have hcap : xs.length + 1 ≤ cap ∧ cap ≤ 9223372036854775807 := by
      rcases hs with ⟨h0, _⟩ | ⟨_, _, _, h0, h2, h3, _⟩
      · cases h0
      · cases h0; exact ⟨h2, h3⟩
    have cx : w.cell? ⟨g, off, none⟩ = some (.string ⟨x.toArray⟩) := by
      rcases hs with ⟨h0, _⟩ | ⟨_, _, _, h0, _, _, _, h4⟩
      · cases h0
      · cases h0
        have := h4 0 (by simp)
        simpa using this
    have f4 := row_free hb 0
    have HB := Lib.hid hb
    have HS := Lib.hid hs
    have t1 : decide ((0 : Int) < ((xs.length + 1 : Nat) : Int)) = true := decide_eq_true (by omega)
    have i3 : ¬ ((xs.length : Int) + 1 < 1) := by omega
    have i0 : (0 : Int) < ((xs.length + 1 : Nat) : Int) := by omega
    have i1 : (1 : Int) ≤ (cap : Int) := by omega
    have i2 : (1 : Int) ≤ ((xs.length + 1 : Nat) : Int) := by omega
    clear hb hs
    by_cases h1 : cap = 1
    · subst h1
      have hx0 : xs = [] := List.length_eq_zero_iff.1 (by omega)
      subst hx0
      go_enter Tryz.func41, Tryz.ntmps41
      go_wp2_with fail
      have g0 : Fr [] w w.drew := (Fr.refl [] w).drew
      have hS0 : w.drew.cell? ⟨b4, 0, none⟩ = some (.slice (some ⟨g, off, none⟩) 1 1) ∧ w.drew.cell? ⟨g, off, none⟩ = some (.string ⟨x.toArray⟩) := ⟨g0.cell c4 (by simp), g0.cell cx (by simp)⟩
      refine region_held 6 (fun W' => W'.cell? ⟨b4, 0, none⟩ = some (.slice (some ⟨g, off, none⟩) 1 1) ∧ W'.cell? ⟨g, off, none⟩ = some (.string ⟨x.toArray⟩)) hmx ?_
      change Held _ _ _ _ _ _ 7 (Array.replicate 7 false) _ _
      refine hd_take 0 (v := .slice (some ⟨g, off, none⟩) 1 1) rfl (by kernel_rfl) (by kernel_rfl) (by kernel_rfl) rfl hS0 (fun W' hS => by obtain ⟨s0, s1⟩ := hS; go_simp) rfl ?_
      refine hd_take 3 (v := .slice (some ⟨g, off, none⟩) 1 1) rfl (by kernel_rfl) (by kernel_rfl) (by kernel_rfl) rfl hS0 (fun W' hS => by obtain ⟨s0, s1⟩ := hS; go_simp) rfl ?_
      try simp only [Act.put, List.setIfInBounds_toArray, List.set_cons_zero, List.set_cons_succ]
      refine hd_take 1 (v := .pointer (some ⟨g, off, none⟩)) rfl (by kernel_rfl) (by kernel_rfl) (by kernel_rfl) rfl hS0 (fun W' hS => by go_simp) rfl ?_
      refine hd_take 4 (v := .slice (some ⟨g, off, none⟩) 0 0) rfl (by kernel_rfl) (by kernel_rfl) (by kernel_rfl) rfl hS0 (fun W' hS => by go_simp) rfl ?_
      try simp only [Act.put, List.setIfInBounds_toArray, List.set_cons_zero, List.set_cons_succ]
      refine hd_take 2 (v := .string ⟨x.toArray⟩) rfl (by kernel_rfl) (by kernel_rfl) (by kernel_rfl) rfl hS0 (fun W' hS => by obtain ⟨s0, s1⟩ := hS; go_simp) rfl ?_
      try simp only [Act.put, List.setIfInBounds_toArray, List.set_cons_zero, List.set_cons_succ]
      refine hd_take 5 (v := .string ⟨x.toArray⟩) rfl (by kernel_rfl) (by kernel_rfl) (by kernel_rfl) rfl hS0 (fun W' hS => by go_simp) rfl ?_
      try simp only [Act.put, List.setIfInBounds_toArray, List.set_cons_zero, List.set_cons_succ]
      refine hd_one 6 (by kernel_rfl) rfl (by kernel_rfl) rfl (fun K' hK => ?_)
      go_simp
      refine hK.out _ _ (fun h => absurd rfl h) ?_
      clear hK K'
      refine held_done (by kernel_rfl) ?_
      have hst : Fr [b4] w ((w.drew).setCell ⟨b4, 0, none⟩ (.slice (some ⟨g, off, none⟩) 0 0)) := ((Fr.refl [b4] w).drew).setCell _ _ (by simp)
      have HF := Lib.hid hst
      have HNX : Hid (NX ((w.drew).setCell ⟨b4, 0, none⟩ (.slice (some ⟨g, off, none⟩) 0 0)) b4 g []) := Lib.hid ⟨off, 0, row_set (show w.drew.heap[b4]? = _ from HB.out) 0 _, Or.inr ⟨g, off, 0, rfl, by simp, by decide, Nat.lt_of_lt_of_le HN.out.lt.2 hst.size, fun i hi => absurd hi (by simp)⟩⟩
      clear hst c4 cx f4
      go_wp2_with fail
      go_ret
      exact ⟨rfl, HF.out, HNX.out⟩
    · have hq2 : ¬ cap - 1 = 0 := by omega
      have HT := Lib.hid (strs_tl HS.out)
      go_enter Tryz.func41, Tryz.ntmps41
      go_wp2_with fail
      have g0 : Fr [] w w.drew := (Fr.refl [] w).drew
      have hS0 : w.drew.cell? ⟨b4, 0, none⟩ = some (.slice (some ⟨g, off, none⟩) (xs.length + 1) cap) ∧ w.drew.cell? ⟨g, off, none⟩ = some (.string ⟨x.toArray⟩) := ⟨g0.cell c4 (by simp), g0.cell cx (by simp)⟩
      refine region_held 6 (fun W' => W'.cell? ⟨b4, 0, none⟩ = some (.slice (some ⟨g, off, none⟩) (xs.length + 1) cap) ∧ W'.cell? ⟨g, off, none⟩ = some (.string ⟨x.toArray⟩)) hmx ?_
      change Held _ _ _ _ _ _ 7 (Array.replicate 7 false) _ _
      refine hd_take 0 (v := .slice (some ⟨g, off, none⟩) (xs.length + 1) cap) rfl (by kernel_rfl) (by kernel_rfl) (by kernel_rfl) rfl hS0 (fun W' hS => by obtain ⟨s0, s1⟩ := hS; go_simp) rfl ?_
      refine hd_take 3 (v := .slice (some ⟨g, off, none⟩) (xs.length + 1) cap) rfl (by kernel_rfl) (by kernel_rfl) (by kernel_rfl) rfl hS0 (fun W' hS => by obtain ⟨s0, s1⟩ := hS; go_simp) rfl ?_
      try simp only [Act.put, List.setIfInBounds_toArray, List.set_cons_zero, List.set_cons_succ]
      refine hd_take 1 (v := .pointer (some ⟨g, off, none⟩)) rfl (by kernel_rfl) (by kernel_rfl) (by kernel_rfl) rfl hS0 (fun W' hS => by go_simp) rfl ?_
      refine hd_take 4 (v := .slice (some ⟨g, off + 1, none⟩) xs.length (cap - 1)) rfl (by kernel_rfl) (by kernel_rfl) (by kernel_rfl) rfl hS0 (fun W' hS => by go_simp) rfl ?_
      try simp only [Act.put, List.setIfInBounds_toArray, List.set_cons_zero, List.set_cons_succ]
      refine hd_take 2 (v := .string ⟨x.toArray⟩) rfl (by kernel_rfl) (by kernel_rfl) (by kernel_rfl) rfl hS0 (fun W' hS => by obtain ⟨s0, s1⟩ := hS; go_simp) rfl ?_
      try simp only [Act.put, List.setIfInBounds_toArray, List.set_cons_zero, List.set_cons_succ]
      refine hd_take 5 (v := .string ⟨x.toArray⟩) rfl (by kernel_rfl) (by kernel_rfl) (by kernel_rfl) rfl hS0 (fun W' hS => by go_simp) rfl ?_
      try simp only [Act.put, List.setIfInBounds_toArray, List.set_cons_zero, List.set_cons_succ]
      refine hd_one 6 (by kernel_rfl) rfl (by kernel_rfl) rfl (fun K' hK => ?_)
      go_simp
      refine hK.out _ _ (fun h => absurd rfl h) ?_
      clear hK K'
      refine held_done (by kernel_rfl) ?_
      have hst : Fr [b4] w ((w.drew).setCell ⟨b4, 0, none⟩ (.slice (some ⟨g, off + 1, none⟩) xs.length (cap - 1))) := ((Fr.refl [b4] w).drew).setCell _ _ (by simp)
      have HF := Lib.hid hst
      have HNX : Hid (NX ((w.drew).setCell ⟨b4, 0, none⟩ (.slice (some ⟨g, off + 1, none⟩) xs.length (cap - 1))) b4 g xs) := Lib.hid ⟨off + 1, cap - 1, row_set (show w.drew.heap[b4]? = _ from HB.out) 0 _, HT.out.frN hst (by simpa using hg)⟩
      clear hst c4 cx f4
      go_wp2_with fail
      go_ret
      exact ⟨rfl, HF.out, HNX.out⟩
theorem enters_next : ∀ args w, (callFunc 41 args).run Tryz.prog w = .ok (.enter 41 args) w := enters_of Tryz.func41 (by kernel_rfl) rfl
theorem enters_number : ∀ args w, (callFunc 42 args).run Tryz.prog w = .ok (.enter 42 args) w := enters_of Tryz.func42 (by kernel_rfl) rfl
set_option maxRecDepth 100000 in
set_option maxHeartbeats 2000000 in
theorem number_any (b4 b5 g : Nat) (ws : List (List UInt8)) (w0 w : World) (h : NX w b4 g ws) (hg : g ≠ b4) (hb : w.heap[b5]? = some (.cells #[.func (.func 41) #[] #[.pointer (some ⟨b4, 0, none⟩)]] 54 (0, 0))) (hT : TabsU w0) (hf : Fr [] w0 w) (hb4 : w0.heap.size ≤ b4) (hsh : ∀ s ∈ ws, s.length ≤ 1000000) :
    Calls Tryz.prog 42 #[.pointer (some ⟨b5, 0, none⟩)] w fun e w' => ∃ n : Int, e = .returned (.int .i64 n) ∧ (-9223372036854775808 ≤ n ∧ n ≤ 9223372036854775807) ∧ (∀ m : Int, -1000000000000000000 < m → m < 1000000000000000000 → ws.headD [] = Lib.itoa m → n = m) ∧ Fr [b4] w w' ∧ NX w' b4 g ws.tail := by
  have c5 := cell_of_one hb
  have he := enters_next
  have HN := Lib.hid h
  have HT := Lib.hid hT
  have HF := Lib.hid hf
  have hl : (ws.headD []).length ≤ 1000000 := by
    cases ws with
    | nil => simp
    | cons x xs => exact hsh x (by simp)
  clear h hb hT hf hsh
  go_enter Tryz.func42, Tryz.ntmps42
  go_wp2_with fail
  refine (next_any b4 g ws w HN.out hg).mono ?_
  rintro e w1 ⟨rfl, hf1, hn1⟩
  have HF1 := Lib.hid hf1
  have HN1 := Lib.hid hn1
  have HT1 := Lib.hid (HT.out.fr (HF.out.trans hf1 (fun y hy => Or.inr (by rw [List.mem_singleton.1 hy]; exact hb4))))
  clear hf1 hn1 c5
  obtain ⟨x, ex⟩ : ∃ x, x = ws.headD [] := ⟨_, rfl⟩
  rw [← ex] at hl ⊢
  have HEX := Lib.hid ex
  clear ex
  go_wp2_with fail
  refine (atoiU_any x w1 hl HT1.out).mono ?_
  rintro e w2 ⟨n, ev, rfl, hr, hm, hb2⟩
  have HM := Lib.hid hm
  have HR := Lib.hid hr
  have HF2 := Lib.hid (HF1.out.below hb2 HF1.out.size)
  have HN2 := Lib.hid (HN1.out.fr (X := []) (Fr.ofBelow hb2) (by simp) (by simp))
  clear hm hr hb2
  go_wp2_with fail
  go_ret
  exact ⟨n, rfl, HR.out, fun m a b c => HM.out m a b (HEX.out.trans c), HF2.out, HN2.out⟩
end Go.Proofs.YtcblpfepkkkilaaGreatDoor
