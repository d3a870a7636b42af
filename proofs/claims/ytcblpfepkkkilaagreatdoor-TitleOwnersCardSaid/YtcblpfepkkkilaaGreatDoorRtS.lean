/-
  foyerlaw30.shown.
-/
import Derived.Test.YtcblpfepkkkilaaGreatDoorHeT
namespace Go.Proofs.YtcblpfepkkkilaaGreatDoor
open Go.RowKit

theorem sumL_any (l : List UInt8) (w : World) (hl : l.length ≤ 9223372036854775807) (hT : Tabs w) :
    Calls Tryz.prog 27 #[.string ⟨l.toArray⟩] w fun e w' => e = .returned (.string ⟨(dsum l).toArray⟩) ∧ Below w.heap.size w w' :=
  sum_any ⟨l.toArray⟩ w (by rw [ba_size]; exact hl) hT.hex
/-- No two of the first strings have one digest. -/
def NoD (l : List (List UInt8)) (k : Nat) : Prop := ∀ x y : Nat, y < x → x < k → dsum (l.getD x []) = dsum (l.getD y []) → l.getD x [] = l.getD y []
theorem noD_end {l : List (List UInt8)} (h : NoD l l.length) : ¬ Coll l := by
  rintro ⟨x, y, hx, hy, h1, h2⟩
  obtain ⟨i, hi, rfl⟩ := List.getElem_of_mem hx
  obtain ⟨j, hj, rfl⟩ := List.getElem_of_mem hy
  have e : ∀ (k : Nat) (hk : k < l.length), l.getD k [] = l[k] := fun k hk => by simp [List.getD_eq_getElem?_getD, hk]
  rcases Nat.lt_trichotomy i j with h3 | h3 | h3
  · have := h j i h3 hj (by rw [e i hi, e j hj]; exact h1.symm)
    rw [e i hi, e j hj] at this
    exact h2 this.symm
  · subst h3; exact h2 rfl
  · have := h i j h3 hi (by rw [e i hi, e j hj]; exact h1)
    rw [e i hi, e j hj] at this
    exact h2 this
set_option maxRecDepth 100000 in
set_option maxHeartbeats 4000000 in
theorem shown30_any (v : Value) (l : List (List UInt8)) (w : World) (hv : Strs w v l) (hlen : l.length ≤ 100000) (hl : ∀ s ∈ l, s.length ≤ 9223372036854775807) (hT : Tabs w) :
    Calls Tryz.prog 31 #[v] w fun e w' => ∃ b, e = .returned (.bool b) ∧ (Coll l → b = true) ∧ Below w.heap.size w w' := by
  have hmx : Tryz.prog.follows .mixedOrders = true := by kernel_rfl
  have HV := Lib.hid hv
  have HT := Lib.hid hT
  have HL := Lib.hid hl
  obtain ⟨a, cap, rfl, hll, ha⟩ := hv.form
  clear hv hT hl
  go_enter Tryz.func31, Tryz.ntmps31
  go_wp2_with fail
  go_loopg [3] (l.length + 1) (fun g i wr => ∃ k : Nat, k ≤ l.length ∧ g = l.length + 1 - k ∧ i = .int .i64 (k : Int) ∧ NoD l k ∧ Fr [] w wr)
  case atStart => exact ⟨0, by omega, by omega, rfl, fun x y _ h => absurd h (Nat.not_lt_zero _), Fr.refl _ _⟩
  case round =>
    obtain ⟨k, hk, hg, rfl, hno, hfr⟩ := hrel
    have HG := Lib.hid hg
    have HNO := Lib.hid hno
    clear hg hno
    by_cases hlt : k < l.length
    · have t2 : decide ((k : Int) < (l.length : Int)) = true := by simp; omega
      obtain ⟨wo, rfl⟩ : ∃ wo : World, wo = wr := ⟨_, rfl⟩
      go_wp2_with fail
      go_loopg [4] (k + 1) (fun g i wr => ∃ j : Nat, j ≤ k ∧ g = k + 1 - j ∧ i = .int .i64 (j : Int) ∧ (∀ y, y < j → dsum (l.getD k []) = dsum (l.getD y []) → l.getD k [] = l.getD y []) ∧ Fr [] w wr)
      case atStart => exact ⟨0, by omega, by omega, rfl, fun y h => absurd h (Nat.not_lt_zero _), hfr⟩
      case round =>
        clear hfr
        obtain ⟨j, hj, hg, rfl, hno, hfr⟩ := hrel
        have HG2 := Lib.hid hg
        have HNO2 := Lib.hid hno
        clear hg hno
        by_cases hjk : j < k
        · have hjl : j < l.length := by omega
          obtain ⟨b, off, rfl⟩ := ha k hlt
          have c1 := (HV.out.fr0 hfr).cell k hlt
          have c2 := (HV.out.fr0 hfr).cell j hjl
          have t3 : decide ((j : Int) < (k : Int)) = true := by simp; omega
          have HSTEP : Hid ((dsum (l.getD k []) = dsum (l.getD j []) → l.getD k [] = l.getD j []) → ∀ y, y < j + 1 → dsum (l.getD k []) = dsum (l.getD y []) → l.getD k [] = l.getD y []) := by
            intro h y hy
            rcases Nat.lt_or_ge y j with h1 | h1
            · exact HNO2.out y h1
            · obtain rfl : y = j := by omega
              exact h
          have HXL : Hid ((l.getD k []).length ≤ 9223372036854775807 ∧ (l.getD j []).length ≤ 9223372036854775807) := Lib.hid ⟨HL.out _ (getD_mem l k [] hlt), HL.out _ (getD_mem l j [] hjl)⟩
          generalize hx0 : l.getD k [] = x at c1 HSTEP HXL
          generalize l.getD j [] = y at c2 HSTEP HXL
          have HX0 := Lib.hid hx0
          have HFR := Lib.hid hfr
          have i0 : (0 : Int) ≤ (k : Int) := by omega
          have i1 : (k : Int) < (l.length : Int) := by omega
          have i2 : (0 : Int) ≤ (j : Int) := by omega
          have i3 : (j : Int) < (l.length : Int) := by omega
          clear hx0 hfr
          obtain ⟨sx, esx⟩ : ∃ s, s = dsum x := ⟨_, rfl⟩
          obtain ⟨sy, esy⟩ : ∃ s, s = dsum y := ⟨_, rfl⟩
          have ESX := Lib.hid esx
          have ESY := Lib.hid esy
          clear esx esy
          by_cases hxy : x = y
          · have t5 : (x != y) = false := by rw [hxy]; simp
            have t6 : (x == y) = true := by rw [hxy]; simp
            have HSTEP2 := Lib.hid (HSTEP.out (fun _ => hxy))
            clear hxy HSTEP
            go_wp2_with fail
            have g0 : Fr [] wr wr.drew := (Fr.refl [] wr).drew
            have hS0 : wr.drew.cell? ⟨b, off + k, none⟩ = some (.string ⟨x.toArray⟩) ∧ wr.drew.cell? ⟨b, off + j, none⟩ = some (.string ⟨y.toArray⟩) := ⟨g0.cell c1 (by simp), g0.cell c2 (by simp)⟩
            refine region_held 100 (fun W' => W'.cell? ⟨b, off + k, none⟩ = some (.string ⟨x.toArray⟩) ∧ W'.cell? ⟨b, off + j, none⟩ = some (.string ⟨y.toArray⟩)) hmx ?_
            change Held _ _ _ _ _ _ 22 (Array.replicate 22 false) _ _
            refine hd_take 0 (v := .slice (some ⟨b, off, none⟩) l.length cap) rfl (by kernel_rfl) (by kernel_rfl) (by kernel_rfl) rfl hS0 (fun W' hS => by go_simp) rfl ?_
            refine hd_take 1 (v := .int .i64 (k : Int)) rfl (by kernel_rfl) (by kernel_rfl) (by kernel_rfl) rfl hS0 (fun W' hS => by go_simp) rfl ?_
            refine hd_take 4 (v := .slice (some ⟨b, off, none⟩) l.length cap) rfl (by kernel_rfl) (by kernel_rfl) (by kernel_rfl) rfl hS0 (fun W' hS => by go_simp) rfl ?_
            refine hd_take 5 (v := .int .i64 (j : Int)) rfl (by kernel_rfl) (by kernel_rfl) (by kernel_rfl) rfl hS0 (fun W' hS => by go_simp) rfl ?_
            try simp only [Act.put, List.setIfInBounds_toArray, List.set_cons_zero, List.set_cons_succ]
            refine hd_take 2 (v := .pointer (some ⟨b, off + k, none⟩)) rfl (by kernel_rfl) (by kernel_rfl) (by kernel_rfl) rfl hS0 (fun W' hS => by go_simp) rfl ?_
            refine hd_take 6 (v := .pointer (some ⟨b, off + j, none⟩)) rfl (by kernel_rfl) (by kernel_rfl) (by kernel_rfl) rfl hS0 (fun W' hS => by go_simp) rfl ?_
            try simp only [Act.put, List.setIfInBounds_toArray, List.set_cons_zero, List.set_cons_succ]
            refine hd_take 3 (v := .string ⟨x.toArray⟩) rfl (by kernel_rfl) (by kernel_rfl) (by kernel_rfl) rfl hS0 (fun W' hS => by obtain ⟨s0, s1⟩ := hS; go_simp) rfl ?_
            refine hd_take 7 (v := .string ⟨y.toArray⟩) rfl (by kernel_rfl) (by kernel_rfl) (by kernel_rfl) rfl hS0 (fun W' hS => by obtain ⟨s0, s1⟩ := hS; go_simp) rfl ?_
            try simp only [Act.put, List.setIfInBounds_toArray, List.set_cons_zero, List.set_cons_succ]
            refine hd_take 8 (v := .bool false) rfl (by kernel_rfl) (by kernel_rfl) (by kernel_rfl) rfl hS0 (fun W' hS => by go_simp) rfl ?_
            try simp only [Act.put, List.setIfInBounds_toArray, List.set_cons_zero, List.set_cons_succ]
            refine hd_take 9 (v := .bool false) rfl (by kernel_rfl) (by kernel_rfl) (by kernel_rfl) rfl hS0 (fun W' hS => by go_simp) rfl ?_
            try simp only [Act.put, List.setIfInBounds_toArray, List.set_cons_zero, List.set_cons_succ]
            refine hd_skip 10 rfl (by kernel_rfl) (by kernel_rfl) (by kernel_rfl) rfl hS0 rfl ?_
            refine hd_skip 11 rfl (by kernel_rfl) (by kernel_rfl) (by kernel_rfl) rfl hS0 rfl ?_
            refine hd_skip 12 rfl (by kernel_rfl) (by kernel_rfl) (by kernel_rfl) rfl hS0 rfl ?_
            refine hd_skip 13 rfl (by kernel_rfl) (by kernel_rfl) (by kernel_rfl) rfl hS0 rfl ?_
            refine hd_skip 14 rfl (by kernel_rfl) (by kernel_rfl) (by kernel_rfl) rfl hS0 rfl ?_
            refine hd_skip 15 rfl (by kernel_rfl) (by kernel_rfl) (by kernel_rfl) rfl hS0 rfl ?_
            refine hd_skip 16 rfl (by kernel_rfl) (by kernel_rfl) (by kernel_rfl) rfl hS0 rfl ?_
            refine hd_skip 17 rfl (by kernel_rfl) (by kernel_rfl) (by kernel_rfl) rfl hS0 rfl ?_
            refine hd_skip 18 rfl (by kernel_rfl) (by kernel_rfl) (by kernel_rfl) rfl hS0 rfl ?_
            refine hd_skip 19 rfl (by kernel_rfl) (by kernel_rfl) (by kernel_rfl) rfl hS0 rfl ?_
            refine hd_skip 20 rfl (by kernel_rfl) (by kernel_rfl) (by kernel_rfl) rfl hS0 rfl ?_
            refine hd_take 21 (v := .bool false) rfl (by kernel_rfl) (by kernel_rfl) (by kernel_rfl) rfl hS0 (fun W' hS => by go_simp) rfl ?_
            try simp only [Act.put, List.setIfInBounds_toArray, List.set_cons_zero, List.set_cons_succ]
            refine held_done (by kernel_rfl) ?_
            have hfe := HFR.out.trans g0 (by simp)
            go_wp2_with fail
            go_roundg (k + 1 - (j + 1))
            case measure => have := HG2.out; omega
            case rel => exact ⟨j + 1, by omega, rfl, by go_num, by rw [HX0.out]; exact HSTEP2.out, hfe⟩
          · have t5 : (x != y) = true := by rw [bne_iff_ne]; exact hxy
            have t6 : (x == y) = false := by rw [beq_eq_false_iff_ne]; exact hxy
            by_cases hd : sx = sy
            · have t7 : (sx == sy) = true := by rw [hd]; simp
              clear hxy hd HSTEP
              go_wp2_with fail
              have g0 : Fr [] wr wr.drew := (Fr.refl [] wr).drew
              have hS0 : wr.drew.cell? ⟨b, off + k, none⟩ = some (.string ⟨x.toArray⟩) ∧ wr.drew.cell? ⟨b, off + j, none⟩ = some (.string ⟨y.toArray⟩) := ⟨g0.cell c1 (by simp), g0.cell c2 (by simp)⟩
              refine region_held 100 (fun W' => W'.cell? ⟨b, off + k, none⟩ = some (.string ⟨x.toArray⟩) ∧ W'.cell? ⟨b, off + j, none⟩ = some (.string ⟨y.toArray⟩)) hmx ?_
              change Held _ _ _ _ _ _ 22 (Array.replicate 22 false) _ _
              refine hd_take 0 (v := .slice (some ⟨b, off, none⟩) l.length cap) rfl (by kernel_rfl) (by kernel_rfl) (by kernel_rfl) rfl hS0 (fun W' hS => by go_simp) rfl ?_
              refine hd_take 1 (v := .int .i64 (k : Int)) rfl (by kernel_rfl) (by kernel_rfl) (by kernel_rfl) rfl hS0 (fun W' hS => by go_simp) rfl ?_
              refine hd_take 4 (v := .slice (some ⟨b, off, none⟩) l.length cap) rfl (by kernel_rfl) (by kernel_rfl) (by kernel_rfl) rfl hS0 (fun W' hS => by go_simp) rfl ?_
              refine hd_take 5 (v := .int .i64 (j : Int)) rfl (by kernel_rfl) (by kernel_rfl) (by kernel_rfl) rfl hS0 (fun W' hS => by go_simp) rfl ?_
              try simp only [Act.put, List.setIfInBounds_toArray, List.set_cons_zero, List.set_cons_succ]
              refine hd_take 2 (v := .pointer (some ⟨b, off + k, none⟩)) rfl (by kernel_rfl) (by kernel_rfl) (by kernel_rfl) rfl hS0 (fun W' hS => by go_simp) rfl ?_
              refine hd_take 6 (v := .pointer (some ⟨b, off + j, none⟩)) rfl (by kernel_rfl) (by kernel_rfl) (by kernel_rfl) rfl hS0 (fun W' hS => by go_simp) rfl ?_
              try simp only [Act.put, List.setIfInBounds_toArray, List.set_cons_zero, List.set_cons_succ]
              refine hd_take 3 (v := .string ⟨x.toArray⟩) rfl (by kernel_rfl) (by kernel_rfl) (by kernel_rfl) rfl hS0 (fun W' hS => by obtain ⟨s0, s1⟩ := hS; go_simp) rfl ?_
              refine hd_take 7 (v := .string ⟨y.toArray⟩) rfl (by kernel_rfl) (by kernel_rfl) (by kernel_rfl) rfl hS0 (fun W' hS => by obtain ⟨s0, s1⟩ := hS; go_simp) rfl ?_
              try simp only [Act.put, List.setIfInBounds_toArray, List.set_cons_zero, List.set_cons_succ]
              refine hd_take 8 (v := .bool true) rfl (by kernel_rfl) (by kernel_rfl) (by kernel_rfl) rfl hS0 (fun W' hS => by go_simp) rfl ?_
              try simp only [Act.put, List.setIfInBounds_toArray, List.set_cons_zero, List.set_cons_succ]
              refine hd_take 9 (v := .bool true) rfl (by kernel_rfl) (by kernel_rfl) (by kernel_rfl) rfl hS0 (fun W' hS => by go_simp) rfl ?_
              try simp only [Act.put, List.setIfInBounds_toArray, List.set_cons_zero, List.set_cons_succ]
              refine hd_take 10 (v := .slice (some ⟨b, off, none⟩) l.length cap) rfl (by kernel_rfl) (by kernel_rfl) (by kernel_rfl) rfl hS0 (fun W' hS => by go_simp) rfl ?_
              refine hd_take 11 (v := .int .i64 (k : Int)) rfl (by kernel_rfl) (by kernel_rfl) (by kernel_rfl) rfl hS0 (fun W' hS => by go_simp) rfl ?_
              refine hd_take 15 (v := .slice (some ⟨b, off, none⟩) l.length cap) rfl (by kernel_rfl) (by kernel_rfl) (by kernel_rfl) rfl hS0 (fun W' hS => by go_simp) rfl ?_
              refine hd_take 16 (v := .int .i64 (j : Int)) rfl (by kernel_rfl) (by kernel_rfl) (by kernel_rfl) rfl hS0 (fun W' hS => by go_simp) rfl ?_
              try simp only [Act.put, List.setIfInBounds_toArray, List.set_cons_zero, List.set_cons_succ]
              refine hd_take 12 (v := .pointer (some ⟨b, off + k, none⟩)) rfl (by kernel_rfl) (by kernel_rfl) (by kernel_rfl) rfl hS0 (fun W' hS => by go_simp) rfl ?_
              refine hd_take 17 (v := .pointer (some ⟨b, off + j, none⟩)) rfl (by kernel_rfl) (by kernel_rfl) (by kernel_rfl) rfl hS0 (fun W' hS => by go_simp) rfl ?_
              try simp only [Act.put, List.setIfInBounds_toArray, List.set_cons_zero, List.set_cons_succ]
              refine hd_take 13 (v := .string ⟨x.toArray⟩) rfl (by kernel_rfl) (by kernel_rfl) (by kernel_rfl) rfl hS0 (fun W' hS => by obtain ⟨s0, s1⟩ := hS; go_simp) rfl ?_
              refine hd_take 18 (v := .string ⟨y.toArray⟩) rfl (by kernel_rfl) (by kernel_rfl) (by kernel_rfl) rfl hS0 (fun W' hS => by obtain ⟨s0, s1⟩ := hS; go_simp) rfl ?_
              try simp only [Act.put, List.setIfInBounds_toArray, List.set_cons_zero, List.set_cons_succ]
              refine hd_one 14 (by kernel_rfl) rfl (by kernel_rfl) rfl (fun K' hK => ?_)
              go_simp
              refine (sumL_any x wr.drew HXL.out.1 (HT.out.fr (HFR.out.trans g0 (by simp)))).mono ?_
              rintro e y1 ⟨rfl, hbb⟩
              have g1 : Fr [] wr y1 := g0.below hbb g0.size
              clear hbb
              have hS1 : y1.cell? ⟨b, off + k, none⟩ = some (.string ⟨x.toArray⟩) ∧ y1.cell? ⟨b, off + j, none⟩ = some (.string ⟨y.toArray⟩) := ⟨g1.cell c1 (by simp), g1.cell c2 (by simp)⟩
              refine hK.out _ _ (fun _ => hS1) ?_
              clear hK K'
              try simp only [Act.put, List.setIfInBounds_toArray, List.set_cons_zero, List.set_cons_succ]
              rw [← ESX.out]
              refine hd_one 19 (by kernel_rfl) rfl (by kernel_rfl) rfl (fun K' hK => ?_)
              go_simp
              refine (sumL_any y y1 HXL.out.2 (HT.out.fr (HFR.out.trans g1 (by simp)))).mono ?_
              rintro e y2 ⟨rfl, hbb⟩
              have g2 : Fr [] wr y2 := g1.below hbb g1.size
              clear hbb
              have hS2 : y2.cell? ⟨b, off + k, none⟩ = some (.string ⟨x.toArray⟩) ∧ y2.cell? ⟨b, off + j, none⟩ = some (.string ⟨y.toArray⟩) := ⟨g2.cell c1 (by simp), g2.cell c2 (by simp)⟩
              refine hK.out _ _ (fun _ => hS2) ?_
              clear hK K'
              try simp only [Act.put, List.setIfInBounds_toArray, List.set_cons_zero, List.set_cons_succ]
              rw [← ESY.out]
              refine hd_take 20 (v := .bool true) rfl (by kernel_rfl) (by kernel_rfl) (by kernel_rfl) rfl hS2 (fun W' hS => by go_simp) rfl ?_
              try simp only [Act.put, List.setIfInBounds_toArray, List.set_cons_zero, List.set_cons_succ]
              refine hd_take 21 (v := .bool true) rfl (by kernel_rfl) (by kernel_rfl) (by kernel_rfl) rfl hS2 (fun W' hS => by go_simp) rfl ?_
              try simp only [Act.put, List.setIfInBounds_toArray, List.set_cons_zero, List.set_cons_succ]
              refine held_done (by kernel_rfl) ?_
              have hfe := HFR.out.trans g2 (by simp)
              go_wp2_with fail
              go_ret
              exact ⟨true, rfl, fun _ => rfl, hfe.toBelow (by simp)⟩
            · have t7 : (sx == sy) = false := by rw [beq_eq_false_iff_ne]; exact hd
              have HSTEP2 := Lib.hid (HSTEP.out (fun h => absurd (by rw [ESX.out, ESY.out]; exact h) hd))
              clear hxy hd HSTEP
              go_wp2_with fail
              have g0 : Fr [] wr wr.drew := (Fr.refl [] wr).drew
              have hS0 : wr.drew.cell? ⟨b, off + k, none⟩ = some (.string ⟨x.toArray⟩) ∧ wr.drew.cell? ⟨b, off + j, none⟩ = some (.string ⟨y.toArray⟩) := ⟨g0.cell c1 (by simp), g0.cell c2 (by simp)⟩
              refine region_held 100 (fun W' => W'.cell? ⟨b, off + k, none⟩ = some (.string ⟨x.toArray⟩) ∧ W'.cell? ⟨b, off + j, none⟩ = some (.string ⟨y.toArray⟩)) hmx ?_
              change Held _ _ _ _ _ _ 22 (Array.replicate 22 false) _ _
              refine hd_take 0 (v := .slice (some ⟨b, off, none⟩) l.length cap) rfl (by kernel_rfl) (by kernel_rfl) (by kernel_rfl) rfl hS0 (fun W' hS => by go_simp) rfl ?_
              refine hd_take 1 (v := .int .i64 (k : Int)) rfl (by kernel_rfl) (by kernel_rfl) (by kernel_rfl) rfl hS0 (fun W' hS => by go_simp) rfl ?_
              refine hd_take 4 (v := .slice (some ⟨b, off, none⟩) l.length cap) rfl (by kernel_rfl) (by kernel_rfl) (by kernel_rfl) rfl hS0 (fun W' hS => by go_simp) rfl ?_
              refine hd_take 5 (v := .int .i64 (j : Int)) rfl (by kernel_rfl) (by kernel_rfl) (by kernel_rfl) rfl hS0 (fun W' hS => by go_simp) rfl ?_
              try simp only [Act.put, List.setIfInBounds_toArray, List.set_cons_zero, List.set_cons_succ]
              refine hd_take 2 (v := .pointer (some ⟨b, off + k, none⟩)) rfl (by kernel_rfl) (by kernel_rfl) (by kernel_rfl) rfl hS0 (fun W' hS => by go_simp) rfl ?_
              refine hd_take 6 (v := .pointer (some ⟨b, off + j, none⟩)) rfl (by kernel_rfl) (by kernel_rfl) (by kernel_rfl) rfl hS0 (fun W' hS => by go_simp) rfl ?_
              try simp only [Act.put, List.setIfInBounds_toArray, List.set_cons_zero, List.set_cons_succ]
              refine hd_take 3 (v := .string ⟨x.toArray⟩) rfl (by kernel_rfl) (by kernel_rfl) (by kernel_rfl) rfl hS0 (fun W' hS => by obtain ⟨s0, s1⟩ := hS; go_simp) rfl ?_
              refine hd_take 7 (v := .string ⟨y.toArray⟩) rfl (by kernel_rfl) (by kernel_rfl) (by kernel_rfl) rfl hS0 (fun W' hS => by obtain ⟨s0, s1⟩ := hS; go_simp) rfl ?_
              try simp only [Act.put, List.setIfInBounds_toArray, List.set_cons_zero, List.set_cons_succ]
              refine hd_take 8 (v := .bool true) rfl (by kernel_rfl) (by kernel_rfl) (by kernel_rfl) rfl hS0 (fun W' hS => by go_simp) rfl ?_
              try simp only [Act.put, List.setIfInBounds_toArray, List.set_cons_zero, List.set_cons_succ]
              refine hd_take 9 (v := .bool true) rfl (by kernel_rfl) (by kernel_rfl) (by kernel_rfl) rfl hS0 (fun W' hS => by go_simp) rfl ?_
              try simp only [Act.put, List.setIfInBounds_toArray, List.set_cons_zero, List.set_cons_succ]
              refine hd_take 10 (v := .slice (some ⟨b, off, none⟩) l.length cap) rfl (by kernel_rfl) (by kernel_rfl) (by kernel_rfl) rfl hS0 (fun W' hS => by go_simp) rfl ?_
              refine hd_take 11 (v := .int .i64 (k : Int)) rfl (by kernel_rfl) (by kernel_rfl) (by kernel_rfl) rfl hS0 (fun W' hS => by go_simp) rfl ?_
              refine hd_take 15 (v := .slice (some ⟨b, off, none⟩) l.length cap) rfl (by kernel_rfl) (by kernel_rfl) (by kernel_rfl) rfl hS0 (fun W' hS => by go_simp) rfl ?_
              refine hd_take 16 (v := .int .i64 (j : Int)) rfl (by kernel_rfl) (by kernel_rfl) (by kernel_rfl) rfl hS0 (fun W' hS => by go_simp) rfl ?_
              try simp only [Act.put, List.setIfInBounds_toArray, List.set_cons_zero, List.set_cons_succ]
              refine hd_take 12 (v := .pointer (some ⟨b, off + k, none⟩)) rfl (by kernel_rfl) (by kernel_rfl) (by kernel_rfl) rfl hS0 (fun W' hS => by go_simp) rfl ?_
              refine hd_take 17 (v := .pointer (some ⟨b, off + j, none⟩)) rfl (by kernel_rfl) (by kernel_rfl) (by kernel_rfl) rfl hS0 (fun W' hS => by go_simp) rfl ?_
              try simp only [Act.put, List.setIfInBounds_toArray, List.set_cons_zero, List.set_cons_succ]
              refine hd_take 13 (v := .string ⟨x.toArray⟩) rfl (by kernel_rfl) (by kernel_rfl) (by kernel_rfl) rfl hS0 (fun W' hS => by obtain ⟨s0, s1⟩ := hS; go_simp) rfl ?_
              refine hd_take 18 (v := .string ⟨y.toArray⟩) rfl (by kernel_rfl) (by kernel_rfl) (by kernel_rfl) rfl hS0 (fun W' hS => by obtain ⟨s0, s1⟩ := hS; go_simp) rfl ?_
              try simp only [Act.put, List.setIfInBounds_toArray, List.set_cons_zero, List.set_cons_succ]
              refine hd_one 14 (by kernel_rfl) rfl (by kernel_rfl) rfl (fun K' hK => ?_)
              go_simp
              refine (sumL_any x wr.drew HXL.out.1 (HT.out.fr (HFR.out.trans g0 (by simp)))).mono ?_
              rintro e y1 ⟨rfl, hbb⟩
              have g1 : Fr [] wr y1 := g0.below hbb g0.size
              clear hbb
              have hS1 : y1.cell? ⟨b, off + k, none⟩ = some (.string ⟨x.toArray⟩) ∧ y1.cell? ⟨b, off + j, none⟩ = some (.string ⟨y.toArray⟩) := ⟨g1.cell c1 (by simp), g1.cell c2 (by simp)⟩
              refine hK.out _ _ (fun _ => hS1) ?_
              clear hK K'
              try simp only [Act.put, List.setIfInBounds_toArray, List.set_cons_zero, List.set_cons_succ]
              rw [← ESX.out]
              refine hd_one 19 (by kernel_rfl) rfl (by kernel_rfl) rfl (fun K' hK => ?_)
              go_simp
              refine (sumL_any y y1 HXL.out.2 (HT.out.fr (HFR.out.trans g1 (by simp)))).mono ?_
              rintro e y2 ⟨rfl, hbb⟩
              have g2 : Fr [] wr y2 := g1.below hbb g1.size
              clear hbb
              have hS2 : y2.cell? ⟨b, off + k, none⟩ = some (.string ⟨x.toArray⟩) ∧ y2.cell? ⟨b, off + j, none⟩ = some (.string ⟨y.toArray⟩) := ⟨g2.cell c1 (by simp), g2.cell c2 (by simp)⟩
              refine hK.out _ _ (fun _ => hS2) ?_
              clear hK K'
              try simp only [Act.put, List.setIfInBounds_toArray, List.set_cons_zero, List.set_cons_succ]
              rw [← ESY.out]
              refine hd_take 20 (v := .bool false) rfl (by kernel_rfl) (by kernel_rfl) (by kernel_rfl) rfl hS2 (fun W' hS => by go_simp) rfl ?_
              try simp only [Act.put, List.setIfInBounds_toArray, List.set_cons_zero, List.set_cons_succ]
              refine hd_take 21 (v := .bool false) rfl (by kernel_rfl) (by kernel_rfl) (by kernel_rfl) rfl hS2 (fun W' hS => by go_simp) rfl ?_
              try simp only [Act.put, List.setIfInBounds_toArray, List.set_cons_zero, List.set_cons_succ]
              refine held_done (by kernel_rfl) ?_
              have hfe := HFR.out.trans g2 (by simp)
              go_wp2_with fail
              go_roundg (k + 1 - (j + 1))
              case measure => have := HG2.out; omega
              case rel => exact ⟨j + 1, by omega, rfl, by go_num, by rw [HX0.out]; exact HSTEP2.out, hfe⟩
        · obtain rfl : j = k := by omega
          have t3 : decide ((j : Int) < (j : Int)) = false := by simp
          have HN3 : Hid (NoD l (j + 1)) := by
            intro x y hy hx
            rcases Nat.lt_or_ge x j with h1 | h1
            · exact HNO.out x y hy h1
            · obtain rfl : x = j := by omega
              exact HNO2.out y hy
          go_wp2_with fail
          go_roundg (l.length + 1 - (j + 1))
          case measure => have := HG.out; omega
          case rel => exact ⟨j + 1, by omega, rfl, by go_num, HN3.out, hfr⟩
    · obtain rfl : k = l.length := by omega
      have t2 : decide ((l.length : Int) < (l.length : Int)) = false := by simp
      go_wp2_with fail
      go_ret
      exact ⟨false, rfl, fun h => absurd h (noD_end HNO.out), hfr.toBelow (by simp)⟩
end Go.Proofs.YtcblpfepkkkilaaGreatDoor
