/-
  entry.Classes.
-/
import Derived.Test.YtjddngbgbbbefaaGreatDoorEnA
import Derived.Test.YtjddngbgbbbefaaGreatDoorMapI
import Derived.Laws.EntriesVeiled
namespace Go.Proofs.YtjddngbgbbbefaaGreatDoor
open Go.RowKit

theorem last_put {l : List Ent} {sel : Ent → List UInt8} {k : Nat} {f : List UInt8 → Option Nat} (h : Last l sel k f) {e : Ent} (he : l[k]? = some e) : Last l sel (k + 1) (putI f (sel e) k) := h.put he
/-- The loop over the entries: k of them are done. -/
structure InvC (w wr : World) (l : List Pty) (g n s k : Nat) (p : List Nat) (R : Nat → Nat) (fp fq : List UInt8 → Option Nat) : Prop where
  lay : Lay wr s (s + 1) g n p
  uf : UF k p R
  so : Sound l k R
  co : Compl l k R
  mp : MapI wr (s + 1 + 1) k fp
  lp : Last l Pty.name k fp
  mq : MapI wr (s + 1 + 1 + 1) k fq
  lq : Last l Pty.com k fq
  fr : Fr [] w wr

set_option maxRecDepth 100000 in
set_option maxHeartbeats 8000000 in
theorem classes_any (v : Value) (l : List Pty) (w : World) (hv : Pts w v l) (hn : l.length ≤ 100000) (hl : ∀ p ∈ l, p.name.length ≤ 1000000 ∧ p.com.length ≤ 1000000) :
    Calls Tryz.prog 47 #[v] w fun e w' => ∃ g o, e = .returned (.slice (some ⟨g, 0, none⟩) l.length l.length) ∧ w.heap.size ≤ g ∧ ArrN w' g o ∧ Cls l o ∧ Below w.heap.size w w' := by
  have hmx : Tryz.prog.follows .mixedOrders = true := by kernel_rfl
  have HV := Lib.hid hv
  obtain ⟨a, cap, rfl, hlc, hcap, ha⟩ := hv.form
  have HLL := Lib.hid hl
  clear hv hl
  have hmm := @run_makeMap Tryz.prog
  obtain ⟨n, en⟩ : ∃ n, n = l.length := ⟨_, rfl⟩
  rw [← en]
  rw [← en] at hn
  have HN := Lib.hid en
  clear en
  go_enter Tryz.func47, Tryz.ntmps47
  obtain ⟨i0, hi, hz0, hz1, hz2⟩ := info_parts iInfoD
  go_wp2_with (at_make; go_loud (refine wpList_make_full _ rfl (.tmp 16) (.tmp 16) 24 rfl w.heap.size 3 i0 (.int .i64 0) 1 Tryz.underlying24 hi hz0 hz1 .i64 .i64 (n : Int) (n : Int) n rfl rfl rfl rfl (by rw [hz2]; omega) (by unfold maxLen; omega) (Nat.le_refl _) ?_))
  intro w1 hown hgrow
  have hf1 : Fr [] w w1 := (Fr.refl [] w).grown hgrow (fun r e => by cases e)
  rw [toList_madeCells_one, show List.replicate n (Value.int .i64 0) = (List.replicate n 0).map fun n : Nat => Value.int .i64 (n : Int) by simp] at hown
  have harr := (arr_of_own hown).2
  clear hown hgrow
  obtain ⟨g, hg⟩ : ∃ g, g = w.heap.size := ⟨_, rfl⟩
  rw [← hg] at harr ⊢
  have HG0 := Lib.hid hg
  have HARR := Lib.hid harr
  clear hg harr hi hz0 hz1 hz2
  go_wp2_with fail
  have hgs : g < w1.heap.size := lt_of_block HARR.out
  have hws : w.heap.size ≤ g := by rw [HG0.out]; exact Nat.le_refl _
  obtain ⟨W, hW⟩ : ∃ W, W = (((w1.alloc (.cells #[.slice (some ⟨g, 0, none⟩) n n] 24)).alloc (.cells #[headV w1.heap.size (w1.heap.size + 1)] 75)).alloc (.map #[] 0)).alloc (.map #[] 0) := ⟨_, rfl⟩
  have hfa : Fr [] (w1.alloc (.cells #[.slice (some ⟨g, 0, none⟩) n n] 24)) W := by rw [hW]; exact (((Fr.refl [] _).alloc _).alloc _).alloc _
  have hfW : Fr [] w1 W := ((Fr.refl [] w1).alloc _).trans hfa (by simp)
  have hlay : Lay W w1.heap.size (w1.heap.size + 1) g n (List.replicate n 0) := by
    refine ⟨hfa.at (heap_new rfl) (by simp), ?_, HARR.out.fr hfW (by simp), by simp, by omega, by omega, by omega⟩
    rw [hW]; exact heap_past _ (heap_past _ (heap_new (by simp)))
  have hmp : MapI W (w1.heap.size + 1 + 1) 0 (fun _ => none) := by
    rw [hW]
    exact (show MapI _ _ 0 _ by have := MapI.made ((w1.alloc (.cells #[.slice (some ⟨g, 0, none⟩) n n] 24)).alloc (.cells #[headV w1.heap.size (w1.heap.size + 1)] 75)); simpa using this).fr ((Fr.refl [] _).alloc _) (by simp)
  have hmq : MapI W (w1.heap.size + 1 + 1 + 1) 0 (fun _ => none) := by
    rw [hW]
    have := MapI.made (((w1.alloc (.cells #[.slice (some ⟨g, 0, none⟩) n n] 24)).alloc (.cells #[headV w1.heap.size (w1.heap.size + 1)] 75)).alloc (.map #[] 0))
    simpa using this
  have HINV : Hid (InvC w W l g n w1.heap.size 0 (List.replicate n 0) (fun x => x) (fun _ => none) (fun _ => none)) := Lib.hid
    ⟨hlay, ⟨by simp, fun i hi => absurd hi (Nat.not_lt_zero _), fun i hi => absurd hi (Nat.not_lt_zero _), fun i hi => absurd hi (Nat.not_lt_zero _), fun i hi => absurd hi (Nat.not_lt_zero _), fun i hi => absurd hi (Nat.not_lt_zero _)⟩,
      fun i hi => absurd hi (Nat.not_lt_zero _), fun i j hi => absurd hi (Nat.not_lt_zero _), hmp, Last.zero _ _, hmq, Last.zero _ _, hf1.trans hfW (by simp)⟩
  unfold headV at hW
  rw [← hW]
  clear hW hfa hfW hlay hmp hmq hf1 HARR
  generalize w1.heap.size = s at hgs HINV ⊢
  go_loopg [24] (n + 1) (fun gh i wr => ∃ (k : Nat) (p : List Nat) (R : Nat → Nat) (fp fq : List UInt8 → Option Nat), k ≤ n ∧ gh = n + 1 - k ∧ i = .int .i64 (k : Int) ∧ InvC w wr l g n s k p R fp fq)
  case atStart => exact ⟨0, _, _, _, _, by omega, by omega, rfl, HINV.out⟩
  case round =>
    clear HINV
    obtain ⟨k, p, R, fp, fq, hk, hgh, rfl, hinv⟩ := hrel
    have HGH := Lib.hid hgh
    have HI := Lib.hid hinv
    clear hgh hinv
    by_cases hlt : k < n
    · obtain ⟨b, off, rfl⟩ := ha k (by rw [← HN.out]; exact hlt)
      have t1 : decide ((k : Int) < (n : Int)) = true := by simp; omega
      obtain ⟨e, he⟩ : ∃ e, l[k]? = some e := ⟨l[k]'(by rw [← HN.out]; exact hlt), List.getElem?_eq_getElem _⟩
      have hfr := HI.out.fr
      have HVW := Lib.hid (HV.out.fr hfr)
      have hcs : wr.cell? ⟨b, off + k * 3, none⟩ = some (.string ⟨e.name.toArray⟩) ∧ wr.cell? ⟨b, off + k * 3 + 1, none⟩ = some (.string ⟨e.com.toArray⟩) ∧ wr.cell? ⟨b, off + k * 3 + 2, none⟩ = some (.string ⟨e.rev.toArray⟩) := HVW.out.cells k e he
      obtain ⟨c0, c1, c2⟩ := hcs
      have HM := Lib.hid (List.mem_of_getElem? he)
      have hsz := HLL.out e HM.out
      have hs1 : e.name.length ≤ 9223372036854775807 := by omega
      have hs2 : e.com.length ≤ 9223372036854775807 := by omega
      obtain ⟨W1, hW1⟩ : ∃ W1, W1 = (wr.alloc (.cells #[.string ⟨e.name.toArray⟩, .string ⟨e.com.toArray⟩, .string ⟨e.rev.toArray⟩] 43)).setCell ⟨g, k, none⟩ (.int .i64 (k : Int)) := ⟨_, rfl⟩
      have hlay0 := HI.out.lay.fr ((Fr.refl [] wr).alloc (.cells #[.string ⟨e.name.toArray⟩, .string ⟨e.com.toArray⟩, .string ⟨e.rev.toArray⟩] 43)) (by simp) (by simp) (by simp)
      have hfW1 : Fr [g] wr W1 := by rw [hW1]; exact ((Fr.refl [g] wr).alloc _).setCell _ _ (by simp)
      have hlay1 : Lay W1 s (s + 1) g n (p.set k k) := by rw [hW1]; exact hlay0.set k k
      have hpl : k < p.length := by rw [hlay0.len]; exact hlt
      have huf1 := HI.out.uf.ext hpl
      have hmp1 := HI.out.mp.fr hfW1 (by simp; omega)
      have hmq1 := HI.out.mq.fr hfW1 (by simp; omega)
      have hbx : W1.heap[wr.heap.size]? = some (.cells #[.string ⟨e.name.toArray⟩, .string ⟨e.com.toArray⟩, .string ⟨e.rev.toArray⟩] 43 (0, 0)) := by
        rw [hW1]
        have := lt_of_block HI.out.lay.a
        exact heap_other (heap_new rfl) _ _ (by simp; omega)
      have hlk1 := hmp1.lookOk e.name hs1
      have hlk2 := hmq1.lookOk e.com hs2
      have HB := Lib.hid hbx
      have HL1 := Lib.hid hlay1
      have HU1 := Lib.hid huf1
      have HMP1 := Lib.hid hmp1
      have HMQ1 := Lib.hid hmq1
      have HF1 : Hid (Fr [] w W1) := Lib.hid (hfr.trans hfW1 (by simp; omega))
      have HE := Lib.hid he
      have m0 : W1.cell? ⟨wr.heap.size, 0, none⟩ = some (.string ⟨e.name.toArray⟩) := by rw [row_cell hbx]; rfl
      have m1 : W1.cell? ⟨wr.heap.size, 1, none⟩ = some (.string ⟨e.com.toArray⟩) := by rw [row_cell hbx]; rfl
      have n0 := cell_of_one hlay0.o
      have n1 := hlay0.a.cell k hpl
      have n2 := row_free hlay0.a k
      rw [hW1] at hlk1 hlk2 m0 m1
      clear hlay0 hfW1 hlay1 huf1 hmp1 hmq1 hbx hfr he hsz hpl
      have HFIN : ∀ P : Prop, P → P := fun _ h => h
      clear HFIN
      have hsw : w.heap.size ≤ s := by omega
      have HLK := Lib.hid hlk2
      rw [← hW1] at hlk1 hlk2 m0 m1
      have HLA := Lib.hid hlk1
      have HLB := Lib.hid hlk2
      have HM0 := Lib.hid m0
      have HM1 := Lib.hid m1
      rw [hW1] at hlk1 hlk2 m0 m1
      cases hfp : fp e.name with
      | none =>
        rw [hfp] at hlk1
        simp only [Option.getD_none, Option.isSome_none, Int.cast_ofNat_Int] at hlk1
        have HU2 : Hid (UF (k + 1) (p.set k k) (joinR (extR R k) k (fp e.name))) := Lib.hid (by rw [hfp]; exact HU1.out)
        cases hfq : fq e.com with
        | none =>
          rw [hfq] at hlk2
          simp only [Option.getD_none, Option.isSome_none, Int.cast_ofNat_Int] at hlk2
          have HU6 : Hid (UF (k + 1) (p.set k k) (stepR R k (fp e.name) (fq e.com))) := Lib.hid (by rw [hfq]; exact HU2.out)
          have HEQ := Lib.hid hW1
          clear hW1
          go_wp2_with fail
          rw [← HEQ.out]
          have HL6 := HL1
          have HMP6 := HMP1
          have HMQ6 := HMQ1
          have HF6 := HF1
          have m6 := HM0.out
          have m7 := HM1.out
          generalize p.set k k = p6 at HL6 HU6
          generalize hbx : wr.heap.size = bx at m6 m7 ⊢
          have hbn : bx ≠ s + 1 + 1 ∧ bx ≠ s + 1 + 1 + 1 := by have := HI.out.mp.lt; have := HI.out.mq.lt; omega
          clear hlk1 hlk2 m0 m1 n0 n1 n2 c0 c1 c2 hfp hfq hbx
          generalize W1 = w6 at HL6 HMP6 HMQ6 HF6 m6 m7 ⊢
          have hc0 := m6
          have hc1 := m7
          have hh0 : Fr [] w6 w6.drew := (Fr.refl [] w6).drew
          have hS0 : w6.drew.cell? ⟨bx, 0, none⟩ = some (.string ⟨e.name.toArray⟩) ∧ w6.drew.cell? ⟨bx, 1, none⟩ = some (.string ⟨e.com.toArray⟩) := ⟨hh0.cell hc0 (by simp), hh0.cell hc1 (by simp)⟩
          refine region_held 9 (fun W' => W'.cell? ⟨bx, 0, none⟩ = some (.string ⟨e.name.toArray⟩) ∧ W'.cell? ⟨bx, 1, none⟩ = some (.string ⟨e.com.toArray⟩)) hmx ?_
          change Held _ _ _ _ _ _ 10 (Array.replicate 10 false) _ _
          refine hd_take 0 (v := .map (some (s + 1 + 1))) rfl (by kernel_rfl) (by kernel_rfl) (by kernel_rfl) rfl hS0 (fun W' hS => by go_simp) rfl ?_
          refine hd_take 1 (v := .pointer (some ⟨bx, 0, none⟩)) rfl (by kernel_rfl) (by kernel_rfl) (by kernel_rfl) rfl hS0 (fun W' hS => by go_simp) rfl ?_
          refine hd_take 3 (v := .map (some (s + 1 + 1 + 1))) rfl (by kernel_rfl) (by kernel_rfl) (by kernel_rfl) rfl hS0 (fun W' hS => by go_simp) rfl ?_
          refine hd_take 4 (v := .pointer (some ⟨bx, 1, none⟩)) rfl (by kernel_rfl) (by kernel_rfl) (by kernel_rfl) rfl hS0 (fun W' hS => by go_simp) rfl ?_
          refine hd_take 6 (v := .int .i64 (k : Int)) rfl (by kernel_rfl) (by kernel_rfl) (by kernel_rfl) rfl hS0 (fun W' hS => by go_simp) rfl ?_
          refine hd_take 7 (v := .int .i64 (k : Int)) rfl (by kernel_rfl) (by kernel_rfl) (by kernel_rfl) rfl hS0 (fun W' hS => by go_simp) rfl ?_
          simp only [Act.put, List.setIfInBounds_toArray, List.set_cons_zero, List.set_cons_succ]
          refine hd_take 2 (v := .string ⟨e.name.toArray⟩) rfl (by kernel_rfl) (by kernel_rfl) (by kernel_rfl) rfl hS0 (fun W' hS => by obtain ⟨h0, h1⟩ := hS; go_simp) rfl ?_
          refine hd_take 5 (v := .string ⟨e.com.toArray⟩) rfl (by kernel_rfl) (by kernel_rfl) (by kernel_rfl) rfl hS0 (fun W' hS => by obtain ⟨h0, h1⟩ := hS; go_simp) rfl ?_
          simp only [Act.put, List.setIfInBounds_toArray, List.set_cons_zero, List.set_cons_succ]
          refine hd_one 8 (by kernel_rfl) rfl (by kernel_rfl) rfl (fun K' hK => ?_)
          refine wp_putI (.tmp 57) (.tmp 59) (.tmp 63) rfl (s + 1 + 1) k fp (by kernel_rfl) (HMP6.out.fr hh0 (by simp)) (by omega) e.name k (by kernel_rfl) (by kernel_rfl) (by omega) hs1 ?_
          intro w7 hm7 hf7
          have hh1 : Fr [s + 1 + 1] w6 w7 := (hh0.mono (by simp)).trans hf7 (by simp)
          have hS1 : w7.cell? ⟨bx, 0, none⟩ = some (.string ⟨e.name.toArray⟩) ∧ w7.cell? ⟨bx, 1, none⟩ = some (.string ⟨e.com.toArray⟩) := ⟨hh1.cell hc0 (by simp; omega), hh1.cell hc1 (by simp; omega)⟩
          refine hK.out _ _ (fun _ => hS1) ?_
          clear hK K'
          try simp only [Act.put]
          refine hd_one 9 (by kernel_rfl) rfl (by kernel_rfl) rfl (fun K' hK => ?_)
          refine wp_putI (.tmp 60) (.tmp 62) (.tmp 64) rfl (s + 1 + 1 + 1) k fq (by kernel_rfl) (HMQ6.out.fr hh1 (by simp)) (by omega) e.com k (by kernel_rfl) (by kernel_rfl) (by omega) hs2 ?_
          intro w8 hm8 hf8
          have hh8 : Fr [s + 1 + 1, s + 1 + 1 + 1] w6 w8 := (hh1.mono (by simp)).trans hf8 (by simp)
          refine hK.out _ _ (fun h => absurd rfl h) ?_
          clear hK K'
          refine held_done (by kernel_rfl) ?_
          have HINV : Hid (InvC w w8 l g n s (k + 1) p6 (stepR R k (fp e.name) (fq e.com)) (putI fp e.name k) (putI fq e.com k)) := Lib.hid
            ⟨HL6.out.fr hh8 (by simp; try omega) (by simp; try omega) (by simp; try omega), HU6.out, sound_step HI.out.so HI.out.lp HI.out.lq HE.out, compl_step HI.out.co HI.out.lp HI.out.lq HE.out,
              hm7.fr hf8 (by simp), last_put HI.out.lp HE.out, hm8, last_put HI.out.lq HE.out, HF6.out.trans hh8 (fun y hy => by simp at hy; omega)⟩
          clear hm7 hm8 hf7 hf8 hh8 hh1 hh0 hS0 hS1 hc0 hc1
          go_wp2_with fail
          go_roundg (n + 1 - (k + 1))
          case measure => have := HGH.out; omega
          case rel => exact ⟨k + 1, _, _, _, _, by omega, rfl, by go_num, HINV.out⟩
        | some j =>
          rw [hfq] at hlk2
          simp only [Option.getD_some, Option.isSome_some] at hlk2
          have hj := (last_lnk HI.out.lp HI.out.lq HE.out).2 j hfq
          have hjk := hj.1
          have HEQ := Lib.hid hW1
          clear hW1 hj
          go_wp2_with fail
          rw [← HEQ.out]
          refine (unite_any s (s + 1) g n (k + 1) k j _ _ W1 (Nat.lt_succ_self _) (by omega) HL1.out HU2.out).mono ?_
          rintro e6 w6 ⟨rfl, p6, hl6, hu6, hf6⟩
          have HL6 := Lib.hid hl6
          have HU6 : Hid (UF (k + 1) p6 (stepR R k (fp e.name) (fq e.com))) := Lib.hid (by rw [hfq]; exact hu6)
          have HMP6 := Lib.hid (HMP1.out.fr hf6 (by simp; omega))
          have HMQ6 := Lib.hid (HMQ1.out.fr hf6 (by simp; omega))
          have HF6 : Hid (Fr [] w w6) := Lib.hid (HF1.out.trans hf6 (by simp; omega))
          have hgb : g < wr.heap.size := lt_of_block HI.out.lay.a
          have m6 := hf6.cell HM0.out (by simp; omega)
          have m7 := hf6.cell HM1.out (by simp; omega)
          clear hl6 hu6 hf6 hlk1 hlk2 m0 m1 n0 n1 n2 c0 c1 c2 hfp hfq
          go_wp2_with fail
          generalize hbx : wr.heap.size = bx at m6 m7 ⊢
          have hbn : bx ≠ s + 1 + 1 ∧ bx ≠ s + 1 + 1 + 1 := by have := HI.out.mp.lt; have := HI.out.mq.lt; omega
          clear hbx
          have hc0 := m6
          have hc1 := m7
          have hh0 : Fr [] w6 w6.drew := (Fr.refl [] w6).drew
          have hS0 : w6.drew.cell? ⟨bx, 0, none⟩ = some (.string ⟨e.name.toArray⟩) ∧ w6.drew.cell? ⟨bx, 1, none⟩ = some (.string ⟨e.com.toArray⟩) := ⟨hh0.cell hc0 (by simp), hh0.cell hc1 (by simp)⟩
          refine region_held 9 (fun W' => W'.cell? ⟨bx, 0, none⟩ = some (.string ⟨e.name.toArray⟩) ∧ W'.cell? ⟨bx, 1, none⟩ = some (.string ⟨e.com.toArray⟩)) hmx ?_
          change Held _ _ _ _ _ _ 10 (Array.replicate 10 false) _ _
          refine hd_take 0 (v := .map (some (s + 1 + 1))) rfl (by kernel_rfl) (by kernel_rfl) (by kernel_rfl) rfl hS0 (fun W' hS => by go_simp) rfl ?_
          refine hd_take 1 (v := .pointer (some ⟨bx, 0, none⟩)) rfl (by kernel_rfl) (by kernel_rfl) (by kernel_rfl) rfl hS0 (fun W' hS => by go_simp) rfl ?_
          refine hd_take 3 (v := .map (some (s + 1 + 1 + 1))) rfl (by kernel_rfl) (by kernel_rfl) (by kernel_rfl) rfl hS0 (fun W' hS => by go_simp) rfl ?_
          refine hd_take 4 (v := .pointer (some ⟨bx, 1, none⟩)) rfl (by kernel_rfl) (by kernel_rfl) (by kernel_rfl) rfl hS0 (fun W' hS => by go_simp) rfl ?_
          refine hd_take 6 (v := .int .i64 (k : Int)) rfl (by kernel_rfl) (by kernel_rfl) (by kernel_rfl) rfl hS0 (fun W' hS => by go_simp) rfl ?_
          refine hd_take 7 (v := .int .i64 (k : Int)) rfl (by kernel_rfl) (by kernel_rfl) (by kernel_rfl) rfl hS0 (fun W' hS => by go_simp) rfl ?_
          simp only [Act.put, List.setIfInBounds_toArray, List.set_cons_zero, List.set_cons_succ]
          refine hd_take 2 (v := .string ⟨e.name.toArray⟩) rfl (by kernel_rfl) (by kernel_rfl) (by kernel_rfl) rfl hS0 (fun W' hS => by obtain ⟨h0, h1⟩ := hS; go_simp) rfl ?_
          refine hd_take 5 (v := .string ⟨e.com.toArray⟩) rfl (by kernel_rfl) (by kernel_rfl) (by kernel_rfl) rfl hS0 (fun W' hS => by obtain ⟨h0, h1⟩ := hS; go_simp) rfl ?_
          simp only [Act.put, List.setIfInBounds_toArray, List.set_cons_zero, List.set_cons_succ]
          refine hd_one 8 (by kernel_rfl) rfl (by kernel_rfl) rfl (fun K' hK => ?_)
          refine wp_putI (.tmp 57) (.tmp 59) (.tmp 63) rfl (s + 1 + 1) k fp (by kernel_rfl) (HMP6.out.fr hh0 (by simp)) (by omega) e.name k (by kernel_rfl) (by kernel_rfl) (by omega) hs1 ?_
          intro w7 hm7 hf7
          have hh1 : Fr [s + 1 + 1] w6 w7 := (hh0.mono (by simp)).trans hf7 (by simp)
          have hS1 : w7.cell? ⟨bx, 0, none⟩ = some (.string ⟨e.name.toArray⟩) ∧ w7.cell? ⟨bx, 1, none⟩ = some (.string ⟨e.com.toArray⟩) := ⟨hh1.cell hc0 (by simp; omega), hh1.cell hc1 (by simp; omega)⟩
          refine hK.out _ _ (fun _ => hS1) ?_
          clear hK K'
          try simp only [Act.put]
          refine hd_one 9 (by kernel_rfl) rfl (by kernel_rfl) rfl (fun K' hK => ?_)
          refine wp_putI (.tmp 60) (.tmp 62) (.tmp 64) rfl (s + 1 + 1 + 1) k fq (by kernel_rfl) (HMQ6.out.fr hh1 (by simp)) (by omega) e.com k (by kernel_rfl) (by kernel_rfl) (by omega) hs2 ?_
          intro w8 hm8 hf8
          have hh8 : Fr [s + 1 + 1, s + 1 + 1 + 1] w6 w8 := (hh1.mono (by simp)).trans hf8 (by simp)
          refine hK.out _ _ (fun h => absurd rfl h) ?_
          clear hK K'
          refine held_done (by kernel_rfl) ?_
          have HINV : Hid (InvC w w8 l g n s (k + 1) p6 (stepR R k (fp e.name) (fq e.com)) (putI fp e.name k) (putI fq e.com k)) := Lib.hid
            ⟨HL6.out.fr hh8 (by simp; try omega) (by simp; try omega) (by simp; try omega), HU6.out, sound_step HI.out.so HI.out.lp HI.out.lq HE.out, compl_step HI.out.co HI.out.lp HI.out.lq HE.out,
              hm7.fr hf8 (by simp), last_put HI.out.lp HE.out, hm8, last_put HI.out.lq HE.out, HF6.out.trans hh8 (fun y hy => by simp at hy; omega)⟩
          clear hm7 hm8 hf7 hf8 hh8 hh1 hh0 hS0 hS1 hc0 hc1
          go_wp2_with fail
          go_roundg (n + 1 - (k + 1))
          case measure => have := HGH.out; omega
          case rel => exact ⟨k + 1, _, _, _, _, by omega, rfl, by go_num, HINV.out⟩
      | some j0 =>
        rw [hfp] at hlk1
        simp only [Option.getD_some, Option.isSome_some] at hlk1
        have hj0 := (last_lnk HI.out.lp HI.out.lq HE.out).1 j0 hfp
        have hjk0 := hj0.1
        have HEQ := Lib.hid hW1
        clear hW1 hj0 hlk2 m1
        go_wp2_with fail
        rw [← HEQ.out]
        refine (unite_any s (s + 1) g n (k + 1) k j0 _ _ W1 (Nat.lt_succ_self _) (by omega) HL1.out HU1.out).mono ?_
        rintro e5 w5 ⟨rfl, p5, hl5, hu5, hf5⟩
        have HL5 := Lib.hid hl5
        have HU5 : Hid (UF (k + 1) p5 (joinR (extR R k) k (fp e.name))) := Lib.hid (by rw [hfp]; exact hu5)
        have hmp5 := HMP1.out.fr hf5 (by simp; omega)
        have hmq5 := HMQ1.out.fr hf5 (by simp; omega)
        have hlk := hmq5.lookOk e.com hs2
        have HMP5 := Lib.hid hmp5
        have HMQ5 := Lib.hid hmq5
        have HF5 : Hid (Fr [] w w5) := Lib.hid (HF1.out.trans hf5 (by simp; omega))
        have hgb : g < wr.heap.size := lt_of_block HI.out.lay.a
        have m6 := hf5.cell HM0.out (by simp; omega)
        have m7 := hf5.cell HM1.out (by simp; omega)
        clear hl5 hu5 hf5 hmp5 hmq5 hlk1 m0 n0 n1 n2 c0 c1 c2 hfp
        cases hfq : fq e.com with
        | none =>
          rw [hfq] at hlk
          simp only [Option.getD_none, Option.isSome_none, Int.cast_ofNat_Int] at hlk
          have HU6 : Hid (UF (k + 1) p5 (stepR R k (fp e.name) (fq e.com))) := Lib.hid (by rw [hfq]; exact HU5.out)
          clear hfq
          go_wp2_with fail
          generalize hbx : wr.heap.size = bx at m6 m7 ⊢
          have hbn : bx ≠ s + 1 + 1 ∧ bx ≠ s + 1 + 1 + 1 := by have := HI.out.mp.lt; have := HI.out.mq.lt; omega
          have HL6 := HL5
          have HMP6 := HMP5
          have HMQ6 := HMQ5
          have HF6 := HF5
          clear hbx hlk
          generalize w5 = w6 at HL6 HMP6 HMQ6 HF6 m6 m7 ⊢
          generalize p5 = p6 at HL6 HU6
          have hc0 := m6
          have hc1 := m7
          have hh0 : Fr [] w6 w6.drew := (Fr.refl [] w6).drew
          have hS0 : w6.drew.cell? ⟨bx, 0, none⟩ = some (.string ⟨e.name.toArray⟩) ∧ w6.drew.cell? ⟨bx, 1, none⟩ = some (.string ⟨e.com.toArray⟩) := ⟨hh0.cell hc0 (by simp), hh0.cell hc1 (by simp)⟩
          refine region_held 9 (fun W' => W'.cell? ⟨bx, 0, none⟩ = some (.string ⟨e.name.toArray⟩) ∧ W'.cell? ⟨bx, 1, none⟩ = some (.string ⟨e.com.toArray⟩)) hmx ?_
          change Held _ _ _ _ _ _ 10 (Array.replicate 10 false) _ _
          refine hd_take 0 (v := .map (some (s + 1 + 1))) rfl (by kernel_rfl) (by kernel_rfl) (by kernel_rfl) rfl hS0 (fun W' hS => by go_simp) rfl ?_
          refine hd_take 1 (v := .pointer (some ⟨bx, 0, none⟩)) rfl (by kernel_rfl) (by kernel_rfl) (by kernel_rfl) rfl hS0 (fun W' hS => by go_simp) rfl ?_
          refine hd_take 3 (v := .map (some (s + 1 + 1 + 1))) rfl (by kernel_rfl) (by kernel_rfl) (by kernel_rfl) rfl hS0 (fun W' hS => by go_simp) rfl ?_
          refine hd_take 4 (v := .pointer (some ⟨bx, 1, none⟩)) rfl (by kernel_rfl) (by kernel_rfl) (by kernel_rfl) rfl hS0 (fun W' hS => by go_simp) rfl ?_
          refine hd_take 6 (v := .int .i64 (k : Int)) rfl (by kernel_rfl) (by kernel_rfl) (by kernel_rfl) rfl hS0 (fun W' hS => by go_simp) rfl ?_
          refine hd_take 7 (v := .int .i64 (k : Int)) rfl (by kernel_rfl) (by kernel_rfl) (by kernel_rfl) rfl hS0 (fun W' hS => by go_simp) rfl ?_
          simp only [Act.put, List.setIfInBounds_toArray, List.set_cons_zero, List.set_cons_succ]
          refine hd_take 2 (v := .string ⟨e.name.toArray⟩) rfl (by kernel_rfl) (by kernel_rfl) (by kernel_rfl) rfl hS0 (fun W' hS => by obtain ⟨h0, h1⟩ := hS; go_simp) rfl ?_
          refine hd_take 5 (v := .string ⟨e.com.toArray⟩) rfl (by kernel_rfl) (by kernel_rfl) (by kernel_rfl) rfl hS0 (fun W' hS => by obtain ⟨h0, h1⟩ := hS; go_simp) rfl ?_
          simp only [Act.put, List.setIfInBounds_toArray, List.set_cons_zero, List.set_cons_succ]
          refine hd_one 8 (by kernel_rfl) rfl (by kernel_rfl) rfl (fun K' hK => ?_)
          refine wp_putI (.tmp 57) (.tmp 59) (.tmp 63) rfl (s + 1 + 1) k fp (by kernel_rfl) (HMP6.out.fr hh0 (by simp)) (by omega) e.name k (by kernel_rfl) (by kernel_rfl) (by omega) hs1 ?_
          intro w7 hm7 hf7
          have hh1 : Fr [s + 1 + 1] w6 w7 := (hh0.mono (by simp)).trans hf7 (by simp)
          have hS1 : w7.cell? ⟨bx, 0, none⟩ = some (.string ⟨e.name.toArray⟩) ∧ w7.cell? ⟨bx, 1, none⟩ = some (.string ⟨e.com.toArray⟩) := ⟨hh1.cell hc0 (by simp; omega), hh1.cell hc1 (by simp; omega)⟩
          refine hK.out _ _ (fun _ => hS1) ?_
          clear hK K'
          try simp only [Act.put]
          refine hd_one 9 (by kernel_rfl) rfl (by kernel_rfl) rfl (fun K' hK => ?_)
          refine wp_putI (.tmp 60) (.tmp 62) (.tmp 64) rfl (s + 1 + 1 + 1) k fq (by kernel_rfl) (HMQ6.out.fr hh1 (by simp)) (by omega) e.com k (by kernel_rfl) (by kernel_rfl) (by omega) hs2 ?_
          intro w8 hm8 hf8
          have hh8 : Fr [s + 1 + 1, s + 1 + 1 + 1] w6 w8 := (hh1.mono (by simp)).trans hf8 (by simp)
          refine hK.out _ _ (fun h => absurd rfl h) ?_
          clear hK K'
          refine held_done (by kernel_rfl) ?_
          have HINV : Hid (InvC w w8 l g n s (k + 1) p6 (stepR R k (fp e.name) (fq e.com)) (putI fp e.name k) (putI fq e.com k)) := Lib.hid
            ⟨HL6.out.fr hh8 (by simp; try omega) (by simp; try omega) (by simp; try omega), HU6.out, sound_step HI.out.so HI.out.lp HI.out.lq HE.out, compl_step HI.out.co HI.out.lp HI.out.lq HE.out,
              hm7.fr hf8 (by simp), last_put HI.out.lp HE.out, hm8, last_put HI.out.lq HE.out, HF6.out.trans hh8 (fun y hy => by simp at hy; omega)⟩
          clear hm7 hm8 hf7 hf8 hh8 hh1 hh0 hS0 hS1 hc0 hc1
          go_wp2_with fail
          go_roundg (n + 1 - (k + 1))
          case measure => have := HGH.out; omega
          case rel => exact ⟨k + 1, _, _, _, _, by omega, rfl, by go_num, HINV.out⟩
        | some j =>
          rw [hfq] at hlk
          simp only [Option.getD_some, Option.isSome_some] at hlk
          have hj := (last_lnk HI.out.lp HI.out.lq HE.out).2 j hfq
          have hjk := hj.1
          clear hj
          go_wp2_with fail
          refine (unite_any s (s + 1) g n (k + 1) k j _ _ w5 (Nat.lt_succ_self _) (by omega) HL5.out HU5.out).mono ?_
          rintro e6 w6 ⟨rfl, p6, hl6, hu6, hf6⟩
          have HL6 := Lib.hid hl6
          have HU6 : Hid (UF (k + 1) p6 (stepR R k (fp e.name) (fq e.com))) := Lib.hid (by rw [hfq]; exact hu6)
          have HMP6 := Lib.hid (HMP5.out.fr hf6 (by simp; omega))
          have HMQ6 := Lib.hid (HMQ5.out.fr hf6 (by simp; omega))
          have HF6 : Hid (Fr [] w w6) := Lib.hid (HF5.out.trans hf6 (by simp; omega))
          have m6' := hf6.cell m6 (by simp; omega)
          have m7' := hf6.cell m7 (by simp; omega)
          clear m6 m7 hl6 hu6 hf6 hlk hfq
          have m6 := m6'
          have m7 := m7'
          clear m6' m7'
          go_wp2_with fail
          generalize hbx : wr.heap.size = bx at m6 m7 ⊢
          have hbn : bx ≠ s + 1 + 1 ∧ bx ≠ s + 1 + 1 + 1 := by have := HI.out.mp.lt; have := HI.out.mq.lt; omega
          clear hbx
          have hc0 := m6
          have hc1 := m7
          have hh0 : Fr [] w6 w6.drew := (Fr.refl [] w6).drew
          have hS0 : w6.drew.cell? ⟨bx, 0, none⟩ = some (.string ⟨e.name.toArray⟩) ∧ w6.drew.cell? ⟨bx, 1, none⟩ = some (.string ⟨e.com.toArray⟩) := ⟨hh0.cell hc0 (by simp), hh0.cell hc1 (by simp)⟩
          refine region_held 9 (fun W' => W'.cell? ⟨bx, 0, none⟩ = some (.string ⟨e.name.toArray⟩) ∧ W'.cell? ⟨bx, 1, none⟩ = some (.string ⟨e.com.toArray⟩)) hmx ?_
          change Held _ _ _ _ _ _ 10 (Array.replicate 10 false) _ _
          refine hd_take 0 (v := .map (some (s + 1 + 1))) rfl (by kernel_rfl) (by kernel_rfl) (by kernel_rfl) rfl hS0 (fun W' hS => by go_simp) rfl ?_
          refine hd_take 1 (v := .pointer (some ⟨bx, 0, none⟩)) rfl (by kernel_rfl) (by kernel_rfl) (by kernel_rfl) rfl hS0 (fun W' hS => by go_simp) rfl ?_
          refine hd_take 3 (v := .map (some (s + 1 + 1 + 1))) rfl (by kernel_rfl) (by kernel_rfl) (by kernel_rfl) rfl hS0 (fun W' hS => by go_simp) rfl ?_
          refine hd_take 4 (v := .pointer (some ⟨bx, 1, none⟩)) rfl (by kernel_rfl) (by kernel_rfl) (by kernel_rfl) rfl hS0 (fun W' hS => by go_simp) rfl ?_
          refine hd_take 6 (v := .int .i64 (k : Int)) rfl (by kernel_rfl) (by kernel_rfl) (by kernel_rfl) rfl hS0 (fun W' hS => by go_simp) rfl ?_
          refine hd_take 7 (v := .int .i64 (k : Int)) rfl (by kernel_rfl) (by kernel_rfl) (by kernel_rfl) rfl hS0 (fun W' hS => by go_simp) rfl ?_
          simp only [Act.put, List.setIfInBounds_toArray, List.set_cons_zero, List.set_cons_succ]
          refine hd_take 2 (v := .string ⟨e.name.toArray⟩) rfl (by kernel_rfl) (by kernel_rfl) (by kernel_rfl) rfl hS0 (fun W' hS => by obtain ⟨h0, h1⟩ := hS; go_simp) rfl ?_
          refine hd_take 5 (v := .string ⟨e.com.toArray⟩) rfl (by kernel_rfl) (by kernel_rfl) (by kernel_rfl) rfl hS0 (fun W' hS => by obtain ⟨h0, h1⟩ := hS; go_simp) rfl ?_
          simp only [Act.put, List.setIfInBounds_toArray, List.set_cons_zero, List.set_cons_succ]
          refine hd_one 8 (by kernel_rfl) rfl (by kernel_rfl) rfl (fun K' hK => ?_)
          refine wp_putI (.tmp 57) (.tmp 59) (.tmp 63) rfl (s + 1 + 1) k fp (by kernel_rfl) (HMP6.out.fr hh0 (by simp)) (by omega) e.name k (by kernel_rfl) (by kernel_rfl) (by omega) hs1 ?_
          intro w7 hm7 hf7
          have hh1 : Fr [s + 1 + 1] w6 w7 := (hh0.mono (by simp)).trans hf7 (by simp)
          have hS1 : w7.cell? ⟨bx, 0, none⟩ = some (.string ⟨e.name.toArray⟩) ∧ w7.cell? ⟨bx, 1, none⟩ = some (.string ⟨e.com.toArray⟩) := ⟨hh1.cell hc0 (by simp; omega), hh1.cell hc1 (by simp; omega)⟩
          refine hK.out _ _ (fun _ => hS1) ?_
          clear hK K'
          try simp only [Act.put]
          refine hd_one 9 (by kernel_rfl) rfl (by kernel_rfl) rfl (fun K' hK => ?_)
          refine wp_putI (.tmp 60) (.tmp 62) (.tmp 64) rfl (s + 1 + 1 + 1) k fq (by kernel_rfl) (HMQ6.out.fr hh1 (by simp)) (by omega) e.com k (by kernel_rfl) (by kernel_rfl) (by omega) hs2 ?_
          intro w8 hm8 hf8
          have hh8 : Fr [s + 1 + 1, s + 1 + 1 + 1] w6 w8 := (hh1.mono (by simp)).trans hf8 (by simp)
          refine hK.out _ _ (fun h => absurd rfl h) ?_
          clear hK K'
          refine held_done (by kernel_rfl) ?_
          have HINV : Hid (InvC w w8 l g n s (k + 1) p6 (stepR R k (fp e.name) (fq e.com)) (putI fp e.name k) (putI fq e.com k)) := Lib.hid
            ⟨HL6.out.fr hh8 (by simp; try omega) (by simp; try omega) (by simp; try omega), HU6.out, sound_step HI.out.so HI.out.lp HI.out.lq HE.out, compl_step HI.out.co HI.out.lp HI.out.lq HE.out,
              hm7.fr hf8 (by simp), last_put HI.out.lp HE.out, hm8, last_put HI.out.lq HE.out, HF6.out.trans hh8 (fun y hy => by simp at hy; omega)⟩
          clear hm7 hm8 hf7 hf8 hh8 hh1 hh0 hS0 hS1 hc0 hc1
          go_wp2_with fail
          go_roundg (n + 1 - (k + 1))
          case measure => have := HGH.out; omega
          case rel => exact ⟨k + 1, _, _, _, _, by omega, rfl, by go_num, HINV.out⟩
    · obtain rfl : n = k := by omega
      have t1 : decide ((n : Int) < (n : Int)) = false := by simp
      have hfr := HI.out.fr
      have HLA := Lib.hid HI.out.lay
      have HUA := Lib.hid HI.out.uf
      have hb := cell_of_one HI.out.lay.o
      go_wp2_with fail
      clear hb
      go_loopg [68] (n + 1) (fun gh i wr => ∃ (j : Nat) (q : List Nat), j ≤ n ∧ gh = n + 1 - j ∧ i = .int .i64 (j : Int) ∧ Lay wr s (s + 1) g n q ∧ UF n q R ∧ (∀ i, i < j → q.getD i 0 = R i) ∧ Fr [] w wr)
      case atStart => exact ⟨0, p, by omega, by omega, rfl, HLA.out, HUA.out, fun i hi => absurd hi (Nat.not_lt_zero _), hfr⟩
      case round =>
        clear HLA HUA hfr
        obtain ⟨j, q, hj, hgh, rfl, hlay, huf, hdone, hfr⟩ := hrel
        have HGH := Lib.hid hgh
        have HL := Lib.hid hlay
        have HU := Lib.hid huf
        have HD := Lib.hid hdone
        clear hgh hlay huf hdone
        have d1 := cell_of_one HL.out.o
        have d2 := cell_of_one HL.out.h
        unfold headV at d2
        by_cases hlt : j < n
        · have t2 : decide ((j : Int) < (n : Int)) = true := by simp; omega
          have hen := enters_head
          go_wp2_with fail
          have hc0 := d1
          have hc1 := d2
          have hh0 : Fr [] wr wr.drew := (Fr.refl [] wr).drew
          have hS0 : wr.drew.cell? ⟨s, 0, none⟩ = some (.slice (some ⟨g, 0, none⟩) n n) ∧ wr.drew.cell? ⟨s + 1, 0, none⟩ = some (.func (.func 87) #[] #[.pointer (some ⟨s, 0, none⟩), .pointer (some ⟨s + 1, 0, none⟩)]) := ⟨hh0.cell hc0 (by simp), hh0.cell hc1 (by simp)⟩
          refine region_held 6 (fun W' => W'.cell? ⟨s, 0, none⟩ = some (.slice (some ⟨g, 0, none⟩) n n) ∧ W'.cell? ⟨s + 1, 0, none⟩ = some (.func (.func 87) #[] #[.pointer (some ⟨s, 0, none⟩), .pointer (some ⟨s + 1, 0, none⟩)])) hmx ?_
          change Held _ _ _ _ _ _ 7 (Array.replicate 7 false) _ _
          refine hd_take 0 (v := .slice (some ⟨g, 0, none⟩) n n) rfl (by kernel_rfl) (by kernel_rfl) (by kernel_rfl) rfl hS0 (fun W' hS => by obtain ⟨h0, h1⟩ := hS; go_simp) rfl ?_
          refine hd_take 1 (v := .int .i64 (j : Int)) rfl (by kernel_rfl) (by kernel_rfl) (by kernel_rfl) rfl hS0 (fun W' hS => by go_simp) rfl ?_
          refine hd_take 2 (v := .func (.func 87) #[] #[.pointer (some ⟨s, 0, none⟩), .pointer (some ⟨s + 1, 0, none⟩)]) rfl (by kernel_rfl) (by kernel_rfl) (by kernel_rfl) rfl hS0 (fun W' hS => by obtain ⟨h0, h1⟩ := hS; go_simp) rfl ?_
          refine hd_take 3 (v := .int .i64 (j : Int)) rfl (by kernel_rfl) (by kernel_rfl) (by kernel_rfl) rfl hS0 (fun W' hS => by go_simp) rfl ?_
          simp only [Act.put, List.setIfInBounds_toArray, List.set_cons_zero, List.set_cons_succ]
          refine hd_one 4 (by kernel_rfl) rfl (by kernel_rfl) rfl (fun K' hK => ?_)
          go_simp
          refine (head_any s (s + 1) g n n R (j + 1) j q _ (Nat.lt_succ_self _) hlt (HL.out.fr hh0 (by simp) (by simp) (by simp)) HU.out).mono ?_
          rintro e wq1 ⟨rfl, q', hl5, hsh5, hx5, _, hf5⟩
          have e1 := cell_of_one hl5.o
          have e2 := cell_of_one hl5.h
          unfold headV at e2
          have hS1 : wq1.cell? ⟨s, 0, none⟩ = some (.slice (some ⟨g, 0, none⟩) n n) ∧ wq1.cell? ⟨s + 1, 0, none⟩ = some (.func (.func 87) #[] #[.pointer (some ⟨s, 0, none⟩), .pointer (some ⟨s + 1, 0, none⟩)]) := ⟨e1, e2⟩
          refine hK.out _ _ (fun _ => hS1) ?_
          clear hK K'
          try simp only [Act.put, List.setIfInBounds_toArray, List.set_cons_zero, List.set_cons_succ]
          refine hd_take 5 (v := .pointer (some ⟨g, j, none⟩)) rfl (by kernel_rfl) (by kernel_rfl) (by kernel_rfl) rfl hS1 (fun W' hS => by first | (go_simp; done) | (go_simp; intro hix; omega)) rfl ?_
          simp only [Act.put, List.setIfInBounds_toArray, List.set_cons_zero, List.set_cons_succ]
          have e3 := hl5.a.cell j (by rw [hl5.len]; exact hlt)
          have e4 := row_free hl5.a j
          refine hd_one 6 (by kernel_rfl) rfl (by kernel_rfl) rfl (fun K' hK => ?_)
          go_simp
          refine hK.out _ _ (fun h => absurd rfl h) ?_
          clear hK K'
          refine held_done (by kernel_rfl) ?_
          have hq' : j < q'.length := by rw [hl5.len]; exact hlt
          have HL6 := Lib.hid (hl5.set j (R j))
          have HU6 := Lib.hid (HU.out.shrt (hsh5.trans (Shrt.set hq')))
          have HD6 : Hid (∀ i, i < j + 1 → (q'.set j (R j)).getD i 0 = R i) := Lib.hid (fun i hi => by
            rw [getD_set _ _ _ _ hq']
            by_cases h : i = j
            · rw [if_pos h, h]
            · rw [if_neg h]
              rcases hsh5.2 i (by omega) with h1 | h1
              · rw [h1]; exact HD.out i (by omega)
              · exact h1)
          have HF6 : Hid (Fr [] w (wq1.setCell ⟨g, j, none⟩ (.int .i64 (R j : Nat)))) := Lib.hid
            ((hfr.trans (((Fr.refl [g] wr).drew.trans hf5 (by simp)).setCell ⟨g, j, none⟩ (.int .i64 (R j : Nat)) (by simp)) (by simp; omega)))
          clear e1 e2 e3 e4 hS0 hS1 hl5 hsh5 hx5 hf5 hc0 hc1 hh0 hq'
          go_wp2_with fail
          go_roundg (n + 1 - (j + 1))
          case measure => have := HGH.out; omega
          case rel => exact ⟨j + 1, _, by omega, rfl, by go_num, HL6.out, HU6.out, HD6.out, HF6.out⟩
        · obtain rfl : n = j := by omega
          have t2 : decide ((n : Int) < (n : Int)) = false := by simp
          have HCLS : Hid (Cls l q) := Lib.hid (cls_of_uf (by rw [HL.out.len, HN.out]) (by rw [← HN.out]; exact HI.out.so) (by rw [← HN.out]; exact HI.out.co) (by rw [← HN.out]; exact HI.out.uf.rle) (by rw [← HN.out]; exact HD.out))
          go_wp2_with fail
          go_ret
          exact ⟨g, q, rfl, hws, HL.out.a, HCLS.out, hfr.toBelow (by simp)⟩
end Go.Proofs.YtjddngbgbbbefaaGreatDoor
