/-
  reveal.Check.
-/
import Derived.Test.YtmhejcndkplepaaDoorRvF
import Derived.Test.YtmhejcndkplepaaDoorRound
import Derived.WalkMore
namespace Go.Proofs.YtmhejcndkplepaaDoor
open Go.RowKit

/-- One field of a disclosure is right. -/
def stepB (root : List UInt8) (d : Disc) (k : Nat) : Bool :=
  match d.paths.getD k [] with
  | [] => false
  | x :: p => isD x && chkB root d.count (d.which.getD k 0) (x ++ d.fields.getD k []) p
def chkD (root : List UInt8) (d : Disc) : Bool :=
  incB (-1) d.which d.count && decide (d.fields.length = d.which.length) && decide (d.paths.length = d.which.length) && (List.range d.which.length).all (stepB root d)
/-- The texts of a disclosure are short. -/
structure DSmall (d : Disc) : Prop where
  n : -9223372036854775808 ≤ d.count ∧ d.count < 9223372036854775808
  f : ∀ s ∈ d.fields, s.length ≤ 100000
  p : ∀ l ∈ d.paths, ∀ s ∈ l, s.length ≤ 100000
theorem all_false {n k : Nat} {f : Nat → Bool} (hk : k < n) (h : f k = false) : (List.range n).all f = false := by
  rw [List.all_eq_false]
  exact ⟨k, List.mem_range.2 hk, by rw [h]; decide⟩
theorem all_done {n : Nat} {f : Nat → Bool} (h : ∀ k, k < n → f k = true) : (List.range n).all f = true := by
  rw [List.all_eq_true]
  exact fun k hk => h k (List.mem_range.1 hk)

set_option maxRecDepth 100000 in
set_option maxHeartbeats 4000000 in
theorem checkD_any (root : List UInt8) (v : Value) (d : Disc) (w : World) (hv : DiscR w v d) (hd : DSmall d) (hT : Tabs w) :
    Calls Tryd.prog 24 #[.string ⟨root.toArray⟩, v] w fun e w' => e = .returned (.bool (chkD root d)) ∧ Below w.heap.size w w' := by
  have hmx : Tryd.prog.follows .mixedOrders = true := by kernel_rfl
  obtain ⟨wv, fv, pv, rfl, hw, hf, hp⟩ := hv
  obtain ⟨wa, wcap, rfl, hwl, hwc, hwa⟩ := hw.form
  obtain ⟨fa, fcap, rfl, hfl, hfa⟩ := hf.form
  obtain ⟨pa, pcap, rfl, hpl, hpc, hpa⟩ := hp.form
  have HW := Lib.hid hw
  have HF := Lib.hid hf
  have HP := Lib.hid hp
  have HD := Lib.hid hd
  have HT := Lib.hid hT
  have HN := Lib.hid hd.n
  clear hw hf hp hd hT
  obtain ⟨r, er⟩ : ∃ r, r = chkD root d := ⟨_, rfl⟩
  have HR := Lib.hid er
  have HCD : Hid (chkD root d = (incB (-1) d.which d.count && decide (d.fields.length = d.which.length) && decide (d.paths.length = d.which.length) && (List.range d.which.length).all (stepB root d))) := Lib.hid rfl
  clear er
  go_enter Tryd.func24, Tryd.ntmps24
  have hb0 : (w.alloc (.cells #[.int .i64 d.count, .slice wa d.which.length wcap, .slice fa d.fields.length fcap, .slice pa d.paths.length pcap] 26)).heap[w.heap.size]? = some (.cells #[.int .i64 d.count, .slice wa d.which.length wcap, .slice fa d.fields.length fcap, .slice pa d.paths.length pcap] 26 (0, 0)) := heap_new rfl
  have hf0 : Fr [] w (w.alloc (.cells #[.int .i64 d.count, .slice wa d.which.length wcap, .slice fa d.fields.length fcap, .slice pa d.paths.length pcap] 26)) := (Fr.refl [] w).alloc _
  go_wp2_with fail
  generalize w.alloc (.cells #[.int .i64 d.count, .slice wa d.which.length wcap, .slice fa d.fields.length fcap, .slice pa d.paths.length pcap] 26) = w0 at hb0 hf0 ⊢
  obtain ⟨db, edb⟩ : ∃ db, db = w.heap.size := ⟨_, rfl⟩
  rw [← edb] at hb0 ⊢
  have EDB := Lib.hid edb
  have HB0 := Lib.hid hb0
  clear edb
  have c0 : w0.cell? ⟨db, 0, none⟩ = some (.int .i64 d.count) := by rw [row_cell hb0 0]; rfl
  have c1 : w0.cell? ⟨db, 1, none⟩ = some (.slice wa d.which.length wcap) := by rw [row_cell hb0 1]; rfl
  have c2 : w0.cell? ⟨db, 2, none⟩ = some (.slice fa d.fields.length fcap) := by rw [row_cell hb0 2]; rfl
  have c3 : w0.cell? ⟨db, 3, none⟩ = some (.slice pa d.paths.length pcap) := by rw [row_cell hb0 3]; rfl
  clear hb0
  go_step3
  go_wp2_with fail
  refine (increasing_any _ d.which d.count w0 (HW.out.fr0 hf0)).mono ?_
  rintro e w1 ⟨rfl, rfl⟩
  cases hinc : incB (-1) d.which d.count with
  | false =>
    have HF2 : Hid (chkD root d = false) := Lib.hid (by rw [HCD.out, hinc]; rfl)
    clear hinc
    go_wp2_with fail
    (try rw [Exit.noGoto_ret])
    go_ret
    exact ⟨by rw [HF2.out]; rfl, hf0.toBelow (by simp)⟩
  | true => ?_
  have HIN := Lib.hid (incB_in hinc (by decide))
  rw [hinc, Bool.true_and] at HCD
  clear hinc
  by_cases h1 : d.fields.length = d.which.length
  case neg =>
    have t1 : ((d.fields.length : Int) == (d.which.length : Int)) = false := by rw [beq_eq_false_iff_ne]; omega
    have HF2 : Hid (chkD root d = false) := Lib.hid (by rw [HCD.out, decide_eq_false h1]; rfl)
    go_wp2_with fail
    (try rw [Exit.noGoto_ret])
    go_ret
    exact ⟨by rw [HF2.out]; rfl, hf0.toBelow (by simp)⟩
  have t1 : ((d.fields.length : Int) == (d.which.length : Int)) = true := by rw [beq_iff_eq]; omega
  by_cases h2 : d.paths.length = d.which.length
  case neg =>
    have t2 : ((d.paths.length : Int) == (d.which.length : Int)) = false := by rw [beq_eq_false_iff_ne]; omega
    have HF2 : Hid (chkD root d = false) := Lib.hid (by rw [HCD.out, decide_eq_false h2, Bool.and_false]; rfl)
    go_wp2_with fail
    (try rw [Exit.noGoto_ret])
    go_ret
    exact ⟨by rw [HF2.out]; rfl, hf0.toBelow (by simp)⟩
  have t2 : ((d.paths.length : Int) == (d.which.length : Int)) = true := by rw [beq_iff_eq]; omega
  rw [decide_eq_true h1, decide_eq_true h2, Bool.true_and, Bool.true_and] at HCD
  go_wp2_with fail
  go_step3
  go_wp2_with fail
  go_loopg [5, 37] (d.which.length + 1) (fun g ok iv wr => ∃ k : Nat, k ≤ d.which.length ∧ g = d.which.length + 1 - k ∧ iv = .int .i64 (k : Int) ∧ ok = .bool true ∧ (∀ j, j < k → stepB root d j = true) ∧ Fr [] w0 wr)
  case atStart => exact ⟨0, by omega, by omega, rfl, rfl, fun j hj => absurd hj (Nat.not_lt_zero _), Fr.refl _ _⟩
  case round =>
    obtain ⟨k, hk, hg, rfl, rfl, hst, hfr⟩ := hrel
    have HG := Lib.hid hg
    have HST := Lib.hid hst
    clear hg hst t1 t2 c0 c1 c2 c3
    by_cases hlt : k < d.which.length
    · have t1 : decide ((k : Int) < (d.which.length : Int)) = true := by simp; omega
      have hbr := hfr.at HB0.out (by simp)
      have c0 : wr.cell? ⟨db, 0, none⟩ = some (.int .i64 d.count) := by rw [row_cell hbr 0]; rfl
      have c2 : wr.cell? ⟨db, 2, none⟩ = some (.slice fa d.which.length fcap) := by rw [row_cell hbr 2, ← h1]; rfl
      have c3 : wr.cell? ⟨db, 3, none⟩ = some (.slice pa d.paths.length pcap) := by rw [row_cell hbr 3]; rfl
      obtain ⟨wb, wo, rfl⟩ := hwa k hlt
      obtain ⟨fb, fo, rfl⟩ := hfa k (by omega)
      obtain ⟨pb, po, rfl⟩ := hpa k (by omega)
      have cw := hfr.cell ((HW.out.fr0 hf0).cell k hlt) (by simp)
      have cf := hfr.cell ((HF.out.fr0 hf0).cell k (by omega)) (by simp)
      obtain ⟨u, cu0, hus⟩ := (HP.out.fr0 hf0).cell k (by omega)
      have cu := hfr.cell cu0 (by simp)
      have hu := hus.fr0 hfr
      have hz := HIN.out _ (getD_mem d.which k 0 hlt)
      have hn9 := HN.out
      have hfsm := HD.out.f _ (getD_mem d.fields k [] (by omega))
      have hpsm := HD.out.p _ (getD_mem d.paths k [] (by omega))
      have HSB : Hid (∀ (x : List UInt8) (p : List (List UInt8)), d.paths.getD k [] = x :: p → stepB root d k = (isD x && chkB root d.count (d.which.getD k 0) (x ++ d.fields.getD k []) p)) := Lib.hid (fun x p h => by unfold stepB; rw [h])
      have HSN : Hid (d.paths.getD k [] = [] → stepB root d k = false) := Lib.hid (fun h => by unfold stepB; rw [h])
      generalize d.which.getD k 0 = z at cw hz HSB
      generalize d.fields.getD k [] = f at cf hfsm HSB
      generalize d.paths.getD k [] = pp at hu hpsm HSB HSN hus
      have g0 : (0 : Int) ≤ (k : Int) := by omega
      have g1 : (k : Int) < (d.which.length : Int) := by omega
      have g2 : (k : Int) < (d.fields.length : Int) := by omega
      have g3 : (k : Int) < (d.paths.length : Int) := by omega
      clear hbr cu0 hus
      obtain ⟨ua, ucap, rfl, _, hua⟩ := hu.form
      have hua0 := hua
      clear t1 g3 hua
      rcases pp with _ | ⟨x, q⟩
      · have HF2 : Hid (chkD root d = false) := Lib.hid (by rw [HCD.out]; exact all_false hlt (HSN.out rfl))
        rw [List.length_nil] at cu
        clear hu hpsm HSB HSN
        go_wp2_with fail
        have hh0 : Fr [] wr wr.drew := (Fr.refl [] wr).drew
        have hS0 : True := trivial
        refine region_held 27 (fun W' => True) hmx ?_
        change Held _ _ _ _ _ _ 28 (Array.replicate 28 false) _ _
        refine hd_take 0 (v := .slice ua 0 ucap) rfl (by kernel_rfl) (by kernel_rfl) (by kernel_rfl) rfl hS0 (fun W' hS => by go_simp) rfl ?_
        simp only [Act.put, List.setIfInBounds_toArray, List.set_cons_zero, List.set_cons_succ]
        refine hd_take 1 (v := .int .i64 0) rfl (by kernel_rfl) (by kernel_rfl) (by kernel_rfl) rfl hS0 (fun W' hS => by go_simp) rfl ?_
        simp only [Act.put, List.setIfInBounds_toArray, List.set_cons_zero, List.set_cons_succ]
        refine hd_take 2 (v := .bool false) rfl (by kernel_rfl) (by kernel_rfl) (by kernel_rfl) rfl hS0 (fun W' hS => by go_simp) rfl ?_
        simp only [Act.put, List.setIfInBounds_toArray, List.set_cons_zero, List.set_cons_succ]
        refine hd_take 3 (v := .bool false) rfl (by kernel_rfl) (by kernel_rfl) (by kernel_rfl) rfl hS0 (fun W' hS => by go_simp) rfl ?_
        simp only [Act.put, List.setIfInBounds_toArray, List.set_cons_zero, List.set_cons_succ]
        refine hd_skip 4 rfl (by kernel_rfl) (by kernel_rfl) (by kernel_rfl) rfl hS0 rfl ?_
        simp only [Act.put, List.setIfInBounds_toArray, List.set_cons_zero, List.set_cons_succ]
        refine hd_skip 5 rfl (by kernel_rfl) (by kernel_rfl) (by kernel_rfl) rfl hS0 rfl ?_
        simp only [Act.put, List.setIfInBounds_toArray, List.set_cons_zero, List.set_cons_succ]
        refine hd_skip 6 rfl (by kernel_rfl) (by kernel_rfl) (by kernel_rfl) rfl hS0 rfl ?_
        simp only [Act.put, List.setIfInBounds_toArray, List.set_cons_zero, List.set_cons_succ]
        refine hd_skip 7 rfl (by kernel_rfl) (by kernel_rfl) (by kernel_rfl) rfl hS0 rfl ?_
        simp only [Act.put, List.setIfInBounds_toArray, List.set_cons_zero, List.set_cons_succ]
        refine hd_take 8 (v := .bool false) rfl (by kernel_rfl) (by kernel_rfl) (by kernel_rfl) rfl hS0 (fun W' hS => by go_simp) rfl ?_
        simp only [Act.put, List.setIfInBounds_toArray, List.set_cons_zero, List.set_cons_succ]
        refine hd_take 9 (v := .bool false) rfl (by kernel_rfl) (by kernel_rfl) (by kernel_rfl) rfl hS0 (fun W' hS => by go_simp) rfl ?_
        simp only [Act.put, List.setIfInBounds_toArray, List.set_cons_zero, List.set_cons_succ]
        refine hd_skip 10 rfl (by kernel_rfl) (by kernel_rfl) (by kernel_rfl) rfl hS0 rfl ?_
        refine hd_skip 11 rfl (by kernel_rfl) (by kernel_rfl) (by kernel_rfl) rfl hS0 rfl ?_
        refine hd_skip 13 rfl (by kernel_rfl) (by kernel_rfl) (by kernel_rfl) rfl hS0 rfl ?_
        refine hd_skip 14 rfl (by kernel_rfl) (by kernel_rfl) (by kernel_rfl) rfl hS0 rfl ?_
        refine hd_skip 17 rfl (by kernel_rfl) (by kernel_rfl) (by kernel_rfl) rfl hS0 rfl ?_
        refine hd_skip 19 rfl (by kernel_rfl) (by kernel_rfl) (by kernel_rfl) rfl hS0 rfl ?_
        refine hd_skip 23 rfl (by kernel_rfl) (by kernel_rfl) (by kernel_rfl) rfl hS0 rfl ?_
        simp only [Act.put, List.setIfInBounds_toArray, List.set_cons_zero, List.set_cons_succ]
        refine hd_skip 12 rfl (by kernel_rfl) (by kernel_rfl) (by kernel_rfl) rfl hS0 rfl ?_
        refine hd_skip 15 rfl (by kernel_rfl) (by kernel_rfl) (by kernel_rfl) rfl hS0 rfl ?_
        refine hd_skip 18 rfl (by kernel_rfl) (by kernel_rfl) (by kernel_rfl) rfl hS0 rfl ?_
        refine hd_skip 24 rfl (by kernel_rfl) (by kernel_rfl) (by kernel_rfl) rfl hS0 rfl ?_
        simp only [Act.put, List.setIfInBounds_toArray, List.set_cons_zero, List.set_cons_succ]
        refine hd_skip 16 rfl (by kernel_rfl) (by kernel_rfl) (by kernel_rfl) rfl hS0 rfl ?_
        refine hd_skip 20 rfl (by kernel_rfl) (by kernel_rfl) (by kernel_rfl) rfl hS0 rfl ?_
        simp only [Act.put, List.setIfInBounds_toArray, List.set_cons_zero, List.set_cons_succ]
        refine hd_skip 21 rfl (by kernel_rfl) (by kernel_rfl) (by kernel_rfl) rfl hS0 rfl ?_
        simp only [Act.put, List.setIfInBounds_toArray, List.set_cons_zero, List.set_cons_succ]
        refine hd_skip 22 rfl (by kernel_rfl) (by kernel_rfl) (by kernel_rfl) rfl hS0 rfl ?_
        simp only [Act.put, List.setIfInBounds_toArray, List.set_cons_zero, List.set_cons_succ]
        refine hd_skip 25 rfl (by kernel_rfl) (by kernel_rfl) (by kernel_rfl) rfl hS0 rfl ?_
        simp only [Act.put, List.setIfInBounds_toArray, List.set_cons_zero, List.set_cons_succ]
        refine hd_take 26 (v := .bool false) rfl (by kernel_rfl) (by kernel_rfl) (by kernel_rfl) rfl hS0 (fun W' hS => by go_simp) rfl ?_
        simp only [Act.put, List.setIfInBounds_toArray, List.set_cons_zero, List.set_cons_succ]
        refine hd_one 27 (by kernel_rfl) rfl (by kernel_rfl) rfl (fun K' hK => ?_)
        go_simp
        refine hK.out _ _ (fun h => absurd rfl h) ?_
        clear hK K'
        refine held_done (by kernel_rfl) ?_
        have HH : Fr [] wr wr.drew := hh0
        generalize wr.drew = wl at HH ⊢
        go_wp2_with fail
        (try rw [Exit.noGoto_ret])
        go_ret
        exact ⟨by rw [HF2.out]; rfl, ((hf0.trans hfr (by simp)).trans HH (by simp)).toBelow (by simp)⟩
      · obtain ⟨ub, uo, rfl⟩ := hua0 0 (by simp)
        have c5 := hu.cell 0 (by simp)
        rw [Nat.add_zero, show (x :: q).getD 0 [] = x from rfl] at c5
        have hcap := hu.capOf
        have HUB : Hid (ub < wr.heap.size) := Lib.hid (hu.blk ub rfl)
        have HQ0 := Lib.hid (hu.tl (by simp))
        have hx := hpsm x (by simp)
        have HQS : Hid (∀ s ∈ q, s.length ≤ 1000000) := Lib.hid (fun s hs => by have := hpsm s (by simp [hs]); omega)
        have HSB2 := Lib.hid (HSB.out x q rfl)
        have hql : (x :: q).length = q.length + 1 := rfl
        rw [hql] at cu HQ0 hcap
        obtain ⟨bx, ebx⟩ : ∃ b, b = isD x := ⟨_, rfl⟩
        obtain ⟨cb, ecb⟩ : ∃ b, b = chkB root d.count z (x ++ f) q := ⟨_, rfl⟩
        have ECB := Lib.hid ecb
        have EX0 := Lib.hid ebx
        clear hu hpsm HSB HSN hql ebx ecb
        by_cases hq1 : ucap = 1
        · subst hq1
          obtain rfl : q = [] := List.length_eq_zero_iff.1 (by omega)
          rw [List.length_nil, Nat.zero_add] at cu
          have HQ : Hid (Strs wr (.slice (some ⟨ub, uo, none⟩) 0 0) []) := Lib.hid (Or.inr ⟨ub, uo, 0, rfl, by simp, by decide, HUB.out, fun i hi => absurd hi (by simp)⟩)
          clear HQ0 hcap
          cases bx with
          | false =>
            have EX : Hid (isD x = false) := Lib.hid EX0.out.symm
            have HF2 : Hid (chkD root d = false) := Lib.hid (by rw [HCD.out]; exact all_false hlt (by rw [HSB2.out, EX.out]; rfl))
            go_wp2_with fail
            have hc0 := c5
            have hh0 : Fr [] wr wr.drew := (Fr.refl [] wr).drew
            have hS0 : wr.drew.cell? ⟨ub, uo, none⟩ = some (.string ⟨x.toArray⟩) := hh0.cell hc0 (by simp)
            refine region_held 27 (fun W' => W'.cell? ⟨ub, uo, none⟩ = some (.string ⟨x.toArray⟩)) hmx ?_
            change Held _ _ _ _ _ _ 28 (Array.replicate 28 false) _ _
            refine hd_take 0 (v := .slice (some ⟨ub, uo, none⟩) 1 1) rfl (by kernel_rfl) (by kernel_rfl) (by kernel_rfl) rfl hS0 (fun W' hS => by go_simp) rfl ?_
            simp only [Act.put, List.setIfInBounds_toArray, List.set_cons_zero, List.set_cons_succ]
            refine hd_take 1 (v := .int .i64 1) rfl (by kernel_rfl) (by kernel_rfl) (by kernel_rfl) rfl hS0 (fun W' hS => by go_simp) rfl ?_
            simp only [Act.put, List.setIfInBounds_toArray, List.set_cons_zero, List.set_cons_succ]
            refine hd_take 2 (v := .bool true) rfl (by kernel_rfl) (by kernel_rfl) (by kernel_rfl) rfl hS0 (fun W' hS => by go_simp) rfl ?_
            simp only [Act.put, List.setIfInBounds_toArray, List.set_cons_zero, List.set_cons_succ]
            refine hd_take 3 (v := .bool true) rfl (by kernel_rfl) (by kernel_rfl) (by kernel_rfl) rfl hS0 (fun W' hS => by go_simp) rfl ?_
            simp only [Act.put, List.setIfInBounds_toArray, List.set_cons_zero, List.set_cons_succ]
            refine hd_take 4 (v := .slice (some ⟨ub, uo, none⟩) 1 1) rfl (by kernel_rfl) (by kernel_rfl) (by kernel_rfl) rfl hS0 (fun W' hS => by go_simp) rfl ?_
            simp only [Act.put, List.setIfInBounds_toArray, List.set_cons_zero, List.set_cons_succ]
            refine hd_take 5 (v := .pointer (some ⟨ub, uo, none⟩)) rfl (by kernel_rfl) (by kernel_rfl) (by kernel_rfl) rfl hS0 (fun W' hS => by first | (go_simp; done) | (go_simp; intro hix; omega)) rfl ?_
            simp only [Act.put, List.setIfInBounds_toArray, List.set_cons_zero, List.set_cons_succ]
            refine hd_take 6 (v := .string ⟨x.toArray⟩) rfl (by kernel_rfl) (by kernel_rfl) (by kernel_rfl) rfl hS0 (fun W' hS => by have h1 := hS; go_simp) rfl ?_
            simp only [Act.put, List.setIfInBounds_toArray, List.set_cons_zero, List.set_cons_succ]
            refine hd_one 7 (by kernel_rfl) rfl (by kernel_rfl) rfl (fun K' hK => ?_)
            go_simp
            refine (is_any x wr.drew (by omega)).mono ?_
            rintro e wq1 ⟨rfl, hb⟩
            rw [EX.out]
            have hh1 : Fr [] wr wq1 := hh0.below hb hh0.size
            clear hb
            have hS1 : wq1.cell? ⟨ub, uo, none⟩ = some (.string ⟨x.toArray⟩) := hh1.cell hc0 (by simp)
            refine hK.out _ _ (fun _ => hS1) ?_
            clear hK K'
            try simp only [Act.put, List.setIfInBounds_toArray, List.set_cons_zero, List.set_cons_succ]
            refine hd_take 8 (v := .bool false) rfl (by kernel_rfl) (by kernel_rfl) (by kernel_rfl) rfl hS1 (fun W' hS => by go_simp) rfl ?_
            simp only [Act.put, List.setIfInBounds_toArray, List.set_cons_zero, List.set_cons_succ]
            refine hd_take 9 (v := .bool false) rfl (by kernel_rfl) (by kernel_rfl) (by kernel_rfl) rfl hS1 (fun W' hS => by go_simp) rfl ?_
            simp only [Act.put, List.setIfInBounds_toArray, List.set_cons_zero, List.set_cons_succ]
            refine hd_skip 10 rfl (by kernel_rfl) (by kernel_rfl) (by kernel_rfl) rfl hS1 rfl ?_
            refine hd_skip 11 rfl (by kernel_rfl) (by kernel_rfl) (by kernel_rfl) rfl hS1 rfl ?_
            refine hd_skip 13 rfl (by kernel_rfl) (by kernel_rfl) (by kernel_rfl) rfl hS1 rfl ?_
            refine hd_skip 14 rfl (by kernel_rfl) (by kernel_rfl) (by kernel_rfl) rfl hS1 rfl ?_
            refine hd_skip 17 rfl (by kernel_rfl) (by kernel_rfl) (by kernel_rfl) rfl hS1 rfl ?_
            refine hd_skip 19 rfl (by kernel_rfl) (by kernel_rfl) (by kernel_rfl) rfl hS1 rfl ?_
            refine hd_skip 23 rfl (by kernel_rfl) (by kernel_rfl) (by kernel_rfl) rfl hS1 rfl ?_
            simp only [Act.put, List.setIfInBounds_toArray, List.set_cons_zero, List.set_cons_succ]
            refine hd_skip 12 rfl (by kernel_rfl) (by kernel_rfl) (by kernel_rfl) rfl hS1 rfl ?_
            refine hd_skip 15 rfl (by kernel_rfl) (by kernel_rfl) (by kernel_rfl) rfl hS1 rfl ?_
            refine hd_skip 18 rfl (by kernel_rfl) (by kernel_rfl) (by kernel_rfl) rfl hS1 rfl ?_
            refine hd_skip 24 rfl (by kernel_rfl) (by kernel_rfl) (by kernel_rfl) rfl hS1 rfl ?_
            simp only [Act.put, List.setIfInBounds_toArray, List.set_cons_zero, List.set_cons_succ]
            refine hd_skip 16 rfl (by kernel_rfl) (by kernel_rfl) (by kernel_rfl) rfl hS1 rfl ?_
            refine hd_skip 20 rfl (by kernel_rfl) (by kernel_rfl) (by kernel_rfl) rfl hS1 rfl ?_
            simp only [Act.put, List.setIfInBounds_toArray, List.set_cons_zero, List.set_cons_succ]
            refine hd_skip 21 rfl (by kernel_rfl) (by kernel_rfl) (by kernel_rfl) rfl hS1 rfl ?_
            simp only [Act.put, List.setIfInBounds_toArray, List.set_cons_zero, List.set_cons_succ]
            refine hd_skip 22 rfl (by kernel_rfl) (by kernel_rfl) (by kernel_rfl) rfl hS1 rfl ?_
            simp only [Act.put, List.setIfInBounds_toArray, List.set_cons_zero, List.set_cons_succ]
            refine hd_skip 25 rfl (by kernel_rfl) (by kernel_rfl) (by kernel_rfl) rfl hS1 rfl ?_
            simp only [Act.put, List.setIfInBounds_toArray, List.set_cons_zero, List.set_cons_succ]
            refine hd_take 26 (v := .bool false) rfl (by kernel_rfl) (by kernel_rfl) (by kernel_rfl) rfl hS1 (fun W' hS => by go_simp) rfl ?_
            simp only [Act.put, List.setIfInBounds_toArray, List.set_cons_zero, List.set_cons_succ]
            refine hd_one 27 (by kernel_rfl) rfl (by kernel_rfl) rfl (fun K' hK => ?_)
            go_simp
            refine hK.out _ _ (fun h => absurd rfl h) ?_
            clear hK K'
            refine held_done (by kernel_rfl) ?_
            have HH : Fr [] wr wq1 := hh1
            clear hS0
            go_wp2_with fail
            (try rw [Exit.noGoto_ret])
            go_ret
            exact ⟨by rw [HF2.out]; rfl, ((hf0.trans hfr (by simp)).trans HH (by simp)).toBelow (by simp)⟩
          | true =>
            have EX : Hid (isD x = true) := Lib.hid EX0.out.symm
            go_wp2_with fail
            have hc0 := c5
            have hc1 := c0
            have hc2 := c2
            have hc3 := cf
            have hh0 : Fr [] wr wr.drew := (Fr.refl [] wr).drew
            have hS0 : wr.drew.cell? ⟨ub, uo, none⟩ = some (.string ⟨x.toArray⟩) ∧ wr.drew.cell? ⟨db, 0, none⟩ = some (.int .i64 d.count) ∧ wr.drew.cell? ⟨db, 2, none⟩ = some (.slice (some ⟨fb, fo, none⟩) d.which.length fcap) ∧ wr.drew.cell? ⟨fb, fo + k, none⟩ = some (.string ⟨f.toArray⟩) := ⟨hh0.cell hc0 (by simp), hh0.cell hc1 (by simp), hh0.cell hc2 (by simp), hh0.cell hc3 (by simp)⟩
            refine region_held 27 (fun W' => W'.cell? ⟨ub, uo, none⟩ = some (.string ⟨x.toArray⟩) ∧ W'.cell? ⟨db, 0, none⟩ = some (.int .i64 d.count) ∧ W'.cell? ⟨db, 2, none⟩ = some (.slice (some ⟨fb, fo, none⟩) d.which.length fcap) ∧ W'.cell? ⟨fb, fo + k, none⟩ = some (.string ⟨f.toArray⟩)) hmx ?_
            change Held _ _ _ _ _ _ 28 (Array.replicate 28 false) _ _
            refine hd_take 0 (v := .slice (some ⟨ub, uo, none⟩) 1 1) rfl (by kernel_rfl) (by kernel_rfl) (by kernel_rfl) rfl hS0 (fun W' hS => by go_simp) rfl ?_
            simp only [Act.put, List.setIfInBounds_toArray, List.set_cons_zero, List.set_cons_succ]
            refine hd_take 1 (v := .int .i64 1) rfl (by kernel_rfl) (by kernel_rfl) (by kernel_rfl) rfl hS0 (fun W' hS => by go_simp) rfl ?_
            simp only [Act.put, List.setIfInBounds_toArray, List.set_cons_zero, List.set_cons_succ]
            refine hd_take 2 (v := .bool true) rfl (by kernel_rfl) (by kernel_rfl) (by kernel_rfl) rfl hS0 (fun W' hS => by go_simp) rfl ?_
            simp only [Act.put, List.setIfInBounds_toArray, List.set_cons_zero, List.set_cons_succ]
            refine hd_take 3 (v := .bool true) rfl (by kernel_rfl) (by kernel_rfl) (by kernel_rfl) rfl hS0 (fun W' hS => by go_simp) rfl ?_
            simp only [Act.put, List.setIfInBounds_toArray, List.set_cons_zero, List.set_cons_succ]
            refine hd_take 4 (v := .slice (some ⟨ub, uo, none⟩) 1 1) rfl (by kernel_rfl) (by kernel_rfl) (by kernel_rfl) rfl hS0 (fun W' hS => by go_simp) rfl ?_
            simp only [Act.put, List.setIfInBounds_toArray, List.set_cons_zero, List.set_cons_succ]
            refine hd_take 5 (v := .pointer (some ⟨ub, uo, none⟩)) rfl (by kernel_rfl) (by kernel_rfl) (by kernel_rfl) rfl hS0 (fun W' hS => by first | (go_simp; done) | (go_simp; intro hix; omega)) rfl ?_
            simp only [Act.put, List.setIfInBounds_toArray, List.set_cons_zero, List.set_cons_succ]
            refine hd_take 6 (v := .string ⟨x.toArray⟩) rfl (by kernel_rfl) (by kernel_rfl) (by kernel_rfl) rfl hS0 (fun W' hS => by obtain ⟨h0, h1, h2, h3⟩ := hS; go_simp) rfl ?_
            simp only [Act.put, List.setIfInBounds_toArray, List.set_cons_zero, List.set_cons_succ]
            refine hd_one 7 (by kernel_rfl) rfl (by kernel_rfl) rfl (fun K' hK => ?_)
            go_simp
            refine (is_any x wr.drew (by omega)).mono ?_
            rintro e wq1 ⟨rfl, hb⟩
            rw [EX.out]
            have hh1 : Fr [] wr wq1 := hh0.below hb hh0.size
            clear hb
            have hS1 : wq1.cell? ⟨ub, uo, none⟩ = some (.string ⟨x.toArray⟩) ∧ wq1.cell? ⟨db, 0, none⟩ = some (.int .i64 d.count) ∧ wq1.cell? ⟨db, 2, none⟩ = some (.slice (some ⟨fb, fo, none⟩) d.which.length fcap) ∧ wq1.cell? ⟨fb, fo + k, none⟩ = some (.string ⟨f.toArray⟩) := ⟨hh1.cell hc0 (by simp), hh1.cell hc1 (by simp), hh1.cell hc2 (by simp), hh1.cell hc3 (by simp)⟩
            refine hK.out _ _ (fun _ => hS1) ?_
            clear hK K'
            try simp only [Act.put, List.setIfInBounds_toArray, List.set_cons_zero, List.set_cons_succ]
            refine hd_take 8 (v := .bool true) rfl (by kernel_rfl) (by kernel_rfl) (by kernel_rfl) rfl hS1 (fun W' hS => by go_simp) rfl ?_
            simp only [Act.put, List.setIfInBounds_toArray, List.set_cons_zero, List.set_cons_succ]
            refine hd_take 9 (v := .bool true) rfl (by kernel_rfl) (by kernel_rfl) (by kernel_rfl) rfl hS1 (fun W' hS => by go_simp) rfl ?_
            simp only [Act.put, List.setIfInBounds_toArray, List.set_cons_zero, List.set_cons_succ]
            refine hd_take 10 (v := .string ⟨root.toArray⟩) rfl (by kernel_rfl) (by kernel_rfl) (by kernel_rfl) rfl hS1 (fun W' hS => by go_simp) rfl ?_
            refine hd_take 11 (v := .pointer (some ⟨db, 0, none⟩)) rfl (by kernel_rfl) (by kernel_rfl) (by kernel_rfl) rfl hS1 (fun W' hS => by go_simp) rfl ?_
            refine hd_take 13 (v := .int .i64 z) rfl (by kernel_rfl) (by kernel_rfl) (by kernel_rfl) rfl hS1 (fun W' hS => by go_simp) rfl ?_
            refine hd_take 14 (v := .slice (some ⟨ub, uo, none⟩) 1 1) rfl (by kernel_rfl) (by kernel_rfl) (by kernel_rfl) rfl hS1 (fun W' hS => by go_simp) rfl ?_
            refine hd_take 17 (v := .pointer (some ⟨db, 2, none⟩)) rfl (by kernel_rfl) (by kernel_rfl) (by kernel_rfl) rfl hS1 (fun W' hS => by go_simp) rfl ?_
            refine hd_take 19 (v := .int .i64 (k : Int)) rfl (by kernel_rfl) (by kernel_rfl) (by kernel_rfl) rfl hS1 (fun W' hS => by go_simp) rfl ?_
            refine hd_take 23 (v := .slice (some ⟨ub, uo, none⟩) 1 1) rfl (by kernel_rfl) (by kernel_rfl) (by kernel_rfl) rfl hS1 (fun W' hS => by go_simp) rfl ?_
            simp only [Act.put, List.setIfInBounds_toArray, List.set_cons_zero, List.set_cons_succ]
            refine hd_take 12 (v := .int .i64 d.count) rfl (by kernel_rfl) (by kernel_rfl) (by kernel_rfl) rfl hS1 (fun W' hS => by obtain ⟨h0, h1, h2, h3⟩ := hS; go_simp) rfl ?_
            refine hd_take 15 (v := .pointer (some ⟨ub, uo, none⟩)) rfl (by kernel_rfl) (by kernel_rfl) (by kernel_rfl) rfl hS1 (fun W' hS => by first | (go_simp; done) | (go_simp; intro hix; omega)) rfl ?_
            refine hd_take 18 (v := .slice (some ⟨fb, fo, none⟩) d.which.length fcap) rfl (by kernel_rfl) (by kernel_rfl) (by kernel_rfl) rfl hS1 (fun W' hS => by obtain ⟨h0, h1, h2, h3⟩ := hS; go_simp) rfl ?_
            refine hd_take 24 (v := .slice (some ⟨ub, uo, none⟩) 0 0) rfl (by kernel_rfl) (by kernel_rfl) (by kernel_rfl) rfl hS1 (fun W' hS => by go_simp) rfl ?_
            simp only [Act.put, List.setIfInBounds_toArray, List.set_cons_zero, List.set_cons_succ]
            refine hd_take 16 (v := .string ⟨x.toArray⟩) rfl (by kernel_rfl) (by kernel_rfl) (by kernel_rfl) rfl hS1 (fun W' hS => by obtain ⟨h0, h1, h2, h3⟩ := hS; go_simp) rfl ?_
            refine hd_take 20 (v := .pointer (some ⟨fb, fo + k, none⟩)) rfl (by kernel_rfl) (by kernel_rfl) (by kernel_rfl) rfl hS1 (fun W' hS => by first | (go_simp; done) | (go_simp; intro hix; omega)) rfl ?_
            simp only [Act.put, List.setIfInBounds_toArray, List.set_cons_zero, List.set_cons_succ]
            refine hd_take 21 (v := .string ⟨f.toArray⟩) rfl (by kernel_rfl) (by kernel_rfl) (by kernel_rfl) rfl hS1 (fun W' hS => by obtain ⟨h0, h1, h2, h3⟩ := hS; go_simp) rfl ?_
            simp only [Act.put, List.setIfInBounds_toArray, List.set_cons_zero, List.set_cons_succ]
            refine hd_take 22 (v := .string ⟨(x ++ f).toArray⟩) rfl (by kernel_rfl) (by kernel_rfl) (by kernel_rfl) rfl hS1 (fun W' hS => by first | (go_simp; done) | (go_simp; rw [if_neg (by omega), ba_append])) rfl ?_
            simp only [Act.put, List.setIfInBounds_toArray, List.set_cons_zero, List.set_cons_succ]
            refine hd_one 25 (by kernel_rfl) rfl (by kernel_rfl) rfl (fun K' hK => ?_)
            go_simp
            refine (check_any root (x ++ f) d.count z _ _ wq1 HN.out (by omega) (HQ.out.fr0 hh1) (by rw [List.length_append]; omega) HQS.out (HT.out.fr ((hf0.trans hfr (by simp)).trans hh1 (by simp)))).mono ?_
            rintro e wq2 ⟨rfl, hb⟩
            rw [← ECB.out]
            have hh2 : Fr [] wr wq2 := hh1.below hb hh1.size
            clear hb
            have hS2 : wq2.cell? ⟨ub, uo, none⟩ = some (.string ⟨x.toArray⟩) ∧ wq2.cell? ⟨db, 0, none⟩ = some (.int .i64 d.count) ∧ wq2.cell? ⟨db, 2, none⟩ = some (.slice (some ⟨fb, fo, none⟩) d.which.length fcap) ∧ wq2.cell? ⟨fb, fo + k, none⟩ = some (.string ⟨f.toArray⟩) := ⟨hh2.cell hc0 (by simp), hh2.cell hc1 (by simp), hh2.cell hc2 (by simp), hh2.cell hc3 (by simp)⟩
            refine hK.out _ _ (fun _ => hS2) ?_
            clear hK K'
            try simp only [Act.put, List.setIfInBounds_toArray, List.set_cons_zero, List.set_cons_succ]
            refine hd_take 26 (v := .bool cb) rfl (by kernel_rfl) (by kernel_rfl) (by kernel_rfl) rfl hS2 (fun W' hS => by go_simp) rfl ?_
            simp only [Act.put, List.setIfInBounds_toArray, List.set_cons_zero, List.set_cons_succ]
            refine hd_one 27 (by kernel_rfl) rfl (by kernel_rfl) rfl (fun K' hK => ?_)
            go_simp
            refine hK.out _ _ (fun h => absurd rfl h) ?_
            clear hK K'
            refine held_done (by kernel_rfl) ?_
            have HH : Fr [] wr wq2 := hh2
            clear hS0
            cases cb with
            | false =>
              have HF2 : Hid (chkD root d = false) := Lib.hid (by rw [HCD.out]; exact all_false hlt (by rw [HSB2.out, EX.out, ← ECB.out]; rfl))
              go_wp2_with fail
              (try rw [Exit.noGoto_ret])
              go_ret
              exact ⟨by rw [HF2.out]; rfl, ((hf0.trans hfr (by simp)).trans HH (by simp)).toBelow (by simp)⟩
            | true =>
              have HST2 : Hid (∀ j, j < k + 1 → stepB root d j = true) := Lib.hid (fun j hj => by
                by_cases hjk : j < k
                · exact HST.out j hjk
                · rw [show j = k by omega, HSB2.out, EX.out, ← ECB.out]; rfl)
              go_wp2_with fail
              go_roundg (d.which.length + 1 - (k + 1))
              case measure => have := HG.out; omega
              case rel => exact ⟨k + 1, by omega, rfl, by go_num, rfl, HST2.out, hfr.trans HH (by simp)⟩
        · obtain ⟨pn, epn⟩ : ∃ pn, pn = q.length + 1 := ⟨_, rfl⟩
          rw [← epn] at cu HQ0 hcap
          have HQ := HQ0
          have t3 : decide ((0 : Int) < (pn : Int)) = true := by simp; omega
          have t3' : decide (0 < pn) = true := by simp; omega
          have g4 : (0 : Int) < (pn : Int) := by omega
          have g4' : 0 < pn := by omega
          have g5 : (1 : Int) ≤ (pn : Int) := by omega
          have g6 : (1 : Int) ≤ (ucap : Int) := by omega
          have hq2 : ¬ ucap - 1 = 0 := by omega
          have hq3 : ¬ ucap ≤ 1 := by omega
          clear HQ0 hcap epn
          cases bx with
          | false =>
            have EX : Hid (isD x = false) := Lib.hid EX0.out.symm
            have HF2 : Hid (chkD root d = false) := Lib.hid (by rw [HCD.out]; exact all_false hlt (by rw [HSB2.out, EX.out]; rfl))
            go_wp2_with fail
            have hc0 := c5
            have hh0 : Fr [] wr wr.drew := (Fr.refl [] wr).drew
            have hS0 : wr.drew.cell? ⟨ub, uo, none⟩ = some (.string ⟨x.toArray⟩) := hh0.cell hc0 (by simp)
            refine region_held 27 (fun W' => W'.cell? ⟨ub, uo, none⟩ = some (.string ⟨x.toArray⟩)) hmx ?_
            change Held _ _ _ _ _ _ 28 (Array.replicate 28 false) _ _
            refine hd_take 0 (v := .slice (some ⟨ub, uo, none⟩) pn ucap) rfl (by kernel_rfl) (by kernel_rfl) (by kernel_rfl) rfl hS0 (fun W' hS => by go_simp) rfl ?_
            simp only [Act.put, List.setIfInBounds_toArray, List.set_cons_zero, List.set_cons_succ]
            refine hd_take 1 (v := .int .i64 (pn : Int)) rfl (by kernel_rfl) (by kernel_rfl) (by kernel_rfl) rfl hS0 (fun W' hS => by go_simp) rfl ?_
            simp only [Act.put, List.setIfInBounds_toArray, List.set_cons_zero, List.set_cons_succ]
            refine hd_take 2 (v := .bool true) rfl (by kernel_rfl) (by kernel_rfl) (by kernel_rfl) rfl hS0 (fun W' hS => by go_simp) rfl ?_
            simp only [Act.put, List.setIfInBounds_toArray, List.set_cons_zero, List.set_cons_succ]
            refine hd_take 3 (v := .bool true) rfl (by kernel_rfl) (by kernel_rfl) (by kernel_rfl) rfl hS0 (fun W' hS => by go_simp) rfl ?_
            simp only [Act.put, List.setIfInBounds_toArray, List.set_cons_zero, List.set_cons_succ]
            refine hd_take 4 (v := .slice (some ⟨ub, uo, none⟩) pn ucap) rfl (by kernel_rfl) (by kernel_rfl) (by kernel_rfl) rfl hS0 (fun W' hS => by go_simp) rfl ?_
            simp only [Act.put, List.setIfInBounds_toArray, List.set_cons_zero, List.set_cons_succ]
            refine hd_take 5 (v := .pointer (some ⟨ub, uo, none⟩)) rfl (by kernel_rfl) (by kernel_rfl) (by kernel_rfl) rfl hS0 (fun W' hS => by first | (go_simp; done) | (go_simp; intro hix; omega)) rfl ?_
            simp only [Act.put, List.setIfInBounds_toArray, List.set_cons_zero, List.set_cons_succ]
            refine hd_take 6 (v := .string ⟨x.toArray⟩) rfl (by kernel_rfl) (by kernel_rfl) (by kernel_rfl) rfl hS0 (fun W' hS => by have h1 := hS; go_simp) rfl ?_
            simp only [Act.put, List.setIfInBounds_toArray, List.set_cons_zero, List.set_cons_succ]
            refine hd_one 7 (by kernel_rfl) rfl (by kernel_rfl) rfl (fun K' hK => ?_)
            go_simp
            refine (is_any x wr.drew (by omega)).mono ?_
            rintro e wq1 ⟨rfl, hb⟩
            rw [EX.out]
            have hh1 : Fr [] wr wq1 := hh0.below hb hh0.size
            clear hb
            have hS1 : wq1.cell? ⟨ub, uo, none⟩ = some (.string ⟨x.toArray⟩) := hh1.cell hc0 (by simp)
            refine hK.out _ _ (fun _ => hS1) ?_
            clear hK K'
            try simp only [Act.put, List.setIfInBounds_toArray, List.set_cons_zero, List.set_cons_succ]
            refine hd_take 8 (v := .bool false) rfl (by kernel_rfl) (by kernel_rfl) (by kernel_rfl) rfl hS1 (fun W' hS => by go_simp) rfl ?_
            simp only [Act.put, List.setIfInBounds_toArray, List.set_cons_zero, List.set_cons_succ]
            refine hd_take 9 (v := .bool false) rfl (by kernel_rfl) (by kernel_rfl) (by kernel_rfl) rfl hS1 (fun W' hS => by go_simp) rfl ?_
            simp only [Act.put, List.setIfInBounds_toArray, List.set_cons_zero, List.set_cons_succ]
            refine hd_skip 10 rfl (by kernel_rfl) (by kernel_rfl) (by kernel_rfl) rfl hS1 rfl ?_
            refine hd_skip 11 rfl (by kernel_rfl) (by kernel_rfl) (by kernel_rfl) rfl hS1 rfl ?_
            refine hd_skip 13 rfl (by kernel_rfl) (by kernel_rfl) (by kernel_rfl) rfl hS1 rfl ?_
            refine hd_skip 14 rfl (by kernel_rfl) (by kernel_rfl) (by kernel_rfl) rfl hS1 rfl ?_
            refine hd_skip 17 rfl (by kernel_rfl) (by kernel_rfl) (by kernel_rfl) rfl hS1 rfl ?_
            refine hd_skip 19 rfl (by kernel_rfl) (by kernel_rfl) (by kernel_rfl) rfl hS1 rfl ?_
            refine hd_skip 23 rfl (by kernel_rfl) (by kernel_rfl) (by kernel_rfl) rfl hS1 rfl ?_
            simp only [Act.put, List.setIfInBounds_toArray, List.set_cons_zero, List.set_cons_succ]
            refine hd_skip 12 rfl (by kernel_rfl) (by kernel_rfl) (by kernel_rfl) rfl hS1 rfl ?_
            refine hd_skip 15 rfl (by kernel_rfl) (by kernel_rfl) (by kernel_rfl) rfl hS1 rfl ?_
            refine hd_skip 18 rfl (by kernel_rfl) (by kernel_rfl) (by kernel_rfl) rfl hS1 rfl ?_
            refine hd_skip 24 rfl (by kernel_rfl) (by kernel_rfl) (by kernel_rfl) rfl hS1 rfl ?_
            simp only [Act.put, List.setIfInBounds_toArray, List.set_cons_zero, List.set_cons_succ]
            refine hd_skip 16 rfl (by kernel_rfl) (by kernel_rfl) (by kernel_rfl) rfl hS1 rfl ?_
            refine hd_skip 20 rfl (by kernel_rfl) (by kernel_rfl) (by kernel_rfl) rfl hS1 rfl ?_
            simp only [Act.put, List.setIfInBounds_toArray, List.set_cons_zero, List.set_cons_succ]
            refine hd_skip 21 rfl (by kernel_rfl) (by kernel_rfl) (by kernel_rfl) rfl hS1 rfl ?_
            simp only [Act.put, List.setIfInBounds_toArray, List.set_cons_zero, List.set_cons_succ]
            refine hd_skip 22 rfl (by kernel_rfl) (by kernel_rfl) (by kernel_rfl) rfl hS1 rfl ?_
            simp only [Act.put, List.setIfInBounds_toArray, List.set_cons_zero, List.set_cons_succ]
            refine hd_skip 25 rfl (by kernel_rfl) (by kernel_rfl) (by kernel_rfl) rfl hS1 rfl ?_
            simp only [Act.put, List.setIfInBounds_toArray, List.set_cons_zero, List.set_cons_succ]
            refine hd_take 26 (v := .bool false) rfl (by kernel_rfl) (by kernel_rfl) (by kernel_rfl) rfl hS1 (fun W' hS => by go_simp) rfl ?_
            simp only [Act.put, List.setIfInBounds_toArray, List.set_cons_zero, List.set_cons_succ]
            refine hd_one 27 (by kernel_rfl) rfl (by kernel_rfl) rfl (fun K' hK => ?_)
            go_simp
            refine hK.out _ _ (fun h => absurd rfl h) ?_
            clear hK K'
            refine held_done (by kernel_rfl) ?_
            have HH : Fr [] wr wq1 := hh1
            clear hS0
            go_wp2_with fail
            (try rw [Exit.noGoto_ret])
            go_ret
            exact ⟨by rw [HF2.out]; rfl, ((hf0.trans hfr (by simp)).trans HH (by simp)).toBelow (by simp)⟩
          | true =>
            have EX : Hid (isD x = true) := Lib.hid EX0.out.symm
            go_wp2_with fail
            have hc0 := c5
            have hc1 := c0
            have hc2 := c2
            have hc3 := cf
            have hh0 : Fr [] wr wr.drew := (Fr.refl [] wr).drew
            have hS0 : wr.drew.cell? ⟨ub, uo, none⟩ = some (.string ⟨x.toArray⟩) ∧ wr.drew.cell? ⟨db, 0, none⟩ = some (.int .i64 d.count) ∧ wr.drew.cell? ⟨db, 2, none⟩ = some (.slice (some ⟨fb, fo, none⟩) d.which.length fcap) ∧ wr.drew.cell? ⟨fb, fo + k, none⟩ = some (.string ⟨f.toArray⟩) := ⟨hh0.cell hc0 (by simp), hh0.cell hc1 (by simp), hh0.cell hc2 (by simp), hh0.cell hc3 (by simp)⟩
            refine region_held 27 (fun W' => W'.cell? ⟨ub, uo, none⟩ = some (.string ⟨x.toArray⟩) ∧ W'.cell? ⟨db, 0, none⟩ = some (.int .i64 d.count) ∧ W'.cell? ⟨db, 2, none⟩ = some (.slice (some ⟨fb, fo, none⟩) d.which.length fcap) ∧ W'.cell? ⟨fb, fo + k, none⟩ = some (.string ⟨f.toArray⟩)) hmx ?_
            change Held _ _ _ _ _ _ 28 (Array.replicate 28 false) _ _
            refine hd_take 0 (v := .slice (some ⟨ub, uo, none⟩) pn ucap) rfl (by kernel_rfl) (by kernel_rfl) (by kernel_rfl) rfl hS0 (fun W' hS => by go_simp) rfl ?_
            simp only [Act.put, List.setIfInBounds_toArray, List.set_cons_zero, List.set_cons_succ]
            refine hd_take 1 (v := .int .i64 (pn : Int)) rfl (by kernel_rfl) (by kernel_rfl) (by kernel_rfl) rfl hS0 (fun W' hS => by go_simp) rfl ?_
            simp only [Act.put, List.setIfInBounds_toArray, List.set_cons_zero, List.set_cons_succ]
            refine hd_take 2 (v := .bool true) rfl (by kernel_rfl) (by kernel_rfl) (by kernel_rfl) rfl hS0 (fun W' hS => by go_simp) rfl ?_
            simp only [Act.put, List.setIfInBounds_toArray, List.set_cons_zero, List.set_cons_succ]
            refine hd_take 3 (v := .bool true) rfl (by kernel_rfl) (by kernel_rfl) (by kernel_rfl) rfl hS0 (fun W' hS => by go_simp) rfl ?_
            simp only [Act.put, List.setIfInBounds_toArray, List.set_cons_zero, List.set_cons_succ]
            refine hd_take 4 (v := .slice (some ⟨ub, uo, none⟩) pn ucap) rfl (by kernel_rfl) (by kernel_rfl) (by kernel_rfl) rfl hS0 (fun W' hS => by go_simp) rfl ?_
            simp only [Act.put, List.setIfInBounds_toArray, List.set_cons_zero, List.set_cons_succ]
            refine hd_take 5 (v := .pointer (some ⟨ub, uo, none⟩)) rfl (by kernel_rfl) (by kernel_rfl) (by kernel_rfl) rfl hS0 (fun W' hS => by first | (go_simp; done) | (go_simp; intro hix; omega)) rfl ?_
            simp only [Act.put, List.setIfInBounds_toArray, List.set_cons_zero, List.set_cons_succ]
            refine hd_take 6 (v := .string ⟨x.toArray⟩) rfl (by kernel_rfl) (by kernel_rfl) (by kernel_rfl) rfl hS0 (fun W' hS => by obtain ⟨h0, h1, h2, h3⟩ := hS; go_simp) rfl ?_
            simp only [Act.put, List.setIfInBounds_toArray, List.set_cons_zero, List.set_cons_succ]
            refine hd_one 7 (by kernel_rfl) rfl (by kernel_rfl) rfl (fun K' hK => ?_)
            go_simp
            refine (is_any x wr.drew (by omega)).mono ?_
            rintro e wq1 ⟨rfl, hb⟩
            rw [EX.out]
            have hh1 : Fr [] wr wq1 := hh0.below hb hh0.size
            clear hb
            have hS1 : wq1.cell? ⟨ub, uo, none⟩ = some (.string ⟨x.toArray⟩) ∧ wq1.cell? ⟨db, 0, none⟩ = some (.int .i64 d.count) ∧ wq1.cell? ⟨db, 2, none⟩ = some (.slice (some ⟨fb, fo, none⟩) d.which.length fcap) ∧ wq1.cell? ⟨fb, fo + k, none⟩ = some (.string ⟨f.toArray⟩) := ⟨hh1.cell hc0 (by simp), hh1.cell hc1 (by simp), hh1.cell hc2 (by simp), hh1.cell hc3 (by simp)⟩
            refine hK.out _ _ (fun _ => hS1) ?_
            clear hK K'
            try simp only [Act.put, List.setIfInBounds_toArray, List.set_cons_zero, List.set_cons_succ]
            refine hd_take 8 (v := .bool true) rfl (by kernel_rfl) (by kernel_rfl) (by kernel_rfl) rfl hS1 (fun W' hS => by go_simp) rfl ?_
            simp only [Act.put, List.setIfInBounds_toArray, List.set_cons_zero, List.set_cons_succ]
            refine hd_take 9 (v := .bool true) rfl (by kernel_rfl) (by kernel_rfl) (by kernel_rfl) rfl hS1 (fun W' hS => by go_simp) rfl ?_
            simp only [Act.put, List.setIfInBounds_toArray, List.set_cons_zero, List.set_cons_succ]
            refine hd_take 10 (v := .string ⟨root.toArray⟩) rfl (by kernel_rfl) (by kernel_rfl) (by kernel_rfl) rfl hS1 (fun W' hS => by go_simp) rfl ?_
            refine hd_take 11 (v := .pointer (some ⟨db, 0, none⟩)) rfl (by kernel_rfl) (by kernel_rfl) (by kernel_rfl) rfl hS1 (fun W' hS => by go_simp) rfl ?_
            refine hd_take 13 (v := .int .i64 z) rfl (by kernel_rfl) (by kernel_rfl) (by kernel_rfl) rfl hS1 (fun W' hS => by go_simp) rfl ?_
            refine hd_take 14 (v := .slice (some ⟨ub, uo, none⟩) pn ucap) rfl (by kernel_rfl) (by kernel_rfl) (by kernel_rfl) rfl hS1 (fun W' hS => by go_simp) rfl ?_
            refine hd_take 17 (v := .pointer (some ⟨db, 2, none⟩)) rfl (by kernel_rfl) (by kernel_rfl) (by kernel_rfl) rfl hS1 (fun W' hS => by go_simp) rfl ?_
            refine hd_take 19 (v := .int .i64 (k : Int)) rfl (by kernel_rfl) (by kernel_rfl) (by kernel_rfl) rfl hS1 (fun W' hS => by go_simp) rfl ?_
            refine hd_take 23 (v := .slice (some ⟨ub, uo, none⟩) pn ucap) rfl (by kernel_rfl) (by kernel_rfl) (by kernel_rfl) rfl hS1 (fun W' hS => by go_simp) rfl ?_
            simp only [Act.put, List.setIfInBounds_toArray, List.set_cons_zero, List.set_cons_succ]
            refine hd_take 12 (v := .int .i64 d.count) rfl (by kernel_rfl) (by kernel_rfl) (by kernel_rfl) rfl hS1 (fun W' hS => by obtain ⟨h0, h1, h2, h3⟩ := hS; go_simp) rfl ?_
            refine hd_take 15 (v := .pointer (some ⟨ub, uo, none⟩)) rfl (by kernel_rfl) (by kernel_rfl) (by kernel_rfl) rfl hS1 (fun W' hS => by first | (go_simp; done) | (go_simp; intro hix; omega)) rfl ?_
            refine hd_take 18 (v := .slice (some ⟨fb, fo, none⟩) d.which.length fcap) rfl (by kernel_rfl) (by kernel_rfl) (by kernel_rfl) rfl hS1 (fun W' hS => by obtain ⟨h0, h1, h2, h3⟩ := hS; go_simp) rfl ?_
            refine hd_take 24 (v := .slice (some ⟨ub, uo + 1, none⟩) (pn - 1) (ucap - 1)) rfl (by kernel_rfl) (by kernel_rfl) (by kernel_rfl) rfl hS1 (fun W' hS => by go_simp) rfl ?_
            simp only [Act.put, List.setIfInBounds_toArray, List.set_cons_zero, List.set_cons_succ]
            refine hd_take 16 (v := .string ⟨x.toArray⟩) rfl (by kernel_rfl) (by kernel_rfl) (by kernel_rfl) rfl hS1 (fun W' hS => by obtain ⟨h0, h1, h2, h3⟩ := hS; go_simp) rfl ?_
            refine hd_take 20 (v := .pointer (some ⟨fb, fo + k, none⟩)) rfl (by kernel_rfl) (by kernel_rfl) (by kernel_rfl) rfl hS1 (fun W' hS => by first | (go_simp; done) | (go_simp; intro hix; omega)) rfl ?_
            simp only [Act.put, List.setIfInBounds_toArray, List.set_cons_zero, List.set_cons_succ]
            refine hd_take 21 (v := .string ⟨f.toArray⟩) rfl (by kernel_rfl) (by kernel_rfl) (by kernel_rfl) rfl hS1 (fun W' hS => by obtain ⟨h0, h1, h2, h3⟩ := hS; go_simp) rfl ?_
            simp only [Act.put, List.setIfInBounds_toArray, List.set_cons_zero, List.set_cons_succ]
            refine hd_take 22 (v := .string ⟨(x ++ f).toArray⟩) rfl (by kernel_rfl) (by kernel_rfl) (by kernel_rfl) rfl hS1 (fun W' hS => by first | (go_simp; done) | (go_simp; rw [if_neg (by omega), ba_append])) rfl ?_
            simp only [Act.put, List.setIfInBounds_toArray, List.set_cons_zero, List.set_cons_succ]
            refine hd_one 25 (by kernel_rfl) rfl (by kernel_rfl) rfl (fun K' hK => ?_)
            go_simp
            refine (check_any root (x ++ f) d.count z _ _ wq1 HN.out (by omega) (HQ.out.fr0 hh1) (by rw [List.length_append]; omega) HQS.out (HT.out.fr ((hf0.trans hfr (by simp)).trans hh1 (by simp)))).mono ?_
            rintro e wq2 ⟨rfl, hb⟩
            rw [← ECB.out]
            have hh2 : Fr [] wr wq2 := hh1.below hb hh1.size
            clear hb
            have hS2 : wq2.cell? ⟨ub, uo, none⟩ = some (.string ⟨x.toArray⟩) ∧ wq2.cell? ⟨db, 0, none⟩ = some (.int .i64 d.count) ∧ wq2.cell? ⟨db, 2, none⟩ = some (.slice (some ⟨fb, fo, none⟩) d.which.length fcap) ∧ wq2.cell? ⟨fb, fo + k, none⟩ = some (.string ⟨f.toArray⟩) := ⟨hh2.cell hc0 (by simp), hh2.cell hc1 (by simp), hh2.cell hc2 (by simp), hh2.cell hc3 (by simp)⟩
            refine hK.out _ _ (fun _ => hS2) ?_
            clear hK K'
            try simp only [Act.put, List.setIfInBounds_toArray, List.set_cons_zero, List.set_cons_succ]
            refine hd_take 26 (v := .bool cb) rfl (by kernel_rfl) (by kernel_rfl) (by kernel_rfl) rfl hS2 (fun W' hS => by go_simp) rfl ?_
            simp only [Act.put, List.setIfInBounds_toArray, List.set_cons_zero, List.set_cons_succ]
            refine hd_one 27 (by kernel_rfl) rfl (by kernel_rfl) rfl (fun K' hK => ?_)
            go_simp
            refine hK.out _ _ (fun h => absurd rfl h) ?_
            clear hK K'
            refine held_done (by kernel_rfl) ?_
            have HH : Fr [] wr wq2 := hh2
            clear hS0
            cases cb with
            | false =>
              have HF2 : Hid (chkD root d = false) := Lib.hid (by rw [HCD.out]; exact all_false hlt (by rw [HSB2.out, EX.out, ← ECB.out]; rfl))
              go_wp2_with fail
              (try rw [Exit.noGoto_ret])
              go_ret
              exact ⟨by rw [HF2.out]; rfl, ((hf0.trans hfr (by simp)).trans HH (by simp)).toBelow (by simp)⟩
            | true =>
              have HST2 : Hid (∀ j, j < k + 1 → stepB root d j = true) := Lib.hid (fun j hj => by
                by_cases hjk : j < k
                · exact HST.out j hjk
                · rw [show j = k by omega, HSB2.out, EX.out, ← ECB.out]; rfl)
              go_wp2_with fail
              go_roundg (d.which.length + 1 - (k + 1))
              case measure => have := HG.out; omega
              case rel => exact ⟨k + 1, by omega, rfl, by go_num, rfl, HST2.out, hfr.trans HH (by simp)⟩
    · obtain rfl : k = d.which.length := by omega
      have t1 : decide ((d.which.length : Int) < (d.which.length : Int)) = false := by simp
      have HT2 : Hid (chkD root d = true) := Lib.hid (by rw [HCD.out]; exact all_done HST.out)
      go_wp2_with fail
      (try rw [Exit.noGoto_ret])
      go_ret
      exact ⟨by rw [HT2.out]; rfl, (hf0.trans hfr (by simp)).toBelow (by simp)⟩
end Go.Proofs.YtmhejcndkplepaaDoor
