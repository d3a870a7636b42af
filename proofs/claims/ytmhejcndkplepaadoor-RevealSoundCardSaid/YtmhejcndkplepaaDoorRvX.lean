/-
  foyerlaw31: RevealSound.
-/
import Derived.Test.YtmhejcndkplepaaDoorRvO
import Derived.Test.YtmhejcndkplepaaDoorRvM
import Derived.Test.YtmhejcndkplepaaDoorRvW
namespace Go.Proofs.YtmhejcndkplepaaDoor
open Go.RowKit

set_option maxRecDepth 100000 in
set_option maxHeartbeats 16000000 in
theorem revealSound_any (v : Value) (fields : List (List UInt8)) (s : List UInt8) (dv : Value) (d : Disc) (w : World) (hT : Tabs w) (hv : Strs w v fields) (hdv : DiscW w dv d) (hdn : -9223372036854775808 ≤ d.count ∧ d.count < 9223372036854775808) :
    Calls Tryd.prog 5 #[v, .string ⟨s.toArray⟩, dv] w fun e w' => e = .returned (.bool true) ∧ Below w.heap.size w w' := by
  have hmx : Tryd.prog.follows .mixedOrders = true := by kernel_rfl
  have HT := Lib.hid hT
  have HV := Lib.hid hv
  have HDV := Lib.hid hdv
  obtain ⟨fa, fcap, rfl, hfl, hfa⟩ := hv.form
  obtain ⟨wv, qv, pv, rfl, hw, hq, hp⟩ := hdv
  obtain ⟨wa, wcap, rfl, hwl, hwc, hwa⟩ := hw.form
  obtain ⟨qa, qcap, rfl, hql, hqa⟩ := hq.form
  obtain ⟨pa, pcap, rfl, hpl, hpc, hpa⟩ := hp.form
  have HW := Lib.hid hw
  have HQ := Lib.hid hq
  have HP := Lib.hid hp
  clear hT hv hw hq hp
  go_enter Tryd.func5, Tryd.ntmps5
  go_wp2_with fail
  have f0 : Fr [] w (w.alloc (.cells #[.int .i64 d.count, .slice wa d.which.length wcap, .slice qa d.fields.length qcap, .slice pa d.paths.length pcap] 26)) := (Fr.refl [] w).alloc _
  have q0 : DAt w.heap.size (.int .i64 d.count) (.slice wa d.which.length wcap) (.slice qa d.fields.length qcap) (.slice pa d.paths.length pcap) (w.alloc (.cells #[.int .i64 d.count, .slice wa d.which.length wcap, .slice qa d.fields.length qcap, .slice pa d.paths.length pcap] 26)) := DAt.of (heap_new rfl)
  generalize w.alloc (.cells #[.int .i64 d.count, .slice wa d.which.length wcap, .slice qa d.fields.length qcap, .slice pa d.paths.length pcap] 26) = w0 at f0 q0 ⊢
  obtain ⟨db, edb⟩ : ∃ b, b = w.heap.size := ⟨_, rfl⟩
  rw [← edb] at q0 ⊢
  have EDB := Lib.hid edb
  have Q0 := Lib.hid q0
  clear q0 edb
  refine (head31_any w0 (HT.out.fr f0)).mono ?_
  rintro e w1 ⟨rfl, hb1⟩
  have f1 : Fr [] w0 w1 := Fr.ofBelow hb1
  have hf1 : Fr [] w w1 := f0.trans f1 (by simp)
  have Q1 := Lib.hid (Q0.out.fr f1 (by simp))
  obtain ⟨c0, c1, c2, c3⟩ := Q1.out
  have HC1 : Hid (∀ W, Fr [] w1 W → Calls Tryd.prog 17 #[.slice fa fields.length fcap, .int .i64 30] W fun e w' => e = .returned (.bool (shortB fields 30)) ∧ Below W.heap.size W w') := Lib.hid (fun W hW =>
    short_any _ fields 30 W (HV.out.fr0 (hf1.trans hW (by simp))))
  have HC2 : Hid (∀ W, Fr [] w1 W → Calls Tryd.prog 18 #[.agg #[.int .i64 d.count, .slice wa d.which.length wcap, .slice qa d.fields.length qcap, .slice pa d.paths.length pcap]] W fun e w' => e = .returned (.bool (fewD d)) ∧ Below W.heap.size W w') := Lib.hid (fun W hW =>
    few31_any _ d W (HDV.out.fr (hf1.trans hW (by simp))))
  clear hb1 f1 f0
  cases hsh : shortB fields 30 with
  | false =>
    rw [hsh] at HC1
    clear hsh
    go_wp2_with fail
    have hc0 := c0
    have hc1 := c1
    have hc2 := c2
    have hc3 := c3
    have hh0 : Fr [] w1 w1.drew := (Fr.refl [] w1).drew
    have hS0 : w1.drew.cell? ⟨db, 0, none⟩ = some (.int .i64 d.count) ∧ w1.drew.cell? ⟨db, 1, none⟩ = some (.slice wa d.which.length wcap) ∧ w1.drew.cell? ⟨db, 2, none⟩ = some (.slice qa d.fields.length qcap) ∧ w1.drew.cell? ⟨db, 3, none⟩ = some (.slice pa d.paths.length pcap) := ⟨hh0.cell hc0 (by simp), hh0.cell hc1 (by simp), hh0.cell hc2 (by simp), hh0.cell hc3 (by simp)⟩
    refine region_held 100 (fun W' => W'.cell? ⟨db, 0, none⟩ = some (.int .i64 d.count) ∧ W'.cell? ⟨db, 1, none⟩ = some (.slice wa d.which.length wcap) ∧ W'.cell? ⟨db, 2, none⟩ = some (.slice qa d.fields.length qcap) ∧ W'.cell? ⟨db, 3, none⟩ = some (.slice pa d.paths.length pcap)) hmx ?_
    change Held _ _ _ _ _ _ 28 (Array.replicate 28 false) _ _
    refine hd_take 0 (v := .slice fa fields.length fcap) rfl (by kernel_rfl) (by kernel_rfl) (by kernel_rfl) rfl hS0 (fun W' hS => by go_simp) rfl ?_
    simp only [Act.put, List.setIfInBounds_toArray, List.set_cons_zero, List.set_cons_succ]
    refine hd_one 1 (by kernel_rfl) rfl (by kernel_rfl) rfl (fun K' hK => ?_)
    go_simp
    refine (HC1.out w1.drew hh0).mono ?_
    rintro e wq1 ⟨rfl, hb⟩
    have hh1 : Fr [] w1 wq1 := hh0.below hb hh0.size
    clear hb
    have hS1 : wq1.cell? ⟨db, 0, none⟩ = some (.int .i64 d.count) ∧ wq1.cell? ⟨db, 1, none⟩ = some (.slice wa d.which.length wcap) ∧ wq1.cell? ⟨db, 2, none⟩ = some (.slice qa d.fields.length qcap) ∧ wq1.cell? ⟨db, 3, none⟩ = some (.slice pa d.paths.length pcap) := ⟨hh1.cell hc0 (by simp), hh1.cell hc1 (by simp), hh1.cell hc2 (by simp), hh1.cell hc3 (by simp)⟩
    refine hK.out _ _ (fun _ => hS1) ?_
    clear hK K'
    try simp only [Act.put, List.setIfInBounds_toArray, List.set_cons_zero, List.set_cons_succ]
    refine hd_take 2 (v := .bool true) rfl (by kernel_rfl) (by kernel_rfl) (by kernel_rfl) rfl hS1 (fun W' hS => by go_simp) rfl ?_
    simp only [Act.put, List.setIfInBounds_toArray, List.set_cons_zero, List.set_cons_succ]
    refine hd_take 3 (v := .bool true) rfl (by kernel_rfl) (by kernel_rfl) (by kernel_rfl) rfl hS1 (fun W' hS => by go_simp) rfl ?_
    simp only [Act.put, List.setIfInBounds_toArray, List.set_cons_zero, List.set_cons_succ]
    refine hd_skip 4 rfl (by kernel_rfl) (by kernel_rfl) (by kernel_rfl) rfl hS1 rfl ?_
    simp only [Act.put, List.setIfInBounds_toArray, List.set_cons_zero, List.set_cons_succ]
    refine hd_skip 5 rfl (by kernel_rfl) (by kernel_rfl) (by kernel_rfl) rfl hS1 rfl ?_
    simp only [Act.put, List.setIfInBounds_toArray, List.set_cons_zero, List.set_cons_succ]
    refine hd_skip 6 rfl (by kernel_rfl) (by kernel_rfl) (by kernel_rfl) rfl hS1 rfl ?_
    simp only [Act.put, List.setIfInBounds_toArray, List.set_cons_zero, List.set_cons_succ]
    refine hd_take 7 (v := .bool true) rfl (by kernel_rfl) (by kernel_rfl) (by kernel_rfl) rfl hS1 (fun W' hS => by go_simp) rfl ?_
    simp only [Act.put, List.setIfInBounds_toArray, List.set_cons_zero, List.set_cons_succ]
    refine hd_take 8 (v := .bool true) rfl (by kernel_rfl) (by kernel_rfl) (by kernel_rfl) rfl hS1 (fun W' hS => by go_simp) rfl ?_
    simp only [Act.put, List.setIfInBounds_toArray, List.set_cons_zero, List.set_cons_succ]
    refine hd_skip 9 rfl (by kernel_rfl) (by kernel_rfl) (by kernel_rfl) rfl hS1 rfl ?_
    simp only [Act.put, List.setIfInBounds_toArray, List.set_cons_zero, List.set_cons_succ]
    refine hd_skip 10 rfl (by kernel_rfl) (by kernel_rfl) (by kernel_rfl) rfl hS1 rfl ?_
    simp only [Act.put, List.setIfInBounds_toArray, List.set_cons_zero, List.set_cons_succ]
    refine hd_skip 11 rfl (by kernel_rfl) (by kernel_rfl) (by kernel_rfl) rfl hS1 rfl ?_
    simp only [Act.put, List.setIfInBounds_toArray, List.set_cons_zero, List.set_cons_succ]
    refine hd_take 12 (v := .bool true) rfl (by kernel_rfl) (by kernel_rfl) (by kernel_rfl) rfl hS1 (fun W' hS => by go_simp) rfl ?_
    simp only [Act.put, List.setIfInBounds_toArray, List.set_cons_zero, List.set_cons_succ]
    refine hd_take 13 (v := .bool true) rfl (by kernel_rfl) (by kernel_rfl) (by kernel_rfl) rfl hS1 (fun W' hS => by go_simp) rfl ?_
    simp only [Act.put, List.setIfInBounds_toArray, List.set_cons_zero, List.set_cons_succ]
    refine hd_skip 14 rfl (by kernel_rfl) (by kernel_rfl) (by kernel_rfl) rfl hS1 rfl ?_
    refine hd_skip 16 rfl (by kernel_rfl) (by kernel_rfl) (by kernel_rfl) rfl hS1 rfl ?_
    simp only [Act.put, List.setIfInBounds_toArray, List.set_cons_zero, List.set_cons_succ]
    refine hd_skip 15 rfl (by kernel_rfl) (by kernel_rfl) (by kernel_rfl) rfl hS1 rfl ?_
    refine hd_skip 17 rfl (by kernel_rfl) (by kernel_rfl) (by kernel_rfl) rfl hS1 rfl ?_
    simp only [Act.put, List.setIfInBounds_toArray, List.set_cons_zero, List.set_cons_succ]
    refine hd_skip 18 rfl (by kernel_rfl) (by kernel_rfl) (by kernel_rfl) rfl hS1 rfl ?_
    simp only [Act.put, List.setIfInBounds_toArray, List.set_cons_zero, List.set_cons_succ]
    refine hd_take 19 (v := .bool true) rfl (by kernel_rfl) (by kernel_rfl) (by kernel_rfl) rfl hS1 (fun W' hS => by go_simp) rfl ?_
    simp only [Act.put, List.setIfInBounds_toArray, List.set_cons_zero, List.set_cons_succ]
    refine hd_take 20 (v := .bool true) rfl (by kernel_rfl) (by kernel_rfl) (by kernel_rfl) rfl hS1 (fun W' hS => by go_simp) rfl ?_
    simp only [Act.put, List.setIfInBounds_toArray, List.set_cons_zero, List.set_cons_succ]
    refine hd_skip 21 rfl (by kernel_rfl) (by kernel_rfl) (by kernel_rfl) rfl hS1 rfl ?_
    refine hd_skip 22 rfl (by kernel_rfl) (by kernel_rfl) (by kernel_rfl) rfl hS1 rfl ?_
    refine hd_skip 24 rfl (by kernel_rfl) (by kernel_rfl) (by kernel_rfl) rfl hS1 rfl ?_
    simp only [Act.put, List.setIfInBounds_toArray, List.set_cons_zero, List.set_cons_succ]
    refine hd_skip 23 rfl (by kernel_rfl) (by kernel_rfl) (by kernel_rfl) rfl hS1 rfl ?_
    simp only [Act.put, List.setIfInBounds_toArray, List.set_cons_zero, List.set_cons_succ]
    refine hd_skip 25 rfl (by kernel_rfl) (by kernel_rfl) (by kernel_rfl) rfl hS1 rfl ?_
    simp only [Act.put, List.setIfInBounds_toArray, List.set_cons_zero, List.set_cons_succ]
    refine hd_skip 26 rfl (by kernel_rfl) (by kernel_rfl) (by kernel_rfl) rfl hS1 rfl ?_
    simp only [Act.put, List.setIfInBounds_toArray, List.set_cons_zero, List.set_cons_succ]
    refine hd_take 27 (v := .bool true) rfl (by kernel_rfl) (by kernel_rfl) (by kernel_rfl) rfl hS1 (fun W' hS => by go_simp) rfl ?_
    simp only [Act.put, List.setIfInBounds_toArray, List.set_cons_zero, List.set_cons_succ]
    refine held_done (by kernel_rfl) ?_
    have HH : Fr [] w1 wq1 := hh1
    go_wp2_with fail
    go_ret
    exact ⟨rfl, (hf1.trans HH (by simp)).toBelow (by simp)⟩
  | true => ?_
  rw [hsh] at HC1
  have HSH := Lib.hid (shortB_all hsh)
  clear hsh
  by_cases h1 : 200 < s.length
  · have t1 : decide ((200 : Int) < (s.length : Int)) = true := by simp; omega
    go_wp2_with fail
    have hc0 := c0
    have hc1 := c1
    have hc2 := c2
    have hc3 := c3
    have hh0 : Fr [] w1 w1.drew := (Fr.refl [] w1).drew
    have hS0 : w1.drew.cell? ⟨db, 0, none⟩ = some (.int .i64 d.count) ∧ w1.drew.cell? ⟨db, 1, none⟩ = some (.slice wa d.which.length wcap) ∧ w1.drew.cell? ⟨db, 2, none⟩ = some (.slice qa d.fields.length qcap) ∧ w1.drew.cell? ⟨db, 3, none⟩ = some (.slice pa d.paths.length pcap) := ⟨hh0.cell hc0 (by simp), hh0.cell hc1 (by simp), hh0.cell hc2 (by simp), hh0.cell hc3 (by simp)⟩
    refine region_held 100 (fun W' => W'.cell? ⟨db, 0, none⟩ = some (.int .i64 d.count) ∧ W'.cell? ⟨db, 1, none⟩ = some (.slice wa d.which.length wcap) ∧ W'.cell? ⟨db, 2, none⟩ = some (.slice qa d.fields.length qcap) ∧ W'.cell? ⟨db, 3, none⟩ = some (.slice pa d.paths.length pcap)) hmx ?_
    change Held _ _ _ _ _ _ 28 (Array.replicate 28 false) _ _
    refine hd_take 0 (v := .slice fa fields.length fcap) rfl (by kernel_rfl) (by kernel_rfl) (by kernel_rfl) rfl hS0 (fun W' hS => by go_simp) rfl ?_
    simp only [Act.put, List.setIfInBounds_toArray, List.set_cons_zero, List.set_cons_succ]
    refine hd_one 1 (by kernel_rfl) rfl (by kernel_rfl) rfl (fun K' hK => ?_)
    go_simp
    refine (HC1.out w1.drew hh0).mono ?_
    rintro e wq1 ⟨rfl, hb⟩
    have hh1 : Fr [] w1 wq1 := hh0.below hb hh0.size
    clear hb
    have hS1 : wq1.cell? ⟨db, 0, none⟩ = some (.int .i64 d.count) ∧ wq1.cell? ⟨db, 1, none⟩ = some (.slice wa d.which.length wcap) ∧ wq1.cell? ⟨db, 2, none⟩ = some (.slice qa d.fields.length qcap) ∧ wq1.cell? ⟨db, 3, none⟩ = some (.slice pa d.paths.length pcap) := ⟨hh1.cell hc0 (by simp), hh1.cell hc1 (by simp), hh1.cell hc2 (by simp), hh1.cell hc3 (by simp)⟩
    refine hK.out _ _ (fun _ => hS1) ?_
    clear hK K'
    try simp only [Act.put, List.setIfInBounds_toArray, List.set_cons_zero, List.set_cons_succ]
    refine hd_take 2 (v := .bool false) rfl (by kernel_rfl) (by kernel_rfl) (by kernel_rfl) rfl hS1 (fun W' hS => by go_simp) rfl ?_
    simp only [Act.put, List.setIfInBounds_toArray, List.set_cons_zero, List.set_cons_succ]
    refine hd_take 3 (v := .bool false) rfl (by kernel_rfl) (by kernel_rfl) (by kernel_rfl) rfl hS1 (fun W' hS => by go_simp) rfl ?_
    simp only [Act.put, List.setIfInBounds_toArray, List.set_cons_zero, List.set_cons_succ]
    refine hd_take 4 (v := .string ⟨s.toArray⟩) rfl (by kernel_rfl) (by kernel_rfl) (by kernel_rfl) rfl hS1 (fun W' hS => by go_simp) rfl ?_
    simp only [Act.put, List.setIfInBounds_toArray, List.set_cons_zero, List.set_cons_succ]
    refine hd_take 5 (v := .int .i64 (s.length : Int)) rfl (by kernel_rfl) (by kernel_rfl) (by kernel_rfl) rfl hS1 (fun W' hS => by go_simp) rfl ?_
    simp only [Act.put, List.setIfInBounds_toArray, List.set_cons_zero, List.set_cons_succ]
    refine hd_take 6 (v := .bool true) rfl (by kernel_rfl) (by kernel_rfl) (by kernel_rfl) rfl hS1 (fun W' hS => by go_simp) rfl ?_
    simp only [Act.put, List.setIfInBounds_toArray, List.set_cons_zero, List.set_cons_succ]
    refine hd_take 7 (v := .bool true) rfl (by kernel_rfl) (by kernel_rfl) (by kernel_rfl) rfl hS1 (fun W' hS => by go_simp) rfl ?_
    simp only [Act.put, List.setIfInBounds_toArray, List.set_cons_zero, List.set_cons_succ]
    refine hd_take 8 (v := .bool true) rfl (by kernel_rfl) (by kernel_rfl) (by kernel_rfl) rfl hS1 (fun W' hS => by go_simp) rfl ?_
    simp only [Act.put, List.setIfInBounds_toArray, List.set_cons_zero, List.set_cons_succ]
    refine hd_skip 9 rfl (by kernel_rfl) (by kernel_rfl) (by kernel_rfl) rfl hS1 rfl ?_
    simp only [Act.put, List.setIfInBounds_toArray, List.set_cons_zero, List.set_cons_succ]
    refine hd_skip 10 rfl (by kernel_rfl) (by kernel_rfl) (by kernel_rfl) rfl hS1 rfl ?_
    simp only [Act.put, List.setIfInBounds_toArray, List.set_cons_zero, List.set_cons_succ]
    refine hd_skip 11 rfl (by kernel_rfl) (by kernel_rfl) (by kernel_rfl) rfl hS1 rfl ?_
    simp only [Act.put, List.setIfInBounds_toArray, List.set_cons_zero, List.set_cons_succ]
    refine hd_take 12 (v := .bool true) rfl (by kernel_rfl) (by kernel_rfl) (by kernel_rfl) rfl hS1 (fun W' hS => by go_simp) rfl ?_
    simp only [Act.put, List.setIfInBounds_toArray, List.set_cons_zero, List.set_cons_succ]
    refine hd_take 13 (v := .bool true) rfl (by kernel_rfl) (by kernel_rfl) (by kernel_rfl) rfl hS1 (fun W' hS => by go_simp) rfl ?_
    simp only [Act.put, List.setIfInBounds_toArray, List.set_cons_zero, List.set_cons_succ]
    refine hd_skip 14 rfl (by kernel_rfl) (by kernel_rfl) (by kernel_rfl) rfl hS1 rfl ?_
    refine hd_skip 16 rfl (by kernel_rfl) (by kernel_rfl) (by kernel_rfl) rfl hS1 rfl ?_
    simp only [Act.put, List.setIfInBounds_toArray, List.set_cons_zero, List.set_cons_succ]
    refine hd_skip 15 rfl (by kernel_rfl) (by kernel_rfl) (by kernel_rfl) rfl hS1 rfl ?_
    refine hd_skip 17 rfl (by kernel_rfl) (by kernel_rfl) (by kernel_rfl) rfl hS1 rfl ?_
    simp only [Act.put, List.setIfInBounds_toArray, List.set_cons_zero, List.set_cons_succ]
    refine hd_skip 18 rfl (by kernel_rfl) (by kernel_rfl) (by kernel_rfl) rfl hS1 rfl ?_
    simp only [Act.put, List.setIfInBounds_toArray, List.set_cons_zero, List.set_cons_succ]
    refine hd_take 19 (v := .bool true) rfl (by kernel_rfl) (by kernel_rfl) (by kernel_rfl) rfl hS1 (fun W' hS => by go_simp) rfl ?_
    simp only [Act.put, List.setIfInBounds_toArray, List.set_cons_zero, List.set_cons_succ]
    refine hd_take 20 (v := .bool true) rfl (by kernel_rfl) (by kernel_rfl) (by kernel_rfl) rfl hS1 (fun W' hS => by go_simp) rfl ?_
    simp only [Act.put, List.setIfInBounds_toArray, List.set_cons_zero, List.set_cons_succ]
    refine hd_skip 21 rfl (by kernel_rfl) (by kernel_rfl) (by kernel_rfl) rfl hS1 rfl ?_
    refine hd_skip 22 rfl (by kernel_rfl) (by kernel_rfl) (by kernel_rfl) rfl hS1 rfl ?_
    refine hd_skip 24 rfl (by kernel_rfl) (by kernel_rfl) (by kernel_rfl) rfl hS1 rfl ?_
    simp only [Act.put, List.setIfInBounds_toArray, List.set_cons_zero, List.set_cons_succ]
    refine hd_skip 23 rfl (by kernel_rfl) (by kernel_rfl) (by kernel_rfl) rfl hS1 rfl ?_
    simp only [Act.put, List.setIfInBounds_toArray, List.set_cons_zero, List.set_cons_succ]
    refine hd_skip 25 rfl (by kernel_rfl) (by kernel_rfl) (by kernel_rfl) rfl hS1 rfl ?_
    simp only [Act.put, List.setIfInBounds_toArray, List.set_cons_zero, List.set_cons_succ]
    refine hd_skip 26 rfl (by kernel_rfl) (by kernel_rfl) (by kernel_rfl) rfl hS1 rfl ?_
    simp only [Act.put, List.setIfInBounds_toArray, List.set_cons_zero, List.set_cons_succ]
    refine hd_take 27 (v := .bool true) rfl (by kernel_rfl) (by kernel_rfl) (by kernel_rfl) rfl hS1 (fun W' hS => by go_simp) rfl ?_
    simp only [Act.put, List.setIfInBounds_toArray, List.set_cons_zero, List.set_cons_succ]
    refine held_done (by kernel_rfl) ?_
    have HH : Fr [] w1 wq1 := hh1
    go_wp2_with fail
    go_ret
    exact ⟨rfl, (hf1.trans HH (by simp)).toBelow (by simp)⟩
  have t1 : decide ((200 : Int) < (s.length : Int)) = false := by simp; omega
  cases hfw : fewD d with
  | false =>
    rw [hfw] at HC2
    clear hfw
    go_wp2_with fail
    have hc0 := c0
    have hc1 := c1
    have hc2 := c2
    have hc3 := c3
    have hh0 : Fr [] w1 w1.drew := (Fr.refl [] w1).drew
    have hS0 : w1.drew.cell? ⟨db, 0, none⟩ = some (.int .i64 d.count) ∧ w1.drew.cell? ⟨db, 1, none⟩ = some (.slice wa d.which.length wcap) ∧ w1.drew.cell? ⟨db, 2, none⟩ = some (.slice qa d.fields.length qcap) ∧ w1.drew.cell? ⟨db, 3, none⟩ = some (.slice pa d.paths.length pcap) := ⟨hh0.cell hc0 (by simp), hh0.cell hc1 (by simp), hh0.cell hc2 (by simp), hh0.cell hc3 (by simp)⟩
    refine region_held 100 (fun W' => W'.cell? ⟨db, 0, none⟩ = some (.int .i64 d.count) ∧ W'.cell? ⟨db, 1, none⟩ = some (.slice wa d.which.length wcap) ∧ W'.cell? ⟨db, 2, none⟩ = some (.slice qa d.fields.length qcap) ∧ W'.cell? ⟨db, 3, none⟩ = some (.slice pa d.paths.length pcap)) hmx ?_
    change Held _ _ _ _ _ _ 28 (Array.replicate 28 false) _ _
    refine hd_take 0 (v := .slice fa fields.length fcap) rfl (by kernel_rfl) (by kernel_rfl) (by kernel_rfl) rfl hS0 (fun W' hS => by go_simp) rfl ?_
    simp only [Act.put, List.setIfInBounds_toArray, List.set_cons_zero, List.set_cons_succ]
    refine hd_one 1 (by kernel_rfl) rfl (by kernel_rfl) rfl (fun K' hK => ?_)
    go_simp
    refine (HC1.out w1.drew hh0).mono ?_
    rintro e wq1 ⟨rfl, hb⟩
    have hh1 : Fr [] w1 wq1 := hh0.below hb hh0.size
    clear hb
    have hS1 : wq1.cell? ⟨db, 0, none⟩ = some (.int .i64 d.count) ∧ wq1.cell? ⟨db, 1, none⟩ = some (.slice wa d.which.length wcap) ∧ wq1.cell? ⟨db, 2, none⟩ = some (.slice qa d.fields.length qcap) ∧ wq1.cell? ⟨db, 3, none⟩ = some (.slice pa d.paths.length pcap) := ⟨hh1.cell hc0 (by simp), hh1.cell hc1 (by simp), hh1.cell hc2 (by simp), hh1.cell hc3 (by simp)⟩
    refine hK.out _ _ (fun _ => hS1) ?_
    clear hK K'
    try simp only [Act.put, List.setIfInBounds_toArray, List.set_cons_zero, List.set_cons_succ]
    refine hd_take 2 (v := .bool false) rfl (by kernel_rfl) (by kernel_rfl) (by kernel_rfl) rfl hS1 (fun W' hS => by go_simp) rfl ?_
    simp only [Act.put, List.setIfInBounds_toArray, List.set_cons_zero, List.set_cons_succ]
    refine hd_take 3 (v := .bool false) rfl (by kernel_rfl) (by kernel_rfl) (by kernel_rfl) rfl hS1 (fun W' hS => by go_simp) rfl ?_
    simp only [Act.put, List.setIfInBounds_toArray, List.set_cons_zero, List.set_cons_succ]
    refine hd_take 4 (v := .string ⟨s.toArray⟩) rfl (by kernel_rfl) (by kernel_rfl) (by kernel_rfl) rfl hS1 (fun W' hS => by go_simp) rfl ?_
    simp only [Act.put, List.setIfInBounds_toArray, List.set_cons_zero, List.set_cons_succ]
    refine hd_take 5 (v := .int .i64 (s.length : Int)) rfl (by kernel_rfl) (by kernel_rfl) (by kernel_rfl) rfl hS1 (fun W' hS => by go_simp) rfl ?_
    simp only [Act.put, List.setIfInBounds_toArray, List.set_cons_zero, List.set_cons_succ]
    refine hd_take 6 (v := .bool false) rfl (by kernel_rfl) (by kernel_rfl) (by kernel_rfl) rfl hS1 (fun W' hS => by go_simp) rfl ?_
    simp only [Act.put, List.setIfInBounds_toArray, List.set_cons_zero, List.set_cons_succ]
    refine hd_take 7 (v := .bool false) rfl (by kernel_rfl) (by kernel_rfl) (by kernel_rfl) rfl hS1 (fun W' hS => by go_simp) rfl ?_
    simp only [Act.put, List.setIfInBounds_toArray, List.set_cons_zero, List.set_cons_succ]
    refine hd_take 8 (v := .bool false) rfl (by kernel_rfl) (by kernel_rfl) (by kernel_rfl) rfl hS1 (fun W' hS => by go_simp) rfl ?_
    simp only [Act.put, List.setIfInBounds_toArray, List.set_cons_zero, List.set_cons_succ]
    refine hd_take 9 (v := .agg #[.int .i64 d.count, .slice wa d.which.length wcap, .slice qa d.fields.length qcap, .slice pa d.paths.length pcap]) rfl (by kernel_rfl) (by kernel_rfl) (by kernel_rfl) rfl hS1 (fun W' hS => by obtain ⟨h0, h1, h2, h3⟩ := hS; go_simp) rfl ?_
    simp only [Act.put, List.setIfInBounds_toArray, List.set_cons_zero, List.set_cons_succ]
    refine hd_one 10 (by kernel_rfl) rfl (by kernel_rfl) rfl (fun K' hK => ?_)
    go_simp
    refine (HC2.out wq1 hh1).mono ?_
    rintro e wq2 ⟨rfl, hb⟩
    have hh2 : Fr [] w1 wq2 := hh1.below hb hh1.size
    clear hb
    have hS2 : wq2.cell? ⟨db, 0, none⟩ = some (.int .i64 d.count) ∧ wq2.cell? ⟨db, 1, none⟩ = some (.slice wa d.which.length wcap) ∧ wq2.cell? ⟨db, 2, none⟩ = some (.slice qa d.fields.length qcap) ∧ wq2.cell? ⟨db, 3, none⟩ = some (.slice pa d.paths.length pcap) := ⟨hh2.cell hc0 (by simp), hh2.cell hc1 (by simp), hh2.cell hc2 (by simp), hh2.cell hc3 (by simp)⟩
    refine hK.out _ _ (fun _ => hS2) ?_
    clear hK K'
    try simp only [Act.put, List.setIfInBounds_toArray, List.set_cons_zero, List.set_cons_succ]
    refine hd_take 11 (v := .bool true) rfl (by kernel_rfl) (by kernel_rfl) (by kernel_rfl) rfl hS2 (fun W' hS => by go_simp) rfl ?_
    simp only [Act.put, List.setIfInBounds_toArray, List.set_cons_zero, List.set_cons_succ]
    refine hd_take 12 (v := .bool true) rfl (by kernel_rfl) (by kernel_rfl) (by kernel_rfl) rfl hS2 (fun W' hS => by go_simp) rfl ?_
    simp only [Act.put, List.setIfInBounds_toArray, List.set_cons_zero, List.set_cons_succ]
    refine hd_take 13 (v := .bool true) rfl (by kernel_rfl) (by kernel_rfl) (by kernel_rfl) rfl hS2 (fun W' hS => by go_simp) rfl ?_
    simp only [Act.put, List.setIfInBounds_toArray, List.set_cons_zero, List.set_cons_succ]
    refine hd_skip 14 rfl (by kernel_rfl) (by kernel_rfl) (by kernel_rfl) rfl hS2 rfl ?_
    refine hd_skip 16 rfl (by kernel_rfl) (by kernel_rfl) (by kernel_rfl) rfl hS2 rfl ?_
    simp only [Act.put, List.setIfInBounds_toArray, List.set_cons_zero, List.set_cons_succ]
    refine hd_skip 15 rfl (by kernel_rfl) (by kernel_rfl) (by kernel_rfl) rfl hS2 rfl ?_
    refine hd_skip 17 rfl (by kernel_rfl) (by kernel_rfl) (by kernel_rfl) rfl hS2 rfl ?_
    simp only [Act.put, List.setIfInBounds_toArray, List.set_cons_zero, List.set_cons_succ]
    refine hd_skip 18 rfl (by kernel_rfl) (by kernel_rfl) (by kernel_rfl) rfl hS2 rfl ?_
    simp only [Act.put, List.setIfInBounds_toArray, List.set_cons_zero, List.set_cons_succ]
    refine hd_take 19 (v := .bool true) rfl (by kernel_rfl) (by kernel_rfl) (by kernel_rfl) rfl hS2 (fun W' hS => by go_simp) rfl ?_
    simp only [Act.put, List.setIfInBounds_toArray, List.set_cons_zero, List.set_cons_succ]
    refine hd_take 20 (v := .bool true) rfl (by kernel_rfl) (by kernel_rfl) (by kernel_rfl) rfl hS2 (fun W' hS => by go_simp) rfl ?_
    simp only [Act.put, List.setIfInBounds_toArray, List.set_cons_zero, List.set_cons_succ]
    refine hd_skip 21 rfl (by kernel_rfl) (by kernel_rfl) (by kernel_rfl) rfl hS2 rfl ?_
    refine hd_skip 22 rfl (by kernel_rfl) (by kernel_rfl) (by kernel_rfl) rfl hS2 rfl ?_
    refine hd_skip 24 rfl (by kernel_rfl) (by kernel_rfl) (by kernel_rfl) rfl hS2 rfl ?_
    simp only [Act.put, List.setIfInBounds_toArray, List.set_cons_zero, List.set_cons_succ]
    refine hd_skip 23 rfl (by kernel_rfl) (by kernel_rfl) (by kernel_rfl) rfl hS2 rfl ?_
    simp only [Act.put, List.setIfInBounds_toArray, List.set_cons_zero, List.set_cons_succ]
    refine hd_skip 25 rfl (by kernel_rfl) (by kernel_rfl) (by kernel_rfl) rfl hS2 rfl ?_
    simp only [Act.put, List.setIfInBounds_toArray, List.set_cons_zero, List.set_cons_succ]
    refine hd_skip 26 rfl (by kernel_rfl) (by kernel_rfl) (by kernel_rfl) rfl hS2 rfl ?_
    simp only [Act.put, List.setIfInBounds_toArray, List.set_cons_zero, List.set_cons_succ]
    refine hd_take 27 (v := .bool true) rfl (by kernel_rfl) (by kernel_rfl) (by kernel_rfl) rfl hS2 (fun W' hS => by go_simp) rfl ?_
    simp only [Act.put, List.setIfInBounds_toArray, List.set_cons_zero, List.set_cons_succ]
    refine held_done (by kernel_rfl) ?_
    have HH : Fr [] w1 wq2 := hh2
    go_wp2_with fail
    go_ret
    exact ⟨rfl, (hf1.trans HH (by simp)).toBelow (by simp)⟩
  | true => ?_
  rw [hfw] at HC2
  have HFW := Lib.hid (few_parts hfw)
  clear hfw
  by_cases hdc : d.count = (fields.length : Int)
  case neg =>
    have t2 : (d.count != (fields.length : Int)) = true := by simpa using hdc
    have t2' : (d.count == (fields.length : Int)) = false := by simpa using hdc
    go_wp2_with fail
    have hc0 := c0
    have hc1 := c1
    have hc2 := c2
    have hc3 := c3
    have hh0 : Fr [] w1 w1.drew := (Fr.refl [] w1).drew
    have hS0 : w1.drew.cell? ⟨db, 0, none⟩ = some (.int .i64 d.count) ∧ w1.drew.cell? ⟨db, 1, none⟩ = some (.slice wa d.which.length wcap) ∧ w1.drew.cell? ⟨db, 2, none⟩ = some (.slice qa d.fields.length qcap) ∧ w1.drew.cell? ⟨db, 3, none⟩ = some (.slice pa d.paths.length pcap) := ⟨hh0.cell hc0 (by simp), hh0.cell hc1 (by simp), hh0.cell hc2 (by simp), hh0.cell hc3 (by simp)⟩
    refine region_held 100 (fun W' => W'.cell? ⟨db, 0, none⟩ = some (.int .i64 d.count) ∧ W'.cell? ⟨db, 1, none⟩ = some (.slice wa d.which.length wcap) ∧ W'.cell? ⟨db, 2, none⟩ = some (.slice qa d.fields.length qcap) ∧ W'.cell? ⟨db, 3, none⟩ = some (.slice pa d.paths.length pcap)) hmx ?_
    change Held _ _ _ _ _ _ 28 (Array.replicate 28 false) _ _
    refine hd_take 0 (v := .slice fa fields.length fcap) rfl (by kernel_rfl) (by kernel_rfl) (by kernel_rfl) rfl hS0 (fun W' hS => by go_simp) rfl ?_
    simp only [Act.put, List.setIfInBounds_toArray, List.set_cons_zero, List.set_cons_succ]
    refine hd_one 1 (by kernel_rfl) rfl (by kernel_rfl) rfl (fun K' hK => ?_)
    go_simp
    refine (HC1.out w1.drew hh0).mono ?_
    rintro e wq1 ⟨rfl, hb⟩
    have hh1 : Fr [] w1 wq1 := hh0.below hb hh0.size
    clear hb
    have hS1 : wq1.cell? ⟨db, 0, none⟩ = some (.int .i64 d.count) ∧ wq1.cell? ⟨db, 1, none⟩ = some (.slice wa d.which.length wcap) ∧ wq1.cell? ⟨db, 2, none⟩ = some (.slice qa d.fields.length qcap) ∧ wq1.cell? ⟨db, 3, none⟩ = some (.slice pa d.paths.length pcap) := ⟨hh1.cell hc0 (by simp), hh1.cell hc1 (by simp), hh1.cell hc2 (by simp), hh1.cell hc3 (by simp)⟩
    refine hK.out _ _ (fun _ => hS1) ?_
    clear hK K'
    try simp only [Act.put, List.setIfInBounds_toArray, List.set_cons_zero, List.set_cons_succ]
    refine hd_take 2 (v := .bool false) rfl (by kernel_rfl) (by kernel_rfl) (by kernel_rfl) rfl hS1 (fun W' hS => by go_simp) rfl ?_
    simp only [Act.put, List.setIfInBounds_toArray, List.set_cons_zero, List.set_cons_succ]
    refine hd_take 3 (v := .bool false) rfl (by kernel_rfl) (by kernel_rfl) (by kernel_rfl) rfl hS1 (fun W' hS => by go_simp) rfl ?_
    simp only [Act.put, List.setIfInBounds_toArray, List.set_cons_zero, List.set_cons_succ]
    refine hd_take 4 (v := .string ⟨s.toArray⟩) rfl (by kernel_rfl) (by kernel_rfl) (by kernel_rfl) rfl hS1 (fun W' hS => by go_simp) rfl ?_
    simp only [Act.put, List.setIfInBounds_toArray, List.set_cons_zero, List.set_cons_succ]
    refine hd_take 5 (v := .int .i64 (s.length : Int)) rfl (by kernel_rfl) (by kernel_rfl) (by kernel_rfl) rfl hS1 (fun W' hS => by go_simp) rfl ?_
    simp only [Act.put, List.setIfInBounds_toArray, List.set_cons_zero, List.set_cons_succ]
    refine hd_take 6 (v := .bool false) rfl (by kernel_rfl) (by kernel_rfl) (by kernel_rfl) rfl hS1 (fun W' hS => by go_simp) rfl ?_
    simp only [Act.put, List.setIfInBounds_toArray, List.set_cons_zero, List.set_cons_succ]
    refine hd_take 7 (v := .bool false) rfl (by kernel_rfl) (by kernel_rfl) (by kernel_rfl) rfl hS1 (fun W' hS => by go_simp) rfl ?_
    simp only [Act.put, List.setIfInBounds_toArray, List.set_cons_zero, List.set_cons_succ]
    refine hd_take 8 (v := .bool false) rfl (by kernel_rfl) (by kernel_rfl) (by kernel_rfl) rfl hS1 (fun W' hS => by go_simp) rfl ?_
    simp only [Act.put, List.setIfInBounds_toArray, List.set_cons_zero, List.set_cons_succ]
    refine hd_take 9 (v := .agg #[.int .i64 d.count, .slice wa d.which.length wcap, .slice qa d.fields.length qcap, .slice pa d.paths.length pcap]) rfl (by kernel_rfl) (by kernel_rfl) (by kernel_rfl) rfl hS1 (fun W' hS => by obtain ⟨h0, h1, h2, h3⟩ := hS; go_simp) rfl ?_
    simp only [Act.put, List.setIfInBounds_toArray, List.set_cons_zero, List.set_cons_succ]
    refine hd_one 10 (by kernel_rfl) rfl (by kernel_rfl) rfl (fun K' hK => ?_)
    go_simp
    refine (HC2.out wq1 hh1).mono ?_
    rintro e wq2 ⟨rfl, hb⟩
    have hh2 : Fr [] w1 wq2 := hh1.below hb hh1.size
    clear hb
    have hS2 : wq2.cell? ⟨db, 0, none⟩ = some (.int .i64 d.count) ∧ wq2.cell? ⟨db, 1, none⟩ = some (.slice wa d.which.length wcap) ∧ wq2.cell? ⟨db, 2, none⟩ = some (.slice qa d.fields.length qcap) ∧ wq2.cell? ⟨db, 3, none⟩ = some (.slice pa d.paths.length pcap) := ⟨hh2.cell hc0 (by simp), hh2.cell hc1 (by simp), hh2.cell hc2 (by simp), hh2.cell hc3 (by simp)⟩
    refine hK.out _ _ (fun _ => hS2) ?_
    clear hK K'
    try simp only [Act.put, List.setIfInBounds_toArray, List.set_cons_zero, List.set_cons_succ]
    refine hd_take 11 (v := .bool false) rfl (by kernel_rfl) (by kernel_rfl) (by kernel_rfl) rfl hS2 (fun W' hS => by go_simp) rfl ?_
    simp only [Act.put, List.setIfInBounds_toArray, List.set_cons_zero, List.set_cons_succ]
    refine hd_take 12 (v := .bool false) rfl (by kernel_rfl) (by kernel_rfl) (by kernel_rfl) rfl hS2 (fun W' hS => by go_simp) rfl ?_
    simp only [Act.put, List.setIfInBounds_toArray, List.set_cons_zero, List.set_cons_succ]
    refine hd_take 13 (v := .bool false) rfl (by kernel_rfl) (by kernel_rfl) (by kernel_rfl) rfl hS2 (fun W' hS => by go_simp) rfl ?_
    simp only [Act.put, List.setIfInBounds_toArray, List.set_cons_zero, List.set_cons_succ]
    refine hd_take 14 (v := .pointer (some ⟨db, 0, none⟩)) rfl (by kernel_rfl) (by kernel_rfl) (by kernel_rfl) rfl hS2 (fun W' hS => by go_simp) rfl ?_
    refine hd_take 16 (v := .slice fa fields.length fcap) rfl (by kernel_rfl) (by kernel_rfl) (by kernel_rfl) rfl hS2 (fun W' hS => by go_simp) rfl ?_
    simp only [Act.put, List.setIfInBounds_toArray, List.set_cons_zero, List.set_cons_succ]
    refine hd_take 15 (v := .int .i64 d.count) rfl (by kernel_rfl) (by kernel_rfl) (by kernel_rfl) rfl hS2 (fun W' hS => by obtain ⟨h0, h1, h2, h3⟩ := hS; go_simp) rfl ?_
    refine hd_take 17 (v := .int .i64 (fields.length : Int)) rfl (by kernel_rfl) (by kernel_rfl) (by kernel_rfl) rfl hS2 (fun W' hS => by go_simp) rfl ?_
    simp only [Act.put, List.setIfInBounds_toArray, List.set_cons_zero, List.set_cons_succ]
    refine hd_take 18 (v := .bool true) rfl (by kernel_rfl) (by kernel_rfl) (by kernel_rfl) rfl hS2 (fun W' hS => by go_simp) rfl ?_
    simp only [Act.put, List.setIfInBounds_toArray, List.set_cons_zero, List.set_cons_succ]
    refine hd_take 19 (v := .bool true) rfl (by kernel_rfl) (by kernel_rfl) (by kernel_rfl) rfl hS2 (fun W' hS => by go_simp) rfl ?_
    simp only [Act.put, List.setIfInBounds_toArray, List.set_cons_zero, List.set_cons_succ]
    refine hd_take 20 (v := .bool true) rfl (by kernel_rfl) (by kernel_rfl) (by kernel_rfl) rfl hS2 (fun W' hS => by go_simp) rfl ?_
    simp only [Act.put, List.setIfInBounds_toArray, List.set_cons_zero, List.set_cons_succ]
    refine hd_skip 21 rfl (by kernel_rfl) (by kernel_rfl) (by kernel_rfl) rfl hS2 rfl ?_
    refine hd_skip 22 rfl (by kernel_rfl) (by kernel_rfl) (by kernel_rfl) rfl hS2 rfl ?_
    refine hd_skip 24 rfl (by kernel_rfl) (by kernel_rfl) (by kernel_rfl) rfl hS2 rfl ?_
    simp only [Act.put, List.setIfInBounds_toArray, List.set_cons_zero, List.set_cons_succ]
    refine hd_skip 23 rfl (by kernel_rfl) (by kernel_rfl) (by kernel_rfl) rfl hS2 rfl ?_
    simp only [Act.put, List.setIfInBounds_toArray, List.set_cons_zero, List.set_cons_succ]
    refine hd_skip 25 rfl (by kernel_rfl) (by kernel_rfl) (by kernel_rfl) rfl hS2 rfl ?_
    simp only [Act.put, List.setIfInBounds_toArray, List.set_cons_zero, List.set_cons_succ]
    refine hd_skip 26 rfl (by kernel_rfl) (by kernel_rfl) (by kernel_rfl) rfl hS2 rfl ?_
    simp only [Act.put, List.setIfInBounds_toArray, List.set_cons_zero, List.set_cons_succ]
    refine hd_take 27 (v := .bool true) rfl (by kernel_rfl) (by kernel_rfl) (by kernel_rfl) rfl hS2 (fun W' hS => by go_simp) rfl ?_
    simp only [Act.put, List.setIfInBounds_toArray, List.set_cons_zero, List.set_cons_succ]
    refine held_done (by kernel_rfl) ?_
    have HH : Fr [] w1 wq2 := hh2
    go_wp2_with fail
    go_ret
    exact ⟨rfl, (hf1.trans HH (by simp)).toBelow (by simp)⟩
  have HDC := Lib.hid hdc
  have t2 : (d.count != (fields.length : Int)) = false := by simpa using hdc
  have t2' : (d.count == (fields.length : Int)) = true := by simpa using hdc
  clear hdc
  obtain ⟨root, er⟩ : ∃ r, r = sealS fields s := ⟨_, rfl⟩
  have HC3 : Hid (∀ W, Fr [] w1 W → Calls Tryd.prog 21 #[.slice fa fields.length fcap, .string ⟨s.toArray⟩] W fun e w' => e = .returned (.string ⟨root.toArray⟩) ∧ Below W.heap.size W w') := Lib.hid (fun W hW => by
    rw [er]
    exact seal_any _ fields s W (HV.out.fr0 (hf1.trans hW (by simp))) (by have := HSH.out.2; omega) (by omega) (fun f hf => by have := HSH.out.1 f hf; omega) (HT.out.fr (hf1.trans hW (by simp))))
  have HC4 : Hid (∀ W, Fr [] w1 W → Calls Tryd.prog 24 #[.string ⟨root.toArray⟩, .agg #[.int .i64 d.count, .slice wa d.which.length wcap, .slice qa d.fields.length qcap, .slice pa d.paths.length pcap]] W fun e w' => e = .returned (.bool (chkD root d)) ∧ Below W.heap.size W w') := Lib.hid (fun W hW =>
    checkW_any root _ d W (HDV.out.fr (hf1.trans hW (by simp))) ⟨hdn, fun x hx => by have := HFW.out.2.2.1 x hx; omega, fun l hl x hx => by have := (HFW.out.2.2.2.2 l hl).1 x hx; omega⟩ (HT.out.fr (hf1.trans hW (by simp))))
  cases hck : chkD root d with
  | false =>
    rw [hck] at HC4
    clear hck er
    go_wp2_with fail
    have hc0 := c0
    have hc1 := c1
    have hc2 := c2
    have hc3 := c3
    have hh0 : Fr [] w1 w1.drew := (Fr.refl [] w1).drew
    have hS0 : w1.drew.cell? ⟨db, 0, none⟩ = some (.int .i64 d.count) ∧ w1.drew.cell? ⟨db, 1, none⟩ = some (.slice wa d.which.length wcap) ∧ w1.drew.cell? ⟨db, 2, none⟩ = some (.slice qa d.fields.length qcap) ∧ w1.drew.cell? ⟨db, 3, none⟩ = some (.slice pa d.paths.length pcap) := ⟨hh0.cell hc0 (by simp), hh0.cell hc1 (by simp), hh0.cell hc2 (by simp), hh0.cell hc3 (by simp)⟩
    refine region_held 100 (fun W' => W'.cell? ⟨db, 0, none⟩ = some (.int .i64 d.count) ∧ W'.cell? ⟨db, 1, none⟩ = some (.slice wa d.which.length wcap) ∧ W'.cell? ⟨db, 2, none⟩ = some (.slice qa d.fields.length qcap) ∧ W'.cell? ⟨db, 3, none⟩ = some (.slice pa d.paths.length pcap)) hmx ?_
    change Held _ _ _ _ _ _ 28 (Array.replicate 28 false) _ _
    refine hd_take 0 (v := .slice fa fields.length fcap) rfl (by kernel_rfl) (by kernel_rfl) (by kernel_rfl) rfl hS0 (fun W' hS => by go_simp) rfl ?_
    simp only [Act.put, List.setIfInBounds_toArray, List.set_cons_zero, List.set_cons_succ]
    refine hd_one 1 (by kernel_rfl) rfl (by kernel_rfl) rfl (fun K' hK => ?_)
    go_simp
    refine (HC1.out w1.drew hh0).mono ?_
    rintro e wq1 ⟨rfl, hb⟩
    have hh1 : Fr [] w1 wq1 := hh0.below hb hh0.size
    clear hb
    have hS1 : wq1.cell? ⟨db, 0, none⟩ = some (.int .i64 d.count) ∧ wq1.cell? ⟨db, 1, none⟩ = some (.slice wa d.which.length wcap) ∧ wq1.cell? ⟨db, 2, none⟩ = some (.slice qa d.fields.length qcap) ∧ wq1.cell? ⟨db, 3, none⟩ = some (.slice pa d.paths.length pcap) := ⟨hh1.cell hc0 (by simp), hh1.cell hc1 (by simp), hh1.cell hc2 (by simp), hh1.cell hc3 (by simp)⟩
    refine hK.out _ _ (fun _ => hS1) ?_
    clear hK K'
    try simp only [Act.put, List.setIfInBounds_toArray, List.set_cons_zero, List.set_cons_succ]
    refine hd_take 2 (v := .bool false) rfl (by kernel_rfl) (by kernel_rfl) (by kernel_rfl) rfl hS1 (fun W' hS => by go_simp) rfl ?_
    simp only [Act.put, List.setIfInBounds_toArray, List.set_cons_zero, List.set_cons_succ]
    refine hd_take 3 (v := .bool false) rfl (by kernel_rfl) (by kernel_rfl) (by kernel_rfl) rfl hS1 (fun W' hS => by go_simp) rfl ?_
    simp only [Act.put, List.setIfInBounds_toArray, List.set_cons_zero, List.set_cons_succ]
    refine hd_take 4 (v := .string ⟨s.toArray⟩) rfl (by kernel_rfl) (by kernel_rfl) (by kernel_rfl) rfl hS1 (fun W' hS => by go_simp) rfl ?_
    simp only [Act.put, List.setIfInBounds_toArray, List.set_cons_zero, List.set_cons_succ]
    refine hd_take 5 (v := .int .i64 (s.length : Int)) rfl (by kernel_rfl) (by kernel_rfl) (by kernel_rfl) rfl hS1 (fun W' hS => by go_simp) rfl ?_
    simp only [Act.put, List.setIfInBounds_toArray, List.set_cons_zero, List.set_cons_succ]
    refine hd_take 6 (v := .bool false) rfl (by kernel_rfl) (by kernel_rfl) (by kernel_rfl) rfl hS1 (fun W' hS => by go_simp) rfl ?_
    simp only [Act.put, List.setIfInBounds_toArray, List.set_cons_zero, List.set_cons_succ]
    refine hd_take 7 (v := .bool false) rfl (by kernel_rfl) (by kernel_rfl) (by kernel_rfl) rfl hS1 (fun W' hS => by go_simp) rfl ?_
    simp only [Act.put, List.setIfInBounds_toArray, List.set_cons_zero, List.set_cons_succ]
    refine hd_take 8 (v := .bool false) rfl (by kernel_rfl) (by kernel_rfl) (by kernel_rfl) rfl hS1 (fun W' hS => by go_simp) rfl ?_
    simp only [Act.put, List.setIfInBounds_toArray, List.set_cons_zero, List.set_cons_succ]
    refine hd_take 9 (v := .agg #[.int .i64 d.count, .slice wa d.which.length wcap, .slice qa d.fields.length qcap, .slice pa d.paths.length pcap]) rfl (by kernel_rfl) (by kernel_rfl) (by kernel_rfl) rfl hS1 (fun W' hS => by obtain ⟨h0, h1, h2, h3⟩ := hS; go_simp) rfl ?_
    simp only [Act.put, List.setIfInBounds_toArray, List.set_cons_zero, List.set_cons_succ]
    refine hd_one 10 (by kernel_rfl) rfl (by kernel_rfl) rfl (fun K' hK => ?_)
    go_simp
    refine (HC2.out wq1 hh1).mono ?_
    rintro e wq2 ⟨rfl, hb⟩
    have hh2 : Fr [] w1 wq2 := hh1.below hb hh1.size
    clear hb
    have hS2 : wq2.cell? ⟨db, 0, none⟩ = some (.int .i64 d.count) ∧ wq2.cell? ⟨db, 1, none⟩ = some (.slice wa d.which.length wcap) ∧ wq2.cell? ⟨db, 2, none⟩ = some (.slice qa d.fields.length qcap) ∧ wq2.cell? ⟨db, 3, none⟩ = some (.slice pa d.paths.length pcap) := ⟨hh2.cell hc0 (by simp), hh2.cell hc1 (by simp), hh2.cell hc2 (by simp), hh2.cell hc3 (by simp)⟩
    refine hK.out _ _ (fun _ => hS2) ?_
    clear hK K'
    try simp only [Act.put, List.setIfInBounds_toArray, List.set_cons_zero, List.set_cons_succ]
    refine hd_take 11 (v := .bool false) rfl (by kernel_rfl) (by kernel_rfl) (by kernel_rfl) rfl hS2 (fun W' hS => by go_simp) rfl ?_
    simp only [Act.put, List.setIfInBounds_toArray, List.set_cons_zero, List.set_cons_succ]
    refine hd_take 12 (v := .bool false) rfl (by kernel_rfl) (by kernel_rfl) (by kernel_rfl) rfl hS2 (fun W' hS => by go_simp) rfl ?_
    simp only [Act.put, List.setIfInBounds_toArray, List.set_cons_zero, List.set_cons_succ]
    refine hd_take 13 (v := .bool false) rfl (by kernel_rfl) (by kernel_rfl) (by kernel_rfl) rfl hS2 (fun W' hS => by go_simp) rfl ?_
    simp only [Act.put, List.setIfInBounds_toArray, List.set_cons_zero, List.set_cons_succ]
    refine hd_take 14 (v := .pointer (some ⟨db, 0, none⟩)) rfl (by kernel_rfl) (by kernel_rfl) (by kernel_rfl) rfl hS2 (fun W' hS => by go_simp) rfl ?_
    refine hd_take 16 (v := .slice fa fields.length fcap) rfl (by kernel_rfl) (by kernel_rfl) (by kernel_rfl) rfl hS2 (fun W' hS => by go_simp) rfl ?_
    simp only [Act.put, List.setIfInBounds_toArray, List.set_cons_zero, List.set_cons_succ]
    refine hd_take 15 (v := .int .i64 d.count) rfl (by kernel_rfl) (by kernel_rfl) (by kernel_rfl) rfl hS2 (fun W' hS => by obtain ⟨h0, h1, h2, h3⟩ := hS; go_simp) rfl ?_
    refine hd_take 17 (v := .int .i64 (fields.length : Int)) rfl (by kernel_rfl) (by kernel_rfl) (by kernel_rfl) rfl hS2 (fun W' hS => by go_simp) rfl ?_
    simp only [Act.put, List.setIfInBounds_toArray, List.set_cons_zero, List.set_cons_succ]
    refine hd_take 18 (v := .bool false) rfl (by kernel_rfl) (by kernel_rfl) (by kernel_rfl) rfl hS2 (fun W' hS => by go_simp) rfl ?_
    simp only [Act.put, List.setIfInBounds_toArray, List.set_cons_zero, List.set_cons_succ]
    refine hd_take 19 (v := .bool false) rfl (by kernel_rfl) (by kernel_rfl) (by kernel_rfl) rfl hS2 (fun W' hS => by go_simp) rfl ?_
    simp only [Act.put, List.setIfInBounds_toArray, List.set_cons_zero, List.set_cons_succ]
    refine hd_take 20 (v := .bool false) rfl (by kernel_rfl) (by kernel_rfl) (by kernel_rfl) rfl hS2 (fun W' hS => by go_simp) rfl ?_
    simp only [Act.put, List.setIfInBounds_toArray, List.set_cons_zero, List.set_cons_succ]
    refine hd_take 21 (v := .slice fa fields.length fcap) rfl (by kernel_rfl) (by kernel_rfl) (by kernel_rfl) rfl hS2 (fun W' hS => by go_simp) rfl ?_
    refine hd_take 22 (v := .string ⟨s.toArray⟩) rfl (by kernel_rfl) (by kernel_rfl) (by kernel_rfl) rfl hS2 (fun W' hS => by go_simp) rfl ?_
    refine hd_take 24 (v := .agg #[.int .i64 d.count, .slice wa d.which.length wcap, .slice qa d.fields.length qcap, .slice pa d.paths.length pcap]) rfl (by kernel_rfl) (by kernel_rfl) (by kernel_rfl) rfl hS2 (fun W' hS => by obtain ⟨h0, h1, h2, h3⟩ := hS; go_simp) rfl ?_
    simp only [Act.put, List.setIfInBounds_toArray, List.set_cons_zero, List.set_cons_succ]
    refine hd_one 23 (by kernel_rfl) rfl (by kernel_rfl) rfl (fun K' hK => ?_)
    go_simp
    refine (HC3.out wq2 hh2).mono ?_
    rintro e wq3 ⟨rfl, hb⟩
    have hh3 : Fr [] w1 wq3 := hh2.below hb hh2.size
    clear hb
    have hS3 : wq3.cell? ⟨db, 0, none⟩ = some (.int .i64 d.count) ∧ wq3.cell? ⟨db, 1, none⟩ = some (.slice wa d.which.length wcap) ∧ wq3.cell? ⟨db, 2, none⟩ = some (.slice qa d.fields.length qcap) ∧ wq3.cell? ⟨db, 3, none⟩ = some (.slice pa d.paths.length pcap) := ⟨hh3.cell hc0 (by simp), hh3.cell hc1 (by simp), hh3.cell hc2 (by simp), hh3.cell hc3 (by simp)⟩
    refine hK.out _ _ (fun _ => hS3) ?_
    clear hK K'
    try simp only [Act.put, List.setIfInBounds_toArray, List.set_cons_zero, List.set_cons_succ]
    refine hd_one 25 (by kernel_rfl) rfl (by kernel_rfl) rfl (fun K' hK => ?_)
    go_simp
    refine (HC4.out wq3 hh3).mono ?_
    rintro e wq4 ⟨rfl, hb⟩
    have hh4 : Fr [] w1 wq4 := hh3.below hb hh3.size
    clear hb
    have hS4 : wq4.cell? ⟨db, 0, none⟩ = some (.int .i64 d.count) ∧ wq4.cell? ⟨db, 1, none⟩ = some (.slice wa d.which.length wcap) ∧ wq4.cell? ⟨db, 2, none⟩ = some (.slice qa d.fields.length qcap) ∧ wq4.cell? ⟨db, 3, none⟩ = some (.slice pa d.paths.length pcap) := ⟨hh4.cell hc0 (by simp), hh4.cell hc1 (by simp), hh4.cell hc2 (by simp), hh4.cell hc3 (by simp)⟩
    refine hK.out _ _ (fun _ => hS4) ?_
    clear hK K'
    try simp only [Act.put, List.setIfInBounds_toArray, List.set_cons_zero, List.set_cons_succ]
    refine hd_take 26 (v := .bool true) rfl (by kernel_rfl) (by kernel_rfl) (by kernel_rfl) rfl hS4 (fun W' hS => by go_simp) rfl ?_
    simp only [Act.put, List.setIfInBounds_toArray, List.set_cons_zero, List.set_cons_succ]
    refine hd_take 27 (v := .bool true) rfl (by kernel_rfl) (by kernel_rfl) (by kernel_rfl) rfl hS4 (fun W' hS => by go_simp) rfl ?_
    simp only [Act.put, List.setIfInBounds_toArray, List.set_cons_zero, List.set_cons_succ]
    refine held_done (by kernel_rfl) ?_
    have HH : Fr [] w1 wq4 := hh4
    go_wp2_with fail
    go_ret
    exact ⟨rfl, (hf1.trans HH (by simp)).toBelow (by simp)⟩
  | true => ?_
  rw [hck] at HC4
  rw [er] at hck
  have HCP := Lib.hid (chk_parts hck)
  clear hck er
  go_wp2_with fail
  have hc0 := c0
  have hc1 := c1
  have hc2 := c2
  have hc3 := c3
  have hh0 : Fr [] w1 w1.drew := (Fr.refl [] w1).drew
  have hS0 : w1.drew.cell? ⟨db, 0, none⟩ = some (.int .i64 d.count) ∧ w1.drew.cell? ⟨db, 1, none⟩ = some (.slice wa d.which.length wcap) ∧ w1.drew.cell? ⟨db, 2, none⟩ = some (.slice qa d.fields.length qcap) ∧ w1.drew.cell? ⟨db, 3, none⟩ = some (.slice pa d.paths.length pcap) := ⟨hh0.cell hc0 (by simp), hh0.cell hc1 (by simp), hh0.cell hc2 (by simp), hh0.cell hc3 (by simp)⟩
  refine region_held 100 (fun W' => W'.cell? ⟨db, 0, none⟩ = some (.int .i64 d.count) ∧ W'.cell? ⟨db, 1, none⟩ = some (.slice wa d.which.length wcap) ∧ W'.cell? ⟨db, 2, none⟩ = some (.slice qa d.fields.length qcap) ∧ W'.cell? ⟨db, 3, none⟩ = some (.slice pa d.paths.length pcap)) hmx ?_
  change Held _ _ _ _ _ _ 28 (Array.replicate 28 false) _ _
  refine hd_take 0 (v := .slice fa fields.length fcap) rfl (by kernel_rfl) (by kernel_rfl) (by kernel_rfl) rfl hS0 (fun W' hS => by go_simp) rfl ?_
  simp only [Act.put, List.setIfInBounds_toArray, List.set_cons_zero, List.set_cons_succ]
  refine hd_one 1 (by kernel_rfl) rfl (by kernel_rfl) rfl (fun K' hK => ?_)
  go_simp
  refine (HC1.out w1.drew hh0).mono ?_
  rintro e wq1 ⟨rfl, hb⟩
  have hh1 : Fr [] w1 wq1 := hh0.below hb hh0.size
  clear hb
  have hS1 : wq1.cell? ⟨db, 0, none⟩ = some (.int .i64 d.count) ∧ wq1.cell? ⟨db, 1, none⟩ = some (.slice wa d.which.length wcap) ∧ wq1.cell? ⟨db, 2, none⟩ = some (.slice qa d.fields.length qcap) ∧ wq1.cell? ⟨db, 3, none⟩ = some (.slice pa d.paths.length pcap) := ⟨hh1.cell hc0 (by simp), hh1.cell hc1 (by simp), hh1.cell hc2 (by simp), hh1.cell hc3 (by simp)⟩
  refine hK.out _ _ (fun _ => hS1) ?_
  clear hK K'
  try simp only [Act.put, List.setIfInBounds_toArray, List.set_cons_zero, List.set_cons_succ]
  refine hd_take 2 (v := .bool false) rfl (by kernel_rfl) (by kernel_rfl) (by kernel_rfl) rfl hS1 (fun W' hS => by go_simp) rfl ?_
  simp only [Act.put, List.setIfInBounds_toArray, List.set_cons_zero, List.set_cons_succ]
  refine hd_take 3 (v := .bool false) rfl (by kernel_rfl) (by kernel_rfl) (by kernel_rfl) rfl hS1 (fun W' hS => by go_simp) rfl ?_
  simp only [Act.put, List.setIfInBounds_toArray, List.set_cons_zero, List.set_cons_succ]
  refine hd_take 4 (v := .string ⟨s.toArray⟩) rfl (by kernel_rfl) (by kernel_rfl) (by kernel_rfl) rfl hS1 (fun W' hS => by go_simp) rfl ?_
  simp only [Act.put, List.setIfInBounds_toArray, List.set_cons_zero, List.set_cons_succ]
  refine hd_take 5 (v := .int .i64 (s.length : Int)) rfl (by kernel_rfl) (by kernel_rfl) (by kernel_rfl) rfl hS1 (fun W' hS => by go_simp) rfl ?_
  simp only [Act.put, List.setIfInBounds_toArray, List.set_cons_zero, List.set_cons_succ]
  refine hd_take 6 (v := .bool false) rfl (by kernel_rfl) (by kernel_rfl) (by kernel_rfl) rfl hS1 (fun W' hS => by go_simp) rfl ?_
  simp only [Act.put, List.setIfInBounds_toArray, List.set_cons_zero, List.set_cons_succ]
  refine hd_take 7 (v := .bool false) rfl (by kernel_rfl) (by kernel_rfl) (by kernel_rfl) rfl hS1 (fun W' hS => by go_simp) rfl ?_
  simp only [Act.put, List.setIfInBounds_toArray, List.set_cons_zero, List.set_cons_succ]
  refine hd_take 8 (v := .bool false) rfl (by kernel_rfl) (by kernel_rfl) (by kernel_rfl) rfl hS1 (fun W' hS => by go_simp) rfl ?_
  simp only [Act.put, List.setIfInBounds_toArray, List.set_cons_zero, List.set_cons_succ]
  refine hd_take 9 (v := .agg #[.int .i64 d.count, .slice wa d.which.length wcap, .slice qa d.fields.length qcap, .slice pa d.paths.length pcap]) rfl (by kernel_rfl) (by kernel_rfl) (by kernel_rfl) rfl hS1 (fun W' hS => by obtain ⟨h0, h1, h2, h3⟩ := hS; go_simp) rfl ?_
  simp only [Act.put, List.setIfInBounds_toArray, List.set_cons_zero, List.set_cons_succ]
  refine hd_one 10 (by kernel_rfl) rfl (by kernel_rfl) rfl (fun K' hK => ?_)
  go_simp
  refine (HC2.out wq1 hh1).mono ?_
  rintro e wq2 ⟨rfl, hb⟩
  have hh2 : Fr [] w1 wq2 := hh1.below hb hh1.size
  clear hb
  have hS2 : wq2.cell? ⟨db, 0, none⟩ = some (.int .i64 d.count) ∧ wq2.cell? ⟨db, 1, none⟩ = some (.slice wa d.which.length wcap) ∧ wq2.cell? ⟨db, 2, none⟩ = some (.slice qa d.fields.length qcap) ∧ wq2.cell? ⟨db, 3, none⟩ = some (.slice pa d.paths.length pcap) := ⟨hh2.cell hc0 (by simp), hh2.cell hc1 (by simp), hh2.cell hc2 (by simp), hh2.cell hc3 (by simp)⟩
  refine hK.out _ _ (fun _ => hS2) ?_
  clear hK K'
  try simp only [Act.put, List.setIfInBounds_toArray, List.set_cons_zero, List.set_cons_succ]
  refine hd_take 11 (v := .bool false) rfl (by kernel_rfl) (by kernel_rfl) (by kernel_rfl) rfl hS2 (fun W' hS => by go_simp) rfl ?_
  simp only [Act.put, List.setIfInBounds_toArray, List.set_cons_zero, List.set_cons_succ]
  refine hd_take 12 (v := .bool false) rfl (by kernel_rfl) (by kernel_rfl) (by kernel_rfl) rfl hS2 (fun W' hS => by go_simp) rfl ?_
  simp only [Act.put, List.setIfInBounds_toArray, List.set_cons_zero, List.set_cons_succ]
  refine hd_take 13 (v := .bool false) rfl (by kernel_rfl) (by kernel_rfl) (by kernel_rfl) rfl hS2 (fun W' hS => by go_simp) rfl ?_
  simp only [Act.put, List.setIfInBounds_toArray, List.set_cons_zero, List.set_cons_succ]
  refine hd_take 14 (v := .pointer (some ⟨db, 0, none⟩)) rfl (by kernel_rfl) (by kernel_rfl) (by kernel_rfl) rfl hS2 (fun W' hS => by go_simp) rfl ?_
  refine hd_take 16 (v := .slice fa fields.length fcap) rfl (by kernel_rfl) (by kernel_rfl) (by kernel_rfl) rfl hS2 (fun W' hS => by go_simp) rfl ?_
  simp only [Act.put, List.setIfInBounds_toArray, List.set_cons_zero, List.set_cons_succ]
  refine hd_take 15 (v := .int .i64 d.count) rfl (by kernel_rfl) (by kernel_rfl) (by kernel_rfl) rfl hS2 (fun W' hS => by obtain ⟨h0, h1, h2, h3⟩ := hS; go_simp) rfl ?_
  refine hd_take 17 (v := .int .i64 (fields.length : Int)) rfl (by kernel_rfl) (by kernel_rfl) (by kernel_rfl) rfl hS2 (fun W' hS => by go_simp) rfl ?_
  simp only [Act.put, List.setIfInBounds_toArray, List.set_cons_zero, List.set_cons_succ]
  refine hd_take 18 (v := .bool false) rfl (by kernel_rfl) (by kernel_rfl) (by kernel_rfl) rfl hS2 (fun W' hS => by go_simp) rfl ?_
  simp only [Act.put, List.setIfInBounds_toArray, List.set_cons_zero, List.set_cons_succ]
  refine hd_take 19 (v := .bool false) rfl (by kernel_rfl) (by kernel_rfl) (by kernel_rfl) rfl hS2 (fun W' hS => by go_simp) rfl ?_
  simp only [Act.put, List.setIfInBounds_toArray, List.set_cons_zero, List.set_cons_succ]
  refine hd_take 20 (v := .bool false) rfl (by kernel_rfl) (by kernel_rfl) (by kernel_rfl) rfl hS2 (fun W' hS => by go_simp) rfl ?_
  simp only [Act.put, List.setIfInBounds_toArray, List.set_cons_zero, List.set_cons_succ]
  refine hd_take 21 (v := .slice fa fields.length fcap) rfl (by kernel_rfl) (by kernel_rfl) (by kernel_rfl) rfl hS2 (fun W' hS => by go_simp) rfl ?_
  refine hd_take 22 (v := .string ⟨s.toArray⟩) rfl (by kernel_rfl) (by kernel_rfl) (by kernel_rfl) rfl hS2 (fun W' hS => by go_simp) rfl ?_
  refine hd_take 24 (v := .agg #[.int .i64 d.count, .slice wa d.which.length wcap, .slice qa d.fields.length qcap, .slice pa d.paths.length pcap]) rfl (by kernel_rfl) (by kernel_rfl) (by kernel_rfl) rfl hS2 (fun W' hS => by obtain ⟨h0, h1, h2, h3⟩ := hS; go_simp) rfl ?_
  simp only [Act.put, List.setIfInBounds_toArray, List.set_cons_zero, List.set_cons_succ]
  refine hd_one 23 (by kernel_rfl) rfl (by kernel_rfl) rfl (fun K' hK => ?_)
  go_simp
  refine (HC3.out wq2 hh2).mono ?_
  rintro e wq3 ⟨rfl, hb⟩
  have hh3 : Fr [] w1 wq3 := hh2.below hb hh2.size
  clear hb
  have hS3 : wq3.cell? ⟨db, 0, none⟩ = some (.int .i64 d.count) ∧ wq3.cell? ⟨db, 1, none⟩ = some (.slice wa d.which.length wcap) ∧ wq3.cell? ⟨db, 2, none⟩ = some (.slice qa d.fields.length qcap) ∧ wq3.cell? ⟨db, 3, none⟩ = some (.slice pa d.paths.length pcap) := ⟨hh3.cell hc0 (by simp), hh3.cell hc1 (by simp), hh3.cell hc2 (by simp), hh3.cell hc3 (by simp)⟩
  refine hK.out _ _ (fun _ => hS3) ?_
  clear hK K'
  try simp only [Act.put, List.setIfInBounds_toArray, List.set_cons_zero, List.set_cons_succ]
  refine hd_one 25 (by kernel_rfl) rfl (by kernel_rfl) rfl (fun K' hK => ?_)
  go_simp
  refine (HC4.out wq3 hh3).mono ?_
  rintro e wq4 ⟨rfl, hb⟩
  have hh4 : Fr [] w1 wq4 := hh3.below hb hh3.size
  clear hb
  have hS4 : wq4.cell? ⟨db, 0, none⟩ = some (.int .i64 d.count) ∧ wq4.cell? ⟨db, 1, none⟩ = some (.slice wa d.which.length wcap) ∧ wq4.cell? ⟨db, 2, none⟩ = some (.slice qa d.fields.length qcap) ∧ wq4.cell? ⟨db, 3, none⟩ = some (.slice pa d.paths.length pcap) := ⟨hh4.cell hc0 (by simp), hh4.cell hc1 (by simp), hh4.cell hc2 (by simp), hh4.cell hc3 (by simp)⟩
  refine hK.out _ _ (fun _ => hS4) ?_
  clear hK K'
  try simp only [Act.put, List.setIfInBounds_toArray, List.set_cons_zero, List.set_cons_succ]
  refine hd_take 26 (v := .bool false) rfl (by kernel_rfl) (by kernel_rfl) (by kernel_rfl) rfl hS4 (fun W' hS => by go_simp) rfl ?_
  simp only [Act.put, List.setIfInBounds_toArray, List.set_cons_zero, List.set_cons_succ]
  refine hd_take 27 (v := .bool false) rfl (by kernel_rfl) (by kernel_rfl) (by kernel_rfl) rfl hS4 (fun W' hS => by go_simp) rfl ?_
  simp only [Act.put, List.setIfInBounds_toArray, List.set_cons_zero, List.set_cons_succ]
  refine held_done (by kernel_rfl) ?_
  have HH : Fr [] w1 wq4 := hh4
  generalize wq4 = wz at HH ⊢
  have hf2 : Fr [] w wz := hf1.trans HH (by simp)
  have F12 := Lib.hid HH
  clear HH c0 c1 c2 c3 HC1 HC2 HC3 HC4 t1 t2 t2'
  go_wp2_with fail
  refine (elements31_any _ fields s wz (HV.out.fr0 hf2) (by have := HSH.out.2; omega) (by omega) (fun f hf => by have := HSH.out.1 f hf; omega) (HT.out.fr hf2)).mono ?_
  rintro e w3 ⟨lv, rfl, hl3, hb3⟩
  have hf3 : Fr [] w w3 := hf2.below hb3 hf2.size
  have F13 := Lib.hid (F12.out.below hb3 F12.out.size)
  have HL3 := Lib.hid hl3.strs
  clear hb3 hf2 hl3
  obtain ⟨la, lcap, rfl, hlln, hla⟩ : ∃ a c, lv = .slice a fields.length c ∧ fields.length ≤ 9223372036854775807 ∧ (∀ i, i < fields.length → ∃ b off, a = some ⟨b, off, none⟩) := by
    obtain ⟨a, c, h1, h2, h3⟩ := HL3.out.form
    simp only [elemsL_length] at h1 h2 h3
    exact ⟨a, c, h1, h2, h3⟩
  obtain ⟨c0, c1, c2, c3⟩ := Q1.out.fr F13.out (by simp)
  have HN1 := Lib.hid HCP.out.2.1
  have HN2 := Lib.hid HCP.out.2.2.1
  have t3 : ((d.which.length : Int) != (d.fields.length : Int)) = false := by have := HN1.out; simp; omega
  have t3' : (d.which.length != d.fields.length) = false := by have := HN1.out; simp; omega
  have t4 : ((d.which.length : Int) != (d.paths.length : Int)) = false := by have := HN2.out; simp; omega
  have t4' : (d.which.length != d.paths.length) = false := by have := HN2.out; simp; omega
  go_wp2_with fail
  go_loopg [9] (d.which.length + 1) (fun gh i wr => ∃ k : Nat, k ≤ d.which.length ∧ gh = d.which.length + 1 - k ∧ i = .int .i64 (k : Int) ∧ Fr [] w3 wr)
  case atStart => exact ⟨0, by omega, by omega, rfl, Fr.refl _ _⟩
  case round =>
    clear c0 c1 c2 c3 t3 t3' t4 t4'
    obtain ⟨k, hk, hgh, rfl, hfr⟩ := hrel
    have HG := Lib.hid hgh
    clear hgh
    have g3r : Fr [] w wr := hf3.trans hfr (by simp)
    obtain ⟨c0, c1, c2, c3⟩ := Q1.out.fr (F13.out.trans hfr (by simp)) (by simp)
    by_cases hlt : k < d.which.length
    · have t1 : decide ((k : Int) < (d.which.length : Int)) = true := by simp; omega
      obtain ⟨wb, wo, rfl⟩ := hwa k hlt
      obtain ⟨qb, qo, rfl⟩ := hqa k (by rw [HN1.out]; exact hlt)
      obtain ⟨pb, po, rfl⟩ := hpa k (by rw [HN2.out]; exact hlt)
      have cw := g3r.cell (HW.out.cell k hlt) (by simp)
      have cq := g3r.cell (HQ.out.cell k (by rw [HN1.out]; exact hlt)) (by simp)
      obtain ⟨u, hcu, hsu⟩ := HP.out.cell k (by rw [HN2.out]; exact hlt)
      have cu := g3r.cell hcu (by simp)
      have hz := incB_in HCP.out.1 (by decide) _ (getD_mem d.which k 0 hlt)
      obtain ⟨m, hm⟩ : ∃ m : Nat, d.which.getD k 0 = (m : Int) := ⟨(d.which.getD k 0).toNat, by omega⟩
      have hml : m < fields.length := by have := HDC.out; omega
      obtain ⟨x, p, hpp, hx, hcb⟩ := step_parts (HCP.out.2.2.2 k hlt)
      rw [hm] at cw hcb
      rw [hpp] at hsu
      have hsu := hsu.strong (by simp)
      have hps := (HFW.out.2.2.2.2 _ (getD_mem d.paths k [] (by rw [HN2.out]; exact hlt)))
      rw [hpp] at hps
      have HXL : Hid (x.length ≤ 200) := Lib.hid (hps.1 x (by simp))
      have HPS : Hid (∀ y ∈ p, y.length ≤ 1000000) := Lib.hid (fun y hy => by have := hps.1 y (by simp [hy]); omega)
      have HPL : Hid (p.length ≤ 100000) := Lib.hid (by have := hps.2; simp at this; omega)
      have HQL : Hid ((d.fields.getD k []).length ≤ 200) := Lib.hid (HFW.out.2.2.1 _ (getD_mem d.fields k [] (by rw [HN1.out]; exact hlt)))
      have HLAW : Hid (foundL (elemsL fields s) m (x ++ d.fields.getD k []) p = false → d.fields.getD k [] = fields.getD m [] ∧ x = saltS s m) := Lib.hid (fun h => sound_law HDC.out hml hx hcb h)
      have HLS : Hid (∀ y ∈ elemsL fields s, y.length ≤ 1000000) := Lib.hid (elemsL_short (fun f hf => by have := HSH.out.1 f hf; omega))
      generalize d.fields.getD k [] = f at cq HLAW HQL
      obtain ⟨lb, lo, rfl⟩ := hfa m hml
      have cf := g3r.cell (HV.out.cell m hml) (by simp)
      generalize fields.getD m [] = g at cf HLAW
      have hsl := saltS_length s m
      have HSA : Hid (∀ W, Fr [] wr W → Calls Tryd.prog 28 #[.string ⟨s.toArray⟩, .int .i64 (m : Int)] W fun e w' => e = .returned (.string ⟨(saltS s m).toArray⟩) ∧ Below W.heap.size W w') := Lib.hid (fun W hW =>
        salt31_any s m W (by have := HSH.out.2; omega) (by omega) (HT.out.fr (g3r.trans hW (by simp))))
      generalize saltS s m = sx at HLAW HSA hsl
      obtain ⟨ua, ucap, rfl, hul, hua⟩ := hsu.form
      obtain ⟨ub, uo, rfl⟩ := hua 0 (by simp)
      have HSU := Lib.hid hsu
      have c5 := g3r.cell (hsu.cell 0 (by simp)) (by simp)
      rw [Nat.add_zero, show (x :: p).getD 0 [] = x from rfl] at c5
      have hcap := hsu.capOf
      have HUB : Hid (ub < w.heap.size) := Lib.hid (hsu.blk ub rfl)
      have HTL := Lib.hid (hsu.tl (by simp))
      have hql : (x :: p).length = p.length + 1 := rfl
      rw [hql] at cu HTL hcap
      have HFO : ∀ (pq : Value), Strs w pq p → Hid (∀ W, Fr [] wr W → Calls Tryd.prog 29 #[.slice la fields.length lcap, .int .i64 (m : Int), .string ⟨(x ++ f).toArray⟩, pq] W fun e w' => e = .returned (.bool (foundL (elemsL fields s) m (x ++ f) p)) ∧ Below W.heap.size W w') := fun pq hpq => Lib.hid (fun W hW =>
        found_any _ (elemsL fields s) m (x ++ f) pq p W (HL3.out.fr0 (hfr.trans hW (by simp))) (hpq.fr0 (g3r.trans hW (by simp))) (by rw [elemsL_length]; exact hml) (by rw [elemsL_length]; have := HSH.out.2; omega) HLS.out (by rw [List.length_append]; have := HXL.out; have := HQL.out; omega) HPS.out HPL.out (HT.out.fr (g3r.trans hW (by simp))))
      generalize foundL (elemsL fields s) m (x ++ f) p = fd at HLAW HFO
      have g0 : (0 : Int) ≤ (k : Int) := by omega
      have g1 : (k : Int) < (d.which.length : Int) := by omega
      have g2 : (k : Int) < (d.fields.length : Int) := by have := HN1.out; omega
      have g3 : (k : Int) < (d.paths.length : Int) := by have := HN2.out; omega
      have g4 : (0 : Int) ≤ (m : Int) := by omega
      have g5 : (m : Int) < (fields.length : Int) := by omega
      have t5 : decide ((m : Int) < 0) = false := by simp
      have t6 : decide ((fields.length : Int) ≤ (m : Int)) = false := by simp; omega
      have t6' : decide (fields.length ≤ m) = false := by simp; omega
      obtain ⟨pn, epn⟩ : ∃ pn, pn = p.length + 1 := ⟨_, rfl⟩
      rw [← epn] at cu HTL hcap
      have t7 : ((pn : Int) == 0) = false := by rw [beq_eq_false_iff_ne]; omega
      have t7' : (pn == 0) = false := by rw [beq_eq_false_iff_ne]; omega
      have t8 : decide ((0 : Int) < (pn : Int)) = true := by simp; omega
      have t8' : decide (0 < pn) = true := by simp; omega
      have g6 : (0 : Int) < (pn : Int) := by omega
      have g6' : 0 < pn := by omega
      have g7 : (1 : Int) ≤ (pn : Int) := by omega
      have EPN := Lib.hid epn
      clear hm hz hpp hx hcb hcu hsu hps hul hua hql hsl epn
      by_cases hfg : f = g
      · subst hfg
        have t9 : (f == f) = true := by simp
        by_cases hxs : x = sx
        · subst hxs
          have t10 : (x == x) = true := by simp
          clear HLAW
          go_wp2_with fail
          have hc0 := c2
          have hc1 := c3
          have hc2 := cq
          have hc3 := cf
          have hc4 := cu
          have hc5 := c5
          have hh0 : Fr [] wr wr.drew := (Fr.refl [] wr).drew
          have hS0 : wr.drew.cell? ⟨db, 2, none⟩ = some (.slice (some ⟨qb, qo, none⟩) d.fields.length qcap) ∧ wr.drew.cell? ⟨db, 3, none⟩ = some (.slice (some ⟨pb, po, none⟩) d.paths.length pcap) ∧ wr.drew.cell? ⟨qb, qo + k, none⟩ = some (.string ⟨f.toArray⟩) ∧ wr.drew.cell? ⟨lb, lo + m, none⟩ = some (.string ⟨f.toArray⟩) ∧ wr.drew.cell? ⟨pb, po + k, none⟩ = some (.slice (some ⟨ub, uo, none⟩) pn ucap) ∧ wr.drew.cell? ⟨ub, uo, none⟩ = some (.string ⟨x.toArray⟩) := ⟨hh0.cell hc0 (by simp), hh0.cell hc1 (by simp), hh0.cell hc2 (by simp), hh0.cell hc3 (by simp), hh0.cell hc4 (by simp), hh0.cell hc5 (by simp)⟩
          refine region_held 100 (fun W' => W'.cell? ⟨db, 2, none⟩ = some (.slice (some ⟨qb, qo, none⟩) d.fields.length qcap) ∧ W'.cell? ⟨db, 3, none⟩ = some (.slice (some ⟨pb, po, none⟩) d.paths.length pcap) ∧ W'.cell? ⟨qb, qo + k, none⟩ = some (.string ⟨f.toArray⟩) ∧ W'.cell? ⟨lb, lo + m, none⟩ = some (.string ⟨f.toArray⟩) ∧ W'.cell? ⟨pb, po + k, none⟩ = some (.slice (some ⟨ub, uo, none⟩) pn ucap) ∧ W'.cell? ⟨ub, uo, none⟩ = some (.string ⟨x.toArray⟩)) hmx ?_
          change Held _ _ _ _ _ _ 23 (Array.replicate 23 false) _ _
          refine hd_take 0 (v := .pointer (some ⟨db, 2, none⟩)) rfl (by kernel_rfl) (by kernel_rfl) (by kernel_rfl) rfl hS0 (fun W' hS => by go_simp) rfl ?_
          refine hd_take 2 (v := .int .i64 (k : Int)) rfl (by kernel_rfl) (by kernel_rfl) (by kernel_rfl) rfl hS0 (fun W' hS => by go_simp) rfl ?_
          refine hd_take 5 (v := .slice (some ⟨lb, lo, none⟩) fields.length fcap) rfl (by kernel_rfl) (by kernel_rfl) (by kernel_rfl) rfl hS0 (fun W' hS => by go_simp) rfl ?_
          refine hd_take 6 (v := .int .i64 (m : Int)) rfl (by kernel_rfl) (by kernel_rfl) (by kernel_rfl) rfl hS0 (fun W' hS => by go_simp) rfl ?_
          simp only [Act.put, List.setIfInBounds_toArray, List.set_cons_zero, List.set_cons_succ]
          refine hd_take 1 (v := .slice (some ⟨qb, qo, none⟩) d.fields.length qcap) rfl (by kernel_rfl) (by kernel_rfl) (by kernel_rfl) rfl hS0 (fun W' hS => by obtain ⟨h0, h1, h2, h3, h4, h5⟩ := hS; go_simp) rfl ?_
          refine hd_take 7 (v := .pointer (some ⟨lb, lo + m, none⟩)) rfl (by kernel_rfl) (by kernel_rfl) (by kernel_rfl) rfl hS0 (fun W' hS => by first | (go_simp; done) | (go_simp; intro hix; omega)) rfl ?_
          simp only [Act.put, List.setIfInBounds_toArray, List.set_cons_zero, List.set_cons_succ]
          refine hd_take 3 (v := .pointer (some ⟨qb, qo + k, none⟩)) rfl (by kernel_rfl) (by kernel_rfl) (by kernel_rfl) rfl hS0 (fun W' hS => by first | (go_simp; done) | (go_simp; intro hix; omega)) rfl ?_
          refine hd_take 8 (v := .string ⟨f.toArray⟩) rfl (by kernel_rfl) (by kernel_rfl) (by kernel_rfl) rfl hS0 (fun W' hS => by obtain ⟨h0, h1, h2, h3, h4, h5⟩ := hS; go_simp) rfl ?_
          simp only [Act.put, List.setIfInBounds_toArray, List.set_cons_zero, List.set_cons_succ]
          refine hd_take 4 (v := .string ⟨f.toArray⟩) rfl (by kernel_rfl) (by kernel_rfl) (by kernel_rfl) rfl hS0 (fun W' hS => by obtain ⟨h0, h1, h2, h3, h4, h5⟩ := hS; go_simp) rfl ?_
          simp only [Act.put, List.setIfInBounds_toArray, List.set_cons_zero, List.set_cons_succ]
          refine hd_take 9 (v := .bool true) rfl (by kernel_rfl) (by kernel_rfl) (by kernel_rfl) rfl hS0 (fun W' hS => by go_simp) rfl ?_
          simp only [Act.put, List.setIfInBounds_toArray, List.set_cons_zero, List.set_cons_succ]
          refine hd_take 10 (v := .bool true) rfl (by kernel_rfl) (by kernel_rfl) (by kernel_rfl) rfl hS0 (fun W' hS => by go_simp) rfl ?_
          simp only [Act.put, List.setIfInBounds_toArray, List.set_cons_zero, List.set_cons_succ]
          refine hd_take 11 (v := .pointer (some ⟨db, 3, none⟩)) rfl (by kernel_rfl) (by kernel_rfl) (by kernel_rfl) rfl hS0 (fun W' hS => by go_simp) rfl ?_
          refine hd_take 13 (v := .int .i64 (k : Int)) rfl (by kernel_rfl) (by kernel_rfl) (by kernel_rfl) rfl hS0 (fun W' hS => by go_simp) rfl ?_
          refine hd_take 18 (v := .string ⟨s.toArray⟩) rfl (by kernel_rfl) (by kernel_rfl) (by kernel_rfl) rfl hS0 (fun W' hS => by go_simp) rfl ?_
          refine hd_take 19 (v := .int .i64 (m : Int)) rfl (by kernel_rfl) (by kernel_rfl) (by kernel_rfl) rfl hS0 (fun W' hS => by go_simp) rfl ?_
          simp only [Act.put, List.setIfInBounds_toArray, List.set_cons_zero, List.set_cons_succ]
          refine hd_take 12 (v := .slice (some ⟨pb, po, none⟩) d.paths.length pcap) rfl (by kernel_rfl) (by kernel_rfl) (by kernel_rfl) rfl hS0 (fun W' hS => by obtain ⟨h0, h1, h2, h3, h4, h5⟩ := hS; go_simp) rfl ?_
          simp only [Act.put, List.setIfInBounds_toArray, List.set_cons_zero, List.set_cons_succ]
          refine hd_take 14 (v := .pointer (some ⟨pb, po + k, none⟩)) rfl (by kernel_rfl) (by kernel_rfl) (by kernel_rfl) rfl hS0 (fun W' hS => by first | (go_simp; done) | (go_simp; intro hix; omega)) rfl ?_
          simp only [Act.put, List.setIfInBounds_toArray, List.set_cons_zero, List.set_cons_succ]
          refine hd_take 15 (v := .slice (some ⟨ub, uo, none⟩) pn ucap) rfl (by kernel_rfl) (by kernel_rfl) (by kernel_rfl) rfl hS0 (fun W' hS => by obtain ⟨h0, h1, h2, h3, h4, h5⟩ := hS; go_simp) rfl ?_
          simp only [Act.put, List.setIfInBounds_toArray, List.set_cons_zero, List.set_cons_succ]
          refine hd_take 16 (v := .pointer (some ⟨ub, uo, none⟩)) rfl (by kernel_rfl) (by kernel_rfl) (by kernel_rfl) rfl hS0 (fun W' hS => by first | (go_simp; done) | (go_simp; intro hix; omega)) rfl ?_
          simp only [Act.put, List.setIfInBounds_toArray, List.set_cons_zero, List.set_cons_succ]
          refine hd_take 17 (v := .string ⟨x.toArray⟩) rfl (by kernel_rfl) (by kernel_rfl) (by kernel_rfl) rfl hS0 (fun W' hS => by obtain ⟨h0, h1, h2, h3, h4, h5⟩ := hS; go_simp) rfl ?_
          simp only [Act.put, List.setIfInBounds_toArray, List.set_cons_zero, List.set_cons_succ]
          refine hd_one 20 (by kernel_rfl) rfl (by kernel_rfl) rfl (fun K' hK => ?_)
          go_simp
          refine (HSA.out wr.drew hh0).mono ?_
          rintro e wq1 ⟨rfl, hb⟩
          have hh1 : Fr [] wr wq1 := hh0.below hb hh0.size
          clear hb
          have hS1 : wq1.cell? ⟨db, 2, none⟩ = some (.slice (some ⟨qb, qo, none⟩) d.fields.length qcap) ∧ wq1.cell? ⟨db, 3, none⟩ = some (.slice (some ⟨pb, po, none⟩) d.paths.length pcap) ∧ wq1.cell? ⟨qb, qo + k, none⟩ = some (.string ⟨f.toArray⟩) ∧ wq1.cell? ⟨lb, lo + m, none⟩ = some (.string ⟨f.toArray⟩) ∧ wq1.cell? ⟨pb, po + k, none⟩ = some (.slice (some ⟨ub, uo, none⟩) pn ucap) ∧ wq1.cell? ⟨ub, uo, none⟩ = some (.string ⟨x.toArray⟩) := ⟨hh1.cell hc0 (by simp), hh1.cell hc1 (by simp), hh1.cell hc2 (by simp), hh1.cell hc3 (by simp), hh1.cell hc4 (by simp), hh1.cell hc5 (by simp)⟩
          refine hK.out _ _ (fun _ => hS1) ?_
          clear hK K'
          try simp only [Act.put, List.setIfInBounds_toArray, List.set_cons_zero, List.set_cons_succ]
          refine hd_take 21 (v := .bool true) rfl (by kernel_rfl) (by kernel_rfl) (by kernel_rfl) rfl hS1 (fun W' hS => by go_simp) rfl ?_
          simp only [Act.put, List.setIfInBounds_toArray, List.set_cons_zero, List.set_cons_succ]
          refine hd_take 22 (v := .bool true) rfl (by kernel_rfl) (by kernel_rfl) (by kernel_rfl) rfl hS1 (fun W' hS => by go_simp) rfl ?_
          simp only [Act.put, List.setIfInBounds_toArray, List.set_cons_zero, List.set_cons_succ]
          refine held_done (by kernel_rfl) ?_
          have HH : Fr [] wr wq1 := hh1
          generalize wq1 = wy at HH ⊢
          go_wp2_with fail
          go_roundg (d.which.length + 1 - (k + 1))
          case measure => have := HG.out; omega
          case rel => exact ⟨k + 1, by omega, rfl, by go_num, hfr.trans HH (by simp)⟩
        · have t10 : (x == sx) = false := by simpa using hxs
          obtain rfl : fd = true := by
            cases fd
            · exact absurd (HLAW.out rfl).2 hxs
            · rfl
          clear HLAW hxs
          go_wp2_with fail
          have hc0 := c2
          have hc1 := c3
          have hc2 := cq
          have hc3 := cf
          have hc4 := cu
          have hc5 := c5
          have hh0 : Fr [] wr wr.drew := (Fr.refl [] wr).drew
          have hS0 : wr.drew.cell? ⟨db, 2, none⟩ = some (.slice (some ⟨qb, qo, none⟩) d.fields.length qcap) ∧ wr.drew.cell? ⟨db, 3, none⟩ = some (.slice (some ⟨pb, po, none⟩) d.paths.length pcap) ∧ wr.drew.cell? ⟨qb, qo + k, none⟩ = some (.string ⟨f.toArray⟩) ∧ wr.drew.cell? ⟨lb, lo + m, none⟩ = some (.string ⟨f.toArray⟩) ∧ wr.drew.cell? ⟨pb, po + k, none⟩ = some (.slice (some ⟨ub, uo, none⟩) pn ucap) ∧ wr.drew.cell? ⟨ub, uo, none⟩ = some (.string ⟨x.toArray⟩) := ⟨hh0.cell hc0 (by simp), hh0.cell hc1 (by simp), hh0.cell hc2 (by simp), hh0.cell hc3 (by simp), hh0.cell hc4 (by simp), hh0.cell hc5 (by simp)⟩
          refine region_held 100 (fun W' => W'.cell? ⟨db, 2, none⟩ = some (.slice (some ⟨qb, qo, none⟩) d.fields.length qcap) ∧ W'.cell? ⟨db, 3, none⟩ = some (.slice (some ⟨pb, po, none⟩) d.paths.length pcap) ∧ W'.cell? ⟨qb, qo + k, none⟩ = some (.string ⟨f.toArray⟩) ∧ W'.cell? ⟨lb, lo + m, none⟩ = some (.string ⟨f.toArray⟩) ∧ W'.cell? ⟨pb, po + k, none⟩ = some (.slice (some ⟨ub, uo, none⟩) pn ucap) ∧ W'.cell? ⟨ub, uo, none⟩ = some (.string ⟨x.toArray⟩)) hmx ?_
          change Held _ _ _ _ _ _ 23 (Array.replicate 23 false) _ _
          refine hd_take 0 (v := .pointer (some ⟨db, 2, none⟩)) rfl (by kernel_rfl) (by kernel_rfl) (by kernel_rfl) rfl hS0 (fun W' hS => by go_simp) rfl ?_
          refine hd_take 2 (v := .int .i64 (k : Int)) rfl (by kernel_rfl) (by kernel_rfl) (by kernel_rfl) rfl hS0 (fun W' hS => by go_simp) rfl ?_
          refine hd_take 5 (v := .slice (some ⟨lb, lo, none⟩) fields.length fcap) rfl (by kernel_rfl) (by kernel_rfl) (by kernel_rfl) rfl hS0 (fun W' hS => by go_simp) rfl ?_
          refine hd_take 6 (v := .int .i64 (m : Int)) rfl (by kernel_rfl) (by kernel_rfl) (by kernel_rfl) rfl hS0 (fun W' hS => by go_simp) rfl ?_
          simp only [Act.put, List.setIfInBounds_toArray, List.set_cons_zero, List.set_cons_succ]
          refine hd_take 1 (v := .slice (some ⟨qb, qo, none⟩) d.fields.length qcap) rfl (by kernel_rfl) (by kernel_rfl) (by kernel_rfl) rfl hS0 (fun W' hS => by obtain ⟨h0, h1, h2, h3, h4, h5⟩ := hS; go_simp) rfl ?_
          refine hd_take 7 (v := .pointer (some ⟨lb, lo + m, none⟩)) rfl (by kernel_rfl) (by kernel_rfl) (by kernel_rfl) rfl hS0 (fun W' hS => by first | (go_simp; done) | (go_simp; intro hix; omega)) rfl ?_
          simp only [Act.put, List.setIfInBounds_toArray, List.set_cons_zero, List.set_cons_succ]
          refine hd_take 3 (v := .pointer (some ⟨qb, qo + k, none⟩)) rfl (by kernel_rfl) (by kernel_rfl) (by kernel_rfl) rfl hS0 (fun W' hS => by first | (go_simp; done) | (go_simp; intro hix; omega)) rfl ?_
          refine hd_take 8 (v := .string ⟨f.toArray⟩) rfl (by kernel_rfl) (by kernel_rfl) (by kernel_rfl) rfl hS0 (fun W' hS => by obtain ⟨h0, h1, h2, h3, h4, h5⟩ := hS; go_simp) rfl ?_
          simp only [Act.put, List.setIfInBounds_toArray, List.set_cons_zero, List.set_cons_succ]
          refine hd_take 4 (v := .string ⟨f.toArray⟩) rfl (by kernel_rfl) (by kernel_rfl) (by kernel_rfl) rfl hS0 (fun W' hS => by obtain ⟨h0, h1, h2, h3, h4, h5⟩ := hS; go_simp) rfl ?_
          simp only [Act.put, List.setIfInBounds_toArray, List.set_cons_zero, List.set_cons_succ]
          refine hd_take 9 (v := .bool true) rfl (by kernel_rfl) (by kernel_rfl) (by kernel_rfl) rfl hS0 (fun W' hS => by go_simp) rfl ?_
          simp only [Act.put, List.setIfInBounds_toArray, List.set_cons_zero, List.set_cons_succ]
          refine hd_take 10 (v := .bool true) rfl (by kernel_rfl) (by kernel_rfl) (by kernel_rfl) rfl hS0 (fun W' hS => by go_simp) rfl ?_
          simp only [Act.put, List.setIfInBounds_toArray, List.set_cons_zero, List.set_cons_succ]
          refine hd_take 11 (v := .pointer (some ⟨db, 3, none⟩)) rfl (by kernel_rfl) (by kernel_rfl) (by kernel_rfl) rfl hS0 (fun W' hS => by go_simp) rfl ?_
          refine hd_take 13 (v := .int .i64 (k : Int)) rfl (by kernel_rfl) (by kernel_rfl) (by kernel_rfl) rfl hS0 (fun W' hS => by go_simp) rfl ?_
          refine hd_take 18 (v := .string ⟨s.toArray⟩) rfl (by kernel_rfl) (by kernel_rfl) (by kernel_rfl) rfl hS0 (fun W' hS => by go_simp) rfl ?_
          refine hd_take 19 (v := .int .i64 (m : Int)) rfl (by kernel_rfl) (by kernel_rfl) (by kernel_rfl) rfl hS0 (fun W' hS => by go_simp) rfl ?_
          simp only [Act.put, List.setIfInBounds_toArray, List.set_cons_zero, List.set_cons_succ]
          refine hd_take 12 (v := .slice (some ⟨pb, po, none⟩) d.paths.length pcap) rfl (by kernel_rfl) (by kernel_rfl) (by kernel_rfl) rfl hS0 (fun W' hS => by obtain ⟨h0, h1, h2, h3, h4, h5⟩ := hS; go_simp) rfl ?_
          simp only [Act.put, List.setIfInBounds_toArray, List.set_cons_zero, List.set_cons_succ]
          refine hd_take 14 (v := .pointer (some ⟨pb, po + k, none⟩)) rfl (by kernel_rfl) (by kernel_rfl) (by kernel_rfl) rfl hS0 (fun W' hS => by first | (go_simp; done) | (go_simp; intro hix; omega)) rfl ?_
          simp only [Act.put, List.setIfInBounds_toArray, List.set_cons_zero, List.set_cons_succ]
          refine hd_take 15 (v := .slice (some ⟨ub, uo, none⟩) pn ucap) rfl (by kernel_rfl) (by kernel_rfl) (by kernel_rfl) rfl hS0 (fun W' hS => by obtain ⟨h0, h1, h2, h3, h4, h5⟩ := hS; go_simp) rfl ?_
          simp only [Act.put, List.setIfInBounds_toArray, List.set_cons_zero, List.set_cons_succ]
          refine hd_take 16 (v := .pointer (some ⟨ub, uo, none⟩)) rfl (by kernel_rfl) (by kernel_rfl) (by kernel_rfl) rfl hS0 (fun W' hS => by first | (go_simp; done) | (go_simp; intro hix; omega)) rfl ?_
          simp only [Act.put, List.setIfInBounds_toArray, List.set_cons_zero, List.set_cons_succ]
          refine hd_take 17 (v := .string ⟨x.toArray⟩) rfl (by kernel_rfl) (by kernel_rfl) (by kernel_rfl) rfl hS0 (fun W' hS => by obtain ⟨h0, h1, h2, h3, h4, h5⟩ := hS; go_simp) rfl ?_
          simp only [Act.put, List.setIfInBounds_toArray, List.set_cons_zero, List.set_cons_succ]
          refine hd_one 20 (by kernel_rfl) rfl (by kernel_rfl) rfl (fun K' hK => ?_)
          go_simp
          refine (HSA.out wr.drew hh0).mono ?_
          rintro e wq1 ⟨rfl, hb⟩
          have hh1 : Fr [] wr wq1 := hh0.below hb hh0.size
          clear hb
          have hS1 : wq1.cell? ⟨db, 2, none⟩ = some (.slice (some ⟨qb, qo, none⟩) d.fields.length qcap) ∧ wq1.cell? ⟨db, 3, none⟩ = some (.slice (some ⟨pb, po, none⟩) d.paths.length pcap) ∧ wq1.cell? ⟨qb, qo + k, none⟩ = some (.string ⟨f.toArray⟩) ∧ wq1.cell? ⟨lb, lo + m, none⟩ = some (.string ⟨f.toArray⟩) ∧ wq1.cell? ⟨pb, po + k, none⟩ = some (.slice (some ⟨ub, uo, none⟩) pn ucap) ∧ wq1.cell? ⟨ub, uo, none⟩ = some (.string ⟨x.toArray⟩) := ⟨hh1.cell hc0 (by simp), hh1.cell hc1 (by simp), hh1.cell hc2 (by simp), hh1.cell hc3 (by simp), hh1.cell hc4 (by simp), hh1.cell hc5 (by simp)⟩
          refine hK.out _ _ (fun _ => hS1) ?_
          clear hK K'
          try simp only [Act.put, List.setIfInBounds_toArray, List.set_cons_zero, List.set_cons_succ]
          refine hd_take 21 (v := .bool false) rfl (by kernel_rfl) (by kernel_rfl) (by kernel_rfl) rfl hS1 (fun W' hS => by go_simp) rfl ?_
          simp only [Act.put, List.setIfInBounds_toArray, List.set_cons_zero, List.set_cons_succ]
          refine hd_take 22 (v := .bool false) rfl (by kernel_rfl) (by kernel_rfl) (by kernel_rfl) rfl hS1 (fun W' hS => by go_simp) rfl ?_
          simp only [Act.put, List.setIfInBounds_toArray, List.set_cons_zero, List.set_cons_succ]
          refine held_done (by kernel_rfl) ?_
          have HH : Fr [] wr wq1 := hh1
          generalize wq1 = wy at HH ⊢
          have hxl9 := HXL.out
          have hql9 := HQL.out
          have e2 := HH.cell c2 (by simp)
          have e3 := HH.cell c3 (by simp)
          have eq := HH.cell cq (by simp)
          have eu := HH.cell cu (by simp)
          have e5 := HH.cell c5 (by simp)
          clear c0 c1 c2 c3 cq cf cu c5 cw
          by_cases hq1 : ucap = 1
          · subst hq1
            obtain rfl : p = [] := List.length_eq_zero_iff.1 (by have := EPN.out; omega)
            obtain rfl : pn = 1 := EPN.out
            have HFF := HFO _ (Or.inr ⟨ub, uo, 0, rfl, by simp, by decide, HUB.out, fun i hi => absurd hi (by simp)⟩)
            clear HFO
            go_wp2_with fail
            have hc0 := e2
            have hc1 := e3
            have hc2 := eq
            have hc3 := eu
            have hc4 := e5
            have hh0 : Fr [] wy wy.drew := (Fr.refl [] wy).drew
            have hS0 : wy.drew.cell? ⟨db, 2, none⟩ = some (.slice (some ⟨qb, qo, none⟩) d.fields.length qcap) ∧ wy.drew.cell? ⟨db, 3, none⟩ = some (.slice (some ⟨pb, po, none⟩) d.paths.length pcap) ∧ wy.drew.cell? ⟨qb, qo + k, none⟩ = some (.string ⟨f.toArray⟩) ∧ wy.drew.cell? ⟨pb, po + k, none⟩ = some (.slice (some ⟨ub, uo, none⟩) 1 1) ∧ wy.drew.cell? ⟨ub, uo, none⟩ = some (.string ⟨x.toArray⟩) := ⟨hh0.cell hc0 (by simp), hh0.cell hc1 (by simp), hh0.cell hc2 (by simp), hh0.cell hc3 (by simp), hh0.cell hc4 (by simp)⟩
            refine region_held 100 (fun W' => W'.cell? ⟨db, 2, none⟩ = some (.slice (some ⟨qb, qo, none⟩) d.fields.length qcap) ∧ W'.cell? ⟨db, 3, none⟩ = some (.slice (some ⟨pb, po, none⟩) d.paths.length pcap) ∧ W'.cell? ⟨qb, qo + k, none⟩ = some (.string ⟨f.toArray⟩) ∧ W'.cell? ⟨pb, po + k, none⟩ = some (.slice (some ⟨ub, uo, none⟩) 1 1) ∧ W'.cell? ⟨ub, uo, none⟩ = some (.string ⟨x.toArray⟩)) hmx ?_
            change Held _ _ _ _ _ _ 23 (Array.replicate 23 false) _ _
            refine hd_take 0 (v := .slice la fields.length lcap) rfl (by kernel_rfl) (by kernel_rfl) (by kernel_rfl) rfl hS0 (fun W' hS => by go_simp) rfl ?_
            refine hd_take 1 (v := .int .i64 (m : Int)) rfl (by kernel_rfl) (by kernel_rfl) (by kernel_rfl) rfl hS0 (fun W' hS => by go_simp) rfl ?_
            refine hd_take 2 (v := .pointer (some ⟨db, 3, none⟩)) rfl (by kernel_rfl) (by kernel_rfl) (by kernel_rfl) rfl hS0 (fun W' hS => by go_simp) rfl ?_
            refine hd_take 4 (v := .int .i64 (k : Int)) rfl (by kernel_rfl) (by kernel_rfl) (by kernel_rfl) rfl hS0 (fun W' hS => by go_simp) rfl ?_
            refine hd_take 9 (v := .pointer (some ⟨db, 2, none⟩)) rfl (by kernel_rfl) (by kernel_rfl) (by kernel_rfl) rfl hS0 (fun W' hS => by go_simp) rfl ?_
            refine hd_take 11 (v := .int .i64 (k : Int)) rfl (by kernel_rfl) (by kernel_rfl) (by kernel_rfl) rfl hS0 (fun W' hS => by go_simp) rfl ?_
            refine hd_take 15 (v := .pointer (some ⟨db, 3, none⟩)) rfl (by kernel_rfl) (by kernel_rfl) (by kernel_rfl) rfl hS0 (fun W' hS => by go_simp) rfl ?_
            refine hd_take 17 (v := .int .i64 (k : Int)) rfl (by kernel_rfl) (by kernel_rfl) (by kernel_rfl) rfl hS0 (fun W' hS => by go_simp) rfl ?_
            simp only [Act.put, List.setIfInBounds_toArray, List.set_cons_zero, List.set_cons_succ]
            refine hd_take 3 (v := .slice (some ⟨pb, po, none⟩) d.paths.length pcap) rfl (by kernel_rfl) (by kernel_rfl) (by kernel_rfl) rfl hS0 (fun W' hS => by obtain ⟨h0, h1, h2, h3, h4⟩ := hS; go_simp) rfl ?_
            refine hd_take 10 (v := .slice (some ⟨qb, qo, none⟩) d.fields.length qcap) rfl (by kernel_rfl) (by kernel_rfl) (by kernel_rfl) rfl hS0 (fun W' hS => by obtain ⟨h0, h1, h2, h3, h4⟩ := hS; go_simp) rfl ?_
            refine hd_take 16 (v := .slice (some ⟨pb, po, none⟩) d.paths.length pcap) rfl (by kernel_rfl) (by kernel_rfl) (by kernel_rfl) rfl hS0 (fun W' hS => by obtain ⟨h0, h1, h2, h3, h4⟩ := hS; go_simp) rfl ?_
            simp only [Act.put, List.setIfInBounds_toArray, List.set_cons_zero, List.set_cons_succ]
            refine hd_take 5 (v := .pointer (some ⟨pb, po + k, none⟩)) rfl (by kernel_rfl) (by kernel_rfl) (by kernel_rfl) rfl hS0 (fun W' hS => by first | (go_simp; done) | (go_simp; intro hix; omega)) rfl ?_
            refine hd_take 12 (v := .pointer (some ⟨qb, qo + k, none⟩)) rfl (by kernel_rfl) (by kernel_rfl) (by kernel_rfl) rfl hS0 (fun W' hS => by first | (go_simp; done) | (go_simp; intro hix; omega)) rfl ?_
            refine hd_take 18 (v := .pointer (some ⟨pb, po + k, none⟩)) rfl (by kernel_rfl) (by kernel_rfl) (by kernel_rfl) rfl hS0 (fun W' hS => by first | (go_simp; done) | (go_simp; intro hix; omega)) rfl ?_
            simp only [Act.put, List.setIfInBounds_toArray, List.set_cons_zero, List.set_cons_succ]
            refine hd_take 6 (v := .slice (some ⟨ub, uo, none⟩) 1 1) rfl (by kernel_rfl) (by kernel_rfl) (by kernel_rfl) rfl hS0 (fun W' hS => by obtain ⟨h0, h1, h2, h3, h4⟩ := hS; go_simp) rfl ?_
            refine hd_take 13 (v := .string ⟨f.toArray⟩) rfl (by kernel_rfl) (by kernel_rfl) (by kernel_rfl) rfl hS0 (fun W' hS => by obtain ⟨h0, h1, h2, h3, h4⟩ := hS; go_simp) rfl ?_
            refine hd_take 19 (v := .slice (some ⟨ub, uo, none⟩) 1 1) rfl (by kernel_rfl) (by kernel_rfl) (by kernel_rfl) rfl hS0 (fun W' hS => by obtain ⟨h0, h1, h2, h3, h4⟩ := hS; go_simp) rfl ?_
            simp only [Act.put, List.setIfInBounds_toArray, List.set_cons_zero, List.set_cons_succ]
            refine hd_take 7 (v := .pointer (some ⟨ub, uo, none⟩)) rfl (by kernel_rfl) (by kernel_rfl) (by kernel_rfl) rfl hS0 (fun W' hS => by first | (go_simp; done) | (go_simp; intro hix; omega)) rfl ?_
            refine hd_take 20 (v := .slice (some ⟨ub, uo, none⟩) 0 0) rfl (by kernel_rfl) (by kernel_rfl) (by kernel_rfl) rfl hS0 (fun W' hS => by go_simp) rfl ?_
            simp only [Act.put, List.setIfInBounds_toArray, List.set_cons_zero, List.set_cons_succ]
            refine hd_take 8 (v := .string ⟨x.toArray⟩) rfl (by kernel_rfl) (by kernel_rfl) (by kernel_rfl) rfl hS0 (fun W' hS => by obtain ⟨h0, h1, h2, h3, h4⟩ := hS; go_simp) rfl ?_
            simp only [Act.put, List.setIfInBounds_toArray, List.set_cons_zero, List.set_cons_succ]
            refine hd_take 14 (v := .string ⟨(x ++ f).toArray⟩) rfl (by kernel_rfl) (by kernel_rfl) (by kernel_rfl) rfl hS0 (fun W' hS => by first | (go_simp; done) | (go_simp; rw [if_neg (by omega), ba_append])) rfl ?_
            simp only [Act.put, List.setIfInBounds_toArray, List.set_cons_zero, List.set_cons_succ]
            refine hd_one 21 (by kernel_rfl) rfl (by kernel_rfl) rfl (fun K' hK => ?_)
            go_simp
            refine (HFF.out wy.drew (HH.trans hh0 (by simp))).mono ?_
            rintro e wq1 ⟨rfl, hb⟩
            have hh1 : Fr [] wy wq1 := hh0.below hb hh0.size
            clear hb
            have hS1 : wq1.cell? ⟨db, 2, none⟩ = some (.slice (some ⟨qb, qo, none⟩) d.fields.length qcap) ∧ wq1.cell? ⟨db, 3, none⟩ = some (.slice (some ⟨pb, po, none⟩) d.paths.length pcap) ∧ wq1.cell? ⟨qb, qo + k, none⟩ = some (.string ⟨f.toArray⟩) ∧ wq1.cell? ⟨pb, po + k, none⟩ = some (.slice (some ⟨ub, uo, none⟩) 1 1) ∧ wq1.cell? ⟨ub, uo, none⟩ = some (.string ⟨x.toArray⟩) := ⟨hh1.cell hc0 (by simp), hh1.cell hc1 (by simp), hh1.cell hc2 (by simp), hh1.cell hc3 (by simp), hh1.cell hc4 (by simp)⟩
            refine hK.out _ _ (fun _ => hS1) ?_
            clear hK K'
            try simp only [Act.put, List.setIfInBounds_toArray, List.set_cons_zero, List.set_cons_succ]
            refine hd_take 22 (v := .bool false) rfl (by kernel_rfl) (by kernel_rfl) (by kernel_rfl) rfl hS1 (fun W' hS => by go_simp) rfl ?_
            simp only [Act.put, List.setIfInBounds_toArray, List.set_cons_zero, List.set_cons_succ]
            refine held_done (by kernel_rfl) ?_
            have HY : Fr [] wy wq1 := hh1
            go_wp2_with fail
            go_roundg (d.which.length + 1 - (k + 1))
            case measure => have := HG.out; omega
            case rel => exact ⟨k + 1, by omega, rfl, by go_num, (hfr.trans HH (by simp)).trans HY (by simp)⟩
          · have HFF := HFO _ HTL.out
            have q2 : (1 : Int) ≤ (ucap : Int) := by omega
            have q3 : ¬ ucap - 1 = 0 := by omega
            have q4 : ¬ ucap ≤ 1 := by omega
            clear HFO
            go_wp2_with fail
            have hc0 := e2
            have hc1 := e3
            have hc2 := eq
            have hc3 := eu
            have hc4 := e5
            have hh0 : Fr [] wy wy.drew := (Fr.refl [] wy).drew
            have hS0 : wy.drew.cell? ⟨db, 2, none⟩ = some (.slice (some ⟨qb, qo, none⟩) d.fields.length qcap) ∧ wy.drew.cell? ⟨db, 3, none⟩ = some (.slice (some ⟨pb, po, none⟩) d.paths.length pcap) ∧ wy.drew.cell? ⟨qb, qo + k, none⟩ = some (.string ⟨f.toArray⟩) ∧ wy.drew.cell? ⟨pb, po + k, none⟩ = some (.slice (some ⟨ub, uo, none⟩) pn ucap) ∧ wy.drew.cell? ⟨ub, uo, none⟩ = some (.string ⟨x.toArray⟩) := ⟨hh0.cell hc0 (by simp), hh0.cell hc1 (by simp), hh0.cell hc2 (by simp), hh0.cell hc3 (by simp), hh0.cell hc4 (by simp)⟩
            refine region_held 100 (fun W' => W'.cell? ⟨db, 2, none⟩ = some (.slice (some ⟨qb, qo, none⟩) d.fields.length qcap) ∧ W'.cell? ⟨db, 3, none⟩ = some (.slice (some ⟨pb, po, none⟩) d.paths.length pcap) ∧ W'.cell? ⟨qb, qo + k, none⟩ = some (.string ⟨f.toArray⟩) ∧ W'.cell? ⟨pb, po + k, none⟩ = some (.slice (some ⟨ub, uo, none⟩) pn ucap) ∧ W'.cell? ⟨ub, uo, none⟩ = some (.string ⟨x.toArray⟩)) hmx ?_
            change Held _ _ _ _ _ _ 23 (Array.replicate 23 false) _ _
            refine hd_take 0 (v := .slice la fields.length lcap) rfl (by kernel_rfl) (by kernel_rfl) (by kernel_rfl) rfl hS0 (fun W' hS => by go_simp) rfl ?_
            refine hd_take 1 (v := .int .i64 (m : Int)) rfl (by kernel_rfl) (by kernel_rfl) (by kernel_rfl) rfl hS0 (fun W' hS => by go_simp) rfl ?_
            refine hd_take 2 (v := .pointer (some ⟨db, 3, none⟩)) rfl (by kernel_rfl) (by kernel_rfl) (by kernel_rfl) rfl hS0 (fun W' hS => by go_simp) rfl ?_
            refine hd_take 4 (v := .int .i64 (k : Int)) rfl (by kernel_rfl) (by kernel_rfl) (by kernel_rfl) rfl hS0 (fun W' hS => by go_simp) rfl ?_
            refine hd_take 9 (v := .pointer (some ⟨db, 2, none⟩)) rfl (by kernel_rfl) (by kernel_rfl) (by kernel_rfl) rfl hS0 (fun W' hS => by go_simp) rfl ?_
            refine hd_take 11 (v := .int .i64 (k : Int)) rfl (by kernel_rfl) (by kernel_rfl) (by kernel_rfl) rfl hS0 (fun W' hS => by go_simp) rfl ?_
            refine hd_take 15 (v := .pointer (some ⟨db, 3, none⟩)) rfl (by kernel_rfl) (by kernel_rfl) (by kernel_rfl) rfl hS0 (fun W' hS => by go_simp) rfl ?_
            refine hd_take 17 (v := .int .i64 (k : Int)) rfl (by kernel_rfl) (by kernel_rfl) (by kernel_rfl) rfl hS0 (fun W' hS => by go_simp) rfl ?_
            simp only [Act.put, List.setIfInBounds_toArray, List.set_cons_zero, List.set_cons_succ]
            refine hd_take 3 (v := .slice (some ⟨pb, po, none⟩) d.paths.length pcap) rfl (by kernel_rfl) (by kernel_rfl) (by kernel_rfl) rfl hS0 (fun W' hS => by obtain ⟨h0, h1, h2, h3, h4⟩ := hS; go_simp) rfl ?_
            refine hd_take 10 (v := .slice (some ⟨qb, qo, none⟩) d.fields.length qcap) rfl (by kernel_rfl) (by kernel_rfl) (by kernel_rfl) rfl hS0 (fun W' hS => by obtain ⟨h0, h1, h2, h3, h4⟩ := hS; go_simp) rfl ?_
            refine hd_take 16 (v := .slice (some ⟨pb, po, none⟩) d.paths.length pcap) rfl (by kernel_rfl) (by kernel_rfl) (by kernel_rfl) rfl hS0 (fun W' hS => by obtain ⟨h0, h1, h2, h3, h4⟩ := hS; go_simp) rfl ?_
            simp only [Act.put, List.setIfInBounds_toArray, List.set_cons_zero, List.set_cons_succ]
            refine hd_take 5 (v := .pointer (some ⟨pb, po + k, none⟩)) rfl (by kernel_rfl) (by kernel_rfl) (by kernel_rfl) rfl hS0 (fun W' hS => by first | (go_simp; done) | (go_simp; intro hix; omega)) rfl ?_
            refine hd_take 12 (v := .pointer (some ⟨qb, qo + k, none⟩)) rfl (by kernel_rfl) (by kernel_rfl) (by kernel_rfl) rfl hS0 (fun W' hS => by first | (go_simp; done) | (go_simp; intro hix; omega)) rfl ?_
            refine hd_take 18 (v := .pointer (some ⟨pb, po + k, none⟩)) rfl (by kernel_rfl) (by kernel_rfl) (by kernel_rfl) rfl hS0 (fun W' hS => by first | (go_simp; done) | (go_simp; intro hix; omega)) rfl ?_
            simp only [Act.put, List.setIfInBounds_toArray, List.set_cons_zero, List.set_cons_succ]
            refine hd_take 6 (v := .slice (some ⟨ub, uo, none⟩) pn ucap) rfl (by kernel_rfl) (by kernel_rfl) (by kernel_rfl) rfl hS0 (fun W' hS => by obtain ⟨h0, h1, h2, h3, h4⟩ := hS; go_simp) rfl ?_
            refine hd_take 13 (v := .string ⟨f.toArray⟩) rfl (by kernel_rfl) (by kernel_rfl) (by kernel_rfl) rfl hS0 (fun W' hS => by obtain ⟨h0, h1, h2, h3, h4⟩ := hS; go_simp) rfl ?_
            refine hd_take 19 (v := .slice (some ⟨ub, uo, none⟩) pn ucap) rfl (by kernel_rfl) (by kernel_rfl) (by kernel_rfl) rfl hS0 (fun W' hS => by obtain ⟨h0, h1, h2, h3, h4⟩ := hS; go_simp) rfl ?_
            simp only [Act.put, List.setIfInBounds_toArray, List.set_cons_zero, List.set_cons_succ]
            refine hd_take 7 (v := .pointer (some ⟨ub, uo, none⟩)) rfl (by kernel_rfl) (by kernel_rfl) (by kernel_rfl) rfl hS0 (fun W' hS => by first | (go_simp; done) | (go_simp; intro hix; omega)) rfl ?_
            refine hd_take 20 (v := .slice (some ⟨ub, uo + 1, none⟩) (pn - 1) (ucap - 1)) rfl (by kernel_rfl) (by kernel_rfl) (by kernel_rfl) rfl hS0 (fun W' hS => by go_simp) rfl ?_
            simp only [Act.put, List.setIfInBounds_toArray, List.set_cons_zero, List.set_cons_succ]
            refine hd_take 8 (v := .string ⟨x.toArray⟩) rfl (by kernel_rfl) (by kernel_rfl) (by kernel_rfl) rfl hS0 (fun W' hS => by obtain ⟨h0, h1, h2, h3, h4⟩ := hS; go_simp) rfl ?_
            simp only [Act.put, List.setIfInBounds_toArray, List.set_cons_zero, List.set_cons_succ]
            refine hd_take 14 (v := .string ⟨(x ++ f).toArray⟩) rfl (by kernel_rfl) (by kernel_rfl) (by kernel_rfl) rfl hS0 (fun W' hS => by first | (go_simp; done) | (go_simp; rw [if_neg (by omega), ba_append])) rfl ?_
            simp only [Act.put, List.setIfInBounds_toArray, List.set_cons_zero, List.set_cons_succ]
            refine hd_one 21 (by kernel_rfl) rfl (by kernel_rfl) rfl (fun K' hK => ?_)
            go_simp
            refine (HFF.out wy.drew (HH.trans hh0 (by simp))).mono ?_
            rintro e wq1 ⟨rfl, hb⟩
            have hh1 : Fr [] wy wq1 := hh0.below hb hh0.size
            clear hb
            have hS1 : wq1.cell? ⟨db, 2, none⟩ = some (.slice (some ⟨qb, qo, none⟩) d.fields.length qcap) ∧ wq1.cell? ⟨db, 3, none⟩ = some (.slice (some ⟨pb, po, none⟩) d.paths.length pcap) ∧ wq1.cell? ⟨qb, qo + k, none⟩ = some (.string ⟨f.toArray⟩) ∧ wq1.cell? ⟨pb, po + k, none⟩ = some (.slice (some ⟨ub, uo, none⟩) pn ucap) ∧ wq1.cell? ⟨ub, uo, none⟩ = some (.string ⟨x.toArray⟩) := ⟨hh1.cell hc0 (by simp), hh1.cell hc1 (by simp), hh1.cell hc2 (by simp), hh1.cell hc3 (by simp), hh1.cell hc4 (by simp)⟩
            refine hK.out _ _ (fun _ => hS1) ?_
            clear hK K'
            try simp only [Act.put, List.setIfInBounds_toArray, List.set_cons_zero, List.set_cons_succ]
            refine hd_take 22 (v := .bool false) rfl (by kernel_rfl) (by kernel_rfl) (by kernel_rfl) rfl hS1 (fun W' hS => by go_simp) rfl ?_
            simp only [Act.put, List.setIfInBounds_toArray, List.set_cons_zero, List.set_cons_succ]
            refine held_done (by kernel_rfl) ?_
            have HY : Fr [] wy wq1 := hh1
            go_wp2_with fail
            go_roundg (d.which.length + 1 - (k + 1))
            case measure => have := HG.out; omega
            case rel => exact ⟨k + 1, by omega, rfl, by go_num, (hfr.trans HH (by simp)).trans HY (by simp)⟩
      · have t9 : (f == g) = false := by simpa using hfg
        obtain rfl : fd = true := by
          cases fd
          · exact absurd (HLAW.out rfl).1 hfg
          · rfl
        clear HLAW hfg
        go_wp2_with fail
        have hc0 := c2
        have hc1 := c3
        have hc2 := cq
        have hc3 := cf
        have hc4 := cu
        have hc5 := c5
        have hh0 : Fr [] wr wr.drew := (Fr.refl [] wr).drew
        have hS0 : wr.drew.cell? ⟨db, 2, none⟩ = some (.slice (some ⟨qb, qo, none⟩) d.fields.length qcap) ∧ wr.drew.cell? ⟨db, 3, none⟩ = some (.slice (some ⟨pb, po, none⟩) d.paths.length pcap) ∧ wr.drew.cell? ⟨qb, qo + k, none⟩ = some (.string ⟨f.toArray⟩) ∧ wr.drew.cell? ⟨lb, lo + m, none⟩ = some (.string ⟨g.toArray⟩) ∧ wr.drew.cell? ⟨pb, po + k, none⟩ = some (.slice (some ⟨ub, uo, none⟩) pn ucap) ∧ wr.drew.cell? ⟨ub, uo, none⟩ = some (.string ⟨x.toArray⟩) := ⟨hh0.cell hc0 (by simp), hh0.cell hc1 (by simp), hh0.cell hc2 (by simp), hh0.cell hc3 (by simp), hh0.cell hc4 (by simp), hh0.cell hc5 (by simp)⟩
        refine region_held 100 (fun W' => W'.cell? ⟨db, 2, none⟩ = some (.slice (some ⟨qb, qo, none⟩) d.fields.length qcap) ∧ W'.cell? ⟨db, 3, none⟩ = some (.slice (some ⟨pb, po, none⟩) d.paths.length pcap) ∧ W'.cell? ⟨qb, qo + k, none⟩ = some (.string ⟨f.toArray⟩) ∧ W'.cell? ⟨lb, lo + m, none⟩ = some (.string ⟨g.toArray⟩) ∧ W'.cell? ⟨pb, po + k, none⟩ = some (.slice (some ⟨ub, uo, none⟩) pn ucap) ∧ W'.cell? ⟨ub, uo, none⟩ = some (.string ⟨x.toArray⟩)) hmx ?_
        change Held _ _ _ _ _ _ 23 (Array.replicate 23 false) _ _
        refine hd_take 0 (v := .pointer (some ⟨db, 2, none⟩)) rfl (by kernel_rfl) (by kernel_rfl) (by kernel_rfl) rfl hS0 (fun W' hS => by go_simp) rfl ?_
        refine hd_take 2 (v := .int .i64 (k : Int)) rfl (by kernel_rfl) (by kernel_rfl) (by kernel_rfl) rfl hS0 (fun W' hS => by go_simp) rfl ?_
        refine hd_take 5 (v := .slice (some ⟨lb, lo, none⟩) fields.length fcap) rfl (by kernel_rfl) (by kernel_rfl) (by kernel_rfl) rfl hS0 (fun W' hS => by go_simp) rfl ?_
        refine hd_take 6 (v := .int .i64 (m : Int)) rfl (by kernel_rfl) (by kernel_rfl) (by kernel_rfl) rfl hS0 (fun W' hS => by go_simp) rfl ?_
        simp only [Act.put, List.setIfInBounds_toArray, List.set_cons_zero, List.set_cons_succ]
        refine hd_take 1 (v := .slice (some ⟨qb, qo, none⟩) d.fields.length qcap) rfl (by kernel_rfl) (by kernel_rfl) (by kernel_rfl) rfl hS0 (fun W' hS => by obtain ⟨h0, h1, h2, h3, h4, h5⟩ := hS; go_simp) rfl ?_
        refine hd_take 7 (v := .pointer (some ⟨lb, lo + m, none⟩)) rfl (by kernel_rfl) (by kernel_rfl) (by kernel_rfl) rfl hS0 (fun W' hS => by first | (go_simp; done) | (go_simp; intro hix; omega)) rfl ?_
        simp only [Act.put, List.setIfInBounds_toArray, List.set_cons_zero, List.set_cons_succ]
        refine hd_take 3 (v := .pointer (some ⟨qb, qo + k, none⟩)) rfl (by kernel_rfl) (by kernel_rfl) (by kernel_rfl) rfl hS0 (fun W' hS => by first | (go_simp; done) | (go_simp; intro hix; omega)) rfl ?_
        refine hd_take 8 (v := .string ⟨g.toArray⟩) rfl (by kernel_rfl) (by kernel_rfl) (by kernel_rfl) rfl hS0 (fun W' hS => by obtain ⟨h0, h1, h2, h3, h4, h5⟩ := hS; go_simp) rfl ?_
        simp only [Act.put, List.setIfInBounds_toArray, List.set_cons_zero, List.set_cons_succ]
        refine hd_take 4 (v := .string ⟨f.toArray⟩) rfl (by kernel_rfl) (by kernel_rfl) (by kernel_rfl) rfl hS0 (fun W' hS => by obtain ⟨h0, h1, h2, h3, h4, h5⟩ := hS; go_simp) rfl ?_
        simp only [Act.put, List.setIfInBounds_toArray, List.set_cons_zero, List.set_cons_succ]
        refine hd_take 9 (v := .bool false) rfl (by kernel_rfl) (by kernel_rfl) (by kernel_rfl) rfl hS0 (fun W' hS => by go_simp) rfl ?_
        simp only [Act.put, List.setIfInBounds_toArray, List.set_cons_zero, List.set_cons_succ]
        refine hd_take 10 (v := .bool false) rfl (by kernel_rfl) (by kernel_rfl) (by kernel_rfl) rfl hS0 (fun W' hS => by go_simp) rfl ?_
        simp only [Act.put, List.setIfInBounds_toArray, List.set_cons_zero, List.set_cons_succ]
        refine hd_skip 11 rfl (by kernel_rfl) (by kernel_rfl) (by kernel_rfl) rfl hS0 rfl ?_
        refine hd_skip 13 rfl (by kernel_rfl) (by kernel_rfl) (by kernel_rfl) rfl hS0 rfl ?_
        refine hd_skip 18 rfl (by kernel_rfl) (by kernel_rfl) (by kernel_rfl) rfl hS0 rfl ?_
        refine hd_skip 19 rfl (by kernel_rfl) (by kernel_rfl) (by kernel_rfl) rfl hS0 rfl ?_
        simp only [Act.put, List.setIfInBounds_toArray, List.set_cons_zero, List.set_cons_succ]
        refine hd_skip 12 rfl (by kernel_rfl) (by kernel_rfl) (by kernel_rfl) rfl hS0 rfl ?_
        refine hd_skip 20 rfl (by kernel_rfl) (by kernel_rfl) (by kernel_rfl) rfl hS0 rfl ?_
        simp only [Act.put, List.setIfInBounds_toArray, List.set_cons_zero, List.set_cons_succ]
        refine hd_skip 14 rfl (by kernel_rfl) (by kernel_rfl) (by kernel_rfl) rfl hS0 rfl ?_
        simp only [Act.put, List.setIfInBounds_toArray, List.set_cons_zero, List.set_cons_succ]
        refine hd_skip 15 rfl (by kernel_rfl) (by kernel_rfl) (by kernel_rfl) rfl hS0 rfl ?_
        simp only [Act.put, List.setIfInBounds_toArray, List.set_cons_zero, List.set_cons_succ]
        refine hd_skip 16 rfl (by kernel_rfl) (by kernel_rfl) (by kernel_rfl) rfl hS0 rfl ?_
        simp only [Act.put, List.setIfInBounds_toArray, List.set_cons_zero, List.set_cons_succ]
        refine hd_skip 17 rfl (by kernel_rfl) (by kernel_rfl) (by kernel_rfl) rfl hS0 rfl ?_
        simp only [Act.put, List.setIfInBounds_toArray, List.set_cons_zero, List.set_cons_succ]
        refine hd_skip 21 rfl (by kernel_rfl) (by kernel_rfl) (by kernel_rfl) rfl hS0 rfl ?_
        simp only [Act.put, List.setIfInBounds_toArray, List.set_cons_zero, List.set_cons_succ]
        refine hd_take 22 (v := .bool false) rfl (by kernel_rfl) (by kernel_rfl) (by kernel_rfl) rfl hS0 (fun W' hS => by go_simp) rfl ?_
        simp only [Act.put, List.setIfInBounds_toArray, List.set_cons_zero, List.set_cons_succ]
        refine held_done (by kernel_rfl) ?_
        have HH : Fr [] wr wr.drew := hh0
        generalize wr.drew = wy at HH ⊢
        have hxl9 := HXL.out
        have hql9 := HQL.out
        have e2 := HH.cell c2 (by simp)
        have e3 := HH.cell c3 (by simp)
        have eq := HH.cell cq (by simp)
        have eu := HH.cell cu (by simp)
        have e5 := HH.cell c5 (by simp)
        clear c0 c1 c2 c3 cq cf cu c5 cw
        by_cases hq1 : ucap = 1
        · subst hq1
          obtain rfl : p = [] := List.length_eq_zero_iff.1 (by have := EPN.out; omega)
          obtain rfl : pn = 1 := EPN.out
          have HFF := HFO _ (Or.inr ⟨ub, uo, 0, rfl, by simp, by decide, HUB.out, fun i hi => absurd hi (by simp)⟩)
          clear HFO
          go_wp2_with fail
          have hc0 := e2
          have hc1 := e3
          have hc2 := eq
          have hc3 := eu
          have hc4 := e5
          have hh0 : Fr [] wy wy.drew := (Fr.refl [] wy).drew
          have hS0 : wy.drew.cell? ⟨db, 2, none⟩ = some (.slice (some ⟨qb, qo, none⟩) d.fields.length qcap) ∧ wy.drew.cell? ⟨db, 3, none⟩ = some (.slice (some ⟨pb, po, none⟩) d.paths.length pcap) ∧ wy.drew.cell? ⟨qb, qo + k, none⟩ = some (.string ⟨f.toArray⟩) ∧ wy.drew.cell? ⟨pb, po + k, none⟩ = some (.slice (some ⟨ub, uo, none⟩) 1 1) ∧ wy.drew.cell? ⟨ub, uo, none⟩ = some (.string ⟨x.toArray⟩) := ⟨hh0.cell hc0 (by simp), hh0.cell hc1 (by simp), hh0.cell hc2 (by simp), hh0.cell hc3 (by simp), hh0.cell hc4 (by simp)⟩
          refine region_held 100 (fun W' => W'.cell? ⟨db, 2, none⟩ = some (.slice (some ⟨qb, qo, none⟩) d.fields.length qcap) ∧ W'.cell? ⟨db, 3, none⟩ = some (.slice (some ⟨pb, po, none⟩) d.paths.length pcap) ∧ W'.cell? ⟨qb, qo + k, none⟩ = some (.string ⟨f.toArray⟩) ∧ W'.cell? ⟨pb, po + k, none⟩ = some (.slice (some ⟨ub, uo, none⟩) 1 1) ∧ W'.cell? ⟨ub, uo, none⟩ = some (.string ⟨x.toArray⟩)) hmx ?_
          change Held _ _ _ _ _ _ 23 (Array.replicate 23 false) _ _
          refine hd_take 0 (v := .slice la fields.length lcap) rfl (by kernel_rfl) (by kernel_rfl) (by kernel_rfl) rfl hS0 (fun W' hS => by go_simp) rfl ?_
          refine hd_take 1 (v := .int .i64 (m : Int)) rfl (by kernel_rfl) (by kernel_rfl) (by kernel_rfl) rfl hS0 (fun W' hS => by go_simp) rfl ?_
          refine hd_take 2 (v := .pointer (some ⟨db, 3, none⟩)) rfl (by kernel_rfl) (by kernel_rfl) (by kernel_rfl) rfl hS0 (fun W' hS => by go_simp) rfl ?_
          refine hd_take 4 (v := .int .i64 (k : Int)) rfl (by kernel_rfl) (by kernel_rfl) (by kernel_rfl) rfl hS0 (fun W' hS => by go_simp) rfl ?_
          refine hd_take 9 (v := .pointer (some ⟨db, 2, none⟩)) rfl (by kernel_rfl) (by kernel_rfl) (by kernel_rfl) rfl hS0 (fun W' hS => by go_simp) rfl ?_
          refine hd_take 11 (v := .int .i64 (k : Int)) rfl (by kernel_rfl) (by kernel_rfl) (by kernel_rfl) rfl hS0 (fun W' hS => by go_simp) rfl ?_
          refine hd_take 15 (v := .pointer (some ⟨db, 3, none⟩)) rfl (by kernel_rfl) (by kernel_rfl) (by kernel_rfl) rfl hS0 (fun W' hS => by go_simp) rfl ?_
          refine hd_take 17 (v := .int .i64 (k : Int)) rfl (by kernel_rfl) (by kernel_rfl) (by kernel_rfl) rfl hS0 (fun W' hS => by go_simp) rfl ?_
          simp only [Act.put, List.setIfInBounds_toArray, List.set_cons_zero, List.set_cons_succ]
          refine hd_take 3 (v := .slice (some ⟨pb, po, none⟩) d.paths.length pcap) rfl (by kernel_rfl) (by kernel_rfl) (by kernel_rfl) rfl hS0 (fun W' hS => by obtain ⟨h0, h1, h2, h3, h4⟩ := hS; go_simp) rfl ?_
          refine hd_take 10 (v := .slice (some ⟨qb, qo, none⟩) d.fields.length qcap) rfl (by kernel_rfl) (by kernel_rfl) (by kernel_rfl) rfl hS0 (fun W' hS => by obtain ⟨h0, h1, h2, h3, h4⟩ := hS; go_simp) rfl ?_
          refine hd_take 16 (v := .slice (some ⟨pb, po, none⟩) d.paths.length pcap) rfl (by kernel_rfl) (by kernel_rfl) (by kernel_rfl) rfl hS0 (fun W' hS => by obtain ⟨h0, h1, h2, h3, h4⟩ := hS; go_simp) rfl ?_
          simp only [Act.put, List.setIfInBounds_toArray, List.set_cons_zero, List.set_cons_succ]
          refine hd_take 5 (v := .pointer (some ⟨pb, po + k, none⟩)) rfl (by kernel_rfl) (by kernel_rfl) (by kernel_rfl) rfl hS0 (fun W' hS => by first | (go_simp; done) | (go_simp; intro hix; omega)) rfl ?_
          refine hd_take 12 (v := .pointer (some ⟨qb, qo + k, none⟩)) rfl (by kernel_rfl) (by kernel_rfl) (by kernel_rfl) rfl hS0 (fun W' hS => by first | (go_simp; done) | (go_simp; intro hix; omega)) rfl ?_
          refine hd_take 18 (v := .pointer (some ⟨pb, po + k, none⟩)) rfl (by kernel_rfl) (by kernel_rfl) (by kernel_rfl) rfl hS0 (fun W' hS => by first | (go_simp; done) | (go_simp; intro hix; omega)) rfl ?_
          simp only [Act.put, List.setIfInBounds_toArray, List.set_cons_zero, List.set_cons_succ]
          refine hd_take 6 (v := .slice (some ⟨ub, uo, none⟩) 1 1) rfl (by kernel_rfl) (by kernel_rfl) (by kernel_rfl) rfl hS0 (fun W' hS => by obtain ⟨h0, h1, h2, h3, h4⟩ := hS; go_simp) rfl ?_
          refine hd_take 13 (v := .string ⟨f.toArray⟩) rfl (by kernel_rfl) (by kernel_rfl) (by kernel_rfl) rfl hS0 (fun W' hS => by obtain ⟨h0, h1, h2, h3, h4⟩ := hS; go_simp) rfl ?_
          refine hd_take 19 (v := .slice (some ⟨ub, uo, none⟩) 1 1) rfl (by kernel_rfl) (by kernel_rfl) (by kernel_rfl) rfl hS0 (fun W' hS => by obtain ⟨h0, h1, h2, h3, h4⟩ := hS; go_simp) rfl ?_
          simp only [Act.put, List.setIfInBounds_toArray, List.set_cons_zero, List.set_cons_succ]
          refine hd_take 7 (v := .pointer (some ⟨ub, uo, none⟩)) rfl (by kernel_rfl) (by kernel_rfl) (by kernel_rfl) rfl hS0 (fun W' hS => by first | (go_simp; done) | (go_simp; intro hix; omega)) rfl ?_
          refine hd_take 20 (v := .slice (some ⟨ub, uo, none⟩) 0 0) rfl (by kernel_rfl) (by kernel_rfl) (by kernel_rfl) rfl hS0 (fun W' hS => by go_simp) rfl ?_
          simp only [Act.put, List.setIfInBounds_toArray, List.set_cons_zero, List.set_cons_succ]
          refine hd_take 8 (v := .string ⟨x.toArray⟩) rfl (by kernel_rfl) (by kernel_rfl) (by kernel_rfl) rfl hS0 (fun W' hS => by obtain ⟨h0, h1, h2, h3, h4⟩ := hS; go_simp) rfl ?_
          simp only [Act.put, List.setIfInBounds_toArray, List.set_cons_zero, List.set_cons_succ]
          refine hd_take 14 (v := .string ⟨(x ++ f).toArray⟩) rfl (by kernel_rfl) (by kernel_rfl) (by kernel_rfl) rfl hS0 (fun W' hS => by first | (go_simp; done) | (go_simp; rw [if_neg (by omega), ba_append])) rfl ?_
          simp only [Act.put, List.setIfInBounds_toArray, List.set_cons_zero, List.set_cons_succ]
          refine hd_one 21 (by kernel_rfl) rfl (by kernel_rfl) rfl (fun K' hK => ?_)
          go_simp
          refine (HFF.out wy.drew (HH.trans hh0 (by simp))).mono ?_
          rintro e wq1 ⟨rfl, hb⟩
          have hh1 : Fr [] wy wq1 := hh0.below hb hh0.size
          clear hb
          have hS1 : wq1.cell? ⟨db, 2, none⟩ = some (.slice (some ⟨qb, qo, none⟩) d.fields.length qcap) ∧ wq1.cell? ⟨db, 3, none⟩ = some (.slice (some ⟨pb, po, none⟩) d.paths.length pcap) ∧ wq1.cell? ⟨qb, qo + k, none⟩ = some (.string ⟨f.toArray⟩) ∧ wq1.cell? ⟨pb, po + k, none⟩ = some (.slice (some ⟨ub, uo, none⟩) 1 1) ∧ wq1.cell? ⟨ub, uo, none⟩ = some (.string ⟨x.toArray⟩) := ⟨hh1.cell hc0 (by simp), hh1.cell hc1 (by simp), hh1.cell hc2 (by simp), hh1.cell hc3 (by simp), hh1.cell hc4 (by simp)⟩
          refine hK.out _ _ (fun _ => hS1) ?_
          clear hK K'
          try simp only [Act.put, List.setIfInBounds_toArray, List.set_cons_zero, List.set_cons_succ]
          refine hd_take 22 (v := .bool false) rfl (by kernel_rfl) (by kernel_rfl) (by kernel_rfl) rfl hS1 (fun W' hS => by go_simp) rfl ?_
          simp only [Act.put, List.setIfInBounds_toArray, List.set_cons_zero, List.set_cons_succ]
          refine held_done (by kernel_rfl) ?_
          have HY : Fr [] wy wq1 := hh1
          go_wp2_with fail
          go_roundg (d.which.length + 1 - (k + 1))
          case measure => have := HG.out; omega
          case rel => exact ⟨k + 1, by omega, rfl, by go_num, (hfr.trans HH (by simp)).trans HY (by simp)⟩
        · have HFF := HFO _ HTL.out
          have q2 : (1 : Int) ≤ (ucap : Int) := by omega
          have q3 : ¬ ucap - 1 = 0 := by omega
          have q4 : ¬ ucap ≤ 1 := by omega
          clear HFO
          go_wp2_with fail
          have hc0 := e2
          have hc1 := e3
          have hc2 := eq
          have hc3 := eu
          have hc4 := e5
          have hh0 : Fr [] wy wy.drew := (Fr.refl [] wy).drew
          have hS0 : wy.drew.cell? ⟨db, 2, none⟩ = some (.slice (some ⟨qb, qo, none⟩) d.fields.length qcap) ∧ wy.drew.cell? ⟨db, 3, none⟩ = some (.slice (some ⟨pb, po, none⟩) d.paths.length pcap) ∧ wy.drew.cell? ⟨qb, qo + k, none⟩ = some (.string ⟨f.toArray⟩) ∧ wy.drew.cell? ⟨pb, po + k, none⟩ = some (.slice (some ⟨ub, uo, none⟩) pn ucap) ∧ wy.drew.cell? ⟨ub, uo, none⟩ = some (.string ⟨x.toArray⟩) := ⟨hh0.cell hc0 (by simp), hh0.cell hc1 (by simp), hh0.cell hc2 (by simp), hh0.cell hc3 (by simp), hh0.cell hc4 (by simp)⟩
          refine region_held 100 (fun W' => W'.cell? ⟨db, 2, none⟩ = some (.slice (some ⟨qb, qo, none⟩) d.fields.length qcap) ∧ W'.cell? ⟨db, 3, none⟩ = some (.slice (some ⟨pb, po, none⟩) d.paths.length pcap) ∧ W'.cell? ⟨qb, qo + k, none⟩ = some (.string ⟨f.toArray⟩) ∧ W'.cell? ⟨pb, po + k, none⟩ = some (.slice (some ⟨ub, uo, none⟩) pn ucap) ∧ W'.cell? ⟨ub, uo, none⟩ = some (.string ⟨x.toArray⟩)) hmx ?_
          change Held _ _ _ _ _ _ 23 (Array.replicate 23 false) _ _
          refine hd_take 0 (v := .slice la fields.length lcap) rfl (by kernel_rfl) (by kernel_rfl) (by kernel_rfl) rfl hS0 (fun W' hS => by go_simp) rfl ?_
          refine hd_take 1 (v := .int .i64 (m : Int)) rfl (by kernel_rfl) (by kernel_rfl) (by kernel_rfl) rfl hS0 (fun W' hS => by go_simp) rfl ?_
          refine hd_take 2 (v := .pointer (some ⟨db, 3, none⟩)) rfl (by kernel_rfl) (by kernel_rfl) (by kernel_rfl) rfl hS0 (fun W' hS => by go_simp) rfl ?_
          refine hd_take 4 (v := .int .i64 (k : Int)) rfl (by kernel_rfl) (by kernel_rfl) (by kernel_rfl) rfl hS0 (fun W' hS => by go_simp) rfl ?_
          refine hd_take 9 (v := .pointer (some ⟨db, 2, none⟩)) rfl (by kernel_rfl) (by kernel_rfl) (by kernel_rfl) rfl hS0 (fun W' hS => by go_simp) rfl ?_
          refine hd_take 11 (v := .int .i64 (k : Int)) rfl (by kernel_rfl) (by kernel_rfl) (by kernel_rfl) rfl hS0 (fun W' hS => by go_simp) rfl ?_
          refine hd_take 15 (v := .pointer (some ⟨db, 3, none⟩)) rfl (by kernel_rfl) (by kernel_rfl) (by kernel_rfl) rfl hS0 (fun W' hS => by go_simp) rfl ?_
          refine hd_take 17 (v := .int .i64 (k : Int)) rfl (by kernel_rfl) (by kernel_rfl) (by kernel_rfl) rfl hS0 (fun W' hS => by go_simp) rfl ?_
          simp only [Act.put, List.setIfInBounds_toArray, List.set_cons_zero, List.set_cons_succ]
          refine hd_take 3 (v := .slice (some ⟨pb, po, none⟩) d.paths.length pcap) rfl (by kernel_rfl) (by kernel_rfl) (by kernel_rfl) rfl hS0 (fun W' hS => by obtain ⟨h0, h1, h2, h3, h4⟩ := hS; go_simp) rfl ?_
          refine hd_take 10 (v := .slice (some ⟨qb, qo, none⟩) d.fields.length qcap) rfl (by kernel_rfl) (by kernel_rfl) (by kernel_rfl) rfl hS0 (fun W' hS => by obtain ⟨h0, h1, h2, h3, h4⟩ := hS; go_simp) rfl ?_
          refine hd_take 16 (v := .slice (some ⟨pb, po, none⟩) d.paths.length pcap) rfl (by kernel_rfl) (by kernel_rfl) (by kernel_rfl) rfl hS0 (fun W' hS => by obtain ⟨h0, h1, h2, h3, h4⟩ := hS; go_simp) rfl ?_
          simp only [Act.put, List.setIfInBounds_toArray, List.set_cons_zero, List.set_cons_succ]
          refine hd_take 5 (v := .pointer (some ⟨pb, po + k, none⟩)) rfl (by kernel_rfl) (by kernel_rfl) (by kernel_rfl) rfl hS0 (fun W' hS => by first | (go_simp; done) | (go_simp; intro hix; omega)) rfl ?_
          refine hd_take 12 (v := .pointer (some ⟨qb, qo + k, none⟩)) rfl (by kernel_rfl) (by kernel_rfl) (by kernel_rfl) rfl hS0 (fun W' hS => by first | (go_simp; done) | (go_simp; intro hix; omega)) rfl ?_
          refine hd_take 18 (v := .pointer (some ⟨pb, po + k, none⟩)) rfl (by kernel_rfl) (by kernel_rfl) (by kernel_rfl) rfl hS0 (fun W' hS => by first | (go_simp; done) | (go_simp; intro hix; omega)) rfl ?_
          simp only [Act.put, List.setIfInBounds_toArray, List.set_cons_zero, List.set_cons_succ]
          refine hd_take 6 (v := .slice (some ⟨ub, uo, none⟩) pn ucap) rfl (by kernel_rfl) (by kernel_rfl) (by kernel_rfl) rfl hS0 (fun W' hS => by obtain ⟨h0, h1, h2, h3, h4⟩ := hS; go_simp) rfl ?_
          refine hd_take 13 (v := .string ⟨f.toArray⟩) rfl (by kernel_rfl) (by kernel_rfl) (by kernel_rfl) rfl hS0 (fun W' hS => by obtain ⟨h0, h1, h2, h3, h4⟩ := hS; go_simp) rfl ?_
          refine hd_take 19 (v := .slice (some ⟨ub, uo, none⟩) pn ucap) rfl (by kernel_rfl) (by kernel_rfl) (by kernel_rfl) rfl hS0 (fun W' hS => by obtain ⟨h0, h1, h2, h3, h4⟩ := hS; go_simp) rfl ?_
          simp only [Act.put, List.setIfInBounds_toArray, List.set_cons_zero, List.set_cons_succ]
          refine hd_take 7 (v := .pointer (some ⟨ub, uo, none⟩)) rfl (by kernel_rfl) (by kernel_rfl) (by kernel_rfl) rfl hS0 (fun W' hS => by first | (go_simp; done) | (go_simp; intro hix; omega)) rfl ?_
          refine hd_take 20 (v := .slice (some ⟨ub, uo + 1, none⟩) (pn - 1) (ucap - 1)) rfl (by kernel_rfl) (by kernel_rfl) (by kernel_rfl) rfl hS0 (fun W' hS => by go_simp) rfl ?_
          simp only [Act.put, List.setIfInBounds_toArray, List.set_cons_zero, List.set_cons_succ]
          refine hd_take 8 (v := .string ⟨x.toArray⟩) rfl (by kernel_rfl) (by kernel_rfl) (by kernel_rfl) rfl hS0 (fun W' hS => by obtain ⟨h0, h1, h2, h3, h4⟩ := hS; go_simp) rfl ?_
          simp only [Act.put, List.setIfInBounds_toArray, List.set_cons_zero, List.set_cons_succ]
          refine hd_take 14 (v := .string ⟨(x ++ f).toArray⟩) rfl (by kernel_rfl) (by kernel_rfl) (by kernel_rfl) rfl hS0 (fun W' hS => by first | (go_simp; done) | (go_simp; rw [if_neg (by omega), ba_append])) rfl ?_
          simp only [Act.put, List.setIfInBounds_toArray, List.set_cons_zero, List.set_cons_succ]
          refine hd_one 21 (by kernel_rfl) rfl (by kernel_rfl) rfl (fun K' hK => ?_)
          go_simp
          refine (HFF.out wy.drew (HH.trans hh0 (by simp))).mono ?_
          rintro e wq1 ⟨rfl, hb⟩
          have hh1 : Fr [] wy wq1 := hh0.below hb hh0.size
          clear hb
          have hS1 : wq1.cell? ⟨db, 2, none⟩ = some (.slice (some ⟨qb, qo, none⟩) d.fields.length qcap) ∧ wq1.cell? ⟨db, 3, none⟩ = some (.slice (some ⟨pb, po, none⟩) d.paths.length pcap) ∧ wq1.cell? ⟨qb, qo + k, none⟩ = some (.string ⟨f.toArray⟩) ∧ wq1.cell? ⟨pb, po + k, none⟩ = some (.slice (some ⟨ub, uo, none⟩) pn ucap) ∧ wq1.cell? ⟨ub, uo, none⟩ = some (.string ⟨x.toArray⟩) := ⟨hh1.cell hc0 (by simp), hh1.cell hc1 (by simp), hh1.cell hc2 (by simp), hh1.cell hc3 (by simp), hh1.cell hc4 (by simp)⟩
          refine hK.out _ _ (fun _ => hS1) ?_
          clear hK K'
          try simp only [Act.put, List.setIfInBounds_toArray, List.set_cons_zero, List.set_cons_succ]
          refine hd_take 22 (v := .bool false) rfl (by kernel_rfl) (by kernel_rfl) (by kernel_rfl) rfl hS1 (fun W' hS => by go_simp) rfl ?_
          simp only [Act.put, List.setIfInBounds_toArray, List.set_cons_zero, List.set_cons_succ]
          refine held_done (by kernel_rfl) ?_
          have HY : Fr [] wy wq1 := hh1
          go_wp2_with fail
          go_roundg (d.which.length + 1 - (k + 1))
          case measure => have := HG.out; omega
          case rel => exact ⟨k + 1, by omega, rfl, by go_num, (hfr.trans HH (by simp)).trans HY (by simp)⟩
    · obtain rfl : k = d.which.length := by omega
      have t1 : decide ((d.which.length : Int) < (d.which.length : Int)) = false := by simp
      go_wp2_with fail
      go_ret
      exact ⟨rfl, g3r.toBelow (by simp)⟩
end Go.Proofs.YtmhejcndkplepaaDoor
