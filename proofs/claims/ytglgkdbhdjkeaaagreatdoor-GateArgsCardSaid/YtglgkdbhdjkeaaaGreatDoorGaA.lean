/-
  foyerlaw37.GateArgs.
-/
import Derived.Test.YtglgkdbhdjkeaaaGreatDoorGtL
namespace Go.Proofs.YtglgkdbhdjkeaaaGreatDoor
open Go.RowKit

theorem scan_new (id shw stale : Int) (t : Ttl) (now : Int) : (scanG (newG id shw stale) t now).2 = (0, 26) ∨ (scanG (newG id shw stale) t now).2 = (0, 1) := by
  unfold scanG comeG
  by_cases h : timeB now = true
  · have := timeB_iff.1 h
    left
    simp [h, newG, show ¬ now < 0 by omega]
  · right
    simp [h]
set_option maxRecDepth 100000 in
set_option maxHeartbeats 4000000 in
theorem gateArgs_any (id shw stale now : Int) (w : World) (_ : -9223372036854775808 ≤ id ∧ id < 9223372036854775808) (_ : -9223372036854775808 ≤ shw ∧ shw < 9223372036854775808) (_ : -9223372036854775808 ≤ stale ∧ stale < 9223372036854775808)
    (_ : -9223372036854775808 ≤ now ∧ now < 9223372036854775808) (hT : TabsF w) :
    Calls Tryz.prog 9 #[.int .i64 id, .int .i64 shw, .int .i64 stale, .int .i64 now] w fun e w' => e = .returned (.bool true) ∧ Below w.heap.size w w' := by
  have HT := Lib.hid hT
  clear hT
  go_enter Tryz.func9, Tryz.ntmps9
  go_wp2_with fail
  refine (head37_any w HT.out).mono ?_
  rintro e w1 ⟨rfl, hb⟩
  have f1 : Fr [] w w1 := Fr.ofBelow hb
  clear hb
  go_wp2_with fail
  refine (gnew_any id shw stale w1).mono ?_
  rintro e w2 ⟨hy, hn, hb⟩
  have f2 := f1.below hb f1.size
  have HF2 := Lib.hid f2
  have HF1 := Lib.hid f1
  clear hb f1 f2
  have hqn : ∀ w, (binOp .neq 25 (.pointer none) (.pointer none)).run Tryz.prog w = .ok (.bool false) w := fun _ => by kernel_rfl
  have hqs : ∀ w, (binOp .neq 25 (.pointer (some ⟨w1.heap.size + 1, 0, none⟩)) (.pointer none)).run Tryz.prog w = .ok (.bool true) w := fun _ => by kernel_rfl
  by_cases hg : goodG id shw stale = true
  case pos =>
    obtain ⟨rfl, hG⟩ := hy hg
    clear hy hn
    unfold goodG at hg
    rw [Bool.and_eq_true, decide_eq_true_eq, timeB_iff] at hg
    have t1 : decide (0 ≤ id) = true := by simpa using hg.1.1
    have t2 : decide (id ≤ 999) = true := by simpa using hg.1.2.1
    have t3 : decide (0 ≤ shw) = true := by simpa using hg.1.2.2.1
    have t4 : decide (shw < 20) = true := by simpa using hg.1.2.2.2
    have t5 : decide (0 ≤ stale) = true := by simpa using hg.2.1
    have t6 : decide (stale ≤ 1000000000) = true := by simpa using hg.2.2
    have HG := Lib.hid hG
    clear hg hG
    unfold gateP
    go_wp2_with fail
    refine (gscan_nil now w2).mono ?_
    rintro e w3 ⟨rfl, hb⟩
    have hg3 := HG.out.fr (Fr.ofBelow (X := []) hb) (by simp)
    have f3 := HF2.out.below hb HF2.out.size
    clear hb
    have HG3 := Lib.hid hg3
    have HF3 := Lib.hid f3
    clear hg3 f3
    go_wp2_with fail
    have hs := gscan_any w1.heap.size (w1.heap.size + 1) (newG id shw stale) [w1.heap.size + 1, w1.heap.size] (.agg #[.int .i64 0, .int .i64 0, .int .i64 0, .string ⟨#[]⟩, .slice none 0 0]) ⟨0, 0, 0, [], []⟩ now w3 HG3.out ⟨_, rfl, Trs.nil _⟩ ⟨⟨by decide, by decide, by decide⟩, by decide, by decide, fun x hx => by cases hx⟩ (HT.out.t.fr HF3.out)
    have hsn := scan_new id shw stale ⟨0, 0, 0, [], []⟩ now
    refine hs.mono ?_
    rintro e w4 ⟨rfl, hq⟩
    have f4 : Fr [] w w4 := by
      obtain ⟨F', q1, q2, q3⟩ := hq
      exact HF3.out.trans q2 (fun y hy => Or.inr (Nat.le_trans HF1.out.size (HG3.out.blocks y hy).1))
    have HF4 := Lib.hid f4
    clear hq hs f4
    rcases hsn with hsn | hsn
    all_goals
      rw [hsn]
      clear hsn
      go_wp2_with fail
      refine (gleave_nil 1 now w4).mono ?_
      rintro e w5 ⟨rfl, hb⟩
      have f5 := HF4.out.below hb HF4.out.size
      have HF5 := Lib.hid f5
      clear hb f5
      go_wp2_with fail
      refine (gsync_nil now w5).mono ?_
      rintro e w6 ⟨rfl, hb⟩
      have f6 := HF5.out.below hb HF5.out.size
      have HF6 := Lib.hid f6
      clear hb f6
      go_wp2_with fail
      refine (log_nil w6).mono ?_
      rintro e w7 ⟨rfl, rfl⟩
      go_wp2_with fail
      go_ret
      exact ⟨rfl, HF6.out.toBelow (by simp)⟩
  obtain rfl := hn (by simpa using hg)
  clear hy hn
  have hcs : (id < 0) ∨ (0 ≤ id ∧ 999 < id) ∨ (0 ≤ id ∧ id ≤ 999 ∧ shw < 0) ∨ (0 ≤ id ∧ id ≤ 999 ∧ 0 ≤ shw ∧ 20 ≤ shw) ∨ (0 ≤ id ∧ id ≤ 999 ∧ 0 ≤ shw ∧ shw < 20 ∧ stale < 0) ∨ (0 ≤ id ∧ id ≤ 999 ∧ 0 ≤ shw ∧ shw < 20 ∧ 0 ≤ stale ∧ 1000000000 < stale) := by
    unfold goodG at hg
    rw [Bool.and_eq_true, decide_eq_true_eq, timeB_iff] at hg
    omega
  clear hg
  obtain ⟨d1, d2, d3, d4, d5, d6, hd⟩ : ∃ d1 d2 d3 d4 d5 d6 : Bool, d1 = decide (0 ≤ id) ∧ d2 = decide (id ≤ 999) ∧ d3 = decide (0 ≤ shw) ∧ d4 = decide (shw < 20) ∧ d5 = decide (0 ≤ stale) ∧ d6 = decide (stale ≤ 1000000000) := ⟨_, _, _, _, _, _, rfl, rfl, rfl, rfl, rfl, rfl⟩
  clear hd d1 d2 d3 d4 d5 d6
  rcases hcs with h | h | h | h | h | h
  all_goals
    have c1 : decide (0 ≤ id) = decide (0 ≤ id) := rfl
    clear c1
    try (have t1 : decide (0 ≤ id) = true := by simp; omega)
    try (have t1 : decide (0 ≤ id) = false := by simp; omega)
    try (have t2 : decide (id ≤ 999) = true := by simp; omega)
    try (have t2 : decide (id ≤ 999) = false := by simp; omega)
    try (have t3 : decide (0 ≤ shw) = true := by simp; omega)
    try (have t3 : decide (0 ≤ shw) = false := by simp; omega)
    try (have t4 : decide (shw < 20) = true := by simp; omega)
    try (have t4 : decide (shw < 20) = false := by simp; omega)
    try (have t5 : decide (0 ≤ stale) = true := by simp; omega)
    try (have t5 : decide (0 ≤ stale) = false := by simp; omega)
    try (have t6 : decide (stale ≤ 1000000000) = false := by simp; omega)
    clear h
    go_wp2_with fail
    refine (gscan_nil now w2).mono ?_
    rintro e w3 ⟨rfl, hb⟩
    have f3 := HF2.out.below hb HF2.out.size
    have HF3 := Lib.hid f3
    clear hb f3
    go_wp2_with fail
    refine (gscan_nil now w3).mono ?_
    rintro e w4 ⟨rfl, hb⟩
    have f4 := HF3.out.below hb HF3.out.size
    have HF4 := Lib.hid f4
    clear hb f4
    go_wp2_with fail
    refine (gleave_nil 1 now w4).mono ?_
    rintro e w5 ⟨rfl, hb⟩
    have f5 := HF4.out.below hb HF4.out.size
    have HF5 := Lib.hid f5
    clear hb f5
    go_wp2_with fail
    refine (gsync_nil now w5).mono ?_
    rintro e w6 ⟨rfl, hb⟩
    have f6 := HF5.out.below hb HF5.out.size
    have HF6 := Lib.hid f6
    clear hb f6
    go_wp2_with fail
    refine (log_nil w6).mono ?_
    rintro e w7 ⟨rfl, rfl⟩
    go_wp2_with fail
    go_ret
    exact ⟨rfl, HF6.out.toBelow (by simp)⟩
end Go.Proofs.YtglgkdbhdjkeaaaGreatDoor
