/-
  strings.Repeat of "0", up to fifteen times.
-/
import Derived.Test.YtnmakpiddfhhnaaGreatDoorFlI
import Derived.Test.YtnmakpiddfhhnaaGreatDoorJoinN
namespace Go.Proofs.YtnmakpiddfhhnaaGreatDoor
open Go.RowKit

set_option maxRecDepth 100000 in
theorem hp0_any (c : UInt8) (r : List UInt8) (w : World) (hr : r.length ≤ 1000) :
    Calls Tryz.prog 65 #[.string ⟨(c :: r).toArray⟩, .string ⟨#[48]⟩] w fun e w' => e = .returned (.bool (c == 48)) ∧ w = w' := by
  have hx : (⟨(c :: r).toArray⟩ : ByteArray).extract 0 1 = ⟨[c].toArray⟩ := by apply ByteArray.ext; simp [ByteArray.data_extract]
  have hsz : (⟨(c :: r).toArray⟩ : ByteArray).size = r.length + 1 := by simp [ByteArray.size]
  have t0 : decide ((1 : Int) ≤ ((r.length + 1 : Nat) : Int)) = true := decide_eq_true (by omega)
  go_enter Tryz.func65, Tryz.ntmps65
  go_wp2_with fail
  go_ret
  exact ⟨rfl, rfl⟩
set_option maxRecDepth 100000 in
theorem hp1_any (c : UInt8) (r : List UInt8) (w : World) (hr : r.length ≤ 1000) :
    Calls Tryz.prog 44 #[.string ⟨(c :: r).toArray⟩, .string ⟨#[48]⟩] w fun e w' => e = .returned (.bool (c == 48)) ∧ w = w' := by
  have h0 := hp0_any c r w hr
  go_enter Tryz.func44, Tryz.ntmps44
  go_wp2_with fail
  refine h0.mono ?_
  rintro e w1 ⟨rfl, rfl⟩
  go_wp2_with fail
  go_ret
  exact ⟨rfl, rfl⟩
theorem zeros_cut (n : Nat) (h : n ≤ 15) : (⟨#[48, 48, 48, 48, 48, 48, 48, 48, 48, 48, 48, 48, 48, 48, 48, 48, 48, 48, 48, 48, 48, 48, 48, 48, 48, 48, 48, 48, 48, 48, 48, 48, 48, 48, 48, 48, 48, 48, 48, 48, 48, 48, 48, 48, 48, 48, 48, 48, 48, 48, 48, 48, 48, 48, 48, 48, 48, 48, 48, 48, 48, 48, 48, 48]⟩ : ByteArray).extract 0 n = ⟨(List.replicate n 48).toArray⟩ := by
  have h1 : ∀ n : Fin 16, (⟨#[48, 48, 48, 48, 48, 48, 48, 48, 48, 48, 48, 48, 48, 48, 48, 48, 48, 48, 48, 48, 48, 48, 48, 48, 48, 48, 48, 48, 48, 48, 48, 48, 48, 48, 48, 48, 48, 48, 48, 48, 48, 48, 48, 48, 48, 48, 48, 48, 48, 48, 48, 48, 48, 48, 48, 48, 48, 48, 48, 48, 48, 48, 48, 48]⟩ : ByteArray).extract 0 n.val = ⟨(List.replicate n.val 48).toArray⟩ := by decide +kernel
  exact h1 ⟨n, by omega⟩
set_option maxRecDepth 100000 in
set_option maxHeartbeats 2000000 in
theorem repeat_any (n : Nat) (w : World) (hn : n ≤ 15) :
    Calls Tryz.prog 27 #[.string ⟨#[48]⟩, .int .i64 (n : Int)] w fun e w' => e = .returned (.string ⟨(List.replicate n 48).toArray⟩) ∧ w = w' := by
  match n, hn with
  | 0, _ =>
    go_enter Tryz.func27, Tryz.ntmps27
    go_wp2_with fail
    go_ret
    exact ⟨rfl, rfl⟩
  | 1, _ =>
    go_enter Tryz.func27, Tryz.ntmps27
    go_wp2_with fail
    go_ret
    exact ⟨rfl, rfl⟩
  | m + 2, hn =>
    obtain ⟨k, hk⟩ : ∃ k, k = m + 2 := ⟨_, rfl⟩
    rw [← hk] at hn ⊢
    have hk2 : 2 ≤ k := by omega
    clear hk
    have hcut := zeros_cut k hn
    have t0 : ((k : Int) == 0) = false := by rw [beq_eq_false_iff_ne]; omega
    have t1 : ((k : Int) == 1) = false := by rw [beq_eq_false_iff_ne]; omega
    have t2 : decide ((k : Int) < 0) = false := decide_eq_false (by omega)
    have w1 : IntKind.u64.wrap (k : Int) = (k : Int) := by rw [IntKind.wrap_u64]; omega
    have w2 : IntKind.i64.wrap (k : Int) = (k : Int) := IntWalk.i64_in _ (by omega)
    have w3 : IntKind.u64.wrap 1 = 1 := by decide
    have hm := Tryz.bits_Mul 1 k (by decide) (by omega) w
    rw [Nat.one_mul, Nat.div_eq_of_lt (by omega), Nat.mod_eq_of_lt (by omega)] at hm
    have t3 : decide ((k : Int) ≤ 128) = true := decide_eq_true (by omega)
    have t4 : decide ((k : Int) ≤ 64) = true := decide_eq_true (by omega)
    have t5 : decide (9223372036854775807 < (k : Int)) = false := decide_eq_false (by omega)
    have t6 : decide ((0 : Int) < 0) = false := by decide
    go_enter Tryz.func27, Tryz.ntmps27
    go_wp2_with fail
    refine hm.mono ?_
    rintro e w' ⟨rfl, rfl⟩
    go_wp2_with fail
    refine (hp1_any _ _ _ (by simp)).mono ?_
    rintro e w' ⟨rfl, rfl⟩
    go_wp2_with fail
    refine (hp1_any _ _ _ (by simp)).mono ?_
    rintro e w' ⟨rfl, rfl⟩
    go_wp2_with fail
    refine (hp1_any _ _ _ (by simp)).mono ?_
    rintro e w' ⟨rfl, rfl⟩
    go_wp2_with fail
    go_ret
    exact ⟨rfl, rfl⟩
end Go.Proofs.YtnmakpiddfhhnaaGreatDoor
