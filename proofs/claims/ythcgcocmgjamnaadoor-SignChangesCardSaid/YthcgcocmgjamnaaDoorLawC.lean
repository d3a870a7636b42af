/-
  foyerlaw03: SignMatchesReference.
-/
import Derived.Test.YthcgcocmgjamnaaDoorLawB
namespace Go.Proofs.YthcgcocmgjamnaaDoor
open Go.RowKit
theorem shortB_three {s p m : List UInt8} (h : shortB [s, p, m] = true) : s.length ≤ 300 ∧ p.length ≤ 300 ∧ m.length ≤ 300 := by
  simpa [shortB] using h
theorem shortB_all {l : List (List UInt8)} (h : shortB l = true) : ∀ s ∈ l, s.length ≤ 1000000 := by
  intro s hs
  simp only [shortB, Bool.and_eq_true, List.all_eq_true, decide_eq_true_eq] at h
  have := h.1 s hs
  omega
theorem strs_three {W : World} {b : Nat} {x y z : List UInt8} {t : TypeId} (h : W.heap[b]? = some (.cells #[.string ⟨x.toArray⟩, .string ⟨y.toArray⟩, .string ⟨z.toArray⟩] t (0, 0))) : Strs W (.slice (some ⟨b, 0, none⟩) 3 3) [x, y, z] := by
  refine Or.inr ⟨b, 0, 3, rfl, by simp, by decide, lt_of_block h, fun i hi => ?_⟩
  rw [Nat.zero_add, row_cell h i]
  match i, hi with
  | 0, _ => rfl
  | 1, _ => rfl
  | 2, _ => rfl
  | i + 3, hi => simp at hi; omega
set_option maxRecDepth 100000 in
set_option maxHeartbeats 2000000 in
theorem signMatchesReference_any (s p m : List UInt8) (sv : Value) (sig : List (List UInt8)) (w : World) (hT : Tabs w) (hsv : Strs w sv sig) :
    Calls Tryd.prog 3 #[.string ⟨s.toArray⟩, .string ⟨p.toArray⟩, .string ⟨m.toArray⟩, sv] w fun e w' => e = .returned (.bool true) ∧ Below w.heap.size w w' := by
  have hmx : Tryd.prog.follows .mixedOrders = true := by kernel_rfl
  have HT := Lib.hid hT
  have HV := Lib.hid hsv
  obtain ⟨a, cap, rfl, hlen, ha⟩ := hsv.form
  clear hT hsv ha
  go_enter Tryd.func3, Tryd.ntmps3
  go_wp2_with fail
  refine (head_any w HT.out).mono ?_
  rintro e w1 ⟨rfl, hb1⟩
  have hf1 : Fr [] w w1 := (Fr.refl [] w).below hb1 (Nat.le_refl _)
  go_wp2_with fail
  refine (short_any _ [s, p, m] _ (strs_three (heap_new rfl))).mono ?_
  rintro e w2 ⟨rfl, hb2⟩
  have hf2 : Fr [] w w2 := (hf1.alloc _).below hb2 (hf1.alloc _).size
  clear hb1 hb2
  cases hsh : shortB [s, p, m] with
  | false => go_wp2_with fail; go_ret; exact ⟨rfl, hf2.toBelow (by simp)⟩
  | true => ?_
  obtain ⟨hs', hp', hm'⟩ := shortB_three hsh
  clear hsh
  go_wp2_with fail
  refine (short_any _ sig _ (HV.out.fr0 hf2)).mono ?_
  rintro e w3 ⟨rfl, hb3⟩
  have hf3 : Fr [] w w3 := hf2.below hb3 hf2.size
  cases hsh : shortB sig with
  | false => go_wp2_with fail; go_ret; exact ⟨rfl, hf3.toBelow (by simp)⟩
  | true => ?_
  have HSH := Lib.hid (shortB_all hsh)
  clear hsh
  by_cases h30 : sig.length ≤ 30
  · have t1 : decide ((30 : Int) < (sig.length : Int)) = false := by simp; omega
    go_wp2_with fail
    refine (public_any s w3 (by omega) (HT.out.fr hf3)).mono ?_
    rintro e w4 ⟨rfl, hb4⟩
    have hf4 : Fr [] w w4 := hf3.below hb4 hf3.size
    go_wp2_with fail
    refine (rpublic_any s w4 (by omega)).mono ?_
    rintro e w5 ⟨rfl, hb5⟩
    have hf5 : Fr [] w w5 := hf4.below hb5 hf4.size
    have t2 : ((publicS s).toArray == (publicS s).toArray) = true := by simp
    have HPL := Lib.hid (publicS_length s)
    generalize hP : publicS s = P at HPL t2 ⊢
    go_wp2_with fail
    refine (sign_any s m w5 (by omega) (by omega) (HT.out.fr hf5)).mono ?_
    rintro e w6 ⟨va, rfl, ho6, hb6⟩
    have hf6 : Fr [] w w6 := hf5.below hb6 hf5.size
    have HA := Lib.hid ho6.strs
    clear ho6
    go_wp2_with fail
    refine (rsign_any s m w6 (by omega) (by omega)).mono ?_
    rintro e w7 ⟨vb, rfl, ho7, hb7⟩
    have hf7 : Fr [] w w7 := hf6.below hb7 hf6.size
    have HB := Lib.hid ho7.strs
    have HA7 := Lib.hid (HA.out.fr0 (Fr.ofBelow hb7))
    clear ho7
    go_wp2_with fail
    refine (rsame_any va vb _ _ w7 HA7.out HB.out).mono ?_
    rintro e w8 ⟨rfl, hb8⟩
    have hf8 : Fr [] w w8 := hf7.below hb8 hf7.size
    rw [show decide (sigS s m = sigS s m) = true by simp]
    go_wp2_with fail
    refine (verify_any p m _ sig w8 (by omega) (by omega) HSH.out (HV.out.fr0 hf8) (HT.out.fr hf8)).mono ?_
    rintro e w9 ⟨rfl, hb9⟩
    have hf9 : Fr [] w w9 := hf8.below hb9 hf8.size
    go_wp2_with fail
    refine (rverify_any p m _ sig w9 (by omega) HSH.out (HV.out.fr0 hf9)).mono ?_
    rintro e w10 ⟨rfl, hb10⟩
    have hf10 : Fr [] w w10 := hf9.below hb10 hf9.size
    have t3 : (verifyS p m sig == verifyS p m sig) = true := by simp
    generalize verifyS p m sig = b1 at t3 ⊢
    go_wp2_with fail
    refine (public_any s w10 (by omega) (HT.out.fr hf10)).mono ?_
    rintro e w11 ⟨rfl, hb11⟩
    have hf11 : Fr [] w w11 := hf10.below hb11 hf10.size
    rw [hP]
    go_wp2_with fail
    refine (verify_any P m _ sig w11 (by rw [HPL.out]; decide) (by omega) HSH.out (HV.out.fr0 hf11) (HT.out.fr hf11)).mono ?_
    rintro e w12 ⟨rfl, hb12⟩
    have hf12 : Fr [] w w12 := hf11.below hb12 hf11.size
    go_wp2_with fail
    refine (rpublic_any s w12 (by omega)).mono ?_
    rintro e w13 ⟨rfl, hb13⟩
    have hf13 : Fr [] w w13 := hf12.below hb13 hf12.size
    rw [hP]
    go_wp2_with fail
    refine (rverify_any P m _ sig w13 (by omega) HSH.out (HV.out.fr0 hf13)).mono ?_
    rintro e w14 ⟨rfl, hb14⟩
    have hf14 : Fr [] w w14 := hf13.below hb14 hf13.size
    have t4 : (verifyS P m sig == verifyS P m sig) = true := by simp
    generalize verifyS P m sig = b2 at t4 ⊢
    go_wp2_with fail
    go_ret
    exact ⟨rfl, hf14.toBelow (by simp)⟩
  · have t1 : decide ((30 : Int) < (sig.length : Int)) = true := by simp; omega
    go_wp2_with fail
    go_ret
    exact ⟨rfl, hf3.toBelow (by simp)⟩
end Go.Proofs.YthcgcocmgjamnaaDoor
