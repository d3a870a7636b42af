/-
  foyerlaw03: SignKeys.
-/
import Derived.Test.YthcgcocmgjamnaaDoorLawF
namespace Go.Proofs.YthcgcocmgjamnaaDoor
open Go.RowKit
set_option maxRecDepth 100000 in
set_option maxHeartbeats 2000000 in
theorem signKeys_any (s o m : List UInt8) (w : World) (hT : Tabs w) :
    Calls Tryd.prog 7 #[.string ⟨s.toArray⟩, .string ⟨o.toArray⟩, .string ⟨m.toArray⟩] w fun e w' => e = .returned (.bool true) ∧ Below w.heap.size w w' := by
  have hmx : Tryd.prog.follows .mixedOrders = true := by kernel_rfl
  have HT := Lib.hid hT
  clear hT
  go_enter Tryd.func7, Tryd.ntmps7
  go_wp2_with fail
  refine (head_any w HT.out).mono ?_
  rintro e w1 ⟨rfl, hb1⟩
  have hf1 : Fr [] w w1 := (Fr.refl [] w).below hb1 (Nat.le_refl _)
  go_wp2_with fail
  refine (short_any _ [s, o, m] _ (strs_three (heap_new rfl))).mono ?_
  rintro e w2 ⟨rfl, hb2⟩
  have hf2 : Fr [] w w2 := (hf1.alloc _).below hb2 (hf1.alloc _).size
  clear hb1 hb2
  cases hsh : shortB [s, o, m] with
  | false => go_wp2_with fail; go_ret; exact ⟨rfl, hf2.toBelow (by simp)⟩
  | true => ?_
  obtain ⟨hs', ho', hm'⟩ := shortB_three hsh
  clear hsh hf1
  by_cases hne : s = o
  · have t1 : (s == o) = true := by rw [hne]; simp
    go_wp2_with fail
    go_ret
    exact ⟨rfl, hf2.toBelow (by simp)⟩
  · have t1 : (s == o) = false := by simpa using hne
    have HC := Lib.hid (keys_coll s o m hne)
    have HSL := Lib.hid (sigS_length s m)
    have HSH := Lib.hid (sigS_short s m)
    have HPL := Lib.hid (publicS_length o)
    clear hne
    go_wp2_with fail
    refine (public_any o w2 (by omega) (HT.out.fr hf2)).mono ?_
    rintro e w4 ⟨rfl, hb4⟩
    have hf4 : Fr [] w w4 := hf2.below hb4 hf2.size
    go_wp2_with fail
    refine (sign_any s m w4 (by omega) (by omega) (HT.out.fr hf4)).mono ?_
    rintro e w5 ⟨sv, rfl, ho5, hb5⟩
    have hf5 : Fr [] w w5 := hf4.below hb5 hf4.size
    have hstr := ho5.strs
    obtain ⟨a, cap, rfl, _, ha⟩ := hstr.form
    have HSTR := Lib.hid hstr
    clear ho5 hstr ha hf4 hf2 hb5 hb4
    generalize hS : sigS s m = S at HC HSL HSH HSTR ⊢
    generalize hP : publicS o = P at HC HPL ⊢
    go_wp2_with fail
    refine (verify_any P m _ S w5 (by rw [HPL.out]; decide) (by omega) HSH.out HSTR.out (HT.out.fr hf5)).mono ?_
    rintro e w7 ⟨rfl, hb7⟩
    have hf7 : Fr [] w w7 := hf5.below hb7 hf5.size
    cases hv : verifyS P m S with
    | false => go_wp2_with fail; go_ret; exact ⟨rfl, hf7.toBelow (by simp)⟩
    | true => ?_
    have HC2 := Lib.hid (HC.out hv)
    clear hv HC hb7 hf5
    go_wp2_with fail
    refine (chains_any s 16 w7 (by omega) (by decide)).mono ?_
    rintro e w8 ⟨cv, rfl, hcv, hb8⟩
    have hf8 : Fr [] w7 w8 := Fr.ofBelow hb8
    have hcl : (chainsS s 16).length ≤ 1000 := by have := chains_len s 16 18; unfold chainsS; omega
    have hol : (chainsS o 16).length = 324 := by have := chains_len o 16 18; unfold chainsS; omega
    have HCL : Hid (∀ x ∈ (chainsS s 16 ++ chainsS o 16) ++ [joinL (endsS s), joinL (endsS o)], x.length ≤ 9223372036854770000) := Lib.hid (two_small (fun x hx => by
      rcases List.mem_append.1 hx with hx | hx
      · exact chains_small s 16 (by omega) x hx
      · exact chains_small o 16 (by omega) x hx) (joinL_small _ (capN_ends s)) (joinL_small _ (capN_ends o)))
    have HCS := Lib.hid (capN_ends s)
    have HCO := Lib.hid (capN_ends o)
    have HOL := Lib.hid hol
    go_wp2_with fail
    refine (chains_any o 16 w8 (by omega) (by decide)).mono ?_
    rintro e w9 ⟨dv, rfl, hdv, hb9⟩
    have hf89 : Fr [] w8 w9 := Fr.ofBelow hb9
    have hf9 : Fr [] w7 w9 := hf8.trans hf89 (by simp)
    have hcv9 := hcv.fr hf89 (by simp)
    have hstr := hdv.strs
    obtain ⟨a2, cap2, rfl, hll, ha2⟩ := hstr.form
    obtain ⟨lb, loff, rfl⟩ := ha2 0 (by omega)
    have HST2 := Lib.hid hstr
    have HCV := Lib.hid hcv9
    rw [hol]
    generalize chainsS s 16 = CH at HC2 HCL hcl HCV
    generalize chainsS o 16 = CO at HC2 HCL HST2 HOL
    clear hcv hdv hb8 hb9 hcv9 hstr ha2 hll hf8 hf89
    go_wp2_with (at_builtin; go_loud (refine wpList_appMg (by kernel_rfl) (.tmp 33) (.tmp 35) rfl w7.heap.size _ CH CO lb loff 324 _ w7 rfl rfl HOL.out (by have := HST2.out; rwa [HOL.out] at this) HCV.out hf9 (Nat.le_refl _) hf9.size (by omega) ?_))
    intro v10 w10 ho10 hf10 _
    clear HCV HST2 hf9
    go_wp2_with fail
    refine (own_any s w10 (by omega)).mono ?_
    rintro e w11 ⟨ov, rfl, hov, hb11⟩
    have hf11 : Fr [] w10 w11 := Fr.ofBelow hb11
    go_wp2_with fail
    refine (r3joined_any _ (endsS s) w11 hov.strs HCS.out).mono ?_
    rintro e w12 ⟨rfl, hb12⟩
    have hf12 : Fr [] w10 w12 := hf11.below hb12 hf11.size
    clear hov hb11 hf11 hb12
    go_wp2_with fail
    refine (own_any o w12 (by omega)).mono ?_
    rintro e w13 ⟨ov2, rfl, hov, hb13⟩
    have hf13 : Fr [] w10 w13 := hf12.below hb13 hf12.size
    go_wp2_with fail
    refine (r3joined_any _ (endsS o) w13 hov.strs HCO.out).mono ?_
    rintro e w14 ⟨rfl, hb14⟩
    have hf14 : Fr [] w10 w14 := hf13.below hb14 hf13.size
    have hf714 : Fr [] w7 w14 := hf10.trans hf14 (by simp)
    have HO14 := Lib.hid (ho10.fr hf14 (by simp))
    have HLL : (CH ++ CO).length ≤ 2000 := by rw [List.length_append, HOL.out]; omega
    generalize CH ++ CO = CC at HC2 HCL HO14 HLL
    generalize joinL (endsS s) = J1 at HC2 HCL ⊢
    generalize joinL (endsS o) = J2 at HC2 HCL ⊢
    clear hov hb13 hb14 hf12 hf13 ho10 hf14 hf10
    go_wp2_with (at_builtin; go_loud (refine wpList_appMg (by kernel_rfl) (.tmp 36) (.tmp 43) rfl w7.heap.size _ CC [J1, J2] w14.heap.size 0 2 2 w7 rfl rfl rfl (strs_two (heap_new rfl)) (HO14.out.fr ((Fr.refl [] _).alloc _) (by simp)) (hf714.alloc _) (Nat.le_refl _) (hf714.alloc _).size (by omega) ?_))
    intro v15 w15 ho15 hf15 _
    have HO15 := Lib.hid ho15.strs
    clear HO14 ho15
    go_wp2_with fail
    refine (shown_any _ _ w15 HO15.out (by simp; omega) HCL.out).mono ?_
    rintro e w16 ⟨b, rfl, hb, hb16⟩
    obtain rfl := hb HC2.out
    have hf16 : Fr [] w7 w16 := hf15.below hb16 hf15.size
    go_wp2_with fail
    go_ret
    exact ⟨rfl, (hf7.trans hf16 (by simp)).toBelow (by simp)⟩
end Go.Proofs.YthcgcocmgjamnaaDoor
