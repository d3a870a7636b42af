/-
  foyerlaw03: SignBinds.
-/
import Derived.Test.YthcgcocmgjamnaaDoorLawC
import Derived.Test.YthcgcocmgjamnaaDoorLawE
namespace Go.Proofs.YthcgcocmgjamnaaDoor
open Go.RowKit
theorem capN_ends (s : List UInt8) : capN (endsS s) ≤ 140737488355328 := by
  have := capN_le (endsS s) 16 (fun s hs => by
    obtain ⟨i, _, rfl⟩ := List.mem_map.1 hs
    rw [dchain_length _ _ (by decide)]; decide)
  rw [endsS_length] at this; omega
theorem capN_vends (m : List UInt8) (sig : List (List UInt8)) (h : sig.all isD = true) (hl : sig.length = 18) : capN (vends m sig) ≤ 140737488355328 := by
  have := capN_le (vends m sig) 16 (fun s hs => by rw [vends_16 m sig h s hs]; decide)
  rw [vends_length, hl] at this; omega
theorem joinL_small (l : List (List UInt8)) (h : capN l ≤ 140737488355328) : (joinL l).length ≤ 9223372036854770000 :=
  Nat.le_trans (Nat.le_trans (joinL_capN l (fun s hs => by
    obtain ⟨i, hi1, hi2⟩ := List.getElem_of_mem hs
    have h3 := capN_snoc l i hi1
    have h4 := capN_take l (i + 1)
    have h5 : l.getD i [] = s := by rw [List.getD_eq_getElem?_getD, List.getElem?_eq_getElem hi1]; exact hi2
    rw [h5] at h3
    omega)) h) (by decide)
theorem links_small (t : List UInt8) (n : Nat) (ht : t.length ≤ 1000000) : ∀ x ∈ linksS t n, x.length ≤ 9223372036854770000 := by
  intro x hx
  obtain ⟨j, _, rfl⟩ := List.mem_map.1 hx
  exact Nat.le_trans (chainN_len t j ht) (by decide)
theorem chains_small (s : List UInt8) (n : Nat) (hs : s.length ≤ 1000000) : ∀ x ∈ chainsS s n, x.length ≤ 9223372036854770000 := by
  intro x hx
  obtain ⟨i, hi, hx⟩ := List.mem_flatMap.1 hx
  rcases List.mem_cons.1 hx with rfl | hx
  · exact Nat.le_trans (starts_le s i hs (by have := List.mem_range.1 hi; omega)) (by decide)
  · exact links_small _ n (by rw [startS_length]; decide) x hx
theorem two_small {l : List (List UInt8)} {a b : List UInt8} (h : ∀ x ∈ l, x.length ≤ 9223372036854770000) (ha : a.length ≤ 9223372036854770000) (hb : b.length ≤ 9223372036854770000) : ∀ x ∈ l ++ [a, b], x.length ≤ 9223372036854770000 := by
  intro x hx
  rcases List.mem_append.1 hx with hx | hx
  · exact h x hx
  · simp only [List.mem_cons, List.not_mem_nil, or_false] at hx
    rcases hx with rfl | rfl
    · exact ha
    · exact hb
set_option maxRecDepth 100000 in
set_option maxHeartbeats 2000000 in
theorem signBinds_any (s m o : List UInt8) (w : World) (hT : Tabs w) :
    Calls Tryd.prog 5 #[.string ⟨s.toArray⟩, .string ⟨m.toArray⟩, .string ⟨o.toArray⟩] w fun e w' => e = .returned (.bool true) ∧ Below w.heap.size w w' := by
  have hmx : Tryd.prog.follows .mixedOrders = true := by kernel_rfl
  have HT := Lib.hid hT
  clear hT
  go_enter Tryd.func5, Tryd.ntmps5
  go_wp2_with fail
  refine (head_any w HT.out).mono ?_
  rintro e w1 ⟨rfl, hb1⟩
  have hf1 : Fr [] w w1 := (Fr.refl [] w).below hb1 (Nat.le_refl _)
  go_wp2_with fail
  refine (short_any _ [s, m, o] _ (strs_three (heap_new rfl))).mono ?_
  rintro e w2 ⟨rfl, hb2⟩
  have hf2 : Fr [] w w2 := (hf1.alloc _).below hb2 (hf1.alloc _).size
  clear hb1 hb2
  cases hsh : shortB [s, m, o] with
  | false => go_wp2_with fail; go_ret; exact ⟨rfl, hf2.toBelow (by simp)⟩
  | true => ?_
  obtain ⟨hs', hm', ho'⟩ := shortB_three hsh
  clear hsh
  go_wp2_with fail
  refine (rsum_any m w2 (by omega)).mono ?_
  rintro e w3 ⟨rfl, hb3⟩
  have hf3 : Fr [] w w3 := hf2.below hb3 hf2.size
  go_wp2_with fail
  refine (rsum_any o w3 (by omega)).mono ?_
  rintro e w4 ⟨rfl, hb4⟩
  have hf4 : Fr [] w w4 := hf3.below hb4 hf3.size
  clear hb3 hb4 hf2 hf3 hf1
  by_cases hne : dsum m = dsum o
  · have t1 : (dsum m == dsum o) = true := by rw [hne]; simp
    go_wp2_with fail
    go_ret
    exact ⟨rfl, hf4.toBelow (by simp)⟩
  · have t1 : (dsum m == dsum o) = false := by simpa using hne
    have HC := Lib.hid (binds_coll s m o hne)
    have HSL := Lib.hid (sigS_length s m)
    have HSH := Lib.hid (sigS_short s m)
    have HPL := Lib.hid (publicS_length s)
    have HCE := Lib.hid (capN_vends o (sigS s m) (sigS_isD s m) (sigS_length s m))
    clear hne
    go_wp2_with fail
    refine (sign_any s m w4 (by omega) (by omega) (HT.out.fr hf4)).mono ?_
    rintro e w5 ⟨sv, rfl, ho5, hb5⟩
    have hf5 : Fr [] w w5 := hf4.below hb5 hf4.size
    have hstr := ho5.strs
    obtain ⟨a, cap, rfl, _, ha⟩ := hstr.form
    have HSTR := Lib.hid hstr
    clear ho5 hstr ha hf4 hb5
    generalize hS : sigS s m = S at HC HSL HSH HSTR HCE ⊢
    go_wp2_with fail
    refine (public_any s w5 (by omega) (HT.out.fr hf5)).mono ?_
    rintro e w6 ⟨rfl, hb6⟩
    have hf56 : Fr [] w5 w6 := Fr.ofBelow hb6
    generalize hP : publicS s = P at HC HPL ⊢
    go_wp2_with fail
    refine (verify_any P o _ S w6 (by rw [HPL.out]; decide) (by omega) HSH.out (HSTR.out.fr0 hf56) (HT.out.fr (hf5.trans hf56 (by simp)))).mono ?_
    rintro e w7 ⟨rfl, hb7⟩
    have hf57 : Fr [] w5 w7 := hf56.below hb7 hf56.size
    cases hv : verifyS P o S with
    | false => go_wp2_with fail; go_ret; exact ⟨rfl, (hf5.trans hf57 (by simp)).toBelow (by simp)⟩
    | true => ?_
    have HC2 := Lib.hid (HC.out hv)
    clear hv HC hb6 hb7 hf56
    go_wp2_with fail
    refine (own_any s w7 (by omega)).mono ?_
    rintro e w8 ⟨ov, rfl, hov, hb8⟩
    have hf78 : Fr [] w7 w8 := Fr.ofBelow hb8
    go_wp2_with fail
    have hf58 : Fr [] w5 w8 := hf57.trans hf78 (by simp)
    refine (ends_any o _ S w8 (by omega) HSL.out HSH.out (HSTR.out.fr0 hf58)).mono ?_
    rintro e w9 ⟨ev, rfl, hev, hb9⟩
    have hf89 : Fr [] w8 w9 := Fr.ofBelow hb9
    have hf9 : Fr [] w w9 := hf5.trans (hf58.trans hf89 (by simp)) (by simp)
    have ho9 := (hov.fr hf89 (by simp)).strs
    have he9 := hev.strs
    generalize hE : vends o S = E at he9 HC2 HCE
    have HOV := Lib.hid ho9
    have HEV := Lib.hid he9
    clear hov hev ho9 he9 hb8 hb9 hf78 hf58 hf57 hf5 hf89
    go_wp2_with fail
    refine (chains_any s 30 w9 (by omega) (by decide)).mono ?_
    rintro e w10 ⟨cv, rfl, hcv, hb10⟩
    have hf10 : Fr [] w9 w10 := Fr.ofBelow hb10
    go_wp2_with fail
    refine (r3joined_any _ (endsS s) w10 (HOV.out.fr0 hf10) ?_).mono ?_
    · exact capN_ends s
    rintro e w11 ⟨rfl, hb11⟩
    have hf11 : Fr [] w9 w11 := hf10.below hb11 hf10.size
    go_wp2_with fail
    refine (r3joined_any _ E w11 (HEV.out.fr0 hf11) ?_).mono ?_
    · exact HCE.out
    rintro e w12 ⟨rfl, hb12⟩
    have hf12 : Fr [] w9 w12 := hf11.below hb12 hf11.size
    have hfa : Fr [] w10 w11 := Fr.ofBelow hb11
    have hfb : Fr [] w11 w12 := Fr.ofBelow hb12
    have hcv12 := hcv.fr (hfa.trans hfb (by simp)) (by simp)
    clear hfa hfb
    have hcl : (chainsS s 30).length ≤ 1000 := by have := chains_len s 30 18; unfold chainsS; omega
    have HCL : Hid (∀ x ∈ chainsS s 30 ++ [joinL (endsS s), joinL E], x.length ≤ 9223372036854770000) := Lib.hid (two_small (chains_small s 30 (by omega)) (joinL_small _ (capN_ends s)) (joinL_small _ HCE.out))
    generalize joinL (endsS s) = J1 at HC2 HCL ⊢
    generalize joinL E = J2 at HC2 HCL ⊢
    generalize chainsS s 30 = CH at HC2 HCL hcl hcv12
    have HCV := Lib.hid hcv12
    clear hcv hcv12 hb10 hb11 hb12 hf10 hf11
    go_wp2_with (at_builtin; go_loud (refine wpList_appMg (by kernel_rfl) (.tmp 44) (.tmp 49) rfl w9.heap.size _ CH [J1, J2] w12.heap.size 0 2 2 w9 rfl rfl rfl (strs_two (heap_new rfl)) (HCV.out.fr ((Fr.refl [] _).alloc _) (by simp)) (hf12.alloc _) (Nat.le_refl _) (hf12.alloc _).size (by omega) ?_))
    intro v13 w13 ho13 hf13 _
    have HO13 := Lib.hid ho13.strs
    clear HCV ho13
    go_wp2_with fail
    refine (shown_any _ _ w13 HO13.out (by simp; omega) HCL.out).mono ?_
    rintro e w14 ⟨b, rfl, hb, hb14⟩
    obtain rfl := hb HC2.out
    have hf14 : Fr [] w9 w14 := hf13.below hb14 hf13.size
    go_wp2_with fail
    go_ret
    exact ⟨rfl, (hf9.trans hf14 (by simp)).toBelow (by simp)⟩
end Go.Proofs.YthcgcocmgjamnaaDoor
