/-
  foyerlaw03: SignForm.
-/
import Derived.Test.YthcgcocmgjamnaaDoorLawC
import Derived.Test.YthcgcocmgjamnaaDoorApp
import Derived.Test.YthcgcocmgjamnaaDoorTwo
namespace Go.Proofs.YthcgcocmgjamnaaDoor
open Go.RowKit
theorem verifyS_true {p m : List UInt8} {sig : List (List UInt8)} (h : verifyS p m sig = true) : sig.length = 18 ∧ (∀ x ∈ sig, isD x = true) ∧ isD p = true := by
  simp only [verifyS, Bool.and_eq_true, beq_iff_eq, List.all_eq_true] at h
  obtain ⟨⟨h1, h2⟩, h3⟩ := h
  refine ⟨h1, h2, ?_⟩
  rw [← h3]
  exact dsum_isD _
theorem verify_nil {m : List UInt8} {sig : List (List UInt8)} : verifyS [] m sig = false := by
  cases h : verifyS [] m sig with
  | false => rfl
  | true => exact absurd (verifyS_true h).2.2 (by decide)
theorem Strs.frN {X : List Nat} {w w' : World} {g off n c : Nat} {l : List (List UInt8)} (h : Strs w (.slice (some ⟨g, off, none⟩) n c) l) (hf : Fr X w w') (hx : g ∉ X) : Strs w' (.slice (some ⟨g, off, none⟩) n c) l :=
  h.fr hf (fun b hb => by cases hb; exact hx)
theorem own_empty {base : Nat} {W : World} (hb : base ≤ W.heap.size) : OwnS base (W.alloc (.cells #[] 9)) (.slice (some ⟨W.heap.size, 0, none⟩) 0 0) [] :=
  ⟨rfl, Or.inr ⟨W.heap.size, 0, #[], rfl, hb, heap_new rfl, Nat.le_refl _, by decide, rfl, rfl⟩⟩
theorem strs_one {W : World} {b : Nat} {x : List UInt8} {t : TypeId} (h : W.heap[b]? = some (.cells #[.string ⟨x.toArray⟩] t (0, 0))) : Strs W (.slice (some ⟨b, 0, none⟩) 1 1) [x] := by
  refine Or.inr ⟨b, 0, 1, rfl, by simp, by decide, lt_of_block h, fun i hi => ?_⟩
  rw [Nat.zero_add, row_cell h i]
  match i, hi with
  | 0, _ => rfl
  | i + 1, hi => simp at hi
theorem Strs.take17 {w : World} {g cap : Nat} {l : List (List UInt8)} (h : Strs w (.slice (some ⟨g, 0, none⟩) 18 cap) l) (hl : l.length = 18) : Strs w (.slice (some ⟨g, 0, none⟩) 17 cap) (l.take 17) := by
  rcases h with ⟨h, _⟩ | ⟨b, off, cap', hv, h1, h2, h3, h4⟩
  · cases h
  · rw [hl] at hv
    cases hv
    refine Or.inr ⟨g, 0, cap, ?_, ?_, h2, h3, fun i hi => ?_⟩
    · rw [List.length_take, hl]; rfl
    · rw [List.length_take]; omega
    · rw [List.length_take] at hi
      rw [h4 i (by omega)]
      have h17 : i < 17 := by omega
      simp [List.getD_eq_getElem?_getD, h17]
set_option maxRecDepth 100000 in
set_option maxHeartbeats 2000000 in
theorem signForm_any (s p m : List UInt8) (sv : Value) (sig : List (List UInt8)) (w : World) (hT : Tabs w) (hsv : Strs w sv sig) :
    Calls Tryd.prog 8 #[.string ⟨s.toArray⟩, .string ⟨p.toArray⟩, .string ⟨m.toArray⟩, sv] w fun e w' => e = .returned (.bool true) ∧ Below w.heap.size w w' := by
  have hmx : Tryd.prog.follows .mixedOrders = true := by kernel_rfl
  have HT := Lib.hid hT
  have HV := Lib.hid hsv
  obtain ⟨a, cap, rfl, hlen, ha⟩ := hsv.form
  clear hT hsv
  go_enter Tryd.func8, Tryd.ntmps8
  go_wp2_with fail
  refine (head_any w HT.out).mono ?_
  rintro e w1 ⟨rfl, hb1⟩
  have hf1 : Fr [] w w1 := (Fr.refl [] w).below hb1 (Nat.le_refl _)
  go_wp2_with fail
  refine (short_any _ [s, p, m] _ (strs_three (heap_new rfl))).mono ?_
  rintro e w2 ⟨rfl, hb2⟩
  have hf2 : Fr [] w w2 := (hf1.alloc _).below hb2 (hf1.alloc _).size
  clear hb1 hb2
  cases hsh : shortB [s, p, m] with
  | false => go_wp2_with fail; go_ret; exact ⟨rfl, hf2.toBelow (by simp)⟩
  | true => ?_
  obtain ⟨hs', hp', hm'⟩ := shortB_three hsh
  clear hsh
  go_wp2_with fail
  refine (short_any _ sig _ (HV.out.fr0 hf2)).mono ?_
  rintro e w3 ⟨rfl, hb3⟩
  have hf3 : Fr [] w w3 := hf2.below hb3 hf2.size
  cases hsh : shortB sig with
  | false => go_wp2_with fail; go_ret; exact ⟨rfl, hf3.toBelow (by simp)⟩
  | true => ?_
  have HSH := Lib.hid (shortB_all hsh)
  clear hsh
  by_cases h30 : sig.length ≤ 30
  · have t1 : decide ((30 : Int) < (sig.length : Int)) = false := by simp; omega
    go_wp2_with fail
    refine (verify_any p m _ sig w3 (by omega) (by omega) HSH.out (HV.out.fr0 hf3) (HT.out.fr hf3)).mono ?_
    rintro e w4 ⟨rfl, hb4⟩
    have hf4 : Fr [] w w4 := hf3.below hb4 hf3.size
    cases hver : verifyS p m sig with
    | false =>
      clear hver
      go_wp2_with fail
      refine (sign_any s m w4 (by omega) (by omega) (HT.out.fr hf4)).mono ?_
      rintro e v1 ⟨sv, rfl, ho, hb1'⟩
      have hg1 : Fr [] w v1 := (hf4).below hb1' (hf4).size
      have hstr := ho.strs
      have hsl := sigS_length s m
      have HSH2 := Lib.hid (sigS_short s m)
      have HPL := Lib.hid (publicS_length s)
      obtain ⟨sa, sc, rfl, hscap⟩ : ∃ g c, sv = .slice (some ⟨g, 0, none⟩) (sigS s m).length c ∧ 18 ≤ c := by
        rcases ho.2 with ⟨_, h0⟩ | ⟨g, c, _, hv, _, _, hc, _⟩
        · rw [hsl] at h0; omega
        · exact ⟨g, c, hv, by rw [hsl] at hc; exact hc⟩
      rw [hsl] at hstr ⊢
      have HO := Lib.hid ho
      have HSL := Lib.hid hsl
      have HSTR := Lib.hid hstr
      clear ho hsl hstr
      generalize hS : sigS s m = S at HO HSH2 HSL HSTR ⊢
      go_wp2_with fail
      refine (public_any s v1 (by omega) (HT.out.fr hg1)).mono ?_
      rintro e v2 ⟨rfl, hb2'⟩
      have hg2 : Fr [] w v2 := hg1.below hb2' hg1.size
      generalize hP : publicS s = P at HPL ⊢
      go_wp2_with fail
      have hc0 : v2.cell? ⟨sa, 0, none⟩ = some (.string ⟨(S.getD 0 []).toArray⟩) := ((HSTR.out.fr0 (Fr.ofBelow hb2')).cellN HSL.out 0 (by decide))
      have HS17 := Lib.hid ((HSTR.out.fr0 (Fr.ofBelow hb2')).take17 HSL.out)
      have HSTR2 := Lib.hid (HSTR.out.fr0 (Fr.ofBelow hb2'))
      have HSHE : Hid (∀ x ∈ S ++ [S.getD 0 []], x.length ≤ 1000000) := Lib.hid (fun x hx => HSH2.out x (by
        rcases List.mem_append.1 hx with h | h
        · exact h
        · rw [List.mem_singleton.1 h]; exact getD_mem S 0 [] (by rw [HSL.out]; decide)))
      generalize hs0 : S.getD 0 [] = s0 at hc0 HSHE
      refine region_held 29 (fun W' => W'.cell? ⟨sa, 0, none⟩ = some (.string ⟨s0.toArray⟩)) hmx ?_
      change Held _ _ _ _ _ _ 30 (Array.replicate 30 false) _ _
      have HS : v2.drew.cell? ⟨sa, 0, none⟩ = some (.string ⟨s0.toArray⟩) := hc0
      have hhd : Fr [] v2 v2.drew := (Fr.refl [] v2).drew
      refine held_take 0 (v := .bool true) rfl (by kernel_rfl) (by kernel_rfl) (by kernel_rfl) rfl HS (fun W' hS => by have := hS; go_simp) rfl ?_
      refine held_take 1 (v := .bool true) rfl (by kernel_rfl) (by kernel_rfl) (by kernel_rfl) rfl HS (fun W' hS => by have := hS; go_simp) rfl ?_
      simp only [Act.put]
      refine held_take_g 2 (v := .string ⟨P.toArray⟩) rfl (by kernel_rfl) (by kernel_rfl) (by kernel_rfl) rfl HS (fun W' hS => by have := hS; go_simp) rfl ?_
      refine held_take_g 3 (v := .string ⟨m.toArray⟩) rfl (by kernel_rfl) (by kernel_rfl) (by kernel_rfl) rfl HS (fun W' hS => by have := hS; go_simp) rfl ?_
      refine held_take_g 4 (v := .slice (some ⟨sa, 0, none⟩) 18 sc) rfl (by kernel_rfl) (by kernel_rfl) (by kernel_rfl) rfl HS (fun W' hS => by have := hS; go_simp) rfl ?_
      simp only [Act.put]
      refine held_take_g 5 (v := .slice (some ⟨sa, 0, none⟩) 17 sc) rfl (by kernel_rfl) (by kernel_rfl) (by kernel_rfl) rfl HS (fun W' hS => by have := hS; go_simp; intro h17; omega) rfl ?_
      simp only [Act.put]
      refine held_one_g 6 (by kernel_rfl) rfl (by kernel_rfl) rfl (fun K' hK => ?_)
      go_simp
      refine (verify_any P m _ (S.take 17) v2.drew (by rw [HPL.out]; decide) (by omega) (fun x hx => HSH2.out x (List.mem_of_mem_take hx)) (HS17.out.fr0 hhd) (HT.out.fr (hg2.trans hhd (by simp)))).mono ?_
      rintro e v3 ⟨rfl, hb3⟩
      rw [verify_no _ _ _ (by rw [List.length_take, HSL.out]; decide)]
      have hh3 : Fr [] v2 v3 := hhd.below hb3 hhd.size
      have HS : v3.cell? ⟨sa, 0, none⟩ = some (.string ⟨s0.toArray⟩) := hh3.cell hc0 (by simp)
      refine hK.out _ _ (fun _ => HS) ?_
      clear hK K'
      refine held_take_g 7 (v := .bool true) rfl (by kernel_rfl) (by kernel_rfl) (by kernel_rfl) rfl HS (fun W' hS => by have := hS; go_simp) rfl ?_
      refine held_take 8 (v := .bool true) rfl (by kernel_rfl) (by kernel_rfl) (by kernel_rfl) rfl HS (fun W' hS => by have := hS; go_simp) rfl ?_
      refine held_take 9 (v := .bool true) rfl (by kernel_rfl) (by kernel_rfl) (by kernel_rfl) rfl HS (fun W' hS => by have := hS; go_simp) rfl ?_
      simp only [Act.put]
      refine held_take_g 10 (v := .string ⟨P.toArray⟩) rfl (by kernel_rfl) (by kernel_rfl) (by kernel_rfl) rfl HS (fun W' hS => by have := hS; go_simp) rfl ?_
      refine held_take_g 11 (v := .string ⟨m.toArray⟩) rfl (by kernel_rfl) (by kernel_rfl) (by kernel_rfl) rfl HS (fun W' hS => by have := hS; go_simp) rfl ?_
      refine held_take_g 13 (v := .slice (some ⟨sa, 0, none⟩) 18 sc) rfl (by kernel_rfl) (by kernel_rfl) (by kernel_rfl) rfl HS (fun W' hS => by have := hS; go_simp) rfl ?_
      refine held_take_g 15 (v := .slice (some ⟨sa, 0, none⟩) 18 sc) rfl (by kernel_rfl) (by kernel_rfl) (by kernel_rfl) rfl HS (fun W' hS => by have := hS; go_simp) rfl ?_
      simp only [Act.put]
      refine held_take_g 16 (v := .pointer (some ⟨sa, 0, none⟩)) rfl (by kernel_rfl) (by kernel_rfl) (by kernel_rfl) rfl HS (fun W' hS => by have := hS; go_simp) rfl ?_
      refine held_take_g 17 (v := .string ⟨s0.toArray⟩) rfl (by kernel_rfl) (by kernel_rfl) (by kernel_rfl) rfl HS (fun W' hS => by have := hS; go_simp) rfl ?_
      simp only [Act.put]
      refine held_key 75 77 81 #[true, true, true, true, true, true, true, true, true, true, true, true, true, true, true, true, true, true, true, false, false, false, false, false, false, false, false, false, false, false] (fun _ y z W' => OwnS v2.heap.size W' y S ∧ (∃ g, z = .slice (some ⟨g, 0, none⟩) 1 1 ∧ Strs W' z [s0]) ∧ Fr [] v2 W') (fuel' := 11) (fun key => ?_) (fun x y z v4 hR => ?_)
      · refine held_two_g 12 18 (by kernel_rfl) rfl rfl (by kernel_rfl) (by kernel_rfl) (fun K' hK => ?_) (fun K' hK => ?_)
        · go_simp
          have ha1 : Fr [] v2 (v3.alloc (.cells #[] 9)) := hh3.alloc _
          have ho1 : OwnS v2.heap.size (v3.alloc (.cells #[] 9)) (.slice (some ⟨v3.heap.size, 0, none⟩) 0 0) [] := own_empty hh3.size
          refine hK.out _ _ (fun _ => ha1.cell hc0 (by simp)) ?_
          clear hK K'
          refine held_two_g 14 18 (by kernel_rfl) rfl rfl (by kernel_rfl) (by kernel_rfl) (fun K' hK => ?_) (fun K' hK => ?_)
          · refine wp_appM (.tmp 75) (.tmp 76) rfl v2.heap.size (.slice (some ⟨v3.heap.size, 0, none⟩) 0 0) [] S sa 0 18 sc v2 rfl rfl HSL.out (HSTR2.out.fr0 ha1) ho1 ha1 (Nat.le_refl _) ha1.size (by decide) ?_
            intro v' w' ho2 ha2 _
            refine hK.out _ _ (fun _ => ha2.cell hc0 (by simp)) ?_
            clear hK K'
            simp only [Act.put]
            refine held_one_g 18 (by kernel_rfl) rfl (by kernel_rfl) rfl (fun K' hK => ?_)
            go_simp
            refine hK.out _ _ (fun _ => (ha2.alloc _).cell hc0 (by simp)) ?_
            clear hK K'
            have hz : Strs (w'.alloc (.cells #[.string ⟨s0.toArray⟩] 9)) (.slice (some ⟨w'.heap.size, 0, none⟩) 1 1) [s0] := strs_one (heap_new rfl)
            have hk := key (.slice (some ⟨v3.heap.size, 0, none⟩) 0 0) v' (.slice (some ⟨w'.heap.size, 0, none⟩) 1 1) (w'.alloc (.cells #[.string ⟨s0.toArray⟩] 9)) ⟨ho2.fr ((Fr.refl [] w').alloc _) (by simp), ⟨_, rfl, hz⟩, ha2.alloc _⟩
            exact held_same hk (by kernel_rfl) (by kernel_rfl)
          · go_simp
            refine hK.out _ _ (fun _ => (ha1.alloc _).cell hc0 (by simp)) ?_
            clear hK K'
            have ha2 := ha1.alloc (.cells #[.string ⟨s0.toArray⟩] 9)
            refine held_one_g 14 (by kernel_rfl) rfl (by kernel_rfl) rfl (fun K' hK => ?_)
            refine wp_appM (.tmp 75) (.tmp 76) rfl v2.heap.size (.slice (some ⟨v3.heap.size, 0, none⟩) 0 0) [] S sa 0 18 sc v2 rfl rfl HSL.out (HSTR2.out.fr0 ha2) (ho1.fr ((Fr.refl [] _).alloc _) (by simp)) ha2 (Nat.le_refl _) ha2.size (by decide) ?_
            intro v' w' ho3 ha3 hx3
            refine hK.out _ _ (fun _ => ha3.cell hc0 (by simp)) ?_
            clear hK K'
            have hz : Strs w' (.slice (some ⟨v3.heap.size + 1, 0, none⟩) 1 1) [s0] := Strs.frN (strs_one (heap_new (by simp))) hx3 (by simp [Value.ownBlock])
            have hk := key (.slice (some ⟨v3.heap.size, 0, none⟩) 0 0) v' (.slice (some ⟨v3.heap.size + 1, 0, none⟩) 1 1) w' ⟨ho3, ⟨_, rfl, hz⟩, ha3⟩
            exact held_same hk (by kernel_rfl) (by kernel_rfl)
        · go_simp
          have ha1 : Fr [] v2 (v3.alloc (.cells #[.string ⟨s0.toArray⟩] 9)) := hh3.alloc _
          refine hK.out _ _ (fun _ => ha1.cell hc0 (by simp)) ?_
          clear hK K'
          refine held_one_g 12 (by kernel_rfl) rfl (by kernel_rfl) rfl (fun K' hK => ?_)
          go_simp
          have ha2 := ha1.alloc (.cells #[] 9)
          have ho2 := own_empty ha1.size
          rw [show (v3.alloc (.cells #[.string ⟨s0.toArray⟩] 9)).heap.size = v3.heap.size + 1 by simp] at ho2
          refine hK.out _ _ (fun _ => ha2.cell hc0 (by simp)) ?_
          clear hK K'
          refine held_one_g 14 (by kernel_rfl) rfl (by kernel_rfl) rfl (fun K' hK => ?_)
          refine wp_appM (.tmp 75) (.tmp 76) rfl v2.heap.size (.slice (some ⟨v3.heap.size + 1, 0, none⟩) 0 0) [] S sa 0 18 sc v2 rfl rfl HSL.out (HSTR2.out.fr0 ha2) ho2 ha2 (Nat.le_refl _) ha2.size (by decide) ?_
          intro v' w' ho3 ha3 hx3
          refine hK.out _ _ (fun _ => ha3.cell hc0 (by simp)) ?_
          clear hK K'
          have hz : Strs w' (.slice (some ⟨v3.heap.size, 0, none⟩) 1 1) [s0] := Strs.frN (Strs.fr (strs_one (heap_new rfl)) ((Fr.refl [] _).alloc _) (by simp)) hx3 (by simp [Value.ownBlock])
          have hk := key (.slice (some ⟨v3.heap.size + 1, 0, none⟩) 0 0) v' (.slice (some ⟨v3.heap.size, 0, none⟩) 1 1) w' ⟨ho3, ⟨_, rfl, hz⟩, ha3⟩
          exact held_same hk (by kernel_rfl) (by kernel_rfl)
      · obtain ⟨hoy, ⟨gz, rfl, hzs⟩, hh4⟩ := hR
        have HS : v4.cell? ⟨sa, 0, none⟩ = some (.string ⟨s0.toArray⟩) := hh4.cell hc0 (by simp)
        simp only [Act.put]
        refine held_one_g 19 (by kernel_rfl) rfl (by kernel_rfl) rfl (fun K' hK => ?_)
        refine wp_appM (.tmp 77) (.tmp 81) rfl v2.heap.size y S [s0] gz 0 1 1 v2 (by kernel_rfl) (by kernel_rfl) rfl hzs hoy hh4 (Nat.le_refl _) hh4.size (by rw [HSL.out]; decide) ?_
        intro yv v5 hoy5 hh5 _
        refine hK.out _ _ (fun _ => hh5.cell hc0 (by simp)) ?_
        clear hK K'
        simp only [Act.put]
        refine held_one_g 20 (by kernel_rfl) rfl (by kernel_rfl) rfl (fun K' hK => ?_)
        go_simp
        refine (verify_any P m _ (S ++ [s0]) v5 (by rw [HPL.out]; decide) (by omega) HSHE.out (hoy5.strs) (HT.out.fr (hg2.trans hh5 (by simp)))).mono ?_
        rintro e v6 ⟨rfl, hb6⟩
        rw [verify_no _ _ _ (by rw [List.length_append, HSL.out]; simp)]
        have hh6 : Fr [] v2 v6 := hh5.below hb6 hh5.size
        have HS : v6.cell? ⟨sa, 0, none⟩ = some (.string ⟨s0.toArray⟩) := hh6.cell hc0 (by simp)
        refine hK.out _ _ (fun _ => HS) ?_
        clear hK K'
        refine held_take_g 21 (v := .bool true) rfl (by kernel_rfl) (by kernel_rfl) (by kernel_rfl) rfl HS (fun W' hS => by have := hS; go_simp) rfl ?_
        refine held_take 22 (v := .bool true) rfl (by kernel_rfl) (by kernel_rfl) (by kernel_rfl) rfl HS (fun W' hS => by have := hS; go_simp) rfl ?_
        refine held_take 23 (v := .bool true) rfl (by kernel_rfl) (by kernel_rfl) (by kernel_rfl) rfl HS (fun W' hS => by have := hS; go_simp) rfl ?_
        simp only [Act.put]
        refine held_take_g 24 (v := .string ⟨m.toArray⟩) rfl (by kernel_rfl) (by kernel_rfl) (by kernel_rfl) rfl HS (fun W' hS => by have := hS; go_simp) rfl ?_
        refine held_take_g 25 (v := .slice (some ⟨sa, 0, none⟩) 18 sc) rfl (by kernel_rfl) (by kernel_rfl) (by kernel_rfl) rfl HS (fun W' hS => by have := hS; go_simp) rfl ?_
        simp only [Act.put]
        refine held_one_g 26 (by kernel_rfl) rfl (by kernel_rfl) rfl (fun K' hK => ?_)
        go_simp
        refine (verify_any [] m _ S v6 (by decide) (by omega) HSH2.out (HSTR2.out.fr0 hh6) (HT.out.fr (hg2.trans hh6 (by simp)))).mono ?_
        rintro e v7 ⟨rfl, hb7⟩
        rw [verify_nil]
        have hh7 : Fr [] v2 v7 := hh6.below hb7 hh6.size
        have HS : v7.cell? ⟨sa, 0, none⟩ = some (.string ⟨s0.toArray⟩) := hh7.cell hc0 (by simp)
        refine hK.out _ _ (fun _ => HS) ?_
        clear hK K'
        refine held_take_g 27 (v := .bool true) rfl (by kernel_rfl) (by kernel_rfl) (by kernel_rfl) rfl HS (fun W' hS => by have := hS; go_simp) rfl ?_
        refine held_take 28 (v := .bool true) rfl (by kernel_rfl) (by kernel_rfl) (by kernel_rfl) rfl HS (fun W' hS => by have := hS; go_simp) rfl ?_
        simp only [Act.put]
        refine held_one 29 (by kernel_rfl) rfl rfl rfl (fun K' hK => ?_)
        go_simp
        refine hK.out _ _ (fun h => absurd rfl h) ?_
        clear hK K'
        refine held_done (by kernel_rfl) ?_
        go_wp2_with fail
        go_ret
        exact ⟨rfl, (hg2.trans hh7 (by simp)).toBelow (by simp)⟩
    | true =>
      obtain ⟨h18, hall, hpd⟩ := verifyS_true hver
      obtain ⟨b, off, rfl⟩ := ha 0 (by omega)
      clear hver ha
      have H18 := Lib.hid h18
      have HALL := Lib.hid hall
      have HPD := Lib.hid hpd
      have t2 : ((sig.length : Int) == 18) = true := by rw [h18]; rfl
      have t3 : ((sig.length : Int) != 18) = false := by rw [h18]; rfl
      clear h18 hall hpd
      go_wp2_with fail
      go_loopg [10] 18 (fun g i wr => ∃ k : Nat, k ≤ 18 ∧ g = 18 - k ∧ i = .int .i64 (k : Int) ∧ Fr [] w4 wr)
      case atStart => exact ⟨0, by omega, by omega, rfl, Fr.refl _ _⟩
      case round =>
        obtain ⟨k, hk, hg, rfl, hfr⟩ := hrel
        have HG := Lib.hid hg
        clear hg
        by_cases hlt : k < 18
        · have hk' : k < sig.length := by rw [H18.out]; exact hlt
          have hc := ((HV.out.fr0 hf4).fr0 hfr).cell k hk'
          have HIS := Lib.hid (HALL.out _ (getD_mem sig k [] hk'))
          have hxl := HSH.out _ (getD_mem sig k [] hk')
          have t4 : decide ((k : Int) < (sig.length : Int)) = true := by simp; omega
          generalize sig.getD k [] = x at hc HIS hxl
          go_wp2_with fail
          refine (is_any x wr (by omega)).mono ?_
          rintro e w5 ⟨rfl, hb5⟩
          rw [HIS.out]
          have hf5 : Fr [] w4 w5 := hfr.below hb5 hfr.size
          go_wp2_with fail
          go_roundg (18 - (k + 1))
          case measure => have := HG.out; omega
          case rel => exact ⟨k + 1, by omega, rfl, by go_num, hf5⟩
        · obtain rfl : k = 18 := by omega
          have t4 : decide ((18 : Int) < (sig.length : Int)) = false := by rw [H18.out]; rfl
          go_wp2_with fail
          refine (is_any p wr (by omega)).mono ?_
          rintro e w5 ⟨rfl, hb5⟩
          rw [HPD.out]
          have hf5 : Fr [] w w5 := hf4.trans (hfr.below hb5 hfr.size) (by simp)
          go_wp2_with fail
          refine (sign_any s m w5 (by omega) (by omega) (HT.out.fr hf5)).mono ?_
          rintro e v1 ⟨sv, rfl, ho, hb1'⟩
          have hg1 : Fr [] w v1 := (hf5).below hb1' (hf5).size
          have hstr := ho.strs
          have hsl := sigS_length s m
          have HSH2 := Lib.hid (sigS_short s m)
          have HPL := Lib.hid (publicS_length s)
          obtain ⟨sa, sc, rfl, hscap⟩ : ∃ g c, sv = .slice (some ⟨g, 0, none⟩) (sigS s m).length c ∧ 18 ≤ c := by
            rcases ho.2 with ⟨_, h0⟩ | ⟨g, c, _, hv, _, _, hc, _⟩
            · rw [hsl] at h0; omega
            · exact ⟨g, c, hv, by rw [hsl] at hc; exact hc⟩
          rw [hsl] at hstr ⊢
          have HO := Lib.hid ho
          have HSL := Lib.hid hsl
          have HSTR := Lib.hid hstr
          clear ho hsl hstr
          generalize hS : sigS s m = S at HO HSH2 HSL HSTR ⊢
          go_wp2_with fail
          refine (public_any s v1 (by omega) (HT.out.fr hg1)).mono ?_
          rintro e v2 ⟨rfl, hb2'⟩
          have hg2 : Fr [] w v2 := hg1.below hb2' hg1.size
          generalize hP : publicS s = P at HPL ⊢
          go_wp2_with fail
          have hc0 : v2.cell? ⟨sa, 0, none⟩ = some (.string ⟨(S.getD 0 []).toArray⟩) := ((HSTR.out.fr0 (Fr.ofBelow hb2')).cellN HSL.out 0 (by decide))
          have HS17 := Lib.hid ((HSTR.out.fr0 (Fr.ofBelow hb2')).take17 HSL.out)
          have HSTR2 := Lib.hid (HSTR.out.fr0 (Fr.ofBelow hb2'))
          have HSHE : Hid (∀ x ∈ S ++ [S.getD 0 []], x.length ≤ 1000000) := Lib.hid (fun x hx => HSH2.out x (by
            rcases List.mem_append.1 hx with h | h
            · exact h
            · rw [List.mem_singleton.1 h]; exact getD_mem S 0 [] (by rw [HSL.out]; decide)))
          generalize hs0 : S.getD 0 [] = s0 at hc0 HSHE
          refine region_held 29 (fun W' => W'.cell? ⟨sa, 0, none⟩ = some (.string ⟨s0.toArray⟩)) hmx ?_
          change Held _ _ _ _ _ _ 30 (Array.replicate 30 false) _ _
          have HS : v2.drew.cell? ⟨sa, 0, none⟩ = some (.string ⟨s0.toArray⟩) := hc0
          have hhd : Fr [] v2 v2.drew := (Fr.refl [] v2).drew
          refine held_take 0 (v := .bool true) rfl (by kernel_rfl) (by kernel_rfl) (by kernel_rfl) rfl HS (fun W' hS => by have := hS; go_simp) rfl ?_
          refine held_take 1 (v := .bool true) rfl (by kernel_rfl) (by kernel_rfl) (by kernel_rfl) rfl HS (fun W' hS => by have := hS; go_simp) rfl ?_
          simp only [Act.put]
          refine held_take_g 2 (v := .string ⟨P.toArray⟩) rfl (by kernel_rfl) (by kernel_rfl) (by kernel_rfl) rfl HS (fun W' hS => by have := hS; go_simp) rfl ?_
          refine held_take_g 3 (v := .string ⟨m.toArray⟩) rfl (by kernel_rfl) (by kernel_rfl) (by kernel_rfl) rfl HS (fun W' hS => by have := hS; go_simp) rfl ?_
          refine held_take_g 4 (v := .slice (some ⟨sa, 0, none⟩) 18 sc) rfl (by kernel_rfl) (by kernel_rfl) (by kernel_rfl) rfl HS (fun W' hS => by have := hS; go_simp) rfl ?_
          simp only [Act.put]
          refine held_take_g 5 (v := .slice (some ⟨sa, 0, none⟩) 17 sc) rfl (by kernel_rfl) (by kernel_rfl) (by kernel_rfl) rfl HS (fun W' hS => by have := hS; go_simp; intro h17; omega) rfl ?_
          simp only [Act.put]
          refine held_one_g 6 (by kernel_rfl) rfl (by kernel_rfl) rfl (fun K' hK => ?_)
          go_simp
          refine (verify_any P m _ (S.take 17) v2.drew (by rw [HPL.out]; decide) (by omega) (fun x hx => HSH2.out x (List.mem_of_mem_take hx)) (HS17.out.fr0 hhd) (HT.out.fr (hg2.trans hhd (by simp)))).mono ?_
          rintro e v3 ⟨rfl, hb3⟩
          rw [verify_no _ _ _ (by rw [List.length_take, HSL.out]; decide)]
          have hh3 : Fr [] v2 v3 := hhd.below hb3 hhd.size
          have HS : v3.cell? ⟨sa, 0, none⟩ = some (.string ⟨s0.toArray⟩) := hh3.cell hc0 (by simp)
          refine hK.out _ _ (fun _ => HS) ?_
          clear hK K'
          refine held_take_g 7 (v := .bool true) rfl (by kernel_rfl) (by kernel_rfl) (by kernel_rfl) rfl HS (fun W' hS => by have := hS; go_simp) rfl ?_
          refine held_take 8 (v := .bool true) rfl (by kernel_rfl) (by kernel_rfl) (by kernel_rfl) rfl HS (fun W' hS => by have := hS; go_simp) rfl ?_
          refine held_take 9 (v := .bool true) rfl (by kernel_rfl) (by kernel_rfl) (by kernel_rfl) rfl HS (fun W' hS => by have := hS; go_simp) rfl ?_
          simp only [Act.put]
          refine held_take_g 10 (v := .string ⟨P.toArray⟩) rfl (by kernel_rfl) (by kernel_rfl) (by kernel_rfl) rfl HS (fun W' hS => by have := hS; go_simp) rfl ?_
          refine held_take_g 11 (v := .string ⟨m.toArray⟩) rfl (by kernel_rfl) (by kernel_rfl) (by kernel_rfl) rfl HS (fun W' hS => by have := hS; go_simp) rfl ?_
          refine held_take_g 13 (v := .slice (some ⟨sa, 0, none⟩) 18 sc) rfl (by kernel_rfl) (by kernel_rfl) (by kernel_rfl) rfl HS (fun W' hS => by have := hS; go_simp) rfl ?_
          refine held_take_g 15 (v := .slice (some ⟨sa, 0, none⟩) 18 sc) rfl (by kernel_rfl) (by kernel_rfl) (by kernel_rfl) rfl HS (fun W' hS => by have := hS; go_simp) rfl ?_
          simp only [Act.put]
          refine held_take_g 16 (v := .pointer (some ⟨sa, 0, none⟩)) rfl (by kernel_rfl) (by kernel_rfl) (by kernel_rfl) rfl HS (fun W' hS => by have := hS; go_simp) rfl ?_
          refine held_take_g 17 (v := .string ⟨s0.toArray⟩) rfl (by kernel_rfl) (by kernel_rfl) (by kernel_rfl) rfl HS (fun W' hS => by have := hS; go_simp) rfl ?_
          simp only [Act.put]
          refine held_key 75 77 81 #[true, true, true, true, true, true, true, true, true, true, true, true, true, true, true, true, true, true, true, false, false, false, false, false, false, false, false, false, false, false] (fun _ y z W' => OwnS v2.heap.size W' y S ∧ (∃ g, z = .slice (some ⟨g, 0, none⟩) 1 1 ∧ Strs W' z [s0]) ∧ Fr [] v2 W') (fuel' := 11) (fun key => ?_) (fun x y z v4 hR => ?_)
          · refine held_two_g 12 18 (by kernel_rfl) rfl rfl (by kernel_rfl) (by kernel_rfl) (fun K' hK => ?_) (fun K' hK => ?_)
            · go_simp
              have ha1 : Fr [] v2 (v3.alloc (.cells #[] 9)) := hh3.alloc _
              have ho1 : OwnS v2.heap.size (v3.alloc (.cells #[] 9)) (.slice (some ⟨v3.heap.size, 0, none⟩) 0 0) [] := own_empty hh3.size
              refine hK.out _ _ (fun _ => ha1.cell hc0 (by simp)) ?_
              clear hK K'
              refine held_two_g 14 18 (by kernel_rfl) rfl rfl (by kernel_rfl) (by kernel_rfl) (fun K' hK => ?_) (fun K' hK => ?_)
              · refine wp_appM (.tmp 75) (.tmp 76) rfl v2.heap.size (.slice (some ⟨v3.heap.size, 0, none⟩) 0 0) [] S sa 0 18 sc v2 rfl rfl HSL.out (HSTR2.out.fr0 ha1) ho1 ha1 (Nat.le_refl _) ha1.size (by decide) ?_
                intro v' w' ho2 ha2 _
                refine hK.out _ _ (fun _ => ha2.cell hc0 (by simp)) ?_
                clear hK K'
                simp only [Act.put]
                refine held_one_g 18 (by kernel_rfl) rfl (by kernel_rfl) rfl (fun K' hK => ?_)
                go_simp
                refine hK.out _ _ (fun _ => (ha2.alloc _).cell hc0 (by simp)) ?_
                clear hK K'
                have hz : Strs (w'.alloc (.cells #[.string ⟨s0.toArray⟩] 9)) (.slice (some ⟨w'.heap.size, 0, none⟩) 1 1) [s0] := strs_one (heap_new rfl)
                have hk := key (.slice (some ⟨v3.heap.size, 0, none⟩) 0 0) v' (.slice (some ⟨w'.heap.size, 0, none⟩) 1 1) (w'.alloc (.cells #[.string ⟨s0.toArray⟩] 9)) ⟨ho2.fr ((Fr.refl [] w').alloc _) (by simp), ⟨_, rfl, hz⟩, ha2.alloc _⟩
                exact held_same hk (by kernel_rfl) (by kernel_rfl)
              · go_simp
                refine hK.out _ _ (fun _ => (ha1.alloc _).cell hc0 (by simp)) ?_
                clear hK K'
                have ha2 := ha1.alloc (.cells #[.string ⟨s0.toArray⟩] 9)
                refine held_one_g 14 (by kernel_rfl) rfl (by kernel_rfl) rfl (fun K' hK => ?_)
                refine wp_appM (.tmp 75) (.tmp 76) rfl v2.heap.size (.slice (some ⟨v3.heap.size, 0, none⟩) 0 0) [] S sa 0 18 sc v2 rfl rfl HSL.out (HSTR2.out.fr0 ha2) (ho1.fr ((Fr.refl [] _).alloc _) (by simp)) ha2 (Nat.le_refl _) ha2.size (by decide) ?_
                intro v' w' ho3 ha3 hx3
                refine hK.out _ _ (fun _ => ha3.cell hc0 (by simp)) ?_
                clear hK K'
                have hz : Strs w' (.slice (some ⟨v3.heap.size + 1, 0, none⟩) 1 1) [s0] := Strs.frN (strs_one (heap_new (by simp))) hx3 (by simp [Value.ownBlock])
                have hk := key (.slice (some ⟨v3.heap.size, 0, none⟩) 0 0) v' (.slice (some ⟨v3.heap.size + 1, 0, none⟩) 1 1) w' ⟨ho3, ⟨_, rfl, hz⟩, ha3⟩
                exact held_same hk (by kernel_rfl) (by kernel_rfl)
            · go_simp
              have ha1 : Fr [] v2 (v3.alloc (.cells #[.string ⟨s0.toArray⟩] 9)) := hh3.alloc _
              refine hK.out _ _ (fun _ => ha1.cell hc0 (by simp)) ?_
              clear hK K'
              refine held_one_g 12 (by kernel_rfl) rfl (by kernel_rfl) rfl (fun K' hK => ?_)
              go_simp
              have ha2 := ha1.alloc (.cells #[] 9)
              have ho2 := own_empty ha1.size
              rw [show (v3.alloc (.cells #[.string ⟨s0.toArray⟩] 9)).heap.size = v3.heap.size + 1 by simp] at ho2
              refine hK.out _ _ (fun _ => ha2.cell hc0 (by simp)) ?_
              clear hK K'
              refine held_one_g 14 (by kernel_rfl) rfl (by kernel_rfl) rfl (fun K' hK => ?_)
              refine wp_appM (.tmp 75) (.tmp 76) rfl v2.heap.size (.slice (some ⟨v3.heap.size + 1, 0, none⟩) 0 0) [] S sa 0 18 sc v2 rfl rfl HSL.out (HSTR2.out.fr0 ha2) ho2 ha2 (Nat.le_refl _) ha2.size (by decide) ?_
              intro v' w' ho3 ha3 hx3
              refine hK.out _ _ (fun _ => ha3.cell hc0 (by simp)) ?_
              clear hK K'
              have hz : Strs w' (.slice (some ⟨v3.heap.size, 0, none⟩) 1 1) [s0] := Strs.frN (Strs.fr (strs_one (heap_new rfl)) ((Fr.refl [] _).alloc _) (by simp)) hx3 (by simp [Value.ownBlock])
              have hk := key (.slice (some ⟨v3.heap.size + 1, 0, none⟩) 0 0) v' (.slice (some ⟨v3.heap.size, 0, none⟩) 1 1) w' ⟨ho3, ⟨_, rfl, hz⟩, ha3⟩
              exact held_same hk (by kernel_rfl) (by kernel_rfl)
          · obtain ⟨hoy, ⟨gz, rfl, hzs⟩, hh4⟩ := hR
            have HS : v4.cell? ⟨sa, 0, none⟩ = some (.string ⟨s0.toArray⟩) := hh4.cell hc0 (by simp)
            simp only [Act.put]
            refine held_one_g 19 (by kernel_rfl) rfl (by kernel_rfl) rfl (fun K' hK => ?_)
            refine wp_appM (.tmp 77) (.tmp 81) rfl v2.heap.size y S [s0] gz 0 1 1 v2 (by kernel_rfl) (by kernel_rfl) rfl hzs hoy hh4 (Nat.le_refl _) hh4.size (by rw [HSL.out]; decide) ?_
            intro yv v5 hoy5 hh5 _
            refine hK.out _ _ (fun _ => hh5.cell hc0 (by simp)) ?_
            clear hK K'
            simp only [Act.put]
            refine held_one_g 20 (by kernel_rfl) rfl (by kernel_rfl) rfl (fun K' hK => ?_)
            go_simp
            refine (verify_any P m _ (S ++ [s0]) v5 (by rw [HPL.out]; decide) (by omega) HSHE.out (hoy5.strs) (HT.out.fr (hg2.trans hh5 (by simp)))).mono ?_
            rintro e v6 ⟨rfl, hb6⟩
            rw [verify_no _ _ _ (by rw [List.length_append, HSL.out]; simp)]
            have hh6 : Fr [] v2 v6 := hh5.below hb6 hh5.size
            have HS : v6.cell? ⟨sa, 0, none⟩ = some (.string ⟨s0.toArray⟩) := hh6.cell hc0 (by simp)
            refine hK.out _ _ (fun _ => HS) ?_
            clear hK K'
            refine held_take_g 21 (v := .bool true) rfl (by kernel_rfl) (by kernel_rfl) (by kernel_rfl) rfl HS (fun W' hS => by have := hS; go_simp) rfl ?_
            refine held_take 22 (v := .bool true) rfl (by kernel_rfl) (by kernel_rfl) (by kernel_rfl) rfl HS (fun W' hS => by have := hS; go_simp) rfl ?_
            refine held_take 23 (v := .bool true) rfl (by kernel_rfl) (by kernel_rfl) (by kernel_rfl) rfl HS (fun W' hS => by have := hS; go_simp) rfl ?_
            simp only [Act.put]
            refine held_take_g 24 (v := .string ⟨m.toArray⟩) rfl (by kernel_rfl) (by kernel_rfl) (by kernel_rfl) rfl HS (fun W' hS => by have := hS; go_simp) rfl ?_
            refine held_take_g 25 (v := .slice (some ⟨sa, 0, none⟩) 18 sc) rfl (by kernel_rfl) (by kernel_rfl) (by kernel_rfl) rfl HS (fun W' hS => by have := hS; go_simp) rfl ?_
            simp only [Act.put]
            refine held_one_g 26 (by kernel_rfl) rfl (by kernel_rfl) rfl (fun K' hK => ?_)
            go_simp
            refine (verify_any [] m _ S v6 (by decide) (by omega) HSH2.out (HSTR2.out.fr0 hh6) (HT.out.fr (hg2.trans hh6 (by simp)))).mono ?_
            rintro e v7 ⟨rfl, hb7⟩
            rw [verify_nil]
            have hh7 : Fr [] v2 v7 := hh6.below hb7 hh6.size
            have HS : v7.cell? ⟨sa, 0, none⟩ = some (.string ⟨s0.toArray⟩) := hh7.cell hc0 (by simp)
            refine hK.out _ _ (fun _ => HS) ?_
            clear hK K'
            refine held_take_g 27 (v := .bool true) rfl (by kernel_rfl) (by kernel_rfl) (by kernel_rfl) rfl HS (fun W' hS => by have := hS; go_simp) rfl ?_
            refine held_take 28 (v := .bool true) rfl (by kernel_rfl) (by kernel_rfl) (by kernel_rfl) rfl HS (fun W' hS => by have := hS; go_simp) rfl ?_
            simp only [Act.put]
            refine held_one 29 (by kernel_rfl) rfl rfl rfl (fun K' hK => ?_)
            go_simp
            refine hK.out _ _ (fun h => absurd rfl h) ?_
            clear hK K'
            refine held_done (by kernel_rfl) ?_
            go_wp2_with fail
            go_ret
            exact ⟨rfl, (hg2.trans hh7 (by simp)).toBelow (by simp)⟩
  · have t1 : decide ((30 : Int) < (sig.length : Int)) = true := by simp; omega
    go_wp2_with fail
    go_ret
    exact ⟨rfl, hf3.toBelow (by simp)⟩
end Go.Proofs.YthcgcocmgjamnaaDoor
