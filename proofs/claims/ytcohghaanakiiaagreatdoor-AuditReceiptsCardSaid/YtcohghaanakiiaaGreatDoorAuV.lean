/-
  foyerref20.Texts, Collide.
-/
import Derived.Test.YtcohghaanakiiaaGreatDoorPlnAw
import Derived.Test.YtcohghaanakiiaaGreatDoorAuA
import Derived.Test.YtcohghaanakiiaaGreatDoorEnK
import Derived.Test.YtcohghaanakiiaaGreatDoorTrD
import Derived.Test.YtcohghaanakiiaaGreatDoorTwo
import Derived.BigQuiet
namespace Go.Proofs.YtcohghaanakiiaaGreatDoor
open Go.RowKit

set_option maxRecDepth 100000 in
set_option maxHeartbeats 2000000 in
theorem ctexts_any (v : Value) (l : List Pty) (w : World) (hv : Pts w v l) (hn : l.length ≤ 100000) (hl : EntS l) :
    Calls Tryz.prog 26 #[v] w fun e w' => ∃ v', e = .returned v' ∧ OwnS w.heap.size w' v' (textsE l) ∧ Below w.heap.size w w' := by
  have HV := Lib.hid hv
  have HL := Lib.hid hl
  obtain ⟨a, cap, rfl, hlc, hcap, ha⟩ := hv.form
  clear hv hl
  go_enter Tryz.func26, Tryz.ntmps26
  go_wp2_with fail
  go_loopg [3, 4] (l.length + 1) (fun g ev i wr => ∃ k : Nat, k ≤ l.length ∧ g = l.length + 1 - k ∧ i = .int .i64 (k : Int) ∧ OwnS w.heap.size wr ev (textsE (l.take k)) ∧ Fr [] w wr)
  case atStart => exact ⟨0, by omega, by omega, rfl, ⟨rfl, Or.inl ⟨rfl, rfl⟩⟩, Fr.refl _ _⟩
  case round =>
    obtain ⟨k, hk, hg, rfl, ho, hfr⟩ := hrel
    have HG := Lib.hid hg
    have HO := Lib.hid ho
    have HF := Lib.hid hfr
    clear hg ho
    by_cases hlt : k < l.length
    · obtain ⟨b, off, rfl⟩ := ha k hlt
      have t2 : decide ((k : Int) < (l.length : Int)) = true := by simp; omega
      obtain ⟨p, hp⟩ : ∃ p, l[k]? = some p := ⟨l[k], List.getElem?_eq_getElem hlt⟩
      obtain ⟨c0, c1, c2⟩ := (HV.out.fr hfr).cells k p hp
      have HS := Lib.hid (textsE_snoc l k p hp)
      have HPS := Lib.hid (HL.out p (List.mem_of_getElem? hp))
      have hlen : (textsE (l.take k)).length < 1000000 := by unfold textsE; rw [List.length_map, List.length_take]; omega
      have i0 : (0 : Int) ≤ (k : Int) := by omega
      have i1 : (k : Int) < (l.length : Int) := by omega
      clear hp hfr
      generalize textsE (l.take k) = L at HO HS hlen
      go_wp2_with fail
      refine (rtextE_any p wr HPS.out.1 HPS.out.2.1 HPS.out.2.2).mono ?_
      rintro e w2 ⟨rfl, hb⟩
      have hf2 : Fr [] wr w2 := (Fr.refl [] wr).below hb (Nat.le_refl _)
      have HO2 := Lib.hid (HO.out.fr hf2 (by simp))
      have HF2 := Lib.hid (HF.out.trans hf2 (by simp))
      clear hb hf2 c0 c1 c2
      obtain ⟨tx, etx⟩ : ∃ q, q = textS p := ⟨_, rfl⟩
      rw [← etx]
      rw [← etx] at HS
      clear etx
      go_wp2_with (at_builtin; go_loud (refine wpList_appS rfl (.tmp 11) (.tmp 17) rfl w.heap.size _ L tx w rfl rfl HO2.out HF2.out (Nat.le_refl _) HF2.out.size hlen ?_))
      intro v' w' g9 c9 hv9 ho' hf' _
      subst hv9
      have HO3 := Lib.hid ho'
      have HF3 := Lib.hid hf'
      clear ho' hf'
      go_wp2_with fail
      go_roundg (l.length + 1 - (k + 1))
      case measure => have := HG.out; omega
      case rel => exact ⟨k + 1, by omega, rfl, by go_num, by rw [HS.out]; exact HO3.out, HF3.out⟩
    · obtain rfl : k = l.length := by omega
      have t2 : decide ((l.length : Int) < (l.length : Int)) = false := by simp
      have HOE : Hid (OwnS w.heap.size wr _ (textsE l)) := Lib.hid (by have := HO.out; rwa [List.take_length] at this)
      go_wp2_with fail
      go_ret
      exact ⟨_, rfl, HOE.out, HF.out.toBelow (by simp)⟩


theorem collT_leaf {a b : List (List UInt8)} (hl : a.length = b.length) {k : Nat} (hk : k < a.length) (h1 : a.getD k [] ≠ b.getD k []) (h2 : (a.map leafD).getD k [] = (b.map leafD).getD k []) : collT a b = true := by
  unfold collT
  rw [decide_eq_true hl, Bool.true_and, Bool.or_eq_true]
  refine Or.inl (List.any_eq_true.2 ⟨k, List.mem_range.2 hk, ?_⟩)
  rw [beq_eq_false_iff_ne.2 h1, beq_iff_eq.2 h2]
  rfl
theorem collT_up {a b : List (List UInt8)} (hl : a.length = b.length) (h : ∀ k, k < a.length → a.getD k [] ≠ b.getD k [] → (a.map leafD).getD k [] ≠ (b.map leafD).getD k []) : collT a b = upC (a.map leafD) (b.map leafD) := by
  have h0 : leafC a b = false := List.any_eq_false.2 (fun k hk => by
    have hk := List.mem_range.1 hk
    by_cases e : a.getD k [] = b.getD k []
    · rw [beq_iff_eq.2 e]; simp
    · rw [beq_eq_false_iff_ne.2 (h k hk e)]; simp)
  unfold collT
  rw [decide_eq_true hl, Bool.true_and, h0, Bool.false_or]
theorem collT_no {a b : List (List UInt8)} (hl : a.length ≠ b.length) : collT a b = false := by
  unfold collT
  rw [decide_eq_false hl, Bool.false_and]
theorem upC_end {x y : List (List UInt8)} (h : ¬ 1 < x.length) : upC x y = false := by rw [upC.eq_def, if_neg h]
theorem upC_yes {x y : List (List UInt8)} {k : Nat} (hk : 2 * k + 1 < x.length) (h1 : ¬ (x.getD (2 * k) [] = y.getD (2 * k) [] ∧ x.getD (2 * k + 1) [] = y.getD (2 * k + 1) [])) (h2 : (upL x).getD k [] = (upL y).getD k []) : upC x y = true := by
  rw [upC.eq_def, if_pos (by omega), Bool.or_eq_true]
  refine Or.inl (List.any_eq_true.2 ⟨k, List.mem_range.2 (by omega), ?_⟩)
  unfold pairC
  rw [beq_iff_eq.2 h2, Bool.and_true]
  by_cases e : x.getD (2 * k) [] = y.getD (2 * k) []
  · rw [beq_eq_false_iff_ne.2 (fun e2 => h1 ⟨e, e2⟩)]; simp
  · rw [beq_eq_false_iff_ne.2 e]; rfl
theorem upC_next {x y : List (List UInt8)} (h1 : 1 < x.length) (h : ∀ k, 2 * k + 1 < x.length → ¬ (x.getD (2 * k) [] = y.getD (2 * k) [] ∧ x.getD (2 * k + 1) [] = y.getD (2 * k + 1) []) → (upL x).getD k [] ≠ (upL y).getD k []) : upC x y = upC (upL x) (upL y) := by
  have h0 : nodeC x y = false := List.any_eq_false.2 (fun k hk => by
    have hk := List.mem_range.1 hk
    unfold pairC
    by_cases e : x.getD (2 * k) [] = y.getD (2 * k) [] ∧ x.getD (2 * k + 1) [] = y.getD (2 * k + 1) []
    · rw [beq_iff_eq.2 e.1, beq_iff_eq.2 e.2]; simp
    · rw [beq_eq_false_iff_ne.2 (h k (by omega) e)]; simp)
  rw [upC.eq_def, if_pos h1, h0, Bool.false_or]

set_option maxRecDepth 100000 in
set_option maxHeartbeats 16000000 in
theorem collide_any (va vb : Value) (a b : List (List UInt8)) (w : World) (hva : Strs w va a) (hvb : Strs w vb b) (hna : a.length ≤ 1000) (hla : ∀ s ∈ a, s.length ≤ 1000000) (hlb : ∀ s ∈ b, s.length ≤ 1000000) :
    Calls Tryz.prog 28 #[va, vb] w fun e w' => e = .returned (.bool (collT a b)) ∧ Below w.heap.size w w' := by
  have hmx : Tryz.prog.follows .mixedOrders = true := by kernel_rfl
  have HVA := Lib.hid hva
  have HVB := Lib.hid hvb
  have HLA := Lib.hid hla
  have HLB := Lib.hid hlb
  obtain ⟨aa, ca, rfl, _, hfa⟩ := hva.form
  obtain ⟨ab, cb, rfl, hlb0, hfb⟩ := hvb.form
  clear hva hvb hla hlb
  by_cases hl : a.length = b.length
  case neg =>
    have t0 : ((a.length : Int) != (b.length : Int)) = true := by simp; omega
    have HCN := Lib.hid (collT_no hl)
    clear hl
    go_enter Tryz.func28, Tryz.ntmps28
    go_wp2_with fail
    go_ret
    exact ⟨by rw [HCN.out]; rfl, (Below.refl _ _)⟩
  have HNN := Lib.hid hl
  have HCL := Lib.hid (fun k hk h1 h2 => collT_leaf (k := k) hl hk h1 h2)
  have HCU := Lib.hid (fun h => collT_up hl h)
  have hlx : (a.map leafD).length = a.length := List.length_map ..
  have hly : (b.map leafD).length = a.length := by rw [List.length_map, hl]
  have HSX := Lib.hid (leaf_short a)
  have HSY := Lib.hid (leaf_short b)
  obtain ⟨n, hn⟩ : ∃ q, q = a.length := ⟨_, rfl⟩
  have hnb : b.length = n := by rw [hn, hl]
  have HLV := Lib.hid (rleaves_any _ a w HVA.out (by omega) HLA.out)
  have HLW := Lib.hid (fun w' (hf : Fr [] w w') => rleaves_any _ b w' (HVB.out.fr0 hf) (by omega) HLB.out)
  obtain ⟨x0, ex⟩ : ∃ q, q = a.map leafD := ⟨_, rfl⟩
  obtain ⟨y0, ey⟩ : ∃ q, q = b.map leafD := ⟨_, rfl⟩
  rw [← ex] at hlx HSX HLV
  rw [← ey] at hly HSY HLW
  rw [← ex, ← ey] at HCL HCU
  rw [← hn] at hlx hly HVA HLV HCL HCU hna hfa ⊢
  rw [hnb] at HVB HLW hfb ⊢
  have t0 : ((n : Int) != (n : Int)) = false := by simp
  have HN := Lib.hid hn
  have HNB := Lib.hid hnb
  clear ex ey hl hn hnb hlb0
  go_enter Tryz.func28, Tryz.ntmps28
  go_wp2_with fail
  refine HLV.out.mono ?_
  rintro e w1 ⟨v1, rfl, ho1, hb1⟩
  have HF1 : Hid (Fr [] w w1) := Lib.hid (Fr.ofBelow hb1)
  have HX1 := Lib.hid ho1.strs
  clear ho1 hb1 HLV
  go_wp2_with fail
  refine (HLW.out w1 HF1.out).mono ?_
  rintro e w2 ⟨v2, rfl, ho2, hb2⟩
  have HF2 : Hid (Fr [] w w2) := Lib.hid (HF1.out.below hb2 HF1.out.size)
  have HX2 : Hid (Strs w2 v1 x0) := Lib.hid (HX1.out.fr0 (Fr.ofBelow hb2))
  have HY2 := Lib.hid ho2.strs
  obtain ⟨xa, cx, rfl, _, hfx⟩ := HX2.out.form
  obtain ⟨ya, cy, rfl, _, hfy⟩ := HY2.out.form
  rw [hlx] at HX2 hfx ⊢
  rw [hly] at HY2 hfy ⊢
  clear ho2 hb2 HLW HX1
  go_wp2_with fail
  go_loopg [7] (n + 1) (fun g i wr => ∃ k : Nat, k ≤ n ∧ g = n + 1 - k ∧ i = .int .i64 (k : Int) ∧ (∀ j, j < k → a.getD j [] ≠ b.getD j [] → x0.getD j [] ≠ y0.getD j []) ∧ Fr [] w2 wr)
  case atStart => exact ⟨0, by omega, by omega, rfl, fun j hj => by omega, Fr.refl _ _⟩
  case round =>
    obtain ⟨k, hk, hg, rfl, hseen, hfr⟩ := hrel
    have HG := Lib.hid hg
    have HSEEN := Lib.hid hseen
    clear hg hseen
    by_cases hlt : k < n
    · have t1 : decide ((k : Int) < (n : Int)) = true := by simp; omega
      obtain ⟨ba, oa, rfl⟩ := hfa k hlt
      obtain ⟨bb, ob, rfl⟩ := hfb k hlt
      obtain ⟨bx, ox, rfl⟩ := hfx k (by omega)
      obtain ⟨by_, oy, rfl⟩ := hfy k (by omega)
      have cA := (HVA.out.fr0 (HF2.out.trans hfr (by simp))).cellN HN.out.symm k hlt
      have cB := (HVB.out.fr0 (HF2.out.trans hfr (by simp))).cellN HNB.out k hlt
      have cX := (HX2.out.fr0 hfr).cellN hlx k hlt
      have cY := (HY2.out.fr0 hfr).cellN hly k hlt
      have HM1 := Lib.hid (HLA.out _ (getD_mem a k [] (by rw [← HN.out]; exact hlt)))
      have HM2 := Lib.hid (HLB.out _ (getD_mem b k [] (by rw [HNB.out]; exact hlt)))
      have HY := Lib.hid (HCL.out k (by omega))
      have HST : Hid ((a.getD k [] ≠ b.getD k [] → x0.getD k [] ≠ y0.getD k []) → ∀ j, j < k + 1 → a.getD j [] ≠ b.getD j [] → x0.getD j [] ≠ y0.getD j []) := Lib.hid (fun h j hj => by
        by_cases e : j = k
        · subst e; exact h
        · exact HSEEN.out j (by omega))
      generalize a.getD k [] = s1 at cA HM1 HY HST
      generalize b.getD k [] = s2 at cB HM2 HY HST
      generalize x0.getD k [] = d1 at cX HY HST
      generalize y0.getD k [] = d2 at cY HY HST
      have i0 : (0 : Int) ≤ (k : Int) := by omega
      have i1 : (k : Int) < (n : Int) := by omega
      clear hfa hfb hfx hfy
      by_cases hs : s1 = s2
      · have t3 : (s1 == s2) = true := by rw [hs]; simp
        have HS := Lib.hid hs
        clear hs
        go_wp2_with fail
        go_quiet (fail)
        go_wp2_with fail
        go_roundg (n + 1 - (k + 1))
        case measure => have := HG.out; omega
        case rel => exact ⟨k + 1, by omega, rfl, by go_num, HST.out (fun h => absurd HS.out h), hfr.drewN _⟩
      · have t3 : (s1 == s2) = false := by simpa using hs
        have HS := Lib.hid hs
        clear hs
        by_cases hd : d1 = d2
        · have t4 : (d1 == d2) = true := by rw [hd]; simp
          have HD := Lib.hid hd
          clear hd
          go_wp2_with fail
          go_quiet (fail)
          go_wp2_with fail
          have HJ : Hid (joinL [leafB, s1] ≠ joinL [leafB, s2]) := Lib.hid (fun h => HS.out (by have := joinL_inj h; simpa using this))
          have HR1 := Lib.hid (fun W v (h : Strs W v [leafB, s1]) => rjoined_any v [leafB, s1] W h (capN_cap [leafB, s1] (by simp) (fun s hs => by simp only [List.mem_cons, List.not_mem_nil, or_false] at hs; rcases hs with rfl | rfl <;> first | exact HM1.out | decide)))
          have HR2 := Lib.hid (fun W v (h : Strs W v [leafB, s2]) => rjoined_any v [leafB, s2] W h (capN_cap [leafB, s2] (by simp) (fun s hs => by simp only [List.mem_cons, List.not_mem_nil, or_false] at hs; rcases hs with rfl | rfl <;> first | exact HM2.out | decide)))
          generalize joinL [leafB, s1] = J1 at HJ HR1
          generalize joinL [leafB, s2] = J2 at HJ HR2
          have hj : (J1 == J2) = false := beq_eq_false_iff_ne.2 HJ.out
          have f0 := hfr.drewN nq
          obtain ⟨W0, hW0⟩ : ∃ W0, W0 = wr.drewN nq := ⟨_, rfl⟩
          have f00 : Fr [] wr W0 := by rw [hW0]; exact (Fr.refl [] wr).drewN nq
          rw [← hW0] at f0 ⊢
          have ca1 := f00.cell cA (by simp)
          have cb1 := f00.cell cB (by simp)
          have HF0 := Lib.hid f0
          clear hW0 f00 f0 cA cB cX cY hfr
          have gp0 : Fr [] W0 W0.drew := (Fr.refl [] W0).drew
          have hSp0 : Fr [] W0 W0.drew := gp0
          refine region_held 100 (fun W' => Fr [] W0 W') hmx ?_
          change Held _ _ _ _ _ _ 14 (Array.replicate 14 false) _ _
          refine hd_take 0 (v := .slice (some ⟨ba, oa, none⟩) n ca) rfl (by kernel_rfl) (by kernel_rfl) (by kernel_rfl) rfl hSp0 (fun W' hS => by go_simp) rfl ?_
          refine hd_take 1 (v := .int .i64 (k : Int)) rfl (by kernel_rfl) (by kernel_rfl) (by kernel_rfl) rfl hSp0 (fun W' hS => by go_simp) rfl ?_
          refine hd_take 6 (v := .slice (some ⟨bb, ob, none⟩) n cb) rfl (by kernel_rfl) (by kernel_rfl) (by kernel_rfl) rfl hSp0 (fun W' hS => by go_simp) rfl ?_
          refine hd_take 7 (v := .int .i64 (k : Int)) rfl (by kernel_rfl) (by kernel_rfl) (by kernel_rfl) rfl hSp0 (fun W' hS => by go_simp) rfl ?_
          try simp only [Act.put, List.setIfInBounds_toArray, List.set_cons_zero, List.set_cons_succ]
          refine hd_take 2 (v := .pointer (some ⟨ba, oa + k, none⟩)) rfl (by kernel_rfl) (by kernel_rfl) (by kernel_rfl) rfl hSp0 (fun W' hS => by go_simp) rfl ?_
          refine hd_take 8 (v := .pointer (some ⟨bb, ob + k, none⟩)) rfl (by kernel_rfl) (by kernel_rfl) (by kernel_rfl) rfl hSp0 (fun W' hS => by go_simp) rfl ?_
          try simp only [Act.put, List.setIfInBounds_toArray, List.set_cons_zero, List.set_cons_succ]
          refine hd_take 3 (v := .string ⟨s1.toArray⟩) rfl (by kernel_rfl) (by kernel_rfl) (by kernel_rfl) rfl hSp0 (fun W' hS => by have s0 := hS.cell ca1 (by simp); go_simp) rfl ?_
          refine hd_take 9 (v := .string ⟨s2.toArray⟩) rfl (by kernel_rfl) (by kernel_rfl) (by kernel_rfl) rfl hSp0 (fun W' hS => by have s0 := hS.cell cb1 (by simp); go_simp) rfl ?_
          try simp only [Act.put, List.setIfInBounds_toArray, List.set_cons_zero, List.set_cons_succ]
          refine held_key 50 51 56 #[true, true, true, true, true, true, true, true, true, true, true, false, false, false] (fun x y z W' => (∃ g, x = .slice (some ⟨g, 0, none⟩) 2 2) ∧ y = .string ⟨J1.toArray⟩ ∧ (∃ g, z = .slice (some ⟨g, 0, none⟩) 2 2 ∧ Strs W' (.slice (some ⟨g, 0, none⟩) 2 2) [leafB, s2]) ∧ Fr [] W0 W') (fuel' := 3) (fun key => ?_) (fun x y z kA hR => ?_)
          · refine held_two_g 4 10 (by kernel_rfl) rfl rfl (by kernel_rfl) (by kernel_rfl) (fun K' hK => ?_) (fun K' hK => ?_)
            · go_simp
              refine hK.out _ _ (fun _ => gp0.alloc _) ?_
              clear hK K'
              refine held_two_g 5 10 (by kernel_rfl) rfl rfl (by kernel_rfl) (by kernel_rfl) (fun K' hK => ?_) (fun K' hK => ?_)
              · go_simp
                refine (HR1.out (W0.drew.alloc (.cells #[.string ⟨#[108, 101, 97, 102]⟩, .string ⟨s1.toArray⟩] 9)) _ (strs_two (x := leafB) (heap_new rfl))).mono ?_
                rintro e x1 ⟨rfl, hb⟩
                have gA : Fr [] W0 x1 := (gp0.alloc _).below hb (gp0.alloc _).size
                refine hK.out _ _ (fun _ => gA) ?_
                clear hK K'
                refine held_one_g 10 (by kernel_rfl) rfl (by kernel_rfl) rfl (fun K' hK => ?_)
                go_simp
                refine hK.out _ _ (fun _ => gA.alloc _) ?_
                clear hK K'
                have hk := key (.slice (some ⟨W0.drew.heap.size, 0, none⟩) 2 2) (.string ⟨J1.toArray⟩) (.slice (some ⟨x1.heap.size, 0, none⟩) 2 2) (x1.alloc (.cells #[.string ⟨#[108, 101, 97, 102]⟩, .string ⟨s2.toArray⟩] 9)) ⟨⟨_, rfl⟩, rfl, ⟨_, rfl, strs_two (x := leafB) (heap_new rfl)⟩, gA.alloc _⟩
                exact held_same hk (by kernel_rfl) (by kernel_rfl)
              · go_simp
                refine hK.out _ _ (fun _ => (gp0.alloc _).alloc _) ?_
                clear hK K'
                refine held_one_g 5 (by kernel_rfl) rfl (by kernel_rfl) rfl (fun K' hK => ?_)
                go_simp
                refine (HR1.out ((W0.drew.alloc (.cells #[.string ⟨#[108, 101, 97, 102]⟩, .string ⟨s1.toArray⟩] 9)).alloc (.cells #[.string ⟨#[108, 101, 97, 102]⟩, .string ⟨s2.toArray⟩] 9)) _ ((Strs.fr0 (strs_two (x := leafB) (heap_new rfl)) ((Fr.refl [] (W0.drew.alloc (.cells #[.string ⟨#[108, 101, 97, 102]⟩, .string ⟨s1.toArray⟩] 9))).alloc _)))).mono ?_
                rintro e x1 ⟨rfl, hb⟩
                have gA : Fr [] W0 x1 := ((gp0.alloc _).alloc _).below hb ((gp0.alloc _).alloc _).size
                refine hK.out _ _ (fun _ => gA) ?_
                clear hK K'
                have hk := key (.slice (some ⟨W0.drew.heap.size, 0, none⟩) 2 2) (.string ⟨J1.toArray⟩) (.slice (some ⟨(W0.drew.heap.size + 1), 0, none⟩) 2 2) x1 ⟨⟨_, rfl⟩, rfl, ⟨_, rfl, Strs.fr0 (strs_two (x := leafB) (heap_new (by simp))) (Fr.ofBelow hb)⟩, gA⟩
                exact held_same hk (by kernel_rfl) (by kernel_rfl)
            · go_simp
              refine hK.out _ _ (fun _ => gp0.alloc _) ?_
              clear hK K'
              refine held_one_g 4 (by kernel_rfl) rfl (by kernel_rfl) rfl (fun K' hK => ?_)
              go_simp
              refine hK.out _ _ (fun _ => (gp0.alloc _).alloc _) ?_
              clear hK K'
              refine held_one_g 5 (by kernel_rfl) rfl (by kernel_rfl) rfl (fun K' hK => ?_)
              go_simp
              refine (HR1.out ((W0.drew.alloc (.cells #[.string ⟨#[108, 101, 97, 102]⟩, .string ⟨s2.toArray⟩] 9)).alloc (.cells #[.string ⟨#[108, 101, 97, 102]⟩, .string ⟨s1.toArray⟩] 9)) _ (strs_two (x := leafB) (heap_new (by simp)))).mono ?_
              rintro e x1 ⟨rfl, hb⟩
              have gA : Fr [] W0 x1 := ((gp0.alloc _).alloc _).below hb ((gp0.alloc _).alloc _).size
              refine hK.out _ _ (fun _ => gA) ?_
              clear hK K'
              have hk := key (.slice (some ⟨(W0.drew.heap.size + 1), 0, none⟩) 2 2) (.string ⟨J1.toArray⟩) (.slice (some ⟨W0.drew.heap.size, 0, none⟩) 2 2) x1 ⟨⟨_, rfl⟩, rfl, ⟨_, rfl, Strs.fr0 (Strs.fr0 (strs_two (x := leafB) (heap_new rfl)) ((Fr.refl [] (W0.drew.alloc (.cells #[.string ⟨#[108, 101, 97, 102]⟩, .string ⟨s2.toArray⟩] 9))).alloc _)) (Fr.ofBelow hb)⟩, gA⟩
              exact held_same hk (by kernel_rfl) (by kernel_rfl)
          obtain ⟨⟨gA, rfl⟩, rfl, ⟨ggA, rfl, hyA⟩, gkA⟩ := hR
          try simp only [List.setIfInBounds_toArray, List.set_cons_zero, List.set_cons_succ]
          refine hd_one 11 (by kernel_rfl) rfl (by kernel_rfl) rfl (fun K' hK => ?_)
          go_simp
          refine (HR2.out kA _ hyA).mono ?_
          rintro e yp1 ⟨rfl, hbb⟩
          have gp1 : Fr [] W0 yp1 := gkA.below hbb gkA.size
          clear hbb
          have hSp1 : Fr [] W0 yp1 := gp1
          refine hK.out _ _ (fun _ => hSp1) ?_
          clear hK K'
          try simp only [List.setIfInBounds_toArray, List.set_cons_zero, List.set_cons_succ]
          refine hd_take 12 (v := .bool true) rfl (by kernel_rfl) (by kernel_rfl) (by kernel_rfl) rfl hSp1 (fun W' hS => by go_simp) rfl ?_
          try simp only [Act.put, List.setIfInBounds_toArray, List.set_cons_zero, List.set_cons_succ]
          refine hd_one 13 (by kernel_rfl) rfl (by kernel_rfl) rfl (fun K' hK => ?_)
          go_simp
          refine hK.out _ _ (fun _ => hSp1) ?_
          clear hK K'
          refine held_done (by kernel_rfl) ?_
          have HFE := Lib.hid (HF2.out.trans (HF0.out.trans gp1 (by simp)) (by simp))
          go_wp2_with fail
          go_ret
          exact ⟨by rw [HY.out HS.out HD.out]; rfl, HFE.out.toBelow (by simp)⟩
        · have t4 : (d1 == d2) = false := by simpa using hd
          have HD := Lib.hid hd
          clear hd
          go_wp2_with fail
          go_quiet (fail)
          go_wp2_with fail
          go_roundg (n + 1 - (k + 1))
          case measure => have := HG.out; omega
          case rel => exact ⟨k + 1, by omega, rfl, by go_num, HST.out (fun _ => HD.out), hfr.drewN _⟩
    · obtain rfl : n = k := by omega
      have t1 : decide ((n : Int) < (n : Int)) = false := by simp
      have HUP := Lib.hid (HCU.out HSEEN.out)
      have HFR := Lib.hid (HF2.out.trans hfr (by simp))
      have HX3 := Lib.hid (HX2.out.fr0 hfr)
      have HY3 := Lib.hid (HY2.out.fr0 hfr)
      clear hfr
      go_wp2_with fail
      go_loopg [5, 6] (n + 1) (fun g xv yv wr => ∃ x y : List (List UInt8), x.length = y.length ∧ x.length ≤ n ∧ g = x.length + 1 ∧ Strs wr xv x ∧ Strs wr yv y ∧ (∀ s ∈ x, s.length ≤ 1000000) ∧ (∀ s ∈ y, s.length ≤ 1000000) ∧ collT a b = upC x y ∧ Fr [] w wr)
      case atStart => exact ⟨x0, y0, by rw [hlx, hly], by omega, by rw [hlx], HX3.out, HY3.out, HSX.out, HSY.out, HUP.out, HFR.out⟩
      case round =>
        clear HX3 HY3 HSX HSY HUP HFR HX2 HY2 HCL HCU HSEEN hlx hly t0
        obtain ⟨x, y, hxy, hxn, hg, hsx, hsy, hlx, hly, hup, hfr⟩ := hrel
        have HG := Lib.hid hg
        have HSX := Lib.hid hsx
        have HSY := Lib.hid hsy
        have HLX := Lib.hid hlx
        have HLY := Lib.hid hly
        have HUP := Lib.hid hup
        have HF3 := Lib.hid hfr
        obtain ⟨xa, cx, rfl, _, hfx⟩ := hsx.form
        obtain ⟨ya, cy, rfl, _, hfy⟩ := hsy.form
        have HXL := Lib.hid hxy
        obtain ⟨xn, exn⟩ : ∃ q, q = x.length := ⟨_, rfl⟩
        have eyn : y.length = xn := by rw [exn, hxy]
        rw [eyn] at hfy ⊢
        rw [← exn] at hxn hfx ⊢
        have EXN := Lib.hid exn
        have EYN := Lib.hid eyn
        clear hg hsx hsy hlx hly hup hfr hxy exn eyn
        by_cases h1 : 1 < xn
        · have t1 : decide ((1 : Int) < (xn : Int)) = true := by simp; omega
          have HSX' : Hid (Strs wr (.slice xa xn cx) x) := Lib.hid (by have := HSX.out; rwa [← EXN.out] at this)
          have HSY' : Hid (Strs wr (.slice ya xn cy) y) := Lib.hid (by have := HSY.out; rwa [EYN.out] at this)
          have HN1 := Lib.hid (upC_next (x := x) (y := y) (by rw [← EXN.out]; exact h1))
          have HLu := Lib.hid (upL_length x)
          have HLv := Lib.hid (upL_length y)
          have HSu := Lib.hid (up_short HLX.out)
          have HSv := Lib.hid (up_short HLY.out)
          have HUX := Lib.hid (rup_any _ x wr HSX'.out (by rw [← EXN.out]; omega) HLX.out)
          have HUY := Lib.hid (fun w' (hf : Fr [] wr w') => rup_any _ y w' (HSY'.out.fr0 hf) (by rw [EYN.out]; omega) HLY.out)
          have HYES := Lib.hid (fun k h1 h2 h3 => upC_yes (x := x) (y := y) (k := k) h1 h2 h3)
          obtain ⟨u, eu⟩ : ∃ q, q = upL x := ⟨_, rfl⟩
          obtain ⟨v, ev⟩ : ∃ q, q = upL y := ⟨_, rfl⟩
          rw [← eu] at HLu HSu HUX
          rw [← ev] at HLv HSv HUY
          rw [← eu, ← ev] at HN1 HYES
          clear eu ev
          clear HSX HSY
          go_wp2_with fail
          refine HUX.out.mono ?_
          rintro e w4 ⟨v4, rfl, ho4, hb4⟩
          have HF4 : Hid (Fr [] wr w4) := Lib.hid (Fr.ofBelow hb4)
          have HU4 := Lib.hid ho4.strs
          clear ho4 hb4 HUX
          go_wp2_with fail
          refine (HUY.out w4 HF4.out).mono ?_
          rintro e w5 ⟨v5, rfl, ho5, hb5⟩
          have HF5 : Hid (Fr [] wr w5) := Lib.hid (HF4.out.below hb5 HF4.out.size)
          have HU5 : Hid (Strs w5 v4 u) := Lib.hid (HU4.out.fr0 (Fr.ofBelow hb5))
          have HV5 := Lib.hid ho5.strs
          obtain ⟨ua, cu, rfl, _, hfu⟩ := HU5.out.form
          obtain ⟨va, cv, rfl, _, hfv⟩ := HV5.out.form
          obtain ⟨un, eun⟩ : ∃ q, q = u.length := ⟨_, rfl⟩
          have hun : un = (xn + 1) / 2 := by rw [eun, HLu.out, EXN.out]
          have evn : v.length = un := by rw [hun, HLv.out, EYN.out]
          rw [evn] at HV5 hfv ⊢
          rw [← eun] at HU5 hfu ⊢
          have EUN := Lib.hid eun
          have EVN := Lib.hid evn
          have HUNH := Lib.hid hun
          clear ho5 hb5 HUY HU4 eun evn hun
          go_wp2_with fail
          obtain ⟨wo, hwo⟩ : ∃ wo : World, wo = w5 := ⟨_, rfl⟩
          go_loopg [10] (xn + 2) (fun g i wr => ∃ k i0 : Nat, i0 = 2 * k ∧ i0 ≤ xn + 1 ∧ g = xn + 2 - i0 ∧ i = .int .i64 (i0 : Int) ∧ (∀ j, j < k → ¬ (x.getD (2 * j) [] = y.getD (2 * j) [] ∧ x.getD (2 * j + 1) [] = y.getD (2 * j + 1) []) → u.getD j [] ≠ v.getD j []) ∧ Fr [] w5 wr)
          case atStart => exact ⟨0, 0, rfl, by omega, by omega, rfl, fun j hj => by omega, Fr.refl _ _⟩
          case round =>
            obtain ⟨k, i, hik, hi, hg, rfl, hseen, hfr⟩ := hrel
            have HG2 := Lib.hid hg
            have HSEEN := Lib.hid hseen
            have HIK := Lib.hid hik
            have wr1 : IntKind.i64.wrap ((i : Int) + 1) = (i : Int) + 1 := IntWalk.i64_in _ (by omega)
            have wr2 : IntKind.i64.wrap ((i : Int) + 2) = (i : Int) + 2 := IntWalk.i64_in _ (by omega)
            have HUNN := HUNH
            clear hg hseen hik
            by_cases hlt : i + 1 < xn
            · have t2 : decide ((i : Int) + 1 < (xn : Int)) = true := by simp; omega
              obtain ⟨bx, ox, rfl⟩ := hfx i (by omega)
              obtain ⟨by_, oy, rfl⟩ := hfy i (by omega)
              have hku : k < un := by have h := HUNN.out; have h' := HIK.out; omega
              obtain ⟨bu, ou, rfl⟩ := hfu k hku
              obtain ⟨bv, ov, rfl⟩ := hfv k hku
              have FX := Lib.hid (HF5.out.trans hfr (by simp))
              have cx0 := (HSX'.out.fr0 FX.out).cellN EXN.out.symm i (by omega)
              have cx1 := (HSX'.out.fr0 FX.out).cellN EXN.out.symm (i + 1) hlt
              have cy0 := (HSY'.out.fr0 FX.out).cellN EYN.out i (by omega)
              have cy1 := (HSY'.out.fr0 FX.out).cellN EYN.out (i + 1) hlt
              have cu0 := (HU5.out.fr0 hfr).cellN EUN.out.symm k hku
              have cv0 := (HV5.out.fr0 hfr).cellN EVN.out k hku
              have HM1 := Lib.hid (HLX.out _ (getD_mem x i [] (by rw [← EXN.out]; omega)))
              have HM2 := Lib.hid (HLX.out _ (getD_mem x (i + 1) [] (by rw [← EXN.out]; omega)))
              have HM3 := Lib.hid (HLY.out _ (getD_mem y i [] (by rw [EYN.out]; omega)))
              have HM4 := Lib.hid (HLY.out _ (getD_mem y (i + 1) [] (by rw [EYN.out]; omega)))
              have HY := HYES.out k (by rw [← EXN.out]; have h := HIK.out; omega)
              rw [← HIK.out] at HY
              have HST : Hid ((¬ (x.getD i [] = y.getD i [] ∧ x.getD (i + 1) [] = y.getD (i + 1) []) → u.getD k [] ≠ v.getD k []) → ∀ j, j < k + 1 → ¬ (x.getD (2 * j) [] = y.getD (2 * j) [] ∧ x.getD (2 * j + 1) [] = y.getD (2 * j + 1) []) → u.getD j [] ≠ v.getD j []) := Lib.hid (fun h j hj => by
                by_cases e : j = k
                · subst e; rw [← HIK.out]; exact h
                · exact HSEEN.out j (by omega))
              generalize x.getD i [] = p1 at cx0 HM1 HY HST
              generalize x.getD (i + 1) [] = p2 at cx1 HM2 HY HST
              generalize y.getD i [] = q1 at cy0 HM3 HY HST
              generalize y.getD (i + 1) [] = q2 at cy1 HM4 HY HST
              generalize u.getD k [] = d1 at cu0 HY HST
              generalize v.getD k [] = d2 at cv0 HY HST
              have HUC := Lib.hid HY
              have i0 : (0 : Int) ≤ (i : Int) := by omega
              have i1 : (i : Int) < (xn : Int) := by omega
              have i2 : (i : Int) + 1 < (xn : Int) := by omega
              have i3 : (0 : Int) ≤ (i : Int) + 1 := by omega
              have i4 : ((i : Int) + 1).toNat = i + 1 := by omega
              have i5 : Int.tdiv (i : Int) 2 = (k : Int) := by rw [Int.tdiv_eq_ediv_of_nonneg (by omega)]; have h := HIK.out; omega
              have i5b : (i : Int) / 2 = (k : Int) := by have h := HIK.out; omega
              have i6 : IntKind.i64.wrap (k : Int) = (k : Int) := IntWalk.i64_in _ (by have h := HIK.out; omega)
              have i7 : (k : Int) < (un : Int) := by omega
              have i8 : (0 : Int) ≤ (k : Int) := by omega
              clear hfx hfy hfu hfv HY hku
              by_cases hp : p1 = q1
              · have t3 : (p1 == q1) = true := by rw [hp]; simp
                have HP := Lib.hid hp
                clear hp
                by_cases hq : p2 = q2
                · have t4 : (p2 == q2) = true := by rw [hq]; simp
                  have HQ := Lib.hid hq
                  clear hq
                  go_wp2_with fail
                  go_quiet (fail)
                  go_wp2_with fail
                  go_roundg (xn + 2 - (i + 2))
                  case measure => have := HG2.out; omega
                  case rel => exact ⟨k + 1, i + 2, by have := HIK.out; omega, by omega, rfl, by go_num, HST.out (fun h => absurd ⟨HP.out, HQ.out⟩ h), hfr.drewN _⟩
                · have t4 : (p2 == q2) = false := by simpa using hq
                  have HNE : Hid (¬ (p1 = q1 ∧ p2 = q2)) := Lib.hid (fun h => hq h.2)
                  clear hq
                  by_cases hd : d1 = d2
                  · have t5 : (d1 == d2) = true := by rw [hd]; simp
                    have HD := Lib.hid hd
                    clear hd
                    go_wp2_with fail
                    go_quiet (fail)
                    go_wp2_with fail
                    have HJ : Hid (joinL [nodeB, p1, p2] ≠ joinL [nodeB, q1, q2]) := Lib.hid (fun h => HNE.out (by have := joinL_inj h; simp only [List.cons.injEq, and_true, true_and] at this; exact this))
                    have HR1 := Lib.hid (fun W v (h : Strs W v [nodeB, p1, p2]) => rjoined_any v [nodeB, p1, p2] W h (capN_cap [nodeB, p1, p2] (by simp) (fun s hs => by simp only [List.mem_cons, List.not_mem_nil, or_false] at hs; rcases hs with rfl | rfl | rfl <;> first | exact HM1.out | exact HM2.out | decide)))
                    have HR2 := Lib.hid (fun W v (h : Strs W v [nodeB, q1, q2]) => rjoined_any v [nodeB, q1, q2] W h (capN_cap [nodeB, q1, q2] (by simp) (fun s hs => by simp only [List.mem_cons, List.not_mem_nil, or_false] at hs; rcases hs with rfl | rfl | rfl <;> first | exact HM3.out | exact HM4.out | decide)))
                    generalize joinL [nodeB, p1, p2] = J1 at HJ HR1
                    generalize joinL [nodeB, q1, q2] = J2 at HJ HR2
                    have hj : (J1 == J2) = false := beq_eq_false_iff_ne.2 HJ.out
                    have f0 := hfr.drewN nq
                    obtain ⟨W0, hW0⟩ : ∃ W0, W0 = wr.drewN nq := ⟨_, rfl⟩
                    have f00 : Fr [] wr W0 := by rw [hW0]; exact (Fr.refl [] wr).drewN nq
                    rw [← hW0] at f0 ⊢
                    have cp1 := f00.cell cx0 (by simp)
                    have cp2 := f00.cell cx1 (by simp)
                    have cq1 := f00.cell cy0 (by simp)
                    have cq2 := f00.cell cy1 (by simp)
                    have HF0 := Lib.hid f0
                    clear hW0 f00 f0 cx0 cx1 cy0 cy1 cu0 cv0 hfr
                    have gp0 : Fr [] W0 W0.drew := (Fr.refl [] W0).drew
                    have hSp0 : Fr [] W0 W0.drew := gp0
                    refine region_held 100 (fun W' => Fr [] W0 W') hmx ?_
                    change Held _ _ _ _ _ _ 24 (Array.replicate 24 false) _ _
                    refine hd_take 0 (v := .slice (some ⟨bx, ox, none⟩) xn cx) rfl (by kernel_rfl) (by kernel_rfl) (by kernel_rfl) rfl hSp0 (fun W' hS => by go_simp) rfl ?_
                    refine hd_take 1 (v := .int .i64 (i : Int)) rfl (by kernel_rfl) (by kernel_rfl) (by kernel_rfl) rfl hSp0 (fun W' hS => by go_simp) rfl ?_
                    refine hd_take 4 (v := .slice (some ⟨bx, ox, none⟩) xn cx) rfl (by kernel_rfl) (by kernel_rfl) (by kernel_rfl) rfl hSp0 (fun W' hS => by go_simp) rfl ?_
                    refine hd_take 5 (v := .int .i64 (i : Int)) rfl (by kernel_rfl) (by kernel_rfl) (by kernel_rfl) rfl hSp0 (fun W' hS => by go_simp) rfl ?_
                    refine hd_take 11 (v := .slice (some ⟨by_, oy, none⟩) xn cy) rfl (by kernel_rfl) (by kernel_rfl) (by kernel_rfl) rfl hSp0 (fun W' hS => by go_simp) rfl ?_
                    refine hd_take 12 (v := .int .i64 (i : Int)) rfl (by kernel_rfl) (by kernel_rfl) (by kernel_rfl) rfl hSp0 (fun W' hS => by go_simp) rfl ?_
                    refine hd_take 15 (v := .slice (some ⟨by_, oy, none⟩) xn cy) rfl (by kernel_rfl) (by kernel_rfl) (by kernel_rfl) rfl hSp0 (fun W' hS => by go_simp) rfl ?_
                    refine hd_take 16 (v := .int .i64 (i : Int)) rfl (by kernel_rfl) (by kernel_rfl) (by kernel_rfl) rfl hSp0 (fun W' hS => by go_simp) rfl ?_
                    try simp only [Act.put, List.setIfInBounds_toArray, List.set_cons_zero, List.set_cons_succ]
                    refine hd_take 2 (v := .pointer (some ⟨bx, ox + i, none⟩)) rfl (by kernel_rfl) (by kernel_rfl) (by kernel_rfl) rfl hSp0 (fun W' hS => by go_simp) rfl ?_
                    refine hd_take 6 (v := .int .i64 ((i : Int) + 1)) rfl (by kernel_rfl) (by kernel_rfl) (by kernel_rfl) rfl hSp0 (fun W' hS => by go_simp) rfl ?_
                    refine hd_take 13 (v := .pointer (some ⟨by_, oy + i, none⟩)) rfl (by kernel_rfl) (by kernel_rfl) (by kernel_rfl) rfl hSp0 (fun W' hS => by go_simp) rfl ?_
                    refine hd_take 17 (v := .int .i64 ((i : Int) + 1)) rfl (by kernel_rfl) (by kernel_rfl) (by kernel_rfl) rfl hSp0 (fun W' hS => by go_simp) rfl ?_
                    try simp only [Act.put, List.setIfInBounds_toArray, List.set_cons_zero, List.set_cons_succ]
                    refine hd_take 3 (v := .string ⟨p1.toArray⟩) rfl (by kernel_rfl) (by kernel_rfl) (by kernel_rfl) rfl hSp0 (fun W' hS => by have s0 := hS.cell cp1 (by simp); go_simp) rfl ?_
                    refine hd_take 7 (v := .pointer (some ⟨bx, ox + (i + 1), none⟩)) rfl (by kernel_rfl) (by kernel_rfl) (by kernel_rfl) rfl hSp0 (fun W' hS => by go_simp) rfl ?_
                    refine hd_take 14 (v := .string ⟨q1.toArray⟩) rfl (by kernel_rfl) (by kernel_rfl) (by kernel_rfl) rfl hSp0 (fun W' hS => by have s0 := hS.cell cq1 (by simp); go_simp) rfl ?_
                    refine hd_take 18 (v := .pointer (some ⟨by_, oy + (i + 1), none⟩)) rfl (by kernel_rfl) (by kernel_rfl) (by kernel_rfl) rfl hSp0 (fun W' hS => by go_simp) rfl ?_
                    try simp only [Act.put, List.setIfInBounds_toArray, List.set_cons_zero, List.set_cons_succ]
                    refine hd_take 8 (v := .string ⟨p2.toArray⟩) rfl (by kernel_rfl) (by kernel_rfl) (by kernel_rfl) rfl hSp0 (fun W' hS => by have s0 := hS.cell cp2 (by simp); go_simp) rfl ?_
                    refine hd_take 19 (v := .string ⟨q2.toArray⟩) rfl (by kernel_rfl) (by kernel_rfl) (by kernel_rfl) rfl hSp0 (fun W' hS => by have s0 := hS.cell cq2 (by simp); go_simp) rfl ?_
                    try simp only [Act.put, List.setIfInBounds_toArray, List.set_cons_zero, List.set_cons_succ]
                    refine held_key 117 118 128 #[true, true, true, true, true, true, true, true, true, true, true, true, true, true, true, true, true, true, true, true, true, false, false, false] (fun x y z W' => (∃ g, x = .slice (some ⟨g, 0, none⟩) 3 3) ∧ y = .string ⟨J1.toArray⟩ ∧ (∃ g, z = .slice (some ⟨g, 0, none⟩) 3 3 ∧ Strs W' (.slice (some ⟨g, 0, none⟩) 3 3) [nodeB, q1, q2]) ∧ Fr [] W0 W') (fuel' := 3) (fun key => ?_) (fun x y z kA hR => ?_)
                    · refine held_two_g 9 20 (by kernel_rfl) rfl rfl (by kernel_rfl) (by kernel_rfl) (fun K' hK => ?_) (fun K' hK => ?_)
                      · go_simp
                        refine hK.out _ _ (fun _ => gp0.alloc _) ?_
                        clear hK K'
                        refine held_two_g 10 20 (by kernel_rfl) rfl rfl (by kernel_rfl) (by kernel_rfl) (fun K' hK => ?_) (fun K' hK => ?_)
                        · go_simp
                          refine (HR1.out (W0.drew.alloc (.cells #[.string ⟨#[110, 111, 100, 101]⟩, .string ⟨p1.toArray⟩, .string ⟨p2.toArray⟩] 9)) _ (strs_three (x := nodeB) (heap_new rfl))).mono ?_
                          rintro e x1 ⟨rfl, hb⟩
                          have gA : Fr [] W0 x1 := (gp0.alloc _).below hb (gp0.alloc _).size
                          refine hK.out _ _ (fun _ => gA) ?_
                          clear hK K'
                          refine held_one_g 20 (by kernel_rfl) rfl (by kernel_rfl) rfl (fun K' hK => ?_)
                          go_simp
                          refine hK.out _ _ (fun _ => gA.alloc _) ?_
                          clear hK K'
                          have hk := key (.slice (some ⟨W0.drew.heap.size, 0, none⟩) 3 3) (.string ⟨J1.toArray⟩) (.slice (some ⟨x1.heap.size, 0, none⟩) 3 3) (x1.alloc (.cells #[.string ⟨#[110, 111, 100, 101]⟩, .string ⟨q1.toArray⟩, .string ⟨q2.toArray⟩] 9)) ⟨⟨_, rfl⟩, rfl, ⟨_, rfl, strs_three (x := nodeB) (heap_new rfl)⟩, gA.alloc _⟩
                          exact held_same hk (by kernel_rfl) (by kernel_rfl)
                        · go_simp
                          refine hK.out _ _ (fun _ => (gp0.alloc _).alloc _) ?_
                          clear hK K'
                          refine held_one_g 10 (by kernel_rfl) rfl (by kernel_rfl) rfl (fun K' hK => ?_)
                          go_simp
                          refine (HR1.out ((W0.drew.alloc (.cells #[.string ⟨#[110, 111, 100, 101]⟩, .string ⟨p1.toArray⟩, .string ⟨p2.toArray⟩] 9)).alloc (.cells #[.string ⟨#[110, 111, 100, 101]⟩, .string ⟨q1.toArray⟩, .string ⟨q2.toArray⟩] 9)) _ ((Strs.fr0 (strs_three (x := nodeB) (heap_new rfl)) ((Fr.refl [] (W0.drew.alloc (.cells #[.string ⟨#[110, 111, 100, 101]⟩, .string ⟨p1.toArray⟩, .string ⟨p2.toArray⟩] 9))).alloc _)))).mono ?_
                          rintro e x1 ⟨rfl, hb⟩
                          have gA : Fr [] W0 x1 := ((gp0.alloc _).alloc _).below hb ((gp0.alloc _).alloc _).size
                          refine hK.out _ _ (fun _ => gA) ?_
                          clear hK K'
                          have hk := key (.slice (some ⟨W0.drew.heap.size, 0, none⟩) 3 3) (.string ⟨J1.toArray⟩) (.slice (some ⟨(W0.drew.heap.size + 1), 0, none⟩) 3 3) x1 ⟨⟨_, rfl⟩, rfl, ⟨_, rfl, Strs.fr0 (strs_three (x := nodeB) (heap_new (by simp))) (Fr.ofBelow hb)⟩, gA⟩
                          exact held_same hk (by kernel_rfl) (by kernel_rfl)
                      · go_simp
                        refine hK.out _ _ (fun _ => gp0.alloc _) ?_
                        clear hK K'
                        refine held_one_g 9 (by kernel_rfl) rfl (by kernel_rfl) rfl (fun K' hK => ?_)
                        go_simp
                        refine hK.out _ _ (fun _ => (gp0.alloc _).alloc _) ?_
                        clear hK K'
                        refine held_one_g 10 (by kernel_rfl) rfl (by kernel_rfl) rfl (fun K' hK => ?_)
                        go_simp
                        refine (HR1.out ((W0.drew.alloc (.cells #[.string ⟨#[110, 111, 100, 101]⟩, .string ⟨q1.toArray⟩, .string ⟨q2.toArray⟩] 9)).alloc (.cells #[.string ⟨#[110, 111, 100, 101]⟩, .string ⟨p1.toArray⟩, .string ⟨p2.toArray⟩] 9)) _ (strs_three (x := nodeB) (heap_new (by simp)))).mono ?_
                        rintro e x1 ⟨rfl, hb⟩
                        have gA : Fr [] W0 x1 := ((gp0.alloc _).alloc _).below hb ((gp0.alloc _).alloc _).size
                        refine hK.out _ _ (fun _ => gA) ?_
                        clear hK K'
                        have hk := key (.slice (some ⟨(W0.drew.heap.size + 1), 0, none⟩) 3 3) (.string ⟨J1.toArray⟩) (.slice (some ⟨W0.drew.heap.size, 0, none⟩) 3 3) x1 ⟨⟨_, rfl⟩, rfl, ⟨_, rfl, Strs.fr0 (Strs.fr0 (strs_three (x := nodeB) (heap_new rfl)) ((Fr.refl [] (W0.drew.alloc (.cells #[.string ⟨#[110, 111, 100, 101]⟩, .string ⟨q1.toArray⟩, .string ⟨q2.toArray⟩] 9))).alloc _)) (Fr.ofBelow hb)⟩, gA⟩
                        exact held_same hk (by kernel_rfl) (by kernel_rfl)
                    obtain ⟨⟨gA, rfl⟩, rfl, ⟨ggA, rfl, hyA⟩, gkA⟩ := hR
                    try simp only [List.setIfInBounds_toArray, List.set_cons_zero, List.set_cons_succ]
                    refine hd_one 21 (by kernel_rfl) rfl (by kernel_rfl) rfl (fun K' hK => ?_)
                    go_simp
                    refine (HR2.out kA _ hyA).mono ?_
                    rintro e yp1 ⟨rfl, hbb⟩
                    have gp1 : Fr [] W0 yp1 := gkA.below hbb gkA.size
                    clear hbb
                    have hSp1 : Fr [] W0 yp1 := gp1
                    refine hK.out _ _ (fun _ => hSp1) ?_
                    clear hK K'
                    try simp only [List.setIfInBounds_toArray, List.set_cons_zero, List.set_cons_succ]
                    refine hd_take 22 (v := .bool true) rfl (by kernel_rfl) (by kernel_rfl) (by kernel_rfl) rfl hSp1 (fun W' hS => by go_simp) rfl ?_
                    try simp only [Act.put, List.setIfInBounds_toArray, List.set_cons_zero, List.set_cons_succ]
                    refine hd_one 23 (by kernel_rfl) rfl (by kernel_rfl) rfl (fun K' hK => ?_)
                    go_simp
                    refine hK.out _ _ (fun _ => hSp1) ?_
                    clear hK K'
                    refine held_done (by kernel_rfl) ?_
                    have HFE := Lib.hid (HF3.out.trans (HF5.out.trans (HF0.out.trans gp1 (by simp)) (by simp)) (by simp))
                    go_wp2_with fail
                    go_ret
                    exact ⟨by rw [HUP.out, HUC.out HNE.out HD.out]; rfl, HFE.out.toBelow (by simp)⟩
                  · have t5 : (d1 == d2) = false := by simpa using hd
                    have HD := Lib.hid hd
                    clear hd
                    go_wp2_with fail
                    go_quiet (fail)
                    go_wp2_with fail
                    go_roundg (xn + 2 - (i + 2))
                    case measure => have := HG2.out; omega
                    case rel => exact ⟨k + 1, i + 2, by have := HIK.out; omega, by omega, rfl, by go_num, HST.out (fun _ => HD.out), hfr.drewN _⟩
              · have t3 : (p1 == q1) = false := by simpa using hp
                have HNE : Hid (¬ (p1 = q1 ∧ p2 = q2)) := Lib.hid (fun h => hp h.1)
                clear hp
                by_cases hd : d1 = d2
                · have t5 : (d1 == d2) = true := by rw [hd]; simp
                  have HD := Lib.hid hd
                  clear hd
                  go_wp2_with fail
                  go_quiet (fail)
                  go_wp2_with fail
                  have HJ : Hid (joinL [nodeB, p1, p2] ≠ joinL [nodeB, q1, q2]) := Lib.hid (fun h => HNE.out (by have := joinL_inj h; simp only [List.cons.injEq, and_true, true_and] at this; exact this))
                  have HR1 := Lib.hid (fun W v (h : Strs W v [nodeB, p1, p2]) => rjoined_any v [nodeB, p1, p2] W h (capN_cap [nodeB, p1, p2] (by simp) (fun s hs => by simp only [List.mem_cons, List.not_mem_nil, or_false] at hs; rcases hs with rfl | rfl | rfl <;> first | exact HM1.out | exact HM2.out | decide)))
                  have HR2 := Lib.hid (fun W v (h : Strs W v [nodeB, q1, q2]) => rjoined_any v [nodeB, q1, q2] W h (capN_cap [nodeB, q1, q2] (by simp) (fun s hs => by simp only [List.mem_cons, List.not_mem_nil, or_false] at hs; rcases hs with rfl | rfl | rfl <;> first | exact HM3.out | exact HM4.out | decide)))
                  generalize joinL [nodeB, p1, p2] = J1 at HJ HR1
                  generalize joinL [nodeB, q1, q2] = J2 at HJ HR2
                  have hj : (J1 == J2) = false := beq_eq_false_iff_ne.2 HJ.out
                  have f0 := hfr.drewN nq
                  obtain ⟨W0, hW0⟩ : ∃ W0, W0 = wr.drewN nq := ⟨_, rfl⟩
                  have f00 : Fr [] wr W0 := by rw [hW0]; exact (Fr.refl [] wr).drewN nq
                  rw [← hW0] at f0 ⊢
                  have cp1 := f00.cell cx0 (by simp)
                  have cp2 := f00.cell cx1 (by simp)
                  have cq1 := f00.cell cy0 (by simp)
                  have cq2 := f00.cell cy1 (by simp)
                  have HF0 := Lib.hid f0
                  clear hW0 f00 f0 cx0 cx1 cy0 cy1 cu0 cv0 hfr
                  have gp0 : Fr [] W0 W0.drew := (Fr.refl [] W0).drew
                  have hSp0 : Fr [] W0 W0.drew := gp0
                  refine region_held 100 (fun W' => Fr [] W0 W') hmx ?_
                  change Held _ _ _ _ _ _ 24 (Array.replicate 24 false) _ _
                  refine hd_take 0 (v := .slice (some ⟨bx, ox, none⟩) xn cx) rfl (by kernel_rfl) (by kernel_rfl) (by kernel_rfl) rfl hSp0 (fun W' hS => by go_simp) rfl ?_
                  refine hd_take 1 (v := .int .i64 (i : Int)) rfl (by kernel_rfl) (by kernel_rfl) (by kernel_rfl) rfl hSp0 (fun W' hS => by go_simp) rfl ?_
                  refine hd_take 4 (v := .slice (some ⟨bx, ox, none⟩) xn cx) rfl (by kernel_rfl) (by kernel_rfl) (by kernel_rfl) rfl hSp0 (fun W' hS => by go_simp) rfl ?_
                  refine hd_take 5 (v := .int .i64 (i : Int)) rfl (by kernel_rfl) (by kernel_rfl) (by kernel_rfl) rfl hSp0 (fun W' hS => by go_simp) rfl ?_
                  refine hd_take 11 (v := .slice (some ⟨by_, oy, none⟩) xn cy) rfl (by kernel_rfl) (by kernel_rfl) (by kernel_rfl) rfl hSp0 (fun W' hS => by go_simp) rfl ?_
                  refine hd_take 12 (v := .int .i64 (i : Int)) rfl (by kernel_rfl) (by kernel_rfl) (by kernel_rfl) rfl hSp0 (fun W' hS => by go_simp) rfl ?_
                  refine hd_take 15 (v := .slice (some ⟨by_, oy, none⟩) xn cy) rfl (by kernel_rfl) (by kernel_rfl) (by kernel_rfl) rfl hSp0 (fun W' hS => by go_simp) rfl ?_
                  refine hd_take 16 (v := .int .i64 (i : Int)) rfl (by kernel_rfl) (by kernel_rfl) (by kernel_rfl) rfl hSp0 (fun W' hS => by go_simp) rfl ?_
                  try simp only [Act.put, List.setIfInBounds_toArray, List.set_cons_zero, List.set_cons_succ]
                  refine hd_take 2 (v := .pointer (some ⟨bx, ox + i, none⟩)) rfl (by kernel_rfl) (by kernel_rfl) (by kernel_rfl) rfl hSp0 (fun W' hS => by go_simp) rfl ?_
                  refine hd_take 6 (v := .int .i64 ((i : Int) + 1)) rfl (by kernel_rfl) (by kernel_rfl) (by kernel_rfl) rfl hSp0 (fun W' hS => by go_simp) rfl ?_
                  refine hd_take 13 (v := .pointer (some ⟨by_, oy + i, none⟩)) rfl (by kernel_rfl) (by kernel_rfl) (by kernel_rfl) rfl hSp0 (fun W' hS => by go_simp) rfl ?_
                  refine hd_take 17 (v := .int .i64 ((i : Int) + 1)) rfl (by kernel_rfl) (by kernel_rfl) (by kernel_rfl) rfl hSp0 (fun W' hS => by go_simp) rfl ?_
                  try simp only [Act.put, List.setIfInBounds_toArray, List.set_cons_zero, List.set_cons_succ]
                  refine hd_take 3 (v := .string ⟨p1.toArray⟩) rfl (by kernel_rfl) (by kernel_rfl) (by kernel_rfl) rfl hSp0 (fun W' hS => by have s0 := hS.cell cp1 (by simp); go_simp) rfl ?_
                  refine hd_take 7 (v := .pointer (some ⟨bx, ox + (i + 1), none⟩)) rfl (by kernel_rfl) (by kernel_rfl) (by kernel_rfl) rfl hSp0 (fun W' hS => by go_simp) rfl ?_
                  refine hd_take 14 (v := .string ⟨q1.toArray⟩) rfl (by kernel_rfl) (by kernel_rfl) (by kernel_rfl) rfl hSp0 (fun W' hS => by have s0 := hS.cell cq1 (by simp); go_simp) rfl ?_
                  refine hd_take 18 (v := .pointer (some ⟨by_, oy + (i + 1), none⟩)) rfl (by kernel_rfl) (by kernel_rfl) (by kernel_rfl) rfl hSp0 (fun W' hS => by go_simp) rfl ?_
                  try simp only [Act.put, List.setIfInBounds_toArray, List.set_cons_zero, List.set_cons_succ]
                  refine hd_take 8 (v := .string ⟨p2.toArray⟩) rfl (by kernel_rfl) (by kernel_rfl) (by kernel_rfl) rfl hSp0 (fun W' hS => by have s0 := hS.cell cp2 (by simp); go_simp) rfl ?_
                  refine hd_take 19 (v := .string ⟨q2.toArray⟩) rfl (by kernel_rfl) (by kernel_rfl) (by kernel_rfl) rfl hSp0 (fun W' hS => by have s0 := hS.cell cq2 (by simp); go_simp) rfl ?_
                  try simp only [Act.put, List.setIfInBounds_toArray, List.set_cons_zero, List.set_cons_succ]
                  refine held_key 117 118 128 #[true, true, true, true, true, true, true, true, true, true, true, true, true, true, true, true, true, true, true, true, true, false, false, false] (fun x y z W' => (∃ g, x = .slice (some ⟨g, 0, none⟩) 3 3) ∧ y = .string ⟨J1.toArray⟩ ∧ (∃ g, z = .slice (some ⟨g, 0, none⟩) 3 3 ∧ Strs W' (.slice (some ⟨g, 0, none⟩) 3 3) [nodeB, q1, q2]) ∧ Fr [] W0 W') (fuel' := 3) (fun key => ?_) (fun x y z kA hR => ?_)
                  · refine held_two_g 9 20 (by kernel_rfl) rfl rfl (by kernel_rfl) (by kernel_rfl) (fun K' hK => ?_) (fun K' hK => ?_)
                    · go_simp
                      refine hK.out _ _ (fun _ => gp0.alloc _) ?_
                      clear hK K'
                      refine held_two_g 10 20 (by kernel_rfl) rfl rfl (by kernel_rfl) (by kernel_rfl) (fun K' hK => ?_) (fun K' hK => ?_)
                      · go_simp
                        refine (HR1.out (W0.drew.alloc (.cells #[.string ⟨#[110, 111, 100, 101]⟩, .string ⟨p1.toArray⟩, .string ⟨p2.toArray⟩] 9)) _ (strs_three (x := nodeB) (heap_new rfl))).mono ?_
                        rintro e x1 ⟨rfl, hb⟩
                        have gA : Fr [] W0 x1 := (gp0.alloc _).below hb (gp0.alloc _).size
                        refine hK.out _ _ (fun _ => gA) ?_
                        clear hK K'
                        refine held_one_g 20 (by kernel_rfl) rfl (by kernel_rfl) rfl (fun K' hK => ?_)
                        go_simp
                        refine hK.out _ _ (fun _ => gA.alloc _) ?_
                        clear hK K'
                        have hk := key (.slice (some ⟨W0.drew.heap.size, 0, none⟩) 3 3) (.string ⟨J1.toArray⟩) (.slice (some ⟨x1.heap.size, 0, none⟩) 3 3) (x1.alloc (.cells #[.string ⟨#[110, 111, 100, 101]⟩, .string ⟨q1.toArray⟩, .string ⟨q2.toArray⟩] 9)) ⟨⟨_, rfl⟩, rfl, ⟨_, rfl, strs_three (x := nodeB) (heap_new rfl)⟩, gA.alloc _⟩
                        exact held_same hk (by kernel_rfl) (by kernel_rfl)
                      · go_simp
                        refine hK.out _ _ (fun _ => (gp0.alloc _).alloc _) ?_
                        clear hK K'
                        refine held_one_g 10 (by kernel_rfl) rfl (by kernel_rfl) rfl (fun K' hK => ?_)
                        go_simp
                        refine (HR1.out ((W0.drew.alloc (.cells #[.string ⟨#[110, 111, 100, 101]⟩, .string ⟨p1.toArray⟩, .string ⟨p2.toArray⟩] 9)).alloc (.cells #[.string ⟨#[110, 111, 100, 101]⟩, .string ⟨q1.toArray⟩, .string ⟨q2.toArray⟩] 9)) _ ((Strs.fr0 (strs_three (x := nodeB) (heap_new rfl)) ((Fr.refl [] (W0.drew.alloc (.cells #[.string ⟨#[110, 111, 100, 101]⟩, .string ⟨p1.toArray⟩, .string ⟨p2.toArray⟩] 9))).alloc _)))).mono ?_
                        rintro e x1 ⟨rfl, hb⟩
                        have gA : Fr [] W0 x1 := ((gp0.alloc _).alloc _).below hb ((gp0.alloc _).alloc _).size
                        refine hK.out _ _ (fun _ => gA) ?_
                        clear hK K'
                        have hk := key (.slice (some ⟨W0.drew.heap.size, 0, none⟩) 3 3) (.string ⟨J1.toArray⟩) (.slice (some ⟨(W0.drew.heap.size + 1), 0, none⟩) 3 3) x1 ⟨⟨_, rfl⟩, rfl, ⟨_, rfl, Strs.fr0 (strs_three (x := nodeB) (heap_new (by simp))) (Fr.ofBelow hb)⟩, gA⟩
                        exact held_same hk (by kernel_rfl) (by kernel_rfl)
                    · go_simp
                      refine hK.out _ _ (fun _ => gp0.alloc _) ?_
                      clear hK K'
                      refine held_one_g 9 (by kernel_rfl) rfl (by kernel_rfl) rfl (fun K' hK => ?_)
                      go_simp
                      refine hK.out _ _ (fun _ => (gp0.alloc _).alloc _) ?_
                      clear hK K'
                      refine held_one_g 10 (by kernel_rfl) rfl (by kernel_rfl) rfl (fun K' hK => ?_)
                      go_simp
                      refine (HR1.out ((W0.drew.alloc (.cells #[.string ⟨#[110, 111, 100, 101]⟩, .string ⟨q1.toArray⟩, .string ⟨q2.toArray⟩] 9)).alloc (.cells #[.string ⟨#[110, 111, 100, 101]⟩, .string ⟨p1.toArray⟩, .string ⟨p2.toArray⟩] 9)) _ (strs_three (x := nodeB) (heap_new (by simp)))).mono ?_
                      rintro e x1 ⟨rfl, hb⟩
                      have gA : Fr [] W0 x1 := ((gp0.alloc _).alloc _).below hb ((gp0.alloc _).alloc _).size
                      refine hK.out _ _ (fun _ => gA) ?_
                      clear hK K'
                      have hk := key (.slice (some ⟨(W0.drew.heap.size + 1), 0, none⟩) 3 3) (.string ⟨J1.toArray⟩) (.slice (some ⟨W0.drew.heap.size, 0, none⟩) 3 3) x1 ⟨⟨_, rfl⟩, rfl, ⟨_, rfl, Strs.fr0 (Strs.fr0 (strs_three (x := nodeB) (heap_new rfl)) ((Fr.refl [] (W0.drew.alloc (.cells #[.string ⟨#[110, 111, 100, 101]⟩, .string ⟨q1.toArray⟩, .string ⟨q2.toArray⟩] 9))).alloc _)) (Fr.ofBelow hb)⟩, gA⟩
                      exact held_same hk (by kernel_rfl) (by kernel_rfl)
                  obtain ⟨⟨gA, rfl⟩, rfl, ⟨ggA, rfl, hyA⟩, gkA⟩ := hR
                  try simp only [List.setIfInBounds_toArray, List.set_cons_zero, List.set_cons_succ]
                  refine hd_one 21 (by kernel_rfl) rfl (by kernel_rfl) rfl (fun K' hK => ?_)
                  go_simp
                  refine (HR2.out kA _ hyA).mono ?_
                  rintro e yp1 ⟨rfl, hbb⟩
                  have gp1 : Fr [] W0 yp1 := gkA.below hbb gkA.size
                  clear hbb
                  have hSp1 : Fr [] W0 yp1 := gp1
                  refine hK.out _ _ (fun _ => hSp1) ?_
                  clear hK K'
                  try simp only [List.setIfInBounds_toArray, List.set_cons_zero, List.set_cons_succ]
                  refine hd_take 22 (v := .bool true) rfl (by kernel_rfl) (by kernel_rfl) (by kernel_rfl) rfl hSp1 (fun W' hS => by go_simp) rfl ?_
                  try simp only [Act.put, List.setIfInBounds_toArray, List.set_cons_zero, List.set_cons_succ]
                  refine hd_one 23 (by kernel_rfl) rfl (by kernel_rfl) rfl (fun K' hK => ?_)
                  go_simp
                  refine hK.out _ _ (fun _ => hSp1) ?_
                  clear hK K'
                  refine held_done (by kernel_rfl) ?_
                  have HFE := Lib.hid (HF3.out.trans (HF5.out.trans (HF0.out.trans gp1 (by simp)) (by simp)) (by simp))
                  go_wp2_with fail
                  go_ret
                  exact ⟨by rw [HUP.out, HUC.out HNE.out HD.out]; rfl, HFE.out.toBelow (by simp)⟩
                · have t5 : (d1 == d2) = false := by simpa using hd
                  have HD := Lib.hid hd
                  clear hd
                  go_wp2_with fail
                  go_quiet (fail)
                  go_wp2_with fail
                  go_roundg (xn + 2 - (i + 2))
                  case measure => have := HG2.out; omega
                  case rel => exact ⟨k + 1, i + 2, by have := HIK.out; omega, by omega, rfl, by go_num, HST.out (fun _ => HD.out), hfr.drewN _⟩
            · have t2 : decide ((i : Int) + 1 < (xn : Int)) = false := by simp; omega
              have HUN := Lib.hid (HN1.out (fun k' hk' => HSEEN.out k' (by rw [← EXN.out] at hk'; have h := HIK.out; omega)))
              have HFQ := Lib.hid (HF3.out.trans (HF5.out.trans hfr (by simp)) (by simp))
              have HUQ := Lib.hid (HU5.out.fr0 hfr)
              have HVQ := Lib.hid (HV5.out.fr0 hfr)
              clear hfr
              go_wp2_with fail
              go_roundg (un + 1)
              case measure => have := HG.out; rw [← EXN.out] at this; have h := HUNH.out; omega
              case rel => exact ⟨u, v, by rw [← EUN.out, EVN.out], by rw [← EUN.out]; have h := HUNH.out; omega, by rw [← EUN.out], HUQ.out, HVQ.out, HSu.out, HSv.out, by rw [HUP.out, HUN.out], HFQ.out⟩
        · have t1 : decide ((1 : Int) < (xn : Int)) = false := by simp; omega
          have HE := Lib.hid (upC_end (x := x) (y := y) (by rw [← EXN.out]; exact h1))
          go_wp2_with fail
          go_ret
          exact ⟨by rw [HUP.out, HE.out]; rfl, HF3.out.toBelow (by simp)⟩
end Go.Proofs.YtcohghaanakiiaaGreatDoor
