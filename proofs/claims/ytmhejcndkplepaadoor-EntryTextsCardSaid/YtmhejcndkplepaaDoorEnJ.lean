/-
  foyerlaw18: EntryTexts.
-/
import Derived.Test.YtmhejcndkplepaaDoorEnE
import Derived.Test.YtmhejcndkplepaaDoorPlnEt
import Derived.Deep.RegionHeld3
namespace Go.Proofs.YtmhejcndkplepaaDoor
open Go.RowKit

theorem agg_eq (p q : Pty) : (p = q) ↔ (p.name = q.name ∧ p.com = q.com ∧ p.rev = q.rev) := by
  cases p; cases q; simp
theorem parse_says2 (t : List UInt8) : ((parseS t).2 = 0 ∧ validB (parseS t).1 = true ∧ textS (parseS t).1 = t ∧ ((parseS t).1.name.length ≤ 1000000 ∧ (parseS t).1.com.length ≤ 1000000 ∧ (parseS t).1.rev.length ≤ 1000000)) ∨ ((parseS t).2 = 4 ∧ (parseS t).1 = noE) := by
  rcases parse_says t with ⟨h1, h2, h3⟩ | h
  · have h0 := h2
    simp only [validB, Bool.and_eq_true] at h2
    have n1 := h2.1.1
    unfold nameB at n1
    rw [decide_eq_true_eq] at n1
    have n2 := h2.1.2
    have n3 := h2.2
    simp only [isD, Bool.and_eq_true, beq_iff_eq] at n2 n3
    exact Or.inl ⟨h1, h0, h3, by omega, by omega, by omega⟩
  · exact Or.inr h
set_option maxRecDepth 100000 in
set_option maxHeartbeats 16000000 in
theorem entryTexts_any (p q : Pty) (t : List UInt8) (w : World) (hT : TabsM w) :
    Calls Tryd.prog 11 #[ptyV p, ptyV q, .string ⟨t.toArray⟩] w fun e w' => e = .returned (.bool true) ∧ Below w.heap.size w w' := by
  have hmx : Tryd.prog.follows .mixedOrders = true := by kernel_rfl
  have HT := Lib.hid hT
  clear hT
  have HTA := Lib.hid (fun h0 h1 h2 w => textE_any p w h0 h1 h2)
  have HTB := Lib.hid (fun h0 h1 h2 w => textE_any q w h0 h1 h2)
  have HVA := Lib.hid (fun h0 h1 h2 w => validE_any p w h0 h1 h2)
  have HPA : Hid (validB p = true → parseS (textS p) = (p, 0)) := Lib.hid (parse_text p)
  have HSA : Hid (validB p = true → textS p ≠ []) := Lib.hid (fun h => (split_text p h).2)
  have HSN : Hid (validB p = false → textS p = []) := Lib.hid (text_none p)
  have HIJ : Hid (validB p = true → (textS p = textS q ↔ p = q)) := Lib.hid (text_inj p q)
  have HLEN : Hid ((textS p).length ≤ p.name.length + p.com.length + p.rev.length + 2) := Lib.hid (by unfold textS; split <;> simp; omega)
  have HFEW : Hid (few18B [p, q] 2 = true → (p.name.length ≤ 100 ∧ p.com.length ≤ 100 ∧ p.rev.length ≤ 100) ∧ (q.name.length ≤ 100 ∧ q.com.length ≤ 100 ∧ q.rev.length ≤ 100)) := Lib.hid (fun h => ⟨(few18_all h).1 p (by simp), (few18_all h).1 q (by simp)⟩)
  have HPQ := Lib.hid (agg_eq p q)
  have HPS := Lib.hid (parse_says2 t)
  have HPP := Lib.hid (fun w (h : (textS p).length ≤ 1000000) (hT : TabsM w) => parse_any (textS p) w h hT)
  unfold ptyV at HTA HTB HVA
  generalize textS p = sa at HTA HPA HSA HSN HIJ HLEN HPP
  generalize textS q = sb at HTB HIJ
  generalize validB p = va at HVA HPA HSA HSN HIJ
  obtain ⟨fw, hfw⟩ : ∃ fw, few18B [p, q] 2 = fw := ⟨_, rfl⟩
  rw [hfw] at HFEW
  have HFE := Lib.hid hfw
  clear hfw
  unfold ptyV
  go_enter Tryd.func11, Tryd.ntmps11
  go_wp2_with fail
  obtain ⟨W, hW⟩ : ∃ W, W = (w.alloc (.cells #[.string ⟨p.name.toArray⟩, .string ⟨p.com.toArray⟩, .string ⟨p.rev.toArray⟩] 55)).alloc (.cells #[.string ⟨q.name.toArray⟩, .string ⟨q.com.toArray⟩, .string ⟨q.rev.toArray⟩] 55) := ⟨_, rfl⟩
  have hp0 : W.heap[w.heap.size]? = some (.cells #[.string ⟨p.name.toArray⟩, .string ⟨p.com.toArray⟩, .string ⟨p.rev.toArray⟩] 55 (0, 0)) := by rw [hW]; exact heap_past _ (heap_new rfl)
  have hq0 : W.heap[w.heap.size + 1]? = some (.cells #[.string ⟨q.name.toArray⟩, .string ⟨q.com.toArray⟩, .string ⟨q.rev.toArray⟩] 55 (0, 0)) := by rw [hW]; exact heap_new (by simp)
  have hf0 : Fr [] w W := by rw [hW]; exact (((Fr.refl [] w).alloc _).alloc _)
  rw [← hW]
  have HP0 := Lib.hid hp0
  have HQ0 := Lib.hid hq0
  clear hW hp0 hq0
  generalize w.heap.size = b at HP0 HQ0 ⊢
  refine (head18_any W (HT.out.fr hf0)).mono ?_
  rintro e w1 ⟨rfl, hb1⟩
  have hf1 : Fr [] W w1 := Fr.ofBelow hb1
  obtain ⟨a0, a1, a2⟩ := three_cells (hf1.at HP0.out (by simp))
  obtain ⟨b0, b1, b2⟩ := three_cells (hf1.at HQ0.out (by simp))
  clear hb1
  go_wp2_with fail
  refine (few18_any _ [p, q] 2 _ (pts_two (heap_new rfl))).mono ?_
  rintro e w2 ⟨rfl, hb2⟩
  have hf2 : Fr [] W w2 := (hf1.alloc _).below hb2 (hf1.alloc _).size
  clear hb2 hf1 a0 a1 a2 b0 b1 b2
  rw [HFE.out]
  cases fw with
  | false =>
    go_wp2_with fail
    go_ret
    exact ⟨rfl, (hf0.trans hf2 (by simp)).toBelow (by simp)⟩
  | true => ?_
  have HB := Lib.hid (HFEW.out rfl)
  have HTA2 := Lib.hid (HTA.out (by have := HB.out; omega) (by have := HB.out; omega) (by have := HB.out; omega))
  have HTB2 := Lib.hid (HTB.out (by have := HB.out; omega) (by have := HB.out; omega) (by have := HB.out; omega))
  have HVA2 := Lib.hid (HVA.out (by have := HB.out; omega) (by have := HB.out; omega) (by have := HB.out; omega))
  have HSL : Hid (sa.length ≤ 1000000) := Lib.hid (by have := HB.out; have := HLEN.out; omega)
  clear HTA HTB HVA HFEW HLEN
  by_cases h300 : t.length ≤ 300
  · have t1 : decide ((300 : Int) < (t.length : Int)) = false := by simp; omega
    obtain ⟨a0, a1, a2⟩ := three_cells (hf2.at HP0.out (by simp))
    obtain ⟨b0, b1, b2⟩ := three_cells (hf2.at HQ0.out (by simp))
    go_wp2_with fail
    go_region_held3 (fun W' => W'.cell? ⟨b, 0, none⟩ = some (.string ⟨p.name.toArray⟩) ∧ W'.cell? ⟨b, 1, none⟩ = some (.string ⟨p.com.toArray⟩) ∧ W'.cell? ⟨b, 2, none⟩ = some (.string ⟨p.rev.toArray⟩) ∧ W'.cell? ⟨b + 1, 0, none⟩ = some (.string ⟨q.name.toArray⟩) ∧ W'.cell? ⟨b + 1, 1, none⟩ = some (.string ⟨q.com.toArray⟩) ∧ W'.cell? ⟨b + 1, 2, none⟩ = some (.string ⟨q.rev.toArray⟩))
      (first
        | exact ⟨hy.cell a0 (by simp), hy.cell a1 (by simp), hy.cell a2 (by simp), hy.cell b0 (by simp), hy.cell b1 (by simp), hy.cell b2 (by simp)⟩
        | exact ⟨hx.cell a0 (by simp), hx.cell a1 (by simp), hx.cell a2 (by simp), hx.cell b0 (by simp), hx.cell b1 (by simp), hx.cell b2 (by simp)⟩
        | go_keep)
      ((first
        | ((with_reducible refine (HTA2.out _).mono ?_); rintro e w5 ⟨rfl, hb5⟩; have hx : Fr [] w2 w5 := ((Fr.refl [] w2).drew).below hb5 (Nat.le_refl _))
        | ((with_reducible refine (HTB2.out _).mono ?_); rintro e w6 ⟨rfl, hb6⟩; have hy : Fr [] w2 w6 := hx.below hb6 hx.size)))
    have hf6 : Fr [] W w6 := hf2.trans hy (by simp)
    clear a0 a1 a2 b0 b1 b2 hx hy hf2
    go_wp2_with fail
    refine (HPP.out w6 HSL.out (HT.out.fr (hf0.trans hf6 (by simp)))).mono ?_
    rintro e w7 ⟨rfl, hb7⟩
    have hf7 : Fr [] W w7 := hf6.below hb7 hf6.size
    clear hb7 hf6
    cases va with
    | true =>
      rw [HPA.out rfl]
      unfold ptyV
      have hne := HSA.out rfl
      have u1 : sa.isEmpty = false := by simpa using hne
      have u1' : ¬ sa = [] := hne
      have hx8 : (w7.alloc (.cells #[.string ⟨p.name.toArray⟩, .string ⟨p.com.toArray⟩, .string ⟨p.rev.toArray⟩] 55)).heap[w7.heap.size]? = some (.cells #[.string ⟨p.name.toArray⟩, .string ⟨p.com.toArray⟩, .string ⟨p.rev.toArray⟩] 55 (0, 0)) := heap_new rfl
      have hf8 : Fr [] W (w7.alloc (.cells #[.string ⟨p.name.toArray⟩, .string ⟨p.com.toArray⟩, .string ⟨p.rev.toArray⟩] 55)) := hf7.alloc _
      obtain ⟨a0, a1, a2⟩ := three_cells (hf8.at HP0.out (by simp))
      go_wp2_with fail
      generalize w7.alloc (.cells #[.string ⟨p.name.toArray⟩, .string ⟨p.com.toArray⟩, .string ⟨p.rev.toArray⟩] 55) = w8 at hx8 hf8 a0 a1 a2 ⊢
      generalize w7.heap.size = bx at hx8 ⊢
      have HX8 := Lib.hid hx8
      refine (HVA2.out w8).mono ?_
      rintro e w9 ⟨rfl, hb9⟩
      have h89 : Fr [] w8 w9 := Fr.ofBelow hb9
      have hf9 : Fr [] W w9 := hf8.trans h89 (by simp)
      clear hb9 a0 a1 a2 hx8 hf8
      obtain ⟨a0, a1, a2⟩ := three_cells (hf9.at HP0.out (by simp))
      go_wp2_with fail
      refine (HVA2.out w9).mono ?_
      rintro e w10 ⟨rfl, hb10⟩
      have h910 : Fr [] w9 w10 := Fr.ofBelow hb10
      have hf10 : Fr [] W w10 := hf9.trans h910 (by simp)
      clear hb10 a0 a1 a2 hf9
      obtain ⟨a0, a1, a2⟩ := three_cells (hf10.at HP0.out (by simp))
      obtain ⟨b0, b1, b2⟩ := three_cells (hf10.at HQ0.out (by simp))
      obtain ⟨x0, x1, x2⟩ := three_cells ((h89.trans h910 (by simp)).at HX8.out (by simp))
      clear h89 h910
      by_cases hpq : p = q
      · subst hpq
        have hab := (HIJ.out (by trivial)).2 rfl
        have u2 : (sa == sb) = true := by simpa using hab
        have u2' : (sa != sb) = false := by simpa using hab
        clear hab
        go_wp2_with fail
        refine (parse_any t w10 (by omega) (HT.out.fr (hf0.trans hf10 (by simp)))).mono ?_
        rintro e w11 ⟨rfl, hb11⟩
        have hf11 : Fr [] W w11 := hf10.below hb11 hf10.size
        clear hb11
        rcases HPS.out with ⟨h1, h2, h3, h4⟩ | ⟨h1, h2⟩
        · rw [h1]
          have HVY := Lib.hid (fun w => validE_any (parseS t).1 w h4.1 h4.2.1 h4.2.2)
          have HTY := Lib.hid (fun w => textE_any (parseS t).1 w h4.1 h4.2.1 h4.2.2)
          rw [h2] at HVY
          rw [h3] at HTY
          unfold ptyV at HVY HTY ⊢
          generalize (parseS t).1.name = y0 at HVY HTY ⊢
          generalize (parseS t).1.com = y1 at HVY HTY ⊢
          generalize (parseS t).1.rev = y2 at HVY HTY ⊢
          have hf12 : Fr [] W (w11.alloc (.cells #[.string ⟨y0.toArray⟩, .string ⟨y1.toArray⟩, .string ⟨y2.toArray⟩] 55)) := hf11.alloc _
          have hy := Lib.hid (three_cells (W := w11.alloc (.cells #[.string ⟨y0.toArray⟩, .string ⟨y1.toArray⟩, .string ⟨y2.toArray⟩] 55)) (b := w11.heap.size) (t := 55) (heap_new rfl))
          clear h1 h2 h3 h4
          go_wp2_with fail
          refine (HVY.out _).mono ?_
          rintro e w13 ⟨rfl, hb13⟩
          have h13 : Fr [] (w11.alloc (.cells #[.string ⟨y0.toArray⟩, .string ⟨y1.toArray⟩, .string ⟨y2.toArray⟩] 55)) w13 := Fr.ofBelow hb13
          have hf13 : Fr [] W w13 := hf12.trans h13 (by simp)
          obtain ⟨y0', y1', y2'⟩ := hy.out
          have z0 := h13.cell y0' (by simp)
          have z1 := h13.cell y1' (by simp)
          have z2 := h13.cell y2' (by simp)
          clear hb13 h13 y0' y1' y2' hf12 hf11
          have u9 : (t == t) = true := by simp
          go_wp2_with fail
          refine (HTY.out _).mono ?_
          rintro e w14 ⟨rfl, hb14⟩
          go_wp2_with fail
          go_ret
          exact ⟨rfl, ((hf0.trans hf13 (by simp)).below hb14 (hf0.trans hf13 (by simp)).size).toBelow (by simp)⟩
        · rw [h1, h2]
          unfold ptyV noE
          clear h1 h2
          go_wp2_with fail
          go_ret
          exact ⟨rfl, (hf0.trans (hf11.alloc _) (by simp)).toBelow (by simp)⟩
      · have hab : ¬ sa = sb := fun h => hpq ((HIJ.out (by trivial)).1 h)
        have u2 : (sa == sb) = false := by simpa using hab
        have u2' : (sa != sb) = true := by simpa using hab
        have HNQ : Hid (p.name = q.name → p.com = q.com → p.rev = q.rev → False) := Lib.hid (fun h1 h2 h3 => hpq (HPQ.out.2 ⟨h1, h2, h3⟩))
        clear hab hpq
        by_cases n1 : p.name = q.name
        · by_cases n2 : p.com = q.com
          · have n3 : ¬ p.rev = q.rev := fun h => HNQ.out n1 n2 h
            go_wp2_with fail
            refine (parse_any t w10 (by omega) (HT.out.fr (hf0.trans hf10 (by simp)))).mono ?_
            rintro e w11 ⟨rfl, hb11⟩
            have hf11 : Fr [] W w11 := hf10.below hb11 hf10.size
            clear hb11
            rcases HPS.out with ⟨h1, h2, h3, h4⟩ | ⟨h1, h2⟩
            · rw [h1]
              have HVY := Lib.hid (fun w => validE_any (parseS t).1 w h4.1 h4.2.1 h4.2.2)
              have HTY := Lib.hid (fun w => textE_any (parseS t).1 w h4.1 h4.2.1 h4.2.2)
              rw [h2] at HVY
              rw [h3] at HTY
              unfold ptyV at HVY HTY ⊢
              generalize (parseS t).1.name = y0 at HVY HTY ⊢
              generalize (parseS t).1.com = y1 at HVY HTY ⊢
              generalize (parseS t).1.rev = y2 at HVY HTY ⊢
              have hf12 : Fr [] W (w11.alloc (.cells #[.string ⟨y0.toArray⟩, .string ⟨y1.toArray⟩, .string ⟨y2.toArray⟩] 55)) := hf11.alloc _
              have hy := Lib.hid (three_cells (W := w11.alloc (.cells #[.string ⟨y0.toArray⟩, .string ⟨y1.toArray⟩, .string ⟨y2.toArray⟩] 55)) (b := w11.heap.size) (t := 55) (heap_new rfl))
              clear h1 h2 h3 h4
              go_wp2_with fail
              refine (HVY.out _).mono ?_
              rintro e w13 ⟨rfl, hb13⟩
              have h13 : Fr [] (w11.alloc (.cells #[.string ⟨y0.toArray⟩, .string ⟨y1.toArray⟩, .string ⟨y2.toArray⟩] 55)) w13 := Fr.ofBelow hb13
              have hf13 : Fr [] W w13 := hf12.trans h13 (by simp)
              obtain ⟨y0', y1', y2'⟩ := hy.out
              have z0 := h13.cell y0' (by simp)
              have z1 := h13.cell y1' (by simp)
              have z2 := h13.cell y2' (by simp)
              clear hb13 h13 y0' y1' y2' hf12 hf11
              have u9 : (t == t) = true := by simp
              go_wp2_with fail
              refine (HTY.out _).mono ?_
              rintro e w14 ⟨rfl, hb14⟩
              go_wp2_with fail
              go_ret
              exact ⟨rfl, ((hf0.trans hf13 (by simp)).below hb14 (hf0.trans hf13 (by simp)).size).toBelow (by simp)⟩
            · rw [h1, h2]
              unfold ptyV noE
              clear h1 h2
              go_wp2_with fail
              go_ret
              exact ⟨rfl, (hf0.trans (hf11.alloc _) (by simp)).toBelow (by simp)⟩
          · go_wp2_with fail
            refine (parse_any t w10 (by omega) (HT.out.fr (hf0.trans hf10 (by simp)))).mono ?_
            rintro e w11 ⟨rfl, hb11⟩
            have hf11 : Fr [] W w11 := hf10.below hb11 hf10.size
            clear hb11
            rcases HPS.out with ⟨h1, h2, h3, h4⟩ | ⟨h1, h2⟩
            · rw [h1]
              have HVY := Lib.hid (fun w => validE_any (parseS t).1 w h4.1 h4.2.1 h4.2.2)
              have HTY := Lib.hid (fun w => textE_any (parseS t).1 w h4.1 h4.2.1 h4.2.2)
              rw [h2] at HVY
              rw [h3] at HTY
              unfold ptyV at HVY HTY ⊢
              generalize (parseS t).1.name = y0 at HVY HTY ⊢
              generalize (parseS t).1.com = y1 at HVY HTY ⊢
              generalize (parseS t).1.rev = y2 at HVY HTY ⊢
              have hf12 : Fr [] W (w11.alloc (.cells #[.string ⟨y0.toArray⟩, .string ⟨y1.toArray⟩, .string ⟨y2.toArray⟩] 55)) := hf11.alloc _
              have hy := Lib.hid (three_cells (W := w11.alloc (.cells #[.string ⟨y0.toArray⟩, .string ⟨y1.toArray⟩, .string ⟨y2.toArray⟩] 55)) (b := w11.heap.size) (t := 55) (heap_new rfl))
              clear h1 h2 h3 h4
              go_wp2_with fail
              refine (HVY.out _).mono ?_
              rintro e w13 ⟨rfl, hb13⟩
              have h13 : Fr [] (w11.alloc (.cells #[.string ⟨y0.toArray⟩, .string ⟨y1.toArray⟩, .string ⟨y2.toArray⟩] 55)) w13 := Fr.ofBelow hb13
              have hf13 : Fr [] W w13 := hf12.trans h13 (by simp)
              obtain ⟨y0', y1', y2'⟩ := hy.out
              have z0 := h13.cell y0' (by simp)
              have z1 := h13.cell y1' (by simp)
              have z2 := h13.cell y2' (by simp)
              clear hb13 h13 y0' y1' y2' hf12 hf11
              have u9 : (t == t) = true := by simp
              go_wp2_with fail
              refine (HTY.out _).mono ?_
              rintro e w14 ⟨rfl, hb14⟩
              go_wp2_with fail
              go_ret
              exact ⟨rfl, ((hf0.trans hf13 (by simp)).below hb14 (hf0.trans hf13 (by simp)).size).toBelow (by simp)⟩
            · rw [h1, h2]
              unfold ptyV noE
              clear h1 h2
              go_wp2_with fail
              go_ret
              exact ⟨rfl, (hf0.trans (hf11.alloc _) (by simp)).toBelow (by simp)⟩
        · go_wp2_with fail
          refine (parse_any t w10 (by omega) (HT.out.fr (hf0.trans hf10 (by simp)))).mono ?_
          rintro e w11 ⟨rfl, hb11⟩
          have hf11 : Fr [] W w11 := hf10.below hb11 hf10.size
          clear hb11
          rcases HPS.out with ⟨h1, h2, h3, h4⟩ | ⟨h1, h2⟩
          · rw [h1]
            have HVY := Lib.hid (fun w => validE_any (parseS t).1 w h4.1 h4.2.1 h4.2.2)
            have HTY := Lib.hid (fun w => textE_any (parseS t).1 w h4.1 h4.2.1 h4.2.2)
            rw [h2] at HVY
            rw [h3] at HTY
            unfold ptyV at HVY HTY ⊢
            generalize (parseS t).1.name = y0 at HVY HTY ⊢
            generalize (parseS t).1.com = y1 at HVY HTY ⊢
            generalize (parseS t).1.rev = y2 at HVY HTY ⊢
            have hf12 : Fr [] W (w11.alloc (.cells #[.string ⟨y0.toArray⟩, .string ⟨y1.toArray⟩, .string ⟨y2.toArray⟩] 55)) := hf11.alloc _
            have hy := Lib.hid (three_cells (W := w11.alloc (.cells #[.string ⟨y0.toArray⟩, .string ⟨y1.toArray⟩, .string ⟨y2.toArray⟩] 55)) (b := w11.heap.size) (t := 55) (heap_new rfl))
            clear h1 h2 h3 h4
            go_wp2_with fail
            refine (HVY.out _).mono ?_
            rintro e w13 ⟨rfl, hb13⟩
            have h13 : Fr [] (w11.alloc (.cells #[.string ⟨y0.toArray⟩, .string ⟨y1.toArray⟩, .string ⟨y2.toArray⟩] 55)) w13 := Fr.ofBelow hb13
            have hf13 : Fr [] W w13 := hf12.trans h13 (by simp)
            obtain ⟨y0', y1', y2'⟩ := hy.out
            have z0 := h13.cell y0' (by simp)
            have z1 := h13.cell y1' (by simp)
            have z2 := h13.cell y2' (by simp)
            clear hb13 h13 y0' y1' y2' hf12 hf11
            have u9 : (t == t) = true := by simp
            go_wp2_with fail
            refine (HTY.out _).mono ?_
            rintro e w14 ⟨rfl, hb14⟩
            go_wp2_with fail
            go_ret
            exact ⟨rfl, ((hf0.trans hf13 (by simp)).below hb14 (hf0.trans hf13 (by simp)).size).toBelow (by simp)⟩
          · rw [h1, h2]
            unfold ptyV noE
            clear h1 h2
            go_wp2_with fail
            go_ret
            exact ⟨rfl, (hf0.trans (hf11.alloc _) (by simp)).toBelow (by simp)⟩
    | false =>
      have he : sa = [] := HSN.out rfl
      subst he
      generalize (parseS []).1 = yy
      generalize (parseS []).2 = ee
      unfold ptyV
      have hf8 : Fr [] W (w7.alloc (.cells #[.string ⟨yy.name.toArray⟩, .string ⟨yy.com.toArray⟩, .string ⟨yy.rev.toArray⟩] 55)) := hf7.alloc _
      obtain ⟨a0, a1, a2⟩ := three_cells (hf8.at HP0.out (by simp))
      go_wp2_with fail
      refine (HVA2.out _).mono ?_
      rintro e w9 ⟨rfl, hb9⟩
      have hf9 : Fr [] W w9 := hf8.below hb9 hf8.size
      clear hb9 a0 a1 a2 hf8
      obtain ⟨a0, a1, a2⟩ := three_cells (hf9.at HP0.out (by simp))
      go_wp2_with fail
      refine (HVA2.out w9).mono ?_
      rintro e w10 ⟨rfl, hb10⟩
      have hf10 : Fr [] W w10 := hf9.below hb10 hf9.size
      clear hb10 a0 a1 a2 hf9
      go_wp2_with fail
      refine (parse_any t w10 (by omega) (HT.out.fr (hf0.trans hf10 (by simp)))).mono ?_
      rintro e w11 ⟨rfl, hb11⟩
      have hf11 : Fr [] W w11 := hf10.below hb11 hf10.size
      clear hb11
      rcases HPS.out with ⟨h1, h2, h3, h4⟩ | ⟨h1, h2⟩
      · rw [h1]
        have HVY := Lib.hid (fun w => validE_any (parseS t).1 w h4.1 h4.2.1 h4.2.2)
        have HTY := Lib.hid (fun w => textE_any (parseS t).1 w h4.1 h4.2.1 h4.2.2)
        rw [h2] at HVY
        rw [h3] at HTY
        unfold ptyV at HVY HTY ⊢
        generalize (parseS t).1.name = y0 at HVY HTY ⊢
        generalize (parseS t).1.com = y1 at HVY HTY ⊢
        generalize (parseS t).1.rev = y2 at HVY HTY ⊢
        have hf12 : Fr [] W (w11.alloc (.cells #[.string ⟨y0.toArray⟩, .string ⟨y1.toArray⟩, .string ⟨y2.toArray⟩] 55)) := hf11.alloc _
        have hy := Lib.hid (three_cells (W := w11.alloc (.cells #[.string ⟨y0.toArray⟩, .string ⟨y1.toArray⟩, .string ⟨y2.toArray⟩] 55)) (b := w11.heap.size) (t := 55) (heap_new rfl))
        clear h1 h2 h3 h4
        go_wp2_with fail
        refine (HVY.out _).mono ?_
        rintro e w13 ⟨rfl, hb13⟩
        have h13 : Fr [] (w11.alloc (.cells #[.string ⟨y0.toArray⟩, .string ⟨y1.toArray⟩, .string ⟨y2.toArray⟩] 55)) w13 := Fr.ofBelow hb13
        have hf13 : Fr [] W w13 := hf12.trans h13 (by simp)
        obtain ⟨y0', y1', y2'⟩ := hy.out
        have z0 := h13.cell y0' (by simp)
        have z1 := h13.cell y1' (by simp)
        have z2 := h13.cell y2' (by simp)
        clear hb13 h13 y0' y1' y2' hf12 hf11
        have u9 : (t == t) = true := by simp
        go_wp2_with fail
        refine (HTY.out _).mono ?_
        rintro e w14 ⟨rfl, hb14⟩
        go_wp2_with fail
        go_ret
        exact ⟨rfl, ((hf0.trans hf13 (by simp)).below hb14 (hf0.trans hf13 (by simp)).size).toBelow (by simp)⟩
      · rw [h1, h2]
        unfold ptyV noE
        clear h1 h2
        go_wp2_with fail
        go_ret
        exact ⟨rfl, (hf0.trans (hf11.alloc _) (by simp)).toBelow (by simp)⟩
  · have t1 : decide ((300 : Int) < (t.length : Int)) = true := by simp; omega
    go_wp2_with fail
    go_ret
    exact ⟨rfl, (hf0.trans hf2 (by simp)).toBelow (by simp)⟩
end Go.Proofs.YtmhejcndkplepaaDoor
