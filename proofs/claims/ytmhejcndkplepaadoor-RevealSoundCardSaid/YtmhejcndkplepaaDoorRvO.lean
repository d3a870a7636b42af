/-
  foyerlaw31.found: the search for two lists with one digest.
-/
import Derived.Test.YtmhejcndkplepaaDoorRvN
import Derived.Test.YtmhejcndkplepaaDoorRound
import Derived.Deep.RegionHeld3
namespace Go.Proofs.YtmhejcndkplepaaDoor
open Go.RowKit

theorem joinL_cap2 (a b : List UInt8) (ha : a.length ≤ 1000000) (hb : b.length ≤ 1000000) : (joinL [a, b]).length ≤ 140737488355328 :=
  joinL_cap _ (by simp) (fun x hx => by
    rcases List.mem_cons.1 hx with rfl | hx
    · exact ha
    · rw [List.mem_singleton.1 hx]; exact hb)
theorem joinL_cap3 (a b c : List UInt8) (ha : a.length ≤ 1000000) (hb : b.length ≤ 1000000) (hc : c.length ≤ 1000000) : (joinL [a, b, c]).length ≤ 140737488355328 :=
  joinL_cap _ (by simp) (fun x hx => by
    rcases List.mem_cons.1 hx with rfl | hx
    · exact ha
    · rcases List.mem_cons.1 hx with rfl | hx
      · exact hb
      · rw [List.mem_singleton.1 hx]; exact hc)
theorem leafB_short : leafB.length ≤ 1000000 := by decide
theorem nodeB_short : nodeB.length ≤ 1000000 := by decide
theorem findL_end {l : List (List UInt8)} {i : Nat} {a : List UInt8} {p : List (List UInt8)} (h : ¬ 1 < l.length) : findL l i a p = false := by
  rw [findL.eq_def, if_neg h]
theorem findL_skip {l : List (List UInt8)} {i : Nat} {a : List UInt8} {p : List (List UInt8)} (h : 1 < l.length) (hb : ¬ bes i < l.length) : findL l i a p = findL (upL l) (i / 2) a p := by
  rw [findL.eq_def, if_pos h, if_neg hb]
theorem findL_nil {l : List (List UInt8)} {i : Nat} {a : List UInt8} (h : 1 < l.length) (hb : bes i < l.length) : findL l i a [] = false := by
  rw [findL.eq_def, if_pos h, if_pos hb]
theorem findL_left {l : List (List UInt8)} {i : Nat} {a x : List UInt8} {p : List (List UInt8)} (h : 1 < l.length) (hb : bes i < l.length) (hi : bes i < i) :
    findL l i a (x :: p) = (collB [nodeB, x, a] [nodeB, l.getD (bes i) [], l.getD i []] || findL (upL l) (i / 2) (dlist [nodeB, x, a]) p) := by
  rw [findL.eq_def, if_pos h, if_pos hb]
  simp only [if_pos hi]
  cases collB [nodeB, x, a] [nodeB, l.getD (bes i) [], l.getD i []] <;> rfl
theorem findL_right {l : List (List UInt8)} {i : Nat} {a x : List UInt8} {p : List (List UInt8)} (h : 1 < l.length) (hb : bes i < l.length) (hi : ¬ bes i < i) :
    findL l i a (x :: p) = (collB [nodeB, a, x] [nodeB, l.getD i [], l.getD (bes i) []] || findL (upL l) (i / 2) (dlist [nodeB, a, x]) p) := by
  rw [findL.eq_def, if_pos h, if_pos hb]
  simp only [if_neg hi]
  cases collB [nodeB, a, x] [nodeB, l.getD i [], l.getD (bes i) []] <;> rfl

set_option maxRecDepth 100000 in
set_option maxHeartbeats 16000000 in
theorem found_any (v : Value) (l : List (List UInt8)) (i : Nat) (text : List UInt8) (pv : Value) (p : List (List UInt8)) (w : World) (hv : Strs w v l) (hp : Strs w pv p) (hi : i < l.length) (hn : l.length ≤ 100000)
    (hl : ∀ s ∈ l, s.length ≤ 1000000) (ht : text.length ≤ 1000000) (hps : ∀ s ∈ p, s.length ≤ 1000000) (hpn : p.length ≤ 100000) (hT : Tabs w) :
    Calls Tryd.prog 29 #[v, .int .i64 (i : Int), .string ⟨text.toArray⟩, pv] w fun e w' => e = .returned (.bool (foundL l i text p)) ∧ Below w.heap.size w w' := by
  have hmx : Tryd.prog.follows .mixedOrders = true := by kernel_rfl
  have HT := Lib.hid hT
  have HV := Lib.hid hv
  have HP := Lib.hid hp
  have HLL := Lib.hid hl
  have HPS := Lib.hid hps
  obtain ⟨la, lcap, rfl, hll, hla⟩ := hv.form
  obtain ⟨pa, pcap, rfl, hpl, hpa⟩ := hp.form
  clear hT hv hp hl hps
  obtain ⟨r, er⟩ : ∃ r, r = foundL l i text p := ⟨_, rfl⟩
  rw [← er]
  have ER := Lib.hid er
  clear er
  obtain ⟨lb, lo, rfl⟩ := hla i hi
  have c0 := HV.out.cell i hi
  have HM := Lib.hid (HLL.out _ (getD_mem l i [] hi))
  have HFO : Hid (foundL l i text p = (collB [leafB, text] [leafB, l.getD i []] || findL (l.map leafD) i (leafD text) p)) := Lib.hid rfl
  generalize l.getD i [] = li at c0 HM HFO
  have g0 : (0 : Int) ≤ (i : Int) := by omega
  have g1 : (i : Int) < (l.length : Int) := by omega
  go_enter Tryd.func29, Tryd.ntmps29
  have fA : Fr [] w (w.alloc (.cells #[.string ⟨#[108, 101, 97, 102]⟩, .string ⟨text.toArray⟩] 9)) := (Fr.refl [] w).alloc _
  have sA : Strs (w.alloc (.cells #[.string ⟨#[108, 101, 97, 102]⟩, .string ⟨text.toArray⟩] 9)) (.slice (some ⟨w.heap.size, 0, none⟩) 2 2) [leafB, text] := strs_two (heap_new rfl)
  have cA : (w.alloc (.cells #[.string ⟨#[108, 101, 97, 102]⟩, .string ⟨text.toArray⟩] 9)).cell? ⟨lb, lo + i, none⟩ = some (.string ⟨li.toArray⟩) := fA.cell c0 (by simp)
  go_wp2_with fail
  have zA : (w.alloc (.cells #[.string ⟨#[108, 101, 97, 102]⟩, .string ⟨text.toArray⟩] 9)).heap.size = w.heap.size + 1 := by simp
  generalize w.alloc (.cells #[.string ⟨#[108, 101, 97, 102]⟩, .string ⟨text.toArray⟩] 9) = wA at fA sA zA cA ⊢
  have fB : Fr [] wA (wA.alloc (.cells #[.string ⟨#[108, 101, 97, 102]⟩, .string ⟨li.toArray⟩] 9)) := (Fr.refl [] wA).alloc _
  have sB : Strs (wA.alloc (.cells #[.string ⟨#[108, 101, 97, 102]⟩, .string ⟨li.toArray⟩] 9)) (.slice (some ⟨wA.heap.size, 0, none⟩) 2 2) [leafB, li] := strs_two (heap_new rfl)
  rw [zA] at sB
  generalize wA.alloc (.cells #[.string ⟨#[108, 101, 97, 102]⟩, .string ⟨li.toArray⟩] 9) = wB at fB sB ⊢
  refine (collide_any _ _ [leafB, text] [leafB, li] wB (sA.fr0 fB) sB (joinL_cap2 _ _ leafB_short ht) (joinL_cap2 _ _ leafB_short HM.out) (HT.out.fr (fA.trans fB (by simp)))).mono ?_
  rintro e w1 ⟨rfl, hb1⟩
  have hf1 : Fr [] w w1 := (fA.trans fB (by simp)).below hb1 (fA.trans fB (by simp)).size
  clear fA sA zA fB sB hb1 c0 cA
  cases hc : collB [leafB, text] [leafB, li] with
  | true =>
    have HF : Hid (r = true) := Lib.hid (by rw [ER.out, HFO.out, hc]; rfl)
    clear hc
    go_wp2_with fail
    go_ret
    exact ⟨by rw [HF.out]; rfl, hf1.toBelow (by simp)⟩
  | false => ?_
  have HR : Hid (findL (l.map leafD) i (leafD text) p = r) := Lib.hid (by rw [ER.out, HFO.out, hc]; rfl)
  clear hc HFO ER HM
  go_wp2_with fail
  go_loopg [9, 10] (l.length + 1) (fun g ov iv wr => ∃ k : Nat, k ≤ l.length ∧ g = l.length + 1 - k ∧ iv = .int .i64 (k : Int) ∧ OwnS w.heap.size wr ov ((l.map leafD).take k) ∧ Fr [] w wr)
  case atStart => exact ⟨0, by omega, by omega, rfl, ⟨rfl, Or.inl ⟨rfl, rfl⟩⟩, hf1⟩
  case round =>
    clear hf1
    obtain ⟨k, hk, hg, rfl, ho, hfr⟩ := hrel
    have HG := Lib.hid hg
    have HO := Lib.hid ho
    clear hg ho
    by_cases hlt : k < l.length
    · have t1 : decide ((k : Int) < (l.length : Int)) = true := by simp; omega
      have c0 := hfr.cell (HV.out.cell k hlt) (by simp)
      have HM := Lib.hid (HLL.out _ (getD_mem l k [] hlt))
      have HTK : Hid ((l.map leafD).take (k + 1) = (l.map leafD).take k ++ [leafD (l.getD k [])]) := Lib.hid (by rw [take_snoc' (l.map leafD) k [] (by simpa using hlt)]; simp [List.getD_eq_getElem?_getD, hlt])
      generalize l.getD k [] = s at c0 HM HTK
      have i0 : (0 : Int) ≤ (k : Int) := by omega
      have i1 : (k : Int) < (l.length : Int) := by omega
      clear g0 g1
      go_wp2_with fail
      have fA : Fr [] wr (wr.alloc (.cells #[.string ⟨#[108, 101, 97, 102]⟩, .string ⟨s.toArray⟩] 9)) := (Fr.refl [] wr).alloc _
      have sA : Strs (wr.alloc (.cells #[.string ⟨#[108, 101, 97, 102]⟩, .string ⟨s.toArray⟩] 9)) (.slice (some ⟨wr.heap.size, 0, none⟩) 2 2) [leafB, s] := strs_two (heap_new rfl)
      generalize wr.alloc (.cells #[.string ⟨#[108, 101, 97, 102]⟩, .string ⟨s.toArray⟩] 9) = wA at fA sA ⊢
      refine (list_any _ [leafB, s] wA sA (joinL_cap2 _ _ leafB_short HM.out) (HT.out.fr (hfr.trans fA (by simp)))).mono ?_
      rintro e w1 ⟨rfl, hb1⟩
      have hf1 : Fr [] w w1 := (hfr.trans fA (by simp)).below hb1 (hfr.trans fA (by simp)).size
      have HO1 := Lib.hid ((HO.out.fr fA (by simp)).fr (Fr.ofBelow (X := []) hb1) (by simp))
      rw [show dlist [leafB, s] = leafD s from rfl]
      generalize leafD s = ls at HTK ⊢
      clear hb1 c0 hfr fA sA
      go_wp2_with (at_builtin; go_loud (refine wpList_appS rfl (.tmp 32) (.tmp 39) rfl w.heap.size _ ((l.map leafD).take k) ls w rfl rfl HO1.out hf1 (Nat.le_refl _) hf1.size (by simp; omega) ?_))
      intro v' w2 g9 c9 hv9 ho2 hf2 _
      have HO2 : Hid (OwnS w.heap.size w2 v' ((l.map leafD).take (k + 1))) := Lib.hid (by rw [HTK.out]; exact ho2)
      clear ho2
      go_wp2_with fail
      go_roundg (l.length + 1 - (k + 1))
      case measure => have := HG.out; omega
      case rel => exact ⟨k + 1, by omega, rfl, by go_num, HO2.out, hf2⟩
    · obtain rfl : k = l.length := by omega
      have t1 : decide ((l.length : Int) < (l.length : Int)) = false := by simp
      have HE : Hid (OwnS w.heap.size wr u9 (l.map leafD)) := Lib.hid (by have := HO.out; rwa [List.take_of_length_le (by simp)] at this)
      have hln : (l.map leafD).length = l.length := by simp
      have hsh := leaf_short l
      obtain ⟨lv0, elv⟩ : ∃ lv0, lv0 = l.map leafD := ⟨_, rfl⟩
      rw [← elv] at HE HR hln hsh
      have HSH := Lib.hid hsh
      have hin : i < lv0.length := by omega
      have hnn : lv0.length ≤ 100000 := by omega
      have HN0 := Lib.hid hn
      clear HO HG elv g0 g1 hk hlt hln hsh hi hn hll hla
      go_wp2_with fail
      have fA : Fr [] wr (wr.alloc (.cells #[.string ⟨#[108, 101, 97, 102]⟩, .string ⟨text.toArray⟩] 9)) := (Fr.refl [] wr).alloc _
      have sA : Strs (wr.alloc (.cells #[.string ⟨#[108, 101, 97, 102]⟩, .string ⟨text.toArray⟩] 9)) (.slice (some ⟨wr.heap.size, 0, none⟩) 2 2) [leafB, text] := strs_two (heap_new rfl)
      generalize wr.alloc (.cells #[.string ⟨#[108, 101, 97, 102]⟩, .string ⟨text.toArray⟩] 9) = wA at fA sA ⊢
      refine (list_any _ [leafB, text] wA sA (joinL_cap2 _ _ leafB_short ht) (HT.out.fr (hfr.trans fA (by simp)))).mono ?_
      rintro e w1 ⟨rfl, hb1⟩
      have hf1 : Fr [] w w1 := (hfr.trans fA (by simp)).below hb1 (hfr.trans fA (by simp)).size
      have HE1 : Hid (Strs w1 u9 lv0) := Lib.hid (HE.out.strs.fr0 (fA.trans (Fr.ofBelow (X := []) hb1) (by simp)))
      rw [show dlist [leafB, text] = leafD text from rfl]
      have HAL : Hid ((leafD text).length ≤ 1000000) := Lib.hid (by rw [show (leafD text).length = 16 from dsum_length _]; decide)
      generalize leafD text = at0 at HR HAL ⊢
      clear hb1 hfr fA sA HE t1
      go_wp2_with fail
      go_loopg [1, 9, 11, 12] (lv0.length + 1) (fun g iv lvv av uv wr => ∃ (j : Nat) (lv : List (List UInt8)) (a : List UInt8) (u : Nat), j < lv.length ∧ lv.length ≤ 100000 ∧ g = lv.length + 1 ∧ iv = .int .i64 (j : Int) ∧ av = .string ⟨a.toArray⟩ ∧ uv = .int .i64 (u : Int) ∧ u ≤ p.length ∧
        Strs wr lvv lv ∧ (∀ s ∈ lv, s.length ≤ 1000000) ∧ a.length ≤ 1000000 ∧ findL lv j a (p.drop u) = r ∧ Fr [] w wr)
      case atStart => exact ⟨i, lv0, at0, 0, hin, hnn, rfl, rfl, rfl, rfl, by omega, HE1.out, HSH.out, HAL.out, HR.out, hf1⟩
      case round =>
        clear hf1 hin hnn
        obtain ⟨j, lv, a, u, hj, hln, hg, rfl, rfl, rfl, hu, hs, hsl, hal, hfd, hfr⟩ := hrel
        have HG := Lib.hid hg
        have HS := Lib.hid hs
        have HSL := Lib.hid hsl
        have HAL2 := Lib.hid hal
        have HFD := Lib.hid hfd
        obtain ⟨va, vcap, rfl, hvl, hva⟩ := hs.form
        clear hg hs hsl hal hfd
        by_cases h1 : 1 < lv.length
        · have t1 : decide ((1 : Int) < (lv.length : Int)) = true := by simp; omega
          obtain ⟨vb, vo, rfl⟩ := hva 0 (by omega)
          obtain ⟨bq, ebq⟩ : ∃ bq, bq = bes j := ⟨_, rfl⟩
          have hbqj : bq ≠ j := by rw [ebq]; unfold bes; split <;> omega
          obtain ⟨r0, er, er2⟩ : ∃ r0 : Nat, r0 = j % 2 ∧ (j : Int).tmod 2 = (r0 : Int) := ⟨_, rfl, by rw [Int.tmod_eq_emod_of_nonneg (by omega)]; omega⟩
          have er3 : (j : Int) % 2 = (r0 : Int) := by omega
          have hbj : (j : Int) + 1 - 2 * (r0 : Int) = (bq : Int) := by rw [ebq]; unfold bes; split <;> omega
          have hr2 : r0 < 2 := by omega
          have x1 : IntKind.i64.wrap ((j : Int) + 1) = (j : Int) + 1 := IntWalk.i64_in _ (by omega)
          have x2 : IntKind.i64.wrap (2 * (r0 : Int)) = 2 * (r0 : Int) := IntWalk.i64_in _ (by omega)
          have x3 : IntKind.i64.wrap (bq : Int) = (bq : Int) := IntWalk.i64_in _ (by omega)
          obtain ⟨j2, ej2, ej3⟩ : ∃ j2 : Nat, j2 = j / 2 ∧ (j : Int) / 2 = (j2 : Int) := ⟨_, rfl, by omega⟩
          have ej4 : (j : Int).tdiv 2 = (j2 : Int) := by rw [Int.tdiv_eq_ediv_of_nonneg (by omega)]; exact ej3
          have HUL : Hid ((upL lv).length = (lv.length + 1) / 2) := Lib.hid (upL_length lv)
          have HUS := Lib.hid (up_short HSL.out)
          have hj2 : j2 < (lv.length + 1) / 2 := by omega
          have HB := Lib.hid ebq
          have HJ2 := Lib.hid ej2
          clear ebq er ej2
          by_cases hb : bq < lv.length
          · have t2 : decide ((bq : Int) < (lv.length : Int)) = true := by simp; omega
            by_cases hup : u < p.length
            · have t3 : decide ((p.length : Int) ≤ (u : Int)) = false := by simp; omega
              have t3' : decide (p.length ≤ u) = false := by simp; omega
              obtain ⟨pb, po, rfl⟩ := hpa u hup
              have cp := hfr.cell (HP.out.cell u hup) (by simp)
              have HDR : Hid (p.drop u = p.getD u [] :: p.drop (u + 1)) := Lib.hid (by rw [List.drop_eq_getElem_cons hup]; simp [List.getD_eq_getElem?_getD, hup])
              have hxs := HPS.out _ (getD_mem p u [] hup)
              have HXS := Lib.hid hxs
              rw [HDR.out] at HFD
              generalize p.getD u [] = x at cp HFD HXS
              have cj := HS.out.cell j hj
              have cb := HS.out.cell bq hb
              have HJL := Lib.hid (HSL.out _ (getD_mem lv j [] hj))
              have HBL := Lib.hid (HSL.out _ (getD_mem lv bq [] hb))
              have g0 : (0 : Int) ≤ (j : Int) := by omega
              have g1 : (j : Int) < (lv.length : Int) := by omega
              have g2 : (0 : Int) ≤ (bq : Int) := by omega
              have g3 : (bq : Int) < (lv.length : Int) := by omega
              have g4 : (0 : Int) ≤ (u : Int) := by omega
              have g5 : (u : Int) < (p.length : Int) := by omega
              have hu9 : u + 1 ≤ p.length := hup
              clear hxs HDR
              by_cases hbl : bq < j
              · have t4 : decide ((bq : Int) < (j : Int)) = true := by simp; omega
                have t4' : decide (bq < j) = true := by simp; omega
                rw [findL_left h1 (by rw [← HB.out]; exact hb) (by rw [← HB.out]; exact hbl), ← HB.out, ← HJ2.out] at HFD
                generalize lv.getD j [] = sj at cj HJL HFD
                generalize lv.getD bq [] = sb at cb HBL HFD
                go_wp2_with fail
                have fA : Fr [] wr (wr.alloc (.cells #[.string ⟨#[110, 111, 100, 101]⟩, .string ⟨a.toArray⟩, .string ⟨x.toArray⟩] 9)) := (Fr.refl [] wr).alloc _
                have sA : Strs (wr.alloc (.cells #[.string ⟨#[110, 111, 100, 101]⟩, .string ⟨a.toArray⟩, .string ⟨x.toArray⟩] 9)) (.slice (some ⟨wr.heap.size, 0, none⟩) 3 3) [nodeB, a, x] := strs_three (heap_new rfl)
                generalize wr.alloc (.cells #[.string ⟨#[110, 111, 100, 101]⟩, .string ⟨a.toArray⟩, .string ⟨x.toArray⟩] 9) = wA at fA sA ⊢
                obtain ⟨b1, eb1⟩ : ∃ b, b = wr.heap.size := ⟨_, rfl⟩
                rw [← eb1] at sA ⊢
                have Eb1 := Lib.hid eb1
                clear eb1
                have cj1 := fA.cell cj (by simp)
                have cb1 := fA.cell cb (by simp)
                have hd : Fr [] wA wA.drew := (Fr.refl [] wA).drew
                have hd2 : Fr [] wA (wA.alloc (.cells #[.string ⟨#[110, 111, 100, 101]⟩, .string ⟨sj.toArray⟩, .string ⟨sb.toArray⟩] 9)).drew := ((Fr.refl [] wA).alloc _).drew
                go_region_held3 (fun W => W.cell? ⟨vb, vo + j, none⟩ = some (.string ⟨sj.toArray⟩) ∧ W.cell? ⟨vb, vo + bq, none⟩ = some (.string ⟨sb.toArray⟩))
                  (with_reducible (first | exact ⟨hd.cell cj1 (by simp), hd.cell cb1 (by simp)⟩ | exact ⟨hd2.cell cj1 (by simp), hd2.cell cb1 (by simp)⟩))
                  (fail)
                clear hd hd2
                have fB : Fr [] wA ((wA.alloc (.cells #[.string ⟨#[110, 111, 100, 101]⟩, .string ⟨sj.toArray⟩, .string ⟨sb.toArray⟩] 9)).drew) := ((Fr.refl [] wA).alloc _).drew
                have sB : Strs ((wA.alloc (.cells #[.string ⟨#[110, 111, 100, 101]⟩, .string ⟨sj.toArray⟩, .string ⟨sb.toArray⟩] 9)).drew) (.slice (some ⟨wA.heap.size, 0, none⟩) 3 3) [nodeB, sj, sb] := strs_three (heap_drew (heap_new rfl))
                generalize (wA.alloc (.cells #[.string ⟨#[110, 111, 100, 101]⟩, .string ⟨sj.toArray⟩, .string ⟨sb.toArray⟩] 9)).drew = wB at fB sB ⊢
                obtain ⟨b2, eb2⟩ : ∃ b, b = wA.heap.size := ⟨_, rfl⟩
                rw [← eb2] at sB ⊢
                have Eb2 := Lib.hid eb2
                clear eb2
                have fAB : Fr [] wr wB := fA.trans fB (by simp)
                have cp2 := fAB.cell cp (by simp)
                clear cj1 cb1 sA sB
                go_wp2_with fail
                have fC : Fr [] wB (wB.alloc (.cells #[.string ⟨#[110, 111, 100, 101]⟩, .string ⟨x.toArray⟩, .string ⟨a.toArray⟩] 9)) := (Fr.refl [] wB).alloc _
                have sC : Strs (wB.alloc (.cells #[.string ⟨#[110, 111, 100, 101]⟩, .string ⟨x.toArray⟩, .string ⟨a.toArray⟩] 9)) (.slice (some ⟨wB.heap.size, 0, none⟩) 3 3) [nodeB, x, a] := strs_three (heap_new rfl)
                generalize wB.alloc (.cells #[.string ⟨#[110, 111, 100, 101]⟩, .string ⟨x.toArray⟩, .string ⟨a.toArray⟩] 9) = wC at fC sC ⊢
                obtain ⟨b3, eb3⟩ : ∃ b, b = wB.heap.size := ⟨_, rfl⟩
                rw [← eb3] at sC ⊢
                have Eb3 := Lib.hid eb3
                clear eb3
                have fAC : Fr [] wr wC := fAB.trans fC (by simp)
                have cj1 := fAC.cell cj (by simp)
                have cb1 := fAC.cell cb (by simp)
                have hd : Fr [] wC wC.drew := (Fr.refl [] wC).drew
                have hd2 : Fr [] wC (wC.alloc (.cells #[.string ⟨#[110, 111, 100, 101]⟩, .string ⟨sb.toArray⟩, .string ⟨sj.toArray⟩] 9)).drew := ((Fr.refl [] wC).alloc _).drew
                go_region_held3 (fun W => W.cell? ⟨vb, vo + j, none⟩ = some (.string ⟨sj.toArray⟩) ∧ W.cell? ⟨vb, vo + bq, none⟩ = some (.string ⟨sb.toArray⟩))
                  (with_reducible (first | exact ⟨hd.cell cj1 (by simp), hd.cell cb1 (by simp)⟩ | exact ⟨hd2.cell cj1 (by simp), hd2.cell cb1 (by simp)⟩))
                  (fail)
                clear hd hd2
                have fD : Fr [] wC ((wC.alloc (.cells #[.string ⟨#[110, 111, 100, 101]⟩, .string ⟨sb.toArray⟩, .string ⟨sj.toArray⟩] 9)).drew) := ((Fr.refl [] wC).alloc _).drew
                have sD : Strs ((wC.alloc (.cells #[.string ⟨#[110, 111, 100, 101]⟩, .string ⟨sb.toArray⟩, .string ⟨sj.toArray⟩] 9)).drew) (.slice (some ⟨wC.heap.size, 0, none⟩) 3 3) [nodeB, sb, sj] := strs_three (heap_drew (heap_new rfl))
                generalize (wC.alloc (.cells #[.string ⟨#[110, 111, 100, 101]⟩, .string ⟨sb.toArray⟩, .string ⟨sj.toArray⟩] 9)).drew = wD at fD sD ⊢
                obtain ⟨b4, eb4⟩ : ∃ b, b = wC.heap.size := ⟨_, rfl⟩
                rw [← eb4] at sD ⊢
                have Eb4 := Lib.hid eb4
                clear eb4
                have fAD : Fr [] wr wD := fAC.trans fD (by simp)
                have SA := Lib.hid (sC.fr0 fD)
                have SB := Lib.hid sD
                clear cj1 cb1 sC sD cp2 fAB fAC fB fC fD fA
                go_wp2_with fail
                refine (collide_any _ _ [nodeB, x, a] [nodeB, sb, sj] wD SA.out SB.out (joinL_cap3 _ _ _ nodeB_short HXS.out HAL2.out) (joinL_cap3 _ _ _ nodeB_short HBL.out HJL.out) (HT.out.fr (hfr.trans fAD (by simp)))).mono ?_
                rintro e wE ⟨rfl, hbE⟩
                have fE : Fr [] wr wE := fAD.below hbE fAD.size
                have SA2 := Lib.hid (SA.out.fr0 (Fr.ofBelow (X := []) hbE))
                clear hbE fAD
                cases hcc : collB [nodeB, x, a] [nodeB, sb, sj] with
                | true =>
                  have HF : Hid (r = true) := Lib.hid (by rw [← HFD.out, hcc]; rfl)
                  clear hcc
                  go_wp2_with fail
                  go_ret
                  exact ⟨by rw [HF.out]; rfl, (hfr.trans fE (by simp)).toBelow (by simp)⟩
                | false => ?_
                rw [hcc, Bool.false_or] at HFD
                clear hcc SB
                go_wp2_with fail
                refine (list_any _ [nodeB, x, a] wE SA2.out (joinL_cap3 _ _ _ nodeB_short HXS.out HAL2.out) (HT.out.fr (hfr.trans fE (by simp)))).mono ?_
                rintro e wF ⟨rfl, hbF⟩
                have hfF : Fr [] w wF := (hfr.trans fE (by simp)).below hbF (hfr.trans fE (by simp)).size
                have HSF := Lib.hid (HS.out.fr0 (fE.trans (Fr.ofBelow (X := []) hbF) (by simp)))
                have HAN : Hid ((dlist [nodeB, x, a]).length ≤ 1000000) := Lib.hid (by rw [show (dlist [nodeB, x, a]).length = 16 from dsum_length _]; decide)
                generalize dlist [nodeB, x, a] = a2 at HFD HAN ⊢
                clear hbF fE SA2 SA hfr cp cj cb g0 g1 g2 g3 g4 g5 t2 t3 t3' t4 t4'
                go_wp2_with fail
                go_loopg [16, 17] (lv.length + 2) (fun g nv kv wq => ∃ kk i0 : Nat, i0 = 2 * kk ∧ i0 ≤ lv.length + 1 ∧ g = lv.length + 2 - i0 ∧ kv = .int .i64 (i0 : Int) ∧ OwnS wF.heap.size wq nv ((upL lv).take kk) ∧ Fr [] wF wq)
                case atStart => exact ⟨0, 0, rfl, by omega, by omega, rfl, ⟨rfl, Or.inl ⟨rfl, rfl⟩⟩, Fr.refl _ _⟩
                case round =>
                  obtain ⟨kk, i0, hik, hi0, hg3, rfl, ho, hfq⟩ := hrel
                  have HG3 := Lib.hid hg3
                  have HO3 := Lib.hid ho
                  have HIK := Lib.hid hik
                  have hku : ((upL lv).take kk).length ≤ 100000 := by rw [List.length_take, upL_length]; omega
                  clear hg3 ho hik
                  by_cases hlt3 : i0 < lv.length
                  · have t5 : decide ((i0 : Int) < (lv.length : Int)) = true := by simp; omega
                    have z0 := hfq.cell (HSF.out.cell i0 hlt3) (by simp)
                    have HM3 := Lib.hid (HSL.out _ (getD_mem lv i0 [] hlt3))
                    have HTK : Hid ((upL lv).take (kk + 1) = (upL lv).take kk ++ [if i0 + 1 < lv.length then nodeD (lv.getD i0 []) (lv.getD (i0 + 1) []) else lv.getD i0 []]) := Lib.hid (by
                      have := HIK.out
                      rw [take_snoc' (upL lv) kk [] (by rw [upL_length]; omega), upL_at lv kk (by omega), ← HIK.out])
                    have q0 : (0 : Int) ≤ (i0 : Int) := by omega
                    have q1 : (i0 : Int) < (lv.length : Int) := by omega
                    have y1 : IntKind.i64.wrap ((i0 : Int) + 1) = (i0 : Int) + 1 := IntWalk.i64_in _ (by omega)
                    have y2 : IntKind.i64.wrap ((i0 : Int) + 2) = (i0 : Int) + 2 := IntWalk.i64_in _ (by omega)
                    by_cases h2 : i0 + 1 < lv.length
                    · have t6 : decide ((i0 : Int) + 1 < (lv.length : Int)) = true := by simp; omega
                      have z1 := hfq.cell (HSF.out.cell (i0 + 1) h2) (by simp)
                      have HM4 := Lib.hid (HSL.out _ (getD_mem lv (i0 + 1) [] h2))
                      rw [if_pos h2] at HTK
                      generalize lv.getD i0 [] = sa at z0 HM3 HTK
                      generalize lv.getD (i0 + 1) [] = sc at z1 HM4 HTK
                      have q2 : (i0 : Int) + 1 < (lv.length : Int) := by omega
                      have q3 : (0 : Int) ≤ (i0 : Int) + 1 := by omega
                      have q4 : ((i0 : Int) + 1).toNat = i0 + 1 := by omega
                      go_wp2_with fail
                      have hS0 : wr.drew.cell? ⟨vb, vo + i0, none⟩ = some (.string ⟨sa.toArray⟩) ∧ wr.drew.cell? ⟨vb, vo + (i0 + 1), none⟩ = some (.string ⟨sc.toArray⟩) := ⟨z0, z1⟩
                      refine region_held 14 (fun W' => W'.cell? ⟨vb, vo + i0, none⟩ = some (.string ⟨sa.toArray⟩) ∧ W'.cell? ⟨vb, vo + (i0 + 1), none⟩ = some (.string ⟨sc.toArray⟩)) hmx ?_
                      change Held _ _ _ _ _ _ 15 (Array.replicate 15 false) _ _
                      refine hd_take 0 (v := u16) rfl (by kernel_rfl) (by kernel_rfl) (by kernel_rfl) rfl hS0 (fun W' hS => by first | (go_simp; done) | (go_simp; intro hix; omega)) rfl ?_
                      refine hd_take 1 (v := .slice (some ⟨vb, vo, none⟩) lv.length vcap) rfl (by kernel_rfl) (by kernel_rfl) (by kernel_rfl) rfl hS0 (fun W' hS => by first | (go_simp; done) | (go_simp; intro hix; omega)) rfl ?_
                      refine hd_take 2 (v := .int .i64 (i0 : Int)) rfl (by kernel_rfl) (by kernel_rfl) (by kernel_rfl) rfl hS0 (fun W' hS => by first | (go_simp; done) | (go_simp; intro hix; omega)) rfl ?_
                      refine hd_take 5 (v := .slice (some ⟨vb, vo, none⟩) lv.length vcap) rfl (by kernel_rfl) (by kernel_rfl) (by kernel_rfl) rfl hS0 (fun W' hS => by first | (go_simp; done) | (go_simp; intro hix; omega)) rfl ?_
                      refine hd_take 6 (v := .int .i64 (i0 : Int)) rfl (by kernel_rfl) (by kernel_rfl) (by kernel_rfl) rfl hS0 (fun W' hS => by first | (go_simp; done) | (go_simp; intro hix; omega)) rfl ?_
                      simp only [Act.put, List.setIfInBounds_toArray, List.set_cons_zero, List.set_cons_succ]
                      refine hd_take 3 (v := .pointer (some ⟨vb, vo + i0, none⟩)) rfl (by kernel_rfl) (by kernel_rfl) (by kernel_rfl) rfl hS0 (fun W' hS => by first | (go_simp; done) | (go_simp; intro hix; omega)) rfl ?_
                      refine hd_take 7 (v := .int .i64 ((i0 : Int) + 1)) rfl (by kernel_rfl) (by kernel_rfl) (by kernel_rfl) rfl hS0 (fun W' hS => by first | (go_simp; done) | (go_simp; intro hix; omega)) rfl ?_
                      simp only [Act.put, List.setIfInBounds_toArray, List.set_cons_zero, List.set_cons_succ]
                      refine hd_take 4 (v := .string ⟨sa.toArray⟩) rfl (by kernel_rfl) (by kernel_rfl) (by kernel_rfl) rfl hS0 (fun W' hS => by obtain ⟨h0, h1⟩ := hS; first | (go_simp; done) | (go_simp; intro hix; omega)) rfl ?_
                      refine hd_take 8 (v := .pointer (some ⟨vb, vo + (i0 + 1), none⟩)) rfl (by kernel_rfl) (by kernel_rfl) (by kernel_rfl) rfl hS0 (fun W' hS => by first | (go_simp; done) | (go_simp; intro hix; omega)) rfl ?_
                      simp only [Act.put, List.setIfInBounds_toArray, List.set_cons_zero, List.set_cons_succ]
                      refine hd_take 9 (v := .string ⟨sc.toArray⟩) rfl (by kernel_rfl) (by kernel_rfl) (by kernel_rfl) rfl hS0 (fun W' hS => by obtain ⟨h0, h1⟩ := hS; first | (go_simp; done) | (go_simp; intro hix; omega)) rfl ?_
                      simp only [Act.put, List.setIfInBounds_toArray, List.set_cons_zero, List.set_cons_succ]
                      have m0 : Fr [] wr wr.drew := (Fr.refl [] wr).drew
                      refine hd_one 10 (by kernel_rfl) rfl (by kernel_rfl) rfl (fun K' hK => ?_)
                      go_simp
                      have m1 : Fr [] wr ((wr.alloc (.cells #[.string ⟨#[110, 111, 100, 101]⟩, .string ⟨sa.toArray⟩, .string ⟨sc.toArray⟩] 9)).drew) := ((Fr.refl [] wr).alloc _).drew
                      have s1 : Strs ((wr.alloc (.cells #[.string ⟨#[110, 111, 100, 101]⟩, .string ⟨sa.toArray⟩, .string ⟨sc.toArray⟩] 9)).drew) (.slice (some ⟨wr.heap.size, 0, none⟩) 3 3) [nodeB, sa, sc] := strs_three (heap_drew (heap_new rfl))
                      generalize (wr.alloc (.cells #[.string ⟨#[110, 111, 100, 101]⟩, .string ⟨sa.toArray⟩, .string ⟨sc.toArray⟩] 9)).drew = wm1 at m1 s1 ⊢
                      refine hK.out _ _ (fun _ => ⟨m1.cell z0 (by simp), m1.cell z1 (by simp)⟩) ?_
                      clear hK K' hS0 m0
                      refine hd_one 11 (by kernel_rfl) rfl (by kernel_rfl) rfl (fun K' hK => ?_)
                      go_simp
                      refine (list_any _ [nodeB, sa, sc] wm1 s1 (joinL_cap3 _ _ _ nodeB_short HM3.out HM4.out) (HT.out.fr ((hfF.trans hfq (by simp)).trans m1 (by simp)))).mono ?_
                      rintro e wm2 ⟨rfl, hbm2⟩
                      have m2 : Fr [] wr wm2 := m1.below hbm2 m1.size
                      refine hK.out _ _ (fun _ => ⟨m2.cell z0 (by simp), m2.cell z1 (by simp)⟩) ?_
                      clear hK K' hbm2 m1 s1
                      rw [show dlist [nodeB, sa, sc] = nodeD sa sc from rfl]
                      generalize nodeD sa sc = se at HTK ⊢
                      refine hd_one 12 (by kernel_rfl) rfl (by kernel_rfl) rfl (fun K' hK => ?_)
                      go_simp
                      have m3 : Fr [] wr (wm2.alloc (.cells #[.string ⟨se.toArray⟩] 9)) := m2.alloc _
                      refine hK.out _ _ (fun _ => ⟨m3.cell z0 (by simp), m3.cell z1 (by simp)⟩) ?_
                      clear hK K' m3
                      refine hd_one 13 (by kernel_rfl) rfl (by kernel_rfl) rfl (fun K' hK => ?_)
                      refine wp_appS (.tmp 112) (.tmp 124) rfl wF.heap.size _ ((upL lv).take kk) se wF rfl rfl (HO3.out.fr m2 (by simp)) (hfq.trans m2 (by simp)) (Nat.le_refl _) (hfq.trans m2 (by simp)).size (by omega) ?_
                      intro v' w7 _ ho7 hf7 hg7
                      have hbw : vb ∉ u16.ownBlock.toList := by
                        intro hm
                        have h1 := (ownBlock_cells HO3.out vb (by simpa using hm)).1
                        have h2 := World.block_lt_of_cell? _ _ (HSF.out.cell i0 hlt3)
                        simp only at h2
                        omega
                      refine hK.out _ _ (fun _ => ⟨hg7.cell (m2.cell z0 (by simp)) hbw, hg7.cell (m2.cell z1 (by simp)) hbw⟩) ?_
                      clear hK K' hbw
                      simp only [Act.put, List.setIfInBounds_toArray, List.set_cons_zero, List.set_cons_succ]
                      refine hd_one 14 (by kernel_rfl) rfl (by kernel_rfl) rfl (fun K' hK => ?_)
                      go_simp
                      refine hK.out _ _ (fun h => absurd rfl h) ?_
                      clear hK K'
                      refine held_done (by kernel_rfl) ?_
                      have HO4 : Hid (OwnS wF.heap.size w7 v' ((upL lv).take (kk + 1))) := Lib.hid (by rw [HTK.out]; exact ho7)
                      clear ho7 hg7 z0 z1 hfq m2
                      go_wp2_with fail
                      go_roundg (lv.length + 2 - (i0 + 2))
                      case measure => have := HG3.out; omega
                      case rel => exact ⟨kk + 1, i0 + 2, by have := HIK.out; omega, by omega, rfl, by go_num, HO4.out, hf7⟩
                    · have t6 : decide ((i0 : Int) + 1 < (lv.length : Int)) = false := by simp; omega
                      rw [if_neg h2] at HTK
                      generalize lv.getD i0 [] = sa at z0 HM3 HTK
                      go_wp2_with (at_builtin; go_loud (refine wpList_appS rfl (.tmp 126) (.tmp 131) rfl wF.heap.size _ ((upL lv).take kk) sa wF rfl rfl HO3.out hfq (Nat.le_refl _) hfq.size (by omega) ?_))
                      intro v' w2' g9 c9 hv9 ho2 hf2 _
                      have HO4 : Hid (OwnS wF.heap.size w2' v' ((upL lv).take (kk + 1))) := Lib.hid (by rw [HTK.out]; exact ho2)
                      clear ho2 z0 hfq
                      go_wp2_with fail
                      go_roundg (lv.length + 2 - (i0 + 2))
                      case measure => have := HG3.out; omega
                      case rel => exact ⟨kk + 1, i0 + 2, by have := HIK.out; omega, by omega, rfl, by go_num, HO4.out, hf2⟩
                  · have t5 : decide ((i0 : Int) < (lv.length : Int)) = false := by simp; omega
                    have HE3 : Hid (Strs wr u16 (upL lv)) := Lib.hid (by
                      have h1 := HO3.out.strs
                      have := HIK.out
                      rwa [List.take_of_length_le (by rw [upL_length]; omega)] at h1)
                    go_wp2_with fail
                    go_roundg ((upL lv).length + 1)
                    case measure => have := HG.out; have := HUL.out; omega
                    case rel => exact ⟨j2, upL lv, a2, u + 1, by have := HUL.out; omega, by have := HUL.out; omega, rfl, rfl, rfl, by go_num, hu9, HE3.out, HUS.out, HAN.out, HFD.out, hfF.trans hfq (by simp)⟩
              · have t4 : decide ((bq : Int) < (j : Int)) = false := by simp; omega
                have t4' : decide (bq < j) = false := by simp; omega
                rw [findL_right h1 (by rw [← HB.out]; exact hb) (by rw [← HB.out]; exact hbl), ← HB.out, ← HJ2.out] at HFD
                generalize lv.getD j [] = sj at cj HJL HFD
                generalize lv.getD bq [] = sb at cb HBL HFD
                go_wp2_with fail
                have fA : Fr [] wr (wr.alloc (.cells #[.string ⟨#[110, 111, 100, 101]⟩, .string ⟨a.toArray⟩, .string ⟨x.toArray⟩] 9)) := (Fr.refl [] wr).alloc _
                have sA : Strs (wr.alloc (.cells #[.string ⟨#[110, 111, 100, 101]⟩, .string ⟨a.toArray⟩, .string ⟨x.toArray⟩] 9)) (.slice (some ⟨wr.heap.size, 0, none⟩) 3 3) [nodeB, a, x] := strs_three (heap_new rfl)
                generalize wr.alloc (.cells #[.string ⟨#[110, 111, 100, 101]⟩, .string ⟨a.toArray⟩, .string ⟨x.toArray⟩] 9) = wA at fA sA ⊢
                obtain ⟨b1, eb1⟩ : ∃ b, b = wr.heap.size := ⟨_, rfl⟩
                rw [← eb1] at sA ⊢
                have Eb1 := Lib.hid eb1
                clear eb1
                have cj1 := fA.cell cj (by simp)
                have cb1 := fA.cell cb (by simp)
                have hd : Fr [] wA wA.drew := (Fr.refl [] wA).drew
                have hd2 : Fr [] wA (wA.alloc (.cells #[.string ⟨#[110, 111, 100, 101]⟩, .string ⟨sj.toArray⟩, .string ⟨sb.toArray⟩] 9)).drew := ((Fr.refl [] wA).alloc _).drew
                go_region_held3 (fun W => W.cell? ⟨vb, vo + j, none⟩ = some (.string ⟨sj.toArray⟩) ∧ W.cell? ⟨vb, vo + bq, none⟩ = some (.string ⟨sb.toArray⟩))
                  (with_reducible (first | exact ⟨hd.cell cj1 (by simp), hd.cell cb1 (by simp)⟩ | exact ⟨hd2.cell cj1 (by simp), hd2.cell cb1 (by simp)⟩))
                  (fail)
                clear hd hd2
                have fB : Fr [] wA ((wA.alloc (.cells #[.string ⟨#[110, 111, 100, 101]⟩, .string ⟨sj.toArray⟩, .string ⟨sb.toArray⟩] 9)).drew) := ((Fr.refl [] wA).alloc _).drew
                have sB : Strs ((wA.alloc (.cells #[.string ⟨#[110, 111, 100, 101]⟩, .string ⟨sj.toArray⟩, .string ⟨sb.toArray⟩] 9)).drew) (.slice (some ⟨wA.heap.size, 0, none⟩) 3 3) [nodeB, sj, sb] := strs_three (heap_drew (heap_new rfl))
                generalize (wA.alloc (.cells #[.string ⟨#[110, 111, 100, 101]⟩, .string ⟨sj.toArray⟩, .string ⟨sb.toArray⟩] 9)).drew = wB at fB sB ⊢
                obtain ⟨b2, eb2⟩ : ∃ b, b = wA.heap.size := ⟨_, rfl⟩
                rw [← eb2] at sB ⊢
                have Eb2 := Lib.hid eb2
                clear eb2
                have fAB : Fr [] wr wB := fA.trans fB (by simp)
                have fAD := fAB
                have SA := Lib.hid (sA.fr0 fB)
                have SB := Lib.hid sB
                clear cj1 cb1 sA sB fAB fA fB
                go_wp2_with fail
                refine (collide_any _ _ [nodeB, a, x] [nodeB, sj, sb] wB SA.out SB.out (joinL_cap3 _ _ _ nodeB_short HAL2.out HXS.out) (joinL_cap3 _ _ _ nodeB_short HJL.out HBL.out) (HT.out.fr (hfr.trans fAD (by simp)))).mono ?_
                rintro e wE ⟨rfl, hbE⟩
                have fE : Fr [] wr wE := fAD.below hbE fAD.size
                have SA2 := Lib.hid (SA.out.fr0 (Fr.ofBelow (X := []) hbE))
                clear hbE fAD
                cases hcc : collB [nodeB, a, x] [nodeB, sj, sb] with
                | true =>
                  have HF : Hid (r = true) := Lib.hid (by rw [← HFD.out, hcc]; rfl)
                  clear hcc
                  go_wp2_with fail
                  go_ret
                  exact ⟨by rw [HF.out]; rfl, (hfr.trans fE (by simp)).toBelow (by simp)⟩
                | false => ?_
                rw [hcc, Bool.false_or] at HFD
                clear hcc SB
                go_wp2_with fail
                refine (list_any _ [nodeB, a, x] wE SA2.out (joinL_cap3 _ _ _ nodeB_short HAL2.out HXS.out) (HT.out.fr (hfr.trans fE (by simp)))).mono ?_
                rintro e wF ⟨rfl, hbF⟩
                have hfF : Fr [] w wF := (hfr.trans fE (by simp)).below hbF (hfr.trans fE (by simp)).size
                have HSF := Lib.hid (HS.out.fr0 (fE.trans (Fr.ofBelow (X := []) hbF) (by simp)))
                have HAN : Hid ((dlist [nodeB, a, x]).length ≤ 1000000) := Lib.hid (by rw [show (dlist [nodeB, a, x]).length = 16 from dsum_length _]; decide)
                generalize dlist [nodeB, a, x] = a2 at HFD HAN ⊢
                clear hbF fE SA2 SA hfr cp cj cb g0 g1 g2 g3 g4 g5 t2 t3 t3' t4 t4'
                go_wp2_with fail
                go_loopg [16, 17] (lv.length + 2) (fun g nv kv wq => ∃ kk i0 : Nat, i0 = 2 * kk ∧ i0 ≤ lv.length + 1 ∧ g = lv.length + 2 - i0 ∧ kv = .int .i64 (i0 : Int) ∧ OwnS wF.heap.size wq nv ((upL lv).take kk) ∧ Fr [] wF wq)
                case atStart => exact ⟨0, 0, rfl, by omega, by omega, rfl, ⟨rfl, Or.inl ⟨rfl, rfl⟩⟩, Fr.refl _ _⟩
                case round =>
                  obtain ⟨kk, i0, hik, hi0, hg3, rfl, ho, hfq⟩ := hrel
                  have HG3 := Lib.hid hg3
                  have HO3 := Lib.hid ho
                  have HIK := Lib.hid hik
                  have hku : ((upL lv).take kk).length ≤ 100000 := by rw [List.length_take, upL_length]; omega
                  clear hg3 ho hik
                  by_cases hlt3 : i0 < lv.length
                  · have t5 : decide ((i0 : Int) < (lv.length : Int)) = true := by simp; omega
                    have z0 := hfq.cell (HSF.out.cell i0 hlt3) (by simp)
                    have HM3 := Lib.hid (HSL.out _ (getD_mem lv i0 [] hlt3))
                    have HTK : Hid ((upL lv).take (kk + 1) = (upL lv).take kk ++ [if i0 + 1 < lv.length then nodeD (lv.getD i0 []) (lv.getD (i0 + 1) []) else lv.getD i0 []]) := Lib.hid (by
                      have := HIK.out
                      rw [take_snoc' (upL lv) kk [] (by rw [upL_length]; omega), upL_at lv kk (by omega), ← HIK.out])
                    have q0 : (0 : Int) ≤ (i0 : Int) := by omega
                    have q1 : (i0 : Int) < (lv.length : Int) := by omega
                    have y1 : IntKind.i64.wrap ((i0 : Int) + 1) = (i0 : Int) + 1 := IntWalk.i64_in _ (by omega)
                    have y2 : IntKind.i64.wrap ((i0 : Int) + 2) = (i0 : Int) + 2 := IntWalk.i64_in _ (by omega)
                    by_cases h2 : i0 + 1 < lv.length
                    · have t6 : decide ((i0 : Int) + 1 < (lv.length : Int)) = true := by simp; omega
                      have z1 := hfq.cell (HSF.out.cell (i0 + 1) h2) (by simp)
                      have HM4 := Lib.hid (HSL.out _ (getD_mem lv (i0 + 1) [] h2))
                      rw [if_pos h2] at HTK
                      generalize lv.getD i0 [] = sa at z0 HM3 HTK
                      generalize lv.getD (i0 + 1) [] = sc at z1 HM4 HTK
                      have q2 : (i0 : Int) + 1 < (lv.length : Int) := by omega
                      have q3 : (0 : Int) ≤ (i0 : Int) + 1 := by omega
                      have q4 : ((i0 : Int) + 1).toNat = i0 + 1 := by omega
                      go_wp2_with fail
                      have hS0 : wr.drew.cell? ⟨vb, vo + i0, none⟩ = some (.string ⟨sa.toArray⟩) ∧ wr.drew.cell? ⟨vb, vo + (i0 + 1), none⟩ = some (.string ⟨sc.toArray⟩) := ⟨z0, z1⟩
                      refine region_held 14 (fun W' => W'.cell? ⟨vb, vo + i0, none⟩ = some (.string ⟨sa.toArray⟩) ∧ W'.cell? ⟨vb, vo + (i0 + 1), none⟩ = some (.string ⟨sc.toArray⟩)) hmx ?_
                      change Held _ _ _ _ _ _ 15 (Array.replicate 15 false) _ _
                      refine hd_take 0 (v := u16) rfl (by kernel_rfl) (by kernel_rfl) (by kernel_rfl) rfl hS0 (fun W' hS => by first | (go_simp; done) | (go_simp; intro hix; omega)) rfl ?_
                      refine hd_take 1 (v := .slice (some ⟨vb, vo, none⟩) lv.length vcap) rfl (by kernel_rfl) (by kernel_rfl) (by kernel_rfl) rfl hS0 (fun W' hS => by first | (go_simp; done) | (go_simp; intro hix; omega)) rfl ?_
                      refine hd_take 2 (v := .int .i64 (i0 : Int)) rfl (by kernel_rfl) (by kernel_rfl) (by kernel_rfl) rfl hS0 (fun W' hS => by first | (go_simp; done) | (go_simp; intro hix; omega)) rfl ?_
                      refine hd_take 5 (v := .slice (some ⟨vb, vo, none⟩) lv.length vcap) rfl (by kernel_rfl) (by kernel_rfl) (by kernel_rfl) rfl hS0 (fun W' hS => by first | (go_simp; done) | (go_simp; intro hix; omega)) rfl ?_
                      refine hd_take 6 (v := .int .i64 (i0 : Int)) rfl (by kernel_rfl) (by kernel_rfl) (by kernel_rfl) rfl hS0 (fun W' hS => by first | (go_simp; done) | (go_simp; intro hix; omega)) rfl ?_
                      simp only [Act.put, List.setIfInBounds_toArray, List.set_cons_zero, List.set_cons_succ]
                      refine hd_take 3 (v := .pointer (some ⟨vb, vo + i0, none⟩)) rfl (by kernel_rfl) (by kernel_rfl) (by kernel_rfl) rfl hS0 (fun W' hS => by first | (go_simp; done) | (go_simp; intro hix; omega)) rfl ?_
                      refine hd_take 7 (v := .int .i64 ((i0 : Int) + 1)) rfl (by kernel_rfl) (by kernel_rfl) (by kernel_rfl) rfl hS0 (fun W' hS => by first | (go_simp; done) | (go_simp; intro hix; omega)) rfl ?_
                      simp only [Act.put, List.setIfInBounds_toArray, List.set_cons_zero, List.set_cons_succ]
                      refine hd_take 4 (v := .string ⟨sa.toArray⟩) rfl (by kernel_rfl) (by kernel_rfl) (by kernel_rfl) rfl hS0 (fun W' hS => by obtain ⟨h0, h1⟩ := hS; first | (go_simp; done) | (go_simp; intro hix; omega)) rfl ?_
                      refine hd_take 8 (v := .pointer (some ⟨vb, vo + (i0 + 1), none⟩)) rfl (by kernel_rfl) (by kernel_rfl) (by kernel_rfl) rfl hS0 (fun W' hS => by first | (go_simp; done) | (go_simp; intro hix; omega)) rfl ?_
                      simp only [Act.put, List.setIfInBounds_toArray, List.set_cons_zero, List.set_cons_succ]
                      refine hd_take 9 (v := .string ⟨sc.toArray⟩) rfl (by kernel_rfl) (by kernel_rfl) (by kernel_rfl) rfl hS0 (fun W' hS => by obtain ⟨h0, h1⟩ := hS; first | (go_simp; done) | (go_simp; intro hix; omega)) rfl ?_
                      simp only [Act.put, List.setIfInBounds_toArray, List.set_cons_zero, List.set_cons_succ]
                      have m0 : Fr [] wr wr.drew := (Fr.refl [] wr).drew
                      refine hd_one 10 (by kernel_rfl) rfl (by kernel_rfl) rfl (fun K' hK => ?_)
                      go_simp
                      have m1 : Fr [] wr ((wr.alloc (.cells #[.string ⟨#[110, 111, 100, 101]⟩, .string ⟨sa.toArray⟩, .string ⟨sc.toArray⟩] 9)).drew) := ((Fr.refl [] wr).alloc _).drew
                      have s1 : Strs ((wr.alloc (.cells #[.string ⟨#[110, 111, 100, 101]⟩, .string ⟨sa.toArray⟩, .string ⟨sc.toArray⟩] 9)).drew) (.slice (some ⟨wr.heap.size, 0, none⟩) 3 3) [nodeB, sa, sc] := strs_three (heap_drew (heap_new rfl))
                      generalize (wr.alloc (.cells #[.string ⟨#[110, 111, 100, 101]⟩, .string ⟨sa.toArray⟩, .string ⟨sc.toArray⟩] 9)).drew = wm1 at m1 s1 ⊢
                      refine hK.out _ _ (fun _ => ⟨m1.cell z0 (by simp), m1.cell z1 (by simp)⟩) ?_
                      clear hK K' hS0 m0
                      refine hd_one 11 (by kernel_rfl) rfl (by kernel_rfl) rfl (fun K' hK => ?_)
                      go_simp
                      refine (list_any _ [nodeB, sa, sc] wm1 s1 (joinL_cap3 _ _ _ nodeB_short HM3.out HM4.out) (HT.out.fr ((hfF.trans hfq (by simp)).trans m1 (by simp)))).mono ?_
                      rintro e wm2 ⟨rfl, hbm2⟩
                      have m2 : Fr [] wr wm2 := m1.below hbm2 m1.size
                      refine hK.out _ _ (fun _ => ⟨m2.cell z0 (by simp), m2.cell z1 (by simp)⟩) ?_
                      clear hK K' hbm2 m1 s1
                      rw [show dlist [nodeB, sa, sc] = nodeD sa sc from rfl]
                      generalize nodeD sa sc = se at HTK ⊢
                      refine hd_one 12 (by kernel_rfl) rfl (by kernel_rfl) rfl (fun K' hK => ?_)
                      go_simp
                      have m3 : Fr [] wr (wm2.alloc (.cells #[.string ⟨se.toArray⟩] 9)) := m2.alloc _
                      refine hK.out _ _ (fun _ => ⟨m3.cell z0 (by simp), m3.cell z1 (by simp)⟩) ?_
                      clear hK K' m3
                      refine hd_one 13 (by kernel_rfl) rfl (by kernel_rfl) rfl (fun K' hK => ?_)
                      refine wp_appS (.tmp 112) (.tmp 124) rfl wF.heap.size _ ((upL lv).take kk) se wF rfl rfl (HO3.out.fr m2 (by simp)) (hfq.trans m2 (by simp)) (Nat.le_refl _) (hfq.trans m2 (by simp)).size (by omega) ?_
                      intro v' w7 _ ho7 hf7 hg7
                      have hbw : vb ∉ u16.ownBlock.toList := by
                        intro hm
                        have h1 := (ownBlock_cells HO3.out vb (by simpa using hm)).1
                        have h2 := World.block_lt_of_cell? _ _ (HSF.out.cell i0 hlt3)
                        simp only at h2
                        omega
                      refine hK.out _ _ (fun _ => ⟨hg7.cell (m2.cell z0 (by simp)) hbw, hg7.cell (m2.cell z1 (by simp)) hbw⟩) ?_
                      clear hK K' hbw
                      simp only [Act.put, List.setIfInBounds_toArray, List.set_cons_zero, List.set_cons_succ]
                      refine hd_one 14 (by kernel_rfl) rfl (by kernel_rfl) rfl (fun K' hK => ?_)
                      go_simp
                      refine hK.out _ _ (fun h => absurd rfl h) ?_
                      clear hK K'
                      refine held_done (by kernel_rfl) ?_
                      have HO4 : Hid (OwnS wF.heap.size w7 v' ((upL lv).take (kk + 1))) := Lib.hid (by rw [HTK.out]; exact ho7)
                      clear ho7 hg7 z0 z1 hfq m2
                      go_wp2_with fail
                      go_roundg (lv.length + 2 - (i0 + 2))
                      case measure => have := HG3.out; omega
                      case rel => exact ⟨kk + 1, i0 + 2, by have := HIK.out; omega, by omega, rfl, by go_num, HO4.out, hf7⟩
                    · have t6 : decide ((i0 : Int) + 1 < (lv.length : Int)) = false := by simp; omega
                      rw [if_neg h2] at HTK
                      generalize lv.getD i0 [] = sa at z0 HM3 HTK
                      go_wp2_with (at_builtin; go_loud (refine wpList_appS rfl (.tmp 126) (.tmp 131) rfl wF.heap.size _ ((upL lv).take kk) sa wF rfl rfl HO3.out hfq (Nat.le_refl _) hfq.size (by omega) ?_))
                      intro v' w2' g9 c9 hv9 ho2 hf2 _
                      have HO4 : Hid (OwnS wF.heap.size w2' v' ((upL lv).take (kk + 1))) := Lib.hid (by rw [HTK.out]; exact ho2)
                      clear ho2 z0 hfq
                      go_wp2_with fail
                      go_roundg (lv.length + 2 - (i0 + 2))
                      case measure => have := HG3.out; omega
                      case rel => exact ⟨kk + 1, i0 + 2, by have := HIK.out; omega, by omega, rfl, by go_num, HO4.out, hf2⟩
                  · have t5 : decide ((i0 : Int) < (lv.length : Int)) = false := by simp; omega
                    have HE3 : Hid (Strs wr u16 (upL lv)) := Lib.hid (by
                      have h1 := HO3.out.strs
                      have := HIK.out
                      rwa [List.take_of_length_le (by rw [upL_length]; omega)] at h1)
                    go_wp2_with fail
                    go_roundg ((upL lv).length + 1)
                    case measure => have := HG.out; have := HUL.out; omega
                    case rel => exact ⟨j2, upL lv, a2, u + 1, by have := HUL.out; omega, by have := HUL.out; omega, rfl, rfl, rfl, by go_num, hu9, HE3.out, HUS.out, HAN.out, HFD.out, hfF.trans hfq (by simp)⟩
            · have t3 : decide ((p.length : Int) ≤ (u : Int)) = true := by simp; omega
              have t3' : decide (p.length ≤ u) = true := by simp; omega
              have HF : Hid (r = false) := Lib.hid (by rw [← HFD.out, show p.drop u = [] from List.drop_eq_nil_iff.2 (by omega), findL_nil h1 (by rw [← HB.out]; exact hb)])
              go_wp2_with fail
              go_ret
              exact ⟨by rw [HF.out]; rfl, hfr.toBelow (by simp)⟩
          · have t2 : decide ((bq : Int) < (lv.length : Int)) = false := by simp; omega
            rw [findL_skip h1 (by rw [← HB.out]; exact hb), ← HJ2.out] at HFD
            go_wp2_with fail
            have hfr0 : Fr [] w wr := hfr
            clear hfr t2
            obtain ⟨wr0, ewr0⟩ : ∃ x, x = wr := ⟨_, rfl⟩
            rw [← ewr0] at hfr0 HS ⊢
            clear ewr0
            go_loopg [16, 17] (lv.length + 2) (fun g nv kv wq => ∃ kk i0 : Nat, i0 = 2 * kk ∧ i0 ≤ lv.length + 1 ∧ g = lv.length + 2 - i0 ∧ kv = .int .i64 (i0 : Int) ∧ OwnS wr0.heap.size wq nv ((upL lv).take kk) ∧ Fr [] wr0 wq)
            case atStart => exact ⟨0, 0, rfl, by omega, by omega, rfl, ⟨rfl, Or.inl ⟨rfl, rfl⟩⟩, Fr.refl _ _⟩
            case round =>
              obtain ⟨kk, i0, hik, hi0, hg3, rfl, ho, hfq⟩ := hrel
              have HG3 := Lib.hid hg3
              have HO3 := Lib.hid ho
              have HIK := Lib.hid hik
              have hku : ((upL lv).take kk).length ≤ 100000 := by rw [List.length_take, upL_length]; omega
              clear hg3 ho hik
              by_cases hlt3 : i0 < lv.length
              · have t5 : decide ((i0 : Int) < (lv.length : Int)) = true := by simp; omega
                have z0 := hfq.cell (HS.out.cell i0 hlt3) (by simp)
                have HM3 := Lib.hid (HSL.out _ (getD_mem lv i0 [] hlt3))
                have HTK : Hid ((upL lv).take (kk + 1) = (upL lv).take kk ++ [if i0 + 1 < lv.length then nodeD (lv.getD i0 []) (lv.getD (i0 + 1) []) else lv.getD i0 []]) := Lib.hid (by
                  have := HIK.out
                  rw [take_snoc' (upL lv) kk [] (by rw [upL_length]; omega), upL_at lv kk (by omega), ← HIK.out])
                have q0 : (0 : Int) ≤ (i0 : Int) := by omega
                have q1 : (i0 : Int) < (lv.length : Int) := by omega
                have y1 : IntKind.i64.wrap ((i0 : Int) + 1) = (i0 : Int) + 1 := IntWalk.i64_in _ (by omega)
                have y2 : IntKind.i64.wrap ((i0 : Int) + 2) = (i0 : Int) + 2 := IntWalk.i64_in _ (by omega)
                by_cases h2 : i0 + 1 < lv.length
                · have t6 : decide ((i0 : Int) + 1 < (lv.length : Int)) = true := by simp; omega
                  have z1 := hfq.cell (HS.out.cell (i0 + 1) h2) (by simp)
                  have HM4 := Lib.hid (HSL.out _ (getD_mem lv (i0 + 1) [] h2))
                  rw [if_pos h2] at HTK
                  generalize lv.getD i0 [] = sa at z0 HM3 HTK
                  generalize lv.getD (i0 + 1) [] = sc at z1 HM4 HTK
                  have q2 : (i0 : Int) + 1 < (lv.length : Int) := by omega
                  have q3 : (0 : Int) ≤ (i0 : Int) + 1 := by omega
                  have q4 : ((i0 : Int) + 1).toNat = i0 + 1 := by omega
                  go_wp2_with fail
                  have hS0 : wr.drew.cell? ⟨vb, vo + i0, none⟩ = some (.string ⟨sa.toArray⟩) ∧ wr.drew.cell? ⟨vb, vo + (i0 + 1), none⟩ = some (.string ⟨sc.toArray⟩) := ⟨z0, z1⟩
                  refine region_held 14 (fun W' => W'.cell? ⟨vb, vo + i0, none⟩ = some (.string ⟨sa.toArray⟩) ∧ W'.cell? ⟨vb, vo + (i0 + 1), none⟩ = some (.string ⟨sc.toArray⟩)) hmx ?_
                  change Held _ _ _ _ _ _ 15 (Array.replicate 15 false) _ _
                  refine hd_take 0 (v := u16) rfl (by kernel_rfl) (by kernel_rfl) (by kernel_rfl) rfl hS0 (fun W' hS => by first | (go_simp; done) | (go_simp; intro hix; omega)) rfl ?_
                  refine hd_take 1 (v := .slice (some ⟨vb, vo, none⟩) lv.length vcap) rfl (by kernel_rfl) (by kernel_rfl) (by kernel_rfl) rfl hS0 (fun W' hS => by first | (go_simp; done) | (go_simp; intro hix; omega)) rfl ?_
                  refine hd_take 2 (v := .int .i64 (i0 : Int)) rfl (by kernel_rfl) (by kernel_rfl) (by kernel_rfl) rfl hS0 (fun W' hS => by first | (go_simp; done) | (go_simp; intro hix; omega)) rfl ?_
                  refine hd_take 5 (v := .slice (some ⟨vb, vo, none⟩) lv.length vcap) rfl (by kernel_rfl) (by kernel_rfl) (by kernel_rfl) rfl hS0 (fun W' hS => by first | (go_simp; done) | (go_simp; intro hix; omega)) rfl ?_
                  refine hd_take 6 (v := .int .i64 (i0 : Int)) rfl (by kernel_rfl) (by kernel_rfl) (by kernel_rfl) rfl hS0 (fun W' hS => by first | (go_simp; done) | (go_simp; intro hix; omega)) rfl ?_
                  simp only [Act.put, List.setIfInBounds_toArray, List.set_cons_zero, List.set_cons_succ]
                  refine hd_take 3 (v := .pointer (some ⟨vb, vo + i0, none⟩)) rfl (by kernel_rfl) (by kernel_rfl) (by kernel_rfl) rfl hS0 (fun W' hS => by first | (go_simp; done) | (go_simp; intro hix; omega)) rfl ?_
                  refine hd_take 7 (v := .int .i64 ((i0 : Int) + 1)) rfl (by kernel_rfl) (by kernel_rfl) (by kernel_rfl) rfl hS0 (fun W' hS => by first | (go_simp; done) | (go_simp; intro hix; omega)) rfl ?_
                  simp only [Act.put, List.setIfInBounds_toArray, List.set_cons_zero, List.set_cons_succ]
                  refine hd_take 4 (v := .string ⟨sa.toArray⟩) rfl (by kernel_rfl) (by kernel_rfl) (by kernel_rfl) rfl hS0 (fun W' hS => by obtain ⟨h0, h1⟩ := hS; first | (go_simp; done) | (go_simp; intro hix; omega)) rfl ?_
                  refine hd_take 8 (v := .pointer (some ⟨vb, vo + (i0 + 1), none⟩)) rfl (by kernel_rfl) (by kernel_rfl) (by kernel_rfl) rfl hS0 (fun W' hS => by first | (go_simp; done) | (go_simp; intro hix; omega)) rfl ?_
                  simp only [Act.put, List.setIfInBounds_toArray, List.set_cons_zero, List.set_cons_succ]
                  refine hd_take 9 (v := .string ⟨sc.toArray⟩) rfl (by kernel_rfl) (by kernel_rfl) (by kernel_rfl) rfl hS0 (fun W' hS => by obtain ⟨h0, h1⟩ := hS; first | (go_simp; done) | (go_simp; intro hix; omega)) rfl ?_
                  simp only [Act.put, List.setIfInBounds_toArray, List.set_cons_zero, List.set_cons_succ]
                  have m0 : Fr [] wr wr.drew := (Fr.refl [] wr).drew
                  refine hd_one 10 (by kernel_rfl) rfl (by kernel_rfl) rfl (fun K' hK => ?_)
                  go_simp
                  have m1 : Fr [] wr ((wr.alloc (.cells #[.string ⟨#[110, 111, 100, 101]⟩, .string ⟨sa.toArray⟩, .string ⟨sc.toArray⟩] 9)).drew) := ((Fr.refl [] wr).alloc _).drew
                  have s1 : Strs ((wr.alloc (.cells #[.string ⟨#[110, 111, 100, 101]⟩, .string ⟨sa.toArray⟩, .string ⟨sc.toArray⟩] 9)).drew) (.slice (some ⟨wr.heap.size, 0, none⟩) 3 3) [nodeB, sa, sc] := strs_three (heap_drew (heap_new rfl))
                  generalize (wr.alloc (.cells #[.string ⟨#[110, 111, 100, 101]⟩, .string ⟨sa.toArray⟩, .string ⟨sc.toArray⟩] 9)).drew = wm1 at m1 s1 ⊢
                  refine hK.out _ _ (fun _ => ⟨m1.cell z0 (by simp), m1.cell z1 (by simp)⟩) ?_
                  clear hK K' hS0 m0
                  refine hd_one 11 (by kernel_rfl) rfl (by kernel_rfl) rfl (fun K' hK => ?_)
                  go_simp
                  refine (list_any _ [nodeB, sa, sc] wm1 s1 (joinL_cap3 _ _ _ nodeB_short HM3.out HM4.out) (HT.out.fr ((hfr0.trans hfq (by simp)).trans m1 (by simp)))).mono ?_
                  rintro e wm2 ⟨rfl, hbm2⟩
                  have m2 : Fr [] wr wm2 := m1.below hbm2 m1.size
                  refine hK.out _ _ (fun _ => ⟨m2.cell z0 (by simp), m2.cell z1 (by simp)⟩) ?_
                  clear hK K' hbm2 m1 s1
                  rw [show dlist [nodeB, sa, sc] = nodeD sa sc from rfl]
                  generalize nodeD sa sc = se at HTK ⊢
                  refine hd_one 12 (by kernel_rfl) rfl (by kernel_rfl) rfl (fun K' hK => ?_)
                  go_simp
                  have m3 : Fr [] wr (wm2.alloc (.cells #[.string ⟨se.toArray⟩] 9)) := m2.alloc _
                  refine hK.out _ _ (fun _ => ⟨m3.cell z0 (by simp), m3.cell z1 (by simp)⟩) ?_
                  clear hK K' m3
                  refine hd_one 13 (by kernel_rfl) rfl (by kernel_rfl) rfl (fun K' hK => ?_)
                  refine wp_appS (.tmp 112) (.tmp 124) rfl wr0.heap.size _ ((upL lv).take kk) se wr0 rfl rfl (HO3.out.fr m2 (by simp)) (hfq.trans m2 (by simp)) (Nat.le_refl _) (hfq.trans m2 (by simp)).size (by omega) ?_
                  intro v' w7 _ ho7 hf7 hg7
                  have hbw : vb ∉ u16.ownBlock.toList := by
                    intro hm
                    have h1 := (ownBlock_cells HO3.out vb (by simpa using hm)).1
                    have h2 := World.block_lt_of_cell? _ _ (HS.out.cell i0 hlt3)
                    simp only at h2
                    omega
                  refine hK.out _ _ (fun _ => ⟨hg7.cell (m2.cell z0 (by simp)) hbw, hg7.cell (m2.cell z1 (by simp)) hbw⟩) ?_
                  clear hK K' hbw
                  simp only [Act.put, List.setIfInBounds_toArray, List.set_cons_zero, List.set_cons_succ]
                  refine hd_one 14 (by kernel_rfl) rfl (by kernel_rfl) rfl (fun K' hK => ?_)
                  go_simp
                  refine hK.out _ _ (fun h => absurd rfl h) ?_
                  clear hK K'
                  refine held_done (by kernel_rfl) ?_
                  have HO4 : Hid (OwnS wr0.heap.size w7 v' ((upL lv).take (kk + 1))) := Lib.hid (by rw [HTK.out]; exact ho7)
                  clear ho7 hg7 z0 z1 hfq m2
                  go_wp2_with fail
                  go_roundg (lv.length + 2 - (i0 + 2))
                  case measure => have := HG3.out; omega
                  case rel => exact ⟨kk + 1, i0 + 2, by have := HIK.out; omega, by omega, rfl, by go_num, HO4.out, hf7⟩
                · have t6 : decide ((i0 : Int) + 1 < (lv.length : Int)) = false := by simp; omega
                  rw [if_neg h2] at HTK
                  generalize lv.getD i0 [] = sa at z0 HM3 HTK
                  go_wp2_with (at_builtin; go_loud (refine wpList_appS rfl (.tmp 126) (.tmp 131) rfl wr0.heap.size _ ((upL lv).take kk) sa wr0 rfl rfl HO3.out hfq (Nat.le_refl _) hfq.size (by omega) ?_))
                  intro v' w2' g9 c9 hv9 ho2 hf2 _
                  have HO4 : Hid (OwnS wr0.heap.size w2' v' ((upL lv).take (kk + 1))) := Lib.hid (by rw [HTK.out]; exact ho2)
                  clear ho2 z0 hfq
                  go_wp2_with fail
                  go_roundg (lv.length + 2 - (i0 + 2))
                  case measure => have := HG3.out; omega
                  case rel => exact ⟨kk + 1, i0 + 2, by have := HIK.out; omega, by omega, rfl, by go_num, HO4.out, hf2⟩
              · have t5 : decide ((i0 : Int) < (lv.length : Int)) = false := by simp; omega
                have HE3 : Hid (Strs wr u16 (upL lv)) := Lib.hid (by
                  have h1 := HO3.out.strs
                  have := HIK.out
                  rwa [List.take_of_length_le (by rw [upL_length]; omega)] at h1)
                go_wp2_with fail
                go_roundg ((upL lv).length + 1)
                case measure => have := HG.out; have := HUL.out; omega
                case rel => exact ⟨j2, upL lv, a, u, by have := HUL.out; omega, by have := HUL.out; omega, rfl, rfl, rfl, rfl, hu, HE3.out, HUS.out, HAL2.out, HFD.out, hfr0.trans hfq (by simp)⟩
        · have t1 : decide ((1 : Int) < (lv.length : Int)) = false := by simp; omega
          have HF : Hid (r = false) := Lib.hid (by rw [← HFD.out, findL_end h1])
          go_wp2_with fail
          go_ret
          exact ⟨by rw [HF.out]; rfl, hfr.toBelow (by simp)⟩
end Go.Proofs.YtmhejcndkplepaaDoor
