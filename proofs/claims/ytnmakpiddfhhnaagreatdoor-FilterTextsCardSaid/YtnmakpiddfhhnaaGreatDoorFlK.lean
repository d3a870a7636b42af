/-
  filter.Parse, where the words of the text are numerals.
-/
import Derived.Test.YtnmakpiddfhhnaaGreatDoorFlJ
namespace Go.Proofs.YtnmakpiddfhhnaaGreatDoor
open Go.RowKit

theorem wSplit_any (text : List UInt8) (w : World) (ht : text.length ≤ 1000000) (hT : TabsF w) :
    Calls Tryz.prog 29 #[.string ⟨text.toArray⟩, .string ⟨#[32]⟩] w fun e w' => e = .returned (.slice (some ⟨w.heap.size, 0, none⟩) (splitS text).length (splitS text).length) ∧ w' = w.alloc (.cells ((splitS text).map strV).toArray 9) := by
  obtain ⟨m, hm⟩ := hT.m
  refine (Tryz.strings_Split ⟨text.toArray⟩ ⟨#[32]⟩ m w (by rw [ba_size]; omega) hm (by decide)).mono ?_
  rintro e w' ⟨rfl, rfl⟩
  have h1 := split_lib text
  have h2 : ((Lib.splitB ⟨#[32]⟩ 0 (Lib.countB ⟨text.toArray⟩ ⟨#[32]⟩) ⟨text.toArray⟩).map Value.string) = (splitS text).map strV := by
    rw [← h1, List.map_map]
    refine List.map_congr_left (fun x _ => ?_)
    show _ = Value.string ⟨x.data.toList.toArray⟩
    simp
  have h3 : (Lib.countB ⟨text.toArray⟩ ⟨#[32]⟩) + 1 = (splitS text).length := by
    rw [← h1, List.length_map]
    exact (Lib.splitB_all ⟨#[32]⟩ (by decide) 0 _ _ rfl).symm
  rw [h2, h3]
  exact ⟨rfl, rfl⟩
theorem strs_map {w : World} {b : Nat} {l : List (List UInt8)} (h : w.heap[b]? = some (.cells (l.map strV).toArray 9 (0, 0))) (hl : l.length ≤ 1000000) : Strs w (.slice (some ⟨b, 0, none⟩) l.length l.length) l := by
  refine Or.inr ⟨b, 0, l.length, rfl, Nat.le_refl _, by omega, lt_of_block h, fun i hi => ?_⟩
  rw [row_cell h, Nat.zero_add, List.getElem?_toArray, List.getElem?_map, List.getElem?_eq_getElem hi, List.getD_eq_getElem?_getD, List.getElem?_eq_getElem hi]
  rfl
/-- The filter that numerals stand for. -/
def numF (w0 w1 : List UInt8) (ws : List (List UInt8)) : Flt := ⟨(dV w0 : Int), (dV w1 : Int), ws.map uV⟩
/-- What Parse returns. -/
def ParsePost (w : World) (o : Option Flt) (e : Ending) (w' : World) : Prop :=
  (match o with
   | some f => ∃ wv, e = .returned (.tuple #[.agg #[.int .i64 f.bits, .int .i64 f.hashes, wv], .int .i64 0]) ∧ OwnW w.heap.size w' wv f.words
   | none => e = .returned (.tuple #[zeroF, .int .i64 4])) ∧ Below w.heap.size w w'

set_option maxRecDepth 100000 in
set_option maxHeartbeats 8000000 in
theorem parseN_any (text w0 w1 : List UInt8) (ws : List (List UInt8)) (w : World) (ht : text.length ≤ 100000) (hsp : splitS text = w0 :: w1 :: ws) (hws : ws ≠ [])
    (h0 : 1 ≤ w0.length ∧ w0.length ≤ 18 ∧ w0.all decA = true) (h1 : 1 ≤ w1.length ∧ w1.length ≤ 18 ∧ w1.all decA = true) (h2 : ∀ x ∈ ws, x.length = 16 ∧ x.all hexA = true) (hT : TabsF w) :
    Calls Tryz.prog 11 #[.string ⟨text.toArray⟩] w (ParsePost w (if textF (numF w0 w1 ws) = text ∧ text ≠ [] then some (numF w0 w1 ws) else none)) := by
  obtain ⟨o, eo⟩ : ∃ o, o = (if textF (numF w0 w1 ws) = text ∧ text ≠ [] then some (numF w0 w1 ws) else none) := ⟨_, rfl⟩
  rw [← eo]
  have EO := Lib.hid eo
  have HT := Lib.hid hT
  have H2 := Lib.hid h2
  have hnl : ws.length ≤ 100000 := by
    have := splitS_len text
    rw [hsp] at this
    simp at this
    omega
  have hw1 : 1 ≤ ws.length := by
    cases ws with
    | nil => exact absurd rfl hws
    | cons => simp
  obtain ⟨W1, hW1⟩ : ∃ W1, W1 = w.alloc (.cells #[.int .i64 0, .int .i64 0, .slice none 0 0] 24) := ⟨_, rfl⟩
  obtain ⟨rb, erb⟩ : ∃ rb, rb = w.heap.size := ⟨_, rfl⟩
  have hf1 : Fr [] w W1 := by rw [hW1]; exact (Fr.refl [] w).alloc _
  have hr1 : W1.heap[rb]? = some (.cells #[.int .i64 0, .int .i64 0, .slice none 0 0] 24 (0, 0)) := by rw [hW1, erb]; exact heap_new rfl
  have hsplit := wSplit_any text W1 (by omega) (hT.fr hf1)
  rw [hsp] at hsplit
  have HSPL := Lib.hid hsplit
  have HSP := Lib.hid hsp
  clear eo hT h2 hws hsp hsplit
  go_enter Tryz.func11, Tryz.ntmps11
  go_wp2_with fail
  rw [← hW1, ← erb]
  refine HSPL.out.mono ?_
  rintro e w' ⟨rfl, hw'⟩
  have ERB := Lib.hid erb
  obtain ⟨sb, esb⟩ : ∃ sb, sb = W1.heap.size := ⟨_, rfl⟩
  have hf2 : Fr [] W1 w' := by rw [hw']; exact (Fr.refl [] W1).alloc _
  have hs2 : w'.heap[sb]? = some (.cells (((w0 :: w1 :: ws).map strV).toArray) 9 (0, 0)) := by rw [hw', esb]; exact heap_new rfl
  rw [← esb]
  clear hW1 erb hw' esb
  have hst := strs_map hs2 (by simp; omega)
  have hn : (w0 :: w1 :: ws).length = ws.length + 2 := rfl
  rw [hn] at hst ⊢
  have t1 : decide (((ws.length + 2 : Nat) : Int) < 2) = false := decide_eq_false (by omega)
  have k0 := hst.cellN hn 0 (by omega)
  have k1 := hst.cellN hn 1 (by omega)
  simp at k0 k1
  have HST := Lib.hid hst
  have k00 := ((Fr.refl [] w').alloc (.cells #[.int .i64 0, .int .i64 0, .slice none 0 0] 24)).cell k0 (by simp)
  clear hn hst k0
  go_wp2_with fail
  obtain ⟨W3, hW3⟩ : ∃ W3, W3 = w'.alloc (.cells #[.int .i64 0, .int .i64 0, .slice none 0 0] 24) := ⟨_, rfl⟩
  obtain ⟨bf, ebf⟩ : ∃ bf, bf = w'.heap.size := ⟨_, rfl⟩
  have hf3 : Fr [] w' W3 := by rw [hW3]; exact (Fr.refl [] w').alloc _
  have hb3 : W3.heap[bf]? = some (.cells #[.int .i64 0, .int .i64 0, .slice none 0 0] 24 (0, 0)) := by rw [hW3, ebf]; exact heap_new rfl
  have hW3s : W3.heap.size = bf + 1 := by rw [hW3, ebf]; simp
  have hsbf : sb < bf := by rw [ebf]; exact lt_of_block hs2
  rw [← hW3, ← ebf]
  have hrb := lt_of_block hr1
  have hbf1 : W1.heap.size ≤ bf := by rw [ebf]; exact hf2.size
  clear hW3 ebf k00
  have hw3 : Fr [] w W3 := (hf1.trans hf2 (by simp)).trans hf3 (by simp)
  refine (atoiS_any w0 W3 h0.1 h0.2.1 h0.2.2).mono ?_
  rintro e w4 ⟨rfl, hb4⟩
  have g4 : Fr [] W3 w4 := Fr.ofBelow hb4
  have hb5 := g4.at hb3 (by simp)
  have x0 := row_cell hb5 0
  simp at x0
  have y0 := row_free hb5 0
  have hd0 : dV w0 < 1000000000000000000 := by
    have := dV_lt w0 h0.2.2 w0.length (Nat.le_refl _)
    rw [List.take_length] at this
    exact Nat.lt_of_lt_of_le this (Nat.le_trans (Nat.pow_le_pow_right (by decide) h0.2.1) (by decide))
  have hd1 : dV w1 < 1000000000000000000 := by
    have := dV_lt w1 h1.2.2 w1.length (Nat.le_refl _)
    rw [List.take_length] at this
    exact Nat.lt_of_lt_of_le this (Nat.le_trans (Nat.pow_le_pow_right (by decide) h1.2.1) (by decide))
  have hk1 := (hf3.trans g4 (by simp)).cell k1 (by simp)
  obtain ⟨D0, hD0⟩ : ∃ D0, D0 = dV w0 := ⟨_, rfl⟩
  rw [← hD0] at hd0 ⊢
  have HD0 := Lib.hid hD0
  have hr6 := row_set hb5 0 (.int .i64 (D0 : Int))
  have g6 : Fr [bf] W3 (w4.setCell ⟨bf, 0, none⟩ (.int .i64 (D0 : Int))) := (g4.mono (by simp)).setCell _ _ (by simp)
  have hk6 := ((Fr.refl [bf] w4).setCell ⟨bf, 0, none⟩ (.int .i64 (D0 : Int)) (by simp)).cell hk1 (by simp; omega)
  have HR6 := Lib.hid hr6
  have HG6 := Lib.hid g6
  clear hb4 hb5 hk1 k1 hD0 hr6 g6 g4
  go_wp2_with fail
  generalize w4.setCell ⟨bf, 0, none⟩ (.int .i64 (D0 : Int)) = w6 at HR6 HG6 hk6 ⊢
  refine (atoiS_any w1 w6 h1.1 h1.2.1 h1.2.2).mono ?_
  rintro e w7 ⟨rfl, hb7⟩
  have g7 : Fr [] w6 w7 := Fr.ofBelow hb7
  have hb8 := g7.at HR6.out (by simp)
  have x1 := row_cell hb8 1
  simp at x1
  have y1 := row_free hb8 1
  obtain ⟨D1, hD1⟩ : ∃ D1, D1 = dV w1 := ⟨_, rfl⟩
  rw [← hD1] at hd1 ⊢
  have HD1 := Lib.hid hD1
  have hr9 := row_set hb8 1 (.int .i64 (D1 : Int))
  simp at hr9
  have g9 : Fr [bf] W3 (w7.setCell ⟨bf, 1, none⟩ (.int .i64 (D1 : Int))) := (HG6.out.trans g7 (by simp)).setCell _ _ (by simp)
  have HR9 := Lib.hid hr9
  have HG9 := Lib.hid g9
  have hc1 : ¬ (ws.length + 2 = 2) := by omega
  have hc2 : (2 : Int) ≤ ((ws.length : Int) + 2) := by omega
  clear hb7 hb8 hk6 hD1 hr9 g9 g7 x0 y0
  go_wp2_with fail
  generalize w7.setCell ⟨bf, 1, none⟩ (.int .i64 (D1 : Int)) = w9 at HR9 HG9 ⊢
  have HST9 : Hid (Strs w9 (.slice (some ⟨sb, 0, none⟩) (ws.length + 2) (ws.length + 2)) (w0 :: w1 :: ws)) := Lib.hid ((HST.out.fr0 hf3).fr HG9.out (fun k hk => by
    have e1 : sb = k := by simpa [Value.ownBlock] using hk
    simp; omega))
  have hw9 : Fr [] w w9 := hw3.trans HG9.out (fun k hk => Or.inr (by have := hf1.size; simp at hk; omega))
  have HDD : Hid (dV w0 = D0 ∧ dV w1 = D1) := Lib.hid ⟨HD0.out.symm, HD1.out.symm⟩
  have hszw : w.heap.size ≤ W3.heap.size := hw3.size
  have hsz9 : W3.heap.size ≤ w9.heap.size := HG9.out.size
  clear HR6 HG6 HD0 HD1 x1 y1 HST h0 h1
  go_loopg [36] ws.length (fun gh i wr => ∃ (k : Nat) (wv : Value), k ≤ ws.length ∧ gh = ws.length - k ∧ i = .int .i64 (k : Int) ∧ wr.heap[bf]? = some (.cells #[.int .i64 (D0 : Int), .int .i64 (D1 : Int), wv] 24 (0, 0)) ∧ OwnW w9.heap.size wr wv ((ws.take k).map uV) ∧ Fr [bf] w9 wr)
  case atStart => exact ⟨0, _, by omega, by omega, rfl, HR9.out, ⟨rfl, Or.inl ⟨rfl, rfl⟩⟩, Fr.refl _ _⟩
  case round =>
    obtain ⟨k, wv, hk, hgh, rfl, hb, ho, hfr⟩ := hrel
    have HG := Lib.hid hgh
    have HO := Lib.hid ho
    clear hgh ho HR9
    have hwr : Fr [] w wr := hw9.trans hfr (fun k hk => Or.inr (by have := hf1.size; simp at hk; omega))
    by_cases hlt : k < ws.length
    · have t2 : decide ((k : Int) < (ws.length : Int)) = true := by simp; omega
      have hsr := HST9.out.fr hfr (fun k hk => by
        have e1 : sb = k := by simpa [Value.ownBlock] using hk
        simp; omega)
      have ck := hsr.cellN rfl (k + 2) (by omega)
      rw [List.getD_cons_succ, List.getD_cons_succ, Nat.zero_add, Nat.add_comm k 2] at ck
      have hx := H2.out _ (getD_mem ws k [] hlt)
      have HSN : Hid ((ws.take (k + 1)).map uV = (ws.take k).map uV ++ [uV (ws.getD k [])]) := Lib.hid (by rw [take_snoc' ws k [] hlt, List.map_append]; rfl)
      generalize ws.getD k [] = x at ck hx HSN
      have i0 : (0 : Int) ≤ (k : Int) := by omega
      have i1 : (k : Int) < (ws.length : Int) := by omega
      have HB := Lib.hid hb
      clear hb hsr
      go_wp2_with fail
      refine (puS_any x wr hx.1 hx.2).mono ?_
      rintro e w10 ⟨rfl, hb10⟩
      have g10 : Fr [] wr w10 := Fr.ofBelow hb10
      have hb11 := g10.at HB.out (by simp)
      have x2 := row_cell hb11 2
      simp at x2
      have y2 := row_free hb11 2
      generalize uV x = X at HSN ⊢
      have HO10 := HO.out.fr g10 (by simp)
      have hs10 : w9.heap.size ≤ w10.heap.size := Nat.le_trans hfr.size g10.size
      have hl10 : ((ws.take k).map uV).length < 1000000 := by rw [List.length_map, List.length_take]; omega
      clear hb10 ck
      go_wp2_with (at_builtin; go_loud (refine wpList_appW rfl (.tmp 46) (.tmp 48) rfl w9.heap.size wv ((ws.take k).map uV) X w rfl rfl HO10 (hwr.trans g10 (by simp)) (Nat.le_trans hszw hsz9) hs10 hl10 ?_))
      intro v12 w12 ho12 hf12 hg12
      obtain ⟨g12, n12, c12, rfl⟩ : ∃ g n c, v12 = .slice (some ⟨g, 0, none⟩) n c := by
        rcases ho12.form with ⟨_, h0⟩ | ⟨g, c, _, h0, _⟩
        · simp at h0
        · exact ⟨g, _, c, h0⟩
      have hbn : bf ∉ wv.ownBlock.toList := fun hm => by
        have := (ownBlock_cells HO10 bf (by simpa using hm)).1
        omega
      have hb12 := hg12.at hb11 hbn
      have x2 := row_cell hb12 2
      simp at x2
      have y2 := row_free hb12 2
      have HR13 := Lib.hid (row_set hb12 2 (.slice (some ⟨g12, 0, none⟩) n12 c12))
      have g13 : Fr [bf] w9 (w12.setCell ⟨bf, 2, none⟩ (.slice (some ⟨g12, 0, none⟩) n12 c12)) := by
        have h1 : Fr [bf] w9 w12 := (hfr.trans (g10.mono (X := []) (Y := [bf]) (by simp)) (by simp)).trans hg12 (fun k hk => Or.inr (ownBlock_cells HO10 k (by simpa using hk)).1)
        exact h1.setCell _ _ (by simp)
      have HG13 := Lib.hid g13
      have HO13 := Lib.hid (ho12.fr ((Fr.refl [bf] w12).setCell ⟨bf, 2, none⟩ (.slice (some ⟨g12, 0, none⟩) n12 c12) (by simp)) (fun k hk => by
        have := (ownBlock_cells ho12 k hk).1
        simp; omega))
      clear ho12 hf12 hg12 hb12 hb11 g13 g10 HO10
      go_wp2_with fail
      go_roundg (ws.length - (k + 1))
      case measure => have := HG.out; omega
      case rel => exact ⟨k + 1, .slice (some ⟨g12, 0, none⟩) n12 c12, by omega, rfl, by go_num, HR13.out, by rw [HSN.out, List.map_take]; exact HO13.out, HG13.out⟩
    · obtain rfl : k = ws.length := by omega
      have t2 : decide ((ws.length : Int) < (ws.length : Int)) = false := by simp
      have HTA : Hid (ws.take ws.length = ws) := Lib.hid (List.take_length ..)
      rw [HTA.out] at HO
      obtain ⟨gW, nW, cW, rfl⟩ : ∃ g n c, wv = .slice (some ⟨g, 0, none⟩) n c := by
        rcases HO.out.form with ⟨_, h0⟩ | ⟨g, c, _, h0, _⟩
        · have h3 : (ws.map uV).length = 0 := by rw [h0]; rfl
          rw [List.length_map] at h3
          omega
        · exact ⟨g, _, c, h0⟩
      have x0 := row_cell hb 0
      have x1 := row_cell hb 1
      have x2 := row_cell hb 2
      simp at x0 x1 x2
      have HB := Lib.hid hb
      have HF : Hid (numF w0 w1 ws = ⟨(D0 : Int), (D1 : Int), ws.map uV⟩) := Lib.hid (by unfold numF; rw [HDD.out.1, HDD.out.2])
      rw [HF.out] at EO
      have hu64 : W64 (ws.map uV) := by
        intro y hy
        obtain ⟨x, hx, rfl⟩ := List.mem_map.1 hy
        have hxx := H2.out x hx
        have h1 := uV_lt x hxx.2 x.length (Nat.le_refl _)
        rw [List.take_length, hxx.1] at h1
        exact Nat.lt_of_lt_of_le h1 (by decide)
      have hwl : (ws.map uV).length = ws.length := List.length_map ..
      have htext := ftext_any (.agg #[.int .i64 (D0 : Int), .int .i64 (D1 : Int), (.slice (some ⟨gW, 0, none⟩) nW cW)]) ⟨(D0 : Int), (D1 : Int), ws.map uV⟩ wr ⟨_, rfl, HO.out.ws⟩ hu64 (HT.out.fr hwr)
      have HTX := Lib.hid htext
      clear htext hb HF hu64 hwl
      go_wp2_with fail
      refine HTX.out.mono ?_
      rintro e w11 ⟨rfl, hb11⟩
      obtain ⟨r, hr⟩ : ∃ r, r = textF ⟨(D0 : Int), (D1 : Int), ws.map uV⟩ := ⟨_, rfl⟩
      rw [← hr] at EO ⊢
      have g11 : Fr [] wr w11 := Fr.ofBelow hb11
      have hb12 := g11.at HB.out (by simp)
      have hrr := g11.at (hfr.at (HG9.out.at (hf3.at (hf2.at hr1 (by simp)) (by simp)) (by simp; omega)) (by simp; omega)) (by simp)
      have hw11 := hwr.trans g11 (by simp)
      have HO11 := Lib.hid (HO.out.fr g11 (by simp))
      have z0 := row_cell hrr 0
      have z1 := row_cell hrr 1
      have z2 := row_cell hrr 2
      simp at z0 z1 z2
      have y0 := row_free hrr 0
      have y1 := row_free hrr 1
      have y2 := row_free hrr 2
      clear hb11 x0 x1 x2 hr
      have q0 := row_cell hb12 0
      have q1 := row_cell hb12 1
      have q2 := row_cell hb12 2
      simp at q0 q1 q2
      by_cases hok : r = text ∧ text ≠ []
      · rw [if_pos hok] at EO
        obtain ⟨rfl, hne⟩ := hok
        have u1 : (r == []) = false := by rw [beq_eq_false_iff_ne]; exact hne
        have u2 : (r != r) = false := by simp
        have u3 : (r == r) = true := by simp
        have hX := hw11.store3 rb (by right; rw [ERB.out]; exact Nat.le_refl _) (.int .i64 (D0 : Int)) (.int .i64 (D1 : Int)) (.slice (some ⟨gW, 0, none⟩) nW cW)
        have HX := Lib.hid hX
        have HRX := Lib.hid (row_set (row_set (row_set hrr 0 (.int .i64 (D0 : Int))) 1 (.int .i64 (D1 : Int))) 2 (.slice (some ⟨gW, 0, none⟩) nW cW))
        have HOX : Hid (OwnW w.heap.size (((w11.setCell ⟨rb, 0, none⟩ (.int .i64 (D0 : Int))).setCell ⟨rb, 1, none⟩ (.int .i64 (D1 : Int))).setCell ⟨rb, 2, none⟩ (.slice (some ⟨gW, 0, none⟩) nW cW)) (.slice (some ⟨gW, 0, none⟩) nW cW) (ws.map uV)) := Lib.hid (by
          have h2 := HO11.out.fr ((Fr.refl [rb] w11).store3 rb (by simp) (.int .i64 (D0 : Int)) (.int .i64 (D1 : Int)) (.slice (some ⟨gW, 0, none⟩) nW cW)) (fun k hk hm => by
            have e1 := (ownBlock_cells HO11.out k hk).1
            have e2 := List.mem_singleton.1 hm
            omega)
          rcases h2.form with ⟨h0, h3⟩ | ⟨g', cap', cur, h0, hb, hgg, h3, h4, h5, h6⟩
          · exact ⟨h2.1, Or.inl ⟨h0, by rw [h3]; rfl⟩⟩
          · exact ⟨h2.1, Or.inr ⟨g', cap', cur, h0, by omega, hgg, h3, h4, by simpa using h5, by simpa using h6⟩⟩)
        clear hX hne
        go_wp2_with fail
        have m0 := row_cell HRX.out 0
        have m1 := row_cell HRX.out 1
        have m2 := row_cell HRX.out 2
        simp at m0 m1 m2
        refine bodyPost_ret (v := .tuple #[.agg #[.int .i64 (D0 : Int), .int .i64 (D1 : Int), (.slice (some ⟨gW, 0, none⟩) nW cW)], .int .i64 0]) ?_ rfl ⟨?_, HX.out.toBelow (by simp)⟩
        · rw [results_cell_tmp rfl]
          go_simp
        · rw [EO.out]
          exact ⟨_, rfl, HOX.out⟩
      · rw [if_neg hok] at EO
        have hX := hw11.store3 rb (by right; rw [ERB.out]; exact Nat.le_refl _) (.int .i64 0) (.int .i64 0) (.slice none 0 0)
        have HX := Lib.hid hX
        have HRX := Lib.hid (row_set (row_set (row_set hrr 0 (.int .i64 0)) 1 (.int .i64 0)) 2 (.slice none 0 0))
        have m0 := row_cell HRX.out 0
        have m1 := row_cell HRX.out 1
        have m2 := row_cell HRX.out 2
        simp at m0 m1 m2
        have HM : Hid (_ ∧ _ ∧ _) := Lib.hid ⟨m0, m1, m2⟩
        clear hX m0 m1 m2
        by_cases hn : r = []
        · have u1 : (r == []) = true := by rw [beq_iff_eq]; exact hn
          clear hn hok
          go_wp2_with fail
          obtain ⟨m0, m1, m2⟩ := HM.out
          refine bodyPost_ret (v := .tuple #[zeroF, .int .i64 4]) ?_ rfl ⟨?_, HX.out.toBelow (by simp)⟩
          · unfold zeroF
            rw [results_cell_tmp rfl]
            go_simp
          · rw [EO.out]
        · have u1 : (r == []) = false := by rw [beq_eq_false_iff_ne]; exact hn
          have u2 : (r != text) = true := by
            rw [bne_iff_ne]
            intro e
            exact hok ⟨e, by rw [← e]; exact hn⟩
          have u3 : (r == text) = false := by
            rw [beq_eq_false_iff_ne]
            intro e
            exact hok ⟨e, by rw [← e]; exact hn⟩
          clear hn hok
          go_wp2_with fail
          obtain ⟨m0, m1, m2⟩ := HM.out
          refine bodyPost_ret (v := .tuple #[zeroF, .int .i64 4]) ?_ rfl ⟨?_, HX.out.toBelow (by simp)⟩
          · unfold zeroF
            rw [results_cell_tmp rfl]
            go_simp
          · rw [EO.out]
end Go.Proofs.YtnmakpiddfhhnaaGreatDoor
