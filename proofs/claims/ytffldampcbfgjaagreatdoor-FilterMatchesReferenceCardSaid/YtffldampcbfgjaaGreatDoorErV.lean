/-
  The variables ErrSyntax and ErrRange hold some error.
  filter.Parse, where the text is the text of no filter.
-/
import Derived.Test.YtffldampcbfgjaaGreatDoorRep
import Derived.Test.YtffldampcbfgjaaGreatDoorErC
import Derived.Test.YtffldampcbfgjaaGreatDoorFlJ
namespace Go.Proofs.YtffldampcbfgjaaGreatDoor
open Go.RowKit
set_option maxRecDepth 100000

structure TabsG (w : World) : Prop where
  f : TabsF w
  s : ErrCell w 0
  r : ErrCell w 1
theorem TabsG.fr {w w' : World} (h : TabsG w) (hf : Fr [] w w') : TabsG w' := ⟨h.f.fr hf, h.s.fr hf, h.r.fr hf⟩
theorem tabsG_of {w : World} {d1 d2 : DataW Unit} (hT : TabsF w) (h1 : Lib.VarReads Tryz.prog w "strconv.ErrSyntax" d1) (h2 : Lib.VarReads Tryz.prog w "strconv.ErrRange" d2) : TabsG w :=
  ⟨hT, errCell_of_reads (by kernel_rfl) (by kernel_rfl) h1, errCell_of_reads (by kernel_rfl) (by kernel_rfl) h2⟩

/-- strconv.Atoi of any string: some number, some error. -/
theorem atoiX_any (l : List UInt8) (w : World) (hl : l.length ≤ 1000000) (hT : TabsG w) :
    Calls Tryz.prog 49 #[.string ⟨l.toArray⟩] w fun e w' => ∃ (n : Int) (ev : Value), e = .returned (.tuple #[.int .i64 n, ev]) ∧ Below w.heap.size w w' := by
  have hs : (ByteArray.mk l.toArray).size ≤ 281474976710656 := by rw [ba_size]; omega
  cases h : Lib.atoiAll (ByteArray.mk l.toArray).data.toList with
  | ok v =>
    refine (Tryz.strconv_Atoi_ok _ (Nat.le_trans hs (by decide)) v h w).mono ?_
    rintro e w' ⟨rfl, rfl | ⟨t, rfl⟩⟩
    · exact ⟨v, _, rfl, Below.refl _ _⟩
    · exact ⟨v, _, rfl, Lib.bytesWorld_below _ _ _⟩
  | range =>
    obtain ⟨ev, h1, h2⟩ := hT.r
    refine (Tryz.strconv_Atoi_range _ hs h ev w h1 h2).mono ?_
    rintro e w' ⟨N, rfl, _, _, hb⟩
    exact ⟨_, _, rfl, hb⟩
  | _ =>
    obtain ⟨ev, h1, h2⟩ := hT.s
    refine (Any.strconv_Atoi_syntax Tryz.laysC172 _ hs h ev w h1 h2).mono ?_
    rintro e w' ⟨N, rfl, _, _, hb⟩
    exact ⟨_, _, rfl, hb⟩
/-- strconv.ParseUint (base 16) of any string: some number, some error. -/
theorem puXS_any (l : List UInt8) (w : World) (hl : l.length ≤ 1000000) (hT : TabsG w) :
    Calls Tryz.prog 50 #[.string ⟨l.toArray⟩, .int .i64 16, .int .i64 64] w fun e w' => ∃ (m : Nat) (ev : Value), m < 18446744073709551616 ∧ e = .returned (.tuple #[.int .u64 (m : Int), ev]) ∧ Below w.heap.size w w' := by
  have hs : (ByteArray.mk l.toArray).size ≤ 281474976710656 := by rw [ba_size]; omega
  have h0 := puX_any l w hl
  clear hl
  have HT := Lib.hid hT
  go_enter Tryz.func50, Tryz.ntmps50
  go_wp2_with fail
  refine h0.mono ?_
  rintro e w1 ⟨m, ev, hm, rfl, hev, hb1⟩
  rcases hev with rfl | ⟨k, rfl | rfl, rfl⟩
  · go_wp2_with fail
    go_ret2
    exact ⟨m, _, hm, rfl, hb1⟩
  · obtain ⟨ev, h1, h2⟩ := (HT.out.fr (Fr.ofBelow hb1)).r
    go_wp2_with fail
    refine (Tryz.strconv_toError_range _ _ _ _ ev w1 hs h1 h2).mono ?_
    rintro e w2 ⟨N, rfl, _, _, hb2⟩
    have hf := ((Fr.ofBelow (X := []) hb1).below hb2 (Fr.ofBelow (X := []) hb1).size).toBelow (by simp)
    clear h1 h2 hb1 hb2
    go_wp2_with fail
    go_ret2
    exact ⟨m, _, hm, rfl, hf⟩
  · obtain ⟨ev, h1, h2⟩ := (HT.out.fr (Fr.ofBelow hb1)).s
    go_wp2_with fail
    refine (Tryz.strconv_toError_syntax _ _ _ _ ev w1 hs h1 h2).mono ?_
    rintro e w2 ⟨N, rfl, _, _, hb2⟩
    have hf := ((Fr.ofBelow (X := []) hb1).below hb2 (Fr.ofBelow (X := []) hb1).size).toBelow (by simp)
    clear h1 h2 hb1 hb2
    go_wp2_with fail
    go_ret2
    exact ⟨m, _, hm, rfl, hf⟩
end Go.Proofs.YtffldampcbfgjaaGreatDoor
namespace Go.Proofs.YtffldampcbfgjaaGreatDoor
open Go.RowKit

set_option maxRecDepth 100000 in
set_option maxHeartbeats 8000000 in
theorem parseNo_any (text w0 w1 : List UInt8) (ws : List (List UInt8)) (w : World) (ht : text.length ≤ 100000) (hsp : splitS text = w0 :: w1 :: ws) (hws : ws ≠ [])
    (hno : ∀ f, ¬ IsTextF text f) (hT : TabsG w) :
    Calls Tryz.prog 17 #[.string ⟨text.toArray⟩] w (ParsePost w none) := by
  obtain ⟨o, eo⟩ : ∃ o : Option Flt, o = none := ⟨_, rfl⟩
  rw [← eo]
  have EO := Lib.hid eo
  have HT := Lib.hid hT
  have HNO := Lib.hid hno
  have hall : ∀ x ∈ splitS text, x.length ≤ 1000000 := fun x hx => Nat.le_trans (splitS_short text x hx) (by omega)
  rw [hsp] at hall
  have hl0 : w0.length ≤ 1000000 := hall w0 (by simp)
  have hl1 : w1.length ≤ 1000000 := hall w1 (by simp)
  have H2 : Hid (∀ x ∈ ws, x.length ≤ 1000000) := Lib.hid (fun x hx => hall x (by simp [hx]))
  clear hall hno
  have hnl : ws.length ≤ 100000 := by
    have := splitS_len text
    rw [hsp] at this
    simp at this
    omega
  have hw1 : 1 ≤ ws.length := by
    cases ws with
    | nil => exact absurd rfl hws
    | cons => simp
  obtain ⟨W1, hW1⟩ : ∃ W1, W1 = w.alloc (.cells #[.int .i64 0, .int .i64 0, .slice none 0 0] 25) := ⟨_, rfl⟩
  obtain ⟨rb, erb⟩ : ∃ rb, rb = w.heap.size := ⟨_, rfl⟩
  have hf1 : Fr [] w W1 := by rw [hW1]; exact (Fr.refl [] w).alloc _
  have hr1 : W1.heap[rb]? = some (.cells #[.int .i64 0, .int .i64 0, .slice none 0 0] 25 (0, 0)) := by rw [hW1, erb]; exact heap_new rfl
  have hsplit := wSplit_any text W1 (by omega) (hT.fr hf1).f
  rw [hsp] at hsplit
  have HSPL := Lib.hid hsplit
  have HSP := Lib.hid hsp
  clear eo hT hws hsp hsplit
  go_enter Tryz.func17, Tryz.ntmps17
  go_wp2_with fail
  rw [← hW1, ← erb]
  refine HSPL.out.mono ?_
  rintro e w' ⟨rfl, hw'⟩
  have ERB := Lib.hid erb
  obtain ⟨sb, esb⟩ : ∃ sb, sb = W1.heap.size := ⟨_, rfl⟩
  have hf2 : Fr [] W1 w' := by rw [hw']; exact (Fr.refl [] W1).alloc _
  have hs2 : w'.heap[sb]? = some (.cells (((w0 :: w1 :: ws).map strV).toArray) 9 (0, 0)) := by rw [hw', esb]; exact heap_new rfl
  rw [← esb]
  clear hW1 erb hw' esb
  have hst := strs_map hs2 (by simp; omega)
  have hn : (w0 :: w1 :: ws).length = ws.length + 2 := rfl
  rw [hn] at hst ⊢
  have t1 : decide (((ws.length + 2 : Nat) : Int) < 2) = false := decide_eq_false (by omega)
  have k0 := hst.cellN hn 0 (by omega)
  have k1 := hst.cellN hn 1 (by omega)
  simp at k0 k1
  have HST := Lib.hid hst
  have k00 := ((Fr.refl [] w').alloc (.cells #[.int .i64 0, .int .i64 0, .slice none 0 0] 25)).cell k0 (by simp)
  clear hn hst k0
  go_wp2_with fail
  obtain ⟨W3, hW3⟩ : ∃ W3, W3 = w'.alloc (.cells #[.int .i64 0, .int .i64 0, .slice none 0 0] 25) := ⟨_, rfl⟩
  obtain ⟨bf, ebf⟩ : ∃ bf, bf = w'.heap.size := ⟨_, rfl⟩
  have hf3 : Fr [] w' W3 := by rw [hW3]; exact (Fr.refl [] w').alloc _
  have hb3 : W3.heap[bf]? = some (.cells #[.int .i64 0, .int .i64 0, .slice none 0 0] 25 (0, 0)) := by rw [hW3, ebf]; exact heap_new rfl
  have hW3s : W3.heap.size = bf + 1 := by rw [hW3, ebf]; simp
  have hsbf : sb < bf := by rw [ebf]; exact lt_of_block hs2
  rw [← hW3, ← ebf]
  have hrb := lt_of_block hr1
  have hbf1 : W1.heap.size ≤ bf := by rw [ebf]; exact hf2.size
  clear hW3 ebf k00
  have hw3 : Fr [] w W3 := (hf1.trans hf2 (by simp)).trans hf3 (by simp)
  refine (atoiX_any w0 W3 hl0 (HT.out.fr hw3)).mono ?_
  rintro e w4 ⟨D0, ev0, rfl, hb4⟩
  have g4 : Fr [] W3 w4 := Fr.ofBelow hb4
  have hb5 := g4.at hb3 (by simp)
  have x0 := row_cell hb5 0
  simp at x0
  have y0 := row_free hb5 0
  have hk1 := (hf3.trans g4 (by simp)).cell k1 (by simp)
  have hr6 := row_set hb5 0 (.int .i64 D0)
  have g6 : Fr [bf] W3 (w4.setCell ⟨bf, 0, none⟩ (.int .i64 D0)) := (g4.mono (by simp)).setCell _ _ (by simp)
  have hk6 := ((Fr.refl [bf] w4).setCell ⟨bf, 0, none⟩ (.int .i64 D0) (by simp)).cell hk1 (by simp; omega)
  have HR6 := Lib.hid hr6
  have HG6 := Lib.hid g6
  clear hb4 hb5 hk1 k1 hr6 g6 g4
  go_wp2_with fail
  generalize w4.setCell ⟨bf, 0, none⟩ (.int .i64 D0) = w6 at HR6 HG6 hk6 ⊢
  have hw6 : Fr [] w w6 := hw3.trans HG6.out (fun k hk => Or.inr (by have := hf1.size; simp at hk; omega))
  refine (atoiX_any w1 w6 hl1 (HT.out.fr hw6)).mono ?_
  rintro e w7 ⟨D1, ev1, rfl, hb7⟩
  have g7 : Fr [] w6 w7 := Fr.ofBelow hb7
  have hb8 := g7.at HR6.out (by simp)
  have x1 := row_cell hb8 1
  simp at x1
  have y1 := row_free hb8 1
  have hr9 := row_set hb8 1 (.int .i64 D1)
  simp at hr9
  have g9 : Fr [bf] W3 (w7.setCell ⟨bf, 1, none⟩ (.int .i64 D1)) := (HG6.out.trans g7 (by simp)).setCell _ _ (by simp)
  have HR9 := Lib.hid hr9
  have HG9 := Lib.hid g9
  have hc1 : ¬ (ws.length + 2 = 2) := by omega
  have hc2 : (2 : Int) ≤ ((ws.length : Int) + 2) := by omega
  clear hb7 hb8 hk6 hr9 g9 g7 x0 y0 hw6
  go_wp2_with fail
  generalize w7.setCell ⟨bf, 1, none⟩ (.int .i64 D1) = w9 at HR9 HG9 ⊢
  have HST9 : Hid (Strs w9 (.slice (some ⟨sb, 0, none⟩) (ws.length + 2) (ws.length + 2)) (w0 :: w1 :: ws)) := Lib.hid ((HST.out.fr0 hf3).fr HG9.out (fun k hk => by
    have e1 : sb = k := by simpa [Value.ownBlock] using hk
    simp; omega))
  have hw9 : Fr [] w w9 := hw3.trans HG9.out (fun k hk => Or.inr (by have := hf1.size; simp at hk; omega))
  have hszw : w.heap.size ≤ W3.heap.size := hw3.size
  have hsz9 : W3.heap.size ≤ w9.heap.size := HG9.out.size
  clear HR6 HG6 x1 y1 HST hl0 hl1
  go_loopg [36] ws.length (fun gh i wr => ∃ (k : Nat) (wv : Value) (acc : List Nat), k ≤ ws.length ∧ gh = ws.length - k ∧ i = .int .i64 (k : Int) ∧ wr.heap[bf]? = some (.cells #[.int .i64 D0, .int .i64 D1, wv] 25 (0, 0)) ∧ W64 acc ∧ acc.length = k ∧ OwnW w9.heap.size wr wv acc ∧ Fr [bf] w9 wr)
  case atStart => exact ⟨0, _, [], by omega, by omega, rfl, HR9.out, (fun x hx => by cases hx), rfl, ⟨rfl, Or.inl ⟨rfl, rfl⟩⟩, Fr.refl _ _⟩
  case round =>
    obtain ⟨k, wv, acc, hk, hgh, rfl, hb, ha64, hak, ho, hfr⟩ := hrel
    have HAK := Lib.hid hak
    have HA64 := Lib.hid ha64
    have HG := Lib.hid hgh
    have HO := Lib.hid ho
    clear hgh ho HR9 hak ha64
    have hwr : Fr [] w wr := hw9.trans hfr (fun k hk => Or.inr (by have := hf1.size; simp at hk; omega))
    by_cases hlt : k < ws.length
    · have t2 : decide ((k : Int) < (ws.length : Int)) = true := by simp; omega
      have hsr := HST9.out.fr hfr (fun k hk => by
        have e1 : sb = k := by simpa [Value.ownBlock] using hk
        simp; omega)
      have ck := hsr.cellN rfl (k + 2) (by omega)
      rw [List.getD_cons_succ, List.getD_cons_succ, Nat.zero_add, Nat.add_comm k 2] at ck
      have hx := H2.out _ (getD_mem ws k [] hlt)
      generalize ws.getD k [] = x at ck hx
      have i0 : (0 : Int) ≤ (k : Int) := by omega
      have i1 : (k : Int) < (ws.length : Int) := by omega
      have HB := Lib.hid hb
      clear hb hsr
      go_wp2_with fail
      refine (puXS_any x wr hx (HT.out.fr hwr)).mono ?_
      rintro e w10 ⟨X, ev10, hX64, rfl, hb10⟩
      have g10 : Fr [] wr w10 := Fr.ofBelow hb10
      have hb11 := g10.at HB.out (by simp)
      have x2 := row_cell hb11 2
      simp at x2
      have y2 := row_free hb11 2
      have HO10 := HO.out.fr g10 (by simp)
      have hs10 : w9.heap.size ≤ w10.heap.size := Nat.le_trans hfr.size g10.size
      have hl10 : acc.length < 1000000 := by rw [HAK.out]; omega
      clear hb10 ck
      go_wp2_with (at_builtin; go_loud (refine wpList_appW rfl (.tmp 46) (.tmp 48) rfl w9.heap.size wv acc X w rfl rfl HO10 (hwr.trans g10 (by simp)) (Nat.le_trans hszw hsz9) hs10 hl10 ?_))
      intro v12 w12 ho12 hf12 hg12
      obtain ⟨g12, n12, c12, rfl⟩ : ∃ g n c, v12 = .slice (some ⟨g, 0, none⟩) n c := by
        rcases ho12.form with ⟨_, h0⟩ | ⟨g, c, _, h0, _⟩
        · simp at h0
        · exact ⟨g, _, c, h0⟩
      have hbn : bf ∉ wv.ownBlock.toList := fun hm => by
        have := (ownBlock_cells HO10 bf (by simpa using hm)).1
        omega
      have hb12 := hg12.at hb11 hbn
      have x2 := row_cell hb12 2
      simp at x2
      have y2 := row_free hb12 2
      have HR13 := Lib.hid (row_set hb12 2 (.slice (some ⟨g12, 0, none⟩) n12 c12))
      have g13 : Fr [bf] w9 (w12.setCell ⟨bf, 2, none⟩ (.slice (some ⟨g12, 0, none⟩) n12 c12)) := by
        have h1 : Fr [bf] w9 w12 := (hfr.trans (g10.mono (X := []) (Y := [bf]) (by simp)) (by simp)).trans hg12 (fun k hk => Or.inr (ownBlock_cells HO10 k (by simpa using hk)).1)
        exact h1.setCell _ _ (by simp)
      have HG13 := Lib.hid g13
      have HO13 := Lib.hid (ho12.fr ((Fr.refl [bf] w12).setCell ⟨bf, 2, none⟩ (.slice (some ⟨g12, 0, none⟩) n12 c12) (by simp)) (fun k hk => by
        have := (ownBlock_cells ho12 k hk).1
        simp; omega))
      clear ho12 hf12 hg12 hb12 hb11 g13 g10 HO10
      go_wp2_with fail
      go_roundg (ws.length - (k + 1))
      case measure => have := HG.out; omega
      case rel => exact ⟨k + 1, .slice (some ⟨g12, 0, none⟩) n12 c12, acc ++ [X], by omega, rfl, by go_num, HR13.out, (fun y hy => by
        rcases List.mem_append.1 hy with h | h
        · exact HA64.out y h
        · rw [List.mem_singleton.1 h]; exact hX64), by rw [List.length_append, HAK.out]; rfl, HO13.out, HG13.out⟩
    · obtain rfl : k = ws.length := by omega
      have t2 : decide ((ws.length : Int) < (ws.length : Int)) = false := by simp
      obtain ⟨gW, nW, cW, rfl⟩ : ∃ g n c, wv = .slice (some ⟨g, 0, none⟩) n c := by
        rcases HO.out.form with ⟨_, h0⟩ | ⟨g, c, _, h0, _⟩
        · have h3 := HAK.out
          rw [h0] at h3
          simp at h3
          omega
        · exact ⟨g, _, c, h0⟩
      have x0 := row_cell hb 0
      have x1 := row_cell hb 1
      have x2 := row_cell hb 2
      simp at x0 x1 x2
      have HB := Lib.hid hb
      have hu64 := HA64.out
      have htext := ftext_any (.agg #[.int .i64 D0, .int .i64 D1, (.slice (some ⟨gW, 0, none⟩) nW cW)]) ⟨D0, D1, acc⟩ wr ⟨_, rfl, HO.out.ws⟩ hu64 (HT.out.fr hwr).f
      have HTX := Lib.hid htext
      clear htext hb hu64
      go_wp2_with fail
      refine HTX.out.mono ?_
      rintro e w11 ⟨rfl, hb11⟩
      obtain ⟨r, hr⟩ : ∃ r, r = textF ⟨D0, D1, acc⟩ := ⟨_, rfl⟩
      rw [← hr]
      have g11 : Fr [] wr w11 := Fr.ofBelow hb11
      have hb12 := g11.at HB.out (by simp)
      have hrr := g11.at (hfr.at (HG9.out.at (hf3.at (hf2.at hr1 (by simp)) (by simp)) (by simp; omega)) (by simp; omega)) (by simp)
      have hw11 := hwr.trans g11 (by simp)
      have HO11 := Lib.hid (HO.out.fr g11 (by simp))
      have z0 := row_cell hrr 0
      have z1 := row_cell hrr 1
      have z2 := row_cell hrr 2
      simp at z0 z1 z2
      have y0 := row_free hrr 0
      have y1 := row_free hrr 1
      have y2 := row_free hrr 2
      have hok : ¬ (r = text ∧ text ≠ []) := by
        rintro ⟨h1, h2⟩
        have hv : validF ⟨D0, D1, acc⟩ = true := by
          cases hv : validF ⟨D0, D1, acc⟩ with
          | true => rfl
          | false => exact absurd (h1.symm.trans (hr.trans (textF_nil hv))) h2
        exact HNO.out _ ⟨hv, HA64.out, hr.symm.trans h1⟩
      clear hb11 x0 x1 x2 hr
      have q0 := row_cell hb12 0
      have q1 := row_cell hb12 1
      have q2 := row_cell hb12 2
      simp at q0 q1 q2
      have hX := hw11.store3 rb (by right; rw [ERB.out]; exact Nat.le_refl _) (.int .i64 0) (.int .i64 0) (.slice none 0 0)
      have HX := Lib.hid hX
      have HRX := Lib.hid (row_set (row_set (row_set hrr 0 (.int .i64 0)) 1 (.int .i64 0)) 2 (.slice none 0 0))
      have m0 := row_cell HRX.out 0
      have m1 := row_cell HRX.out 1
      have m2 := row_cell HRX.out 2
      simp at m0 m1 m2
      have HM : Hid (_ ∧ _ ∧ _) := Lib.hid ⟨m0, m1, m2⟩
      clear hX m0 m1 m2
      by_cases hn : r = []
      · have u1 : (r == []) = true := by rw [beq_iff_eq]; exact hn
        clear hn hok
        go_wp2_with fail
        obtain ⟨m0, m1, m2⟩ := HM.out
        refine bodyPost_ret (v := .tuple #[zeroF, .int .i64 4]) ?_ rfl ⟨?_, HX.out.toBelow (by simp)⟩
        · unfold zeroF
          rw [results_cell_tmp rfl]
          go_simp
        · rw [EO.out]
      · have u1 : (r == []) = false := by rw [beq_eq_false_iff_ne]; exact hn
        have u2 : (r != text) = true := by
          rw [bne_iff_ne]
          intro e
          exact hok ⟨e, by rw [← e]; exact hn⟩
        have u3 : (r == text) = false := by
          rw [beq_eq_false_iff_ne]
          intro e
          exact hok ⟨e, by rw [← e]; exact hn⟩
        clear hn hok
        go_wp2_with fail
        obtain ⟨m0, m1, m2⟩ := HM.out
        refine bodyPost_ret (v := .tuple #[zeroF, .int .i64 4]) ?_ rfl ⟨?_, HX.out.toBelow (by simp)⟩
        · unfold zeroF
          rw [results_cell_tmp rfl]
          go_simp
        · rw [EO.out]

set_option maxRecDepth 100000 in
set_option maxHeartbeats 8000000 in
theorem parseNo2_any (text w0 w1 : List UInt8) (w : World) (ht : text.length ≤ 100000) (hsp : splitS text = [w0, w1])
    (hno : ∀ f, ¬ IsTextF text f) (hT : TabsG w) :
    Calls Tryz.prog 17 #[.string ⟨text.toArray⟩] w (ParsePost w none) := by
  obtain ⟨o, eo⟩ : ∃ o : Option Flt, o = none := ⟨_, rfl⟩
  rw [← eo]
  have EO := Lib.hid eo
  have HT := Lib.hid hT
  have HNO := Lib.hid hno
  have hall : ∀ x ∈ splitS text, x.length ≤ 1000000 := fun x hx => Nat.le_trans (splitS_short text x hx) (by omega)
  rw [hsp] at hall
  have hl0 : w0.length ≤ 1000000 := hall w0 (by simp)
  have hl1 : w1.length ≤ 1000000 := hall w1 (by simp)
  clear hall hno
  obtain ⟨W1, hW1⟩ : ∃ W1, W1 = w.alloc (.cells #[.int .i64 0, .int .i64 0, .slice none 0 0] 25) := ⟨_, rfl⟩
  obtain ⟨rb, erb⟩ : ∃ rb, rb = w.heap.size := ⟨_, rfl⟩
  have hf1 : Fr [] w W1 := by rw [hW1]; exact (Fr.refl [] w).alloc _
  have hr1 : W1.heap[rb]? = some (.cells #[.int .i64 0, .int .i64 0, .slice none 0 0] 25 (0, 0)) := by rw [hW1, erb]; exact heap_new rfl
  have hsplit := wSplit_any text W1 (by omega) (hT.fr hf1).f
  rw [hsp] at hsplit
  have HSPL := Lib.hid hsplit
  have HSP := Lib.hid hsp
  clear eo hT hsp hsplit
  go_enter Tryz.func17, Tryz.ntmps17
  go_wp2_with fail
  rw [← hW1, ← erb]
  refine HSPL.out.mono ?_
  rintro e w' ⟨rfl, hw'⟩
  have ERB := Lib.hid erb
  obtain ⟨sb, esb⟩ : ∃ sb, sb = W1.heap.size := ⟨_, rfl⟩
  have hf2 : Fr [] W1 w' := by rw [hw']; exact (Fr.refl [] W1).alloc _
  have hs2 : w'.heap[sb]? = some (.cells (((w0 :: w1 :: []).map strV).toArray) 9 (0, 0)) := by rw [hw', esb]; exact heap_new rfl
  rw [← esb]
  clear hW1 erb hw' esb
  have hst := strs_map hs2 (by simp)
  have hn : (w0 :: w1 :: []).length = 2 := rfl
  rw [hn] at hst ⊢
  have t1 : decide (((2 : Nat) : Int) < 2) = false := by decide
  have k0 := hst.cellN hn 0 (by omega)
  have k1 := hst.cellN hn 1 (by omega)
  simp at k0 k1
  have HST := Lib.hid hst
  have k00 := ((Fr.refl [] w').alloc (.cells #[.int .i64 0, .int .i64 0, .slice none 0 0] 25)).cell k0 (by simp)
  clear hn hst k0
  go_wp2_with fail
  obtain ⟨W3, hW3⟩ : ∃ W3, W3 = w'.alloc (.cells #[.int .i64 0, .int .i64 0, .slice none 0 0] 25) := ⟨_, rfl⟩
  obtain ⟨bf, ebf⟩ : ∃ bf, bf = w'.heap.size := ⟨_, rfl⟩
  have hf3 : Fr [] w' W3 := by rw [hW3]; exact (Fr.refl [] w').alloc _
  have hb3 : W3.heap[bf]? = some (.cells #[.int .i64 0, .int .i64 0, .slice none 0 0] 25 (0, 0)) := by rw [hW3, ebf]; exact heap_new rfl
  have hW3s : W3.heap.size = bf + 1 := by rw [hW3, ebf]; simp
  have hsbf : sb < bf := by rw [ebf]; exact lt_of_block hs2
  rw [← hW3, ← ebf]
  have hrb := lt_of_block hr1
  have hbf1 : W1.heap.size ≤ bf := by rw [ebf]; exact hf2.size
  clear hW3 ebf k00
  have hw3 : Fr [] w W3 := (hf1.trans hf2 (by simp)).trans hf3 (by simp)
  refine (atoiX_any w0 W3 hl0 (HT.out.fr hw3)).mono ?_
  rintro e w4 ⟨D0, ev0, rfl, hb4⟩
  have g4 : Fr [] W3 w4 := Fr.ofBelow hb4
  have hb5 := g4.at hb3 (by simp)
  have x0 := row_cell hb5 0
  simp at x0
  have y0 := row_free hb5 0
  have hk1 := (hf3.trans g4 (by simp)).cell k1 (by simp)
  have hr6 := row_set hb5 0 (.int .i64 D0)
  have g6 : Fr [bf] W3 (w4.setCell ⟨bf, 0, none⟩ (.int .i64 D0)) := (g4.mono (by simp)).setCell _ _ (by simp)
  have hk6 := ((Fr.refl [bf] w4).setCell ⟨bf, 0, none⟩ (.int .i64 D0) (by simp)).cell hk1 (by simp; omega)
  have HR6 := Lib.hid hr6
  have HG6 := Lib.hid g6
  clear hb4 hb5 hk1 k1 hr6 g6 g4
  go_wp2_with fail
  generalize w4.setCell ⟨bf, 0, none⟩ (.int .i64 D0) = w6 at HR6 HG6 hk6 ⊢
  have hw6 : Fr [] w w6 := hw3.trans HG6.out (fun k hk => Or.inr (by have := hf1.size; simp at hk; omega))
  refine (atoiX_any w1 w6 hl1 (HT.out.fr hw6)).mono ?_
  rintro e w7 ⟨D1, ev1, rfl, hb7⟩
  have g7 : Fr [] w6 w7 := Fr.ofBelow hb7
  have hb8 := g7.at HR6.out (by simp)
  have x1 := row_cell hb8 1
  simp at x1
  have y1 := row_free hb8 1
  have hr9 := row_set hb8 1 (.int .i64 D1)
  simp at hr9
  have g9 : Fr [bf] W3 (w7.setCell ⟨bf, 1, none⟩ (.int .i64 D1)) := (HG6.out.trans g7 (by simp)).setCell _ _ (by simp)
  have HR9 := Lib.hid hr9
  have HG9 := Lib.hid g9
  clear hb7 hb8 hk6 hr9 g9 g7 x0 y0 hw6
  go_wp2_with fail
  generalize w7.setCell ⟨bf, 1, none⟩ (.int .i64 D1) = w9 at HR9 HG9 ⊢
  have hw9 : Fr [] w w9 := hw3.trans HG9.out (fun k hk => Or.inr (by have := hf1.size; simp at hk; omega))
  have hszw : w.heap.size ≤ W3.heap.size := hw3.size
  have hsz9 : W3.heap.size ≤ w9.heap.size := HG9.out.size
  clear HR6 HG6 x1 y1 HST hl0 hl1
  go_loopg [36] 0 (fun gh i wr => gh = 0 ∧ i = .int .i64 0 ∧ w9 = wr)
  case atStart => exact ⟨rfl, rfl, rfl⟩
  case round =>
    obtain ⟨hgh, rfl, rfl⟩ := hrel
    clear hgh
    have hb := HR9.out
    have hfr : Fr [bf] w9 w9 := Fr.refl _ _
    have hwr := hw9
    have HO := Lib.hid (OwnW.nil (base := w9.heap.size) (w := w9))
    have HA64 : Hid (W64 []) := Lib.hid (fun x hx => by cases hx)
    have hu64 := HA64.out
    have x0 := row_cell hb 0
    have x1 := row_cell hb 1
    have x2 := row_cell hb 2
    simp at x0 x1 x2
    have HB := Lib.hid hb
    have hu64 := HA64.out
    have htext := ftext_any (.agg #[.int .i64 D0, .int .i64 D1, (.slice none 0 0)]) ⟨D0, D1, []⟩ w9 ⟨_, rfl, HO.out.ws⟩ hu64 (HT.out.fr hwr).f
    have HTX := Lib.hid htext
    clear htext hb hu64
    go_wp2_with fail
    refine HTX.out.mono ?_
    rintro e w11 ⟨rfl, hb11⟩
    obtain ⟨r, hr⟩ : ∃ r, r = textF ⟨D0, D1, []⟩ := ⟨_, rfl⟩
    rw [← hr]
    have g11 : Fr [] w9 w11 := Fr.ofBelow hb11
    have hb12 := g11.at HB.out (by simp)
    have hrr := g11.at (hfr.at (HG9.out.at (hf3.at (hf2.at hr1 (by simp)) (by simp)) (by simp; omega)) (by simp; omega)) (by simp)
    have hw11 := hwr.trans g11 (by simp)
    have HO11 := Lib.hid (HO.out.fr g11 (by simp))
    have z0 := row_cell hrr 0
    have z1 := row_cell hrr 1
    have z2 := row_cell hrr 2
    simp at z0 z1 z2
    have y0 := row_free hrr 0
    have y1 := row_free hrr 1
    have y2 := row_free hrr 2
    have hok : ¬ (r = text ∧ text ≠ []) := by
      rintro ⟨h1, h2⟩
      have hv : validF ⟨D0, D1, []⟩ = true := by
        cases hv : validF ⟨D0, D1, []⟩ with
        | true => rfl
        | false => exact absurd (h1.symm.trans (hr.trans (textF_nil hv))) h2
      exact HNO.out _ ⟨hv, HA64.out, hr.symm.trans h1⟩
    clear hb11 x0 x1 x2 hr
    have q0 := row_cell hb12 0
    have q1 := row_cell hb12 1
    have q2 := row_cell hb12 2
    simp at q0 q1 q2
    have hX := hw11.store3 rb (by right; rw [ERB.out]; exact Nat.le_refl _) (.int .i64 0) (.int .i64 0) (.slice none 0 0)
    have HX := Lib.hid hX
    have HRX := Lib.hid (row_set (row_set (row_set hrr 0 (.int .i64 0)) 1 (.int .i64 0)) 2 (.slice none 0 0))
    have m0 := row_cell HRX.out 0
    have m1 := row_cell HRX.out 1
    have m2 := row_cell HRX.out 2
    simp at m0 m1 m2
    have HM : Hid (_ ∧ _ ∧ _) := Lib.hid ⟨m0, m1, m2⟩
    clear hX m0 m1 m2
    by_cases hn : r = []
    · have u1 : (r == []) = true := by rw [beq_iff_eq]; exact hn
      clear hn hok
      go_wp2_with fail
      obtain ⟨m0, m1, m2⟩ := HM.out
      refine bodyPost_ret (v := .tuple #[zeroF, .int .i64 4]) ?_ rfl ⟨?_, HX.out.toBelow (by simp)⟩
      · unfold zeroF
        rw [results_cell_tmp rfl]
        go_simp
      · rw [EO.out]
    · have u1 : (r == []) = false := by rw [beq_eq_false_iff_ne]; exact hn
      have u2 : (r != text) = true := by
        rw [bne_iff_ne]
        intro e
        exact hok ⟨e, by rw [← e]; exact hn⟩
      have u3 : (r == text) = false := by
        rw [beq_eq_false_iff_ne]
        intro e
        exact hok ⟨e, by rw [← e]; exact hn⟩
      clear hn hok
      go_wp2_with fail
      obtain ⟨m0, m1, m2⟩ := HM.out
      refine bodyPost_ret (v := .tuple #[zeroF, .int .i64 4]) ?_ rfl ⟨?_, HX.out.toBelow (by simp)⟩
      · unfold zeroF
        rw [results_cell_tmp rfl]
        go_simp
      · rw [EO.out]

set_option maxRecDepth 100000 in
set_option maxHeartbeats 4000000 in
theorem parseNo1_any (text x : List UInt8) (w : World) (ht : text.length ≤ 100000) (hsp : splitS text = [x]) (hT : TabsG w) :
    Calls Tryz.prog 17 #[.string ⟨text.toArray⟩] w (ParsePost w none) := by
  obtain ⟨W1, hW1⟩ : ∃ W1, W1 = w.alloc (.cells #[.int .i64 0, .int .i64 0, .slice none 0 0] 25) := ⟨_, rfl⟩
  obtain ⟨rb, erb⟩ : ∃ rb, rb = w.heap.size := ⟨_, rfl⟩
  have hf1 : Fr [] w W1 := by rw [hW1]; exact (Fr.refl [] w).alloc _
  have hr1 : W1.heap[rb]? = some (.cells #[.int .i64 0, .int .i64 0, .slice none 0 0] 25 (0, 0)) := by rw [hW1, erb]; exact heap_new rfl
  have hsplit := wSplit_any text W1 (by omega) (hT.fr hf1).f
  rw [hsp] at hsplit
  have HSPL := Lib.hid hsplit
  clear hT hsp hsplit
  go_enter Tryz.func17, Tryz.ntmps17
  go_wp2_with fail
  rw [← hW1, ← erb]
  refine HSPL.out.mono ?_
  rintro e w11 ⟨rfl, hw'⟩
  have ERB := Lib.hid erb
  have hf2 : Fr [] W1 w11 := by rw [hw']; exact (Fr.refl [] W1).alloc _
  have hrr := hf2.at hr1 (by simp)
  have hw11 := hf1.trans hf2 (by simp)
  obtain ⟨sb, esb⟩ : ∃ sb, sb = W1.heap.size := ⟨_, rfl⟩
  rw [← esb]
  clear hW1 erb hw' esb hf2 hf1 hr1
  have z0 := row_cell hrr 0
  have z1 := row_cell hrr 1
  have z2 := row_cell hrr 2
  simp at z0 z1 z2
  have y0 := row_free hrr 0
  have y1 := row_free hrr 1
  have y2 := row_free hrr 2
  have hX := hw11.store3 rb (by right; rw [ERB.out]; exact Nat.le_refl _) (.int .i64 0) (.int .i64 0) (.slice none 0 0)
  have HX := Lib.hid hX
  have HRX := Lib.hid (row_set (row_set (row_set hrr 0 (.int .i64 0)) 1 (.int .i64 0)) 2 (.slice none 0 0))
  have m0 := row_cell HRX.out 0
  have m1 := row_cell HRX.out 1
  have m2 := row_cell HRX.out 2
  simp at m0 m1 m2
  have HM : Hid (_ ∧ _ ∧ _) := Lib.hid ⟨m0, m1, m2⟩
  clear hX m0 m1 m2
  go_wp2_with fail
  obtain ⟨m0, m1, m2⟩ := HM.out
  refine bodyPost_ret (v := .tuple #[zeroF, .int .i64 4]) ?_ rfl ⟨?_, HX.out.toBelow (by simp)⟩
  · unfold zeroF
    rw [results_cell_tmp rfl]
    go_simp
  · rfl
theorem dec_len18 (u : Nat) (h : u < 1000000000000000000) : (Lib.decDigits u).length ≤ 18 := by
  have key : ∀ (k u : Nat), u < 10 ^ k → (Lib.decDigits u).length ≤ max k 1 := by
    intro k
    induction k with
    | zero => intro u hu; have : u = 0 := by omega
              subst this; rw [Lib.decDigits, dif_pos (by decide)]; exact Nat.le_refl 1
    | succ k ih =>
      intro u hu
      rw [Lib.decDigits]
      split
      · simp only [List.length_cons, List.length_nil]; omega
      · have := ih (u / 10) (by rw [Nat.pow_succ] at hu; omega)
        simp only [List.length_append, List.length_cons, List.length_nil]
        have h1 : 1 ≤ k := by
          cases k with
          | zero => simp at hu; omega
          | succ k => exact Nat.succ_pos k
        omega
  exact key 18 u h
theorem itoa_ok (n : Int) (h0 : 0 ≤ n) (h1 : n < 1000000000000000000) : 1 ≤ (Lib.itoa n).length ∧ (Lib.itoa n).length ≤ 18 ∧ (Lib.itoa n).all decA = true ∧ (dV (Lib.itoa n) : Int) = n := by
  have e : Lib.itoa n = Lib.decDigits n.toNat := by unfold Lib.itoa; rw [if_neg (by omega)]
  rw [e]
  refine ⟨List.length_pos_iff.2 (dec_nonempty _), dec_len18 _ (by omega), List.all_eq_true.2 (fun c hc => ?_), ?_⟩
  · have := dec_chars _ c hc
    simp only [decA, Bool.and_eq_true, decide_eq_true_eq, UInt8.le_iff_toNat_le]
    simpa using this
  · have h2 : (Lib.decDigits n.toNat).foldl decF 0 = n.toNat := dec_fold _
    unfold dV
    rw [h2]
    omega
theorem hexA_hexd (d : Nat) (h : d < 16) : hexA (UInt8.ofNat (hexd d)) = true ∧ hexU (UInt8.ofNat (hexd d)) = hexN (UInt8.ofNat (hexd d)) := by
  have h1 : ∀ d, d < 16 → hexA (UInt8.ofNat (hexd d)) = true ∧ hexU (UInt8.ofNat (hexd d)) = hexN (UInt8.ofNat (hexd d)) := by decide
  exact h1 d h
theorem hexS_char (x : Nat) : ∀ c ∈ hexS x, hexA c = true ∧ hexU c = hexN c := by
  intro c hc
  obtain ⟨i, _, rfl⟩ := List.mem_map.1 hc
  exact hexA_hexd _ (Nat.mod_lt _ (by decide))
theorem fold_congr : ∀ (l : List UInt8) (a : Nat), (∀ c ∈ l, hexU c = hexN c) → l.foldl (fun a c => a * 16 + hexU c) a = l.foldl (fun a c => a * 16 + hexN c) a
  | [], a, _ => rfl
  | c :: l, a, h => by
    rw [List.foldl_cons, List.foldl_cons, h c (by simp)]
    exact fold_congr l _ (fun x hx => h x (by simp [hx]))
theorem uV_hexS (x : Nat) (h : x < 18446744073709551616) : uV (hexS x) = x := by
  have h2 : uV (hexS x) = hexV (hexS x) := fold_congr _ 0 (fun c hc => (hexS_char _ c hc).2)
  rw [h2, hexV_hexS x h]
theorem numF_words {g : Flt} (hv : validF g = true) (hw : W64 g.words) : numF (Lib.itoa g.bits) (Lib.itoa g.hashes) (g.words.map hexS) = g := by
  have hf := formF_parts (validF_parts hv).1
  unfold numF
  refine Flt.ext' (itoa_ok g.bits (by omega) (by omega)).2.2.2 (itoa_ok g.hashes (by omega) (by omega)).2.2.2 ?_
  show (g.words.map hexS).map uV = g.words
  have h2 : ∀ l : List Nat, (∀ x ∈ l, x < 18446744073709551616) → (l.map hexS).map uV = l := by
    intro l
    induction l with
    | nil => intro _; rfl
    | cons a t ih =>
      intro h
      rw [List.map_cons, List.map_cons, uV_hexS a (h a (by simp)), ih (fun x hx => h x (by simp [hx]))]
  exact h2 _ (fun x hx => Nat.lt_of_lt_of_le (hw x hx) (by decide))
/-- filter.Parse of any text. -/
theorem parseX_any (text : List UInt8) (w : World) (ht : text.length ≤ 100000) (hT : TabsG w) :
    Calls Tryz.prog 17 #[.string ⟨text.toArray⟩] w fun e w' => ∃ o, ParsedF text o ∧ ParsePost w o e w' := by
  by_cases hx : ∃ f, IsTextF text f
  · obtain ⟨g, hg⟩ := hx
    obtain ⟨hv, hw, htx⟩ := id hg
    have hf := formF_parts (validF_parts hv).1
    have hl := (validF_parts hv).2
    have hnf := numF_words hv hw
    have hne : g.words.map hexS ≠ [] := by
      intro h0
      have := congrArg List.length h0
      rw [List.length_map] at this
      simp at this
      rw [this] at hl
      simp at hl
      omega
    have i0 := itoa_ok g.bits (by omega) (by omega)
    have i1 := itoa_ok g.hashes (by omega) (by omega)
    have i2 : ∀ x ∈ g.words.map hexS, x.length = 16 ∧ x.all hexA = true := fun x hx => by
      obtain ⟨y, _, rfl⟩ := List.mem_map.1 hx
      exact ⟨hexS_length y, List.all_eq_true.2 (fun c hc => (hexS_char y c hc).1)⟩
    have h := parseN_any text (Lib.itoa g.bits) (Lib.itoa g.hashes) (g.words.map hexS) w ht (isText_words hg) hne ⟨i0.1, i0.2.1, i0.2.2.1⟩ ⟨i1.1, i1.2.1, i1.2.2.1⟩ i2 hT.f
    rw [hnf] at h
    have hp : ParsedF text (if textF g = text ∧ text ≠ [] then some g else none) := parsed_of (f := g) hw (fun g' hg' => textF_inj hv hg'.1 hw hg'.2.1 (htx.trans hg'.2.2.symm))
    exact h.mono fun e w' h => ⟨_, hp, h⟩
  · have hno : ∀ f, ¬ IsTextF text f := fun f hf => hx ⟨f, hf⟩
    have hp := parsed_none hno
    rcases hs : splitS text with _ | ⟨w0, _ | ⟨w1, ws⟩⟩
    · exact absurd hs (splitS_ne text)
    · exact (parseNo1_any text w0 w ht hs hT).mono fun e w' h => ⟨none, hp, h⟩
    · cases ws with
      | nil => exact (parseNo2_any text w0 w1 w ht hs hno hT).mono fun e w' h => ⟨none, hp, h⟩
      | cons a l => exact (parseNo_any text w0 w1 (a :: l) w ht hs (by simp) hno hT).mono fun e w' h => ⟨none, hp, h⟩
end Go.Proofs.YtffldampcbfgjaaGreatDoor
