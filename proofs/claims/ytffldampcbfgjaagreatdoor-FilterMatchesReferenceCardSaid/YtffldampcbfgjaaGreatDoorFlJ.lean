/-
  filter.Text.
  filter.Parse, where the words of the text are numerals.
  foyerlaw36.head: true.
-/
import Derived.Test.YtffldampcbfgjaaGreatDoorRep
import Derived.Test.YtffldampcbfgjaaGreatDoorRefB
namespace Go.Proofs.YtffldampcbfgjaaGreatDoor
open Go.RowKit

set_option maxRecDepth 100000 in
set_option maxHeartbeats 4000000 in
theorem ftext_any (v : Value) (f : Flt) (w : World) (hv : FltR w v f) (hW : W64 f.words) (hT : TabsF w) :
    Calls Tryz.prog 22 #[v] w fun e w' => e = .returned (.string ⟨(textF f).toArray⟩) ∧ Below w.heap.size w w' := by
  obtain ⟨wv, rfl, hw⟩ := hv
  obtain ⟨wa, wcap, rfl, hwl, hwc, hwa⟩ := hw.form
  have HWS := Lib.hid hw
  have HT := Lib.hid hT
  have HW := Lib.hid hW
  clear hw hT hW
  obtain ⟨r, er⟩ : ∃ r, r = textF f := ⟨_, rfl⟩
  rw [← er]
  have ER := Lib.hid er
  clear er
  obtain ⟨W0, hW0⟩ : ∃ W0, W0 = w.alloc (.cells #[.int .i64 f.bits, .int .i64 f.hashes, .slice wa f.words.length wcap] 25) := ⟨_, rfl⟩
  obtain ⟨bf, ebf⟩ : ∃ bf, bf = w.heap.size := ⟨_, rfl⟩
  have hf0 : Fr [] w W0 := by rw [hW0]; exact (Fr.refl [] w).alloc _
  have hb0 : W0.heap[bf]? = some (.cells #[.int .i64 f.bits, .int .i64 f.hashes, .slice wa f.words.length wcap] 25 (0, 0)) := by rw [hW0, ebf]; exact heap_new rfl
  have c0 := row_cell hb0 0
  have c1 := row_cell hb0 1
  have c2 := row_cell hb0 2
  simp at c0 c1 c2
  rw [hW0, ebf] at c0 c1 c2
  go_enter Tryz.func22, Tryz.ntmps22
  go_wp2_with fail
  rw [← hW0, ← ebf]
  clear c0 c1 c2
  refine (valid_any _ f W0 ⟨_, rfl, HWS.out.fr0 hf0⟩).mono ?_
  rintro e w1 ⟨rfl, hb1⟩
  have h1 : Fr [] w w1 := hf0.below hb1 hf0.size
  have hq0 := (Fr.ofBelow (X := []) hb1).at hb0 (by simp)
  have EBF := Lib.hid ebf
  clear hb1 hb0 hW0 hf0 ebf
  have c0 := row_cell hq0 0
  have c1 := row_cell hq0 1
  have c2 := row_cell hq0 2
  simp at c0 c1 c2
  obtain ⟨vo, evo⟩ : ∃ vo, vo = validF f := ⟨_, rfl⟩
  rw [← evo]
  have HVO := Lib.hid evo
  clear evo
  cases vo with
  | false =>
    have HR : Hid (r = []) := Lib.hid (by rw [ER.out]; exact textF_nil HVO.out.symm)
    go_wp2_with fail
    go_ret
    exact ⟨by rw [HR.out]; rfl, h1.toBelow (by simp)⟩
  | true =>
    obtain ⟨hform, hlen⟩ := validF_parts HVO.out.symm
    have hp := formF_parts hform
    have hlw : f.words.length ≤ 1024 := by omega
    have e1 : f.bits.tdiv 64 = (f.words.length : Int) := by rw [Int.tdiv_eq_ediv_of_nonneg (by omega), hlen]
    have e2 : IntKind.i64.wrap (f.words.length : Int) = (f.words.length : Int) := IntWalk.i64_in _ (by omega)
    have HP := Lib.hid hp
    have hb1 : -9223372036854775808 ≤ f.bits := by omega
    have hb2 : f.bits ≤ 9223372036854775807 := by omega
    have hh1 : -9223372036854775808 ≤ f.hashes := by omega
    have hh2 : f.hashes ≤ 9223372036854775807 := by omega
    have hl1 := Lib.itoa_length_le f.bits hb1 hb2
    have hl2 := Lib.itoa_length_le f.hashes hh1 hh2
    have hmx : Tryz.prog.follows .mixedOrders = true := by kernel_rfl
    clear hform hlen hp
    go_wp2_with fail
    have hS0 : w1.drew.cell? ⟨bf, 0, none⟩ = some (.int .i64 f.bits) ∧ w1.drew.cell? ⟨bf, 1, none⟩ = some (.int .i64 f.hashes) := ⟨c0, c1⟩
    have hD : Fr [] w1 w1.drew := (Fr.refl [] w1).drew
    refine region_held 7 (fun W' => W'.cell? ⟨bf, 0, none⟩ = some (.int .i64 f.bits) ∧ W'.cell? ⟨bf, 1, none⟩ = some (.int .i64 f.hashes)) hmx ?_
    change Held _ _ _ _ _ _ 8 (Array.replicate 8 false) _ _
    refine hd_take 0 (v := .pointer (some ⟨bf, 0, none⟩)) rfl (by kernel_rfl) (by kernel_rfl) (by kernel_rfl) rfl hS0 (fun W' hS => by go_simp) rfl ?_
    refine hd_take 3 (v := .pointer (some ⟨bf, 1, none⟩)) rfl (by kernel_rfl) (by kernel_rfl) (by kernel_rfl) rfl hS0 (fun W' hS => by go_simp) rfl ?_
    simp only [Act.put, List.setIfInBounds_toArray, List.set_cons_zero, List.set_cons_succ]
    refine hd_take 1 (v := .int .i64 f.bits) rfl (by kernel_rfl) (by kernel_rfl) (by kernel_rfl) rfl hS0 (fun W' hS => by obtain ⟨s0, s1⟩ := hS; go_simp) rfl ?_
    refine hd_take 4 (v := .int .i64 f.hashes) rfl (by kernel_rfl) (by kernel_rfl) (by kernel_rfl) rfl hS0 (fun W' hS => by obtain ⟨s0, s1⟩ := hS; go_simp) rfl ?_
    simp only [Act.put, List.setIfInBounds_toArray, List.set_cons_zero, List.set_cons_succ]
    refine hd_one 2 (by kernel_rfl) rfl (by kernel_rfl) rfl (fun K' hK => ?_)
    go_simp
    refine (itoaI_any f.bits _ hb1 hb2 ((HT.out.fr h1).t.fr hD)).mono ?_
    rintro e w2 ⟨rfl, hbb2⟩
    have hf2 : Fr [] w1 w2 := hD.below hbb2 (Nat.le_refl _)
    refine hK.out _ _ (fun _ => ⟨hf2.cell c0 (by simp), hf2.cell c1 (by simp)⟩) ?_
    clear hK K'
    try simp only [Act.put, List.setIfInBounds_toArray, List.set_cons_zero, List.set_cons_succ]
    refine hd_one 5 (by kernel_rfl) rfl (by kernel_rfl) rfl (fun K' hK => ?_)
    go_simp
    refine (itoaI_any f.hashes _ hh1 hh2 ((HT.out.fr h1).t.fr hf2)).mono ?_
    rintro e w3 ⟨rfl, hbb3⟩
    have hf3 : Fr [] w1 w3 := hf2.below hbb3 hf2.size
    refine hK.out _ _ (fun _ => ⟨hf3.cell c0 (by simp), hf3.cell c1 (by simp)⟩) ?_
    clear hK K'
    try simp only [Act.put, List.setIfInBounds_toArray, List.set_cons_zero, List.set_cons_succ]
    have hos : OwnS w3.heap.size (w3.alloc (.cells #[.string ⟨(Lib.itoa f.bits).toArray⟩, .string ⟨(Lib.itoa f.hashes).toArray⟩] 9)) (.slice (some ⟨w3.heap.size, 0, none⟩) 2 2) [Lib.itoa f.bits, Lib.itoa f.hashes] := by
      refine ⟨rfl, Or.inr ⟨w3.heap.size, 2, _, rfl, Nat.le_refl _, heap_new rfl, Nat.le_refl _, by decide, rfl, rfl⟩⟩
    refine hd_one 6 (by kernel_rfl) rfl (by kernel_rfl) rfl (fun K' hK => ?_)
    go_simp
    have hf4 := hf3.alloc (.cells #[.string ⟨(Lib.itoa f.bits).toArray⟩, .string ⟨(Lib.itoa f.hashes).toArray⟩] 9)
    refine hK.out _ _ (fun _ => ⟨hf4.cell c0 (by simp), hf4.cell c1 (by simp)⟩) ?_
    clear hK K'
    try simp only [Act.put, List.setIfInBounds_toArray, List.set_cons_zero, List.set_cons_succ]
    obtain ⟨w4, hw4⟩ : ∃ w4, w4 = w3.alloc (.cells #[.string ⟨(Lib.itoa f.bits).toArray⟩, .string ⟨(Lib.itoa f.hashes).toArray⟩] 9) := ⟨_, rfl⟩
    rw [← hw4] at hos hf4 ⊢
    clear hw4
    refine hd_one 7 (by kernel_rfl) rfl (by kernel_rfl) rfl (fun K' hK => ?_)
    go_simp
    refine hK.out _ _ (fun h => absurd rfl h) ?_
    clear hK K'
    refine held_done (by kernel_rfl) ?_
    have h14 : Fr [] w w4 := h1.trans hf4 (by simp)
    have hq4 := hf4.at hq0 (by simp)
    have hosw : OwnS w1.heap.size w4 (.slice (some ⟨w3.heap.size, 0, none⟩) 2 2) [Lib.itoa f.bits, Lib.itoa f.hashes] := hos.mono hf3.size
    have hbf1 : bf < w1.heap.size := lt_of_block hq0
    have hw1s := h1.size
    have hw14 := hf4.size
    have HOS := Lib.hid hosw
    have HQ4 := Lib.hid hq4
    clear hos hosw hS0 hD hf2 hf3 c0 c1 c2 hq0 hf4 hq4 hbb2 hbb3
    have c0 := row_cell HQ4.out 0
    simp at c0
    go_wp2_with fail
    clear c0
    have HWL : Hid ((wordsF f).length = f.words.length + 2) := Lib.hid (by simp [wordsF])
    go_loopg [3, 19] f.words.length (fun gh out i wr => ∃ k : Nat, k ≤ f.words.length ∧ gh = f.words.length - k ∧ i = .int .i64 (k : Int) ∧ OwnS w1.heap.size wr out ((wordsF f).take (k + 2)) ∧ Fr [] w wr ∧ w1.heap.size ≤ wr.heap.size ∧ wr.heap[bf]? = some (.cells #[.int .i64 f.bits, .int .i64 f.hashes, .slice wa f.words.length wcap] 25 (0, 0)))
    case atStart => exact ⟨0, by omega, by omega, rfl, HOS.out, h14, hw14, HQ4.out⟩
    case round =>
      clear HOS HQ4
      obtain ⟨k, hk, hgh, rfl, hos, hfr, hsz, hq⟩ := hrel
      have HG := Lib.hid hgh
      have HOS := Lib.hid hos
      have HQ := Lib.hid hq
      clear hgh hos
      have d2 := row_cell hq 2
      simp at d2
      clear hq
      by_cases hlt : k < f.words.length
      · have t1 : decide ((k : Int) < (f.words.length : Int)) = true := by simp; omega
        obtain ⟨b, off, rfl⟩ := hwa k hlt
        have cx : wr.cell? ⟨b, off + k, none⟩ = some (.int .u64 (f.words.getD k 0 : Nat)) := by
          rcases HWS.out with ⟨h0, _⟩ | ⟨b', off', cap', h0, _, _, _, h4⟩
          · exact absurd (congrArg List.length h0) (by simp only [List.length_nil]; omega)
          · cases h0; exact hfr.cell (h4 k hlt) (by simp)
        have hX := HW.out.at k
        rw [show (2 : Nat) ^ 64 = 18446744073709551616 by decide] at hX
        have HSN : Hid ((wordsF f).take (k + 1 + 2) = (wordsF f).take (k + 2) ++ [hexS (f.words.getD k 0)]) := Lib.hid (by
          have hl := HWL.out
          rw [show k + 1 + 2 = (k + 2) + 1 by omega, take_snoc' _ (k + 2) [] (by omega)]
          congr 2
          unfold wordsF
          rw [List.getD_cons_succ, List.getD_cons_succ, List.getD_eq_getElem?_getD, List.getElem?_map, List.getElem?_eq_getElem hlt, List.getD_eq_getElem?_getD, List.getElem?_eq_getElem hlt]
          rfl)
        generalize f.words.getD k 0 = X at cx hX HSN
        have hlen := hexD_len X hX
        have HFI := Lib.hid (hexD_fill X hX)
        have i0 : (0 : Int) ≤ (k : Int) := by omega
        have i1 : (k : Int) < (f.words.length : Int) := by omega
        go_wp2_with fail
        refine (formatUint_any X wr hX (HT.out.fr hfr)).mono ?_
        rintro e w5 ⟨rfl, hb5⟩
        have h15 : Fr [] wr w5 := Fr.ofBelow hb5
        generalize hexD X = dg at hlen HFI
        obtain ⟨n, hn⟩ : ∃ n : Nat, n + dg.length = 16 := ⟨16 - dg.length, by omega⟩
        have hn2 : (16 : Int) - (dg.length : Int) = (n : Int) := by omega
        have hn3 : 16 - dg.length = n := by omega
        have hn4 : IntKind.i64.wrap (n : Int) = (n : Int) := IntWalk.i64_in _ (by omega)
        rw [hn3] at HFI
        have HN := Lib.hid hn
        have hn15 : n ≤ 15 := by omega
        have hds : (ByteArray.mk dg.toArray).size = dg.length := ba_size dg
        have hdr : (ByteArray.mk (List.replicate n (48 : UInt8)).toArray).size = n := by rw [ba_size, List.length_replicate]
        have hba := ba_append (List.replicate n 48) dg
        rw [HFI.out, List.toArray_replicate] at hba
        rw [List.toArray_replicate] at hdr
        have hns : ¬ (9223372036854775807 < n + dg.length) := by omega
        clear hn hn3 hb5 cx d2
        go_wp2_with fail
        refine (repeat_any n w5 hn15).mono ?_
        rintro e w6 ⟨rfl, rfl⟩
        have hl2 : ((wordsF f).take (k + 2)).length < 1000000 := by have := HWL.out; rw [List.length_take]; omega
        go_wp2_with (at_builtin; go_loud (refine wpList_appS rfl (.tmp 28) (.tmp 35) rfl w1.heap.size u3 ((wordsF f).take (k + 2)) (hexS X) w rfl rfl (HOS.out.fr h15 (by simp)) (hfr.trans h15 (by simp)) hw1s (Nat.le_trans hsz h15.size) hl2 ?_))
        intro v7 w7 g7 c7 hv7 ho7 hf7 hg7
        subst hv7
        have HO7 := Lib.hid ho7
        have HQ7 := Lib.hid (hg7.at (h15.at HQ.out (by simp)) (fun hm => by
          have := (ownBlock_cells HOS.out bf (by simpa using hm)).1
          omega))
        have hs7 : w1.heap.size ≤ w7.heap.size := Nat.le_trans (Nat.le_trans hsz h15.size) hg7.size
        clear ho7 hg7
        go_wp2_with fail
        go_roundg (f.words.length - (k + 1))
        case measure => have := HG.out; omega
        case rel => exact ⟨k + 1, by omega, rfl, by go_num, by rw [HSN.out]; exact HO7.out, hf7, hs7, HQ7.out⟩
      · obtain rfl : k = f.words.length := by omega
        have t1 : decide ((f.words.length : Int) < (f.words.length : Int)) = false := by simp
        have HTA : Hid ((wordsF f).take (f.words.length + 2) = wordsF f) := Lib.hid (List.take_of_length_le (by rw [HWL.out]; exact Nat.le_refl _))
        rw [HTA.out] at HOS
        obtain ⟨g, cap, hu3⟩ := HOS.out.slice HWL.out (by omega)
        subst hu3
        have HS := Lib.hid HOS.out.strs
        have hcap : f.words.length + 2 ≤ cap ∧ cap ≤ 9223372036854775807 := by
          rcases HS.out with ⟨h0, _⟩ | ⟨_, _, _, h0, h2, h3, _⟩
          · cases h0
          · simp only [Value.slice.injEq] at h0
            rw [h0.2.2]
            rw [HWL.out] at h2
            exact ⟨h2, h3⟩
        have hlens : Lib.lens (wordsF f) ≤ (wordsF f).length * 22 := lens_le _ 22 (fun x hx => by
          unfold wordsF at hx
          rcases List.mem_cons.1 hx with rfl | hx
          · omega
          rcases List.mem_cons.1 hx with rfl | hx
          · omega
          obtain ⟨y, _, rfl⟩ := List.mem_map.1 hx
          rw [hexS_length]; omega)
        rw [HWL.out] at hlens
        have hjoin := joinN_any g 0 cap (wordsF f) wr (by rw [HWL.out]; omega) (by rw [HWL.out]; exact hcap.1) hcap.2 (by rw [HWL.out]; omega) (by rw [HWL.out]; omega) (by rw [HWL.out]; exact HS.out)
        rw [HWL.out] at hjoin
        have HR : Hid (r = spS (wordsF f)) := Lib.hid (by rw [ER.out]; unfold textF; rw [← HVO.out]; rfl)
        have HJ := Lib.hid hjoin
        clear hjoin hlens hcap d2
        go_wp2_with fail
        refine HJ.out.mono ?_
        rintro e w8 ⟨rfl, hb8⟩
        go_wp2_with fail
        go_ret
        exact ⟨by rw [HR.out]; rfl, (hfr.below hb8 hfr.size).toBelow (by simp)⟩
end Go.Proofs.YtffldampcbfgjaaGreatDoor
namespace Go.Proofs.YtffldampcbfgjaaGreatDoor
open Go.RowKit

theorem wSplit_any (text : List UInt8) (w : World) (ht : text.length ≤ 1000000) (hT : TabsF w) :
    Calls Tryz.prog 48 #[.string ⟨text.toArray⟩, .string ⟨#[32]⟩] w fun e w' => e = .returned (.slice (some ⟨w.heap.size, 0, none⟩) (splitS text).length (splitS text).length) ∧ w' = w.alloc (.cells ((splitS text).map strV).toArray 9) := by
  obtain ⟨m, hm⟩ := hT.m
  refine (Tryz.strings_Split ⟨text.toArray⟩ ⟨#[32]⟩ m w (by rw [ba_size]; omega) hm (by decide)).mono ?_
  rintro e w' ⟨rfl, rfl⟩
  have h1 := split_lib text
  have h2 : ((Lib.splitB ⟨#[32]⟩ 0 (Lib.countB ⟨text.toArray⟩ ⟨#[32]⟩) ⟨text.toArray⟩).map Value.string) = (splitS text).map strV := by
    rw [← h1, List.map_map]
    refine List.map_congr_left (fun x _ => ?_)
    show _ = Value.string ⟨x.data.toList.toArray⟩
    simp
  have h3 : (Lib.countB ⟨text.toArray⟩ ⟨#[32]⟩) + 1 = (splitS text).length := by
    rw [← h1, List.length_map]
    exact (Lib.splitB_all ⟨#[32]⟩ (by decide) 0 _ _ rfl).symm
  rw [h2, h3]
  exact ⟨rfl, rfl⟩
theorem strs_map {w : World} {b : Nat} {l : List (List UInt8)} (h : w.heap[b]? = some (.cells (l.map strV).toArray 9 (0, 0))) (hl : l.length ≤ 1000000) : Strs w (.slice (some ⟨b, 0, none⟩) l.length l.length) l := by
  refine Or.inr ⟨b, 0, l.length, rfl, Nat.le_refl _, by omega, lt_of_block h, fun i hi => ?_⟩
  rw [row_cell h, Nat.zero_add, List.getElem?_toArray, List.getElem?_map, List.getElem?_eq_getElem hi, List.getD_eq_getElem?_getD, List.getElem?_eq_getElem hi]
  rfl
/-- The filter that numerals stand for. -/
def numF (w0 w1 : List UInt8) (ws : List (List UInt8)) : Flt := ⟨(dV w0 : Int), (dV w1 : Int), ws.map uV⟩
/-- What Parse returns. -/
def ParsePost (w : World) (o : Option Flt) (e : Ending) (w' : World) : Prop :=
  (match o with
   | some f => ∃ wv, e = .returned (.tuple #[.agg #[.int .i64 f.bits, .int .i64 f.hashes, wv], .int .i64 0]) ∧ OwnW w.heap.size w' wv f.words
   | none => e = .returned (.tuple #[zeroF, .int .i64 4])) ∧ Below w.heap.size w w'

set_option maxRecDepth 100000 in
set_option maxHeartbeats 8000000 in
theorem parseN_any (text w0 w1 : List UInt8) (ws : List (List UInt8)) (w : World) (ht : text.length ≤ 100000) (hsp : splitS text = w0 :: w1 :: ws) (hws : ws ≠ [])
    (h0 : 1 ≤ w0.length ∧ w0.length ≤ 18 ∧ w0.all decA = true) (h1 : 1 ≤ w1.length ∧ w1.length ≤ 18 ∧ w1.all decA = true) (h2 : ∀ x ∈ ws, x.length = 16 ∧ x.all hexA = true) (hT : TabsF w) :
    Calls Tryz.prog 17 #[.string ⟨text.toArray⟩] w (ParsePost w (if textF (numF w0 w1 ws) = text ∧ text ≠ [] then some (numF w0 w1 ws) else none)) := by
  obtain ⟨o, eo⟩ : ∃ o, o = (if textF (numF w0 w1 ws) = text ∧ text ≠ [] then some (numF w0 w1 ws) else none) := ⟨_, rfl⟩
  rw [← eo]
  have EO := Lib.hid eo
  have HT := Lib.hid hT
  have H2 := Lib.hid h2
  have hnl : ws.length ≤ 100000 := by
    have := splitS_len text
    rw [hsp] at this
    simp at this
    omega
  have hw1 : 1 ≤ ws.length := by
    cases ws with
    | nil => exact absurd rfl hws
    | cons => simp
  obtain ⟨W1, hW1⟩ : ∃ W1, W1 = w.alloc (.cells #[.int .i64 0, .int .i64 0, .slice none 0 0] 25) := ⟨_, rfl⟩
  obtain ⟨rb, erb⟩ : ∃ rb, rb = w.heap.size := ⟨_, rfl⟩
  have hf1 : Fr [] w W1 := by rw [hW1]; exact (Fr.refl [] w).alloc _
  have hr1 : W1.heap[rb]? = some (.cells #[.int .i64 0, .int .i64 0, .slice none 0 0] 25 (0, 0)) := by rw [hW1, erb]; exact heap_new rfl
  have hsplit := wSplit_any text W1 (by omega) (hT.fr hf1)
  rw [hsp] at hsplit
  have HSPL := Lib.hid hsplit
  have HSP := Lib.hid hsp
  clear eo hT h2 hws hsp hsplit
  go_enter Tryz.func17, Tryz.ntmps17
  go_wp2_with fail
  rw [← hW1, ← erb]
  refine HSPL.out.mono ?_
  rintro e w' ⟨rfl, hw'⟩
  have ERB := Lib.hid erb
  obtain ⟨sb, esb⟩ : ∃ sb, sb = W1.heap.size := ⟨_, rfl⟩
  have hf2 : Fr [] W1 w' := by rw [hw']; exact (Fr.refl [] W1).alloc _
  have hs2 : w'.heap[sb]? = some (.cells (((w0 :: w1 :: ws).map strV).toArray) 9 (0, 0)) := by rw [hw', esb]; exact heap_new rfl
  rw [← esb]
  clear hW1 erb hw' esb
  have hst := strs_map hs2 (by simp; omega)
  have hn : (w0 :: w1 :: ws).length = ws.length + 2 := rfl
  rw [hn] at hst ⊢
  have t1 : decide (((ws.length + 2 : Nat) : Int) < 2) = false := decide_eq_false (by omega)
  have k0 := hst.cellN hn 0 (by omega)
  have k1 := hst.cellN hn 1 (by omega)
  simp at k0 k1
  have HST := Lib.hid hst
  have k00 := ((Fr.refl [] w').alloc (.cells #[.int .i64 0, .int .i64 0, .slice none 0 0] 25)).cell k0 (by simp)
  clear hn hst k0
  go_wp2_with fail
  obtain ⟨W3, hW3⟩ : ∃ W3, W3 = w'.alloc (.cells #[.int .i64 0, .int .i64 0, .slice none 0 0] 25) := ⟨_, rfl⟩
  obtain ⟨bf, ebf⟩ : ∃ bf, bf = w'.heap.size := ⟨_, rfl⟩
  have hf3 : Fr [] w' W3 := by rw [hW3]; exact (Fr.refl [] w').alloc _
  have hb3 : W3.heap[bf]? = some (.cells #[.int .i64 0, .int .i64 0, .slice none 0 0] 25 (0, 0)) := by rw [hW3, ebf]; exact heap_new rfl
  have hW3s : W3.heap.size = bf + 1 := by rw [hW3, ebf]; simp
  have hsbf : sb < bf := by rw [ebf]; exact lt_of_block hs2
  rw [← hW3, ← ebf]
  have hrb := lt_of_block hr1
  have hbf1 : W1.heap.size ≤ bf := by rw [ebf]; exact hf2.size
  clear hW3 ebf k00
  have hw3 : Fr [] w W3 := (hf1.trans hf2 (by simp)).trans hf3 (by simp)
  refine (atoiS_any w0 W3 h0.1 h0.2.1 h0.2.2).mono ?_
  rintro e w4 ⟨rfl, hb4⟩
  have g4 : Fr [] W3 w4 := Fr.ofBelow hb4
  have hb5 := g4.at hb3 (by simp)
  have x0 := row_cell hb5 0
  simp at x0
  have y0 := row_free hb5 0
  have hd0 : dV w0 < 1000000000000000000 := by
    have := dV_lt w0 h0.2.2 w0.length (Nat.le_refl _)
    rw [List.take_length] at this
    exact Nat.lt_of_lt_of_le this (Nat.le_trans (Nat.pow_le_pow_right (by decide) h0.2.1) (by decide))
  have hd1 : dV w1 < 1000000000000000000 := by
    have := dV_lt w1 h1.2.2 w1.length (Nat.le_refl _)
    rw [List.take_length] at this
    exact Nat.lt_of_lt_of_le this (Nat.le_trans (Nat.pow_le_pow_right (by decide) h1.2.1) (by decide))
  have hk1 := (hf3.trans g4 (by simp)).cell k1 (by simp)
  obtain ⟨D0, hD0⟩ : ∃ D0, D0 = dV w0 := ⟨_, rfl⟩
  rw [← hD0] at hd0 ⊢
  have HD0 := Lib.hid hD0
  have hr6 := row_set hb5 0 (.int .i64 (D0 : Int))
  have g6 : Fr [bf] W3 (w4.setCell ⟨bf, 0, none⟩ (.int .i64 (D0 : Int))) := (g4.mono (by simp)).setCell _ _ (by simp)
  have hk6 := ((Fr.refl [bf] w4).setCell ⟨bf, 0, none⟩ (.int .i64 (D0 : Int)) (by simp)).cell hk1 (by simp; omega)
  have HR6 := Lib.hid hr6
  have HG6 := Lib.hid g6
  clear hb4 hb5 hk1 k1 hD0 hr6 g6 g4
  go_wp2_with fail
  generalize w4.setCell ⟨bf, 0, none⟩ (.int .i64 (D0 : Int)) = w6 at HR6 HG6 hk6 ⊢
  refine (atoiS_any w1 w6 h1.1 h1.2.1 h1.2.2).mono ?_
  rintro e w7 ⟨rfl, hb7⟩
  have g7 : Fr [] w6 w7 := Fr.ofBelow hb7
  have hb8 := g7.at HR6.out (by simp)
  have x1 := row_cell hb8 1
  simp at x1
  have y1 := row_free hb8 1
  obtain ⟨D1, hD1⟩ : ∃ D1, D1 = dV w1 := ⟨_, rfl⟩
  rw [← hD1] at hd1 ⊢
  have HD1 := Lib.hid hD1
  have hr9 := row_set hb8 1 (.int .i64 (D1 : Int))
  simp at hr9
  have g9 : Fr [bf] W3 (w7.setCell ⟨bf, 1, none⟩ (.int .i64 (D1 : Int))) := (HG6.out.trans g7 (by simp)).setCell _ _ (by simp)
  have HR9 := Lib.hid hr9
  have HG9 := Lib.hid g9
  have hc1 : ¬ (ws.length + 2 = 2) := by omega
  have hc2 : (2 : Int) ≤ ((ws.length : Int) + 2) := by omega
  clear hb7 hb8 hk6 hD1 hr9 g9 g7 x0 y0
  go_wp2_with fail
  generalize w7.setCell ⟨bf, 1, none⟩ (.int .i64 (D1 : Int)) = w9 at HR9 HG9 ⊢
  have HST9 : Hid (Strs w9 (.slice (some ⟨sb, 0, none⟩) (ws.length + 2) (ws.length + 2)) (w0 :: w1 :: ws)) := Lib.hid ((HST.out.fr0 hf3).fr HG9.out (fun k hk => by
    have e1 : sb = k := by simpa [Value.ownBlock] using hk
    simp; omega))
  have hw9 : Fr [] w w9 := hw3.trans HG9.out (fun k hk => Or.inr (by have := hf1.size; simp at hk; omega))
  have HDD : Hid (dV w0 = D0 ∧ dV w1 = D1) := Lib.hid ⟨HD0.out.symm, HD1.out.symm⟩
  have hszw : w.heap.size ≤ W3.heap.size := hw3.size
  have hsz9 : W3.heap.size ≤ w9.heap.size := HG9.out.size
  clear HR6 HG6 HD0 HD1 x1 y1 HST h0 h1
  go_loopg [36] ws.length (fun gh i wr => ∃ (k : Nat) (wv : Value), k ≤ ws.length ∧ gh = ws.length - k ∧ i = .int .i64 (k : Int) ∧ wr.heap[bf]? = some (.cells #[.int .i64 (D0 : Int), .int .i64 (D1 : Int), wv] 25 (0, 0)) ∧ OwnW w9.heap.size wr wv ((ws.take k).map uV) ∧ Fr [bf] w9 wr)
  case atStart => exact ⟨0, _, by omega, by omega, rfl, HR9.out, ⟨rfl, Or.inl ⟨rfl, rfl⟩⟩, Fr.refl _ _⟩
  case round =>
    obtain ⟨k, wv, hk, hgh, rfl, hb, ho, hfr⟩ := hrel
    have HG := Lib.hid hgh
    have HO := Lib.hid ho
    clear hgh ho HR9
    have hwr : Fr [] w wr := hw9.trans hfr (fun k hk => Or.inr (by have := hf1.size; simp at hk; omega))
    by_cases hlt : k < ws.length
    · have t2 : decide ((k : Int) < (ws.length : Int)) = true := by simp; omega
      have hsr := HST9.out.fr hfr (fun k hk => by
        have e1 : sb = k := by simpa [Value.ownBlock] using hk
        simp; omega)
      have ck := hsr.cellN rfl (k + 2) (by omega)
      rw [List.getD_cons_succ, List.getD_cons_succ, Nat.zero_add, Nat.add_comm k 2] at ck
      have hx := H2.out _ (getD_mem ws k [] hlt)
      have HSN : Hid ((ws.take (k + 1)).map uV = (ws.take k).map uV ++ [uV (ws.getD k [])]) := Lib.hid (by rw [take_snoc' ws k [] hlt, List.map_append]; rfl)
      generalize ws.getD k [] = x at ck hx HSN
      have i0 : (0 : Int) ≤ (k : Int) := by omega
      have i1 : (k : Int) < (ws.length : Int) := by omega
      have HB := Lib.hid hb
      clear hb hsr
      go_wp2_with fail
      refine (puS_any x wr hx.1 hx.2).mono ?_
      rintro e w10 ⟨rfl, hb10⟩
      have g10 : Fr [] wr w10 := Fr.ofBelow hb10
      have hb11 := g10.at HB.out (by simp)
      have x2 := row_cell hb11 2
      simp at x2
      have y2 := row_free hb11 2
      generalize uV x = X at HSN ⊢
      have HO10 := HO.out.fr g10 (by simp)
      have hs10 : w9.heap.size ≤ w10.heap.size := Nat.le_trans hfr.size g10.size
      have hl10 : ((ws.take k).map uV).length < 1000000 := by rw [List.length_map, List.length_take]; omega
      clear hb10 ck
      go_wp2_with (at_builtin; go_loud (refine wpList_appW rfl (.tmp 46) (.tmp 48) rfl w9.heap.size wv ((ws.take k).map uV) X w rfl rfl HO10 (hwr.trans g10 (by simp)) (Nat.le_trans hszw hsz9) hs10 hl10 ?_))
      intro v12 w12 ho12 hf12 hg12
      obtain ⟨g12, n12, c12, rfl⟩ : ∃ g n c, v12 = .slice (some ⟨g, 0, none⟩) n c := by
        rcases ho12.form with ⟨_, h0⟩ | ⟨g, c, _, h0, _⟩
        · simp at h0
        · exact ⟨g, _, c, h0⟩
      have hbn : bf ∉ wv.ownBlock.toList := fun hm => by
        have := (ownBlock_cells HO10 bf (by simpa using hm)).1
        omega
      have hb12 := hg12.at hb11 hbn
      have x2 := row_cell hb12 2
      simp at x2
      have y2 := row_free hb12 2
      have HR13 := Lib.hid (row_set hb12 2 (.slice (some ⟨g12, 0, none⟩) n12 c12))
      have g13 : Fr [bf] w9 (w12.setCell ⟨bf, 2, none⟩ (.slice (some ⟨g12, 0, none⟩) n12 c12)) := by
        have h1 : Fr [bf] w9 w12 := (hfr.trans (g10.mono (X := []) (Y := [bf]) (by simp)) (by simp)).trans hg12 (fun k hk => Or.inr (ownBlock_cells HO10 k (by simpa using hk)).1)
        exact h1.setCell _ _ (by simp)
      have HG13 := Lib.hid g13
      have HO13 := Lib.hid (ho12.fr ((Fr.refl [bf] w12).setCell ⟨bf, 2, none⟩ (.slice (some ⟨g12, 0, none⟩) n12 c12) (by simp)) (fun k hk => by
        have := (ownBlock_cells ho12 k hk).1
        simp; omega))
      clear ho12 hf12 hg12 hb12 hb11 g13 g10 HO10
      go_wp2_with fail
      go_roundg (ws.length - (k + 1))
      case measure => have := HG.out; omega
      case rel => exact ⟨k + 1, .slice (some ⟨g12, 0, none⟩) n12 c12, by omega, rfl, by go_num, HR13.out, by rw [HSN.out, List.map_take]; exact HO13.out, HG13.out⟩
    · obtain rfl : k = ws.length := by omega
      have t2 : decide ((ws.length : Int) < (ws.length : Int)) = false := by simp
      have HTA : Hid (ws.take ws.length = ws) := Lib.hid (List.take_length ..)
      rw [HTA.out] at HO
      obtain ⟨gW, nW, cW, rfl⟩ : ∃ g n c, wv = .slice (some ⟨g, 0, none⟩) n c := by
        rcases HO.out.form with ⟨_, h0⟩ | ⟨g, c, _, h0, _⟩
        · have h3 : (ws.map uV).length = 0 := by rw [h0]; rfl
          rw [List.length_map] at h3
          omega
        · exact ⟨g, _, c, h0⟩
      have x0 := row_cell hb 0
      have x1 := row_cell hb 1
      have x2 := row_cell hb 2
      simp at x0 x1 x2
      have HB := Lib.hid hb
      have HF : Hid (numF w0 w1 ws = ⟨(D0 : Int), (D1 : Int), ws.map uV⟩) := Lib.hid (by unfold numF; rw [HDD.out.1, HDD.out.2])
      rw [HF.out] at EO
      have hu64 : W64 (ws.map uV) := by
        intro y hy
        obtain ⟨x, hx, rfl⟩ := List.mem_map.1 hy
        have hxx := H2.out x hx
        have h1 := uV_lt x hxx.2 x.length (Nat.le_refl _)
        rw [List.take_length, hxx.1] at h1
        exact Nat.lt_of_lt_of_le h1 (by decide)
      have hwl : (ws.map uV).length = ws.length := List.length_map ..
      have htext := ftext_any (.agg #[.int .i64 (D0 : Int), .int .i64 (D1 : Int), (.slice (some ⟨gW, 0, none⟩) nW cW)]) ⟨(D0 : Int), (D1 : Int), ws.map uV⟩ wr ⟨_, rfl, HO.out.ws⟩ hu64 (HT.out.fr hwr)
      have HTX := Lib.hid htext
      clear htext hb HF hu64 hwl
      go_wp2_with fail
      refine HTX.out.mono ?_
      rintro e w11 ⟨rfl, hb11⟩
      obtain ⟨r, hr⟩ : ∃ r, r = textF ⟨(D0 : Int), (D1 : Int), ws.map uV⟩ := ⟨_, rfl⟩
      rw [← hr] at EO ⊢
      have g11 : Fr [] wr w11 := Fr.ofBelow hb11
      have hb12 := g11.at HB.out (by simp)
      have hrr := g11.at (hfr.at (HG9.out.at (hf3.at (hf2.at hr1 (by simp)) (by simp)) (by simp; omega)) (by simp; omega)) (by simp)
      have hw11 := hwr.trans g11 (by simp)
      have HO11 := Lib.hid (HO.out.fr g11 (by simp))
      have z0 := row_cell hrr 0
      have z1 := row_cell hrr 1
      have z2 := row_cell hrr 2
      simp at z0 z1 z2
      have y0 := row_free hrr 0
      have y1 := row_free hrr 1
      have y2 := row_free hrr 2
      clear hb11 x0 x1 x2 hr
      have q0 := row_cell hb12 0
      have q1 := row_cell hb12 1
      have q2 := row_cell hb12 2
      simp at q0 q1 q2
      by_cases hok : r = text ∧ text ≠ []
      · rw [if_pos hok] at EO
        obtain ⟨rfl, hne⟩ := hok
        have u1 : (r == []) = false := by rw [beq_eq_false_iff_ne]; exact hne
        have u2 : (r != r) = false := by simp
        have u3 : (r == r) = true := by simp
        have hX := hw11.store3 rb (by right; rw [ERB.out]; exact Nat.le_refl _) (.int .i64 (D0 : Int)) (.int .i64 (D1 : Int)) (.slice (some ⟨gW, 0, none⟩) nW cW)
        have HX := Lib.hid hX
        have HRX := Lib.hid (row_set (row_set (row_set hrr 0 (.int .i64 (D0 : Int))) 1 (.int .i64 (D1 : Int))) 2 (.slice (some ⟨gW, 0, none⟩) nW cW))
        have HOX : Hid (OwnW w.heap.size (((w11.setCell ⟨rb, 0, none⟩ (.int .i64 (D0 : Int))).setCell ⟨rb, 1, none⟩ (.int .i64 (D1 : Int))).setCell ⟨rb, 2, none⟩ (.slice (some ⟨gW, 0, none⟩) nW cW)) (.slice (some ⟨gW, 0, none⟩) nW cW) (ws.map uV)) := Lib.hid (by
          have h2 := HO11.out.fr ((Fr.refl [rb] w11).store3 rb (by simp) (.int .i64 (D0 : Int)) (.int .i64 (D1 : Int)) (.slice (some ⟨gW, 0, none⟩) nW cW)) (fun k hk hm => by
            have e1 := (ownBlock_cells HO11.out k hk).1
            have e2 := List.mem_singleton.1 hm
            omega)
          rcases h2.form with ⟨h0, h3⟩ | ⟨g', cap', cur, h0, hb, hgg, h3, h4, h5, h6⟩
          · exact ⟨h2.1, Or.inl ⟨h0, by rw [h3]; rfl⟩⟩
          · exact ⟨h2.1, Or.inr ⟨g', cap', cur, h0, by omega, hgg, h3, h4, by simpa using h5, by simpa using h6⟩⟩)
        clear hX hne
        go_wp2_with fail
        have m0 := row_cell HRX.out 0
        have m1 := row_cell HRX.out 1
        have m2 := row_cell HRX.out 2
        simp at m0 m1 m2
        refine bodyPost_ret (v := .tuple #[.agg #[.int .i64 (D0 : Int), .int .i64 (D1 : Int), (.slice (some ⟨gW, 0, none⟩) nW cW)], .int .i64 0]) ?_ rfl ⟨?_, HX.out.toBelow (by simp)⟩
        · rw [results_cell_tmp rfl]
          go_simp
        · rw [EO.out]
          exact ⟨_, rfl, HOX.out⟩
      · rw [if_neg hok] at EO
        have hX := hw11.store3 rb (by right; rw [ERB.out]; exact Nat.le_refl _) (.int .i64 0) (.int .i64 0) (.slice none 0 0)
        have HX := Lib.hid hX
        have HRX := Lib.hid (row_set (row_set (row_set hrr 0 (.int .i64 0)) 1 (.int .i64 0)) 2 (.slice none 0 0))
        have m0 := row_cell HRX.out 0
        have m1 := row_cell HRX.out 1
        have m2 := row_cell HRX.out 2
        simp at m0 m1 m2
        have HM : Hid (_ ∧ _ ∧ _) := Lib.hid ⟨m0, m1, m2⟩
        clear hX m0 m1 m2
        by_cases hn : r = []
        · have u1 : (r == []) = true := by rw [beq_iff_eq]; exact hn
          clear hn hok
          go_wp2_with fail
          obtain ⟨m0, m1, m2⟩ := HM.out
          refine bodyPost_ret (v := .tuple #[zeroF, .int .i64 4]) ?_ rfl ⟨?_, HX.out.toBelow (by simp)⟩
          · unfold zeroF
            rw [results_cell_tmp rfl]
            go_simp
          · rw [EO.out]
        · have u1 : (r == []) = false := by rw [beq_eq_false_iff_ne]; exact hn
          have u2 : (r != text) = true := by
            rw [bne_iff_ne]
            intro e
            exact hok ⟨e, by rw [← e]; exact hn⟩
          have u3 : (r == text) = false := by
            rw [beq_eq_false_iff_ne]
            intro e
            exact hok ⟨e, by rw [← e]; exact hn⟩
          clear hn hok
          go_wp2_with fail
          obtain ⟨m0, m1, m2⟩ := HM.out
          refine bodyPost_ret (v := .tuple #[zeroF, .int .i64 4]) ?_ rfl ⟨?_, HX.out.toBelow (by simp)⟩
          · unfold zeroF
            rw [results_cell_tmp rfl]
            go_simp
          · rw [EO.out]
end Go.Proofs.YtffldampcbfgjaaGreatDoor
namespace Go.Proofs.YtffldampcbfgjaaGreatDoor
open Go.RowKit

theorem valid_make {l : List Int} {bits hashes : Int} (hf : formF bits hashes = true) : validF ⟨bits, hashes, makeF l bits hashes⟩ = true := by
  unfold validF
  have hp := formF_parts hf
  simp only [hf, Bool.true_and, makeF_len, decide_eq_true_eq]
  omega
theorem has_make {l : List Int} {bits hashes s : Int} (hf : formF bits hashes = true) (hs : s ∈ l) : hasF ⟨bits, hashes, makeF l bits hashes⟩ s = true := by
  unfold hasF
  rw [valid_make hf, Bool.true_and]
  unfold hasW
  rw [List.all_eq_true]
  intro n hn
  show bitW (makeF l bits hashes) n = true
  unfold makeF
  rw [setsW_bit _ _ (by rw [List.length_replicate]; exact posA_lt hf)]
  have : n ∈ posA l bits hashes := List.mem_flatMap.2 ⟨s, hs, hn⟩
  simp [this]
theorem has_none {bits hashes s : Int} (hf : formF bits hashes = true) : hasF ⟨bits, hashes, makeF [] bits hashes⟩ s = false := by
  unfold hasF
  rw [valid_make hf, Bool.true_and]
  have hp := formF_parts hf
  unfold hasW
  rw [List.all_eq_false]
  refine ⟨posF s bits 0, List.mem_map.2 ⟨0, List.mem_range.2 (by show 0 < hashes.toNat; omega), rfl⟩, ?_⟩
  show ¬ bitW (List.replicate (bits / 64).toNat 0) _ = true
  rw [zeros_bit]
  simp
theorem itoa64 : Lib.itoa 64 = [54, 52] := by
  rw [show (64 : Int) = ((64 : Nat) : Int) from rfl, Lib.itoa_nonneg, dec_step 64 (by decide), dec_small (64 / 10) (by decide)]
  rfl
theorem itoa3 : Lib.itoa 3 = [51] := by
  rw [show (3 : Int) = ((3 : Nat) : Int) from rfl, Lib.itoa_nonneg, dec_small 3 (by decide)]
  rfl
theorem text64 (n : Nat) : textF ⟨64, 3, [n]⟩ = [54, 52, 32, 51, 32] ++ hexS n := by
  unfold textF wordsF
  rw [if_pos (by rfl), itoa64, itoa3]
  rfl
theorem OwnW.someN {base : Nat} {w : World} {v : Value} {l : List Nat} (h : OwnW base w v l) (hl : 0 < l.length) : ∃ g c, v = .slice (some ⟨g, 0, none⟩) l.length c := by
  rcases h.form with ⟨_, h0⟩ | ⟨g, c, _, h0, _⟩
  · rw [h0] at hl; simp at hl
  · exact ⟨g, c, h0⟩
def hd0 : List UInt8 := [54, 52]
def hd1 : List UInt8 := [51]
def hdl : List UInt8 := [48, 48, 48, 48, 48, 48, 48, 48, 48, 48, 48, 48, 48, 48, 102, 102]
def hdu : List UInt8 := [48, 48, 48, 48, 48, 48, 48, 48, 48, 48, 48, 48, 48, 48, 70, 70]
theorem parse_l (w : World) (hT : TabsF w) : Calls Tryz.prog 17 #[.string ⟨#[54, 52, 32, 51, 32, 48, 48, 48, 48, 48, 48, 48, 48, 48, 48, 48, 48, 48, 48, 102, 102]⟩] w (ParsePost w (some ⟨64, 3, [255]⟩)) := by
  have h := parseN_any (hd0 ++ 32 :: hd1 ++ 32 :: hdl) hd0 hd1 [hdl] w (by decide) (by decide) (by decide) (by decide) (by decide) (by decide) hT
  rwa [if_pos ⟨by rw [show numF hd0 hd1 [hdl] = ⟨64, 3, [255]⟩ by rfl, text64]; decide, by decide⟩] at h
theorem parse_u (w : World) (hT : TabsF w) : Calls Tryz.prog 17 #[.string ⟨#[54, 52, 32, 51, 32, 48, 48, 48, 48, 48, 48, 48, 48, 48, 48, 48, 48, 48, 48, 70, 70]⟩] w (ParsePost w none) := by
  have h := parseN_any (hd0 ++ 32 :: hd1 ++ 32 :: hdu) hd0 hd1 [hdu] w (by decide) (by decide) (by decide) (by decide) (by decide) (by decide) hT
  rwa [if_neg (fun hx => by
    have h1 := hx.1
    rw [show numF hd0 hd1 [hdu] = ⟨64, 3, [255]⟩ by rfl, text64] at h1
    exact absurd h1 (by decide))] at h
set_option maxRecDepth 100000 in
set_option maxHeartbeats 8000000 in
theorem head36_any (w : World) (hT : TabsF w) :
    Calls Tryz.prog 11 #[] w fun e w' => e = .returned (.bool true) ∧ Below w.heap.size w w' := by
  have HT := Lib.hid hT
  clear hT
  go_enter Tryz.func11, Tryz.ntmps11
  go_wp2_with fail
  refine (make_any (.slice none 0 0) [] 64 3 w (Or.inl ⟨rfl, none, rfl⟩) (fun s hs => by cases hs) HT.out.t).mono ?_
  rintro e w1 ⟨hq, _, hb1⟩
  obtain ⟨wv, rfl, ho1⟩ := hq (by decide)
  clear hq
  have hm1 : makeF [] 64 3 = [0] := by decide
  rw [hm1] at ho1
  obtain ⟨g1, c1, rfl⟩ := ho1.someN (by decide)
  rw [show ([0] : List Nat).length = 1 from rfl] at ho1 ⊢
  have f1 : Fr [] w w1 := Fr.ofBelow hb1
  have HO1 := Lib.hid ho1
  clear hb1 ho1 hm1
  go_wp2_with fail
  obtain ⟨W1, hW1⟩ : ∃ W, W = w1.alloc (.cells #[.int .i64 64, .int .i64 3, .slice (some ⟨g1, 0, none⟩) 1 c1] 25) := ⟨_, rfl⟩
  obtain ⟨p1, ep1⟩ : ∃ p, p = w1.heap.size := ⟨_, rfl⟩
  have hp1 : W1.heap[p1]? = some (.cells #[.int .i64 64, .int .i64 3, .slice (some ⟨g1, 0, none⟩) 1 c1] 25 (0, 0)) := by rw [hW1, ep1]; exact heap_new rfl
  have F1 : Fr [] w1 W1 := by rw [hW1]; exact (Fr.refl [] w1).alloc _
  rw [← hW1, ← ep1]
  have hFW1 := f1.trans F1 (by simp)
  clear hW1 ep1
  refine (make_any (.slice none 0 0) [] 100 3 W1 (Or.inl ⟨rfl, none, rfl⟩) (fun s hs => by cases hs) (HT.out.t.fr hFW1)).mono ?_
  rintro e w2 ⟨_, hq, hb2⟩
  obtain rfl := hq (by decide)
  clear hq
  have f2 : Fr [] W1 w2 := Fr.ofBelow hb2
  unfold zeroF
  clear hb2
  go_wp2_with fail
  obtain ⟨W2, hW2⟩ : ∃ W, W = (w2.alloc (.cells #[.int .i64 0, .int .i64 0, .slice none 0 0] 25)).alloc (.cells #[.int .i64 7, .int .i64 9] 3) := ⟨_, rfl⟩
  obtain ⟨p2, ep2⟩ : ∃ p, p = w2.heap.size := ⟨_, rfl⟩
  have F2 : Fr [] w2 W2 := by rw [hW2]; exact ((Fr.refl [] w2).alloc _).alloc _
  have hi2 : W2.heap[p2 + 1]? = some (.cells #[.int .i64 7, .int .i64 9] 3 (0, 0)) := by rw [hW2, ep2]; exact heap_new (by simp)
  rw [← hW2, ← ep2]
  have hFW2 := ((hFW1.trans f2 (by simp)).trans F2 (by simp))
  have hp1b := F2.at (f2.at hp1 (by simp)) (by simp)
  have HO2 := Lib.hid (((HO1.out.fr F1 (by simp)).fr f2 (by simp)).fr F2 (by simp))
  clear hW2 ep2 hp1 F1 HO1 f1 hFW1
  refine (make_any (.slice (some ⟨p2 + 1, 0, none⟩) 2 2) [7, 9] 640 4 W2 (Or.inr ⟨p2 + 1, 0, 2, rfl, Nat.le_refl _, by decide, lt_of_block hi2, fun i hi => by
    rw [row_cell hi2]
    match i, hi with
    | 0, _ => rfl
    | 1, _ => rfl⟩) (fun s hs => by
    rcases List.mem_cons.1 hs with rfl | hs
    · decide
    · rw [List.mem_singleton.1 hs]; decide) (HT.out.t.fr hFW2)).mono ?_
  rintro e w3 ⟨hq, _, hb3⟩
  obtain ⟨wv, rfl, ho3⟩ := hq (by decide)
  clear hq
  have H7 : Hid (hasF ⟨640, 4, makeF [7, 9] 640 4⟩ 7 = true) := Lib.hid (has_make (by decide) (by simp))
  have H9 : Hid (hasF ⟨640, 4, makeF [7, 9] 640 4⟩ 9 = true) := Lib.hid (has_make (by decide) (by simp))
  have HWh := Lib.hid (makeF_lt [7, 9] 640 4)
  have hlh : (makeF [7, 9] 640 4).length = 10 := makeF_len _ _ _
  generalize makeF [7, 9] 640 4 = H at ho3 H7 H9 HWh hlh
  obtain ⟨g3, c3, rfl⟩ := ho3.someN (by omega)
  rw [hlh] at ho3 ⊢
  have f3 : Fr [] W2 w3 := Fr.ofBelow hb3
  have HO3 := Lib.hid ho3
  clear hb3 ho3
  go_wp2_with fail
  obtain ⟨W3, hW3⟩ : ∃ W, W = w3.alloc (.cells #[.int .i64 640, .int .i64 4, .slice (some ⟨g3, 0, none⟩) 10 c3] 25) := ⟨_, rfl⟩
  obtain ⟨p3, ep3⟩ : ∃ p, p = w3.heap.size := ⟨_, rfl⟩
  have hp3 : W3.heap[p3]? = some (.cells #[.int .i64 640, .int .i64 4, .slice (some ⟨g3, 0, none⟩) 10 c3] 25 (0, 0)) := by rw [hW3, ep3]; exact heap_new rfl
  have F3 : Fr [] w3 W3 := by rw [hW3]; exact (Fr.refl [] w3).alloc _
  rw [← hW3, ← ep3]
  have hFW3 := (hFW2.trans f3 (by simp)).trans F3 (by simp)
  have F23 := f3.trans F3 (by simp)
  have HO33 := Lib.hid (HO3.out.fr F3 (by simp))
  clear hW3 ep3 hi2 F2 f2 f3 hFW2
  refine (parse_l W3 (HT.out.fr hFW3)).mono ?_
  rintro e w4 ⟨hq, hb4⟩
  obtain ⟨pv, rfl, ho4⟩ := hq
  obtain ⟨g4, c4, rfl⟩ := ho4.someN (by decide)
  rw [show ([255] : List Nat).length = 1 from rfl] at ho4 ⊢
  have f4 : Fr [] W3 w4 := Fr.ofBelow hb4
  have HO4 := Lib.hid ho4
  clear hb4 ho4
  go_wp2_with fail
  obtain ⟨W4, hW4⟩ : ∃ W, W = w4.alloc (.cells #[.int .i64 64, .int .i64 3, .slice (some ⟨g4, 0, none⟩) 1 c4] 25) := ⟨_, rfl⟩
  obtain ⟨p4, ep4⟩ : ∃ p, p = w4.heap.size := ⟨_, rfl⟩
  have hp4 : W4.heap[p4]? = some (.cells #[.int .i64 64, .int .i64 3, .slice (some ⟨g4, 0, none⟩) 1 c4] 25 (0, 0)) := by rw [hW4, ep4]; exact heap_new rfl
  have F4 : Fr [] w4 W4 := by rw [hW4]; exact (Fr.refl [] w4).alloc _
  rw [← hW4, ← ep4]
  have F34 := f4.trans F4 (by simp)
  have hFW4 := hFW3.trans F34 (by simp)
  clear hW4 ep4
  refine (parse_u W4 (HT.out.fr hFW4)).mono ?_
  rintro e w5 ⟨hq, hb5⟩
  obtain rfl := hq
  have f5 : Fr [] W4 w5 := Fr.ofBelow hb5
  unfold zeroF
  clear hb5
  obtain ⟨W5, hW5⟩ : ∃ W, W = w5.alloc (.cells #[.int .i64 0, .int .i64 0, .slice none 0 0] 25) := ⟨_, rfl⟩
  have F5 : Fr [] w5 W5 := by rw [hW5]; exact (Fr.refl [] w5).alloc _
  have F45 := f5.trans F5 (by simp)
  have hFW5 := hFW4.trans F45 (by simp)
  have F35 := F34.trans F45 (by simp)
  have F25 := F23.trans F35 (by simp)
  have b1 := F25.at hp1b (by simp)
  have b3 := F35.at hp3 (by simp)
  have b4 := F45.at hp4 (by simp)
  have hL1 : OwnW w.heap.size W5 (.slice (some ⟨g1, 0, none⟩) 1 c1) [0] := HO2.out.fr F25 (by simp)
  have hL3 := HO33.out.fr F35 (by simp)
  have hL4 := HO4.out.fr (F4.trans F45 (by simp)) (by simp)
  clear hp1b hp3 hp4 HO2 HO33 HO4 HO3 F23 F34 F35 F25 F45 F4 F5 f5 f4 F3 hFW3 hFW4
  have m0 := row_cell b1 0
  have m1 := row_cell b1 1
  have m2 := row_cell b1 2
  have n0 := row_cell b3 0
  have n1 := row_cell b3 1
  have n2 := row_cell b3 2
  have q2 := row_cell b4 2
  simp at m0 m1 m2 n0 n1 n2 q2
  rw [hW5] at m0 m1 m2
  go_wp2_with fail
  rw [← hW5]
  rw [← hW5] at m0 m1 m2
  clear m0 m1 m2 n0 n1 n2 q2 hW5
  have HL1 := Lib.hid hL1
  have HL3 := Lib.hid hL3
  have HL4 := Lib.hid hL4
  have hTW := HT.out.fr hFW5
  clear hL1 hL3 hL4
  have htx := ftext_any (.agg #[.int .i64 64, .int .i64 3, .slice (some ⟨g1, 0, none⟩) 1 c1]) ⟨64, 3, [0]⟩ W5 ⟨_, rfl, HL1.out.ws⟩ (by intro x hx; rw [List.mem_singleton.1 hx]; decide) hTW
  rw [text64, show ([54, 52, 32, 51, 32] ++ hexS 0 : List UInt8) = [54, 52, 32, 51, 32, 48, 48, 48, 48, 48, 48, 48, 48, 48, 48, 48, 48, 48, 48, 48, 48] by decide] at htx
  refine htx.mono ?_
  rintro e x1 ⟨rfl, hx1⟩
  have k1 : Fr [] W5 x1 := Fr.ofBelow hx1
  have e1 := k1.at b3 (by simp)
  have n0 := row_cell e1 0
  have n1 := row_cell e1 1
  have n2 := row_cell e1 2
  simp at n0 n1 n2
  clear hx1 htx e1
  go_wp2_with fail
  have hh7 := has_any (.agg #[.int .i64 640, .int .i64 4, .slice (some ⟨g3, 0, none⟩) 10 c3]) ⟨640, 4, H⟩ 7 x1 ⟨_, rfl, (HL3.out.fr k1 (by simp)).ws⟩ HWh.out (by decide) (hTW.fr k1).t
  rw [H7.out] at hh7
  refine hh7.mono ?_
  rintro e x2 ⟨rfl, hx2⟩
  have k2 : Fr [] W5 x2 := k1.below hx2 k1.size
  have e1 := k2.at b3 (by simp)
  clear n0 n1 n2
  have n0 := row_cell e1 0
  have n1 := row_cell e1 1
  have n2 := row_cell e1 2
  simp at n0 n1 n2
  clear hx2 hh7 e1
  go_wp2_with fail
  have hh9 := has_any (.agg #[.int .i64 640, .int .i64 4, .slice (some ⟨g3, 0, none⟩) 10 c3]) ⟨640, 4, H⟩ 9 x2 ⟨_, rfl, (HL3.out.fr k2 (by simp)).ws⟩ HWh.out (by decide) (hTW.fr k2).t
  rw [H9.out] at hh9
  refine hh9.mono ?_
  rintro e x3 ⟨rfl, hx3⟩
  have k3 : Fr [] W5 x3 := k2.below hx3 k2.size
  have e1 := k3.at b1 (by simp)
  clear n0 n1 n2
  have n0 := row_cell e1 0
  have n1 := row_cell e1 1
  have n2 := row_cell e1 2
  simp at n0 n1 n2
  clear hx3 hh9 e1
  go_wp2_with fail
  have hh1 := has_any (.agg #[.int .i64 64, .int .i64 3, .slice (some ⟨g1, 0, none⟩) 1 c1]) ⟨64, 3, [0]⟩ 7 x3 ⟨_, rfl, (HL1.out.fr k3 (by simp)).ws⟩ (by intro x hx; rw [List.mem_singleton.1 hx]; decide) (by decide) (hTW.fr k3).t
  have hz : hasF ⟨64, 3, [0]⟩ 7 = false := has_none (bits := 64) (hashes := 3) (s := 7) (by decide)
  rw [hz] at hh1
  refine hh1.mono ?_
  rintro e x4 ⟨rfl, hx4⟩
  have k4 : Fr [] W5 x4 := k3.below hx4 k3.size
  have e1 := k4.at b4 (by simp)
  clear n0 n1 n2
  have n2 := row_cell e1 2
  simp at n2
  have e2 := HL4.out.fr k4 (by simp)
  obtain ⟨cur, _, e3, _, _, _, e6⟩ := e2.formN rfl
  have r0 := row_cell e3 0
  rw [wrdV_at e6 rfl 0 (by decide)] at r0
  rw [show ([255] : List Nat).getD 0 0 = 255 from rfl] at r0
  clear hx4 hh1 e1 e2 e3 e6 hz
  go_wp2_with fail
  have hh0 := has_any (.agg #[.int .i64 0, .int .i64 0, .slice none 0 0]) ⟨0, 0, []⟩ 7 x4 ⟨_, rfl, Or.inl ⟨rfl, none, rfl⟩⟩ (by intro x hx; cases hx) (by decide) (hTW.fr k4).t
  rw [show hasF ⟨0, 0, []⟩ 7 = false by rfl] at hh0
  refine hh0.mono ?_
  rintro e x5 ⟨rfl, hx5⟩
  have k5 : Fr [] W5 x5 := k4.below hx5 k4.size
  clear n2 r0 hh0 hx5
  go_wp2_with fail
  go_ret
  exact ⟨rfl, (hFW5.trans k5 (by simp)).toBelow (by simp)⟩
end Go.Proofs.YtffldampcbfgjaaGreatDoor
