/-
  filter.Text.
  filter.Parse, where the words of the text are numerals.
  foyerlaw36.head: true.
-/
import Derived.Test.YtglgkdbhdjkeaaaGreatDoorRep
import Derived.Test.YtglgkdbhdjkeaaaGreatDoorRefB
namespace Go.Proofs.YtglgkdbhdjkeaaaGreatDoor
open Go.RowKit

set_option maxRecDepth 100000 in
set_option maxHeartbeats 4000000 in
theorem ftext_any (v : Value) (f : Flt) (w : World) (hv : FltR w v f) (hW : W64 f.words) (hT : TabsF w) :
    Calls Tryz.prog 56 #[v] w fun e w' => e = .returned (.string ⟨(textF f).toArray⟩) ∧ Below w.heap.size w w' := by
  obtain ⟨wv, rfl, hw⟩ := hv
  obtain ⟨wa, wcap, rfl, hwl, hwc, hwa⟩ := hw.form
  have HWS := Lib.hid hw
  have HT := Lib.hid hT
  have HW := Lib.hid hW
  clear hw hT hW
  obtain ⟨r, er⟩ : ∃ r, r = textF f := ⟨_, rfl⟩
  rw [← er]
  have ER := Lib.hid er
  clear er
  obtain ⟨W0, hW0⟩ : ∃ W0, W0 = w.alloc (.cells #[.int .i64 f.bits, .int .i64 f.hashes, .slice wa f.words.length wcap] 37) := ⟨_, rfl⟩
  obtain ⟨bf, ebf⟩ : ∃ bf, bf = w.heap.size := ⟨_, rfl⟩
  have hf0 : Fr [] w W0 := by rw [hW0]; exact (Fr.refl [] w).alloc _
  have hb0 : W0.heap[bf]? = some (.cells #[.int .i64 f.bits, .int .i64 f.hashes, .slice wa f.words.length wcap] 37 (0, 0)) := by rw [hW0, ebf]; exact heap_new rfl
  have c0 := row_cell hb0 0
  have c1 := row_cell hb0 1
  have c2 := row_cell hb0 2
  simp at c0 c1 c2
  rw [hW0, ebf] at c0 c1 c2
  go_enter Tryz.func56, Tryz.ntmps56
  go_wp2_with fail
  rw [← hW0, ← ebf]
  clear c0 c1 c2
  refine (valid_any _ f W0 ⟨_, rfl, HWS.out.fr0 hf0⟩).mono ?_
  rintro e w1 ⟨rfl, hb1⟩
  have h1 : Fr [] w w1 := hf0.below hb1 hf0.size
  have hq0 := (Fr.ofBelow (X := []) hb1).at hb0 (by simp)
  have EBF := Lib.hid ebf
  clear hb1 hb0 hW0 hf0 ebf
  have c0 := row_cell hq0 0
  have c1 := row_cell hq0 1
  have c2 := row_cell hq0 2
  simp at c0 c1 c2
  obtain ⟨vo, evo⟩ : ∃ vo, vo = validF f := ⟨_, rfl⟩
  rw [← evo]
  have HVO := Lib.hid evo
  clear evo
  cases vo with
  | false =>
    have HR : Hid (r = []) := Lib.hid (by rw [ER.out]; exact textF_nil HVO.out.symm)
    go_wp2_with fail
    go_ret
    exact ⟨by rw [HR.out]; rfl, h1.toBelow (by simp)⟩
  | true =>
    obtain ⟨hform, hlen⟩ := validF_parts HVO.out.symm
    have hp := formF_parts hform
    have hlw : f.words.length ≤ 1024 := by omega
    have e1 : f.bits.tdiv 64 = (f.words.length : Int) := by rw [Int.tdiv_eq_ediv_of_nonneg (by omega), hlen]
    have e2 : IntKind.i64.wrap (f.words.length : Int) = (f.words.length : Int) := IntWalk.i64_in _ (by omega)
    have HP := Lib.hid hp
    have hb1 : -9223372036854775808 ≤ f.bits := by omega
    have hb2 : f.bits ≤ 9223372036854775807 := by omega
    have hh1 : -9223372036854775808 ≤ f.hashes := by omega
    have hh2 : f.hashes ≤ 9223372036854775807 := by omega
    have hl1 := Lib.itoa_length_le f.bits hb1 hb2
    have hl2 := Lib.itoa_length_le f.hashes hh1 hh2
    have hmx : Tryz.prog.follows .mixedOrders = true := by kernel_rfl
    clear hform hlen hp
    go_wp2_with fail
    have hS0 : w1.drew.cell? ⟨bf, 0, none⟩ = some (.int .i64 f.bits) ∧ w1.drew.cell? ⟨bf, 1, none⟩ = some (.int .i64 f.hashes) := ⟨c0, c1⟩
    have hD : Fr [] w1 w1.drew := (Fr.refl [] w1).drew
    refine region_held 7 (fun W' => W'.cell? ⟨bf, 0, none⟩ = some (.int .i64 f.bits) ∧ W'.cell? ⟨bf, 1, none⟩ = some (.int .i64 f.hashes)) hmx ?_
    change Held _ _ _ _ _ _ 8 (Array.replicate 8 false) _ _
    refine hd_take 0 (v := .pointer (some ⟨bf, 0, none⟩)) rfl (by kernel_rfl) (by kernel_rfl) (by kernel_rfl) rfl hS0 (fun W' hS => by go_simp) rfl ?_
    refine hd_take 3 (v := .pointer (some ⟨bf, 1, none⟩)) rfl (by kernel_rfl) (by kernel_rfl) (by kernel_rfl) rfl hS0 (fun W' hS => by go_simp) rfl ?_
    simp only [Act.put, List.setIfInBounds_toArray, List.set_cons_zero, List.set_cons_succ]
    refine hd_take 1 (v := .int .i64 f.bits) rfl (by kernel_rfl) (by kernel_rfl) (by kernel_rfl) rfl hS0 (fun W' hS => by obtain ⟨s0, s1⟩ := hS; go_simp) rfl ?_
    refine hd_take 4 (v := .int .i64 f.hashes) rfl (by kernel_rfl) (by kernel_rfl) (by kernel_rfl) rfl hS0 (fun W' hS => by obtain ⟨s0, s1⟩ := hS; go_simp) rfl ?_
    simp only [Act.put, List.setIfInBounds_toArray, List.set_cons_zero, List.set_cons_succ]
    refine hd_one 2 (by kernel_rfl) rfl (by kernel_rfl) rfl (fun K' hK => ?_)
    go_simp
    refine (itoaI_any f.bits _ hb1 hb2 ((HT.out.fr h1).t.fr hD)).mono ?_
    rintro e w2 ⟨rfl, hbb2⟩
    have hf2 : Fr [] w1 w2 := hD.below hbb2 (Nat.le_refl _)
    refine hK.out _ _ (fun _ => ⟨hf2.cell c0 (by simp), hf2.cell c1 (by simp)⟩) ?_
    clear hK K'
    try simp only [Act.put, List.setIfInBounds_toArray, List.set_cons_zero, List.set_cons_succ]
    refine hd_one 5 (by kernel_rfl) rfl (by kernel_rfl) rfl (fun K' hK => ?_)
    go_simp
    refine (itoaI_any f.hashes _ hh1 hh2 ((HT.out.fr h1).t.fr hf2)).mono ?_
    rintro e w3 ⟨rfl, hbb3⟩
    have hf3 : Fr [] w1 w3 := hf2.below hbb3 hf2.size
    refine hK.out _ _ (fun _ => ⟨hf3.cell c0 (by simp), hf3.cell c1 (by simp)⟩) ?_
    clear hK K'
    try simp only [Act.put, List.setIfInBounds_toArray, List.set_cons_zero, List.set_cons_succ]
    have hos : OwnS w3.heap.size (w3.alloc (.cells #[.string ⟨(Lib.itoa f.bits).toArray⟩, .string ⟨(Lib.itoa f.hashes).toArray⟩] 9)) (.slice (some ⟨w3.heap.size, 0, none⟩) 2 2) [Lib.itoa f.bits, Lib.itoa f.hashes] := by
      refine ⟨rfl, Or.inr ⟨w3.heap.size, 2, _, rfl, Nat.le_refl _, heap_new rfl, Nat.le_refl _, by decide, rfl, rfl⟩⟩
    refine hd_one 6 (by kernel_rfl) rfl (by kernel_rfl) rfl (fun K' hK => ?_)
    go_simp
    have hf4 := hf3.alloc (.cells #[.string ⟨(Lib.itoa f.bits).toArray⟩, .string ⟨(Lib.itoa f.hashes).toArray⟩] 9)
    refine hK.out _ _ (fun _ => ⟨hf4.cell c0 (by simp), hf4.cell c1 (by simp)⟩) ?_
    clear hK K'
    try simp only [Act.put, List.setIfInBounds_toArray, List.set_cons_zero, List.set_cons_succ]
    obtain ⟨w4, hw4⟩ : ∃ w4, w4 = w3.alloc (.cells #[.string ⟨(Lib.itoa f.bits).toArray⟩, .string ⟨(Lib.itoa f.hashes).toArray⟩] 9) := ⟨_, rfl⟩
    rw [← hw4] at hos hf4 ⊢
    clear hw4
    refine hd_one 7 (by kernel_rfl) rfl (by kernel_rfl) rfl (fun K' hK => ?_)
    go_simp
    refine hK.out _ _ (fun h => absurd rfl h) ?_
    clear hK K'
    refine held_done (by kernel_rfl) ?_
    have h14 : Fr [] w w4 := h1.trans hf4 (by simp)
    have hq4 := hf4.at hq0 (by simp)
    have hosw : OwnS w1.heap.size w4 (.slice (some ⟨w3.heap.size, 0, none⟩) 2 2) [Lib.itoa f.bits, Lib.itoa f.hashes] := hos.mono hf3.size
    have hbf1 : bf < w1.heap.size := lt_of_block hq0
    have hw1s := h1.size
    have hw14 := hf4.size
    have HOS := Lib.hid hosw
    have HQ4 := Lib.hid hq4
    clear hos hosw hS0 hD hf2 hf3 c0 c1 c2 hq0 hf4 hq4 hbb2 hbb3
    have c0 := row_cell HQ4.out 0
    simp at c0
    go_wp2_with fail
    clear c0
    have HWL : Hid ((wordsF f).length = f.words.length + 2) := Lib.hid (by simp [wordsF])
    go_loopg [3, 19] f.words.length (fun gh out i wr => ∃ k : Nat, k ≤ f.words.length ∧ gh = f.words.length - k ∧ i = .int .i64 (k : Int) ∧ OwnS w1.heap.size wr out ((wordsF f).take (k + 2)) ∧ Fr [] w wr ∧ w1.heap.size ≤ wr.heap.size ∧ wr.heap[bf]? = some (.cells #[.int .i64 f.bits, .int .i64 f.hashes, .slice wa f.words.length wcap] 37 (0, 0)))
    case atStart => exact ⟨0, by omega, by omega, rfl, HOS.out, h14, hw14, HQ4.out⟩
    case round =>
      clear HOS HQ4
      obtain ⟨k, hk, hgh, rfl, hos, hfr, hsz, hq⟩ := hrel
      have HG := Lib.hid hgh
      have HOS := Lib.hid hos
      have HQ := Lib.hid hq
      clear hgh hos
      have d2 := row_cell hq 2
      simp at d2
      clear hq
      by_cases hlt : k < f.words.length
      · have t1 : decide ((k : Int) < (f.words.length : Int)) = true := by simp; omega
        obtain ⟨b, off, rfl⟩ := hwa k hlt
        have cx : wr.cell? ⟨b, off + k, none⟩ = some (.int .u64 (f.words.getD k 0 : Nat)) := by
          rcases HWS.out with ⟨h0, _⟩ | ⟨b', off', cap', h0, _, _, _, h4⟩
          · exact absurd (congrArg List.length h0) (by simp only [List.length_nil]; omega)
          · cases h0; exact hfr.cell (h4 k hlt) (by simp)
        have hX := HW.out.at k
        rw [show (2 : Nat) ^ 64 = 18446744073709551616 by decide] at hX
        have HSN : Hid ((wordsF f).take (k + 1 + 2) = (wordsF f).take (k + 2) ++ [hexS (f.words.getD k 0)]) := Lib.hid (by
          have hl := HWL.out
          rw [show k + 1 + 2 = (k + 2) + 1 by omega, take_snoc' _ (k + 2) [] (by omega)]
          congr 2
          unfold wordsF
          rw [List.getD_cons_succ, List.getD_cons_succ, List.getD_eq_getElem?_getD, List.getElem?_map, List.getElem?_eq_getElem hlt, List.getD_eq_getElem?_getD, List.getElem?_eq_getElem hlt]
          rfl)
        generalize f.words.getD k 0 = X at cx hX HSN
        have hlen := hexD_len X hX
        have HFI := Lib.hid (hexD_fill X hX)
        have i0 : (0 : Int) ≤ (k : Int) := by omega
        have i1 : (k : Int) < (f.words.length : Int) := by omega
        go_wp2_with fail
        refine (formatUint_any X wr hX (HT.out.fr hfr)).mono ?_
        rintro e w5 ⟨rfl, hb5⟩
        have h15 : Fr [] wr w5 := Fr.ofBelow hb5
        generalize hexD X = dg at hlen HFI
        obtain ⟨n, hn⟩ : ∃ n : Nat, n + dg.length = 16 := ⟨16 - dg.length, by omega⟩
        have hn2 : (16 : Int) - (dg.length : Int) = (n : Int) := by omega
        have hn3 : 16 - dg.length = n := by omega
        have hn4 : IntKind.i64.wrap (n : Int) = (n : Int) := IntWalk.i64_in _ (by omega)
        rw [hn3] at HFI
        have HN := Lib.hid hn
        have hn15 : n ≤ 15 := by omega
        have hds : (ByteArray.mk dg.toArray).size = dg.length := ba_size dg
        have hdr : (ByteArray.mk (List.replicate n (48 : UInt8)).toArray).size = n := by rw [ba_size, List.length_replicate]
        have hba := ba_append (List.replicate n 48) dg
        rw [HFI.out, List.toArray_replicate] at hba
        rw [List.toArray_replicate] at hdr
        have hns : ¬ (9223372036854775807 < n + dg.length) := by omega
        clear hn hn3 hb5 cx d2
        go_wp2_with fail
        refine (repeat_any n w5 hn15).mono ?_
        rintro e w6 ⟨rfl, rfl⟩
        have hl2 : ((wordsF f).take (k + 2)).length < 1000000 := by have := HWL.out; rw [List.length_take]; omega
        go_wp2_with (at_builtin; go_loud (refine wpList_appS rfl (.tmp 28) (.tmp 35) rfl w1.heap.size u3 ((wordsF f).take (k + 2)) (hexS X) w rfl rfl (HOS.out.fr h15 (by simp)) (hfr.trans h15 (by simp)) hw1s (Nat.le_trans hsz h15.size) hl2 ?_))
        intro v7 w7 g7 c7 hv7 ho7 hf7 hg7
        subst hv7
        have HO7 := Lib.hid ho7
        have HQ7 := Lib.hid (hg7.at (h15.at HQ.out (by simp)) (fun hm => by
          have := (ownBlock_cells HOS.out bf (by simpa using hm)).1
          omega))
        have hs7 : w1.heap.size ≤ w7.heap.size := Nat.le_trans (Nat.le_trans hsz h15.size) hg7.size
        clear ho7 hg7
        go_wp2_with fail
        go_roundg (f.words.length - (k + 1))
        case measure => have := HG.out; omega
        case rel => exact ⟨k + 1, by omega, rfl, by go_num, by rw [HSN.out]; exact HO7.out, hf7, hs7, HQ7.out⟩
      · obtain rfl : k = f.words.length := by omega
        have t1 : decide ((f.words.length : Int) < (f.words.length : Int)) = false := by simp
        have HTA : Hid ((wordsF f).take (f.words.length + 2) = wordsF f) := Lib.hid (List.take_of_length_le (by rw [HWL.out]; exact Nat.le_refl _))
        rw [HTA.out] at HOS
        obtain ⟨g, cap, hu3⟩ := HOS.out.slice HWL.out (by omega)
        subst hu3
        have HS := Lib.hid HOS.out.strs
        have hcap : f.words.length + 2 ≤ cap ∧ cap ≤ 9223372036854775807 := by
          rcases HS.out with ⟨h0, _⟩ | ⟨_, _, _, h0, h2, h3, _⟩
          · cases h0
          · simp only [Value.slice.injEq] at h0
            rw [h0.2.2]
            rw [HWL.out] at h2
            exact ⟨h2, h3⟩
        have hlens : Lib.lens (wordsF f) ≤ (wordsF f).length * 22 := lens_le _ 22 (fun x hx => by
          unfold wordsF at hx
          rcases List.mem_cons.1 hx with rfl | hx
          · omega
          rcases List.mem_cons.1 hx with rfl | hx
          · omega
          obtain ⟨y, _, rfl⟩ := List.mem_map.1 hx
          rw [hexS_length]; omega)
        rw [HWL.out] at hlens
        have hjoin := joinN_any g 0 cap (wordsF f) wr (by rw [HWL.out]; omega) (by rw [HWL.out]; exact hcap.1) hcap.2 (by rw [HWL.out]; omega) (by rw [HWL.out]; omega) (by rw [HWL.out]; exact HS.out)
        rw [HWL.out] at hjoin
        have HR : Hid (r = spS (wordsF f)) := Lib.hid (by rw [ER.out]; unfold textF; rw [← HVO.out]; rfl)
        have HJ := Lib.hid hjoin
        clear hjoin hlens hcap d2
        go_wp2_with fail
        refine HJ.out.mono ?_
        rintro e w8 ⟨rfl, hb8⟩
        go_wp2_with fail
        go_ret
        exact ⟨by rw [HR.out]; rfl, (hfr.below hb8 hfr.size).toBelow (by simp)⟩
end Go.Proofs.YtglgkdbhdjkeaaaGreatDoor
namespace Go.Proofs.YtglgkdbhdjkeaaaGreatDoor
open Go.RowKit

theorem strs_map {w : World} {b : Nat} {l : List (List UInt8)} (h : w.heap[b]? = some (.cells (l.map strV).toArray 9 (0, 0))) (hl : l.length ≤ 1000000) : Strs w (.slice (some ⟨b, 0, none⟩) l.length l.length) l := by
  refine Or.inr ⟨b, 0, l.length, rfl, Nat.le_refl _, by omega, lt_of_block h, fun i hi => ?_⟩
  rw [row_cell h, Nat.zero_add, List.getElem?_toArray, List.getElem?_map, List.getElem?_eq_getElem hi, List.getD_eq_getElem?_getD, List.getElem?_eq_getElem hi]
  rfl
/-- The filter that numerals stand for. -/
def numF (w0 w1 : List UInt8) (ws : List (List UInt8)) : Flt := ⟨(dV w0 : Int), (dV w1 : Int), ws.map uV⟩
/-- What Parse returns. -/
def ParsePost (w : World) (o : Option Flt) (e : Ending) (w' : World) : Prop :=
  (match o with
   | some f => ∃ wv, e = .returned (.tuple #[.agg #[.int .i64 f.bits, .int .i64 f.hashes, wv], .int .i64 0]) ∧ OwnW w.heap.size w' wv f.words
   | none => e = .returned (.tuple #[zeroF, .int .i64 4])) ∧ Below w.heap.size w w'

end Go.Proofs.YtglgkdbhdjkeaaaGreatDoor
namespace Go.Proofs.YtglgkdbhdjkeaaaGreatDoor
open Go.RowKit

theorem valid_make {l : List Int} {bits hashes : Int} (hf : formF bits hashes = true) : validF ⟨bits, hashes, makeF l bits hashes⟩ = true := by
  unfold validF
  have hp := formF_parts hf
  simp only [hf, Bool.true_and, makeF_len, decide_eq_true_eq]
  omega
theorem has_make {l : List Int} {bits hashes s : Int} (hf : formF bits hashes = true) (hs : s ∈ l) : hasF ⟨bits, hashes, makeF l bits hashes⟩ s = true := by
  unfold hasF
  rw [valid_make hf, Bool.true_and]
  unfold hasW
  rw [List.all_eq_true]
  intro n hn
  show bitW (makeF l bits hashes) n = true
  unfold makeF
  rw [setsW_bit _ _ (by rw [List.length_replicate]; exact posA_lt hf)]
  have : n ∈ posA l bits hashes := List.mem_flatMap.2 ⟨s, hs, hn⟩
  simp [this]
theorem has_none {bits hashes s : Int} (hf : formF bits hashes = true) : hasF ⟨bits, hashes, makeF [] bits hashes⟩ s = false := by
  unfold hasF
  rw [valid_make hf, Bool.true_and]
  have hp := formF_parts hf
  unfold hasW
  rw [List.all_eq_false]
  refine ⟨posF s bits 0, List.mem_map.2 ⟨0, List.mem_range.2 (by show 0 < hashes.toNat; omega), rfl⟩, ?_⟩
  show ¬ bitW (List.replicate (bits / 64).toNat 0) _ = true
  rw [zeros_bit]
  simp
theorem itoa64 : Lib.itoa 64 = [54, 52] := by
  rw [show (64 : Int) = ((64 : Nat) : Int) from rfl, Lib.itoa_nonneg, dec_step 64 (by decide), dec_small (64 / 10) (by decide)]
  rfl
theorem itoa3 : Lib.itoa 3 = [51] := by
  rw [show (3 : Int) = ((3 : Nat) : Int) from rfl, Lib.itoa_nonneg, dec_small 3 (by decide)]
  rfl
theorem text64 (n : Nat) : textF ⟨64, 3, [n]⟩ = [54, 52, 32, 51, 32] ++ hexS n := by
  unfold textF wordsF
  rw [if_pos (by rfl), itoa64, itoa3]
  rfl
theorem OwnW.someN {base : Nat} {w : World} {v : Value} {l : List Nat} (h : OwnW base w v l) (hl : 0 < l.length) : ∃ g c, v = .slice (some ⟨g, 0, none⟩) l.length c := by
  rcases h.form with ⟨_, h0⟩ | ⟨g, c, _, h0, _⟩
  · rw [h0] at hl; simp at hl
  · exact ⟨g, c, h0⟩
def hd0 : List UInt8 := [54, 52]
def hd1 : List UInt8 := [51]
def hdl : List UInt8 := [48, 48, 48, 48, 48, 48, 48, 48, 48, 48, 48, 48, 48, 48, 102, 102]
def hdu : List UInt8 := [48, 48, 48, 48, 48, 48, 48, 48, 48, 48, 48, 48, 48, 48, 70, 70]
end Go.Proofs.YtglgkdbhdjkeaaaGreatDoor
