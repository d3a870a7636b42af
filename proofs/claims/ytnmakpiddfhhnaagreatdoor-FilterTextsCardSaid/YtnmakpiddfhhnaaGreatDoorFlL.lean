/-
  foyerlaw36.head: true.
-/
import Derived.Test.YtnmakpiddfhhnaaGreatDoorFlK
import Derived.Test.YtnmakpiddfhhnaaGreatDoorRefB
namespace Go.Proofs.YtnmakpiddfhhnaaGreatDoor
open Go.RowKit

theorem valid_make {l : List Int} {bits hashes : Int} (hf : formF bits hashes = true) : validF ⟨bits, hashes, makeF l bits hashes⟩ = true := by
  unfold validF
  have hp := formF_parts hf
  simp only [hf, Bool.true_and, makeF_len, decide_eq_true_eq]
  omega
theorem has_make {l : List Int} {bits hashes s : Int} (hf : formF bits hashes = true) (hs : s ∈ l) : hasF ⟨bits, hashes, makeF l bits hashes⟩ s = true := by
  unfold hasF
  rw [valid_make hf, Bool.true_and]
  unfold hasW
  rw [List.all_eq_true]
  intro n hn
  show bitW (makeF l bits hashes) n = true
  unfold makeF
  rw [setsW_bit _ _ (by rw [List.length_replicate]; exact posA_lt hf)]
  have : n ∈ posA l bits hashes := List.mem_flatMap.2 ⟨s, hs, hn⟩
  simp [this]
theorem has_none {bits hashes s : Int} (hf : formF bits hashes = true) : hasF ⟨bits, hashes, makeF [] bits hashes⟩ s = false := by
  unfold hasF
  rw [valid_make hf, Bool.true_and]
  have hp := formF_parts hf
  unfold hasW
  rw [List.all_eq_false]
  refine ⟨posF s bits 0, List.mem_map.2 ⟨0, List.mem_range.2 (by show 0 < hashes.toNat; omega), rfl⟩, ?_⟩
  show ¬ bitW (List.replicate (bits / 64).toNat 0) _ = true
  rw [zeros_bit]
  simp
theorem itoa64 : Lib.itoa 64 = [54, 52] := by
  rw [show (64 : Int) = ((64 : Nat) : Int) from rfl, Lib.itoa_nonneg, dec_step 64 (by decide), dec_small (64 / 10) (by decide)]
  rfl
theorem itoa3 : Lib.itoa 3 = [51] := by
  rw [show (3 : Int) = ((3 : Nat) : Int) from rfl, Lib.itoa_nonneg, dec_small 3 (by decide)]
  rfl
theorem text64 (n : Nat) : textF ⟨64, 3, [n]⟩ = [54, 52, 32, 51, 32] ++ hexS n := by
  unfold textF wordsF
  rw [if_pos (by rfl), itoa64, itoa3]
  rfl
theorem OwnW.someN {base : Nat} {w : World} {v : Value} {l : List Nat} (h : OwnW base w v l) (hl : 0 < l.length) : ∃ g c, v = .slice (some ⟨g, 0, none⟩) l.length c := by
  rcases h.form with ⟨_, h0⟩ | ⟨g, c, _, h0, _⟩
  · rw [h0] at hl; simp at hl
  · exact ⟨g, c, h0⟩
def hd0 : List UInt8 := [54, 52]
def hd1 : List UInt8 := [51]
def hdl : List UInt8 := [48, 48, 48, 48, 48, 48, 48, 48, 48, 48, 48, 48, 48, 48, 102, 102]
def hdu : List UInt8 := [48, 48, 48, 48, 48, 48, 48, 48, 48, 48, 48, 48, 48, 48, 70, 70]
theorem parse_l (w : World) (hT : TabsF w) : Calls Tryz.prog 11 #[.string ⟨#[54, 52, 32, 51, 32, 48, 48, 48, 48, 48, 48, 48, 48, 48, 48, 48, 48, 48, 48, 102, 102]⟩] w (ParsePost w (some ⟨64, 3, [255]⟩)) := by
  have h := parseN_any (hd0 ++ 32 :: hd1 ++ 32 :: hdl) hd0 hd1 [hdl] w (by decide) (by decide) (by decide) (by decide) (by decide) (by decide) hT
  rwa [if_pos ⟨by rw [show numF hd0 hd1 [hdl] = ⟨64, 3, [255]⟩ by rfl, text64]; decide, by decide⟩] at h
theorem parse_u (w : World) (hT : TabsF w) : Calls Tryz.prog 11 #[.string ⟨#[54, 52, 32, 51, 32, 48, 48, 48, 48, 48, 48, 48, 48, 48, 48, 48, 48, 48, 48, 70, 70]⟩] w (ParsePost w none) := by
  have h := parseN_any (hd0 ++ 32 :: hd1 ++ 32 :: hdu) hd0 hd1 [hdu] w (by decide) (by decide) (by decide) (by decide) (by decide) (by decide) hT
  rwa [if_neg (fun hx => by
    have h1 := hx.1
    rw [show numF hd0 hd1 [hdu] = ⟨64, 3, [255]⟩ by rfl, text64] at h1
    exact absurd h1 (by decide))] at h
set_option maxRecDepth 100000 in
set_option maxHeartbeats 8000000 in
theorem head36_any (w : World) (hT : TabsF w) :
    Calls Tryz.prog 8 #[] w fun e w' => e = .returned (.bool true) ∧ Below w.heap.size w w' := by
  have HT := Lib.hid hT
  clear hT
  go_enter Tryz.func8, Tryz.ntmps8
  go_wp2_with fail
  refine (make_any (.slice none 0 0) [] 64 3 w (Or.inl ⟨rfl, rfl⟩) (fun s hs => by cases hs) HT.out.t).mono ?_
  rintro e w1 ⟨hq, _, hb1⟩
  obtain ⟨wv, rfl, ho1⟩ := hq (by decide)
  clear hq
  have hm1 : makeF [] 64 3 = [0] := by decide
  rw [hm1] at ho1
  obtain ⟨g1, c1, rfl⟩ := ho1.someN (by decide)
  rw [show ([0] : List Nat).length = 1 from rfl] at ho1 ⊢
  have f1 : Fr [] w w1 := Fr.ofBelow hb1
  have HO1 := Lib.hid ho1
  clear hb1 ho1 hm1
  go_wp2_with fail
  obtain ⟨W1, hW1⟩ : ∃ W, W = w1.alloc (.cells #[.int .i64 64, .int .i64 3, .slice (some ⟨g1, 0, none⟩) 1 c1] 24) := ⟨_, rfl⟩
  obtain ⟨p1, ep1⟩ : ∃ p, p = w1.heap.size := ⟨_, rfl⟩
  have hp1 : W1.heap[p1]? = some (.cells #[.int .i64 64, .int .i64 3, .slice (some ⟨g1, 0, none⟩) 1 c1] 24 (0, 0)) := by rw [hW1, ep1]; exact heap_new rfl
  have F1 : Fr [] w1 W1 := by rw [hW1]; exact (Fr.refl [] w1).alloc _
  rw [← hW1, ← ep1]
  have hFW1 := f1.trans F1 (by simp)
  clear hW1 ep1
  refine (make_any (.slice none 0 0) [] 100 3 W1 (Or.inl ⟨rfl, rfl⟩) (fun s hs => by cases hs) (HT.out.t.fr hFW1)).mono ?_
  rintro e w2 ⟨_, hq, hb2⟩
  obtain rfl := hq (by decide)
  clear hq
  have f2 : Fr [] W1 w2 := Fr.ofBelow hb2
  unfold zeroF
  clear hb2
  go_wp2_with fail
  obtain ⟨W2, hW2⟩ : ∃ W, W = (w2.alloc (.cells #[.int .i64 0, .int .i64 0, .slice none 0 0] 24)).alloc (.cells #[.int .i64 7, .int .i64 9] 3) := ⟨_, rfl⟩
  obtain ⟨p2, ep2⟩ : ∃ p, p = w2.heap.size := ⟨_, rfl⟩
  have F2 : Fr [] w2 W2 := by rw [hW2]; exact ((Fr.refl [] w2).alloc _).alloc _
  have hi2 : W2.heap[p2 + 1]? = some (.cells #[.int .i64 7, .int .i64 9] 3 (0, 0)) := by rw [hW2, ep2]; exact heap_new (by simp)
  rw [← hW2, ← ep2]
  have hFW2 := ((hFW1.trans f2 (by simp)).trans F2 (by simp))
  have hp1b := F2.at (f2.at hp1 (by simp)) (by simp)
  have HO2 := Lib.hid (((HO1.out.fr F1 (by simp)).fr f2 (by simp)).fr F2 (by simp))
  clear hW2 ep2 hp1 F1 HO1 f1 hFW1
  refine (make_any (.slice (some ⟨p2 + 1, 0, none⟩) 2 2) [7, 9] 640 4 W2 (Or.inr ⟨p2 + 1, 0, 2, rfl, Nat.le_refl _, by decide, lt_of_block hi2, fun i hi => by
    rw [row_cell hi2]
    match i, hi with
    | 0, _ => rfl
    | 1, _ => rfl⟩) (fun s hs => by
    rcases List.mem_cons.1 hs with rfl | hs
    · decide
    · rw [List.mem_singleton.1 hs]; decide) (HT.out.t.fr hFW2)).mono ?_
  rintro e w3 ⟨hq, _, hb3⟩
  obtain ⟨wv, rfl, ho3⟩ := hq (by decide)
  clear hq
  have H7 : Hid (hasF ⟨640, 4, makeF [7, 9] 640 4⟩ 7 = true) := Lib.hid (has_make (by decide) (by simp))
  have H9 : Hid (hasF ⟨640, 4, makeF [7, 9] 640 4⟩ 9 = true) := Lib.hid (has_make (by decide) (by simp))
  have HWh := Lib.hid (makeF_lt [7, 9] 640 4)
  have hlh : (makeF [7, 9] 640 4).length = 10 := makeF_len _ _ _
  generalize makeF [7, 9] 640 4 = H at ho3 H7 H9 HWh hlh
  obtain ⟨g3, c3, rfl⟩ := ho3.someN (by omega)
  rw [hlh] at ho3 ⊢
  have f3 : Fr [] W2 w3 := Fr.ofBelow hb3
  have HO3 := Lib.hid ho3
  clear hb3 ho3
  go_wp2_with fail
  obtain ⟨W3, hW3⟩ : ∃ W, W = w3.alloc (.cells #[.int .i64 640, .int .i64 4, .slice (some ⟨g3, 0, none⟩) 10 c3] 24) := ⟨_, rfl⟩
  obtain ⟨p3, ep3⟩ : ∃ p, p = w3.heap.size := ⟨_, rfl⟩
  have hp3 : W3.heap[p3]? = some (.cells #[.int .i64 640, .int .i64 4, .slice (some ⟨g3, 0, none⟩) 10 c3] 24 (0, 0)) := by rw [hW3, ep3]; exact heap_new rfl
  have F3 : Fr [] w3 W3 := by rw [hW3]; exact (Fr.refl [] w3).alloc _
  rw [← hW3, ← ep3]
  have hFW3 := (hFW2.trans f3 (by simp)).trans F3 (by simp)
  have F23 := f3.trans F3 (by simp)
  have HO33 := Lib.hid (HO3.out.fr F3 (by simp))
  clear hW3 ep3 hi2 F2 f2 f3 hFW2
  refine (parse_l W3 (HT.out.fr hFW3)).mono ?_
  rintro e w4 ⟨hq, hb4⟩
  obtain ⟨pv, rfl, ho4⟩ := hq
  obtain ⟨g4, c4, rfl⟩ := ho4.someN (by decide)
  rw [show ([255] : List Nat).length = 1 from rfl] at ho4 ⊢
  have f4 : Fr [] W3 w4 := Fr.ofBelow hb4
  have HO4 := Lib.hid ho4
  clear hb4 ho4
  go_wp2_with fail
  obtain ⟨W4, hW4⟩ : ∃ W, W = w4.alloc (.cells #[.int .i64 64, .int .i64 3, .slice (some ⟨g4, 0, none⟩) 1 c4] 24) := ⟨_, rfl⟩
  obtain ⟨p4, ep4⟩ : ∃ p, p = w4.heap.size := ⟨_, rfl⟩
  have hp4 : W4.heap[p4]? = some (.cells #[.int .i64 64, .int .i64 3, .slice (some ⟨g4, 0, none⟩) 1 c4] 24 (0, 0)) := by rw [hW4, ep4]; exact heap_new rfl
  have F4 : Fr [] w4 W4 := by rw [hW4]; exact (Fr.refl [] w4).alloc _
  rw [← hW4, ← ep4]
  have F34 := f4.trans F4 (by simp)
  have hFW4 := hFW3.trans F34 (by simp)
  clear hW4 ep4
  refine (parse_u W4 (HT.out.fr hFW4)).mono ?_
  rintro e w5 ⟨hq, hb5⟩
  obtain rfl := hq
  have f5 : Fr [] W4 w5 := Fr.ofBelow hb5
  unfold zeroF
  clear hb5
  obtain ⟨W5, hW5⟩ : ∃ W, W = w5.alloc (.cells #[.int .i64 0, .int .i64 0, .slice none 0 0] 24) := ⟨_, rfl⟩
  have F5 : Fr [] w5 W5 := by rw [hW5]; exact (Fr.refl [] w5).alloc _
  have F45 := f5.trans F5 (by simp)
  have hFW5 := hFW4.trans F45 (by simp)
  have F35 := F34.trans F45 (by simp)
  have F25 := F23.trans F35 (by simp)
  have b1 := F25.at hp1b (by simp)
  have b3 := F35.at hp3 (by simp)
  have b4 := F45.at hp4 (by simp)
  have hL1 : OwnW w.heap.size W5 (.slice (some ⟨g1, 0, none⟩) 1 c1) [0] := HO2.out.fr F25 (by simp)
  have hL3 := HO33.out.fr F35 (by simp)
  have hL4 := HO4.out.fr (F4.trans F45 (by simp)) (by simp)
  clear hp1b hp3 hp4 HO2 HO33 HO4 HO3 F23 F34 F35 F25 F45 F4 F5 f5 f4 F3 hFW3 hFW4
  have m0 := row_cell b1 0
  have m1 := row_cell b1 1
  have m2 := row_cell b1 2
  have n0 := row_cell b3 0
  have n1 := row_cell b3 1
  have n2 := row_cell b3 2
  have q2 := row_cell b4 2
  simp at m0 m1 m2 n0 n1 n2 q2
  rw [hW5] at m0 m1 m2
  go_wp2_with fail
  rw [← hW5]
  rw [← hW5] at m0 m1 m2
  clear m0 m1 m2 n0 n1 n2 q2 hW5
  have HL1 := Lib.hid hL1
  have HL3 := Lib.hid hL3
  have HL4 := Lib.hid hL4
  have hTW := HT.out.fr hFW5
  clear hL1 hL3 hL4
  have htx := ftext_any (.agg #[.int .i64 64, .int .i64 3, .slice (some ⟨g1, 0, none⟩) 1 c1]) ⟨64, 3, [0]⟩ W5 ⟨_, rfl, HL1.out.ws⟩ (by intro x hx; rw [List.mem_singleton.1 hx]; decide) hTW
  rw [text64, show ([54, 52, 32, 51, 32] ++ hexS 0 : List UInt8) = [54, 52, 32, 51, 32, 48, 48, 48, 48, 48, 48, 48, 48, 48, 48, 48, 48, 48, 48, 48, 48] by decide] at htx
  refine htx.mono ?_
  rintro e x1 ⟨rfl, hx1⟩
  have k1 : Fr [] W5 x1 := Fr.ofBelow hx1
  have e1 := k1.at b3 (by simp)
  have n0 := row_cell e1 0
  have n1 := row_cell e1 1
  have n2 := row_cell e1 2
  simp at n0 n1 n2
  clear hx1 htx e1
  go_wp2_with fail
  have hh7 := has_any (.agg #[.int .i64 640, .int .i64 4, .slice (some ⟨g3, 0, none⟩) 10 c3]) ⟨640, 4, H⟩ 7 x1 ⟨_, rfl, (HL3.out.fr k1 (by simp)).ws⟩ HWh.out (by decide) (hTW.fr k1).t
  rw [H7.out] at hh7
  refine hh7.mono ?_
  rintro e x2 ⟨rfl, hx2⟩
  have k2 : Fr [] W5 x2 := k1.below hx2 k1.size
  have e1 := k2.at b3 (by simp)
  clear n0 n1 n2
  have n0 := row_cell e1 0
  have n1 := row_cell e1 1
  have n2 := row_cell e1 2
  simp at n0 n1 n2
  clear hx2 hh7 e1
  go_wp2_with fail
  have hh9 := has_any (.agg #[.int .i64 640, .int .i64 4, .slice (some ⟨g3, 0, none⟩) 10 c3]) ⟨640, 4, H⟩ 9 x2 ⟨_, rfl, (HL3.out.fr k2 (by simp)).ws⟩ HWh.out (by decide) (hTW.fr k2).t
  rw [H9.out] at hh9
  refine hh9.mono ?_
  rintro e x3 ⟨rfl, hx3⟩
  have k3 : Fr [] W5 x3 := k2.below hx3 k2.size
  have e1 := k3.at b1 (by simp)
  clear n0 n1 n2
  have n0 := row_cell e1 0
  have n1 := row_cell e1 1
  have n2 := row_cell e1 2
  simp at n0 n1 n2
  clear hx3 hh9 e1
  go_wp2_with fail
  have hh1 := has_any (.agg #[.int .i64 64, .int .i64 3, .slice (some ⟨g1, 0, none⟩) 1 c1]) ⟨64, 3, [0]⟩ 7 x3 ⟨_, rfl, (HL1.out.fr k3 (by simp)).ws⟩ (by intro x hx; rw [List.mem_singleton.1 hx]; decide) (by decide) (hTW.fr k3).t
  have hz : hasF ⟨64, 3, [0]⟩ 7 = false := has_none (bits := 64) (hashes := 3) (s := 7) (by decide)
  rw [hz] at hh1
  refine hh1.mono ?_
  rintro e x4 ⟨rfl, hx4⟩
  have k4 : Fr [] W5 x4 := k3.below hx4 k3.size
  have e1 := k4.at b4 (by simp)
  clear n0 n1 n2
  have n2 := row_cell e1 2
  simp at n2
  have e2 := HL4.out.fr k4 (by simp)
  obtain ⟨cur, _, e3, _, _, _, e6⟩ := e2.formN rfl
  have r0 := row_cell e3 0
  rw [wrdV_at e6 rfl 0 (by decide)] at r0
  rw [show ([255] : List Nat).getD 0 0 = 255 from rfl] at r0
  clear hx4 hh1 e1 e2 e3 e6 hz
  go_wp2_with fail
  have hh0 := has_any (.agg #[.int .i64 0, .int .i64 0, .slice none 0 0]) ⟨0, 0, []⟩ 7 x4 ⟨_, rfl, Or.inl ⟨rfl, rfl⟩⟩ (by intro x hx; cases hx) (by decide) (hTW.fr k4).t
  rw [show hasF ⟨0, 0, []⟩ 7 = false by rfl] at hh0
  refine hh0.mono ?_
  rintro e x5 ⟨rfl, hx5⟩
  have k5 : Fr [] W5 x5 := k4.below hx5 k4.size
  clear n2 r0 hh0 hx5
  go_wp2_with fail
  go_ret
  exact ⟨rfl, (hFW5.trans k5 (by simp)).toBelow (by simp)⟩
end Go.Proofs.YtnmakpiddfhhnaaGreatDoor
