/-
  foyerlaw36.FilterTexts.
-/
import Derived.Test.YtnmakpiddfhhnaaGreatDoorFlX
import Derived.Test.YtnmakpiddfhhnaaGreatDoorFlL
import Derived.Test.YtnmakpiddfhhnaaGreatDoorFrB
import Derived.Test.YtnmakpiddfhhnaaGreatDoorFrC
import Derived.Deep.RegionHeld3
namespace Go.Proofs.YtnmakpiddfhhnaaGreatDoor
open Go.RowKit

theorem textF_short (f : Flt) (h : f.words.length ≤ 1024) : (textF f).length ≤ 100000 := by
  cases hv : validF f with
  | false => rw [textF_nil hv]; simp
  | true =>
    have hf := formF_parts (validF_parts hv).1
    have h1 : textF f = spS (wordsF f) := by unfold textF; rw [if_pos hv]
    have h2 := spS_len (wordsF f) 18 (fun w hw => by
      unfold wordsF at hw
      rcases List.mem_cons.1 hw with rfl | hw
      · exact (itoa_ok f.bits (by omega) (by omega)).2.1
      · rcases List.mem_cons.1 hw with rfl | hw
        · exact (itoa_ok f.hashes (by omega) (by omega)).2.1
        · obtain ⟨x, _, rfl⟩ := List.mem_map.1 hw
          rw [hexS_length]; decide)
    rw [h1]
    have h3 : (wordsF f).length = f.words.length + 2 := by unfold wordsF; simp
    rw [h3] at h2
    omega
set_option maxRecDepth 100000 in
set_option maxHeartbeats 16000000 in
theorem filterTexts_any (va : Value) (a : Flt) (vb : Value) (b : Flt) (l : List UInt8) (w : World) (hT : TabsG w) (ha : FltR w va a) (wa : W64 a.words) (hb : FltR w vb b) (wb : W64 b.words) :
    Calls Tryz.prog 3 #[va, vb, .string ⟨l.toArray⟩] w fun e w' => e = .returned (.bool true) ∧ Below w.heap.size w w' := by
  have hmx : Tryz.prog.follows .mixedOrders = true := by kernel_rfl
  obtain ⟨v1, rfl, hw1⟩ := ha
  obtain ⟨v2, rfl, hw2⟩ := hb
  obtain ⟨a1, cap1, rfl, _, _, _⟩ := hw1.form
  obtain ⟨a2, cap2, rfl, _, _, _⟩ := hw2.form
  have HA := Lib.hid hw1
  have HB := Lib.hid hw2
  have HT := Lib.hid hT
  clear hw1 hw2 hT
  obtain ⟨W0, hW0⟩ : ∃ W0, W0 = (w.alloc (.cells #[.int .i64 a.bits, .int .i64 a.hashes, .slice a1 a.words.length cap1] 24)).alloc (.cells #[.int .i64 b.bits, .int .i64 b.hashes, .slice a2 b.words.length cap2] 24) := ⟨_, rfl⟩
  obtain ⟨p, ep⟩ : ∃ p, p = w.heap.size := ⟨_, rfl⟩
  have hw0 : Fr [] w W0 := by rw [hW0]; exact ((Fr.refl [] w).alloc _).alloc _
  have qA : W0.heap[p]? = some (.cells #[.int .i64 a.bits, .int .i64 a.hashes, .slice a1 a.words.length cap1] 24 (0, 0)) := by rw [hW0, ep]; exact heap_past _ (heap_new rfl)
  have qB : W0.heap[p + 1]? = some (.cells #[.int .i64 b.bits, .int .i64 b.hashes, .slice a2 b.words.length cap2] 24 (0, 0)) := by rw [hW0, ep]; exact heap_new (by simp)
  go_enter Tryz.func3, Tryz.ntmps3
  go_wp2_with fail
  rw [← hW0, ← ep]
  clear hW0 ep
  have hW0 := hw0
  refine (head36_any W0 (HT.out.f.fr hW0)).mono ?_
  rintro e x1 ⟨rfl, hb⟩
  have gx1 : Fr [] W0 x1 := Fr.ofBelow hb
  have hx1 : Fr [] w x1 := hW0.trans gx1 (by simp)
  have qA := gx1.at qA (by simp)
  have qB := gx1.at qB (by simp)
  clear hb gx1
  have A0 := row_cell qA 0
  have A1 := row_cell qA 1
  have A2 := row_cell qA 2
  simp at A0 A1 A2
  go_wp2_with fail
  refine (small_any (.agg #[.int .i64 a.bits, .int .i64 a.hashes, .slice a1 a.words.length cap1]) (.slice none 0 0) a [] x1 ⟨_, rfl, HA.out.fr0 hx1⟩ (Or.inl ⟨rfl, rfl⟩)).mono ?_
  rintro e x2 ⟨rfl, hb⟩
  have gx2 : Fr [] x1 x2 := Fr.ofBelow hb
  have hx2 : Fr [] w x2 := hx1.trans gx2 (by simp)
  clear A0 A1 A2
  have qA := gx2.at qA (by simp)
  have qB := gx2.at qB (by simp)
  clear hb gx2
  have B0 := row_cell qB 0
  have B1 := row_cell qB 1
  have B2 := row_cell qB 2
  simp at B0 B1 B2
  obtain ⟨sm, esm⟩ : ∃ sm, sm = smallF a [] := ⟨_, rfl⟩
  rw [← esm]
  have ESA := Lib.hid esm
  clear esm
  cases sm with
  | false =>
    go_wp2_with fail
    go_ret
    exact ⟨rfl, hx2.toBelow (by simp)⟩
  | true =>
    go_wp2_with fail
    refine (small_any (.agg #[.int .i64 b.bits, .int .i64 b.hashes, .slice a2 b.words.length cap2]) (.slice none 0 0) b [] x2 ⟨_, rfl, HB.out.fr0 hx2⟩ (Or.inl ⟨rfl, rfl⟩)).mono ?_
    rintro e x3 ⟨rfl, hb⟩
    have gx3 : Fr [] x2 x3 := Fr.ofBelow hb
    have hx3 : Fr [] w x3 := hx2.trans gx3 (by simp)
    clear B0 B1 B2
    have qA := gx3.at qA (by simp)
    have qB := gx3.at qB (by simp)
    clear hb gx3
    have A0 := row_cell qA 0
    have A1 := row_cell qA 1
    have A2 := row_cell qA 2
    have B0 := row_cell qB 0
    have B1 := row_cell qB 1
    have B2 := row_cell qB 2
    simp at A0 A1 A2 B0 B1 B2
    obtain ⟨sm, esm⟩ : ∃ sm, sm = smallF b [] := ⟨_, rfl⟩
    rw [← esm]
    have ESB := Lib.hid esm
    clear esm
    cases sm with
    | false =>
      go_wp2_with fail
      go_ret
      exact ⟨rfl, hx3.toBelow (by simp)⟩
    | true =>
      rcases Nat.lt_or_ge 2000 l.length with hl2 | hl2
      · have t0 : decide ((2000 : Int) < (l.length : Int)) = true := by simp; omega
        go_wp2_with fail
        go_ret
        exact ⟨rfl, hx3.toBelow (by simp)⟩
      have t0 : decide ((2000 : Int) < (l.length : Int)) = false := by simp; omega
      have hla : a.words.length ≤ 100 := by have := ESA.out; simp [smallF] at this; exact this
      have hlb : b.words.length ≤ 100 := by have := ESB.out; simp [smallF] at this; exact this
      go_wp2_with fail
      have hc0 := A0
      have hc1 := A1
      have hc2 := A2
      have hc3 := B0
      have hc4 := B1
      have hc5 := B2
      have hh0 : Fr [] x3 x3.drew := (Fr.refl [] x3).drew
      have hS0 : x3.drew.cell? ⟨p, 0, none⟩ = some (.int .i64 a.bits) ∧ x3.drew.cell? ⟨p, 1, none⟩ = some (.int .i64 a.hashes) ∧ x3.drew.cell? ⟨p, 2, none⟩ = some (.slice a1 a.words.length cap1) ∧ x3.drew.cell? ⟨p + 1, 0, none⟩ = some (.int .i64 b.bits) ∧ x3.drew.cell? ⟨p + 1, 1, none⟩ = some (.int .i64 b.hashes) ∧ x3.drew.cell? ⟨p + 1, 2, none⟩ = some (.slice a2 b.words.length cap2) := ⟨hh0.cell hc0 (by simp), hh0.cell hc1 (by simp), hh0.cell hc2 (by simp), hh0.cell hc3 (by simp), hh0.cell hc4 (by simp), hh0.cell hc5 (by simp)⟩
      refine region_held 100 (fun W' => W'.cell? ⟨p, 0, none⟩ = some (.int .i64 a.bits) ∧ W'.cell? ⟨p, 1, none⟩ = some (.int .i64 a.hashes) ∧ W'.cell? ⟨p, 2, none⟩ = some (.slice a1 a.words.length cap1) ∧ W'.cell? ⟨p + 1, 0, none⟩ = some (.int .i64 b.bits) ∧ W'.cell? ⟨p + 1, 1, none⟩ = some (.int .i64 b.hashes) ∧ W'.cell? ⟨p + 1, 2, none⟩ = some (.slice a2 b.words.length cap2)) hmx ?_
      change Held _ _ _ _ _ _ 6 (Array.replicate 6 false) _ _
      refine hd_take 0 (v := .agg #[.int .i64 a.bits, .int .i64 a.hashes, .slice a1 a.words.length cap1]) rfl (by kernel_rfl) (by kernel_rfl) (by kernel_rfl) rfl hS0 (fun W' hS => by obtain ⟨h0, h1, h2, h3, h4, h5⟩ := hS; go_simp) rfl ?_
      refine hd_take 2 (v := .agg #[.int .i64 b.bits, .int .i64 b.hashes, .slice a2 b.words.length cap2]) rfl (by kernel_rfl) (by kernel_rfl) (by kernel_rfl) rfl hS0 (fun W' hS => by obtain ⟨h0, h1, h2, h3, h4, h5⟩ := hS; go_simp) rfl ?_
      simp only [Act.put, List.setIfInBounds_toArray, List.set_cons_zero, List.set_cons_succ]
      refine hd_one 1 (by kernel_rfl) rfl (by kernel_rfl) rfl (fun K' hK => ?_)
      go_simp
      refine (ftext_any (.agg #[.int .i64 a.bits, .int .i64 a.hashes, .slice a1 a.words.length cap1]) a x3.drew ⟨_, rfl, HA.out.fr0 (hx3.trans hh0 (by simp))⟩ wa (HT.out.f.fr (hx3.trans hh0 (by simp)))).mono ?_
      rintro e wq1 ⟨rfl, hb⟩
      have hh1 : Fr [] x3 wq1 := hh0.below hb hh0.size
      clear hb
      have hS1 : wq1.cell? ⟨p, 0, none⟩ = some (.int .i64 a.bits) ∧ wq1.cell? ⟨p, 1, none⟩ = some (.int .i64 a.hashes) ∧ wq1.cell? ⟨p, 2, none⟩ = some (.slice a1 a.words.length cap1) ∧ wq1.cell? ⟨p + 1, 0, none⟩ = some (.int .i64 b.bits) ∧ wq1.cell? ⟨p + 1, 1, none⟩ = some (.int .i64 b.hashes) ∧ wq1.cell? ⟨p + 1, 2, none⟩ = some (.slice a2 b.words.length cap2) := ⟨hh1.cell hc0 (by simp), hh1.cell hc1 (by simp), hh1.cell hc2 (by simp), hh1.cell hc3 (by simp), hh1.cell hc4 (by simp), hh1.cell hc5 (by simp)⟩
      refine hK.out _ _ (fun _ => hS1) ?_
      clear hK K'
      try simp only [Act.put, List.setIfInBounds_toArray, List.set_cons_zero, List.set_cons_succ]
      refine hd_one 3 (by kernel_rfl) rfl (by kernel_rfl) rfl (fun K' hK => ?_)
      go_simp
      refine (ftext_any (.agg #[.int .i64 b.bits, .int .i64 b.hashes, .slice a2 b.words.length cap2]) b wq1 ⟨_, rfl, HB.out.fr0 (hx3.trans hh1 (by simp))⟩ wb (HT.out.f.fr (hx3.trans hh1 (by simp)))).mono ?_
      rintro e wq2 ⟨rfl, hb⟩
      have hh2 : Fr [] x3 wq2 := hh1.below hb hh1.size
      clear hb
      have hS2 : wq2.cell? ⟨p, 0, none⟩ = some (.int .i64 a.bits) ∧ wq2.cell? ⟨p, 1, none⟩ = some (.int .i64 a.hashes) ∧ wq2.cell? ⟨p, 2, none⟩ = some (.slice a1 a.words.length cap1) ∧ wq2.cell? ⟨p + 1, 0, none⟩ = some (.int .i64 b.bits) ∧ wq2.cell? ⟨p + 1, 1, none⟩ = some (.int .i64 b.hashes) ∧ wq2.cell? ⟨p + 1, 2, none⟩ = some (.slice a2 b.words.length cap2) := ⟨hh2.cell hc0 (by simp), hh2.cell hc1 (by simp), hh2.cell hc2 (by simp), hh2.cell hc3 (by simp), hh2.cell hc4 (by simp), hh2.cell hc5 (by simp)⟩
      refine hK.out _ _ (fun _ => hS2) ?_
      clear hK K'
      try simp only [Act.put, List.setIfInBounds_toArray, List.set_cons_zero, List.set_cons_succ]
      refine hd_take 4 (v := .string ⟨(textF a).toArray⟩) rfl (by kernel_rfl) (by kernel_rfl) (by kernel_rfl) rfl hS2 (fun W' hS => by go_simp) rfl ?_
      simp only [Act.put, List.setIfInBounds_toArray, List.set_cons_zero, List.set_cons_succ]
      refine hd_take 5 (v := .string ⟨(textF b).toArray⟩) rfl (by kernel_rfl) (by kernel_rfl) (by kernel_rfl) rfl hS2 (fun W' hS => by go_simp) rfl ?_
      simp only [Act.put, List.setIfInBounds_toArray, List.set_cons_zero, List.set_cons_succ]
      refine held_done (by kernel_rfl) ?_
      clear A0 A1 A2 B0 B1 B2
      have hwq2 : Fr [] w wq2 := hx3.trans hh2 (by simp)
      have qA := hh2.at qA (by simp)
      have qB := hh2.at qB (by simp)
      clear hc0 hc1 hc2 hc3 hc4 hc5 hh0 hS0 hh1 hS1 hh2 hS2 hx3
      have lenT : ∀ f : Flt, f.words.length ≤ 1024 → W64 f.words → (textF f).length ≤ 100000 := fun f h1 h2 => textF_short f h1
      have ltA := lenT a (by omega) wa
      have HLT := Lib.hid ltA
      clear lenT ltA
      cases hva : validF a with
      | false =>
        have HVA := Lib.hid hva
        have hnil : textF a = [] := textF_nil hva
        rw [hnil] at HLT ⊢
        clear hva hnil
        go_wp2_with fail
        refine (parseX_any [] wq2 (by simp) (HT.out.fr hwq2)).mono ?_
        rintro e x4 ⟨o, hpo, hres, hb⟩
        have gx4 : Fr [] wq2 x4 := Fr.ofBelow hb
        have hx4 : Fr [] w x4 := hwq2.trans gx4 (by simp)
        have qA := gx4.at qA (by simp)
        have qB := gx4.at qB (by simp)
        clear hb gx4
        obtain rfl : o = none := hpo.eq (parsed_none (fun f hf => textF_ne hf.1 hf.2.2))
        clear hpo
        obtain rfl := hres
        unfold zeroF
        obtain ⟨x5, ex5⟩ : ∃ W, W = x4.alloc (.cells #[.int .i64 0, .int .i64 0, .slice none 0 0] 24) := ⟨_, rfl⟩
        obtain ⟨pX, epX⟩ : ∃ p, p = x4.heap.size := ⟨_, rfl⟩
        have gx5 : Fr [] x4 x5 := by rw [ex5]; exact (Fr.refl [] x4).alloc _
        have hx5 : Fr [] w x5 := hx4.trans gx5 (by simp)
        have qA := gx5.at qA (by simp)
        have qB := gx5.at qB (by simp)
        have qX : x5.heap[pX]? = some (.cells #[.int .i64 0, .int .i64 0, .slice none 0 0] 24 (0, 0)) := by rw [ex5, epX]; exact heap_new rfl
        have A0 := row_cell qA 0
        have A1 := row_cell qA 1
        have A2 := row_cell qA 2
        simp at A0 A1 A2
        rw [ex5] at A0 A1 A2
        go_wp2_with fail
        rw [← ex5, ← epX]
        rw [← ex5] at A0 A1 A2
        clear ex5 epX gx5
        refine (rvalid36_any (.agg #[.int .i64 a.bits, .int .i64 a.hashes, .slice a1 a.words.length cap1]) a x5 ⟨_, rfl, HA.out.fr0 hx5⟩).mono ?_
        rintro e x6 ⟨rfl, hb⟩
        have gx6 : Fr [] x5 x6 := Fr.ofBelow hb
        have hx6 : Fr [] w x6 := hx5.trans gx6 (by simp)
        clear A0 A1 A2
        have qA := gx6.at qA (by simp)
        have qB := gx6.at qB (by simp)
        have qX := gx6.at qX (by simp)
        clear hb gx6
        rw [HVA.out]
        go_wp2_with fail
        refine (parseX_any l x6 (by omega) (HT.out.fr hx6)).mono ?_
        rintro e x7 ⟨o, hpo, hres, hb⟩
        have gx7 : Fr [] x6 x7 := Fr.ofBelow hb
        have hx7 : Fr [] w x7 := hx6.trans gx7 (by simp)
        have qA := gx7.at qA (by simp)
        have qB := gx7.at qB (by simp)
        have qX := gx7.at qX (by simp)
        clear hb gx7
        have HPO := Lib.hid hpo
        clear hpo
        cases o with
        | none =>
          obtain rfl := hres
          unfold zeroF
          obtain ⟨x8, ex8⟩ : ∃ W, W = x7.alloc (.cells #[.int .i64 0, .int .i64 0, .slice none 0 0] 24) := ⟨_, rfl⟩
          obtain ⟨pY, epY⟩ : ∃ p, p = x7.heap.size := ⟨_, rfl⟩
          have gx8 : Fr [] x7 x8 := by rw [ex8]; exact (Fr.refl [] x7).alloc _
          have hx8 : Fr [] w x8 := hx7.trans gx8 (by simp)
          have qA := gx8.at qA (by simp)
          have qB := gx8.at qB (by simp)
          have qX := gx8.at qX (by simp)
          have qY : x8.heap[pY]? = some (.cells #[.int .i64 0, .int .i64 0, .slice none 0 0] 24 (0, 0)) := by rw [ex8, epY]; exact heap_new rfl
          have Y0 := row_cell qY 0
          have Y1 := row_cell qY 1
          have Y2 := row_cell qY 2
          simp at Y0 Y1 Y2
          rw [ex8] at Y0 Y1 Y2
          go_wp2_with fail
          rw [← ex8, ← epY]
          rw [← ex8] at Y0 Y1 Y2
          clear ex8 epY gx8
          have z1 : sameF ⟨0, 0, []⟩ ⟨0, 0, []⟩ = true := (sameF_iff _ _).2 rfl
          refine (rsame36_any (.agg #[.int .i64 0, .int .i64 0, .slice none 0 0]) (.agg #[.int .i64 0, .int .i64 0, .slice none 0 0]) ⟨0, 0, []⟩ ⟨0, 0, []⟩ x8 ⟨_, rfl, Or.inl ⟨rfl, rfl⟩⟩ ⟨_, rfl, Or.inl ⟨rfl, rfl⟩⟩).mono ?_
          rintro e x9 ⟨rfl, hb⟩
          have gx9 : Fr [] x8 x9 := Fr.ofBelow hb
          have hx9 : Fr [] w x9 := hx8.trans gx9 (by simp)
          clear Y0 Y1 Y2
          have qA := gx9.at qA (by simp)
          have qB := gx9.at qB (by simp)
          have qX := gx9.at qX (by simp)
          have qY := gx9.at qY (by simp)
          clear hb gx9
          rw [z1]
          go_wp2_with fail
          go_ret
          exact ⟨rfl, hx9.toBelow (by simp)⟩
        | some f =>
          obtain ⟨wv, rfl, ho⟩ := hres
          obtain ⟨hv, hw64, htx⟩ := (HPO.out f).1 rfl
          have hfl := validF_parts hv
          have hff := formF_parts hfl.1
          obtain ⟨gY, kY, rfl⟩ := ho.someN (by omega)
          have VY := Lib.hid ho.ws
          have HTX := Lib.hid htx
          have HVF := Lib.hid hv
          clear ho htx hv hfl hff
          have fY : Fr [] x7 x7 := Fr.refl _ _
          obtain ⟨x8, ex8⟩ : ∃ W, W = x7.alloc (.cells #[.int .i64 f.bits, .int .i64 f.hashes, .slice (some ⟨gY, 0, none⟩) f.words.length kY] 24) := ⟨_, rfl⟩
          obtain ⟨pY, epY⟩ : ∃ p, p = x7.heap.size := ⟨_, rfl⟩
          have gx8 : Fr [] x7 x8 := by rw [ex8]; exact (Fr.refl [] x7).alloc _
          have hx8 : Fr [] w x8 := hx7.trans gx8 (by simp)
          have fY := fY.trans gx8 (by simp)
          have qA := gx8.at qA (by simp)
          have qB := gx8.at qB (by simp)
          have qX := gx8.at qX (by simp)
          have qY : x8.heap[pY]? = some (.cells #[.int .i64 f.bits, .int .i64 f.hashes, .slice (some ⟨gY, 0, none⟩) f.words.length kY] 24 (0, 0)) := by rw [ex8, epY]; exact heap_new rfl
          have Y0 := row_cell qY 0
          have Y1 := row_cell qY 1
          have Y2 := row_cell qY 2
          simp at Y0 Y1 Y2
          rw [ex8] at Y0 Y1 Y2
          go_wp2_with fail
          rw [← ex8, ← epY]
          rw [← ex8] at Y0 Y1 Y2
          clear ex8 epY gx8
          refine (rvalid36_any (.agg #[.int .i64 f.bits, .int .i64 f.hashes, .slice (some ⟨gY, 0, none⟩) f.words.length kY]) f x8 ⟨_, rfl, VY.out.fr0 fY⟩).mono ?_
          rintro e x9 ⟨rfl, hb⟩
          have gx9 : Fr [] x8 x9 := Fr.ofBelow hb
          have hx9 : Fr [] w x9 := hx8.trans gx9 (by simp)
          have fY := fY.trans gx9 (by simp)
          clear Y0 Y1 Y2
          have qA := gx9.at qA (by simp)
          have qB := gx9.at qB (by simp)
          have qX := gx9.at qX (by simp)
          have qY := gx9.at qY (by simp)
          clear hb gx9
          have Y0 := row_cell qY 0
          have Y1 := row_cell qY 1
          have Y2 := row_cell qY 2
          simp at Y0 Y1 Y2
          rw [HVF.out]
          go_wp2_with fail
          have u1 : (l == l) = true := by simp
          refine (ftext_any (.agg #[.int .i64 f.bits, .int .i64 f.hashes, .slice (some ⟨gY, 0, none⟩) f.words.length kY]) f x9 ⟨_, rfl, VY.out.fr0 fY⟩ hw64 (HT.out.f.fr hx9)).mono ?_
          rintro e x10 ⟨rfl, hb⟩
          have gx10 : Fr [] x9 x10 := Fr.ofBelow hb
          have hx10 : Fr [] w x10 := hx9.trans gx10 (by simp)
          have fY := fY.trans gx10 (by simp)
          clear Y0 Y1 Y2
          have qA := gx10.at qA (by simp)
          have qB := gx10.at qB (by simp)
          have qX := gx10.at qX (by simp)
          have qY := gx10.at qY (by simp)
          clear hb gx10
          rw [HTX.out]
          go_wp2_with fail
          go_ret
          exact ⟨rfl, hx10.toBelow (by simp)⟩
      | true =>
        have HVA := Lib.hid hva
        have hne : textF a ≠ [] := textF_ne hva
        have hfl := validF_parts hva
        have hff := formF_parts hfl.1
        have hle : 0 < a.words.length := by omega
        have HPA : Hid (ParsedF (textF a) (some a)) := Lib.hid (parsed_some ⟨hva, wa, rfl⟩)
        have HAB : Hid ((textF a == textF b) = sameF a b) := Lib.hid (by
          cases hs : sameF a b with
          | true => rw [(sameF_iff a b).1 hs]; simp
          | false =>
            rw [beq_eq_false_iff_ne]
            intro he
            have hvb : validF b = true := by
              cases hvb : validF b with
              | true => rfl
              | false => exact absurd (he.trans (textF_nil hvb)) hne
            have := textF_inj hva hvb wa wb he
            rw [this, (sameF_iff b b).2 rfl] at hs
            cases hs)
        generalize textF a = ta at HLT HPA HAB hne ⊢
        generalize textF b = tb at HAB ⊢
        have e1 : (ta == []) = false := by rw [beq_eq_false_iff_ne]; exact hne
        have e2 : (ta != []) = true := by rw [bne_iff_ne]; exact hne
        clear hva hne hfl hff
        go_wp2_with fail
        refine (parseX_any ta wq2 HLT.out (HT.out.fr hwq2)).mono ?_
        rintro e x4 ⟨o, hpo, hres, hb⟩
        have gx4 : Fr [] wq2 x4 := Fr.ofBelow hb
        have hx4 : Fr [] w x4 := hwq2.trans gx4 (by simp)
        have qA := gx4.at qA (by simp)
        have qB := gx4.at qB (by simp)
        clear hb gx4
        obtain rfl : o = some a := hpo.eq HPA.out
        clear hpo
        obtain ⟨wv, rfl, ho⟩ := hres
        obtain ⟨gX, kX, rfl⟩ := ho.someN hle
        have VX := Lib.hid ho.ws
        clear ho
        have fX : Fr [] x4 x4 := Fr.refl _ _
        obtain ⟨x5, ex5⟩ : ∃ W, W = x4.alloc (.cells #[.int .i64 a.bits, .int .i64 a.hashes, .slice (some ⟨gX, 0, none⟩) a.words.length kX] 24) := ⟨_, rfl⟩
        obtain ⟨pX, epX⟩ : ∃ p, p = x4.heap.size := ⟨_, rfl⟩
        have gx5 : Fr [] x4 x5 := by rw [ex5]; exact (Fr.refl [] x4).alloc _
        have hx5 : Fr [] w x5 := hx4.trans gx5 (by simp)
        have fX := fX.trans gx5 (by simp)
        have qA := gx5.at qA (by simp)
        have qB := gx5.at qB (by simp)
        have qX : x5.heap[pX]? = some (.cells #[.int .i64 a.bits, .int .i64 a.hashes, .slice (some ⟨gX, 0, none⟩) a.words.length kX] 24 (0, 0)) := by rw [ex5, epX]; exact heap_new rfl
        have A0 := row_cell qA 0
        have A1 := row_cell qA 1
        have A2 := row_cell qA 2
        simp at A0 A1 A2
        rw [ex5] at A0 A1 A2
        go_wp2_with fail
        rw [← ex5, ← epX]
        rw [← ex5] at A0 A1 A2
        clear ex5 epX gx5
        have z1 : sameF a a = true := (sameF_iff _ _).2 rfl
        refine (rvalid36_any (.agg #[.int .i64 a.bits, .int .i64 a.hashes, .slice a1 a.words.length cap1]) a x5 ⟨_, rfl, HA.out.fr0 hx5⟩).mono ?_
        rintro e x6 ⟨rfl, hb⟩
        have gx6 : Fr [] x5 x6 := Fr.ofBelow hb
        have hx6 : Fr [] w x6 := hx5.trans gx6 (by simp)
        have fX := fX.trans gx6 (by simp)
        clear A0 A1 A2
        have qA := gx6.at qA (by simp)
        have qB := gx6.at qB (by simp)
        have qX := gx6.at qX (by simp)
        clear hb gx6
        have X0 := row_cell qX 0
        have X1 := row_cell qX 1
        have X2 := row_cell qX 2
        have A0 := row_cell qA 0
        have A1 := row_cell qA 1
        have A2 := row_cell qA 2
        simp at X0 X1 X2 A0 A1 A2
        rw [HVA.out]
        go_wp2_with fail
        refine (rsame36_any (.agg #[.int .i64 a.bits, .int .i64 a.hashes, .slice (some ⟨gX, 0, none⟩) a.words.length kX]) (.agg #[.int .i64 a.bits, .int .i64 a.hashes, .slice a1 a.words.length cap1]) a a x6 ⟨_, rfl, VX.out.fr0 fX⟩ ⟨_, rfl, HA.out.fr0 hx6⟩).mono ?_
        rintro e x7 ⟨rfl, hb⟩
        have gx7 : Fr [] x6 x7 := Fr.ofBelow hb
        have hx7 : Fr [] w x7 := hx6.trans gx7 (by simp)
        have fX := fX.trans gx7 (by simp)
        clear X0 X1 X2 A0 A1 A2
        have qA := gx7.at qA (by simp)
        have qB := gx7.at qB (by simp)
        have qX := gx7.at qX (by simp)
        clear hb gx7
        have A0 := row_cell qA 0
        have A1 := row_cell qA 1
        have A2 := row_cell qA 2
        have B0 := row_cell qB 0
        have B1 := row_cell qB 1
        have B2 := row_cell qB 2
        simp at A0 A1 A2 B0 B1 B2
        rw [z1]
        have hab := HAB.out
        obtain ⟨sab, esab⟩ : ∃ s, s = sameF a b := ⟨_, rfl⟩
        rw [← esab] at hab
        have ESB2 := Lib.hid esab
        clear esab z1
        cases sab with
        | false =>
          go_wp2_with fail
          refine (rsame36_any (.agg #[.int .i64 a.bits, .int .i64 a.hashes, .slice a1 a.words.length cap1]) (.agg #[.int .i64 b.bits, .int .i64 b.hashes, .slice a2 b.words.length cap2]) a b x7 ⟨_, rfl, HA.out.fr0 hx7⟩ ⟨_, rfl, HB.out.fr0 hx7⟩).mono ?_
          rintro e x8 ⟨rfl, hb⟩
          have gx8 : Fr [] x7 x8 := Fr.ofBelow hb
          have hx8 : Fr [] w x8 := hx7.trans gx8 (by simp)
          have fX := fX.trans gx8 (by simp)
          clear A0 A1 A2 B0 B1 B2
          have qA := gx8.at qA (by simp)
          have qB := gx8.at qB (by simp)
          have qX := gx8.at qX (by simp)
          clear hb gx8
          rw [← ESB2.out]
          go_wp2_with fail
          refine (parseX_any l x8 (by omega) (HT.out.fr hx8)).mono ?_
          rintro e x9 ⟨o, hpo, hres, hb⟩
          have gx9 : Fr [] x8 x9 := Fr.ofBelow hb
          have hx9 : Fr [] w x9 := hx8.trans gx9 (by simp)
          have fX := fX.trans gx9 (by simp)
          have qA := gx9.at qA (by simp)
          have qB := gx9.at qB (by simp)
          have qX := gx9.at qX (by simp)
          clear hb gx9
          have HPO := Lib.hid hpo
          clear hpo
          cases o with
          | none =>
            obtain rfl := hres
            unfold zeroF
            obtain ⟨x10, ex10⟩ : ∃ W, W = x9.alloc (.cells #[.int .i64 0, .int .i64 0, .slice none 0 0] 24) := ⟨_, rfl⟩
            obtain ⟨pY, epY⟩ : ∃ p, p = x9.heap.size := ⟨_, rfl⟩
            have gx10 : Fr [] x9 x10 := by rw [ex10]; exact (Fr.refl [] x9).alloc _
            have hx10 : Fr [] w x10 := hx9.trans gx10 (by simp)
            have fX := fX.trans gx10 (by simp)
            have qA := gx10.at qA (by simp)
            have qB := gx10.at qB (by simp)
            have qX := gx10.at qX (by simp)
            have qY : x10.heap[pY]? = some (.cells #[.int .i64 0, .int .i64 0, .slice none 0 0] 24 (0, 0)) := by rw [ex10, epY]; exact heap_new rfl
            have Y0 := row_cell qY 0
            have Y1 := row_cell qY 1
            have Y2 := row_cell qY 2
            simp at Y0 Y1 Y2
            rw [ex10] at Y0 Y1 Y2
            go_wp2_with fail
            rw [← ex10, ← epY]
            rw [← ex10] at Y0 Y1 Y2
            clear ex10 epY gx10
            have z1 : sameF ⟨0, 0, []⟩ ⟨0, 0, []⟩ = true := (sameF_iff _ _).2 rfl
            refine (rsame36_any (.agg #[.int .i64 0, .int .i64 0, .slice none 0 0]) (.agg #[.int .i64 0, .int .i64 0, .slice none 0 0]) ⟨0, 0, []⟩ ⟨0, 0, []⟩ x10 ⟨_, rfl, Or.inl ⟨rfl, rfl⟩⟩ ⟨_, rfl, Or.inl ⟨rfl, rfl⟩⟩).mono ?_
            rintro e x11 ⟨rfl, hb⟩
            have gx11 : Fr [] x10 x11 := Fr.ofBelow hb
            have hx11 : Fr [] w x11 := hx10.trans gx11 (by simp)
            have fX := fX.trans gx11 (by simp)
            clear Y0 Y1 Y2
            have qA := gx11.at qA (by simp)
            have qB := gx11.at qB (by simp)
            have qX := gx11.at qX (by simp)
            have qY := gx11.at qY (by simp)
            clear hb gx11
            rw [z1]
            go_wp2_with fail
            go_ret
            exact ⟨rfl, hx11.toBelow (by simp)⟩
          | some f =>
            obtain ⟨wv, rfl, ho⟩ := hres
            obtain ⟨hv, hw64, htx⟩ := (HPO.out f).1 rfl
            have hfl := validF_parts hv
            have hff := formF_parts hfl.1
            obtain ⟨gY, kY, rfl⟩ := ho.someN (by omega)
            have VY := Lib.hid ho.ws
            have HTX := Lib.hid htx
            have HVF := Lib.hid hv
            clear ho htx hv hfl hff
            have fY : Fr [] x9 x9 := Fr.refl _ _
            obtain ⟨x10, ex10⟩ : ∃ W, W = x9.alloc (.cells #[.int .i64 f.bits, .int .i64 f.hashes, .slice (some ⟨gY, 0, none⟩) f.words.length kY] 24) := ⟨_, rfl⟩
            obtain ⟨pY, epY⟩ : ∃ p, p = x9.heap.size := ⟨_, rfl⟩
            have gx10 : Fr [] x9 x10 := by rw [ex10]; exact (Fr.refl [] x9).alloc _
            have hx10 : Fr [] w x10 := hx9.trans gx10 (by simp)
            have fX := fX.trans gx10 (by simp)
            have fY := fY.trans gx10 (by simp)
            have qA := gx10.at qA (by simp)
            have qB := gx10.at qB (by simp)
            have qX := gx10.at qX (by simp)
            have qY : x10.heap[pY]? = some (.cells #[.int .i64 f.bits, .int .i64 f.hashes, .slice (some ⟨gY, 0, none⟩) f.words.length kY] 24 (0, 0)) := by rw [ex10, epY]; exact heap_new rfl
            have Y0 := row_cell qY 0
            have Y1 := row_cell qY 1
            have Y2 := row_cell qY 2
            simp at Y0 Y1 Y2
            rw [ex10] at Y0 Y1 Y2
            go_wp2_with fail
            rw [← ex10, ← epY]
            rw [← ex10] at Y0 Y1 Y2
            clear ex10 epY gx10
            refine (rvalid36_any (.agg #[.int .i64 f.bits, .int .i64 f.hashes, .slice (some ⟨gY, 0, none⟩) f.words.length kY]) f x10 ⟨_, rfl, VY.out.fr0 fY⟩).mono ?_
            rintro e x11 ⟨rfl, hb⟩
            have gx11 : Fr [] x10 x11 := Fr.ofBelow hb
            have hx11 : Fr [] w x11 := hx10.trans gx11 (by simp)
            have fX := fX.trans gx11 (by simp)
            have fY := fY.trans gx11 (by simp)
            clear Y0 Y1 Y2
            have qA := gx11.at qA (by simp)
            have qB := gx11.at qB (by simp)
            have qX := gx11.at qX (by simp)
            have qY := gx11.at qY (by simp)
            clear hb gx11
            have Y0 := row_cell qY 0
            have Y1 := row_cell qY 1
            have Y2 := row_cell qY 2
            simp at Y0 Y1 Y2
            rw [HVF.out]
            go_wp2_with fail
            have u1 : (l == l) = true := by simp
            refine (ftext_any (.agg #[.int .i64 f.bits, .int .i64 f.hashes, .slice (some ⟨gY, 0, none⟩) f.words.length kY]) f x11 ⟨_, rfl, VY.out.fr0 fY⟩ hw64 (HT.out.f.fr hx11)).mono ?_
            rintro e x12 ⟨rfl, hb⟩
            have gx12 : Fr [] x11 x12 := Fr.ofBelow hb
            have hx12 : Fr [] w x12 := hx11.trans gx12 (by simp)
            have fX := fX.trans gx12 (by simp)
            have fY := fY.trans gx12 (by simp)
            clear Y0 Y1 Y2
            have qA := gx12.at qA (by simp)
            have qB := gx12.at qB (by simp)
            have qX := gx12.at qX (by simp)
            have qY := gx12.at qY (by simp)
            clear hb gx12
            rw [HTX.out]
            go_wp2_with fail
            go_ret
            exact ⟨rfl, hx12.toBelow (by simp)⟩
        | true =>
          go_wp2_with fail
          refine (rsame36_any (.agg #[.int .i64 a.bits, .int .i64 a.hashes, .slice a1 a.words.length cap1]) (.agg #[.int .i64 b.bits, .int .i64 b.hashes, .slice a2 b.words.length cap2]) a b x7 ⟨_, rfl, HA.out.fr0 hx7⟩ ⟨_, rfl, HB.out.fr0 hx7⟩).mono ?_
          rintro e x8 ⟨rfl, hb⟩
          have gx8 : Fr [] x7 x8 := Fr.ofBelow hb
          have hx8 : Fr [] w x8 := hx7.trans gx8 (by simp)
          have fX := fX.trans gx8 (by simp)
          clear A0 A1 A2 B0 B1 B2
          have qA := gx8.at qA (by simp)
          have qB := gx8.at qB (by simp)
          have qX := gx8.at qX (by simp)
          clear hb gx8
          rw [← ESB2.out]
          go_wp2_with fail
          refine (parseX_any l x8 (by omega) (HT.out.fr hx8)).mono ?_
          rintro e x9 ⟨o, hpo, hres, hb⟩
          have gx9 : Fr [] x8 x9 := Fr.ofBelow hb
          have hx9 : Fr [] w x9 := hx8.trans gx9 (by simp)
          have fX := fX.trans gx9 (by simp)
          have qA := gx9.at qA (by simp)
          have qB := gx9.at qB (by simp)
          have qX := gx9.at qX (by simp)
          clear hb gx9
          have HPO := Lib.hid hpo
          clear hpo
          cases o with
          | none =>
            obtain rfl := hres
            unfold zeroF
            obtain ⟨x10, ex10⟩ : ∃ W, W = x9.alloc (.cells #[.int .i64 0, .int .i64 0, .slice none 0 0] 24) := ⟨_, rfl⟩
            obtain ⟨pY, epY⟩ : ∃ p, p = x9.heap.size := ⟨_, rfl⟩
            have gx10 : Fr [] x9 x10 := by rw [ex10]; exact (Fr.refl [] x9).alloc _
            have hx10 : Fr [] w x10 := hx9.trans gx10 (by simp)
            have fX := fX.trans gx10 (by simp)
            have qA := gx10.at qA (by simp)
            have qB := gx10.at qB (by simp)
            have qX := gx10.at qX (by simp)
            have qY : x10.heap[pY]? = some (.cells #[.int .i64 0, .int .i64 0, .slice none 0 0] 24 (0, 0)) := by rw [ex10, epY]; exact heap_new rfl
            have Y0 := row_cell qY 0
            have Y1 := row_cell qY 1
            have Y2 := row_cell qY 2
            simp at Y0 Y1 Y2
            rw [ex10] at Y0 Y1 Y2
            go_wp2_with fail
            rw [← ex10, ← epY]
            rw [← ex10] at Y0 Y1 Y2
            clear ex10 epY gx10
            have z1 : sameF ⟨0, 0, []⟩ ⟨0, 0, []⟩ = true := (sameF_iff _ _).2 rfl
            refine (rsame36_any (.agg #[.int .i64 0, .int .i64 0, .slice none 0 0]) (.agg #[.int .i64 0, .int .i64 0, .slice none 0 0]) ⟨0, 0, []⟩ ⟨0, 0, []⟩ x10 ⟨_, rfl, Or.inl ⟨rfl, rfl⟩⟩ ⟨_, rfl, Or.inl ⟨rfl, rfl⟩⟩).mono ?_
            rintro e x11 ⟨rfl, hb⟩
            have gx11 : Fr [] x10 x11 := Fr.ofBelow hb
            have hx11 : Fr [] w x11 := hx10.trans gx11 (by simp)
            have fX := fX.trans gx11 (by simp)
            clear Y0 Y1 Y2
            have qA := gx11.at qA (by simp)
            have qB := gx11.at qB (by simp)
            have qX := gx11.at qX (by simp)
            have qY := gx11.at qY (by simp)
            clear hb gx11
            rw [z1]
            go_wp2_with fail
            go_ret
            exact ⟨rfl, hx11.toBelow (by simp)⟩
          | some f =>
            obtain ⟨wv, rfl, ho⟩ := hres
            obtain ⟨hv, hw64, htx⟩ := (HPO.out f).1 rfl
            have hfl := validF_parts hv
            have hff := formF_parts hfl.1
            obtain ⟨gY, kY, rfl⟩ := ho.someN (by omega)
            have VY := Lib.hid ho.ws
            have HTX := Lib.hid htx
            have HVF := Lib.hid hv
            clear ho htx hv hfl hff
            have fY : Fr [] x9 x9 := Fr.refl _ _
            obtain ⟨x10, ex10⟩ : ∃ W, W = x9.alloc (.cells #[.int .i64 f.bits, .int .i64 f.hashes, .slice (some ⟨gY, 0, none⟩) f.words.length kY] 24) := ⟨_, rfl⟩
            obtain ⟨pY, epY⟩ : ∃ p, p = x9.heap.size := ⟨_, rfl⟩
            have gx10 : Fr [] x9 x10 := by rw [ex10]; exact (Fr.refl [] x9).alloc _
            have hx10 : Fr [] w x10 := hx9.trans gx10 (by simp)
            have fX := fX.trans gx10 (by simp)
            have fY := fY.trans gx10 (by simp)
            have qA := gx10.at qA (by simp)
            have qB := gx10.at qB (by simp)
            have qX := gx10.at qX (by simp)
            have qY : x10.heap[pY]? = some (.cells #[.int .i64 f.bits, .int .i64 f.hashes, .slice (some ⟨gY, 0, none⟩) f.words.length kY] 24 (0, 0)) := by rw [ex10, epY]; exact heap_new rfl
            have Y0 := row_cell qY 0
            have Y1 := row_cell qY 1
            have Y2 := row_cell qY 2
            simp at Y0 Y1 Y2
            rw [ex10] at Y0 Y1 Y2
            go_wp2_with fail
            rw [← ex10, ← epY]
            rw [← ex10] at Y0 Y1 Y2
            clear ex10 epY gx10
            refine (rvalid36_any (.agg #[.int .i64 f.bits, .int .i64 f.hashes, .slice (some ⟨gY, 0, none⟩) f.words.length kY]) f x10 ⟨_, rfl, VY.out.fr0 fY⟩).mono ?_
            rintro e x11 ⟨rfl, hb⟩
            have gx11 : Fr [] x10 x11 := Fr.ofBelow hb
            have hx11 : Fr [] w x11 := hx10.trans gx11 (by simp)
            have fX := fX.trans gx11 (by simp)
            have fY := fY.trans gx11 (by simp)
            clear Y0 Y1 Y2
            have qA := gx11.at qA (by simp)
            have qB := gx11.at qB (by simp)
            have qX := gx11.at qX (by simp)
            have qY := gx11.at qY (by simp)
            clear hb gx11
            have Y0 := row_cell qY 0
            have Y1 := row_cell qY 1
            have Y2 := row_cell qY 2
            simp at Y0 Y1 Y2
            rw [HVF.out]
            go_wp2_with fail
            have u1 : (l == l) = true := by simp
            refine (ftext_any (.agg #[.int .i64 f.bits, .int .i64 f.hashes, .slice (some ⟨gY, 0, none⟩) f.words.length kY]) f x11 ⟨_, rfl, VY.out.fr0 fY⟩ hw64 (HT.out.f.fr hx11)).mono ?_
            rintro e x12 ⟨rfl, hb⟩
            have gx12 : Fr [] x11 x12 := Fr.ofBelow hb
            have hx12 : Fr [] w x12 := hx11.trans gx12 (by simp)
            have fX := fX.trans gx12 (by simp)
            have fY := fY.trans gx12 (by simp)
            clear Y0 Y1 Y2
            have qA := gx12.at qA (by simp)
            have qB := gx12.at qB (by simp)
            have qX := gx12.at qX (by simp)
            have qY := gx12.at qY (by simp)
            clear hb gx12
            rw [HTX.out]
            go_wp2_with fail
            go_ret
            exact ⟨rfl, hx12.toBelow (by simp)⟩
end Go.Proofs.YtnmakpiddfhhnaaGreatDoor
