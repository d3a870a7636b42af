/-
  foyerlaw30.head answers true.
  foyerlaw30.small.
-/
import Derived.Test.YtcblpfepkkkilaaGreatDoorPlnHt
import Derived.Test.YtcblpfepkkkilaaGreatDoorRtA
import Derived.Test.YtcblpfepkkkilaaGreatDoorTtK
namespace Go.Proofs.YtcblpfepkkkilaaGreatDoor
open Go.RowKit

abbrev zC : Array Value := #[.int .i64 0, .int .i64 0, .int .i64 0, .string ⟨#[]⟩, .slice none 0 0]
/-- A title in a new block. -/
theorem new_ttl (W : World) (x0 x1 x2 x3 x4 : Value) : ∃ T, T = W.alloc (.cells #[x0, x1, x2, x3, x4] 24) ∧ T.heap[W.heap.size]? = some (.cells #[x0, x1, x2, x3, x4] 24 (0, 0)) ∧ Fr [] W T :=
  ⟨_, rfl, heap_new rfl, (Fr.refl [] W).alloc _⟩
theorem zC_str {k : Nat} {s : ByteArray} (h : zC[k]? = some (.string s)) : k = 3 := by
  match k with
  | 0 | 1 | 2 | 4 => simp at h
  | 3 => rfl
  | k + 5 => simp at h
/-- A store into a title's block leaves the transfers of another title as they were. -/
theorem Trs.store {w w' : World} {b : Nat} {cv : Value} {l : List Trf} (h : Trs w cv l) (hb : w.heap[b]? = some (.cells zC 24 (0, 0))) (hf : Fr [b] w w') (h2 : l = [] ∨ 2 ≤ l.length) (h3 : ∀ x ∈ l, 2 ≤ x.sig.length) : Trs w' cv l := by
  rcases h with h | ⟨g, off, cap, hv, h4, h5, h6, h7⟩
  · exact Or.inl h
  refine Or.inr ⟨g, off, cap, hv, h4, h5, Nat.lt_of_lt_of_le h6 hf.size, fun i x hx => ?_⟩
  have hil : i < l.length := by
    rcases Nat.lt_or_ge i l.length with h | h
    · exact h
    · rw [List.getElem?_eq_none h] at hx; cases hx
  have hgb : g ≠ b := by
    rintro rfl
    have h8 : 2 ≤ l.length := by
      rcases h2 with rfl | h2
      · simp at hil
      · exact h2
    have e0 := (h7 0 _ (List.getElem?_eq_getElem (by omega))).1
    have e1 := (h7 1 _ (List.getElem?_eq_getElem (by omega))).1
    rw [row_cell hb] at e0 e1
    have := zC_str e0
    have := zC_str e1
    omega
  obtain ⟨e0, u, e1, hu⟩ := h7 i x hx
  refine ⟨hf.cell e0 (by simpa using hgb), u, hf.cell e1 (by simpa using hgb), hu.frX hf (fun k hk hm => ?_)⟩
  obtain rfl : k = b := by simpa using hm
  have hx2 := h3 x (List.mem_of_getElem? hx)
  rcases hu with (⟨rfl, _⟩ | ⟨b', off', cap', rfl, _, _, _, h9⟩) | ⟨hn, _⟩
  · simp [Value.ownBlock] at hk
  · obtain rfl : b' = k := by simpa [Value.ownBlock] using hk
    have e0 := h9 0 (by omega)
    have e1 := h9 1 (by omega)
    rw [row_cell hb] at e0 e1
    have := zC_str e0
    have := zC_str e1
    omega
  · rw [hn] at hx2; simp at hx2
set_option maxRecDepth 100000 in
set_option maxHeartbeats 8000000 in
theorem head30_any (w : World) (hT : TabsU w) :
    Calls Tryz.prog 5 #[] w fun e w' => e = .returned (.bool true) ∧ Below w.heap.size w w' := by
  have hmx : Tryz.prog.follows .mixedOrders = true := by kernel_rfl
  obtain ⟨pa, pb, pc, u, v, ea, eb, ec, hab, P1, P2, P3, P4, P5, S0, S1, S2, hlt, hpar, ow0, owv, vp8, ex1, ex2, tx0, la, lb, lc, v2, v3⟩ := head30_plain
  have HT := Lib.hid hT
  have EA := Lib.hid ea
  have EB := Lib.hid eb
  have EC := Lib.hid ec
  have HP1 := Lib.hid P1
  have HP2 := Lib.hid P2
  have HP3 := Lib.hid P3
  have HP4 := Lib.hid P4
  have HP5 := Lib.hid P5
  have HS0 := Lib.hid S0
  have HS1 := Lib.hid S1
  have HS2 := Lib.hid S2
  have HLT := Lib.hid hlt
  have HPAR := Lib.hid hpar
  have OW0 := Lib.hid ow0
  have OWV := Lib.hid owv
  have VP8 := Lib.hid vp8
  have EX1 := Lib.hid ex1
  have EX2 := Lib.hid ex2
  have TX0 := Lib.hid tx0
  have LA := Lib.hid la
  have LB := Lib.hid lb
  have LC := Lib.hid lc
  have Hv2 := Lib.hid (Or.inr v2 : v.chain = [] ∨ 2 ≤ v.chain.length)
  have Hv3 := Lib.hid v3
  clear hT ea eb ec hab P1 P2 P3 P4 P5 S0 S1 S2 hlt hpar ow0 owv vp8 ex1 ex2 tx0 la lb lc v2 v3
  have HzeroTtl2 : Hid (zeroTtl.chain = [] ∨ 2 ≤ zeroTtl.chain.length) := Lib.hid (Or.inl rfl)
  have HzeroTtl3 : Hid (∀ x ∈ zeroTtl.chain, 2 ≤ x.sig.length) := Lib.hid (fun x hx => by cases hx)
  go_enter Tryz.func5, Tryz.ntmps5
  go_wp2_with fail
  refine (public_any [97] w (by decide) HT.out.t).mono ?_
  rintro e w1 ⟨rfl, hb1⟩
  have f1 : Fr [] w w1 := Fr.ofBelow hb1
  rw [← EA.out]
  clear hb1
  go_wp2_with fail
  refine (public_any [98] w1 (by decide) (HT.out.t.fr f1)).mono ?_
  rintro e w2 ⟨rfl, hb2⟩
  have fw2 : Fr [] w w2 := f1.trans (Y := []) (Fr.ofBelow hb2) (by simp)
  rw [← EB.out]
  clear hb2 f1
  obtain ⟨T1, eT, hbb0, hf⟩ := new_ttl w2 (.int .i64 20001) (.int .i64 1) (.int .i64 7) (.string ⟨pa.toArray⟩) (.slice none 0 0)
  obtain ⟨b0, eb⟩ : ∃ b, b = w2.heap.size := ⟨_, rfl⟩
  have c0 := row_cell hbb0 0
  have c1 := row_cell hbb0 1
  have c2 := row_cell hbb0 2
  have c3 := row_cell hbb0 3
  have c4 := row_cell hbb0 4
  simp at c0 c1 c2 c3 c4
  rw [eT] at c0 c1 c2 c3 c4
  have ET := Lib.hid eT
  clear eT
  go_wp2_with fail
  rw [← ET.out, ← eb]
  rw [← eb] at hbb0
  have fT1 := fw2.trans hf (by simp)
  clear ET eb hf fw2 c0 c1 c2 c3 c4
  refine (pass_any _ ⟨20001, 1, 7, pa, []⟩ pb [97] T1 ⟨_, rfl, Trs.nil _⟩ HS0.out (by rw [LB.out]; decide) (by decide) (HT.out.t.fr fT1)).mono ?_
  rintro e y1 ⟨vv, rfl, hv, hbb⟩
  rw [HP1.out] at hv ⊢
  have hf : Fr [] T1 y1 := Fr.ofBelow hbb
  have hbb0 := hf.at hbb0 (by simp)
  have fy1 := fT1.trans hf (by simp)
  clear hbb hf fT1
  obtain ⟨cv, rfl, hc⟩ := hv
  obtain ⟨a1, ka1, rfl, _, _, _⟩ := hc.form
  have Ha1 := Lib.hid hc
  clear hc
  obtain ⟨T2, eT, hbb1, hf⟩ := new_ttl y1 (.int .i64 u.serial) (.int .i64 u.shw) (.int .i64 u.place) (.string ⟨u.first.toArray⟩) (.slice a1 u.chain.length ka1)
  obtain ⟨b1, eb⟩ : ∃ b, b = y1.heap.size := ⟨_, rfl⟩
  have c0 := row_cell hbb1 0
  have c1 := row_cell hbb1 1
  have c2 := row_cell hbb1 2
  have c3 := row_cell hbb1 3
  have c4 := row_cell hbb1 4
  simp at c0 c1 c2 c3 c4
  rw [eT] at c0 c1 c2 c3 c4
  have ET := Lib.hid eT
  clear eT
  go_wp2_with fail
  rw [← ET.out, ← eb]
  rw [← eb] at hbb1
  have hbb0 := hf.at hbb0 (by simp)
  have Ha1 := Lib.hid (Ha1.out.fr hf)
  have fT2 := fy1.trans hf (by simp)
  clear ET eb hf fy1 c0 c1 c2 c3 c4
  have c0 := row_cell hbb1 0
  have c1 := row_cell hbb1 1
  have c2 := row_cell hbb1 2
  have c3 := row_cell hbb1 3
  have c4 := row_cell hbb1 4
  simp at c0 c1 c2 c3 c4
  refine Code.wp_mono (Q := OnlyNormal fun _ a' w' => ∃ (b2 : Nat) (a2 : Option Addr) (ka2 : Nat), a' = { tmps := #[.bool false, .string ⟨pa.toArray⟩, .string ⟨pb.toArray⟩, .pointer (some ⟨b0, 0, none⟩), .pointer (some ⟨b1, 0, none⟩), .int .i64 0, .pointer (some ⟨b2, 0, none⟩), .int .i64 0, undef, undef, undef, undef, undef, undef, undef, undef, undef, undef, .string ⟨pa.toArray⟩, .string ⟨pb.toArray⟩, .string ⟨pa.toArray⟩, .agg #[.int .i64 20001, .int .i64 1, .int .i64 7, .string ⟨pa.toArray⟩, .slice none 0 0], .tuple #[.agg #[.int .i64 u.serial, .int .i64 u.shw, .int .i64 u.place, .string ⟨u.first.toArray⟩, .slice a1 u.chain.length ka1], .int .i64 0], .agg #[.int .i64 20001, .int .i64 1, .int .i64 7, .string ⟨pa.toArray⟩, .slice none 0 0], .string ⟨pb.toArray⟩, .tuple #[.agg #[.int .i64 u.serial, .int .i64 u.shw, .int .i64 u.place, .string ⟨u.first.toArray⟩, .slice a1 u.chain.length ka1], .int .i64 0], .agg #[.int .i64 u.serial, .int .i64 u.shw, .int .i64 u.place, .string ⟨u.first.toArray⟩, .slice a1 u.chain.length ka1], .int .i64 0, .tuple #[.agg #[.int .i64 v.serial, .int .i64 v.shw, .int .i64 v.place, .string ⟨v.first.toArray⟩, .slice a2 v.chain.length ka2], .int .i64 0], .agg #[.int .i64 u.serial, .int .i64 u.shw, .int .i64 u.place, .string ⟨u.first.toArray⟩, .slice a1 u.chain.length ka1], .string ⟨pc.toArray⟩, .tuple #[.agg #[.int .i64 v.serial, .int .i64 v.shw, .int .i64 v.place, .string ⟨v.first.toArray⟩, .slice a2 v.chain.length ka2], .int .i64 0], .agg #[.int .i64 v.serial, .int .i64 v.shw, .int .i64 v.place, .string ⟨v.first.toArray⟩, .slice a2 v.chain.length ka2], .int .i64 0, undef, undef, undef, undef, undef, undef, undef, undef, undef, undef, undef, undef, undef, undef, undef, undef, undef, undef, undef, undef, undef, undef, undef, undef, undef, undef, undef, undef, undef, undef, undef, undef, undef, undef, undef, undef, undef, undef, undef, undef, undef, undef, undef, undef, undef, undef, undef, undef, undef, undef, undef, undef, undef, undef, undef, undef, undef, undef, undef, undef, undef, undef, undef, undef, undef, undef, undef, undef, undef, undef, undef, undef, undef, undef, undef, undef, undef, undef, undef, undef, undef, undef, undef, undef, undef, undef, undef], defers := [] } ∧ w'.heap[b2]? = some (.cells #[.int .i64 v.serial, .int .i64 v.shw, .int .i64 v.place, .string ⟨v.first.toArray⟩, .slice a2 v.chain.length ka2] 24 (0, 0)) ∧ Fr [] T2 w' ∧ Trs w' (.slice a2 v.chain.length ka2) v.chain) ?rest ?region
  case region =>
      have g0 : Fr [] T2 T2.drew := (Fr.refl [] T2).drew
      have hS0 : T2.drew.cell? ⟨b1, 0, none⟩ = some (.int .i64 u.serial) ∧ T2.drew.cell? ⟨b1, 1, none⟩ = some (.int .i64 u.shw) ∧ T2.drew.cell? ⟨b1, 2, none⟩ = some (.int .i64 u.place) ∧ T2.drew.cell? ⟨b1, 3, none⟩ = some (.string ⟨u.first.toArray⟩) ∧ T2.drew.cell? ⟨b1, 4, none⟩ = some (.slice a1 u.chain.length ka1) := ⟨g0.cell c0 (by simp), g0.cell c1 (by simp), g0.cell c2 (by simp), g0.cell c3 (by simp), g0.cell c4 (by simp)⟩
      refine region_held 100 (fun W' => W'.cell? ⟨b1, 0, none⟩ = some (.int .i64 u.serial) ∧ W'.cell? ⟨b1, 1, none⟩ = some (.int .i64 u.shw) ∧ W'.cell? ⟨b1, 2, none⟩ = some (.int .i64 u.place) ∧ W'.cell? ⟨b1, 3, none⟩ = some (.string ⟨u.first.toArray⟩) ∧ W'.cell? ⟨b1, 4, none⟩ = some (.slice a1 u.chain.length ka1)) hmx ?_
      change Held _ _ _ _ _ _ 9 (Array.replicate 9 false) _ _
      refine hd_take 0 (v := .agg #[.int .i64 u.serial, .int .i64 u.shw, .int .i64 u.place, .string ⟨u.first.toArray⟩, .slice a1 u.chain.length ka1]) rfl (by kernel_rfl) (by kernel_rfl) (by kernel_rfl) rfl hS0 (fun W' hS => by obtain ⟨s0, s1, s2, s3, s4⟩ := hS; go_simp) rfl ?_
      try simp only [Act.put, List.setIfInBounds_toArray, List.set_cons_zero, List.set_cons_succ]
      generalize T2.drew = wd at g0 hS0 ⊢
      refine hd_two 1 6 (by kernel_rfl) rfl (by kernel_rfl) rfl rfl (by kernel_rfl) rfl (fun K' hK => ?_) (fun K' hK => ?_)
      · go_simp
        refine (public_any [99] _ (by decide) (HT.out.t.fr (fT2.trans g0 (by simp)))).mono ?_
        rintro e y1 ⟨rfl, hbb⟩
        rw [← EC.out]
        have g1 : Fr [] T2 y1 := g0.below hbb g0.size
        clear hbb
        have hS2 : y1.cell? ⟨b1, 0, none⟩ = some (.int .i64 u.serial) ∧ y1.cell? ⟨b1, 1, none⟩ = some (.int .i64 u.shw) ∧ y1.cell? ⟨b1, 2, none⟩ = some (.int .i64 u.place) ∧ y1.cell? ⟨b1, 3, none⟩ = some (.string ⟨u.first.toArray⟩) ∧ y1.cell? ⟨b1, 4, none⟩ = some (.slice a1 u.chain.length ka1) := ⟨g1.cell c0 (by simp), g1.cell c1 (by simp), g1.cell c2 (by simp), g1.cell c3 (by simp), g1.cell c4 (by simp)⟩
        refine hK.out _ _ (fun _ => hS2) ?_
        clear hK K'
        try simp only [Act.put, List.setIfInBounds_toArray, List.set_cons_zero, List.set_cons_succ]
        refine hd_two 2 6 (by kernel_rfl) rfl (by kernel_rfl) rfl rfl (by kernel_rfl) rfl (fun K' hK => ?_) (fun K' hK => ?_)
        · go_simp
          refine (pass_any _ u pc [98] _ ⟨_, rfl, Ha1.out.fr g1⟩ HS1.out (by rw [LC.out]; decide) (by decide) (HT.out.t.fr (fT2.trans g1 (by simp)))).mono ?_
          rintro e y3 ⟨vv, rfl, hv, hbb⟩
          rw [HP2.out] at hv ⊢
          have g3 : Fr [] T2 y3 := g1.below hbb g1.size
          clear hbb
          obtain ⟨cv, rfl, hc⟩ := hv
          obtain ⟨a2, ka2, rfl, _, _, _⟩ := hc.form
          have HC := Lib.hid hc
          clear hc
          have hS4 : y3.cell? ⟨b1, 0, none⟩ = some (.int .i64 u.serial) ∧ y3.cell? ⟨b1, 1, none⟩ = some (.int .i64 u.shw) ∧ y3.cell? ⟨b1, 2, none⟩ = some (.int .i64 u.place) ∧ y3.cell? ⟨b1, 3, none⟩ = some (.string ⟨u.first.toArray⟩) ∧ y3.cell? ⟨b1, 4, none⟩ = some (.slice a1 u.chain.length ka1) := ⟨g3.cell c0 (by simp), g3.cell c1 (by simp), g3.cell c2 (by simp), g3.cell c3 (by simp), g3.cell c4 (by simp)⟩
          refine hK.out _ _ (fun _ => hS4) ?_
          clear hK K'
          refine hd_take 3 (v := .tuple #[.agg #[.int .i64 v.serial, .int .i64 v.shw, .int .i64 v.place, .string ⟨v.first.toArray⟩, .slice a2 v.chain.length ka2], .int .i64 0]) rfl (by kernel_rfl) (by kernel_rfl) (by kernel_rfl) rfl hS4 (fun W' hS => by go_simp) rfl ?_
          try simp only [Act.put, List.setIfInBounds_toArray, List.set_cons_zero, List.set_cons_succ]
          refine hd_take 4 (v := .agg #[.int .i64 v.serial, .int .i64 v.shw, .int .i64 v.place, .string ⟨v.first.toArray⟩, .slice a2 v.chain.length ka2]) rfl (by kernel_rfl) (by kernel_rfl) (by kernel_rfl) rfl hS4 (fun W' hS => by go_simp) rfl ?_
          try simp only [Act.put, List.setIfInBounds_toArray, List.set_cons_zero, List.set_cons_succ]
          refine hd_take 5 (v := .int .i64 0) rfl (by kernel_rfl) (by kernel_rfl) (by kernel_rfl) rfl hS4 (fun W' hS => by go_simp) rfl ?_
          try simp only [Act.put, List.setIfInBounds_toArray, List.set_cons_zero, List.set_cons_succ]
          refine hd_one 6 (by kernel_rfl) rfl (by kernel_rfl) rfl (fun K' hK => ?_)
          go_simp
          have g5 := g3.alloc (.cells #[.int .i64 0, .int .i64 0, .int .i64 0, .string ⟨#[]⟩, .slice none 0 0] 24)
          have HC := Lib.hid (HC.out.fr ((Fr.refl [] y3).alloc (.cells #[.int .i64 0, .int .i64 0, .int .i64 0, .string ⟨#[]⟩, .slice none 0 0] 24)))
          have hal : (y3.alloc (.cells #[.int .i64 0, .int .i64 0, .int .i64 0, .string ⟨#[]⟩, .slice none 0 0] 24)).heap[y3.heap.size]? = some (.cells #[.int .i64 0, .int .i64 0, .int .i64 0, .string ⟨#[]⟩, .slice none 0 0] 24 (0, 0)) := heap_new rfl
          obtain ⟨b2, eb⟩ : ∃ b2, b2 = y3.heap.size := ⟨_, rfl⟩
          have hle : T2.heap.size ≤ b2 := by rw [eb]; exact g3.size
          rw [← eb] at hal ⊢
          clear eb
          generalize y3.alloc (.cells #[.int .i64 0, .int .i64 0, .int .i64 0, .string ⟨#[]⟩, .slice none 0 0] 24) = x5 at g5 hal HC ⊢
          have hS6 : x5.cell? ⟨b1, 0, none⟩ = some (.int .i64 u.serial) ∧ x5.cell? ⟨b1, 1, none⟩ = some (.int .i64 u.shw) ∧ x5.cell? ⟨b1, 2, none⟩ = some (.int .i64 u.place) ∧ x5.cell? ⟨b1, 3, none⟩ = some (.string ⟨u.first.toArray⟩) ∧ x5.cell? ⟨b1, 4, none⟩ = some (.slice a1 u.chain.length ka1) := ⟨g5.cell c0 (by simp), g5.cell c1 (by simp), g5.cell c2 (by simp), g5.cell c3 (by simp), g5.cell c4 (by simp)⟩
          refine hK.out _ _ (fun _ => hS6) ?_
          clear hK K'
          try simp only [Act.put, List.setIfInBounds_toArray, List.set_cons_zero, List.set_cons_succ]
          have r0 := row_cell hal 0
          have r1 := row_cell hal 1
          have r2 := row_cell hal 2
          have r3 := row_cell hal 3
          have r4 := row_cell hal 4
          simp at r0 r1 r2 r3 r4
          have q0 := row_free hal 0
          have q1 := row_free hal 1
          have q2 := row_free hal 2
          have q3 := row_free hal 3
          have q4 := row_free hal 4
          have hbz := row_set (row_set (row_set (row_set (row_set hal 0 (.int .i64 v.serial)) 1 (.int .i64 v.shw)) 2 (.int .i64 v.place)) 3 (.string ⟨v.first.toArray⟩)) 4 (.slice a2 v.chain.length ka2)
          have hst := (Fr.refl [b2] x5).store5 b2 (by simp) (.int .i64 v.serial) (.int .i64 v.shw) (.int .i64 v.place) (.string ⟨v.first.toArray⟩) (.slice a2 v.chain.length ka2)
          have hfz := g5.store5 b2 (Or.inr hle) (.int .i64 v.serial) (.int .i64 v.shw) (.int .i64 v.place) (.string ⟨v.first.toArray⟩) (.slice a2 v.chain.length ka2)
          have htz := HC.out.store hal hst Hv2.out Hv3.out
          refine hd_one 7 (by kernel_rfl) rfl (by kernel_rfl) rfl (fun K' hK => ?_)
          go_simp
          have hS7 : (((((x5.setCell ⟨b2, 0, none⟩ (.int .i64 v.serial)).setCell ⟨b2, 1, none⟩ (.int .i64 v.shw)).setCell ⟨b2, 2, none⟩ (.int .i64 v.place)).setCell ⟨b2, 3, none⟩ (.string ⟨v.first.toArray⟩)).setCell ⟨b2, 4, none⟩ (.slice a2 v.chain.length ka2)).cell? ⟨b1, 0, none⟩ = some (.int .i64 u.serial) ∧ (((((x5.setCell ⟨b2, 0, none⟩ (.int .i64 v.serial)).setCell ⟨b2, 1, none⟩ (.int .i64 v.shw)).setCell ⟨b2, 2, none⟩ (.int .i64 v.place)).setCell ⟨b2, 3, none⟩ (.string ⟨v.first.toArray⟩)).setCell ⟨b2, 4, none⟩ (.slice a2 v.chain.length ka2)).cell? ⟨b1, 1, none⟩ = some (.int .i64 u.shw) ∧ (((((x5.setCell ⟨b2, 0, none⟩ (.int .i64 v.serial)).setCell ⟨b2, 1, none⟩ (.int .i64 v.shw)).setCell ⟨b2, 2, none⟩ (.int .i64 v.place)).setCell ⟨b2, 3, none⟩ (.string ⟨v.first.toArray⟩)).setCell ⟨b2, 4, none⟩ (.slice a2 v.chain.length ka2)).cell? ⟨b1, 2, none⟩ = some (.int .i64 u.place) ∧ (((((x5.setCell ⟨b2, 0, none⟩ (.int .i64 v.serial)).setCell ⟨b2, 1, none⟩ (.int .i64 v.shw)).setCell ⟨b2, 2, none⟩ (.int .i64 v.place)).setCell ⟨b2, 3, none⟩ (.string ⟨v.first.toArray⟩)).setCell ⟨b2, 4, none⟩ (.slice a2 v.chain.length ka2)).cell? ⟨b1, 3, none⟩ = some (.string ⟨u.first.toArray⟩) ∧ (((((x5.setCell ⟨b2, 0, none⟩ (.int .i64 v.serial)).setCell ⟨b2, 1, none⟩ (.int .i64 v.shw)).setCell ⟨b2, 2, none⟩ (.int .i64 v.place)).setCell ⟨b2, 3, none⟩ (.string ⟨v.first.toArray⟩)).setCell ⟨b2, 4, none⟩ (.slice a2 v.chain.length ka2)).cell? ⟨b1, 4, none⟩ = some (.slice a1 u.chain.length ka1) := ⟨hfz.cell c0 (by simp), hfz.cell c1 (by simp), hfz.cell c2 (by simp), hfz.cell c3 (by simp), hfz.cell c4 (by simp)⟩
          refine hK.out _ _ (fun _ => hS7) ?_
          clear hK K'
          refine hd_take 8 (v := .int .i64 0) rfl (by kernel_rfl) (by kernel_rfl) (by kernel_rfl) rfl hS7 (fun W' hS => by go_simp) rfl ?_
          refine held_done (by kernel_rfl) ?_
          exact ⟨b2, a2, ka2, rfl, hbz, hfz, htz⟩
        · go_simp
          have g8 := g1.alloc (.cells #[.int .i64 0, .int .i64 0, .int .i64 0, .string ⟨#[]⟩, .slice none 0 0] 24)
          have hal : (y1.alloc (.cells #[.int .i64 0, .int .i64 0, .int .i64 0, .string ⟨#[]⟩, .slice none 0 0] 24)).heap[y1.heap.size]? = some (.cells #[.int .i64 0, .int .i64 0, .int .i64 0, .string ⟨#[]⟩, .slice none 0 0] 24 (0, 0)) := heap_new rfl
          obtain ⟨b2, eb⟩ : ∃ b2, b2 = y1.heap.size := ⟨_, rfl⟩
          have hle : T2.heap.size ≤ b2 := by rw [eb]; exact g1.size
          rw [← eb] at hal ⊢
          clear eb
          generalize y1.alloc (.cells #[.int .i64 0, .int .i64 0, .int .i64 0, .string ⟨#[]⟩, .slice none 0 0] 24) = x8 at g8 hal ⊢
          have hS9 : x8.cell? ⟨b1, 0, none⟩ = some (.int .i64 u.serial) ∧ x8.cell? ⟨b1, 1, none⟩ = some (.int .i64 u.shw) ∧ x8.cell? ⟨b1, 2, none⟩ = some (.int .i64 u.place) ∧ x8.cell? ⟨b1, 3, none⟩ = some (.string ⟨u.first.toArray⟩) ∧ x8.cell? ⟨b1, 4, none⟩ = some (.slice a1 u.chain.length ka1) := ⟨g8.cell c0 (by simp), g8.cell c1 (by simp), g8.cell c2 (by simp), g8.cell c3 (by simp), g8.cell c4 (by simp)⟩
          refine hK.out _ _ (fun _ => hS9) ?_
          clear hK K'
          try simp only [Act.put, List.setIfInBounds_toArray, List.set_cons_zero, List.set_cons_succ]
          refine hd_one 2 (by kernel_rfl) rfl (by kernel_rfl) rfl (fun K' hK => ?_)
          go_simp
          refine (pass_any _ u pc [98] _ ⟨_, rfl, Ha1.out.fr g8⟩ HS1.out (by rw [LC.out]; decide) (by decide) (HT.out.t.fr (fT2.trans g8 (by simp)))).mono ?_
          rintro e y10 ⟨vv, rfl, hv, hbb⟩
          rw [HP2.out] at hv ⊢
          have g10 : Fr [] T2 y10 := g8.below hbb g8.size
          have hal := (show Fr [] _ _ from Fr.ofBelow hbb).at hal (by simp)
          clear hbb
          obtain ⟨cv, rfl, hc⟩ := hv
          obtain ⟨a2, ka2, rfl, _, _, _⟩ := hc.form
          have HC := Lib.hid hc
          clear hc
          have hS11 : y10.cell? ⟨b1, 0, none⟩ = some (.int .i64 u.serial) ∧ y10.cell? ⟨b1, 1, none⟩ = some (.int .i64 u.shw) ∧ y10.cell? ⟨b1, 2, none⟩ = some (.int .i64 u.place) ∧ y10.cell? ⟨b1, 3, none⟩ = some (.string ⟨u.first.toArray⟩) ∧ y10.cell? ⟨b1, 4, none⟩ = some (.slice a1 u.chain.length ka1) := ⟨g10.cell c0 (by simp), g10.cell c1 (by simp), g10.cell c2 (by simp), g10.cell c3 (by simp), g10.cell c4 (by simp)⟩
          refine hK.out _ _ (fun _ => hS11) ?_
          clear hK K'
          refine hd_take 3 (v := .tuple #[.agg #[.int .i64 v.serial, .int .i64 v.shw, .int .i64 v.place, .string ⟨v.first.toArray⟩, .slice a2 v.chain.length ka2], .int .i64 0]) rfl (by kernel_rfl) (by kernel_rfl) (by kernel_rfl) rfl hS11 (fun W' hS => by go_simp) rfl ?_
          try simp only [Act.put, List.setIfInBounds_toArray, List.set_cons_zero, List.set_cons_succ]
          refine hd_take 4 (v := .agg #[.int .i64 v.serial, .int .i64 v.shw, .int .i64 v.place, .string ⟨v.first.toArray⟩, .slice a2 v.chain.length ka2]) rfl (by kernel_rfl) (by kernel_rfl) (by kernel_rfl) rfl hS11 (fun W' hS => by go_simp) rfl ?_
          try simp only [Act.put, List.setIfInBounds_toArray, List.set_cons_zero, List.set_cons_succ]
          refine hd_take 5 (v := .int .i64 0) rfl (by kernel_rfl) (by kernel_rfl) (by kernel_rfl) rfl hS11 (fun W' hS => by go_simp) rfl ?_
          try simp only [Act.put, List.setIfInBounds_toArray, List.set_cons_zero, List.set_cons_succ]
          have r0 := row_cell hal 0
          have r1 := row_cell hal 1
          have r2 := row_cell hal 2
          have r3 := row_cell hal 3
          have r4 := row_cell hal 4
          simp at r0 r1 r2 r3 r4
          have q0 := row_free hal 0
          have q1 := row_free hal 1
          have q2 := row_free hal 2
          have q3 := row_free hal 3
          have q4 := row_free hal 4
          have hbz := row_set (row_set (row_set (row_set (row_set hal 0 (.int .i64 v.serial)) 1 (.int .i64 v.shw)) 2 (.int .i64 v.place)) 3 (.string ⟨v.first.toArray⟩)) 4 (.slice a2 v.chain.length ka2)
          have hst := (Fr.refl [b2] y10).store5 b2 (by simp) (.int .i64 v.serial) (.int .i64 v.shw) (.int .i64 v.place) (.string ⟨v.first.toArray⟩) (.slice a2 v.chain.length ka2)
          have hfz := g10.store5 b2 (Or.inr hle) (.int .i64 v.serial) (.int .i64 v.shw) (.int .i64 v.place) (.string ⟨v.first.toArray⟩) (.slice a2 v.chain.length ka2)
          have htz := HC.out.store hal hst Hv2.out Hv3.out
          refine hd_one 7 (by kernel_rfl) rfl (by kernel_rfl) rfl (fun K' hK => ?_)
          go_simp
          have hS12 : (((((y10.setCell ⟨b2, 0, none⟩ (.int .i64 v.serial)).setCell ⟨b2, 1, none⟩ (.int .i64 v.shw)).setCell ⟨b2, 2, none⟩ (.int .i64 v.place)).setCell ⟨b2, 3, none⟩ (.string ⟨v.first.toArray⟩)).setCell ⟨b2, 4, none⟩ (.slice a2 v.chain.length ka2)).cell? ⟨b1, 0, none⟩ = some (.int .i64 u.serial) ∧ (((((y10.setCell ⟨b2, 0, none⟩ (.int .i64 v.serial)).setCell ⟨b2, 1, none⟩ (.int .i64 v.shw)).setCell ⟨b2, 2, none⟩ (.int .i64 v.place)).setCell ⟨b2, 3, none⟩ (.string ⟨v.first.toArray⟩)).setCell ⟨b2, 4, none⟩ (.slice a2 v.chain.length ka2)).cell? ⟨b1, 1, none⟩ = some (.int .i64 u.shw) ∧ (((((y10.setCell ⟨b2, 0, none⟩ (.int .i64 v.serial)).setCell ⟨b2, 1, none⟩ (.int .i64 v.shw)).setCell ⟨b2, 2, none⟩ (.int .i64 v.place)).setCell ⟨b2, 3, none⟩ (.string ⟨v.first.toArray⟩)).setCell ⟨b2, 4, none⟩ (.slice a2 v.chain.length ka2)).cell? ⟨b1, 2, none⟩ = some (.int .i64 u.place) ∧ (((((y10.setCell ⟨b2, 0, none⟩ (.int .i64 v.serial)).setCell ⟨b2, 1, none⟩ (.int .i64 v.shw)).setCell ⟨b2, 2, none⟩ (.int .i64 v.place)).setCell ⟨b2, 3, none⟩ (.string ⟨v.first.toArray⟩)).setCell ⟨b2, 4, none⟩ (.slice a2 v.chain.length ka2)).cell? ⟨b1, 3, none⟩ = some (.string ⟨u.first.toArray⟩) ∧ (((((y10.setCell ⟨b2, 0, none⟩ (.int .i64 v.serial)).setCell ⟨b2, 1, none⟩ (.int .i64 v.shw)).setCell ⟨b2, 2, none⟩ (.int .i64 v.place)).setCell ⟨b2, 3, none⟩ (.string ⟨v.first.toArray⟩)).setCell ⟨b2, 4, none⟩ (.slice a2 v.chain.length ka2)).cell? ⟨b1, 4, none⟩ = some (.slice a1 u.chain.length ka1) := ⟨hfz.cell c0 (by simp), hfz.cell c1 (by simp), hfz.cell c2 (by simp), hfz.cell c3 (by simp), hfz.cell c4 (by simp)⟩
          refine hK.out _ _ (fun _ => hS12) ?_
          clear hK K'
          refine hd_take 8 (v := .int .i64 0) rfl (by kernel_rfl) (by kernel_rfl) (by kernel_rfl) rfl hS12 (fun W' hS => by go_simp) rfl ?_
          refine held_done (by kernel_rfl) ?_
          exact ⟨b2, a2, ka2, rfl, hbz, hfz, htz⟩
      · go_simp
        have g13 := g0.alloc (.cells #[.int .i64 0, .int .i64 0, .int .i64 0, .string ⟨#[]⟩, .slice none 0 0] 24)
        have hal : (wd.alloc (.cells #[.int .i64 0, .int .i64 0, .int .i64 0, .string ⟨#[]⟩, .slice none 0 0] 24)).heap[wd.heap.size]? = some (.cells #[.int .i64 0, .int .i64 0, .int .i64 0, .string ⟨#[]⟩, .slice none 0 0] 24 (0, 0)) := heap_new rfl
        obtain ⟨b2, eb⟩ : ∃ b2, b2 = wd.heap.size := ⟨_, rfl⟩
        have hle : T2.heap.size ≤ b2 := by rw [eb]; exact g0.size
        rw [← eb] at hal ⊢
        clear eb
        generalize wd.alloc (.cells #[.int .i64 0, .int .i64 0, .int .i64 0, .string ⟨#[]⟩, .slice none 0 0] 24) = x13 at g13 hal ⊢
        have hS14 : x13.cell? ⟨b1, 0, none⟩ = some (.int .i64 u.serial) ∧ x13.cell? ⟨b1, 1, none⟩ = some (.int .i64 u.shw) ∧ x13.cell? ⟨b1, 2, none⟩ = some (.int .i64 u.place) ∧ x13.cell? ⟨b1, 3, none⟩ = some (.string ⟨u.first.toArray⟩) ∧ x13.cell? ⟨b1, 4, none⟩ = some (.slice a1 u.chain.length ka1) := ⟨g13.cell c0 (by simp), g13.cell c1 (by simp), g13.cell c2 (by simp), g13.cell c3 (by simp), g13.cell c4 (by simp)⟩
        refine hK.out _ _ (fun _ => hS14) ?_
        clear hK K'
        try simp only [Act.put, List.setIfInBounds_toArray, List.set_cons_zero, List.set_cons_succ]
        refine hd_one 1 (by kernel_rfl) rfl (by kernel_rfl) rfl (fun K' hK => ?_)
        go_simp
        refine (public_any [99] _ (by decide) (HT.out.t.fr (fT2.trans g13 (by simp)))).mono ?_
        rintro e y15 ⟨rfl, hbb⟩
        rw [← EC.out]
        have g15 : Fr [] T2 y15 := g13.below hbb g13.size
        have hal := (show Fr [] _ _ from Fr.ofBelow hbb).at hal (by simp)
        clear hbb
        have hS16 : y15.cell? ⟨b1, 0, none⟩ = some (.int .i64 u.serial) ∧ y15.cell? ⟨b1, 1, none⟩ = some (.int .i64 u.shw) ∧ y15.cell? ⟨b1, 2, none⟩ = some (.int .i64 u.place) ∧ y15.cell? ⟨b1, 3, none⟩ = some (.string ⟨u.first.toArray⟩) ∧ y15.cell? ⟨b1, 4, none⟩ = some (.slice a1 u.chain.length ka1) := ⟨g15.cell c0 (by simp), g15.cell c1 (by simp), g15.cell c2 (by simp), g15.cell c3 (by simp), g15.cell c4 (by simp)⟩
        refine hK.out _ _ (fun _ => hS16) ?_
        clear hK K'
        try simp only [Act.put, List.setIfInBounds_toArray, List.set_cons_zero, List.set_cons_succ]
        refine hd_one 2 (by kernel_rfl) rfl (by kernel_rfl) rfl (fun K' hK => ?_)
        go_simp
        refine (pass_any _ u pc [98] _ ⟨_, rfl, Ha1.out.fr g15⟩ HS1.out (by rw [LC.out]; decide) (by decide) (HT.out.t.fr (fT2.trans g15 (by simp)))).mono ?_
        rintro e y17 ⟨vv, rfl, hv, hbb⟩
        rw [HP2.out] at hv ⊢
        have g17 : Fr [] T2 y17 := g15.below hbb g15.size
        have hal := (show Fr [] _ _ from Fr.ofBelow hbb).at hal (by simp)
        clear hbb
        obtain ⟨cv, rfl, hc⟩ := hv
        obtain ⟨a2, ka2, rfl, _, _, _⟩ := hc.form
        have HC := Lib.hid hc
        clear hc
        have hS18 : y17.cell? ⟨b1, 0, none⟩ = some (.int .i64 u.serial) ∧ y17.cell? ⟨b1, 1, none⟩ = some (.int .i64 u.shw) ∧ y17.cell? ⟨b1, 2, none⟩ = some (.int .i64 u.place) ∧ y17.cell? ⟨b1, 3, none⟩ = some (.string ⟨u.first.toArray⟩) ∧ y17.cell? ⟨b1, 4, none⟩ = some (.slice a1 u.chain.length ka1) := ⟨g17.cell c0 (by simp), g17.cell c1 (by simp), g17.cell c2 (by simp), g17.cell c3 (by simp), g17.cell c4 (by simp)⟩
        refine hK.out _ _ (fun _ => hS18) ?_
        clear hK K'
        refine hd_take 3 (v := .tuple #[.agg #[.int .i64 v.serial, .int .i64 v.shw, .int .i64 v.place, .string ⟨v.first.toArray⟩, .slice a2 v.chain.length ka2], .int .i64 0]) rfl (by kernel_rfl) (by kernel_rfl) (by kernel_rfl) rfl hS18 (fun W' hS => by go_simp) rfl ?_
        try simp only [Act.put, List.setIfInBounds_toArray, List.set_cons_zero, List.set_cons_succ]
        refine hd_take 4 (v := .agg #[.int .i64 v.serial, .int .i64 v.shw, .int .i64 v.place, .string ⟨v.first.toArray⟩, .slice a2 v.chain.length ka2]) rfl (by kernel_rfl) (by kernel_rfl) (by kernel_rfl) rfl hS18 (fun W' hS => by go_simp) rfl ?_
        try simp only [Act.put, List.setIfInBounds_toArray, List.set_cons_zero, List.set_cons_succ]
        refine hd_take 5 (v := .int .i64 0) rfl (by kernel_rfl) (by kernel_rfl) (by kernel_rfl) rfl hS18 (fun W' hS => by go_simp) rfl ?_
        try simp only [Act.put, List.setIfInBounds_toArray, List.set_cons_zero, List.set_cons_succ]
        have r0 := row_cell hal 0
        have r1 := row_cell hal 1
        have r2 := row_cell hal 2
        have r3 := row_cell hal 3
        have r4 := row_cell hal 4
        simp at r0 r1 r2 r3 r4
        have q0 := row_free hal 0
        have q1 := row_free hal 1
        have q2 := row_free hal 2
        have q3 := row_free hal 3
        have q4 := row_free hal 4
        have hbz := row_set (row_set (row_set (row_set (row_set hal 0 (.int .i64 v.serial)) 1 (.int .i64 v.shw)) 2 (.int .i64 v.place)) 3 (.string ⟨v.first.toArray⟩)) 4 (.slice a2 v.chain.length ka2)
        have hst := (Fr.refl [b2] y17).store5 b2 (by simp) (.int .i64 v.serial) (.int .i64 v.shw) (.int .i64 v.place) (.string ⟨v.first.toArray⟩) (.slice a2 v.chain.length ka2)
        have hfz := g17.store5 b2 (Or.inr hle) (.int .i64 v.serial) (.int .i64 v.shw) (.int .i64 v.place) (.string ⟨v.first.toArray⟩) (.slice a2 v.chain.length ka2)
        have htz := HC.out.store hal hst Hv2.out Hv3.out
        refine hd_one 7 (by kernel_rfl) rfl (by kernel_rfl) rfl (fun K' hK => ?_)
        go_simp
        have hS19 : (((((y17.setCell ⟨b2, 0, none⟩ (.int .i64 v.serial)).setCell ⟨b2, 1, none⟩ (.int .i64 v.shw)).setCell ⟨b2, 2, none⟩ (.int .i64 v.place)).setCell ⟨b2, 3, none⟩ (.string ⟨v.first.toArray⟩)).setCell ⟨b2, 4, none⟩ (.slice a2 v.chain.length ka2)).cell? ⟨b1, 0, none⟩ = some (.int .i64 u.serial) ∧ (((((y17.setCell ⟨b2, 0, none⟩ (.int .i64 v.serial)).setCell ⟨b2, 1, none⟩ (.int .i64 v.shw)).setCell ⟨b2, 2, none⟩ (.int .i64 v.place)).setCell ⟨b2, 3, none⟩ (.string ⟨v.first.toArray⟩)).setCell ⟨b2, 4, none⟩ (.slice a2 v.chain.length ka2)).cell? ⟨b1, 1, none⟩ = some (.int .i64 u.shw) ∧ (((((y17.setCell ⟨b2, 0, none⟩ (.int .i64 v.serial)).setCell ⟨b2, 1, none⟩ (.int .i64 v.shw)).setCell ⟨b2, 2, none⟩ (.int .i64 v.place)).setCell ⟨b2, 3, none⟩ (.string ⟨v.first.toArray⟩)).setCell ⟨b2, 4, none⟩ (.slice a2 v.chain.length ka2)).cell? ⟨b1, 2, none⟩ = some (.int .i64 u.place) ∧ (((((y17.setCell ⟨b2, 0, none⟩ (.int .i64 v.serial)).setCell ⟨b2, 1, none⟩ (.int .i64 v.shw)).setCell ⟨b2, 2, none⟩ (.int .i64 v.place)).setCell ⟨b2, 3, none⟩ (.string ⟨v.first.toArray⟩)).setCell ⟨b2, 4, none⟩ (.slice a2 v.chain.length ka2)).cell? ⟨b1, 3, none⟩ = some (.string ⟨u.first.toArray⟩) ∧ (((((y17.setCell ⟨b2, 0, none⟩ (.int .i64 v.serial)).setCell ⟨b2, 1, none⟩ (.int .i64 v.shw)).setCell ⟨b2, 2, none⟩ (.int .i64 v.place)).setCell ⟨b2, 3, none⟩ (.string ⟨v.first.toArray⟩)).setCell ⟨b2, 4, none⟩ (.slice a2 v.chain.length ka2)).cell? ⟨b1, 4, none⟩ = some (.slice a1 u.chain.length ka1) := ⟨hfz.cell c0 (by simp), hfz.cell c1 (by simp), hfz.cell c2 (by simp), hfz.cell c3 (by simp), hfz.cell c4 (by simp)⟩
        refine hK.out _ _ (fun _ => hS19) ?_
        clear hK K'
        refine hd_take 8 (v := .int .i64 0) rfl (by kernel_rfl) (by kernel_rfl) (by kernel_rfl) rfl hS19 (fun W' hS => by go_simp) rfl ?_
        refine held_done (by kernel_rfl) ?_
        exact ⟨b2, a2, ka2, rfl, hbz, hfz, htz⟩
  case rest =>
  intro e a' y2 hq
  cases e with
  | normal => ?_
  | _ => exact hq.elim
  obtain ⟨b2, a2, ka2, rfl, hbb2, hf, hc⟩ := hq
  have hbb0 := hf.at hbb0 (by simp)
  have hbb1 := hf.at hbb1 (by simp)
  have fy2 := fT2.trans hf (by simp)
  have Ha1 := Lib.hid (Ha1.out.fr hf)
  have Ha2 := Lib.hid hc
  clear hf hc fT2 c0 c1 c2 c3 c4
  go_wp2_with fail
  have c0 := row_cell hbb1 0
  have c1 := row_cell hbb1 1
  have c2 := row_cell hbb1 2
  have c3 := row_cell hbb1 3
  have c4 := row_cell hbb1 4
  simp at c0 c1 c2 c3 c4
  refine Code.wp_mono (Q := OnlyNormal fun _ a' w' => ∃ (b3 : Nat) (a3 : Option Addr) (ka3 : Nat), a' = { tmps := #[.bool false, .string ⟨pa.toArray⟩, .string ⟨pb.toArray⟩, .pointer (some ⟨b0, 0, none⟩), .pointer (some ⟨b1, 0, none⟩), .int .i64 0, .pointer (some ⟨b2, 0, none⟩), .int .i64 0, .pointer (some ⟨b3, 0, none⟩), .int .i64 20, undef, undef, undef, undef, undef, undef, undef, undef, .string ⟨pa.toArray⟩, .string ⟨pb.toArray⟩, .string ⟨pa.toArray⟩, .agg #[.int .i64 20001, .int .i64 1, .int .i64 7, .string ⟨pa.toArray⟩, .slice none 0 0], .tuple #[.agg #[.int .i64 u.serial, .int .i64 u.shw, .int .i64 u.place, .string ⟨u.first.toArray⟩, .slice a1 u.chain.length ka1], .int .i64 0], .agg #[.int .i64 20001, .int .i64 1, .int .i64 7, .string ⟨pa.toArray⟩, .slice none 0 0], .string ⟨pb.toArray⟩, .tuple #[.agg #[.int .i64 u.serial, .int .i64 u.shw, .int .i64 u.place, .string ⟨u.first.toArray⟩, .slice a1 u.chain.length ka1], .int .i64 0], .agg #[.int .i64 u.serial, .int .i64 u.shw, .int .i64 u.place, .string ⟨u.first.toArray⟩, .slice a1 u.chain.length ka1], .int .i64 0, .tuple #[.agg #[.int .i64 v.serial, .int .i64 v.shw, .int .i64 v.place, .string ⟨v.first.toArray⟩, .slice a2 v.chain.length ka2], .int .i64 0], .agg #[.int .i64 u.serial, .int .i64 u.shw, .int .i64 u.place, .string ⟨u.first.toArray⟩, .slice a1 u.chain.length ka1], .string ⟨pc.toArray⟩, .tuple #[.agg #[.int .i64 v.serial, .int .i64 v.shw, .int .i64 v.place, .string ⟨v.first.toArray⟩, .slice a2 v.chain.length ka2], .int .i64 0], .agg #[.int .i64 v.serial, .int .i64 v.shw, .int .i64 v.place, .string ⟨v.first.toArray⟩, .slice a2 v.chain.length ka2], .int .i64 0, .tuple #[.agg #[.int .i64 zeroTtl.serial, .int .i64 zeroTtl.shw, .int .i64 zeroTtl.place, .string ⟨zeroTtl.first.toArray⟩, .slice a3 zeroTtl.chain.length ka3], .int .i64 20], .agg #[.int .i64 u.serial, .int .i64 u.shw, .int .i64 u.place, .string ⟨u.first.toArray⟩, .slice a1 u.chain.length ka1], .string ⟨pc.toArray⟩, .tuple #[.agg #[.int .i64 zeroTtl.serial, .int .i64 zeroTtl.shw, .int .i64 zeroTtl.place, .string ⟨zeroTtl.first.toArray⟩, .slice a3 zeroTtl.chain.length ka3], .int .i64 20], .agg #[.int .i64 zeroTtl.serial, .int .i64 zeroTtl.shw, .int .i64 zeroTtl.place, .string ⟨zeroTtl.first.toArray⟩, .slice a3 zeroTtl.chain.length ka3], .int .i64 20, undef, undef, undef, undef, undef, undef, undef, undef, undef, undef, undef, undef, undef, undef, undef, undef, undef, undef, undef, undef, undef, undef, undef, undef, undef, undef, undef, undef, undef, undef, undef, undef, undef, undef, undef, undef, undef, undef, undef, undef, undef, undef, undef, undef, undef, undef, undef, undef, undef, undef, undef, undef, undef, undef, undef, undef, undef, undef, undef, undef, undef, undef, undef, undef, undef, undef, undef, undef, undef, undef, undef, undef, undef, undef, undef, undef, undef, undef, undef, undef, undef], defers := [] } ∧ w'.heap[b3]? = some (.cells #[.int .i64 zeroTtl.serial, .int .i64 zeroTtl.shw, .int .i64 zeroTtl.place, .string ⟨zeroTtl.first.toArray⟩, .slice a3 zeroTtl.chain.length ka3] 24 (0, 0)) ∧ Fr [] y2 w' ∧ Trs w' (.slice a3 zeroTtl.chain.length ka3) zeroTtl.chain) ?rest ?region
  case region =>
      have g0 : Fr [] y2 y2.drew := (Fr.refl [] y2).drew
      have hS0 : y2.drew.cell? ⟨b1, 0, none⟩ = some (.int .i64 u.serial) ∧ y2.drew.cell? ⟨b1, 1, none⟩ = some (.int .i64 u.shw) ∧ y2.drew.cell? ⟨b1, 2, none⟩ = some (.int .i64 u.place) ∧ y2.drew.cell? ⟨b1, 3, none⟩ = some (.string ⟨u.first.toArray⟩) ∧ y2.drew.cell? ⟨b1, 4, none⟩ = some (.slice a1 u.chain.length ka1) := ⟨g0.cell c0 (by simp), g0.cell c1 (by simp), g0.cell c2 (by simp), g0.cell c3 (by simp), g0.cell c4 (by simp)⟩
      refine region_held 100 (fun W' => W'.cell? ⟨b1, 0, none⟩ = some (.int .i64 u.serial) ∧ W'.cell? ⟨b1, 1, none⟩ = some (.int .i64 u.shw) ∧ W'.cell? ⟨b1, 2, none⟩ = some (.int .i64 u.place) ∧ W'.cell? ⟨b1, 3, none⟩ = some (.string ⟨u.first.toArray⟩) ∧ W'.cell? ⟨b1, 4, none⟩ = some (.slice a1 u.chain.length ka1)) hmx ?_
      change Held _ _ _ _ _ _ 9 (Array.replicate 9 false) _ _
      refine hd_take 0 (v := .agg #[.int .i64 u.serial, .int .i64 u.shw, .int .i64 u.place, .string ⟨u.first.toArray⟩, .slice a1 u.chain.length ka1]) rfl (by kernel_rfl) (by kernel_rfl) (by kernel_rfl) rfl hS0 (fun W' hS => by obtain ⟨s0, s1, s2, s3, s4⟩ := hS; go_simp) rfl ?_
      try simp only [Act.put, List.setIfInBounds_toArray, List.set_cons_zero, List.set_cons_succ]
      generalize y2.drew = wd at g0 hS0 ⊢
      refine hd_two 1 6 (by kernel_rfl) rfl (by kernel_rfl) rfl rfl (by kernel_rfl) rfl (fun K' hK => ?_) (fun K' hK => ?_)
      · go_simp
        refine (public_any [99] _ (by decide) (HT.out.t.fr (fy2.trans g0 (by simp)))).mono ?_
        rintro e y20 ⟨rfl, hbb⟩
        rw [← EC.out]
        have g20 : Fr [] y2 y20 := g0.below hbb g0.size
        clear hbb
        have hS21 : y20.cell? ⟨b1, 0, none⟩ = some (.int .i64 u.serial) ∧ y20.cell? ⟨b1, 1, none⟩ = some (.int .i64 u.shw) ∧ y20.cell? ⟨b1, 2, none⟩ = some (.int .i64 u.place) ∧ y20.cell? ⟨b1, 3, none⟩ = some (.string ⟨u.first.toArray⟩) ∧ y20.cell? ⟨b1, 4, none⟩ = some (.slice a1 u.chain.length ka1) := ⟨g20.cell c0 (by simp), g20.cell c1 (by simp), g20.cell c2 (by simp), g20.cell c3 (by simp), g20.cell c4 (by simp)⟩
        refine hK.out _ _ (fun _ => hS21) ?_
        clear hK K'
        try simp only [Act.put, List.setIfInBounds_toArray, List.set_cons_zero, List.set_cons_succ]
        refine hd_two 2 6 (by kernel_rfl) rfl (by kernel_rfl) rfl rfl (by kernel_rfl) rfl (fun K' hK => ?_) (fun K' hK => ?_)
        · go_simp
          refine (pass_any _ u pc [97] _ ⟨_, rfl, Ha1.out.fr g20⟩ HS1.out (by rw [LC.out]; decide) (by decide) (HT.out.t.fr (fy2.trans g20 (by simp)))).mono ?_
          rintro e y22 ⟨vv, rfl, hv, hbb⟩
          rw [HP3.out] at hv ⊢
          have g22 : Fr [] y2 y22 := g20.below hbb g20.size
          clear hbb
          obtain ⟨cv, rfl, hc⟩ := hv
          obtain ⟨a3, ka3, rfl, _, _, _⟩ := hc.form
          have HC := Lib.hid hc
          clear hc
          have hS23 : y22.cell? ⟨b1, 0, none⟩ = some (.int .i64 u.serial) ∧ y22.cell? ⟨b1, 1, none⟩ = some (.int .i64 u.shw) ∧ y22.cell? ⟨b1, 2, none⟩ = some (.int .i64 u.place) ∧ y22.cell? ⟨b1, 3, none⟩ = some (.string ⟨u.first.toArray⟩) ∧ y22.cell? ⟨b1, 4, none⟩ = some (.slice a1 u.chain.length ka1) := ⟨g22.cell c0 (by simp), g22.cell c1 (by simp), g22.cell c2 (by simp), g22.cell c3 (by simp), g22.cell c4 (by simp)⟩
          refine hK.out _ _ (fun _ => hS23) ?_
          clear hK K'
          refine hd_take 3 (v := .tuple #[.agg #[.int .i64 zeroTtl.serial, .int .i64 zeroTtl.shw, .int .i64 zeroTtl.place, .string ⟨zeroTtl.first.toArray⟩, .slice a3 zeroTtl.chain.length ka3], .int .i64 20]) rfl (by kernel_rfl) (by kernel_rfl) (by kernel_rfl) rfl hS23 (fun W' hS => by go_simp) rfl ?_
          try simp only [Act.put, List.setIfInBounds_toArray, List.set_cons_zero, List.set_cons_succ]
          refine hd_take 4 (v := .agg #[.int .i64 zeroTtl.serial, .int .i64 zeroTtl.shw, .int .i64 zeroTtl.place, .string ⟨zeroTtl.first.toArray⟩, .slice a3 zeroTtl.chain.length ka3]) rfl (by kernel_rfl) (by kernel_rfl) (by kernel_rfl) rfl hS23 (fun W' hS => by go_simp) rfl ?_
          try simp only [Act.put, List.setIfInBounds_toArray, List.set_cons_zero, List.set_cons_succ]
          refine hd_take 5 (v := .int .i64 20) rfl (by kernel_rfl) (by kernel_rfl) (by kernel_rfl) rfl hS23 (fun W' hS => by go_simp) rfl ?_
          try simp only [Act.put, List.setIfInBounds_toArray, List.set_cons_zero, List.set_cons_succ]
          refine hd_one 6 (by kernel_rfl) rfl (by kernel_rfl) rfl (fun K' hK => ?_)
          go_simp
          have g24 := g22.alloc (.cells #[.int .i64 0, .int .i64 0, .int .i64 0, .string ⟨#[]⟩, .slice none 0 0] 24)
          have HC := Lib.hid (HC.out.fr ((Fr.refl [] y22).alloc (.cells #[.int .i64 0, .int .i64 0, .int .i64 0, .string ⟨#[]⟩, .slice none 0 0] 24)))
          have hal : (y22.alloc (.cells #[.int .i64 0, .int .i64 0, .int .i64 0, .string ⟨#[]⟩, .slice none 0 0] 24)).heap[y22.heap.size]? = some (.cells #[.int .i64 0, .int .i64 0, .int .i64 0, .string ⟨#[]⟩, .slice none 0 0] 24 (0, 0)) := heap_new rfl
          obtain ⟨b3, eb⟩ : ∃ b3, b3 = y22.heap.size := ⟨_, rfl⟩
          have hle : y2.heap.size ≤ b3 := by rw [eb]; exact g22.size
          rw [← eb] at hal ⊢
          clear eb
          generalize y22.alloc (.cells #[.int .i64 0, .int .i64 0, .int .i64 0, .string ⟨#[]⟩, .slice none 0 0] 24) = x24 at g24 hal HC ⊢
          have hS25 : x24.cell? ⟨b1, 0, none⟩ = some (.int .i64 u.serial) ∧ x24.cell? ⟨b1, 1, none⟩ = some (.int .i64 u.shw) ∧ x24.cell? ⟨b1, 2, none⟩ = some (.int .i64 u.place) ∧ x24.cell? ⟨b1, 3, none⟩ = some (.string ⟨u.first.toArray⟩) ∧ x24.cell? ⟨b1, 4, none⟩ = some (.slice a1 u.chain.length ka1) := ⟨g24.cell c0 (by simp), g24.cell c1 (by simp), g24.cell c2 (by simp), g24.cell c3 (by simp), g24.cell c4 (by simp)⟩
          refine hK.out _ _ (fun _ => hS25) ?_
          clear hK K'
          try simp only [Act.put, List.setIfInBounds_toArray, List.set_cons_zero, List.set_cons_succ]
          have r0 := row_cell hal 0
          have r1 := row_cell hal 1
          have r2 := row_cell hal 2
          have r3 := row_cell hal 3
          have r4 := row_cell hal 4
          simp at r0 r1 r2 r3 r4
          have q0 := row_free hal 0
          have q1 := row_free hal 1
          have q2 := row_free hal 2
          have q3 := row_free hal 3
          have q4 := row_free hal 4
          have hbz := row_set (row_set (row_set (row_set (row_set hal 0 (.int .i64 zeroTtl.serial)) 1 (.int .i64 zeroTtl.shw)) 2 (.int .i64 zeroTtl.place)) 3 (.string ⟨zeroTtl.first.toArray⟩)) 4 (.slice a3 zeroTtl.chain.length ka3)
          have hst := (Fr.refl [b3] x24).store5 b3 (by simp) (.int .i64 zeroTtl.serial) (.int .i64 zeroTtl.shw) (.int .i64 zeroTtl.place) (.string ⟨zeroTtl.first.toArray⟩) (.slice a3 zeroTtl.chain.length ka3)
          have hfz := g24.store5 b3 (Or.inr hle) (.int .i64 zeroTtl.serial) (.int .i64 zeroTtl.shw) (.int .i64 zeroTtl.place) (.string ⟨zeroTtl.first.toArray⟩) (.slice a3 zeroTtl.chain.length ka3)
          have htz := HC.out.store hal hst HzeroTtl2.out HzeroTtl3.out
          refine hd_one 7 (by kernel_rfl) rfl (by kernel_rfl) rfl (fun K' hK => ?_)
          go_simp
          have hS26 : (((((x24.setCell ⟨b3, 0, none⟩ (.int .i64 zeroTtl.serial)).setCell ⟨b3, 1, none⟩ (.int .i64 zeroTtl.shw)).setCell ⟨b3, 2, none⟩ (.int .i64 zeroTtl.place)).setCell ⟨b3, 3, none⟩ (.string ⟨zeroTtl.first.toArray⟩)).setCell ⟨b3, 4, none⟩ (.slice a3 zeroTtl.chain.length ka3)).cell? ⟨b1, 0, none⟩ = some (.int .i64 u.serial) ∧ (((((x24.setCell ⟨b3, 0, none⟩ (.int .i64 zeroTtl.serial)).setCell ⟨b3, 1, none⟩ (.int .i64 zeroTtl.shw)).setCell ⟨b3, 2, none⟩ (.int .i64 zeroTtl.place)).setCell ⟨b3, 3, none⟩ (.string ⟨zeroTtl.first.toArray⟩)).setCell ⟨b3, 4, none⟩ (.slice a3 zeroTtl.chain.length ka3)).cell? ⟨b1, 1, none⟩ = some (.int .i64 u.shw) ∧ (((((x24.setCell ⟨b3, 0, none⟩ (.int .i64 zeroTtl.serial)).setCell ⟨b3, 1, none⟩ (.int .i64 zeroTtl.shw)).setCell ⟨b3, 2, none⟩ (.int .i64 zeroTtl.place)).setCell ⟨b3, 3, none⟩ (.string ⟨zeroTtl.first.toArray⟩)).setCell ⟨b3, 4, none⟩ (.slice a3 zeroTtl.chain.length ka3)).cell? ⟨b1, 2, none⟩ = some (.int .i64 u.place) ∧ (((((x24.setCell ⟨b3, 0, none⟩ (.int .i64 zeroTtl.serial)).setCell ⟨b3, 1, none⟩ (.int .i64 zeroTtl.shw)).setCell ⟨b3, 2, none⟩ (.int .i64 zeroTtl.place)).setCell ⟨b3, 3, none⟩ (.string ⟨zeroTtl.first.toArray⟩)).setCell ⟨b3, 4, none⟩ (.slice a3 zeroTtl.chain.length ka3)).cell? ⟨b1, 3, none⟩ = some (.string ⟨u.first.toArray⟩) ∧ (((((x24.setCell ⟨b3, 0, none⟩ (.int .i64 zeroTtl.serial)).setCell ⟨b3, 1, none⟩ (.int .i64 zeroTtl.shw)).setCell ⟨b3, 2, none⟩ (.int .i64 zeroTtl.place)).setCell ⟨b3, 3, none⟩ (.string ⟨zeroTtl.first.toArray⟩)).setCell ⟨b3, 4, none⟩ (.slice a3 zeroTtl.chain.length ka3)).cell? ⟨b1, 4, none⟩ = some (.slice a1 u.chain.length ka1) := ⟨hfz.cell c0 (by simp), hfz.cell c1 (by simp), hfz.cell c2 (by simp), hfz.cell c3 (by simp), hfz.cell c4 (by simp)⟩
          refine hK.out _ _ (fun _ => hS26) ?_
          clear hK K'
          refine hd_take 8 (v := .int .i64 20) rfl (by kernel_rfl) (by kernel_rfl) (by kernel_rfl) rfl hS26 (fun W' hS => by go_simp) rfl ?_
          refine held_done (by kernel_rfl) ?_
          exact ⟨b3, a3, ka3, rfl, hbz, hfz, htz⟩
        · go_simp
          have g27 := g20.alloc (.cells #[.int .i64 0, .int .i64 0, .int .i64 0, .string ⟨#[]⟩, .slice none 0 0] 24)
          have hal : (y20.alloc (.cells #[.int .i64 0, .int .i64 0, .int .i64 0, .string ⟨#[]⟩, .slice none 0 0] 24)).heap[y20.heap.size]? = some (.cells #[.int .i64 0, .int .i64 0, .int .i64 0, .string ⟨#[]⟩, .slice none 0 0] 24 (0, 0)) := heap_new rfl
          obtain ⟨b3, eb⟩ : ∃ b3, b3 = y20.heap.size := ⟨_, rfl⟩
          have hle : y2.heap.size ≤ b3 := by rw [eb]; exact g20.size
          rw [← eb] at hal ⊢
          clear eb
          generalize y20.alloc (.cells #[.int .i64 0, .int .i64 0, .int .i64 0, .string ⟨#[]⟩, .slice none 0 0] 24) = x27 at g27 hal ⊢
          have hS28 : x27.cell? ⟨b1, 0, none⟩ = some (.int .i64 u.serial) ∧ x27.cell? ⟨b1, 1, none⟩ = some (.int .i64 u.shw) ∧ x27.cell? ⟨b1, 2, none⟩ = some (.int .i64 u.place) ∧ x27.cell? ⟨b1, 3, none⟩ = some (.string ⟨u.first.toArray⟩) ∧ x27.cell? ⟨b1, 4, none⟩ = some (.slice a1 u.chain.length ka1) := ⟨g27.cell c0 (by simp), g27.cell c1 (by simp), g27.cell c2 (by simp), g27.cell c3 (by simp), g27.cell c4 (by simp)⟩
          refine hK.out _ _ (fun _ => hS28) ?_
          clear hK K'
          try simp only [Act.put, List.setIfInBounds_toArray, List.set_cons_zero, List.set_cons_succ]
          refine hd_one 2 (by kernel_rfl) rfl (by kernel_rfl) rfl (fun K' hK => ?_)
          go_simp
          refine (pass_any _ u pc [97] _ ⟨_, rfl, Ha1.out.fr g27⟩ HS1.out (by rw [LC.out]; decide) (by decide) (HT.out.t.fr (fy2.trans g27 (by simp)))).mono ?_
          rintro e y29 ⟨vv, rfl, hv, hbb⟩
          rw [HP3.out] at hv ⊢
          have g29 : Fr [] y2 y29 := g27.below hbb g27.size
          have hal := (show Fr [] _ _ from Fr.ofBelow hbb).at hal (by simp)
          clear hbb
          obtain ⟨cv, rfl, hc⟩ := hv
          obtain ⟨a3, ka3, rfl, _, _, _⟩ := hc.form
          have HC := Lib.hid hc
          clear hc
          have hS30 : y29.cell? ⟨b1, 0, none⟩ = some (.int .i64 u.serial) ∧ y29.cell? ⟨b1, 1, none⟩ = some (.int .i64 u.shw) ∧ y29.cell? ⟨b1, 2, none⟩ = some (.int .i64 u.place) ∧ y29.cell? ⟨b1, 3, none⟩ = some (.string ⟨u.first.toArray⟩) ∧ y29.cell? ⟨b1, 4, none⟩ = some (.slice a1 u.chain.length ka1) := ⟨g29.cell c0 (by simp), g29.cell c1 (by simp), g29.cell c2 (by simp), g29.cell c3 (by simp), g29.cell c4 (by simp)⟩
          refine hK.out _ _ (fun _ => hS30) ?_
          clear hK K'
          refine hd_take 3 (v := .tuple #[.agg #[.int .i64 zeroTtl.serial, .int .i64 zeroTtl.shw, .int .i64 zeroTtl.place, .string ⟨zeroTtl.first.toArray⟩, .slice a3 zeroTtl.chain.length ka3], .int .i64 20]) rfl (by kernel_rfl) (by kernel_rfl) (by kernel_rfl) rfl hS30 (fun W' hS => by go_simp) rfl ?_
          try simp only [Act.put, List.setIfInBounds_toArray, List.set_cons_zero, List.set_cons_succ]
          refine hd_take 4 (v := .agg #[.int .i64 zeroTtl.serial, .int .i64 zeroTtl.shw, .int .i64 zeroTtl.place, .string ⟨zeroTtl.first.toArray⟩, .slice a3 zeroTtl.chain.length ka3]) rfl (by kernel_rfl) (by kernel_rfl) (by kernel_rfl) rfl hS30 (fun W' hS => by go_simp) rfl ?_
          try simp only [Act.put, List.setIfInBounds_toArray, List.set_cons_zero, List.set_cons_succ]
          refine hd_take 5 (v := .int .i64 20) rfl (by kernel_rfl) (by kernel_rfl) (by kernel_rfl) rfl hS30 (fun W' hS => by go_simp) rfl ?_
          try simp only [Act.put, List.setIfInBounds_toArray, List.set_cons_zero, List.set_cons_succ]
          have r0 := row_cell hal 0
          have r1 := row_cell hal 1
          have r2 := row_cell hal 2
          have r3 := row_cell hal 3
          have r4 := row_cell hal 4
          simp at r0 r1 r2 r3 r4
          have q0 := row_free hal 0
          have q1 := row_free hal 1
          have q2 := row_free hal 2
          have q3 := row_free hal 3
          have q4 := row_free hal 4
          have hbz := row_set (row_set (row_set (row_set (row_set hal 0 (.int .i64 zeroTtl.serial)) 1 (.int .i64 zeroTtl.shw)) 2 (.int .i64 zeroTtl.place)) 3 (.string ⟨zeroTtl.first.toArray⟩)) 4 (.slice a3 zeroTtl.chain.length ka3)
          have hst := (Fr.refl [b3] y29).store5 b3 (by simp) (.int .i64 zeroTtl.serial) (.int .i64 zeroTtl.shw) (.int .i64 zeroTtl.place) (.string ⟨zeroTtl.first.toArray⟩) (.slice a3 zeroTtl.chain.length ka3)
          have hfz := g29.store5 b3 (Or.inr hle) (.int .i64 zeroTtl.serial) (.int .i64 zeroTtl.shw) (.int .i64 zeroTtl.place) (.string ⟨zeroTtl.first.toArray⟩) (.slice a3 zeroTtl.chain.length ka3)
          have htz := HC.out.store hal hst HzeroTtl2.out HzeroTtl3.out
          refine hd_one 7 (by kernel_rfl) rfl (by kernel_rfl) rfl (fun K' hK => ?_)
          go_simp
          have hS31 : (((((y29.setCell ⟨b3, 0, none⟩ (.int .i64 zeroTtl.serial)).setCell ⟨b3, 1, none⟩ (.int .i64 zeroTtl.shw)).setCell ⟨b3, 2, none⟩ (.int .i64 zeroTtl.place)).setCell ⟨b3, 3, none⟩ (.string ⟨zeroTtl.first.toArray⟩)).setCell ⟨b3, 4, none⟩ (.slice a3 zeroTtl.chain.length ka3)).cell? ⟨b1, 0, none⟩ = some (.int .i64 u.serial) ∧ (((((y29.setCell ⟨b3, 0, none⟩ (.int .i64 zeroTtl.serial)).setCell ⟨b3, 1, none⟩ (.int .i64 zeroTtl.shw)).setCell ⟨b3, 2, none⟩ (.int .i64 zeroTtl.place)).setCell ⟨b3, 3, none⟩ (.string ⟨zeroTtl.first.toArray⟩)).setCell ⟨b3, 4, none⟩ (.slice a3 zeroTtl.chain.length ka3)).cell? ⟨b1, 1, none⟩ = some (.int .i64 u.shw) ∧ (((((y29.setCell ⟨b3, 0, none⟩ (.int .i64 zeroTtl.serial)).setCell ⟨b3, 1, none⟩ (.int .i64 zeroTtl.shw)).setCell ⟨b3, 2, none⟩ (.int .i64 zeroTtl.place)).setCell ⟨b3, 3, none⟩ (.string ⟨zeroTtl.first.toArray⟩)).setCell ⟨b3, 4, none⟩ (.slice a3 zeroTtl.chain.length ka3)).cell? ⟨b1, 2, none⟩ = some (.int .i64 u.place) ∧ (((((y29.setCell ⟨b3, 0, none⟩ (.int .i64 zeroTtl.serial)).setCell ⟨b3, 1, none⟩ (.int .i64 zeroTtl.shw)).setCell ⟨b3, 2, none⟩ (.int .i64 zeroTtl.place)).setCell ⟨b3, 3, none⟩ (.string ⟨zeroTtl.first.toArray⟩)).setCell ⟨b3, 4, none⟩ (.slice a3 zeroTtl.chain.length ka3)).cell? ⟨b1, 3, none⟩ = some (.string ⟨u.first.toArray⟩) ∧ (((((y29.setCell ⟨b3, 0, none⟩ (.int .i64 zeroTtl.serial)).setCell ⟨b3, 1, none⟩ (.int .i64 zeroTtl.shw)).setCell ⟨b3, 2, none⟩ (.int .i64 zeroTtl.place)).setCell ⟨b3, 3, none⟩ (.string ⟨zeroTtl.first.toArray⟩)).setCell ⟨b3, 4, none⟩ (.slice a3 zeroTtl.chain.length ka3)).cell? ⟨b1, 4, none⟩ = some (.slice a1 u.chain.length ka1) := ⟨hfz.cell c0 (by simp), hfz.cell c1 (by simp), hfz.cell c2 (by simp), hfz.cell c3 (by simp), hfz.cell c4 (by simp)⟩
          refine hK.out _ _ (fun _ => hS31) ?_
          clear hK K'
          refine hd_take 8 (v := .int .i64 20) rfl (by kernel_rfl) (by kernel_rfl) (by kernel_rfl) rfl hS31 (fun W' hS => by go_simp) rfl ?_
          refine held_done (by kernel_rfl) ?_
          exact ⟨b3, a3, ka3, rfl, hbz, hfz, htz⟩
      · go_simp
        have g32 := g0.alloc (.cells #[.int .i64 0, .int .i64 0, .int .i64 0, .string ⟨#[]⟩, .slice none 0 0] 24)
        have hal : (wd.alloc (.cells #[.int .i64 0, .int .i64 0, .int .i64 0, .string ⟨#[]⟩, .slice none 0 0] 24)).heap[wd.heap.size]? = some (.cells #[.int .i64 0, .int .i64 0, .int .i64 0, .string ⟨#[]⟩, .slice none 0 0] 24 (0, 0)) := heap_new rfl
        obtain ⟨b3, eb⟩ : ∃ b3, b3 = wd.heap.size := ⟨_, rfl⟩
        have hle : y2.heap.size ≤ b3 := by rw [eb]; exact g0.size
        rw [← eb] at hal ⊢
        clear eb
        generalize wd.alloc (.cells #[.int .i64 0, .int .i64 0, .int .i64 0, .string ⟨#[]⟩, .slice none 0 0] 24) = x32 at g32 hal ⊢
        have hS33 : x32.cell? ⟨b1, 0, none⟩ = some (.int .i64 u.serial) ∧ x32.cell? ⟨b1, 1, none⟩ = some (.int .i64 u.shw) ∧ x32.cell? ⟨b1, 2, none⟩ = some (.int .i64 u.place) ∧ x32.cell? ⟨b1, 3, none⟩ = some (.string ⟨u.first.toArray⟩) ∧ x32.cell? ⟨b1, 4, none⟩ = some (.slice a1 u.chain.length ka1) := ⟨g32.cell c0 (by simp), g32.cell c1 (by simp), g32.cell c2 (by simp), g32.cell c3 (by simp), g32.cell c4 (by simp)⟩
        refine hK.out _ _ (fun _ => hS33) ?_
        clear hK K'
        try simp only [Act.put, List.setIfInBounds_toArray, List.set_cons_zero, List.set_cons_succ]
        refine hd_one 1 (by kernel_rfl) rfl (by kernel_rfl) rfl (fun K' hK => ?_)
        go_simp
        refine (public_any [99] _ (by decide) (HT.out.t.fr (fy2.trans g32 (by simp)))).mono ?_
        rintro e y34 ⟨rfl, hbb⟩
        rw [← EC.out]
        have g34 : Fr [] y2 y34 := g32.below hbb g32.size
        have hal := (show Fr [] _ _ from Fr.ofBelow hbb).at hal (by simp)
        clear hbb
        have hS35 : y34.cell? ⟨b1, 0, none⟩ = some (.int .i64 u.serial) ∧ y34.cell? ⟨b1, 1, none⟩ = some (.int .i64 u.shw) ∧ y34.cell? ⟨b1, 2, none⟩ = some (.int .i64 u.place) ∧ y34.cell? ⟨b1, 3, none⟩ = some (.string ⟨u.first.toArray⟩) ∧ y34.cell? ⟨b1, 4, none⟩ = some (.slice a1 u.chain.length ka1) := ⟨g34.cell c0 (by simp), g34.cell c1 (by simp), g34.cell c2 (by simp), g34.cell c3 (by simp), g34.cell c4 (by simp)⟩
        refine hK.out _ _ (fun _ => hS35) ?_
        clear hK K'
        try simp only [Act.put, List.setIfInBounds_toArray, List.set_cons_zero, List.set_cons_succ]
        refine hd_one 2 (by kernel_rfl) rfl (by kernel_rfl) rfl (fun K' hK => ?_)
        go_simp
        refine (pass_any _ u pc [97] _ ⟨_, rfl, Ha1.out.fr g34⟩ HS1.out (by rw [LC.out]; decide) (by decide) (HT.out.t.fr (fy2.trans g34 (by simp)))).mono ?_
        rintro e y36 ⟨vv, rfl, hv, hbb⟩
        rw [HP3.out] at hv ⊢
        have g36 : Fr [] y2 y36 := g34.below hbb g34.size
        have hal := (show Fr [] _ _ from Fr.ofBelow hbb).at hal (by simp)
        clear hbb
        obtain ⟨cv, rfl, hc⟩ := hv
        obtain ⟨a3, ka3, rfl, _, _, _⟩ := hc.form
        have HC := Lib.hid hc
        clear hc
        have hS37 : y36.cell? ⟨b1, 0, none⟩ = some (.int .i64 u.serial) ∧ y36.cell? ⟨b1, 1, none⟩ = some (.int .i64 u.shw) ∧ y36.cell? ⟨b1, 2, none⟩ = some (.int .i64 u.place) ∧ y36.cell? ⟨b1, 3, none⟩ = some (.string ⟨u.first.toArray⟩) ∧ y36.cell? ⟨b1, 4, none⟩ = some (.slice a1 u.chain.length ka1) := ⟨g36.cell c0 (by simp), g36.cell c1 (by simp), g36.cell c2 (by simp), g36.cell c3 (by simp), g36.cell c4 (by simp)⟩
        refine hK.out _ _ (fun _ => hS37) ?_
        clear hK K'
        refine hd_take 3 (v := .tuple #[.agg #[.int .i64 zeroTtl.serial, .int .i64 zeroTtl.shw, .int .i64 zeroTtl.place, .string ⟨zeroTtl.first.toArray⟩, .slice a3 zeroTtl.chain.length ka3], .int .i64 20]) rfl (by kernel_rfl) (by kernel_rfl) (by kernel_rfl) rfl hS37 (fun W' hS => by go_simp) rfl ?_
        try simp only [Act.put, List.setIfInBounds_toArray, List.set_cons_zero, List.set_cons_succ]
        refine hd_take 4 (v := .agg #[.int .i64 zeroTtl.serial, .int .i64 zeroTtl.shw, .int .i64 zeroTtl.place, .string ⟨zeroTtl.first.toArray⟩, .slice a3 zeroTtl.chain.length ka3]) rfl (by kernel_rfl) (by kernel_rfl) (by kernel_rfl) rfl hS37 (fun W' hS => by go_simp) rfl ?_
        try simp only [Act.put, List.setIfInBounds_toArray, List.set_cons_zero, List.set_cons_succ]
        refine hd_take 5 (v := .int .i64 20) rfl (by kernel_rfl) (by kernel_rfl) (by kernel_rfl) rfl hS37 (fun W' hS => by go_simp) rfl ?_
        try simp only [Act.put, List.setIfInBounds_toArray, List.set_cons_zero, List.set_cons_succ]
        have r0 := row_cell hal 0
        have r1 := row_cell hal 1
        have r2 := row_cell hal 2
        have r3 := row_cell hal 3
        have r4 := row_cell hal 4
        simp at r0 r1 r2 r3 r4
        have q0 := row_free hal 0
        have q1 := row_free hal 1
        have q2 := row_free hal 2
        have q3 := row_free hal 3
        have q4 := row_free hal 4
        have hbz := row_set (row_set (row_set (row_set (row_set hal 0 (.int .i64 zeroTtl.serial)) 1 (.int .i64 zeroTtl.shw)) 2 (.int .i64 zeroTtl.place)) 3 (.string ⟨zeroTtl.first.toArray⟩)) 4 (.slice a3 zeroTtl.chain.length ka3)
        have hst := (Fr.refl [b3] y36).store5 b3 (by simp) (.int .i64 zeroTtl.serial) (.int .i64 zeroTtl.shw) (.int .i64 zeroTtl.place) (.string ⟨zeroTtl.first.toArray⟩) (.slice a3 zeroTtl.chain.length ka3)
        have hfz := g36.store5 b3 (Or.inr hle) (.int .i64 zeroTtl.serial) (.int .i64 zeroTtl.shw) (.int .i64 zeroTtl.place) (.string ⟨zeroTtl.first.toArray⟩) (.slice a3 zeroTtl.chain.length ka3)
        have htz := HC.out.store hal hst HzeroTtl2.out HzeroTtl3.out
        refine hd_one 7 (by kernel_rfl) rfl (by kernel_rfl) rfl (fun K' hK => ?_)
        go_simp
        have hS38 : (((((y36.setCell ⟨b3, 0, none⟩ (.int .i64 zeroTtl.serial)).setCell ⟨b3, 1, none⟩ (.int .i64 zeroTtl.shw)).setCell ⟨b3, 2, none⟩ (.int .i64 zeroTtl.place)).setCell ⟨b3, 3, none⟩ (.string ⟨zeroTtl.first.toArray⟩)).setCell ⟨b3, 4, none⟩ (.slice a3 zeroTtl.chain.length ka3)).cell? ⟨b1, 0, none⟩ = some (.int .i64 u.serial) ∧ (((((y36.setCell ⟨b3, 0, none⟩ (.int .i64 zeroTtl.serial)).setCell ⟨b3, 1, none⟩ (.int .i64 zeroTtl.shw)).setCell ⟨b3, 2, none⟩ (.int .i64 zeroTtl.place)).setCell ⟨b3, 3, none⟩ (.string ⟨zeroTtl.first.toArray⟩)).setCell ⟨b3, 4, none⟩ (.slice a3 zeroTtl.chain.length ka3)).cell? ⟨b1, 1, none⟩ = some (.int .i64 u.shw) ∧ (((((y36.setCell ⟨b3, 0, none⟩ (.int .i64 zeroTtl.serial)).setCell ⟨b3, 1, none⟩ (.int .i64 zeroTtl.shw)).setCell ⟨b3, 2, none⟩ (.int .i64 zeroTtl.place)).setCell ⟨b3, 3, none⟩ (.string ⟨zeroTtl.first.toArray⟩)).setCell ⟨b3, 4, none⟩ (.slice a3 zeroTtl.chain.length ka3)).cell? ⟨b1, 2, none⟩ = some (.int .i64 u.place) ∧ (((((y36.setCell ⟨b3, 0, none⟩ (.int .i64 zeroTtl.serial)).setCell ⟨b3, 1, none⟩ (.int .i64 zeroTtl.shw)).setCell ⟨b3, 2, none⟩ (.int .i64 zeroTtl.place)).setCell ⟨b3, 3, none⟩ (.string ⟨zeroTtl.first.toArray⟩)).setCell ⟨b3, 4, none⟩ (.slice a3 zeroTtl.chain.length ka3)).cell? ⟨b1, 3, none⟩ = some (.string ⟨u.first.toArray⟩) ∧ (((((y36.setCell ⟨b3, 0, none⟩ (.int .i64 zeroTtl.serial)).setCell ⟨b3, 1, none⟩ (.int .i64 zeroTtl.shw)).setCell ⟨b3, 2, none⟩ (.int .i64 zeroTtl.place)).setCell ⟨b3, 3, none⟩ (.string ⟨zeroTtl.first.toArray⟩)).setCell ⟨b3, 4, none⟩ (.slice a3 zeroTtl.chain.length ka3)).cell? ⟨b1, 4, none⟩ = some (.slice a1 u.chain.length ka1) := ⟨hfz.cell c0 (by simp), hfz.cell c1 (by simp), hfz.cell c2 (by simp), hfz.cell c3 (by simp), hfz.cell c4 (by simp)⟩
        refine hK.out _ _ (fun _ => hS38) ?_
        clear hK K'
        refine hd_take 8 (v := .int .i64 20) rfl (by kernel_rfl) (by kernel_rfl) (by kernel_rfl) rfl hS38 (fun W' hS => by go_simp) rfl ?_
        refine held_done (by kernel_rfl) ?_
        exact ⟨b3, a3, ka3, rfl, hbz, hfz, htz⟩
  case rest =>
  intro e a' y3 hq
  cases e with
  | normal => ?_
  | _ => exact hq.elim
  obtain ⟨b3, a3, ka3, rfl, hbb3, hf, hc⟩ := hq
  have hbb0 := hf.at hbb0 (by simp)
  have hbb1 := hf.at hbb1 (by simp)
  have hbb2 := hf.at hbb2 (by simp)
  have fy3 := fy2.trans hf (by simp)
  have Ha1 := Lib.hid (Ha1.out.fr hf)
  have Ha2 := Lib.hid (Ha2.out.fr hf)
  have Ha3 := Lib.hid hc
  clear hf hc fy2 c0 c1 c2 c3 c4
  clear hbb3
  have c0 := row_cell hbb1 0
  have c1 := row_cell hbb1 1
  have c2 := row_cell hbb1 2
  have c3 := row_cell hbb1 3
  have c4 := row_cell hbb1 4
  simp at c0 c1 c2 c3 c4
  go_wp2_with fail
  clear c0 c1 c2 c3 c4
  refine (pass_any _ u pa [98] y3 ⟨_, rfl, Ha1.out⟩ HS1.out (by rw [LA.out]; decide) (by decide) (HT.out.t.fr fy3)).mono ?_
  rintro e y4 ⟨vv, rfl, hv, hbb⟩
  rw [HP4.out] at hv ⊢
  have hf : Fr [] y3 y4 := Fr.ofBelow hbb
  have hbb0 := hf.at hbb0 (by simp)
  have hbb2 := hf.at hbb2 (by simp)
  have Ha2 := Lib.hid (Ha2.out.fr hf)
  have fy4 := fy3.trans hf (by simp)
  clear hbb hf fy3
  obtain ⟨cv, rfl, hc⟩ := hv
  obtain ⟨a4, ka4, rfl, _, _, _⟩ := hc.form
  have Ha4 := Lib.hid hc
  clear hc
  obtain ⟨T3, eT, hbb4, hf⟩ := new_ttl y4 (.int .i64 zeroTtl.serial) (.int .i64 zeroTtl.shw) (.int .i64 zeroTtl.place) (.string ⟨zeroTtl.first.toArray⟩) (.slice a4 zeroTtl.chain.length ka4)
  obtain ⟨b4, eb⟩ : ∃ b, b = y4.heap.size := ⟨_, rfl⟩
  have c0 := row_cell hbb4 0
  have c1 := row_cell hbb4 1
  have c2 := row_cell hbb4 2
  have c3 := row_cell hbb4 3
  have c4 := row_cell hbb4 4
  simp at c0 c1 c2 c3 c4
  rw [eT] at c0 c1 c2 c3 c4
  have ET := Lib.hid eT
  clear eT
  have d0 := row_cell (hf.at hbb0 (by simp)) 0
  have d1 := row_cell (hf.at hbb0 (by simp)) 1
  have d2 := row_cell (hf.at hbb0 (by simp)) 2
  have d3 := row_cell (hf.at hbb0 (by simp)) 3
  have d4 := row_cell (hf.at hbb0 (by simp)) 4
  simp at d0 d1 d2 d3 d4
  rw [ET.out] at d0 d1 d2 d3 d4
  go_wp2_with fail
  clear d0 d1 d2 d3 d4
  rw [← ET.out, ← eb]
  rw [← eb] at hbb4
  have hbb0 := hf.at hbb0 (by simp)
  have hbb2 := hf.at hbb2 (by simp)
  have Ha2 := Lib.hid (Ha2.out.fr hf)
  have fT3 := fy4.trans hf (by simp)
  clear ET eb hf fy4 c0 c1 c2 c3 c4
  refine (pass_any _ ⟨20001, 1, 7, pa, []⟩ [99] [97] T3 ⟨_, rfl, Trs.nil _⟩ HS0.out (by decide) (by decide) (HT.out.t.fr fT3)).mono ?_
  rintro e y5 ⟨vv, rfl, hv, hbb⟩
  rw [HP5.out] at hv ⊢
  have hf : Fr [] T3 y5 := Fr.ofBelow hbb
  have hbb0 := hf.at hbb0 (by simp)
  have hbb2 := hf.at hbb2 (by simp)
  have Ha2 := Lib.hid (Ha2.out.fr hf)
  have fy5 := fT3.trans hf (by simp)
  clear hbb hf fT3
  obtain ⟨cv, rfl, hc⟩ := hv
  obtain ⟨a5, ka5, rfl, _, _, _⟩ := hc.form
  have Ha5 := Lib.hid hc
  clear hc
  obtain ⟨T4, eT4, hb5, hf4⟩ := new_ttl y5 (.int .i64 zeroTtl.serial) (.int .i64 zeroTtl.shw) (.int .i64 zeroTtl.place) (.string ⟨zeroTtl.first.toArray⟩) (.slice a5 zeroTtl.chain.length ka5)
  have h24 := hf4.at hbb2 (by simp)
  have h04 := hf4.at hbb0 (by simp)
  have c0 := row_cell h24 0
  have c1 := row_cell h24 1
  have c2 := row_cell h24 2
  have c3 := row_cell h24 3
  have c4 := row_cell h24 4
  simp at c0 c1 c2 c3 c4
  rw [eT4] at c0 c1 c2 c3 c4
  obtain ⟨T6, eT6, hb6, hf5⟩ := new_ttl T4 (.int .i64 v.serial) (.int .i64 v.shw) (.int .i64 8) (.string ⟨v.first.toArray⟩) (.slice a2 v.chain.length ka2)
  obtain ⟨b6, eb6⟩ : ∃ b, b = y5.heap.size + 1 := ⟨_, rfl⟩
  have e46 : T4.heap.size = b6 := by rw [eT4, eb6, World.size_alloc]
  have hbb2 := hf5.at h24 (by simp)
  have hbb0 := hf5.at h04 (by simp)
  rw [e46] at hb6
  have hf6 : Fr [] y5 T6 := hf4.trans hf5 (by simp)
  have d0 := row_cell hbb2 0
  have d1 := row_cell hbb2 1
  have d2 := row_cell hbb2 2
  have d3 := row_cell hbb2 3
  have d4 := row_cell hbb2 4
  simp at d0 d1 d2 d3 d4
  rw [eT6, eT4] at d0 d1 d2 d3 d4
  have fT6 := fy5.trans hf6 (by simp)
  have Ha2 := Lib.hid (Ha2.out.fr hf6)
  have HH6 := Lib.hid (And.intro eT4 (And.intro eT6 eb6))
  clear hb5 hf4 h04 h24 hf5 hf6 e46 eT4 eT6 eb6
  go_wp2_with fail
  rw [← HH6.out.1, ← HH6.out.2.2, ← HH6.out.2.1]
  clear c0 c1 c2 c3 c4 d0 d1 d2 d3 d4
  obtain ⟨tx, etx⟩ : ∃ tx, tx = textT v := ⟨_, rfl⟩
  have ETX := Lib.hid etx
  clear etx
  refine (ttext_any _ v T6 ⟨_, rfl, Ha2.out⟩ HS2.out (HT.out.t.fr fT6)).mono ?_
  rintro e y6 ⟨rfl, hbb⟩
  rw [← ETX.out]
  have hf : Fr [] T6 y6 := Fr.ofBelow hbb
  have hbb0 := hf.at hbb0 (by simp)
  have hbb2 := hf.at hbb2 (by simp)
  have hb6 := hf.at hb6 (by simp)
  have Ha2 := Lib.hid (Ha2.out.fr hf)
  have fy6 := fT6.trans hf (by simp)
  clear hbb hf fT6
  go_wp2_with fail
  refine (tparse_any tx y6 (by rw [ETX.out]; exact HLT.out) (HT.out.fr fy6)).mono ?_
  rintro e y7 ⟨o, ho, vv, rfl, hv, hbb⟩
  rw [ETX.out] at ho
  obtain rfl := HPAR.out o ho
  clear ho
  obtain ⟨cv, rfl, hc⟩ := (show TtlR y7 vv v from hv)
  obtain ⟨a7, ka7, rfl, _, _, _⟩ := hc.form
  have Ha7 := Lib.hid hc
  have hf : Fr [] y6 y7 := Fr.ofBelow hbb
  have hbb0 := hf.at hbb0 (by simp)
  have hbb2 := hf.at hbb2 (by simp)
  have hb6 := hf.at hb6 (by simp)
  have Ha2 := Lib.hid (Ha2.out.fr hf)
  have fy7 := fy6.trans hf (by simp)
  clear hbb hf fy6 hc hv
  obtain ⟨T4, eT, hbb7, hf⟩ := new_ttl y7 (.int .i64 v.serial) (.int .i64 v.shw) (.int .i64 v.place) (.string ⟨v.first.toArray⟩) (.slice a7 v.chain.length ka7)
  obtain ⟨b7, eb⟩ : ∃ b, b = y7.heap.size := ⟨_, rfl⟩
  have c0 := row_cell hbb7 0
  have c1 := row_cell hbb7 1
  have c2 := row_cell hbb7 2
  have c3 := row_cell hbb7 3
  have c4 := row_cell hbb7 4
  simp at c0 c1 c2 c3 c4
  rw [eT] at c0 c1 c2 c3 c4
  have ET := Lib.hid eT
  clear eT
  have d0 := row_cell (hf.at hbb2 (by simp)) 0
  have d1 := row_cell (hf.at hbb2 (by simp)) 1
  have d2 := row_cell (hf.at hbb2 (by simp)) 2
  have d3 := row_cell (hf.at hbb2 (by simp)) 3
  have d4 := row_cell (hf.at hbb2 (by simp)) 4
  simp at d0 d1 d2 d3 d4
  rw [ET.out] at d0 d1 d2 d3 d4
  go_wp2_with fail
  clear d0 d1 d2 d3 d4
  rw [← ET.out, ← eb]
  rw [← eb] at hbb7
  have hbb0 := hf.at hbb0 (by simp)
  have hbb2 := hf.at hbb2 (by simp)
  have hb6 := hf.at hb6 (by simp)
  have Ha2 := Lib.hid (Ha2.out.fr hf)
  have Ha7 := Lib.hid (Ha7.out.fr hf)
  have fT4 := fy7.trans hf (by simp)
  clear ET eb hf fy7 c0 c1 c2 c3 c4
  refine (rsame30_any _ _ v v T4 ⟨_, rfl, Ha7.out⟩ ⟨_, rfl, Ha2.out⟩).mono ?_
  rintro e z1 ⟨rfl, hbb⟩
  rw [sameT_refl]
  have hf : Fr [] T4 z1 := Fr.ofBelow hbb
  have hbb0 := hf.at hbb0 (by simp)
  have hbb2 := hf.at hbb2 (by simp)
  have hb6 := hf.at hb6 (by simp)
  have Ha2 := Lib.hid (Ha2.out.fr hf)
  have fz1 := fT4.trans hf (by simp)
  clear hbb hf fT4
  have c0 := row_cell hbb0 0
  have c1 := row_cell hbb0 1
  have c2 := row_cell hbb0 2
  have c3 := row_cell hbb0 3
  have c4 := row_cell hbb0 4
  simp at c0 c1 c2 c3 c4
  go_wp2_with fail
  refine (owner_any _ ⟨20001, 1, 7, pa, []⟩ z1 ⟨_, rfl, Trs.nil _⟩).mono ?_
  rintro e z2 ⟨rfl, hbb⟩
  rw [OW0.out]
  have hf : Fr [] z1 z2 := Fr.ofBelow hbb
  have hbb0 := hf.at hbb0 (by simp)
  have hbb2 := hf.at hbb2 (by simp)
  have hb6 := hf.at hb6 (by simp)
  have Ha2 := Lib.hid (Ha2.out.fr hf)
  have fz2 := fz1.trans hf (by simp)
  clear hbb hf fz1
  clear c0 c1 c2 c3 c4
  have c0 := row_cell hbb2 0
  have c1 := row_cell hbb2 1
  have c2 := row_cell hbb2 2
  have c3 := row_cell hbb2 3
  have c4 := row_cell hbb2 4
  simp at c0 c1 c2 c3 c4
  go_wp2_with fail
  refine (owner_any _ v z2 ⟨_, rfl, Ha2.out⟩).mono ?_
  rintro e z3 ⟨rfl, hbb⟩
  rw [OWV.out]
  have hf : Fr [] z2 z3 := Fr.ofBelow hbb
  have hbb0 := hf.at hbb0 (by simp)
  have hbb2 := hf.at hbb2 (by simp)
  have hb6 := hf.at hb6 (by simp)
  have Ha2 := Lib.hid (Ha2.out.fr hf)
  have fz3 := fz2.trans hf (by simp)
  clear hbb hf fz2
  clear c0 c1 c2 c3 c4
  go_wp2_with fail
  refine (public_any [99] z3 (by decide) (HT.out.t.fr fz3)).mono ?_
  rintro e z4 ⟨rfl, hbb⟩
  rw [← EC.out]
  have hf : Fr [] z3 z4 := Fr.ofBelow hbb
  have hbb0 := hf.at hbb0 (by simp)
  have hbb2 := hf.at hbb2 (by simp)
  have hb6 := hf.at hb6 (by simp)
  have Ha2 := Lib.hid (Ha2.out.fr hf)
  have fz4 := fz3.trans hf (by simp)
  clear hbb hf fz3
  have c0 := row_cell hb6 0
  have c1 := row_cell hb6 1
  have c2 := row_cell hb6 2
  have c3 := row_cell hb6 3
  have c4 := row_cell hb6 4
  simp at c0 c1 c2 c3 c4
  go_wp2_with fail
  refine (valid30_any _ { v with place := 8 } z4 ⟨_, rfl, Ha2.out⟩ ⟨⟨HS2.out.s, HS2.out.h, by simp, by simp⟩, HS2.out.f, HS2.out.n, HS2.out.c⟩ (HT.out.t.fr fz4)).mono ?_
  rintro e z5 ⟨rfl, hbb⟩
  rw [VP8.out]
  have hf : Fr [] z4 z5 := Fr.ofBelow hbb
  have hbb0 := hf.at hbb0 (by simp)
  have hbb2 := hf.at hbb2 (by simp)
  have hb6 := hf.at hb6 (by simp)
  have Ha2 := Lib.hid (Ha2.out.fr hf)
  have fz5 := fz4.trans hf (by simp)
  clear hbb hf fz4
  clear c0 c1 c2 c3 c4
  have c0 := row_cell hbb2 0
  have c1 := row_cell hbb2 1
  have c2 := row_cell hbb2 2
  have c3 := row_cell hbb2 3
  have c4 := row_cell hbb2 4
  simp at c0 c1 c2 c3 c4
  have d0 := row_cell hbb0 0
  have d1 := row_cell hbb0 1
  have d2 := row_cell hbb0 2
  have d3 := row_cell hbb0 3
  have d4 := row_cell hbb0 4
  simp at d0 d1 d2 d3 d4
  go_wp2_with fail
  refine (extends_any _ _ v ⟨20001, 1, 7, pa, []⟩ z5 ⟨_, rfl, Ha2.out⟩ ⟨_, rfl, Trs.nil _⟩ HS2.out.toTNum HS0.out.toTNum (HT.out.t.fr fz5)).mono ?_
  rintro e z6 ⟨rfl, hbb⟩
  rw [EX1.out]
  have hf : Fr [] z5 z6 := Fr.ofBelow hbb
  have hbb0 := hf.at hbb0 (by simp)
  have hbb2 := hf.at hbb2 (by simp)
  have hb6 := hf.at hb6 (by simp)
  have Ha2 := Lib.hid (Ha2.out.fr hf)
  have fz6 := fz5.trans hf (by simp)
  clear hbb hf fz5
  clear c0 c1 c2 c3 c4 d0 d1 d2 d3 d4
  have c0 := row_cell hbb2 0
  have c1 := row_cell hbb2 1
  have c2 := row_cell hbb2 2
  have c3 := row_cell hbb2 3
  have c4 := row_cell hbb2 4
  simp at c0 c1 c2 c3 c4
  have d0 := row_cell hbb0 0
  have d1 := row_cell hbb0 1
  have d2 := row_cell hbb0 2
  have d3 := row_cell hbb0 3
  have d4 := row_cell hbb0 4
  simp at d0 d1 d2 d3 d4
  go_wp2_with fail
  refine (extends_any _ _ ⟨20001, 1, 7, pa, []⟩ v z6 ⟨_, rfl, Trs.nil _⟩ ⟨_, rfl, Ha2.out⟩ HS0.out.toTNum HS2.out.toTNum (HT.out.t.fr fz6)).mono ?_
  rintro e z7 ⟨rfl, hbb⟩
  rw [EX2.out]
  have hf : Fr [] z6 z7 := Fr.ofBelow hbb
  have hbb0 := hf.at hbb0 (by simp)
  have hbb2 := hf.at hbb2 (by simp)
  have hb6 := hf.at hb6 (by simp)
  have Ha2 := Lib.hid (Ha2.out.fr hf)
  have fz7 := fz6.trans hf (by simp)
  clear hbb hf fz6
  clear c0 c1 c2 c3 c4 d0 d1 d2 d3 d4
  have d0 := row_cell hbb0 0
  have d1 := row_cell hbb0 1
  have d2 := row_cell hbb0 2
  have d3 := row_cell hbb0 3
  have d4 := row_cell hbb0 4
  simp at d0 d1 d2 d3 d4
  go_wp2_with fail
  refine (ttext_any _ ⟨20001, 1, 7, pa, []⟩ z7 ⟨_, rfl, Trs.nil _⟩ HS0.out (HT.out.t.fr fz7)).mono ?_
  rintro e z8 ⟨rfl, hbb⟩
  rw [TX0.out]
  have hf : Fr [] z7 z8 := Fr.ofBelow hbb
  have fz8 := fz7.trans hf (by simp)
  clear hbb hf fz7
  clear d0 d1 d2 d3 d4
  have hl16 := LA.out
  have he : (⟨#[50, 48, 48, 48, 49, 32, 49, 32, 55, 32]⟩ : ByteArray) ++ ⟨pa.toArray⟩ = ⟨(50 :: 48 :: 48 :: 48 :: 49 :: 32 :: 49 :: 32 :: 55 :: 32 :: pa).toArray⟩ := by
    apply ByteArray.ext
    simp
  go_wp2_with fail
  go_ret
  exact ⟨rfl, fz8.toBelow (by simp)⟩
end Go.Proofs.YtcblpfepkkkilaaGreatDoor
namespace Go.Proofs.YtcblpfepkkkilaaGreatDoor
open Go.RowKit

/-- A slice of titles. -/
def Tts (w : World) (v : Value) (l : List Ttl) : Prop := ∃ b off cap, v = .slice (some ⟨b, off, none⟩) l.length cap ∧ l.length ≤ cap ∧ cap ≤ 9223372036854775807 ∧
  ∀ (i : Nat) (t : Ttl), l[i]? = some t → w.cell? ⟨b, off + i * 5, none⟩ = some (.int .i64 t.serial) ∧ w.cell? ⟨b, off + i * 5 + 1, none⟩ = some (.int .i64 t.shw) ∧ w.cell? ⟨b, off + i * 5 + 2, none⟩ = some (.int .i64 t.place) ∧ w.cell? ⟨b, off + i * 5 + 3, none⟩ = some (.string ⟨t.first.toArray⟩) ∧
    ∃ a n, w.cell? ⟨b, off + i * 5 + 4, none⟩ = some (.slice a t.chain.length n) ∧ Trs w (.slice a t.chain.length n) t.chain
def smallT (l : List Ttl) (s : List (List UInt8)) : Bool := l.all (fun t => fewT t 6) && s.all fun x => decide (x.length ≤ 300)
theorem smallT_parts {l : List Ttl} {s : List (List UInt8)} (h : smallT l s = true) : (∀ t ∈ l, fewT t 6 = true) ∧ ∀ x ∈ s, x.length ≤ 300 := by
  unfold smallT at h
  simp only [Bool.and_eq_true, List.all_eq_true, decide_eq_true_eq] at h
  exact h
theorem Tts.fr {w w' : World} {v : Value} {l : List Ttl} (h : Tts w v l) (hf : Fr [] w w') : Tts w' v l := by
  obtain ⟨b, off, cap, hv, h1, h2, h3⟩ := h
  exact ⟨b, off, cap, hv, h1, h2, fun i t ht => let ⟨a0, a1, a2, a3, a, n, a4, a5⟩ := h3 i t ht
    ⟨hf.cell a0 (by simp), hf.cell a1 (by simp), hf.cell a2 (by simp), hf.cell a3 (by simp), a, n, hf.cell a4 (by simp), a5.fr hf⟩⟩
set_option maxRecDepth 100000 in
set_option maxHeartbeats 2000000 in
theorem small30_any (v sv : Value) (l : List Ttl) (ss : List (List UInt8)) (w : World) (hv : Tts w v l) (hs : Strs w sv ss) :
    Calls Tryz.prog 6 #[v, sv] w fun e w' => e = .returned (.bool (smallT l ss)) ∧ Below w.heap.size w w' := by
  have HV := Lib.hid hv
  have HS := Lib.hid hs
  obtain ⟨b, off, cap, rfl, hlc, hcap, _⟩ := hv
  obtain ⟨sa, sc, rfl, hsl, hsa⟩ := hs.form
  clear hs
  obtain ⟨r, er⟩ : ∃ r, r = smallT l ss := ⟨_, rfl⟩
  rw [← er]
  have ER := Lib.hid er
  clear er
  go_enter Tryz.func6, Tryz.ntmps6
  go_wp2_with fail
  go_loopg [5] l.length (fun gh i wr => ∃ k : Nat, k ≤ l.length ∧ gh = l.length - k ∧ i = .int .i64 (k : Int) ∧ (∀ t ∈ l.take k, fewT t 6 = true) ∧ Fr [] w wr)
  case atStart => exact ⟨0, by omega, by omega, rfl, fun x hx => by simp at hx, Fr.refl _ _⟩
  case round =>
    obtain ⟨k, hk, hgh, rfl, hall, hfr⟩ := hrel
    have HG := Lib.hid hgh
    have HA := Lib.hid hall
    clear hgh hall
    by_cases hlt : k < l.length
    · have t1 : decide ((k : Int) < (l.length : Int)) = true := by simp; omega
      obtain ⟨t, ht⟩ : ∃ t, l[k]? = some t := ⟨_, List.getElem?_eq_getElem hlt⟩
      obtain ⟨b', off', cap', hb', _, _, h3⟩ := HV.out.fr hfr
      cases hb'
      obtain ⟨e0, e1, e2, e3, a, n, e4, htr⟩ := h3 k t ht
      have HTR := Lib.hid htr
      have HM : Hid (t ∈ l) := Lib.hid (List.mem_of_getElem? ht)
      have HNX : Hid (fewT t 6 = true → ∀ y ∈ l.take (k + 1), fewT y 6 = true) := Lib.hid (fun h y hy => by
        rw [List.take_add_one, ht, List.mem_append] at hy
        rcases hy with hy | hy
        · exact HA.out y hy
        · obtain rfl : y = t := by simpa using hy
          exact h)
      have i0 : (0 : Int) ≤ (k : Int) := by omega
      have i1 : (k : Int) < (l.length : Int) := by omega
      clear ht htr h3
      go_wp2_with fail
      refine (few30_any _ t 6 wr ⟨_, rfl, HTR.out⟩).mono ?_
      rintro e w1 ⟨rfl, hbb⟩
      have hf1 : Fr [] w w1 := hfr.trans (Y := []) (Fr.ofBelow hbb) (by simp)
      clear hbb e0 e1 e2 e3 e4
      obtain ⟨q, hq⟩ : ∃ q, q = fewT t 6 := ⟨_, rfl⟩
      rw [← hq]
      cases q with
      | true =>
        have HX := Lib.hid (HNX.out hq.symm)
        clear hq
        go_wp2_with fail
        go_roundg (l.length - (k + 1))
        case measure => have := HG.out; omega
        case rel => exact ⟨k + 1, by omega, rfl, by go_num, HX.out, hf1⟩
      | false =>
        have HR : Hid (r = false) := Lib.hid (by
          rw [ER.out]; unfold smallT
          rw [List.all_eq_false.2 ⟨t, HM.out, by rw [← hq]; decide⟩]; rfl)
        clear hq
        go_wp2_with fail
        go_ret
        exact ⟨by rw [HR.out]; rfl, hf1.toBelow (by simp)⟩
    · obtain rfl : k = l.length := by omega
      have t1 : decide ((l.length : Int) < (l.length : Int)) = false := by simp
      have HLA : Hid (l.all (fun t => fewT t 6) = true) := Lib.hid (by
        have := HA.out
        rw [List.take_length] at this
        exact List.all_eq_true.2 this)
      have HFR := Lib.hid hfr
      obtain ⟨wo, rfl⟩ : ∃ wo : World, wo = wr := ⟨_, rfl⟩
      go_wp2_with fail
      go_loopg [6] ss.length (fun gh i wr => ∃ k : Nat, k ≤ ss.length ∧ gh = ss.length - k ∧ i = .int .i64 (k : Int) ∧ (∀ j, j < k → (ss.getD j []).length ≤ 300) ∧ wo = wr)
      case atStart => exact ⟨0, by omega, by omega, rfl, fun j hj => absurd hj (by omega), rfl⟩
      case round =>
        obtain ⟨m, hm, hgi, rfl, hal, rfl⟩ := hrel
        have HG2 := Lib.hid hgi
        have HB := Lib.hid hal
        clear hgi hal
        by_cases hlm : m < ss.length
        · have t2 : decide ((m : Int) < (ss.length : Int)) = true := by simp; omega
          obtain ⟨sb, so, rfl⟩ := hsa m hlm
          have hcs := (HS.out.fr0 HFR.out).cell m hlm
          have HSM : Hid (ss.getD m [] ∈ ss) := Lib.hid (getD_mem ss m [] hlm)
          have HOK : Hid ((ss.getD m []).length ≤ 300 → ∀ j, j < m + 1 → (ss.getD j []).length ≤ 300) := Lib.hid (fun h j hj => by
            by_cases hjm : j < m
            · exact HB.out j hjm
            · obtain rfl : j = m := by omega
              exact h)
          generalize ss.getD m [] = s at hcs HSM HOK
          have i2 : (0 : Int) ≤ (m : Int) := by omega
          have i3 : (m : Int) < (ss.length : Int) := by omega
          by_cases h5 : 300 < s.length
          · have t7 : decide ((300 : Int) < (s.length : Int)) = true := by simp; omega
            have HR : Hid (r = false) := Lib.hid (by
              rw [ER.out]; unfold smallT
              rw [List.all_eq_false.2 ⟨s, HSM.out, by simpa using h5⟩, Bool.and_false])
            clear h5
            go_wp2_with fail
            go_ret
            exact ⟨by rw [HR.out]; rfl, HFR.out.toBelow (by simp)⟩
          · have t7 : decide ((300 : Int) < (s.length : Int)) = false := by simp; omega
            have HR := Lib.hid (HOK.out (by omega))
            clear h5
            go_wp2_with fail
            go_roundg (ss.length - (m + 1))
            case measure => have := HG2.out; omega
            case rel => exact ⟨m + 1, by omega, rfl, by go_num, HR.out, rfl⟩
        · obtain rfl : m = ss.length := by omega
          have t2 : decide ((ss.length : Int) < (ss.length : Int)) = false := by simp
          have HR : Hid (r = true) := Lib.hid (by
            rw [ER.out]; unfold smallT
            rw [HLA.out, Bool.true_and, List.all_eq_true]
            exact fun s hs => decide_eq_true (mem_getD_lt (p := fun s => s.length ≤ 300) HB.out s hs))
          go_wp2_with fail
          go_ret
          exact ⟨by rw [HR.out]; rfl, HFR.out.toBelow (by simp)⟩
theorem tts_row {w : World} {b : Nat} {cs : Array Value} {fr : Nat × Nat} {l : List Ttl} {n : Nat} (h : w.heap[b]? = some (.cells cs 24 fr)) (hn : n = l.length) (hs : n ≤ 1000000)
    (hc : ∀ (i : Nat) (t : Ttl), l[i]? = some t → cs[i * 5]? = some (.int .i64 t.serial) ∧ cs[i * 5 + 1]? = some (.int .i64 t.shw) ∧ cs[i * 5 + 2]? = some (.int .i64 t.place) ∧ cs[i * 5 + 3]? = some (.string ⟨t.first.toArray⟩) ∧
      ∃ a n, cs[i * 5 + 4]? = some (.slice a t.chain.length n) ∧ Trs w (.slice a t.chain.length n) t.chain) : Tts w (.slice (some ⟨b, 0, none⟩) n n) l := by
  subst hn
  refine ⟨b, 0, l.length, rfl, Nat.le_refl _, by omega, fun i t ht => ?_⟩
  obtain ⟨h0, h1, h2, h3, a, n, h4, h5⟩ := hc i t ht
  rw [Nat.zero_add, row_cell h, row_cell h, row_cell h, row_cell h, row_cell h]
  exact ⟨h0, h1, h2, h3, a, n, h4, h5⟩
theorem formedT_small {g : Ttl} (h : formedT g = true) : TSmall g := by
  obtain ⟨h1, h2, h3, h4, h5, h6⟩ := formedT_parts h
  refine ⟨⟨by omega, by omega, by omega⟩, by rw [isD_16 h4]; decide, by omega, fun x hx => ?_⟩
  obtain ⟨e1, e2, e3⟩ := formX_parts (List.all_eq_true.1 h6 x hx)
  exact ⟨by rw [isD_16 e2]; decide, by omega, fun s hs => by rw [isD_16 (List.all_eq_true.1 e3 s hs)]; decide⟩
theorem parsed_own {a : Ttl} {o : Option Ttl} (h : ParsedT (textT a) o) (hf : formedT a = true) : o = some a := (h a).2 ⟨hf, rfl⟩
theorem parsed_nil {o : Option Ttl} (h : ParsedT [] o) : o = none := by
  cases o with
  | none => rfl
  | some g => exact absurd ((h g).1 rfl).2 (textT_ne ((h g).1 rfl).1)
theorem text_same {a b : Ttl} (hf : formedT a = true) : (textT a == textT b) = sameT a b := by
  rw [Bool.eq_iff_iff, beq_iff_eq, sameT_iff]
  constructor
  · intro h
    cases hb : formedT b with
    | true => exact textT_inj hf hb h
    | false => rw [textT_nil hb] at h; exact absurd h (textT_ne hf)
  · rintro rfl; rfl
theorem valid_formed {a : Ttl} (h : validT a = true) : formedT a = true := by
  unfold validT at h
  rw [Bool.and_eq_true] at h
  exact h.1
end Go.Proofs.YtcblpfepkkkilaaGreatDoor
