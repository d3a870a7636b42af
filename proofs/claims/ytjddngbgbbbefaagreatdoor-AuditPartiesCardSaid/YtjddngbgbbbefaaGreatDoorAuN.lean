/-
  audit.records: what is wrong with entries, root, parties.
  A map[int]int that the call has made; slices.Backward over ints; the place of a number.
  audit.Check: the findings about published records.
-/
import Derived.Test.YtjddngbgbbbefaaGreatDoorAuE
import Derived.Test.YtjddngbgbbbefaaGreatDoorMapB
import Derived.Test.YtjddngbgbbbefaaGreatDoorMrk
import Derived.Test.YtjddngbgbbbefaaGreatDoorChk
import Derived.Test.YtjddngbgbbbefaaGreatDoorOwnZ
import Derived.Maps.OwnIn
import Derived.Test.YtjddngbgbbbefaaGreatDoorAuA
import Derived.Test.YtjddngbgbbbefaaGreatDoorRfX
namespace Go.Proofs.YtjddngbgbbbefaaGreatDoor
open Go.RowKit
set_option maxRecDepth 100000

def entK (l : List Pty) (k : Nat) : List Aud := (List.range k).flatMap fun i => if validB (l.getD i zP) then [] else [⟨1, (i : Int), -1⟩]
def partK (l : List Pty) (k : Nat) : List Aud := (List.range k).flatMap fun i => if wrongB l i then [⟨4, (i : Int), -1⟩] else []
theorem flat_succ {β : Type} (f : Nat → List β) (k : Nat) : (List.range (k + 1)).flatMap f = (List.range k).flatMap f ++ f k := by
  rw [List.range_succ, List.flatMap_append]
  simp
theorem getD_p {l : List Pty} {k : Nat} {p : Pty} (hp : l[k]? = some p) : l.getD k zP = p := by rw [List.getD_eq_getElem?_getD, hp]; rfl
theorem entK_yes {l : List Pty} {k : Nat} {p : Pty} (hp : l[k]? = some p) (h : validB p = true) : entK l (k + 1) = entK l k := by
  unfold entK
  rw [flat_succ, getD_p hp, h]
  simp
theorem entK_no {l : List Pty} {k : Nat} {p : Pty} (hp : l[k]? = some p) (h : validB p = false) : entK l (k + 1) = entK l k ++ [⟨1, (k : Int), -1⟩] := by
  unfold entK
  rw [flat_succ, getD_p hp, h]
  rfl
theorem partK_yes {l : List Pty} {k : Nat} (h : wrongB l k = true) : partK l (k + 1) = partK l k ++ [⟨4, (k : Int), -1⟩] := by
  unfold partK
  rw [flat_succ, h]
  rfl
theorem partK_no {l : List Pty} {k : Nat} (h : wrongB l k = false) : partK l (k + 1) = partK l k := by
  unfold partK
  rw [flat_succ, h]
  simp
theorem wrongB_eq {l : List Pty} {k : Nat} {p : Pty} (hp : l[k]? = some p) : wrongB l k = (decide (16 ≤ k) || namesT l k p.name || !rightB p) := by
  unfold wrongB
  rw [getD_p hp]
  have h1 : dupAt l k = namesT l k p.name := by unfold dupAt namesT; rw [hp]
  rw [h1]
theorem in_A {a b c : Int} (ha : -100000000 ≤ a ∧ a ≤ 100000000) (hb : -9223372036854775808 ≤ b ∧ b ≤ 9223372036854775807) (hc : -9223372036854775808 ≤ c ∧ c ≤ 9223372036854775807) : inA ⟨a, b, c⟩ := ⟨by unfold inI; simp only; omega, hb, hc⟩
/-- Parties of a moderate size. -/
def PrtS (l : List Pty) : Prop := ∀ p ∈ l, p.name.length ≤ 1000000 ∧ p.rev.length ≤ 1000000

set_option maxHeartbeats 16000000 in
theorem records_any (v : Value) (p : Pbl) (b nn : Nat) (F : List Aud) (w0 w : World) (hv : PblR w0 v p) (hf0 : Fr [] w0 w) (hb0 : w0.heap.size ≤ b) (hm : MapA w b nn F) (hnn : nn ≤ 1000) (hl : EntS p.ents) (hn : p.ents.length ≤ 100000) (hps : PrtS p.parts) (hpn : p.parts.length ≤ 100000) (hT : Tabs w0) :
    Calls Tryz.prog 43 #[v, .func (.func 44) #[.map (some b)] #[]] w fun e w' => e = .returned (.tuple #[]) ∧ MapA w' b (nn + p.ents.length + 1 + p.parts.length) (F ++ recF p) ∧ Fr [b] w w' := by
  obtain ⟨ev, pv, ov, sv, rfl, h1, h2, _, _⟩ := hv
  obtain ⟨ea, ec, rfl, _, _, hea⟩ := h1.form
  obtain ⟨pa, pc, rfl, _, _, hpa⟩ := h2.form
  have HE := Lib.hid h1
  have HP := Lib.hid h2
  have HT := Lib.hid hT
  have HL := Lib.hid hl
  have HPS := Lib.hid hps
  have HF0 := Lib.hid hf0
  have HM := Lib.hid hm
  have HBW : Hid (b < w.heap.size) := Lib.hid hm.lt
  obtain ⟨n, en⟩ : ∃ n, n = p.ents.length := ⟨_, rfl⟩
  obtain ⟨m, em⟩ : ∃ m, m = p.parts.length := ⟨_, rfl⟩
  rw [← en] at hea hn HE ⊢
  rw [← em] at hpa hpn HP ⊢
  have EN := Lib.hid en
  have EM := Lib.hid em
  have hmm := @run_makeMap Tryz.prog
  obtain ⟨W1, hW1⟩ : ∃ W1, W1 = w.alloc (.cells #[.slice ea n ec, .string ⟨p.root.toArray⟩, .slice pa m pc, ov, sv] 26) := ⟨_, rfl⟩
  obtain ⟨pb, epb⟩ : ∃ q, q = w.heap.size := ⟨_, rfl⟩
  have hp1 : W1.heap[pb]? = some (.cells #[.slice ea n ec, .string ⟨p.root.toArray⟩, .slice pa m pc, ov, sv] 26 (0, 0)) := by rw [hW1]; exact heap_new epb
  have f1 : Fr [] w W1 := by rw [hW1]; exact (Fr.refl [] w).alloc _
  have HM1 := Lib.hid (hm.fr f1 (by simp))
  have HP1 := Lib.hid hp1
  have HF1 := Lib.hid f1
  have c0 := row_cell hp1 0
  simp at c0
  have HPB : Hid (pb ∉ [b]) := Lib.hid (by have := HBW.out; simp; omega)
  have HBL : Hid (∀ y ∈ [b], y ∈ ([] : List Nat) ∨ w0.heap.size ≤ y) := Lib.hid (fun y hy => by rw [List.mem_singleton.1 hy]; exact Or.inr hb0)
  have HFR : Hid (∀ V, Fr [b] w V → Fr [] w0 V) := Lib.hid (fun V hV => hf0.trans hV HBL.out)
  clear h1 h2 hT hl hps hf0 hm en em hp1 f1 hb0
  go_enter Tryz.func43, Tryz.ntmps43
  go_wp2_with fail
  rw [← hW1, ← epb]
  clear hW1 epb
  have f0 : Fr [b] w W1 := HF1.out.mono (by simp)
  have HF1b := Lib.hid f0
  clear f0
  go_loopg [12] (n + 1) (fun g i wr => ∃ k : Nat, k ≤ n ∧ g = n + 1 - k ∧ i = .int .i64 (k : Int) ∧ MapA wr b (nn + k) (F ++ entK p.ents k) ∧ Fr [b] W1 wr)
  case atStart => exact ⟨0, by omega, by omega, rfl, by simpa [entK] using HM1.out, Fr.refl _ _⟩
  case round =>
    obtain ⟨k, hk, hg, rfl, hma, hfr⟩ := hrel
    have HG := Lib.hid hg
    have HMK := Lib.hid hma
    have HFK := Lib.hid hfr
    clear hg hma hfr c0
    have HW0 : Hid (Fr [] w0 wr) := Lib.hid (HFR.out wr (HF1b.out.trans HFK.out (fun y hy => Or.inl hy)))
    by_cases hlt : k < n
    · have t2 : decide ((k : Int) < (n : Int)) = true := by simp; omega
      obtain ⟨eb, eo, rfl⟩ := hea k hlt
      obtain ⟨q, hq⟩ : ∃ q, p.ents[k]? = some q := ⟨p.ents[k]'(by rw [← EN.out]; exact hlt), List.getElem?_eq_getElem _⟩
      obtain ⟨c0, c1, c2⟩ := (HE.out.fr HW0.out).cells k q hq
      have hlq := HL.out q (List.mem_of_getElem? hq)
      have HV := Lib.hid (fun W => validE_any q W hlq.1 hlq.2.1 hlq.2.2)
      have HYES := Lib.hid (entK_yes hq)
      have HNO := Lib.hid (entK_no hq)
      unfold ptyV at HV
      have i0 : (0 : Int) ≤ (k : Int) := by omega
      have i1 : (k : Int) < (n : Int) := by omega
      obtain ⟨vb, evb⟩ : ∃ r, r = validB q := ⟨_, rfl⟩
      rw [← evb] at HV HYES HNO
      clear hq hlq evb
      go_wp2_with fail
      have hf1 : Fr [] wr (wr.alloc (.cells #[.string ⟨q.name.toArray⟩, .string ⟨q.com.toArray⟩, .string ⟨q.rev.toArray⟩] 43)) := (Fr.refl [] wr).alloc _
      generalize wr.alloc (.cells #[.string ⟨q.name.toArray⟩, .string ⟨q.com.toArray⟩, .string ⟨q.rev.toArray⟩] 43) = w1 at hf1 ⊢
      refine (HV.out w1).mono ?_
      rintro e w2 ⟨rfl, hb⟩
      have hf2 : Fr [] wr w2 := hf1.below hb hf1.size
      have HM2 := Lib.hid (HMK.out.fr hf2 (by simp))
      have HF2 := Lib.hid (HFK.out.trans hf2 (by simp))
      clear hb hf1 hf2 c0 c1 c2
      cases vb with
      | true =>
        go_wp2_with fail
        go_roundg (n + 1 - (k + 1))
        case measure => have := HG.out; omega
        case rel => exact ⟨k + 1, by omega, rfl, by go_num, by rw [HYES.out (by trivial)]; exact HM2.out.more (by omega), HF2.out⟩
      | false =>
        go_wp2_with fail
        refine (find_any b (nn + k) (F ++ entK p.ents k) ⟨1, (k : Int), -1⟩ w2 HM2.out (by omega) (in_A (by decide) (by omega) (by decide))).mono ?_
        rintro e w3 ⟨rfl, hm3, hf3⟩
        have HM3 := Lib.hid hm3
        have HF3 := Lib.hid (HF2.out.trans hf3 (fun y hy => Or.inl hy))
        clear hm3 hf3
        go_wp2_with fail
        go_roundg (n + 1 - (k + 1))
        case measure => have := HG.out; omega
        case rel => exact ⟨k + 1, by omega, rfl, by go_num, by rw [HNO.out (by trivial), ← List.append_assoc]; exact HM3.out.more (by omega), HF3.out⟩
    · obtain rfl : k = n := by omega
      have t2 : decide ((k : Int) < (k : Int)) = false := by simp
      have HMA : Hid (MapA wr b (nn + k) (F ++ entF p.ents)) := Lib.hid (by have := HMK.out; rw [EN.out] at this ⊢; exact this)
      have hq1 := HFK.out.at HP1.out HPB.out
      have d0 := row_cell hq1 0
      have d1 := row_cell hq1 1
      simp at d0 d1
      have hmx : Tryz.prog.follows .mixedOrders = true := by kernel_rfl
      have HFB : Hid (Fr [b] w wr) := Lib.hid (HF1b.out.trans HFK.out (fun y hy => Or.inl hy))
      clear hq1
      go_wp2_with fail
      have g0 : Fr [] wr wr.drew := (Fr.refl [] wr).drew
      have hS0 : wr.drew.cell? ⟨pb, 0, none⟩ = some (.slice ea k ec) ∧ wr.drew.cell? ⟨pb, 1, none⟩ = some (.string ⟨p.root.toArray⟩) := ⟨g0.cell d0 (by simp), g0.cell d1 (by simp)⟩
      refine region_held 100 (fun W' => W'.cell? ⟨pb, 0, none⟩ = some (.slice ea k ec) ∧ W'.cell? ⟨pb, 1, none⟩ = some (.string ⟨p.root.toArray⟩)) hmx ?_
      change Held _ _ _ _ _ _ 7 (Array.replicate 7 false) _ _
      refine hd_take 0 (v := .pointer (some ⟨pb, 1, none⟩)) rfl (by kernel_rfl) (by kernel_rfl) (by kernel_rfl) rfl hS0 (fun W' hS => by go_simp) rfl ?_
      refine hd_take 2 (v := .pointer (some ⟨pb, 0, none⟩)) rfl (by kernel_rfl) (by kernel_rfl) (by kernel_rfl) rfl hS0 (fun W' hS => by go_simp) rfl ?_
      try simp only [Act.put, List.setIfInBounds_toArray, List.set_cons_zero, List.set_cons_succ]
      refine hd_take 1 (v := .string ⟨p.root.toArray⟩) rfl (by kernel_rfl) (by kernel_rfl) (by kernel_rfl) rfl hS0 (fun W' hS => by obtain ⟨s0, s1⟩ := hS; go_simp) rfl ?_
      refine hd_take 3 (v := .slice ea k ec) rfl (by kernel_rfl) (by kernel_rfl) (by kernel_rfl) rfl hS0 (fun W' hS => by obtain ⟨s0, s1⟩ := hS; go_simp) rfl ?_
      try simp only [Act.put, List.setIfInBounds_toArray, List.set_cons_zero, List.set_cons_succ]
      refine hd_one 4 (by kernel_rfl) rfl (by kernel_rfl) rfl (fun K' hK => ?_)
      go_simp
      refine (atexts_any _ p.ents wr.drew (HE.out.fr (HW0.out.trans g0 (by simp))) (by rw [← EN.out]; exact hn) HL.out).mono ?_
      rintro e y1 ⟨tv, rfl, htv, hbb⟩
      have g1 : Fr [] wr y1 := g0.below hbb g0.size
      obtain ⟨ta, tc, rfl, _, _⟩ := htv.strs.form
      have HTV := Lib.hid htv.strs
      clear htv
      clear hbb
      have hS1 : y1.cell? ⟨pb, 0, none⟩ = some (.slice ea k ec) ∧ y1.cell? ⟨pb, 1, none⟩ = some (.string ⟨p.root.toArray⟩) := ⟨g1.cell d0 (by simp), g1.cell d1 (by simp)⟩
      refine hK.out _ _ (fun _ => hS1) ?_
      clear hK K'
      try simp only [Act.put, List.setIfInBounds_toArray, List.set_cons_zero, List.set_cons_succ]
      refine hd_one 5 (by kernel_rfl) rfl (by kernel_rfl) rfl (fun K' hK => ?_)
      go_simp
      refine (root_any _ (textsE p.ents) y1 HTV.out (by unfold textsE; rw [List.length_map, ← EN.out]; omega) (textsE_len _) (HT.out.fr (HW0.out.trans g1 (by simp)))).mono ?_
      rintro e y2 ⟨rfl, hbb⟩
      have g2 : Fr [] wr y2 := g1.below hbb g1.size
      obtain ⟨rt, ert⟩ : ∃ q, q = rootL (textsE p.ents) := ⟨_, rfl⟩
      rw [← ert]
      have ERT := Lib.hid ert
      clear ert
      clear hbb
      have hS2 : y2.cell? ⟨pb, 0, none⟩ = some (.slice ea k ec) ∧ y2.cell? ⟨pb, 1, none⟩ = some (.string ⟨p.root.toArray⟩) := ⟨g2.cell d0 (by simp), g2.cell d1 (by simp)⟩
      refine hK.out _ _ (fun _ => hS2) ?_
      clear hK K'
      try simp only [Act.put, List.setIfInBounds_toArray, List.set_cons_zero, List.set_cons_succ]
      refine hd_take 6 (v := .bool (!(p.root == rt))) rfl (by kernel_rfl) (by kernel_rfl) (by kernel_rfl) rfl hS2 (fun W' hS => by go_simp) rfl ?_
      try simp only [Act.put, List.setIfInBounds_toArray, List.set_cons_zero, List.set_cons_succ]
      refine held_done (by kernel_rfl) ?_
      have ert := ERT.out
      obtain ⟨bb, ebb⟩ : ∃ q, q = (!(p.root == rt)) := ⟨_, rfl⟩
      have HRT : Hid (rootF p = if bb = true then [⟨3, -1, -1⟩] else []) := Lib.hid (by
        unfold rootF
        rw [← ert, ebb]
        by_cases h : p.root = rt
        · simp [h]
        · simp [h])
      rw [← ebb]
      have HMR := Lib.hid (HMA.out.fr g2 (by simp))
      have HFR2 := Lib.hid (HFB.out.trans g2 (by simp))
      have HP2 := Lib.hid ((HFK.out.trans g2 (by simp)).at HP1.out HPB.out)
      clear ert ebb g2 g1 g0 hS0 hS1 hS2 d0 d1
      obtain ⟨F', eF⟩ : ∃ F', F' = F ++ entF p.ents ++ rootF p := ⟨_, rfl⟩
      have EF := Lib.hid eF
      clear eF
      cases bb
      case' false =>
        have HMV : Hid (MapA y2 b (nn + k + 1) F') := Lib.hid (by have := HRT.out; rw [EF.out, this, if_neg (by decide), List.append_nil]; exact HMR.out.more (by omega))
        obtain ⟨w3, rfl⟩ : ∃ w3 : World, w3 = y2 := ⟨_, rfl⟩
        have HFR3 := HFR2
        have HP3 := HP2
      case' true =>
        go_wp2_with fail
        refine (find_any b (nn + k) (F ++ entF p.ents) ⟨3, -1, -1⟩ y2 HMR.out (by omega) (in_A (by decide) (by decide) (by decide))).mono ?_
        rintro e w3 ⟨rfl, hm3, hf3⟩
        have HMV : Hid (MapA w3 b (nn + k + 1) F') := Lib.hid (by have := HRT.out; rw [EF.out, this, if_pos trivial]; exact hm3)
        have HFR3 := Lib.hid (HFR2.out.trans hf3 (fun y hy => Or.inl hy))
        have HP3 := Lib.hid (hf3.at HP2.out HPB.out)
        clear hm3 hf3
      all_goals
        clear HMR HRT HTV HMA HFB HMK HFK HW0
        obtain ⟨W4, hW4⟩ : ∃ W4, W4 = w3.alloc (.map #[] 0) := ⟨_, rfl⟩
        obtain ⟨nb, enb⟩ : ∃ q, q = w3.heap.size := ⟨_, rfl⟩
        have HN4 : Hid (MapB W4 nb 0 (namesT p.parts 0)) := Lib.hid (by rw [hW4, enb]; exact MapB.made w3)
        have f4 : Fr [] w3 W4 := by rw [hW4]; exact (Fr.refl [] w3).alloc _
        have HM4 := Lib.hid (HMV.out.fr f4 (by simp))
        have HF4 := Lib.hid (HFR3.out.trans f4 (by simp))
        have hp4 := f4.at HP3.out (by simp)
        have HNB : Hid (nb ≠ b ∧ w.heap.size ≤ nb) := Lib.hid (by have := HMV.out.lt; have := HFR3.out.size; omega)
        have e2 := row_cell hp4 2
        simp at e2
        rw [hW4] at e2
        clear f4 hp4
        go_wp2_with fail
        rw [← hW4, ← enb]
        clear e2 hW4 enb
        have h5 : k ≤ 100000 := hn
        go_loopg [37] (m + 1) (fun g i wr => ∃ j : Nat, j ≤ m ∧ g = m + 1 - j ∧ i = .int .i64 (j : Int) ∧ MapA wr b (nn + k + 1 + j) (F' ++ partK p.parts j) ∧ MapB wr nb j (namesT p.parts j) ∧ Fr [b] w wr)
        case atStart => exact ⟨0, by omega, by omega, rfl, by simpa [partK] using HM4.out, HN4.out, HF4.out⟩
        case round =>
          obtain ⟨j, hj, hg, rfl, hma, hmb, hfr⟩ := hrel
          have HGJ := Lib.hid hg
          have HMJ := Lib.hid hma
          have HNJ := Lib.hid hmb
          have HFJ := Lib.hid hfr
          clear hg hma hmb hfr
          have HW0 : Hid (Fr [] w0 wr) := Lib.hid (HFR.out wr HFJ.out)
          by_cases hlt : j < m
          · have t2 : decide ((j : Int) < (m : Int)) = true := by simp; omega
            obtain ⟨eb, eo, rfl⟩ := hpa j hlt
            obtain ⟨q, hq⟩ : ∃ q, p.parts[j]? = some q := ⟨p.parts[j]'(by rw [← EM.out]; exact hlt), List.getElem?_eq_getElem _⟩
            obtain ⟨c0, c1, c2⟩ := (HP.out.fr HW0.out).cells j q hq
            have hlq := HPS.out q (List.mem_of_getElem? hq)
            have HC := Lib.hid (fun W hW => right_any q W hlq.1 hlq.2 hW)
            have HWE := Lib.hid (wrongB_eq hq)
            have HYES := Lib.hid (partK_yes (l := p.parts) (k := j))
            have HNO := Lib.hid (partK_no (l := p.parts) (k := j))
            have HST := Lib.hid (namesT_step p.parts j q hq)
            have hpl : q.name.length ≤ 9223372036854775807 := by omega
            have hjl : j < 1000000 := by omega
            unfold ptyV at HC
            have i0 : (0 : Int) ≤ (j : Int) := by omega
            have i1 : (j : Int) < (m : Int) := by omega
            obtain ⟨W5, hW5⟩ : ∃ W5, W5 = wr.alloc (.cells #[.string ⟨q.name.toArray⟩, .string ⟨q.com.toArray⟩, .string ⟨q.rev.toArray⟩] 46) := ⟨_, rfl⟩
            obtain ⟨xb, exb⟩ : ∃ q, q = wr.heap.size := ⟨_, rfl⟩
            have hx5 : W5.heap[xb]? = some (.cells #[.string ⟨q.name.toArray⟩, .string ⟨q.com.toArray⟩, .string ⟨q.rev.toArray⟩] 46 (0, 0)) := by rw [hW5]; exact heap_new exb
            have f5 : Fr [] wr W5 := by rw [hW5]; exact (Fr.refl [] wr).alloc _
            have HM5 := Lib.hid (HMJ.out.fr f5 (by simp))
            have HN5 := Lib.hid (HNJ.out.fr f5 (by simp))
            have HF5 := Lib.hid (HFJ.out.trans f5 (by simp))
            have HX5 := Lib.hid hx5
            have HXB : Hid (xb ≠ b ∧ xb ≠ nb) := Lib.hid (by have := HMJ.out.lt; have := HNJ.out.lt; omega)
            have a0 := row_cell hx5 0
            have a1 := row_cell hx5 1
            have a2 := row_cell hx5 2
            simp at a0 a1 a2
            have hlook := HN5.out.look q.name hpl
            obtain ⟨db, edb⟩ : ∃ r, r = namesT p.parts j q.name := ⟨_, rfl⟩
            rw [← edb] at HWE hlook
            have HTW : Hid (Tabs W5) := Lib.hid (HT.out.fr (HFR.out W5 HF5.out))
            clear hq hlq edb f5 hx5
            have FIN : Hid (∀ (V : World) (vb : Bool), vb = wrongB p.parts j → MapA V b (nn + k + 1 + (j + 1)) (F' ++ partK p.parts j ++ if vb then [⟨4, (j : Int), -1⟩] else []) → MapA V b (nn + k + 1 + (j + 1)) (F' ++ partK p.parts (j + 1))) := Lib.hid (fun V vb hvb hmv => by
              cases vb with
              | true => rw [HYES.out hvb.symm, ← List.append_assoc]; simpa using hmv
              | false => rw [HNO.out hvb.symm]; simpa using hmv)
            by_cases h16 : 16 ≤ j
            case pos =>
              have t3 : decide ((16 : Int) ≤ (j : Int)) = true := by simp; omega
              have HW : Hid (true = wrongB p.parts j) := Lib.hid (by rw [HWE.out]; simp [h16])
              have A0 := Lib.hid a0
              clear h16 hlook a0 a1 a2
              go_wp2_with fail
              rw [← hW5, ← exb]
              clear hW5 exb c0 c1 c2
              have a0 := A0.out
              have HMV0 := HM5
              have HNV0 := HN5
              have HFV0 := HF5
              refine (find_any b (nn + k + 1 + j) (F' ++ partK p.parts j) ⟨4, (j : Int), -1⟩ W5 HMV0.out (by omega) (in_A (by decide) (by omega) (by decide))).mono ?_
              rintro e w6 ⟨rfl, hm6, hf6⟩
              have HNV := Lib.hid (HNV0.out.fr hf6 (by simp; exact HNB.out.1))
              have HFV := Lib.hid (HFV0.out.trans hf6 (fun y hy => Or.inl hy))
              have HMV := Lib.hid (hm6.more (n' := nn + k + 1 + (j + 1)) (by omega))
              have a0 := hf6.cell a0 (by simp; exact HXB.out.1)
              clear hm6 hf6
              go_wp2_with (at_mapUpdate; go_loud (refine wpList_putB rfl (.tmp 58) (.tmp 60) (.const (.bool true)) rfl nb j (namesT p.parts j) rfl HNV.out hjl q.name true rfl rfl hpl ?_))
              intro w7 hm7 hf7
              have HN7 : Hid (MapB w7 nb (j + 1) (namesT p.parts (j + 1))) := Lib.hid (by rw [HST.out]; exact hm7)
              have HM7 : Hid (MapA w7 b (nn + k + 1 + (j + 1)) (F' ++ partK p.parts (j + 1))) := Lib.hid ((FIN.out _ _ HW.out (by simpa using HMV.out)).fr hf7 (by simp; exact HNB.out.1.symm))
              have HF7 : Hid (Fr [b] w w7) := Lib.hid (HFV.out.trans hf7 (fun y hy => Or.inr (by rw [List.mem_singleton.1 hy]; exact HNB.out.2)))
              clear hm7 hf7 a0
              go_wp2_with fail
              go_roundg (m + 1 - (j + 1))
              case measure => have := HGJ.out; omega
              case rel => exact ⟨j + 1, by omega, rfl, by go_num, HM7.out, HN7.out, HF7.out⟩
            case neg =>
              have t3 : decide ((16 : Int) ≤ (j : Int)) = false := by simp; omega
              have A0 := Lib.hid a0
              rw [hW5] at hlook
              rw [hW5, exb] at a0 a1 a2
              have H16 : Hid (decide (16 ≤ j) = false) := Lib.hid (by simpa using h16)
              cases db with
              | true =>
                have HW : Hid (true = wrongB p.parts j) := Lib.hid (by rw [HWE.out]; simp)
                clear h16
                go_wp2_with fail
                rw [← hW5, ← exb]
                clear a0 a1 a2 hlook
                clear hW5 exb c0 c1 c2
                have a0 := A0.out
                have HMV0 := HM5
                have HNV0 := HN5
                have HFV0 := HF5
                refine (find_any b (nn + k + 1 + j) (F' ++ partK p.parts j) ⟨4, (j : Int), -1⟩ W5 HMV0.out (by omega) (in_A (by decide) (by omega) (by decide))).mono ?_
                rintro e w6 ⟨rfl, hm6, hf6⟩
                have HNV := Lib.hid (HNV0.out.fr hf6 (by simp; exact HNB.out.1))
                have HFV := Lib.hid (HFV0.out.trans hf6 (fun y hy => Or.inl hy))
                have HMV := Lib.hid (hm6.more (n' := nn + k + 1 + (j + 1)) (by omega))
                have a0 := hf6.cell a0 (by simp; exact HXB.out.1)
                clear hm6 hf6
                go_wp2_with (at_mapUpdate; go_loud (refine wpList_putB rfl (.tmp 58) (.tmp 60) (.const (.bool true)) rfl nb j (namesT p.parts j) rfl HNV.out hjl q.name true rfl rfl hpl ?_))
                intro w7 hm7 hf7
                have HN7 : Hid (MapB w7 nb (j + 1) (namesT p.parts (j + 1))) := Lib.hid (by rw [HST.out]; exact hm7)
                have HM7 : Hid (MapA w7 b (nn + k + 1 + (j + 1)) (F' ++ partK p.parts (j + 1))) := Lib.hid ((FIN.out _ _ HW.out (by simpa using HMV.out)).fr hf7 (by simp; exact HNB.out.1.symm))
                have HF7 : Hid (Fr [b] w w7) := Lib.hid (HFV.out.trans hf7 (fun y hy => Or.inr (by rw [List.mem_singleton.1 hy]; exact HNB.out.2)))
                clear hm7 hf7 a0
                go_wp2_with fail
                go_roundg (m + 1 - (j + 1))
                case measure => have := HGJ.out; omega
                case rel => exact ⟨j + 1, by omega, rfl, by go_num, HM7.out, HN7.out, HF7.out⟩
              | false =>
                clear h16
                go_wp2_with fail
                rw [← hW5, ← exb]
                clear a0 a1 a2 hlook
                clear hW5 exb c0 c1 c2
                refine (HC.out W5 HTW.out).mono ?_
                rintro e w5 ⟨rfl, hb⟩
                have f6 := Fr.ofBelow (X := []) hb
                have HMV0 := Lib.hid (HM5.out.fr f6 (by simp))
                have HNV0 := Lib.hid (HN5.out.fr f6 (by simp))
                have HFV0 := Lib.hid (HF5.out.trans f6 (by simp))
                have a0 := f6.cell A0.out (by simp)
                clear hb f6
                obtain ⟨rb, erb⟩ : ∃ r, r = rightB q := ⟨_, rfl⟩
                rw [← erb] at HWE ⊢
                clear erb
                cases rb with
                | true =>
                  have HW : Hid (false = wrongB p.parts j) := Lib.hid (by rw [HWE.out, H16.out]; rfl)
                  have HMV := Lib.hid (HMV0.out.more (n' := nn + k + 1 + (j + 1)) (by omega))
                  have HNV := HNV0
                  have HFV := HFV0
                  go_wp2_with (at_mapUpdate; go_loud (refine wpList_putB rfl (.tmp 58) (.tmp 60) (.const (.bool true)) rfl nb j (namesT p.parts j) rfl HNV.out hjl q.name true rfl rfl hpl ?_))
                  intro w7 hm7 hf7
                  have HN7 : Hid (MapB w7 nb (j + 1) (namesT p.parts (j + 1))) := Lib.hid (by rw [HST.out]; exact hm7)
                  have HM7 : Hid (MapA w7 b (nn + k + 1 + (j + 1)) (F' ++ partK p.parts (j + 1))) := Lib.hid ((FIN.out _ _ HW.out (by simpa using HMV.out)).fr hf7 (by simp; exact HNB.out.1.symm))
                  have HF7 : Hid (Fr [b] w w7) := Lib.hid (HFV.out.trans hf7 (fun y hy => Or.inr (by rw [List.mem_singleton.1 hy]; exact HNB.out.2)))
                  clear hm7 hf7 a0
                  go_wp2_with fail
                  go_roundg (m + 1 - (j + 1))
                  case measure => have := HGJ.out; omega
                  case rel => exact ⟨j + 1, by omega, rfl, by go_num, HM7.out, HN7.out, HF7.out⟩
                | false =>
                  have HW : Hid (true = wrongB p.parts j) := Lib.hid (by rw [HWE.out]; simp)
                  go_wp2_with fail
                  refine (find_any b (nn + k + 1 + j) (F' ++ partK p.parts j) ⟨4, (j : Int), -1⟩ w5 HMV0.out (by omega) (in_A (by decide) (by omega) (by decide))).mono ?_
                  rintro e w6 ⟨rfl, hm6, hf6⟩
                  have HNV := Lib.hid (HNV0.out.fr hf6 (by simp; exact HNB.out.1))
                  have HFV := Lib.hid (HFV0.out.trans hf6 (fun y hy => Or.inl hy))
                  have HMV := Lib.hid (hm6.more (n' := nn + k + 1 + (j + 1)) (by omega))
                  have a0 := hf6.cell a0 (by simp; exact HXB.out.1)
                  clear hm6 hf6
                  go_wp2_with (at_mapUpdate; go_loud (refine wpList_putB rfl (.tmp 58) (.tmp 60) (.const (.bool true)) rfl nb j (namesT p.parts j) rfl HNV.out hjl q.name true rfl rfl hpl ?_))
                  intro w7 hm7 hf7
                  have HN7 : Hid (MapB w7 nb (j + 1) (namesT p.parts (j + 1))) := Lib.hid (by rw [HST.out]; exact hm7)
                  have HM7 : Hid (MapA w7 b (nn + k + 1 + (j + 1)) (F' ++ partK p.parts (j + 1))) := Lib.hid ((FIN.out _ _ HW.out (by simpa using HMV.out)).fr hf7 (by simp; exact HNB.out.1.symm))
                  have HF7 : Hid (Fr [b] w w7) := Lib.hid (HFV.out.trans hf7 (fun y hy => Or.inr (by rw [List.mem_singleton.1 hy]; exact HNB.out.2)))
                  clear hm7 hf7 a0
                  go_wp2_with fail
                  go_roundg (m + 1 - (j + 1))
                  case measure => have := HGJ.out; omega
                  case rel => exact ⟨j + 1, by omega, rfl, by go_num, HM7.out, HN7.out, HF7.out⟩
          · obtain rfl : j = m := by omega
            have t2 : decide ((j : Int) < (j : Int)) = false := by simp
            go_wp2_with fail
            go_end0
            refine ⟨rfl, ?_, HFJ.out⟩
            have := HMJ.out
            rw [EF.out, EM.out] at this
            rw [EM.out]
            simpa [recF, partF, partK, List.append_assoc] using this
end Go.Proofs.YtjddngbgbbbefaaGreatDoor
namespace Go.Proofs.YtjddngbgbbbefaaGreatDoor
open Go.RowKit Go.WideMaps Go.Maps
set_option maxRecDepth 100000

theorem law_intP : Keyed Tryz.prog 3 := int_keyed Tryz.underlying3
theorem key_intP {k : Int} (h : inI k) : keyOf Tryz.prog 3 (.int .i64 k) = some (.int .i64 k) := keyOf_int_mk Tryz.underlying3 (wf_inI h)
theorem lit_intP (k : Int) : WideAt.IsKeyLit (.int .i64 k) := by first | trivial | exact ⟨⟩ | simp [WideAt.IsKeyLit]
theorem intP_ne {k s : Int} (h : k ≠ s) : Lit.int .i64 k ≠ Lit.int .i64 s := fun e => h (by injection e)
/-- Block b is a map of at most n entries; f tells what lies at a key. -/
def MapP (w : World) (b n : Nat) (f : Int → Option Nat) : Prop :=
  ∃ D : DataW Unit, w.ownsMap Tryz.prog 3 (plainElem Tryz.prog 3) b n D ∧ ∀ k, has D (.int .i64 k) = (f k).isSome ∧ D.atKey (.int .i64 k) (.lit (.int .i64 0)) = .lit (.int .i64 ((f k).getD 0 : Nat))
theorem MapP.made (w : World) : MapP (w.alloc (.map #[] 0)) w.heap.size 0 (fun _ => none) := ⟨_, World.ownsMap_made _ _ _ _, fun _ => ⟨rfl, rfl⟩⟩
theorem MapP.fr {X : List Nat} {w w' : World} {b n : Nat} {f : Int → Option Nat} (h : MapP w b n f) (hf : Fr X w w') (hx : b ∉ X) : MapP w' b n f := by
  obtain ⟨D, ⟨es, clock, hb, r⟩, hat⟩ := h
  exact ⟨D, ⟨es, clock, hf.at hb hx, r⟩, hat⟩
theorem MapP.std {B : Nat} {w w' : World} {b n : Nat} {f : Int → Option Nat} (h : MapP w b n f) (g : Std B w w') (hb : b < B) : MapP w' b n f := by
  obtain ⟨D, ⟨es, clock, hx, r⟩, hat⟩ := h
  exact ⟨D, ⟨es, clock, g.same _ _ hx (Or.inl hb), r⟩, hat⟩
theorem MapA.std {B : Nat} {w w' : World} {b n : Nat} {F : List Aud} (h : MapA w b n F) (g : Std B w w') (hb : b < B) : MapA w' b n F := by
  obtain ⟨hi, D, ⟨es, clock, hx, r⟩, hat⟩ := h
  exact ⟨hi, D, ⟨es, clock, g.same _ _ hx (Or.inl hb), r⟩, hat⟩
theorem MapP.lt {w : World} {b n : Nat} {f : Int → Option Nat} (h : MapP w b n f) : b < w.heap.size := by
  obtain ⟨D, hown, _⟩ := h
  exact hown.lt
theorem MapP.ne {w : World} {b n c : Nat} {f : Int → Option Nat} {cs : Array Value} {t : TypeId} {fr : Nat × Nat} (h : MapP w b n f) (hc : w.heap[c]? = some (.cells cs t fr)) : b ≠ c := by
  obtain ⟨D, ⟨es, clock, hb, r⟩, _⟩ := h
  rintro rfl
  rw [hb] at hc
  cases hc
theorem zero_intP (w : World) : (zeroValue 3).run Tryz.prog w = .ok (.int .i64 0) w := by kernel_rfl
theorem MapP.lookOk {w : World} {b n : Nat} {f : Int → Option Nat} (h : MapP w b n f) (k : Int) (hk : inI k) :
    (Instr.lookup 70 (.map (some b)) (.int .i64 k) true).run Tryz.prog w = .ok (.tuple #[.int .i64 ((f k).getD 0 : Nat), .bool (f k).isSome]) w := by
  obtain ⟨D, hown, hat⟩ := h
  obtain ⟨v, ps, hrun, hv⟩ := hown.look_ok law_intP Tryz.underlying70 (zero_intP w) (plainElem_int Tryz.underlying3 (by decide)) (key_intP hk)
  rw [(hat k).2] at hv
  rw [(hat k).1] at hrun
  obtain ⟨c, rfl, hc, _⟩ := plainElem_int_inv Tryz.underlying3 hv
  have : c = ((f k).getD 0 : Nat) := by
    have := congrArg Prod.fst hc
    simp only at this
    injection this with h1
    injection h1 with _ h2
    exact h2.symm
  rw [← this]; exact hrun
def putP (f : Int → Option Nat) (s : Int) (y : Nat) : Int → Option Nat := fun k => if k = s then some y else f k
theorem wpListIn_putP {F : Fence} {nF : Nat} {ops : Array Oper} {rest : List Oper} {o : Oper} {a : Act} {Q : Exit → Act → World → Prop} {w : World} (hg : o.guard = none) (m x v : Operand) (hop : o.op = Op.mapUpdate 70 m x v)
    (b n : Nat) (f : Int → Option Nat) (hm : a.eval m = .map (some b)) (h : MapP w b n f) (hn : n < 1000000) (s : Int) (y : Nat) (hx : a.eval x = .int .i64 s) (hv : a.eval v = .int .i64 (y : Int)) (hy : y < 9223372036854775808) (hs : inI s)
    (hK : ∀ w', MapP w' b (n + 1) (putP f s y) → Fr [b] w w' → wpListIn F nF Tryz.prog ops Q rest (a.put o.dst undef) w') :
    wpListIn F nF Tryz.prog ops Q (o :: rest) a w := by
  obtain ⟨D, hown, hat⟩ := h
  refine wpListIn_mapUpdate_own w hg m x v 70 hop 3 3 law_intP Tryz.underlying70 (plainElem Tryz.prog 3) b n D hm hown (by unfold maxLen; omega) _ _ _ hx hv (key_intP hs) _ [] (plainElem_int Tryz.underlying3 (WalkArith.wf_i64 (by omega))) ?_
  intro w' h' hgrow
  refine hK w' ⟨_, h', fun k => ?_⟩ ((Fr.refl [b] w).grown hgrow (fun r e => Or.inl (by cases e; simp)))
  by_cases hk : k = s
  · subst hk
    show has (D.put _ _) _ = (if k = k then some y else f k).isSome ∧ (D.put _ _).atKey _ _ = .lit (.int .i64 ((if k = k then some y else f k).getD 0 : Nat))
    rw [if_pos rfl, atKey_put_same hown.isMap (lit_intP k), has_put_same hown.isMap (lit_intP k)]
    exact ⟨rfl, rfl⟩
  · show has (D.put _ _) _ = (if k = s then some y else f k).isSome ∧ (D.put _ _).atKey _ _ = .lit (.int .i64 ((if k = s then some y else f k).getD 0 : Nat))
    rw [if_neg hk, atKey_put_other (intP_ne hk), has_put_other (intP_ne hk)]
    exact hat k
/-- The places of the numbers, the first j of them still to come. -/
def plcF (l : List Int) (j : Nat) (n : Int) : Option Nat := (List.range' j (l.length - j)).find? fun i => l.getD i 0 == n
theorem plcF_end (l : List Int) : plcF l l.length = fun _ => none := by
  funext n
  unfold plcF
  rw [Nat.sub_self]
  rfl
theorem plcF_step (l : List Int) (j : Nat) (hj : j < l.length) : plcF l j = putP (plcF l (j + 1)) (l.getD j 0) j := by
  funext n
  unfold plcF putP
  rw [show l.length - j = (l.length - (j + 1)) + 1 by omega, List.range'_succ, List.find?_cons]
  by_cases h : n = l.getD j 0
  · subst h
    simp
  · rw [if_neg h]
    have : (l.getD j 0 == n) = false := by simpa using fun e => h e.symm
    rw [this]
theorem plcF_place (l : List Int) (n : Int) : (match plcF l 0 n with | some k => (k : Int) | none => -1) = placeL l n := by
  unfold plcF
  rw [Nat.sub_zero]
  cases h : (List.range' 0 l.length).find? fun i => l.getD i 0 == n with
  | none =>
    have h1 := List.find?_eq_none.1 h
    simp only
    symm
    refine placeL_none (fun hm => ?_)
    obtain ⟨i, hi, rfl⟩ := List.getElem_of_mem hm
    have := h1 i (by simp; omega)
    rw [List.getD_eq_getElem?_getD, List.getElem?_eq_getElem hi] at this
    simp at this
  | some k =>
    simp only
    obtain ⟨h1, la, lb, h2, h3⟩ := List.find?_eq_some_iff_append.1 h
    have hk : k < l.length := by
      have : k ∈ List.range' 0 l.length := by rw [h2]; simp
      simpa using this
    have has : ∀ j, j < k → j ∈ la := fun j hj => by
      have hr : List.range' 0 l.length = List.range' 0 k ++ List.range' k (l.length - k) := by
        have := List.range'_append_1 (s := 0) (m := k) (n := l.length - k)
        rw [Nat.zero_add] at this
        rw [this]
        congr 1
        omega
      have hn : (List.range' 0 l.length).Nodup := List.nodup_range'
      have hjm : j ∈ List.range' 0 l.length := by simp; omega
      rw [h2] at hjm hr
      have hp : (la ++ k :: lb).Pairwise (· < ·) := by rw [← h2]; exact List.pairwise_lt_range'
      rcases List.mem_append.1 hjm with h | h
      · exact h
      · have := (List.pairwise_append.1 hp).2.1
        rcases List.mem_cons.1 h with e | e
        · omega
        · have := (List.pairwise_cons.1 this).1 j e
          omega
    symm
    refine placeL_some (by rw [List.getElem?_eq_getElem hk]; simp [List.getD_eq_getElem?_getD, List.getElem?_eq_getElem hk] at h1; rw [h1]) (fun j hj e => ?_)
    have := h3 j (has j hj)
    rw [List.getD_eq_getElem?_getD, e] at this
    simp at this

theorem backward_any (a : Option Addr) (n cap : Nat) (w : World) :
    Calls Tryz.prog 45 #[.slice a n cap] w fun e w' => e = .returned (.func (.func 86) #[] #[.pointer (some ⟨w.heap.size, 0, none⟩)]) ∧ w' = w.alloc (.cells #[.slice a n cap] 24) := by
  go_enter Tryz.func45, Tryz.ntmps45
  go_wp2
  go_ret
  exact ⟨rfl, rfl⟩
def encsB (l : List Int) (n : Nat) (k : Fin n) : Array Value := #[.int .i64 (k.val : Int), .int .i64 (l.getD k.val 0)]
/-- What a round keeps: all cells. -/
def KpB (A B : World) : Prop := ∀ (k : Nat) (cs : Array Value) (t : TypeId) (fr : Nat × Nat), A.heap[k]? = some (.cells cs t fr) → B.heap[k]? = some (.cells cs t fr)
theorem KpB.trans {A B C : World} (h : KpB A B) (k : KpB B C) : KpB A C := fun i cs t fr hi => k i cs t fr (h i cs t fr hi)
theorem KpB.cell {A B : World} (h : KpB A B) {a : Addr} {v : Value} (hc : A.cell? a = some v) : B.cell? a = some v := by
  unfold World.cell? at hc ⊢
  cases ho : A.heap[a.block]? with
  | none => rw [ho] at hc; cases hc
  | some o =>
    cases o with
    | cells cs t fr => rw [ho] at hc; rw [h _ _ _ _ ho]; exact hc
    | _ => rw [ho] at hc; simp at hc
/-- The numbers below n, from the back. -/
def downL (n : Nat) : List (Fin n) := (List.finRange n).reverse
theorem downL_length (n : Nat) : (downL n).length = n := by simp [downL]
theorem downL_take (n k : Nat) (hk : k < n) (i : Fin n) (hi : i.val = n - 1 - k) : (downL n).take (k + 1) = (downL n).take k ++ [i] := by
  have hl : k < (downL n).length := by rw [downL_length]; exact hk
  rw [List.take_succ_eq_append_getElem hl]
  congr 2
  apply Fin.ext
  simp [downL, hi]
/-- The places that have come. -/
def plcG (l : List Int) {n : Nat} (pre : List (Fin n)) : Int → Option Nat := pre.foldl (fun f k => putP f (l.getD k.val 0) k.val) (fun _ => none)
theorem plcG_snoc (l : List Int) {n : Nat} (pre : List (Fin n)) (x : Fin n) : plcG l (pre ++ [x]) = putP (plcG l pre) (l.getD x.val 0) x.val := by simp [plcG]
theorem plcG_take (l : List Int) (n : Nat) (hn : l.length = n) : ∀ k, k ≤ n → plcG l ((downL n).take k) = plcF l (n - k)
  | 0, _ => by
    rw [List.take_zero, Nat.sub_zero, ← hn, plcF_end]
    rfl
  | k + 1, h => by
    rw [downL_take n k (by omega) ⟨n - 1 - k, by omega⟩ rfl, plcG_snoc, plcG_take l n hn k (by omega), plcF_step l (n - (k + 1)) (by omega), show n - (k + 1) + 1 = n - k by omega]
    simp only
    rw [show n - 1 - k = n - (k + 1) by omega]
theorem plcG_all (l : List Int) (n : Nat) (hn : l.length = n) : plcG l (downL n) = plcF l 0 := by
  have := plcG_take l n hn n (Nat.le_refl _)
  rwa [List.take_of_length_le (by rw [downL_length]; exact Nat.le_refl _), Nat.sub_self] at this
set_option maxHeartbeats 2000000 in
theorem backward_stops (m bs n : Nat) (a : Option Addr) (cap : Nat) (l : List Int) (w : World) (hm : 1 ≤ m) (hln : l.length = n) (hn : n ≤ 1000000) (hb1 : w.heap[bs]? = some (.cells #[.slice a n cap] 24 (0, 0))) (hl : Zs w (.slice a n cap) l) :
    SeqStopsK Fence.wide m Tryz.prog 86 #[.pointer (some ⟨bs, 0, none⟩)] (encsB l n) KpB (fun xs => xs = downL n) (fun _ => True) n w := fun lp J Jx W hW hJ hJx hY h0 => by
  have hB1 := (Fr.ofBelow (X := []) hW).at hb1 (by simp)
  have hL := hl.fr0 (Fr.ofBelow (X := []) hW)
  obtain ⟨a', c', e', _, _, ha⟩ := hl.form
  rw [hln] at e' ha
  cases e'
  have HC : Hid (∀ i, i < n → ∃ b off, a = some ⟨b, off, none⟩ ∧ W.cell? ⟨b, off + i, none⟩ = some (.int .i64 (l.getD i 0))) := Lib.hid (fun i hi => by
    obtain ⟨b, off, rfl⟩ := ha i hi
    exact ⟨b, off, rfl, hL.cell i (by omega)⟩)
  have HY := Lib.hid hY
  have HJ := Lib.hid hJ
  clear hY hJ hJx hb1 hW hl hL ha hln
  refine callsIn_of_wp Tryz.func86 rfl trivial ?_ rfl
  simp only [Tryz.ntmps86, List.size_toArray, List.length_cons, List.length_nil, Nat.reduceAdd, Nat.reduceSub, Array.replicate_succ, Array.replicate_zero, List.push_toArray, List.append_toArray, List.nil_append, List.cons_append]
  have hcs := cell_of_one hB1
  gi_wp2_with fail
  gi_loopw [3] (fun i wr => ∃ (k : Nat), k ≤ n ∧ i = .int .i64 ((n : Int) - 1 - (k : Int)) ∧ J ((downL n).take k) wr ∧ KpB W wr)
    (fun i _ => (intOf i + 1).toNat)
  case atStart => exact ⟨0, by omega, by simp, h0, fun _ _ _ _ h => h⟩
  case round =>
    obtain ⟨k, hk, rfl, hJk, hKp⟩ := hrel
    have HK := Lib.hid hJk
    have HKP := Lib.hid hKp
    have hcs := hKp.cell (cell_of_one hB1)
    clear hJk hKp
    by_cases hlt : k < n
    · obtain ⟨i, hi⟩ : ∃ i, i = n - 1 - k := ⟨_, rfl⟩
      have hik : (n : Int) - 1 - (k : Int) = (i : Int) := by omega
      have hin : i < n := by omega
      obtain ⟨b, off, rfl, hc⟩ := HC.out i hin
      have hc := HKP.out.cell hc
      obtain ⟨x, ex⟩ : ∃ x, x = l.getD i 0 := ⟨_, rfl⟩
      rw [← ex] at hc
      have HT := Lib.hid (downL_take n k hlt ⟨i, hin⟩ hi)
      rw [hik]
      have g0 : (0 : Int) ≤ (i : Int) := by omega
      have g1 : (i : Int) < (n : Int) := by omega
      have t1 : decide ((0 : Int) ≤ (i : Int)) = true := by simp
      have HIK := Lib.hid hik
      clear hik
      obtain ⟨fn, tmps, asg, bd, hy, hR⟩ := HY.out ((downL n).take k) ⟨i, hin⟩ wr HK.out (by rw [List.length_take, downL_length]; omega)
      unfold encsB at hy
      dsimp only at hy
      rw [← ex] at hy
      clear ex
      have HR := Lib.hid (hR.mono (R' := fun e W' => ∃ b', e = .returned (.bool b') ∧ YPostC J Jx KpB ((downL n).take k) ⟨i, hin⟩ wr b' W') (fun e W' h => by rcases h with ⟨h1, h2, h3⟩ | ⟨h1, h2⟩; exact ⟨true, h1, Or.inl ⟨rfl, h2, h3⟩⟩; exact ⟨false, h1, Or.inr ⟨rfl, h2⟩⟩))
      have HHI := Lib.hid hi
      clear hR hi
      gi_wp2_with fail
      refine HR.out.mono ?_
      rintro e w3 ⟨yb, rfl, hyp⟩
      have HYP := Lib.hid hyp
      clear hyp HR hcs hc hy
      cases yb with
      | true =>
        obtain ⟨_, hJ3, hK3⟩ | ⟨h, _⟩ := HYP.out
        · have HJ3 : Hid (J ((downL n).take (k + 1)) w3) := Lib.hid (by rw [HT.out]; exact hJ3)
          have HK3 := Lib.hid (HKP.out.trans hK3)
          clear hJ3 hK3 HYP
          gi_wp2_with fail
          go_roundw
          case rel => exact ⟨k + 1, by omega, by have := HIK.out; first | (congr 1; omega) | (congr 2; omega), HJ3.out, HK3.out⟩
          case measure => first | (simp [intOf]; done) | (simp [intOf]; omega)
        · cases h
      | false =>
        obtain ⟨h, _⟩ | ⟨_, hx3⟩ := HYP.out
        · cases h
        · have HX3 := Lib.hid hx3
          clear hx3 HYP
          gi_wp2_with fail
          refine bodyPost_ret (results_none rfl _ _ _) rfl ?_
          exact ⟨⟨_, rfl⟩, .inr ⟨_, trivial, HX3.out⟩⟩
    · obtain rfl : k = n := by omega
      have e1 : (k : Int) - 1 - (k : Int) = -1 := by omega
      have HE : Hid (J (downL k) wr) := Lib.hid (by
        have h2 := HK.out
        rwa [List.take_of_length_le (by rw [downL_length]; exact Nat.le_refl _)] at h2)
      rw [e1]
      gi_wp2_with fail
      go_end0
      exact ⟨⟨_, rfl⟩, .inl ⟨_, rfl, HE.out⟩⟩

/-- The closure place. -/
theorem place_any (pp pm n : Nat) (l : List Int) (i : Int) (w : World) (hi : inI i) (hc : w.cell? ⟨pp, 0, none⟩ = some (.map (some pm))) (hm : MapP w pm n (plcF l 0)) :
    Calls Tryz.prog 46 #[.int .i64 i, .pointer (some ⟨pp, 0, none⟩)] w fun e w' => e = .returned (.int .i64 (placeL l i)) ∧ w' = w := by
  have hlook := hm.lookOk i hi
  have HP := Lib.hid (plcF_place l i)
  obtain ⟨o, eo⟩ : ∃ o, o = plcF l 0 i := ⟨_, rfl⟩
  rw [← eo] at hlook HP
  clear eo hm hi
  cases o with
  | none =>
    simp only [Option.getD_none, Option.isSome_none] at hlook
    go_enter Tryz.func46, Tryz.ntmps46
    go_wp2_with fail
    go_ret
    exact ⟨by rw [← HP.out]; rfl, rfl⟩
  | some k =>
    simp only [Option.getD_some, Option.isSome_some] at hlook
    go_enter Tryz.func46, Tryz.ntmps46
    go_wp2_with fail
    go_ret
    exact ⟨by rw [← HP.out]; rfl, rfl⟩
end Go.Proofs.YtjddngbgbbbefaaGreatDoor
namespace Go.Proofs.YtjddngbgbbbefaaGreatDoor
open Go.RowKit
set_option maxRecDepth 100000
attribute [local go_sem] Oper.semAt_some

/-- Findings of the kind moved, the first k. -/
def mvK (W : List Nat) (order : List Int) (k : Nat) : List Aud := (List.range k).flatMap (movedA (W.map Int.ofNat) order)
theorem mvK_succ (W : List Nat) (order : List Int) (k : Nat) (hk : k < W.length) : mvK W order (k + 1) = mvK W order k ++ if k < order.length ∧ order.getD k 0 = ((W.getD k 0 : Nat) : Int) then [] else [⟨5, ((W.getD k 0 : Nat) : Int), placeL order ((W.getD k 0 : Nat) : Int)⟩] := by
  have e : (W.map Int.ofNat).getD k 0 = ((W.getD k 0 : Nat) : Int) := by
    rw [List.getD_eq_getElem?_getD, List.getElem?_map, List.getD_eq_getElem?_getD, List.getElem?_eq_getElem hk]
    rfl
  unfold mvK
  rw [flat_succ]
  unfold movedA
  rw [e]
theorem order_lt (o : List Nat) (seed : List UInt8) {k : Nat} (hk : k < (orderO o seed).length) : (orderO o seed).getD k 0 < o.length := by
  rw [order_length] at hk
  have h := order_at o seed hk
  rw [h.1]
  exact (heads_lt (getD_mem _ _ 0 h.2)).1
/-- Findings of the kind moved, behind the wanted ones. -/
def mvT (order : List Int) (wn j : Nat) : List Aud := (List.range j).map fun i => ⟨5, order.getD (wn + i) 0, ((wn + i : Nat) : Int)⟩
theorem mvT_succ (order : List Int) (wn j : Nat) : mvT order wn (j + 1) = mvT order wn j ++ [⟨5, order.getD (wn + j) 0, ((wn + j : Nat) : Int)⟩] := by
  unfold mvT
  rw [List.range_succ, List.map_append]
  rfl
theorem clsL_bd (l : List Pty) : ∀ z ∈ clsL l, z ≤ l.length := by
  unfold clsL
  split
  · rename_i h
    intro z hz
    have hc := h.choose_spec
    obtain ⟨i, hi, rfl⟩ := List.getElem_of_mem hz
    have h1 := hc.le i (by rw [← hc.len]; exact hi)
    rw [List.getD_eq_getElem?_getD, List.getElem?_eq_getElem hi] at h1
    have h2 := hc.len
    simp only [Option.getD_some] at h1
    omega
  · intro z hz
    cases hz
theorem placeL_bd (l : List Int) (n : Int) (hl : l.length ≤ 100000000) : -1 ≤ placeL l n ∧ placeL l n ≤ 100000000 := by
  rcases placeL_cases l n with ⟨_, h⟩ | ⟨i, hi, _, _, h⟩ <;> rw [h] <;> omega
/-- Records of a moderate size. -/
structure PblS (x : Pbl) : Prop where
  e : EntS x.ents
  en : x.ents.length ≤ 1000
  p : PrtS x.parts
  pn : x.parts.length ≤ 1000
  r : x.root.length ≤ 1000000
  on : x.order.length ≤ 1000
  oi : ∀ k ∈ x.order, inI k
  sn : x.served.length ≤ 1000
  si : ∀ k ∈ x.served, inI k

theorem Ads.std {B : Nat} {w w' : World} {v : Value} {l : List Aud} (h : Ads w v l) (g : Std B w w') : Ads w' v l := by
  rcases h with h | ⟨b, off, cap, hv, h1, h2, h3, h4⟩
  · exact Or.inl h
  · exact Or.inr ⟨b, off, cap, hv, h1, h2, Nat.lt_of_lt_of_le h3 g.size, fun i p hp => ⟨g.cell (h4 i p hp).1, g.cell (h4 i p hp).2.1, g.cell (h4 i p hp).2.2⟩⟩
theorem flat_le {α β : Type} (f : α → List β) (l : List α) (h : ∀ x ∈ l, (f x).length ≤ 1) : (l.flatMap f).length ≤ l.length := by
  induction l with
  | nil => simp
  | cons x l ih =>
    rw [List.flatMap_cons, List.length_append, List.length_cons]
    have h1 := h x (by simp)
    have h2 := ih (fun y hy => h y (List.mem_cons_of_mem _ hy))
    omega
theorem served_len (o s : List Int) : ∀ k, (servedSt o s k).2.length ≤ k
  | 0 => by simp [servedSt]
  | k + 1 => by
    have := served_len o s k
    unfold servedSt
    split
    · simp only; omega
    · simp only [List.length_append, List.length_cons, List.length_nil]; omega
theorem checkF_len (o : List Nat) (p : Pbl) (h : PblS p) (ho : o.length ≤ 1000) : (checkF o p).length ≤ 1000000 := by
  have h1 := h.en
  have h2 := h.pn
  have h3 := h.on
  have h4 := h.sn
  have a1 : (entF p.ents).length ≤ p.ents.length := by
    have := flat_le (fun i => if validB (p.ents.getD i zP) then [] else [(⟨1, (i : Int), -1⟩ : Aud)]) (List.range p.ents.length) (fun x _ => by split <;> simp)
    simpa [entF] using this
  have a2 : (partF p.parts).length ≤ p.parts.length := by
    have := flat_le (fun i => if wrongB p.parts i then [(⟨4, (i : Int), -1⟩ : Aud)] else []) (List.range p.parts.length) (fun x _ => by split <;> simp)
    simpa [partF] using this
  have a3 : (rootF p).length ≤ 1 := by unfold rootF; split <;> simp
  have a4 : (twiceF o p.order).length ≤ p.order.length := flat_le _ _ (fun x _ => by unfold twiceA; split <;> simp)
  have a5 := served_len p.order p.served p.served.length
  have a6 : (mvF o p).length ≤ (wantI o p).length + p.order.length := by
    unfold mvF
    split
    · unfold movedF
      rw [List.length_append, List.length_map, List.length_range]
      have := flat_le (movedA (wantI o p) p.order) (List.range (wantI o p).length) (fun x _ => by unfold movedA; split <;> simp)
      rw [List.length_range] at this
      omega
    · simp
  have a7 : (wantI o p).length ≤ o.length := by
    unfold wantI
    rw [List.length_map, order_length]
    have := headsK_le o o.length
    rwa [headsK_all] at this
  unfold checkF recF
  simp only [List.length_append]
  omega
set_option maxHeartbeats 32000000 in
theorem check20_in (v : Value) (p : Pbl) (w : World) (hv : PblR w v p) (hs : PblS p) (hT : Tabs w) :
    CallsIn Fence.wide 4 Tryz.prog 14 #[v] w fun e w' => ∃ v', e = .returned v' ∧ Ads w' v' (checkS (clsL p.ents) p) ∧ Below w.heap.size w w' := by
  obtain ⟨ev, pv, ov, sv, rfl, h1, h2, h3, h4⟩ := id hv
  obtain ⟨ea, ec, rfl, _, _, hea⟩ := h1.form
  obtain ⟨pa, pc, rfl, _, _, hpa⟩ := h2.form
  obtain ⟨oa, oc, rfl, _, _, hoa⟩ := h3.form
  obtain ⟨sa, sc, rfl, _, _, hsa⟩ := h4.form
  have HV := Lib.hid hv
  have HE := Lib.hid h1
  have HP := Lib.hid h2
  have HO := Lib.hid h3
  have HSV := Lib.hid h4
  have HT := Lib.hid hT
  have HS := Lib.hid hs
  obtain ⟨n, en⟩ : ∃ n, n = p.ents.length := ⟨_, rfl⟩
  obtain ⟨m, em⟩ : ∃ m, m = p.parts.length := ⟨_, rfl⟩
  obtain ⟨on, eon⟩ : ∃ n, n = p.order.length := ⟨_, rfl⟩
  obtain ⟨sn, esn⟩ : ∃ n, n = p.served.length := ⟨_, rfl⟩
  have b1 : n ≤ 1000 := by rw [en]; exact hs.en
  have b2 : m ≤ 1000 := by rw [em]; exact hs.pn
  have b3 : on ≤ 1000 := by rw [eon]; exact hs.on
  have b4 : sn ≤ 1000 := by rw [esn]; exact hs.sn
  rw [← en] at hea HE
  rw [← em] at hpa HP
  rw [← eon] at hoa HO
  rw [← esn] at hsa HSV
  rw [← en, ← em, ← eon, ← esn] at HV ⊢
  have EN := Lib.hid en
  have EM := Lib.hid em
  have EON := Lib.hid eon
  have ESN := Lib.hid esn
  have hmm := @run_makeMap Tryz.prog
  -- the block of the records, the map of findings
  obtain ⟨W1, hW1⟩ : ∃ W1, W1 = (w.alloc (.cells #[.slice ea n ec, .string ⟨p.root.toArray⟩, .slice pa m pc, .slice oa on oc, .slice sa sn sc] 26)).alloc (.map #[] 0) := ⟨_, rfl⟩
  obtain ⟨pb, epb⟩ : ∃ q, q = w.heap.size := ⟨_, rfl⟩
  have hp1 : W1.heap[pb]? = some (.cells #[.slice ea n ec, .string ⟨p.root.toArray⟩, .slice pa m pc, .slice oa on oc, .slice sa sn sc] 26 (0, 0)) := by rw [hW1]; exact heap_past _ (heap_new epb)
  have f1 : Fr [] w W1 := by rw [hW1]; exact ((Fr.refl [] w).alloc _).alloc _
  have HM1 : Hid (MapA W1 (pb + 1) 0 []) := Lib.hid (by
    have := MapA.made (w.alloc (.cells #[.slice ea n ec, .string ⟨p.root.toArray⟩, .slice pa m pc, .slice oa on oc, .slice sa sn sc] 26))
    rw [hW1, epb]
    simpa using this)
  have HP1 := Lib.hid hp1
  have HF1 := Lib.hid f1
  have EPB := Lib.hid epb
  have c0 := row_cell hp1 0
  have c1 := row_cell hp1 1
  have c2 := row_cell hp1 2
  have c3 := row_cell hp1 3
  have c4 := row_cell hp1 4
  simp at c0 c1 c2 c3 c4
  rw [hW1, epb] at c0 c1 c2 c3 c4
  clear hv h1 h2 h3 h4 hT hs en em eon esn hp1 f1
  refine callsIn_of_wp_marks Tryz.func14 rfl trivial ?_ rfl
  simp only [Tryz.ntmps14, List.size_toArray, List.length_cons, List.length_nil, Nat.reduceAdd, Nat.reduceSub, Array.replicate_succ, Array.replicate_zero, List.push_toArray, List.append_toArray, List.nil_append, List.cons_append]
  gi_wp2_with fail
  rw [← hW1, ← epb]
  clear c0 c1 c2 c3 c4 hW1 epb
  refine ⟨trivial, (callsIn_wide.2 (records_any _ p (pb + 1) 0 [] w W1 HV.out HF1.out (by rw [EPB.out]; omega) HM1.out (by decide) HS.out.e (by rw [← EN.out]; omega) HS.out.p (by rw [← EM.out]; omega) HT.out)).mono ?_⟩
  rintro e w2 ⟨rfl, hm2, hf2⟩
  obtain ⟨bf, ebf⟩ : ∃ q, q = pb + 1 := ⟨_, rfl⟩
  rw [← ebf] at hm2 hf2 ⊢
  rw [← EN.out, ← EM.out] at hm2
  have HBF : Hid (pb < bf ∧ w.heap.size ≤ pb) := Lib.hid (by have := EPB.out; omega)
  have HM2 : Hid (MapA w2 bf 2010 (recF p)) := Lib.hid (by simpa using hm2.more (n' := 2010) (by omega))
  have HF2 : Hid (Fr [] w w2) := Lib.hid (HF1.out.trans hf2 (fun y hy => Or.inr (by rw [List.mem_singleton.1 hy]; have := HBF.out; omega)))
  have HP2 := Lib.hid (hf2.at HP1.out (by have := HBF.out; simp; omega))
  clear hm2 hf2 ebf
  -- the map of places and its box
  obtain ⟨W3, hW3⟩ : ∃ W3, W3 = (w2.alloc (.map #[] 0)).alloc (.cells #[.map (some w2.heap.size)] 70) := ⟨_, rfl⟩
  obtain ⟨pm, epm⟩ : ∃ q, q = w2.heap.size := ⟨_, rfl⟩
  have f3 : Fr [] w2 W3 := by rw [hW3]; exact ((Fr.refl [] w2).alloc _).alloc _
  have hm3 : MapP W3 pm 0 (fun _ => none) := by rw [hW3, epm]; exact (MapP.made w2).fr ((Fr.refl [] _).alloc _) (by simp)
  have hq3 : W3.heap[pm + 1]? = some (.cells #[.map (some pm)] 70 (0, 0)) := by rw [hW3, epm]; exact heap_new (by simp)
  have hp3 := f3.at HP2.out (by simp)
  have HPM : Hid (bf < pm ∧ pm + 1 < W3.heap.size) := Lib.hid (by have := HM2.out.lt; have := lt_of_block hq3; omega)
  have HM3 := Lib.hid (HM2.out.fr f3 (by simp))
  have HF3 := Lib.hid (HF2.out.trans f3 (by simp))
  have HP3 := Lib.hid hp3
  have HQ3 := Lib.hid hq3
  have HMP3 := Lib.hid hm3
  have c3 := row_cell hp3 3
  simp at c3
  rw [hW3] at c3
  clear f3 hm3 hq3 hp3
  gi_wp2_with fail
  rw [← hW3, ← epm]
  clear c3 hW3 epm
  refine ⟨trivial, (callsIn_wide.2 (backward_any oa on oc W3)).mono ?_⟩
  rintro e w4 ⟨rfl, hw4⟩
  obtain ⟨bs, ebs⟩ : ∃ q, q = W3.heap.size := ⟨_, rfl⟩
  rw [← ebs]
  have f4 : Fr [] W3 w4 := by rw [hw4]; exact (Fr.refl [] W3).alloc _
  have hb4 : w4.heap[bs]? = some (.cells #[.slice oa on oc] 24 (0, 0)) := by rw [hw4]; exact heap_new ebs
  have HF4 := Lib.hid (HF3.out.trans f4 (by simp))
  have HM4 := Lib.hid (HM3.out.fr f4 (by simp))
  have HMP4 := Lib.hid (HMP3.out.fr f4 (by simp))
  have HP4 := Lib.hid (f4.at HP3.out (by simp))
  have HQ4 := Lib.hid (f4.at HQ3.out (by simp))
  have HBS : Hid (pm + 1 < w4.heap.size) := Lib.hid (by have := HPM.out; have := f4.size; omega)
  have HW4 : Hid (w.heap.size ≤ w4.heap.size) := Lib.hid HF4.out.size
  have HSQ := Lib.hid (backward_stops 3 bs on oa oc p.order w4 (by decide) EON.out.symm (by omega) hb4 (HO.out.fr0 HF4.out))
  clear f4 hb4 hw4 ebs
  gi_wp2_with fail
  refine wpIn_rangeX rfl (by decide) (gf := 86) (lb := #[.pointer (some ⟨bs, 0, none⟩)]) rfl trivial (enters_of Tryz.func86 (by kernel_rfl) rfl)
    HSQ.out (fun h k => h.trans k) (fun A C g k cs t fr hk => g.at hk) (Below.refl _ _) (fun _ => rfl)
    (fun pre V => MapP V pm pre.length (plcG p.order pre) ∧ Fr [pm] w4 V) (fun _ _ _ => False)
    (fun s A C h g => ⟨h.1.std g (by have := HBS.out; omega), h.2.thenStd g (Nat.le_refl _)⟩) (fun c s A C h g => h)
    ⟨HMP4.out, Fr.refl _ _⟩
    (fun x V a' V' => a' = { tmps := #[.agg #[.slice ea n ec, .string ⟨p.root.toArray⟩, .slice pa m pc, .slice oa on oc, .slice sa sn sc], .pointer (some ⟨pb, 0, none⟩), .slice none 0 0, .map (some bf), .pointer (some ⟨pm + 1, 0, none⟩), .int .i64 (x.val : Int), .int .i64 (p.order.getD x.val 0), undef, undef, undef, undef, undef, undef, undef, undef, undef, undef, undef, undef, undef, undef, .map (some bf), .agg #[.slice ea n ec, .string ⟨p.root.toArray⟩, .slice pa m pc, .slice oa on oc, .slice sa sn sc], .map (some bf), .func (.func 44) #[.map (some bf)] #[], .tuple #[], .map (some pm), .pointer (some ⟨pb, 3, none⟩), .slice oa on oc, .func (.func 86) #[] #[.pointer (some ⟨bs, 0, none⟩)], .int .i64 (x.val : Int), .int .i64 (p.order.getD x.val 0), undef, undef, undef, undef, undef, undef, undef, undef, undef, undef, undef, undef, undef, undef, undef, undef, undef, undef, undef, undef, undef, undef, undef, undef, undef, undef, undef, undef, undef, undef, undef, undef, undef, undef, undef, undef, undef, undef, undef, undef, undef, undef, undef, undef, undef, undef, undef, undef, undef, undef, undef, undef, undef, undef, undef, undef, undef, undef, undef, undef, undef, undef, undef, undef, undef, undef, undef, undef, undef, undef, undef, undef, undef, undef, undef, undef, undef, undef, undef, undef, undef, undef, undef, undef, undef, undef, undef, undef, undef, undef, undef, undef, undef, undef, undef, undef, undef, undef, undef, undef, undef, undef, undef, undef, undef, undef, undef, undef, undef, undef, undef, undef, undef, undef, undef, undef, undef, undef, undef, undef, undef, undef, undef, undef, undef, undef, undef], defers := [] } ∧ V' = V)
    (fun x V a' V' h => by rw [h.2]; exact Std.refl _ _) (fun x V a' V' k o h hk => by rw [h.2]; exact hk)
    ?assign ?body ?done ?stop
  case assign =>
    intro l' x V K hK
    have hK2 := hK _ _ ⟨rfl, rfl⟩
    obtain ⟨y, ey⟩ : ∃ y, y = p.order.getD x.val 0 := ⟨_, rfl⟩
    unfold encsB
    dsimp only
    rw [← ey] at hK2 ⊢
    have HK2 := Lib.hid hK2
    clear hK hK2 ey
    gi_wp2_with fail
    exact HK2.out
  case body =>
    rintro l' pre x V0 a' V' V ⟨hm, hf⟩ hlen ⟨rfl, rfl⟩ hst
    have hmV := hm.std hst (by have := HBS.out; omega)
    have hfV : Fr [pm] w4 V := hf.thenStd hst (Nat.le_refl _)
    have hq := hfV.at HQ4.out (by simp)
    obtain ⟨y, ey⟩ : ∃ y, y = p.order.getD x.val 0 := ⟨_, rfl⟩
    have hy : inI y := by
      rw [ey]
      exact HS.out.oi _ (getD_mem p.order x.val 0 (by rw [← EON.out]; exact x.2))
    have HG := Lib.hid (plcG_snoc p.order pre x)
    dsimp only at hst ⊢
    rw [← ey] at HG ⊢
    obtain ⟨xv, hxv⟩ := x
    dsimp only at HG hst ⊢
    have q0 := row_cell hq 0
    simp at q0
    have HMV := Lib.hid hmV
    have HFV := Lib.hid hfV
    have HY := Lib.hid hy
    clear hm hf hmV hfV hq ey hy hst
    gi_wp2_with (gi_at_mapUpdate; go_loud (refine wpListIn_putP rfl (.tmp 32) (.tmp 33) (.tmp 34) rfl pm pre.length (plcG p.order pre) rfl HMV.out (by omega) y xv rfl rfl (by omega) HY.out ?_))
    intro w' hm' hf'
    refine ⟨⟨hf'.size, fun k o hk ho _ => hf'.at ho (by have := HBS.out; simp; omega)⟩, fun k cs t fr hk => hf'.at hk (by simp; exact fun e => HMV.out.ne hk e.symm), ?_, HFV.out.trans hf' (fun z hz => Or.inl hz)⟩
    rw [HG.out]
    simpa using hm'
  case stop =>
    intro D c pre V _ _ hf
    exact hf.elim
  case done =>
  intro D xs V hD hxs hI hK
  subst hxs
  obtain ⟨o, eo⟩ : ∃ o, o = clsL p.ents := ⟨_, rfl⟩
  have EO := Lib.hid eo
  have HCB : Hid (∀ z ∈ o, z ≤ n) := Lib.hid (by
    rw [eo, EN.out]
    exact clsL_bd p.ents)
  have HMP : Hid (MapP V pm on (plcF p.order 0)) := Lib.hid (by have h := hI.1; rwa [plcG_all p.order on EON.out.symm, downL_length] at h)
  have HDB : Hid (bf ≠ D ∧ w.heap.size ≤ D ∧ D < V.heap.size) := Lib.hid (by
    have h1 := HBF.out
    have h2 := HPM.out
    have h3 := HBS.out
    have h4 := HW4.out
    have h5 := (Array.getElem?_eq_some_iff.1 hK).1
    omega)
  have HFP : Hid (∀ y ∈ [pm], w.heap.size ≤ y) := Lib.hid (fun y hy => by rw [List.mem_singleton.1 hy]; have h1 := HBF.out; have h2 := HPM.out; omega)
  have HFV : Hid (Fr [] w V) := Lib.hid (HF4.out.trans hI.2 (fun y hy => Or.inr (HFP.out y hy)))
  have HMV : Hid (MapA V bf 2010 (recF p)) := Lib.hid (HM4.out.fr hI.2 (by have := HPM.out; simp; omega))
  have HPV := Lib.hid (hI.2.at HP4.out (by have h1 := HPM.out; have h2 := HBF.out; simp; omega))
  have HQV := Lib.hid (hI.2.at HQ4.out (by simp))
  have HDV := Lib.hid hK
  have HBB : Hid (pb ∉ [bf] ∧ pm ∉ [bf] ∧ pm + 1 ∉ [bf] ∧ D ∉ [bf]) := Lib.hid (by
    have h1 := HPM.out
    have h2 := HBF.out
    have h3 := HDB.out
    simp
    omega)
  have HFX : Hid (∀ X, Fr [bf] V X → Fr [] w X) := Lib.hid (fun X h => HFV.out.trans h (fun y hy => Or.inr (by rw [List.mem_singleton.1 hy]; have h2 := HBF.out; omega)))
  have hlen := HMV.out.len 3
  obtain ⟨m0, hm0, hz, hm9⟩ := hlen
  have p0 := row_cell HPV.out 0
  have p1 := row_cell HPV.out 1
  have p2 := row_cell HPV.out 2
  have p3 := row_cell HPV.out 3
  have p4 := row_cell HPV.out 4
  simp at p0 p1 p2 p3 p4
  have HZ := Lib.hid hz
  have t40 : decide ((n : Int) ≤ 4000) = true := by simp; omega
  clear hI hK eo hz hD HSQ
  by_cases hrec : recF p = []
  case' pos =>
    have h00 := HZ.out.2 hrec
    subst h00
    have HREC := Lib.hid hrec
    have HMVN : Hid (MapA V bf 2010 []) := Lib.hid (by rw [← hrec]; exact HMV.out)
    clear hrec
    gi_wp2_with fail
    refine ⟨trivial, (callsIn_wide.2 (seed_any _ p.parts p.root V (HP.out.fr HFV.out) HS.out.p HS.out.r (HT.out.fr HFV.out))).mono ?_⟩
    rintro e w5 ⟨rfl, hb⟩
    have f5 := Fr.ofBelow (X := []) hb
    have HF5 := Lib.hid (HFV.out.trans f5 (by simp))
    have HFW5 := Lib.hid (f5.mono (Y := [bf]) (by simp))
    have HM5 := Lib.hid (HMVN.out.fr f5 (by simp))
    have HP5 := Lib.hid (f5.at HPV.out (by simp))
    have hsl := seedS_len p.parts p.root
    have HWI : Hid (wantI o p = (orderO o (seedS p.parts p.root).1).map Int.ofNat) := Lib.hid rfl
    have HDB5 : Hid (V.heap.size ≤ w5.heap.size) := Lib.hid f5.size
    clear p0 p1 p2 p3 p4 hb f5
    obtain ⟨sd, er, esd⟩ : ∃ a b, seedS p.parts p.root = (a, b) := ⟨_, _, rfl⟩
    rw [esd] at HWI hsl ⊢
    simp only at HWI hsl ⊢
    have p0 := row_cell HP5.out 0
    simp at p0
    clear esd
    gi_wp2_with fail
    refine ⟨trivial, (callsIn_wide.2 (aorder_any _ p.ents sd w5 (HE.out.fr HF5.out) (by rw [← EN.out]; omega) HS.out.e (by omega) (HT.out.fr HF5.out))).mono ?_⟩
    rintro e w6 ⟨g, rfl, hg, hag, hb⟩
    have f6 := Fr.ofBelow (X := []) hb
    have HF6 := Lib.hid (HF5.out.trans f6 (by simp))
    have HFW6 := Lib.hid (HFW5.out.trans f6 (by simp))
    have HM6 := Lib.hid (HM5.out.fr f6 (by simp))
    have HGB : Hid (g ∉ [bf]) := Lib.hid (by have := HDB5.out; have := HMV.out.lt; simp; omega)
    rw [← EO.out] at hag ⊢
    obtain ⟨W, eW⟩ : ∃ W, W = orderO o sd := ⟨_, rfl⟩
    rw [← eW] at HWI hag ⊢
    have hwl : W.length ≤ 1000 := by
      have h1 := headsK_le o o.length
      rw [headsK_all] at h1
      have h2 := clsL_len p.ents
      rw [eW, order_length]
      have := EN.out
      rw [← EO.out] at h2
      omega
    obtain ⟨wn, ewn⟩ : ∃ q, q = W.length := ⟨_, rfl⟩
    rw [← ewn] at hwl ⊢
    have EWN := Lib.hid ewn
    have HWLT : Hid (∀ k, k < wn → W.getD k 0 < 1000000) := Lib.hid (fun k hk => by
      rw [ewn, eW] at hk
      have h1 := order_lt o sd hk
      rw [← eW] at h1
      have h2 := clsL_len p.ents
      rw [← EO.out] at h2
      have := EN.out
      omega)
    have HAG := Lib.hid hag
    clear hb f6 hg hag p0 eW ewn hsl
    gi_wp2_with fail
    gi_loopg [59] (wn + 1) (fun gh i wr => ∃ k : Nat, k ≤ wn ∧ gh = wn + 1 - k ∧ i = .int .i64 (k : Int) ∧ MapA wr bf (2010 + k) (mvK W p.order k) ∧ Fr [bf] w6 wr)
    case atStart => exact ⟨0, by omega, by omega, rfl, by simpa [mvK] using HM6.out, Fr.refl _ _⟩
    case' round =>
      obtain ⟨k, hk, hgh, rfl, hma, hfr⟩ := hrel
      have HG := Lib.hid hgh
      have HMK := Lib.hid hma
      have HFK := Lib.hid hfr
      have HFKV := Lib.hid (HFW6.out.trans hfr (fun y hy => Or.inl hy))
      clear hgh hma hfr
      have HW0 : Hid (Fr [] w wr) := Lib.hid (HFX.out wr HFKV.out)
      have p3 := row_cell (HFKV.out.at HPV.out HBB.out.1) 3
      simp at p3
      by_cases hlt : k < wn
      case pos =>
        have t2 : decide ((k : Int) < (wn : Int)) = true := by simp; omega
        obtain ⟨x, ex⟩ : ∃ x, x = W.getD k 0 := ⟨_, rfl⟩
        have cg := (HAG.out.fr HFK.out HGB.out).cell k (by rw [← EWN.out]; exact hlt)
        rw [← ex] at cg
        have HSTEP : Hid (mvK W p.order (k + 1) = mvK W p.order k ++ if k < on ∧ p.order.getD k 0 = (x : Int) then [] else [⟨5, (x : Int), placeL p.order (x : Int)⟩]) := Lib.hid (by rw [ex, EON.out]; exact mvK_succ W p.order k (by rw [← EWN.out]; exact hlt))
        have hxb : x < 1000000 := by rw [ex]; exact HWLT.out k hlt
        have hq := (HMP.out.fr HFKV.out HBB.out.2.1)
        have hqc := row_cell (HFKV.out.at HQV.out HBB.out.2.2.1) 0
        simp at hqc
        have HPL := Lib.hid (place_any (pm + 1) pm on p.order (x : Int) wr (by unfold inI; omega) hqc hq)
        have HPLI : Hid (-1 ≤ placeL p.order (x : Int) ∧ placeL p.order (x : Int) ≤ 100000000) := Lib.hid (placeL_bd p.order (x : Int) (by rw [← EON.out]; omega))
        have i0 : (0 : Int) ≤ (k : Int) := by omega
        have i1 : (k : Int) < (wn : Int) := by omega
        clear hq hqc ex
        by_cases hmv : k < on ∧ p.order.getD k 0 = (x : Int)
        case pos =>
          have t3 : decide ((on : Int) ≤ (k : Int)) = false := by simp; omega
          have t4 : decide (on ≤ k) = false := by simp; omega
          obtain ⟨ob, oo, rfl⟩ := hoa k hmv.1
          have co := (HO.out.fr0 HW0.out).cell k (by rw [← EON.out]; exact hmv.1)
          rw [hmv.2] at co
          have i2 : (k : Int) < (on : Int) := by omega
          have HST2 : Hid (mvK W p.order (k + 1) = mvK W p.order k) := Lib.hid (by rw [HSTEP.out, if_pos hmv, List.append_nil])
          clear hmv
          gi_wp2_with fail
          gi_roundg (wn + 1 - (k + 1))
          case measure => have := HG.out; omega
          case rel => exact ⟨k + 1, by omega, rfl, by go_num, by rw [HST2.out]; exact HMK.out.more (by omega), HFK.out⟩
        case neg =>
          have HST2 : Hid (mvK W p.order (k + 1) = mvK W p.order k ++ [⟨5, (x : Int), placeL p.order (x : Int)⟩]) := Lib.hid (by rw [HSTEP.out, if_neg hmv])
          by_cases hon : k < on
          case' pos =>
            have t3 : decide ((on : Int) ≤ (k : Int)) = false := by simp; omega
            have t4 : decide (on ≤ k) = false := by simp; omega
            obtain ⟨ob, oo, rfl⟩ := hoa k hon
            have co := (HO.out.fr0 HW0.out).cell k (by rw [← EON.out]; exact hon)
            obtain ⟨y, ey⟩ : ∃ y, y = p.order.getD k 0 := ⟨_, rfl⟩
            rw [← ey] at co hmv
            have t5 : (y == (x : Int)) = false := by rw [beq_eq_false_iff_ne]; exact fun e => hmv ⟨hon, e⟩
            have t6 : (y != (x : Int)) = true := by simp [bne, t5]
            have i2 : (k : Int) < (on : Int) := by omega
            clear hmv ey
          case' neg =>
            have t3 : decide ((on : Int) ≤ (k : Int)) = true := by simp; omega
            have t4 : decide (on ≤ k) = true := by simp; omega
            clear hmv
          all_goals
            gi_wp2_with fail
            refine ⟨trivial, (callsIn_wide.2 HPL.out).mono ?_⟩
            rintro e w7 ⟨rfl, rfl⟩
            gi_wp2_with fail
            refine ⟨trivial, (callsIn_wide.2 (find_any bf (2010 + k) (mvK W p.order k) ⟨5, (x : Int), placeL p.order (x : Int)⟩ w7 HMK.out (by omega) (in_A (by decide) (by omega) (by have := HPLI.out; omega)))).mono ?_⟩
            rintro e w8 ⟨rfl, hm8, hf8⟩
            have HM8 := Lib.hid hm8
            have HF8 := Lib.hid (HFK.out.trans hf8 (fun y hy => Or.inl hy))
            clear hm8 hf8
            gi_wp2_with fail
            gi_roundg (wn + 1 - (k + 1))
            case measure => have := HG.out; omega
            case rel => exact ⟨k + 1, by omega, rfl, by go_num, by rw [HST2.out]; exact HM8.out.more (by omega), HF8.out⟩
      case' neg =>
        obtain rfl : k = wn := by omega
        have t2 : decide ((k : Int) < (k : Int)) = false := by simp
        clear p3
        have HMV1 : Hid (MapA wr bf 4010 (mvK W p.order k ++ mvT p.order k 0)) := Lib.hid (by simpa [mvT] using HMK.out.more (n' := 4010) (by omega))
        have HFZ1 := HFK
        clear HMK HFK HFKV HW0
        gi_wp2_with fail
        gi_loopg [13] (on + 1) (fun gh i wr => ∃ j q : Nat, (q ≤ on ∨ j = 0) ∧ q = k + j ∧ gh = on + 1 - j ∧ i = .int .i64 (q : Int) ∧ MapA wr bf (4010 + j) (mvK W p.order k ++ mvT p.order k j) ∧ Fr [bf] w6 wr)
        case atStart => exact ⟨0, k, Or.inr rfl, rfl, by omega, rfl, HMV1.out, HFZ1.out⟩
        case' round =>
          obtain ⟨j, q, hj, hq, hgh, rfl, hma, hfr⟩ := hrel
          have HJ := Lib.hid hj
          have HQ := Lib.hid hq
          have HG := Lib.hid hgh
          have HMK := Lib.hid hma
          have HFK := Lib.hid hfr
          have HFKV := Lib.hid (HFW6.out.trans hfr (fun y hy => Or.inl hy))
          clear hgh hma hfr hj hq
          have HW0 : Hid (Fr [] w wr) := Lib.hid (HFX.out wr HFKV.out)
          have p3 := row_cell (HFKV.out.at HPV.out HBB.out.1) 3
          simp at p3
          by_cases hlt : q < on
          case pos =>
            have t2 : decide ((q : Int) < (on : Int)) = true := by simp; omega
            have t3 : decide (q < on) = true := by simp; omega
            obtain ⟨ob, oo, rfl⟩ := hoa q hlt
            have co := (HO.out.fr0 HW0.out).cell q (by rw [← EON.out]; exact hlt)
            obtain ⟨y, ey⟩ : ∃ y, y = p.order.getD q 0 := ⟨_, rfl⟩
            have hyb : inI y := by rw [ey]; exact HS.out.oi _ (getD_mem p.order q 0 (by rw [← EON.out]; exact hlt))
            rw [← ey] at co
            have HST2 : Hid (mvT p.order k (j + 1) = mvT p.order k j ++ [⟨5, y, (q : Int)⟩]) := Lib.hid (by rw [mvT_succ, ey, HQ.out])
            have HYB := Lib.hid hyb
            have i0 : (0 : Int) ≤ (q : Int) := by omega
            have i2 : (q : Int) < (on : Int) := by omega
            clear ey hyb
            gi_wp2_with fail
            refine ⟨trivial, (callsIn_wide.2 (find_any bf (4010 + j) (mvK W p.order k ++ mvT p.order k j) ⟨5, y, (q : Int)⟩ wr HMK.out (by have := HQ.out; omega) (in_A (by decide) HYB.out (by omega)))).mono ?_⟩
            rintro e w8 ⟨rfl, hm8, hf8⟩
            have HM8 := Lib.hid hm8
            have HF8 := Lib.hid (HFK.out.trans hf8 (fun y hy => Or.inl hy))
            clear hm8 hf8 co p3
            gi_wp2_with fail
            gi_roundg (on + 1 - (j + 1))
            case measure => have := HG.out; have := HQ.out; omega
            case rel => exact ⟨j + 1, q + 1, Or.inl (by omega), by have := HQ.out; omega, rfl, by go_num, by rw [HST2.out, ← List.append_assoc]; exact HM8.out.more (by omega), HF8.out⟩
          case' neg =>
            have t2 : decide ((q : Int) < (on : Int)) = false := by simp; omega
            have t3 : decide (q < on) = false := by simp; omega
            have HMZ : Hid (MapA wr bf 9000 (recF p ++ mvF o p)) := Lib.hid (by
              have h1 := HMK.out.more (n' := 9000) (by have := HQ.out; have := HJ.out; omega)
              have h2 : j = p.order.length - k := by have := HQ.out; have := HJ.out; have := EON.out; omega
              have h3 : mvF o p = mvK W p.order k ++ mvT p.order k j := by
                unfold mvF
                rw [if_pos ⟨HREC.out, by rw [← EN.out]; omega⟩]
                unfold movedF
                rw [HWI.out, List.length_map, ← EWN.out, h2]
                rfl
              rw [h3, HREC.out]
              exact h1)
            have HFZ := HFKV
            have p0 := row_cell (HFZ.out.at HPV.out HBB.out.1) 0
            simp at p0
            clear HMK HFK HFKV HW0 HMV1 HFZ1 HAG HWLT
            gi_wp2_with fail
            clear p0 p3
            obtain ⟨wz, rfl⟩ : ∃ wz : World, wz = wr := ⟨_, rfl⟩
  case' neg =>
    have h00 : m0 ≠ 0 := fun e => hrec (HZ.out.1 e)
    have t0 : ((m0 : Int) == 0) = false := by rw [beq_eq_false_iff_ne]; omega
    have HMZ : Hid (MapA V bf 9000 (recF p ++ mvF o p)) := Lib.hid (by
      have h3 : mvF o p = [] := by
        unfold mvF
        rw [if_neg (fun h => hrec h.1)]
      rw [h3, List.append_nil]
      exact HMV.out.more (by omega))
    have HFZ : Hid (Fr [bf] V V) := Lib.hid (Fr.refl _ _)
    clear hrec h00
    gi_wp2_with fail
    obtain ⟨wz, ewz⟩ : ∃ wz : World, wz = V := ⟨_, rfl⟩
    rw [← ewz]
    have HMZ : Hid (MapA wz bf 9000 (recF p ++ mvF o p)) := Lib.hid (by rw [ewz]; exact HMZ.out)
    have HFZ : Hid (Fr [bf] V wz) := Lib.hid (by rw [ewz]; exact HFZ.out)
    clear ewz p0 p1 p2 p3 p4
  all_goals
    clear HMV HM4 HM3 HM2 HM1 HMP4 HMP3 HP4 HP3 HP2 HP1 HQ4 HQ3
    have HWZ : Hid (Fr [] w wz) := Lib.hid (HFX.out wz HFZ.out)
    refine ⟨trivial, (callsIn_wide.2 (classes_any _ p.ents wz (HE.out.fr HWZ.out) (by rw [← EN.out]; omega) (fun q hq => ⟨(HS.out.e q hq).1, (HS.out.e q hq).2.1⟩))).mono ?_⟩
    rintro e w10 ⟨g0, o', rfl, hg0, ha0, hcl, hb⟩
    obtain rfl : o' = o := by rw [EO.out]; exact (clsL_eq hcl).symm
    have f10 := Fr.ofBelow (X := []) hb
    have HF10 := Lib.hid (HFZ.out.trans f10 (by simp))
    have HM10 := Lib.hid (HMZ.out.fr f10 (by simp))
    have HA10 := Lib.hid ha0
    have HOL : Hid (o'.length = n) := Lib.hid (by rw [hcl.len, EN.out])
    have HGB0 : Hid (g0 ∉ [bf]) := Lib.hid (by have := HMZ.out.lt; simp; omega)
    rw [← EN.out]
    have p3 := row_cell (HF10.out.at HPV.out HBB.out.1) 3
    simp at p3
    clear hg0 ha0 hcl hb f10
    gi_wp2_with fail
    gi_loopg [108] (on + 1) (fun gh i wr => ∃ k : Nat, k ≤ on ∧ gh = on + 1 - k ∧ i = .int .i64 (k : Int) ∧ MapA wr bf (9000 + k) (recF p ++ mvF o' p ++ (p.order.take k).flatMap (twiceA o')) ∧ Fr [bf] w10 wr)
    case atStart => exact ⟨0, by omega, by omega, rfl, by simpa using HM10.out, Fr.refl _ _⟩
    case' round =>
      obtain ⟨k, hk, hgh, rfl, hma, hfr⟩ := hrel
      have HG := Lib.hid hgh
      have HMK := Lib.hid hma
      have HFK := Lib.hid hfr
      have HFKV := Lib.hid (HF10.out.trans hfr (fun y hy => Or.inl hy))
      clear hgh hma hfr p3
      have HW0 : Hid (Fr [] w wr) := Lib.hid (HFX.out wr HFKV.out)
      by_cases hlt : k < on
      case pos =>
        have t2 : decide ((k : Int) < (on : Int)) = true := by simp; omega
        obtain ⟨ob, oo, rfl⟩ := hoa k hlt
        have co := (HO.out.fr0 HW0.out).cell k (by rw [← EON.out]; exact hlt)
        obtain ⟨y, ey⟩ : ∃ y, y = p.order.getD k 0 := ⟨_, rfl⟩
        have hyb : inI y := by rw [ey]; exact HS.out.oi _ (getD_mem p.order k 0 (by rw [← EON.out]; exact hlt))
        rw [← ey] at co
        have HSTEP : Hid ((p.order.take (k + 1)).flatMap (twiceA o') = (p.order.take k).flatMap (twiceA o') ++ twiceA o' y) := Lib.hid (by
          rw [take_snoc' p.order k 0 (by rw [← EON.out]; exact hlt), List.flatMap_append, ← ey]
          simp)
        have i0 : (0 : Int) ≤ (k : Int) := by omega
        have i1 : (k : Int) < (on : Int) := by omega
        have HYB := Lib.hid hyb
        clear ey hyb
        by_cases hy0 : 0 ≤ y
        case neg =>
          have t3 : decide ((0 : Int) ≤ y) = false := by simp; omega
          have HST2 : Hid (twiceA o' y = []) := Lib.hid (by unfold twiceA; rw [if_neg (fun h => hy0 h.1)])
          clear hy0
          gi_wp2_with fail
          gi_roundg (on + 1 - (k + 1))
          case measure => have := HG.out; omega
          case rel => exact ⟨k + 1, by omega, rfl, by go_num, by rw [HSTEP.out, HST2.out, List.append_nil]; exact HMK.out.more (by omega), HFK.out⟩
        case pos =>
          obtain ⟨q, rfl⟩ : ∃ q : Nat, y = (q : Int) := ⟨y.toNat, by omega⟩
          have t3 : decide ((0 : Int) ≤ (q : Int)) = true := by simp
          by_cases hqn : q < n
          case neg =>
            have t4 : decide ((q : Int) < (n : Int)) = false := by simp; omega
            have t5 : decide (q < n) = false := by simp; omega
            have HST2 : Hid (twiceA o' (q : Int) = []) := Lib.hid (by unfold twiceA; rw [if_neg (fun h => hqn (by have := h.2.1; rw [HOL.out] at this; omega))])
            clear hy0
            gi_wp2_with fail
            gi_roundg (on + 1 - (k + 1))
            case measure => have := HG.out; omega
            case rel => exact ⟨k + 1, by omega, rfl, by go_num, by rw [HSTEP.out, HST2.out, List.append_nil]; exact HMK.out.more (by omega), HFK.out⟩
          case pos =>
            have t4 : decide ((q : Int) < (n : Int)) = true := by simp; omega
            have t5 : decide (q < n) = true := by simp; omega
            have cq := (HA10.out.fr HFK.out HGB0.out).cell q (by rw [HOL.out]; exact hqn)
            obtain ⟨z, ez⟩ : ∃ z, z = o'.getD q 0 := ⟨_, rfl⟩
            rw [← ez] at cq
            have hz9 : z ≤ n := by
              have h2 := clsL_len p.ents
              have h3 := EN.out
              rcases Nat.lt_or_ge q o'.length with h | h
              · have h4 := EO.out
                have h5 : z ∈ o' := by rw [ez]; exact getD_mem o' q 0 h
                exact HCB.out z h5
              · have := HOL.out; omega
            have i2 : (q : Int) < (n : Int) := by omega
            have i3 : (0 : Int) ≤ (q : Int) := by omega
            by_cases hzq : z = q
            case pos =>
              have t6 : ((z : Int) != (q : Int)) = false := by simp [hzq]
              have t7 : ((z : Int) == (q : Int)) = true := by simp [hzq]
              have HST2 : Hid (twiceA o' (q : Int) = []) := Lib.hid (by unfold twiceA; rw [if_neg (fun h => h.2.2 (by rw [Int.toNat_natCast, ← ez, hzq]))])
              clear hy0 hzq ez
              gi_wp2_with fail
              gi_roundg (on + 1 - (k + 1))
              case measure => have := HG.out; omega
              case rel => exact ⟨k + 1, by omega, rfl, by go_num, by rw [HSTEP.out, HST2.out, List.append_nil]; exact HMK.out.more (by omega), HFK.out⟩
            case neg =>
              have t7 : ((z : Int) == (q : Int)) = false := by rw [beq_eq_false_iff_ne]; omega
              have t6 : ((z : Int) != (q : Int)) = true := by simp [bne, t7]
              have HST2 : Hid (twiceA o' (q : Int) = [⟨2, (z : Int), (q : Int)⟩]) := Lib.hid (by
                unfold twiceA
                rw [if_pos ⟨hy0, by rw [HOL.out]; omega, by rw [Int.toNat_natCast, ← ez]; omega⟩, Int.toNat_natCast, ← ez])
              clear hy0 hzq ez
              gi_wp2_with fail
              refine ⟨trivial, (callsIn_wide.2 (find_any bf (9000 + k) (recF p ++ mvF o' p ++ (p.order.take k).flatMap (twiceA o')) ⟨2, (z : Int), (q : Int)⟩ wr HMK.out (by omega) (in_A (by decide) (by omega) (by omega)))).mono ?_⟩
              rintro e w11 ⟨rfl, hm8, hf8⟩
              have HM8 := Lib.hid hm8
              have HF8 := Lib.hid (HFK.out.trans hf8 (fun y hy => Or.inl hy))
              clear hm8 hf8 co cq
              gi_wp2_with fail
              gi_roundg (on + 1 - (k + 1))
              case measure => have := HG.out; omega
              case rel => exact ⟨k + 1, by omega, rfl, by go_num, by rw [HSTEP.out, HST2.out, ← List.append_assoc]; exact HM8.out.more (by omega), HF8.out⟩
      case' neg =>
        obtain rfl : k = on := by omega
        have t2 : decide ((k : Int) < (k : Int)) = false := by simp
        have HMT : Hid (MapA wr bf 12000 (recF p ++ mvF o' p ++ twiceF o' p.order)) := Lib.hid (by
          have := HMK.out
          rw [EON.out, List.take_length] at this
          exact this.more (by have := EON.out; omega))
        have p4 := row_cell (HFKV.out.at HPV.out HBB.out.1) 4
        simp at p4
        have HFT := HFKV
        clear HMK HFK HFKV HW0
        gi_wp2_with fail
        clear p4
        obtain ⟨wt, rfl⟩ : ∃ wt : World, wt = wr := ⟨_, rfl⟩
        gi_loopg [17, 139] (sn + 1) (fun gh la i wr => ∃ (k : Nat) (ls : Int), k ≤ sn ∧ gh = sn + 1 - k ∧ i = .int .i64 (k : Int) ∧ la = .int .i64 ls ∧ ls = (servedSt p.order p.served k).1 ∧ MapA wr bf (12000 + k) (recF p ++ mvF o' p ++ twiceF o' p.order ++ (servedSt p.order p.served k).2) ∧ Fr [bf] wt wr)
        case atStart => exact ⟨0, -1, by omega, by omega, rfl, rfl, rfl, by simpa [servedSt] using HMT.out, Fr.refl _ _⟩
        case round =>
          obtain ⟨k4, ls, hk4, hgh, rfl, rfl, hls, hma, hfr⟩ := hrel
          have HLS := Lib.hid hls
          have HG := Lib.hid hgh
          have HMK := Lib.hid hma
          have HFKV := Lib.hid (HFT.out.trans hfr (fun y hy => Or.inl hy))
          have HFK := Lib.hid hfr
          clear hgh hma hfr hls
          have HW0 : Hid (Fr [] w wr) := Lib.hid (HFX.out wr HFKV.out)
          by_cases hlt : k4 < sn
          case pos =>
            have t2 : decide ((k4 : Int) < (sn : Int)) = true := by simp; omega
            obtain ⟨sb, so, rfl⟩ := hsa k4 hlt
            have co := (HSV.out.fr0 HW0.out).cell k4 (by rw [← ESN.out]; exact hlt)
            obtain ⟨y, ey⟩ : ∃ y, y = p.served.getD k4 0 := ⟨_, rfl⟩
            have hyb : inI y := by rw [ey]; exact HS.out.si _ (getD_mem p.served k4 0 (by rw [← ESN.out]; exact hlt))
            rw [← ey] at co
            have hq := (HMP.out.fr HFKV.out HBB.out.2.1)
            have hqc := row_cell (HFKV.out.at HQV.out HBB.out.2.2.1) 0
            simp at hqc
            have HPL := Lib.hid (place_any (pm + 1) pm k p.order y wr hyb hqc hq)
            obtain ⟨pl, epl⟩ : ∃ q, q = placeL p.order y := ⟨_, rfl⟩
            rw [← epl] at HPL
            have hst : servedSt p.order p.served (k4 + 1) = if ls < pl then (pl, (servedSt p.order p.served k4).2) else (ls, (servedSt p.order p.served k4).2 ++ [⟨6, y, (k4 : Int)⟩]) := by
              rw [servedSt, ← ey, ← epl, ← HLS.out]
            have HST := Lib.hid hst
            have HYB := Lib.hid hyb
            have i0 : (0 : Int) ≤ (k4 : Int) := by omega
            have i1 : (k4 : Int) < (sn : Int) := by omega
            clear ey hyb hq hqc epl hst
            by_cases hpl : ls < pl
            case pos =>
              have t3 : decide (ls < pl) = true := by simpa using hpl
              have HST2 : Hid (servedSt p.order p.served (k4 + 1) = (pl, (servedSt p.order p.served k4).2)) := Lib.hid (by rw [HST.out, if_pos hpl])
              clear hpl
              gi_wp2_with fail
              refine ⟨trivial, (callsIn_wide.2 HPL.out).mono ?_⟩
              rintro e w7 ⟨rfl, rfl⟩
              gi_wp2_with fail
              gi_roundg (sn + 1 - (k4 + 1))
              case measure => have := HG.out; omega
              case rel => exact ⟨k4 + 1, pl, by omega, rfl, by go_num, rfl, by rw [HST2.out], by rw [HST2.out]; exact HMK.out.more (by omega), HFK.out⟩
            case neg =>
              have t3 : decide (ls < pl) = false := by simpa using hpl
              have HST2 : Hid (servedSt p.order p.served (k4 + 1) = (ls, (servedSt p.order p.served k4).2 ++ [⟨6, y, (k4 : Int)⟩])) := Lib.hid (by rw [HST.out, if_neg hpl])
              clear hpl
              gi_wp2_with fail
              refine ⟨trivial, (callsIn_wide.2 HPL.out).mono ?_⟩
              rintro e w7 ⟨rfl, rfl⟩
              gi_wp2_with fail
              refine ⟨trivial, (callsIn_wide.2 (find_any bf (12000 + k4) (recF p ++ mvF o' p ++ twiceF o' p.order ++ (servedSt p.order p.served k4).2) ⟨6, y, (k4 : Int)⟩ w7 HMK.out (by omega) (in_A (by decide) HYB.out (by omega)))).mono ?_⟩
              rintro e w11 ⟨rfl, hm8, hf8⟩
              have HM8 := Lib.hid hm8
              have HF8 := Lib.hid (HFK.out.trans hf8 (fun y hy => Or.inl hy))
              clear hm8 hf8 co
              gi_wp2_with fail
              gi_roundg (sn + 1 - (k4 + 1))
              case measure => have := HG.out; omega
              case rel => exact ⟨k4 + 1, ls, by omega, rfl, by go_num, rfl, by rw [HST2.out], by rw [HST2.out, ← List.append_assoc]; exact HM8.out.more (by omega), HF8.out⟩
          case neg =>
            obtain rfl : k4 = sn := by omega
            have t2 : decide ((k4 : Int) < (k4 : Int)) = false := by simp
            have HMC : Hid (MapA wr bf 14000 (checkF o' p)) := Lib.hid (by
              have := HMK.out.more (n' := 14000) (by omega)
              rw [ESN.out] at this
              exact this)
            have HDW := Lib.hid (HFKV.out.at HDV.out HBB.out.2.2.2)
            have HWW := HW0
            clear HMK HFK HFKV HW0
            gi_wp2_with fail
            refine ⟨trivial, (callsIn_wide.2 (keysF_any (some bf) wr)).mono ?_⟩
            rintro e w12 ⟨rfl, hw12⟩
            obtain ⟨kb, ekb⟩ : ∃ q, q = wr.heap.size := ⟨_, rfl⟩
            rw [← ekb]
            have f12 : Fr [] wr w12 := by rw [hw12]; exact (Fr.refl [] wr).alloc _
            have hkb : w12.heap[kb]? = some (.cells #[.map (some bf)] 67 (0, 0)) := by rw [hw12]; exact heap_new ekb
            have HM12 := Lib.hid (HMC.out.fr f12 (by simp))
            have HW12 := Lib.hid (HWW.out.trans f12 (by simp))
            have HD12 := Lib.hid (f12.at HDW.out (by simp))
            have HSRT := Lib.hid (sortedA_any kb bf 14000 (checkF o' p) w12 (lt_of_block hkb) (by rw [row_cell hkb]; rfl) HM12.out (by decide) (checkF_len o' p HS.out (by rw [HOL.out]; exact b1)))
            clear f12 hkb hw12 ekb
            gi_wp2_with fail
            refine ⟨trivial, (callsIn_wide.2 HSRT.out).mono ?_⟩
            rintro e w13 ⟨rv, rfl, hrv, hf13⟩
            obtain ⟨ra, rc, rfl, _, _, _⟩ := hrv.form
            have HRV := Lib.hid hrv
            have HF13 := Lib.hid (HW12.out.trans hf13 (by simp))
            have HD13 := Lib.hid (hf13.at HD12.out (by simp))
            have HRL : Hid (checkS (clsL p.ents) p = sortA (checkF o' p)) := Lib.hid (by rw [← EO.out]; rfl)
            obtain ⟨rn, ern⟩ : ∃ q, q = (sortA (checkF o' p)).length := ⟨_, rfl⟩
            rw [← ern] at HRV ⊢
            clear hrv hf13 ern
            gi_wp2_with fail
            refine leaves_marks (B := w.heap.size) [D] _ ⟨by simp, fun D' hD' => ?_⟩ (fun w' hst => ?_)
            · rw [List.mem_singleton.1 hD']
              exact ⟨HDB.out.2.1, HD13.out⟩
            refine ⟨.slice ra rn rc, ?_, .slice ra rn rc, rfl, by rw [HRL.out]; exact HRV.out.std hst, (HF13.out.thenStd hst (Nat.le_refl _)).toBelow (by simp)⟩
            simp only [results]
            go_simp
theorem check20_any (v : Value) (p : Pbl) (w : World) (hv : PblR w v p) (hs : PblS p) (hT : Tabs w) :
    Calls Tryz.prog 14 #[v] w fun e w' => ∃ v', e = .returned v' ∧ Ads w' v' (checkS (clsL p.ents) p) ∧ Below w.heap.size w w' := callsIn_wide.1 (check20_in v p w hv hs hT)
end Go.Proofs.YtjddngbgbbbefaaGreatDoor
