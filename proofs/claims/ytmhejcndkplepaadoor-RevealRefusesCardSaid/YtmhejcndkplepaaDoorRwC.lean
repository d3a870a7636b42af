/-
  foyerlaw31: RevealRefuses.
-/
import Derived.Test.YtmhejcndkplepaaDoorRwB
import Derived.Deep.DeepCutAuto
namespace Go.Proofs.YtmhejcndkplepaaDoor
open Go.RowKit

set_option maxRecDepth 100000 in
set_option maxHeartbeats 64000000 in
theorem revealRefuses_any (v : Value) (fields : List (List UInt8)) (s : List UInt8) (bv : Value) (bl : List Bool) (more : List UInt8) (w : World) (hs9 : s.length ≤ 140737488355328) (hm9 : more.length ≤ 140737488355328) (hT : Tabs w) (hv : Strs w v fields) (hb : Bools w bv bl) :
    Calls Tryd.prog 8 #[v, .string ⟨s.toArray⟩, bv, .string ⟨more.toArray⟩] w fun e w' => e = .returned (.bool true) ∧ Below w.heap.size w w' := by
  have hmx : Tryd.prog.follows .mixedOrders = true := by kernel_rfl
  have HT := Lib.hid hT
  have HV := Lib.hid hv
  have HB := Lib.hid hb
  obtain ⟨fa, fcap, rfl, hfl, hfa⟩ := hv.form
  clear hT hv hb
  go_enter Tryd.func8, Tryd.ntmps8
  go_wp2_with fail
  refine (head31_any w HT.out).mono ?_
  rintro e w1 ⟨rfl, hb1⟩
  have hf1 : Fr [] w w1 := (Fr.refl [] w).below hb1 (Nat.le_refl _)
  clear hb1
  go_wp2_with fail
  refine (short_any _ fields 30 w1 (HV.out.fr0 hf1)).mono ?_
  rintro e w2 ⟨rfl, hb2⟩
  have hf2 : Fr [] w w2 := hf1.below hb2 hf1.size
  clear hb2 hf1
  cases hsh : shortB fields 30 with
  | false => go_wp2_with fail; go_ret; exact ⟨rfl, hf2.toBelow (by simp)⟩
  | true => ?_
  have HSH := Lib.hid (shortB_all hsh)
  clear hsh
  by_cases h0 : fields.length = 0
  · have t0 : ((fields.length : Int) == 0) = true := by rw [beq_iff_eq]; omega
    have t0' : (fields.length == 0) = true := by rw [beq_iff_eq]; omega
    go_wp2_with fail
    go_ret
    exact ⟨rfl, hf2.toBelow (by simp)⟩
  have t0 : ((fields.length : Int) == 0) = false := by rw [beq_eq_false_iff_ne]; omega
  have t0' : (fields.length == 0) = false := by rw [beq_eq_false_iff_ne]; omega
  have x1 : IntKind.i64.wrap ((s.length : Int) + (more.length : Int)) = (s.length : Int) + (more.length : Int) := IntWalk.i64_in _ (by omega)
  by_cases h1 : 300 < s.length + more.length
  · have t1 : decide ((300 : Int) < (s.length : Int) + (more.length : Int)) = true := by simp; omega
    go_wp2_with fail
    go_ret
    exact ⟨rfl, hf2.toBelow (by simp)⟩
  have t1 : decide ((300 : Int) < (s.length : Int) + (more.length : Int)) = false := by simp; omega
  go_wp2_with fail
  refine (chosen_any fields.length bv bl w2 (HB.out.fr hf2) (by have := HSH.out.2; omega)).mono ?_
  rintro e w3 ⟨lv, rfl, hz3, hb3⟩
  have hf3 : Fr [] w w3 := hf2.below hb3 hf2.size
  have HINC := Lib.hid (inc_chosen bl (show 0 < fields.length by omega))
  obtain ⟨L, eL⟩ : ∃ L, L = chosenL fields.length bl := ⟨_, rfl⟩
  rw [← eL] at hz3 HINC
  have HZ := Lib.hid hz3
  obtain ⟨la, lcap, rfl, hlc, hlcap, hla⟩ := hz3.form
  clear hb3 hf2 eL hz3 t0 t0' t1 x1
  go_wp2_with fail
  refine (seal_any _ fields s w3 (HV.out.fr0 hf3) (by have := HSH.out.2; omega) (by omega) (fun f hf => by have := HSH.out.1 f hf; omega) (HT.out.fr hf3)).mono ?_
  rintro e w3b ⟨rfl, hb3b⟩
  obtain ⟨root, er⟩ : ∃ r, r = sealS fields s := ⟨_, rfl⟩
  rw [← er]
  have ER := Lib.hid er
  have hf3b : Fr [] w w3b := hf3.below hb3b hf3.size
  have HZb := Lib.hid (HZ.out.fr0 (Fr.ofBelow (X := []) hb3b))
  clear er hb3b hf3 HZ
  go_wp2_with fail
  refine (show_any _ _ fields s L w3b (HV.out.fr0 hf3b) HZb.out (by have := HSH.out.2; omega) (by omega) (fun f hf => by have := HSH.out.1 f hf; omega) (HT.out.fr hf3b)).mono ?_
  rintro e w4 ⟨dv, rfl, hd, hb4⟩
  have hf4 : Fr [] w w4 := hf3b.below hb4 hf3b.size
  have hz4 := HZb.out.fr0 (Fr.ofBelow (X := []) hb4)
  have HZ4 := Lib.hid hz4
  rw [show_ok HINC.out] at hd
  rw [showE_ok HINC.out]
  obtain ⟨dw, df, dp, rfl, hdw, hdf, hdp⟩ := hd
  obtain ⟨dwa, dwc, rfl, hdwl, hdwcap, hdwa⟩ : ∃ a c, dw = .slice a L.length c ∧ L.length ≤ c ∧ c ≤ 9223372036854775807 ∧ (∀ i, i < L.length → ∃ b off, a = some ⟨b, off, none⟩) := hdw.form
  obtain ⟨dfa, dfc, rfl, hdfl, hdfa⟩ : ∃ a c, df = .slice a L.length c ∧ L.length ≤ 9223372036854775807 ∧ (∀ i, i < L.length → ∃ b off, a = some ⟨b, off, none⟩) := by
    obtain ⟨a, c, h1, h2, h3⟩ := hdf.form
    simp only [List.length_map] at h1 h2 h3
    exact ⟨a, c, h1, h2, h3⟩
  obtain ⟨dpa, dpc, rfl, hdplc, hdpcap, hdpa⟩ : ∃ a c, dp = .slice a L.length c ∧ L.length ≤ c ∧ c ≤ 9223372036854775807 ∧ (∀ i, i < L.length → ∃ b off, a = some ⟨b, off, none⟩) := by
    obtain ⟨a, c, h1, h2, h3, h4⟩ := hdp.form
    simp only [List.length_map] at h1 h2 h4
    exact ⟨a, c, h1, h2, h3, h4⟩
  have HDW := Lib.hid hdw
  have HDF := Lib.hid hdf
  have HDP := Lib.hid hdp
  have t2 : ((L.length : Int) != (L.length : Int)) = false := by simp
  have t3 : ((fields.length : Int) != (fields.length : Int)) = false := by simp
  have HLB : Hid (L.length ≤ 30) := Lib.hid (by have := incB_len HINC.out; have := HSH.out.2; omega)
  have hl0 : 0 < L.length := by
    rcases Nat.eq_zero_or_pos L.length with h | h
    · exact absurd (List.length_eq_zero_iff.1 h) (inc_ne HINC.out)
    · exact h
  obtain ⟨dwb, dwo, rfl⟩ := hdwa 0 hl0
  obtain ⟨dfb, dfo, rfl⟩ := hdfa 0 hl0
  obtain ⟨dpb, dpo, rfl⟩ := hdpa 0 hl0
  obtain ⟨lb, lo, rfl⟩ := hla 0 hl0
  have hfn := (rfl : (L.map (fun i => fields.getD i.toNat [])).length = (L.map (fun i => fields.getD i.toNat [])).length)
  obtain ⟨F, eF⟩ : ∃ F, F = L.map (fun i => fields.getD i.toNat []) := ⟨_, rfl⟩
  obtain ⟨PP, ePP⟩ : ∃ PP, PP = L.map (pathF fields s) := ⟨_, rfl⟩
  rw [← eF] at HDF
  rw [← ePP] at HDP
  have hFl : F.length = L.length := by rw [eF, List.length_map]
  have hPl : PP.length = L.length := by rw [ePP, List.length_map]
  have EF := Lib.hid eF
  have EPP := Lib.hid ePP
  obtain ⟨us, hul, huc, hus, hur⟩ := HDP.out.vals
  rw [hPl] at hul huc hur
  have HUC := Lib.hid huc
  have HUR := Lib.hid hur
  have HUL := Lib.hid hul
  have HUS := Lib.hid hus
  have hcap0 : 0 < dpc := by omega
  obtain ⟨p0a, p0n, p0c, hu0⟩ := hus _ (getD_mem us 0 (.slice none 0 0) (by omega))
  have hu0' := hur 0 hl0
  rw [hu0] at hu0'
  obtain ⟨q0, eq0⟩ : ∃ q, q = PP.getD 0 [] := ⟨_, rfl⟩
  rw [← eq0] at hu0'
  have hq0 : q0 = saltS s (L.getD 0 0).toNat :: pathL ((elemsL fields s).map leafD) (L.getD 0 0).toNat := by
    rw [eq0, ePP, map_getD' (pathF fields s) L 0 0 [] hl0]; rfl
  have EQ0 := Lib.hid eq0
  have HQ0 := Lib.hid hq0
  obtain ⟨p0b, p0o, p0cap, hp0v, hp0l⟩ : ∃ b o c, (Value.slice p0a p0n p0c) = .slice (some ⟨b, o, none⟩) q0.length c ∧ q0.length ≤ c := by
    rcases hu0' with ⟨_, h⟩ | ⟨b, off, cap, h1, h2, _, _, _⟩
    · rw [hq0] at h; cases h
    · exact ⟨b, off, cap, h1, h2⟩
  cases hp0v
  have hqn : 0 < q0.length := by rw [hq0]; simp
  have HU0 := Lib.hid hu0'
  obtain ⟨qn, eqn⟩ : ∃ n, n = q0.length := ⟨_, rfl⟩
  rw [← eqn] at hu0 HU0 hp0l hqn
  have EQN := Lib.hid eqn
  have HUV := Lib.hid hu0
  obtain ⟨ln, eln⟩ : ∃ n, n = L.length := ⟨_, rfl⟩
  have ELN := Lib.hid eln
  have cl0 := HZ4.out.cell 0 hl0
  have cf0 := HDF.out.cellN hFl 0 hl0
  have cp0 := huc 0 hl0
  rw [hu0] at cp0
  rw [Nat.add_zero] at cl0 cf0 cp0
  obtain ⟨z0, ez0⟩ : ∃ z, z = L.getD 0 0 := ⟨_, rfl⟩
  obtain ⟨y0, ey0⟩ : ∃ y, y = F.getD 0 [] := ⟨_, rfl⟩
  rw [← ez0] at cl0
  rw [← ey0] at cf0
  have EZ0 := Lib.hid ez0
  have EY0 := Lib.hid ey0
  have cx0 := HU0.out.cellN EQN.out.symm 0 hqn
  rw [Nat.add_zero] at cx0
  obtain ⟨x0, ex0⟩ : ∃ x, x = saltS s z0.toNat := ⟨_, rfl⟩
  have EX0 := Lib.hid ex0
  rw [show q0.getD 0 [] = x0 by rw [ex0, hq0, ez0]; rfl] at cx0
  rw [← eln] at HZ4 HDW HDF HDP hdwl hdfl hdplc hlc t2 hl0 ⊢
  have t4 : ((qn : Int) == 0) = false := by rw [beq_eq_false_iff_ne]; omega
  have t4' : (qn == 0) = false := by rw [beq_eq_false_iff_ne]; omega
  have i1 : (0 : Int) < (ln : Int) := by omega
  have i2 : (0 : Int) < (qn : Int) := by omega
  clear hb4 hf3b HZb hdw hdf hdp hz4 eF ePP hus hul hur huc hu0 hu0' eq0 hq0 eqn eln ez0 ey0 ex0 hfn hla hdwa hdfa hdpa hFl hPl
  go_upto_region 7 with (fail)
  have f5 : Fr [] w4 (w4.alloc (.cells #[.int .i64 (fields.length : Int), .slice (some ⟨dwb, dwo, none⟩) ln dwc, .slice (some ⟨dfb, dfo, none⟩) ln dfc, .slice (some ⟨dpb, dpo, none⟩) ln dpc] 26)) := (Fr.refl [] w4).alloc _
  have q5 : DAt w4.heap.size (.int .i64 (fields.length : Int)) (.slice (some ⟨dwb, dwo, none⟩) ln dwc) (.slice (some ⟨dfb, dfo, none⟩) ln dfc) (.slice (some ⟨dpb, dpo, none⟩) ln dpc) (w4.alloc (.cells #[.int .i64 (fields.length : Int), .slice (some ⟨dwb, dwo, none⟩) ln dwc, .slice (some ⟨dfb, dfo, none⟩) ln dfc, .slice (some ⟨dpb, dpo, none⟩) ln dpc] 26)) := DAt.of (heap_new rfl)
  generalize w4.alloc (.cells #[.int .i64 (fields.length : Int), .slice (some ⟨dwb, dwo, none⟩) ln dwc, .slice (some ⟨dfb, dfo, none⟩) ln dfc, .slice (some ⟨dpb, dpo, none⟩) ln dpc] 26) = w5 at f5 q5 ⊢
  obtain ⟨db, edb⟩ : ∃ b, b = w4.heap.size := ⟨_, rfl⟩
  rw [← edb] at q5 ⊢
  have EDB := Lib.hid edb
  have Q5 := Lib.hid q5
  have F45 := Lib.hid f5
  have hf5 : Fr [] w w5 := hf4.trans f5 (by simp)
  obtain ⟨d0, d1, d2, d3⟩ := q5
  have el0 := f5.cell cl0 (by simp)
  have ef0 := f5.cell cf0 (by simp)
  have ep0 := f5.cell cp0 (by simp)
  have ex0 := f5.cell cx0 (by simp)
  have HLC : Hid (∀ W, Fr [] w5 W → ∀ j, j < ln → W.cell? ⟨lb, lo + j, none⟩ = some (.int .i64 (L.getD j 0))) := Lib.hid (fun W hW j hj => (F45.out.trans hW (by simp)).cell (HZ4.out.cell j (by rw [← ELN.out]; exact hj)) (by simp))
  have HFC : Hid (∀ W, Fr [] w5 W → Strs W (.slice (some ⟨dfb, dfo, none⟩) ln dfc) F) := Lib.hid (fun W hW => (HDF.out.fr0 F45.out).fr0 hW)
  have HPC : Hid (∀ W, Fr [] w5 W → ∀ j, j < ln → W.cell? ⟨dpb, dpo + j, none⟩ = some (us.getD j (.slice none 0 0))) := Lib.hid (fun W hW j hj => (F45.out.trans hW (by simp)).cell (HUC.out j (by rw [← ELN.out]; exact hj)) (by simp))
  have HUU : Hid (∀ W, Fr [] w5 W → Strs W (.slice (some ⟨p0b, p0o, none⟩) qn p0c) q0) := Lib.hid (fun W hW => (HU0.out.fr0 F45.out).fr0 hW)
  have HONE : Hid (∀ u ∈ us, u.oneCell' = true) := Lib.hid (fun u hu => by obtain ⟨a, n, c, rfl⟩ := HUS.out u hu; rfl)
  have HFL : Hid (F.length = ln) := Lib.hid (by rw [EF.out, List.length_map, ← ELN.out])
  have HLN : Hid (ln ≤ 30) := Lib.hid (by rw [ELN.out]; exact HLB.out)
  obtain ⟨pt, ept⟩ : ∃ p, p = pathL ((elemsL fields s).map leafD) z0.toNat := ⟨_, rfl⟩
  have HQC : Hid (q0 = x0 :: pt) := Lib.hid (by rw [HQ0.out, EX0.out, ept, EZ0.out])
  have HPTL : Hid (pt.length = plen fields.length z0.toNat) := Lib.hid (by rw [ept, pathL_length, List.length_map, elemsL_length])
  have hptd : ∀ x ∈ q0, x.length = 16 := fun x hx => by
    rw [HQ0.out] at hx
    exact isD_l16 (pathF_isD fields s ((L.getD 0 0).toNat : Int) x (by unfold pathF; rw [Int.toNat_natCast]; exact hx))
  have HPTD := Lib.hid hptd
  have HZR : Hid (0 ≤ z0 ∧ z0 < (fields.length : Int)) := Lib.hid (by rw [EZ0.out]; exact incB_in HINC.out (by decide) _ (getD_mem L 0 0 (by have := ELN.out; omega)))
  have HPPS : Hid (∀ l ∈ PP, ∀ x ∈ l, x.length ≤ 100000) := Lib.hid (fun l hl x hx => by
    rw [EPP.out] at hl
    obtain ⟨z, _, rfl⟩ := List.mem_map.1 hl
    have := isD_l16 (pathF_isD fields s z x hx)
    omega)
  have HFSS : Hid (∀ f ∈ F, f.length ≤ 100000) := Lib.hid (by rw [EF.out]; exact shown_short (fun f hf => by have := HSH.out.1 f hf; omega))
  have HPL : Hid (PP.length = ln) := Lib.hid (by rw [EPP.out, List.length_map, ← ELN.out])
  have HNN : Hid (-9223372036854775808 ≤ (fields.length : Int) ∧ (fields.length : Int) < 9223372036854775808) := Lib.hid (by have := HSH.out.2; omega)
  obtain ⟨dq, hdq⟩ : ∃ dq, (dpc = 1 ∧ dq = dpo ∧ ln = 1) ∨ (dpc ≠ 1 ∧ dq = dpo + 1) := by
    by_cases h : dpc = 1
    · exact ⟨dpo, Or.inl ⟨h, rfl, by omega⟩⟩
    · exact ⟨dpo + 1, Or.inr ⟨h, rfl⟩⟩
  obtain ⟨xq, hxq⟩ : ∃ xq, (p0c = 1 ∧ xq = p0o ∧ qn = 1) ∨ (p0c ≠ 1 ∧ xq = p0o + 1) := by
    by_cases h : p0c = 1
    · exact ⟨p0o, Or.inl ⟨h, rfl, by omega⟩⟩
    · exact ⟨p0o + 1, Or.inr ⟨h, rfl⟩⟩
  have HDQ : Hid (((dpc = 1 ∧ dq = dpo ∧ ln = 1) ∨ (dpc ≠ 1 ∧ dq = dpo + 1)) ∧ 0 < ln ∧ ln ≤ dpc ∧ dpc ≤ 9223372036854775807) := Lib.hid ⟨hdq, hl0, hdplc, hdpcap⟩
  have HXQ : Hid (((p0c = 1 ∧ xq = p0o ∧ qn = 1) ∨ (p0c ≠ 1 ∧ xq = p0o + 1)) ∧ 0 < qn ∧ qn ≤ p0c ∧ p0c ≤ 9223372036854775807) := Lib.hid ⟨hxq, hqn, HU0.out.capOf⟩
  have HPD : Hid (∀ W, Fr [] w5 W → ∀ j, j < ln - 1 → W.cell? ⟨dpb, dq + j, none⟩ = some ((us.drop 1).getD j (.slice none 0 0))) := Lib.hid (fun W hW j hj => by
    rw [drop_getD]
    rcases hdq with ⟨_, _, h⟩ | ⟨_, rfl⟩
    · omega
    · rw [Nat.add_assoc, Nat.add_comm 1 j]; exact HPC.out W hW (j + 1) (by omega))
  have HUX : Hid (∀ W, Fr [] w5 W → Strs W (.slice (some ⟨p0b, xq, none⟩) (qn - 1) (p0c - 1)) pt) := Lib.hid (fun W hW => by
    have h0 := HUU.out W hW
    have hn := EQN.out
    rw [HQC.out] at h0 hn
    rcases hxq with ⟨h1, rfl, h3⟩ | ⟨_, rfl⟩
    · subst h1 h3
      obtain rfl : pt = [] := List.length_eq_zero_iff.1 (by rw [List.length_cons] at hn; omega)
      exact Or.inr ⟨p0b, xq, 0, rfl, by simp, by decide, h0.blk p0b rfl, fun i hi => absurd hi (by simp)⟩
    · exact h0.tl (by rw [hn]; rfl))
  clear ept hptd hdq hxq
  clear edb cl0 cf0 cp0 cx0 hf4
  go_wp2_with fail
  have hS0 : (fun W => W.cell? ⟨db, 0, none⟩ = some (.int .i64 (fields.length : Int)) ∧ W.cell? ⟨db, 2, none⟩ = some (.slice (some ⟨dfb, dfo, none⟩) ln dfc) ∧ W.cell? ⟨db, 3, none⟩ = some (.slice (some ⟨dpb, dpo, none⟩) ln dpc) ∧ W.cell? ⟨lb, lo, none⟩ = some (.int .i64 z0) ∧ W.cell? ⟨dfb, dfo, none⟩ = some (.string ⟨y0.toArray⟩) ∧ W.cell? ⟨dpb, dpo, none⟩ = some (.slice (some ⟨p0b, p0o, none⟩) qn p0c)) w5.drew := ⟨d0, d2, d3, el0, ef0, ep0⟩
  refine region_held 100 (fun W => W.cell? ⟨db, 0, none⟩ = some (.int .i64 (fields.length : Int)) ∧ W.cell? ⟨db, 2, none⟩ = some (.slice (some ⟨dfb, dfo, none⟩) ln dfc) ∧ W.cell? ⟨db, 3, none⟩ = some (.slice (some ⟨dpb, dpo, none⟩) ln dpc) ∧ W.cell? ⟨lb, lo, none⟩ = some (.int .i64 z0) ∧ W.cell? ⟨dfb, dfo, none⟩ = some (.string ⟨y0.toArray⟩) ∧ W.cell? ⟨dpb, dpo, none⟩ = some (.slice (some ⟨p0b, p0o, none⟩) qn p0c)) hmx ?_
  change Held _ _ _ _ _ _ 27 (Array.replicate 27 false) _ _
  refine hd_take 0 (v := .pointer (some ⟨db, 0, none⟩)) rfl (by kernel_rfl) (by kernel_rfl) (by kernel_rfl) rfl hS0 (fun W' hS => by obtain ⟨h0, h1, h2, h3, h4, h5⟩ := hS; first | (go_simp; done) | (go_simp; intro hix; omega)) rfl ?_
  refine hd_take 2 (v := .slice (some ⟨lb, lo, none⟩) ln lcap) rfl (by kernel_rfl) (by kernel_rfl) (by kernel_rfl) rfl hS0 (fun W' hS => by obtain ⟨h0, h1, h2, h3, h4, h5⟩ := hS; first | (go_simp; done) | (go_simp; intro hix; omega)) rfl ?_
  refine hd_take 6 (v := .slice (some ⟨lb, lo, none⟩) ln lcap) rfl (by kernel_rfl) (by kernel_rfl) (by kernel_rfl) rfl hS0 (fun W' hS => by obtain ⟨h0, h1, h2, h3, h4, h5⟩ := hS; first | (go_simp; done) | (go_simp; intro hix; omega)) rfl ?_
  refine hd_take 8 (v := .pointer (some ⟨db, 2, none⟩)) rfl (by kernel_rfl) (by kernel_rfl) (by kernel_rfl) rfl hS0 (fun W' hS => by obtain ⟨h0, h1, h2, h3, h4, h5⟩ := hS; first | (go_simp; done) | (go_simp; intro hix; omega)) rfl ?_
  refine hd_take 13 (v := .pointer (some ⟨db, 2, none⟩)) rfl (by kernel_rfl) (by kernel_rfl) (by kernel_rfl) rfl hS0 (fun W' hS => by obtain ⟨h0, h1, h2, h3, h4, h5⟩ := hS; first | (go_simp; done) | (go_simp; intro hix; omega)) rfl ?_
  refine hd_take 16 (v := .pointer (some ⟨db, 3, none⟩)) rfl (by kernel_rfl) (by kernel_rfl) (by kernel_rfl) rfl hS0 (fun W' hS => by obtain ⟨h0, h1, h2, h3, h4, h5⟩ := hS; first | (go_simp; done) | (go_simp; intro hix; omega)) rfl ?_
  refine hd_take 21 (v := .pointer (some ⟨db, 3, none⟩)) rfl (by kernel_rfl) (by kernel_rfl) (by kernel_rfl) rfl hS0 (fun W' hS => by obtain ⟨h0, h1, h2, h3, h4, h5⟩ := hS; first | (go_simp; done) | (go_simp; intro hix; omega)) rfl ?_
  simp only [Act.put, List.setIfInBounds_toArray, List.set_cons_zero, List.set_cons_succ]
  refine hd_take 1 (v := .int .i64 (fields.length : Int)) rfl (by kernel_rfl) (by kernel_rfl) (by kernel_rfl) rfl hS0 (fun W' hS => by obtain ⟨h0, h1, h2, h3, h4, h5⟩ := hS; first | (go_simp; done) | (go_simp; intro hix; omega)) rfl ?_
  refine hd_take 3 (v := .pointer (some ⟨lb, lo, none⟩)) rfl (by kernel_rfl) (by kernel_rfl) (by kernel_rfl) rfl hS0 (fun W' hS => by obtain ⟨h0, h1, h2, h3, h4, h5⟩ := hS; first | (go_simp; done) | (go_simp; intro hix; omega)) rfl ?_
  refine hd_take 9 (v := .slice (some ⟨dfb, dfo, none⟩) ln dfc) rfl (by kernel_rfl) (by kernel_rfl) (by kernel_rfl) rfl hS0 (fun W' hS => by obtain ⟨h0, h1, h2, h3, h4, h5⟩ := hS; first | (go_simp; done) | (go_simp; intro hix; omega)) rfl ?_
  refine hd_take 14 (v := .slice (some ⟨dfb, dfo, none⟩) ln dfc) rfl (by kernel_rfl) (by kernel_rfl) (by kernel_rfl) rfl hS0 (fun W' hS => by obtain ⟨h0, h1, h2, h3, h4, h5⟩ := hS; first | (go_simp; done) | (go_simp; intro hix; omega)) rfl ?_
  refine hd_take 17 (v := .slice (some ⟨dpb, dpo, none⟩) ln dpc) rfl (by kernel_rfl) (by kernel_rfl) (by kernel_rfl) rfl hS0 (fun W' hS => by obtain ⟨h0, h1, h2, h3, h4, h5⟩ := hS; first | (go_simp; done) | (go_simp; intro hix; omega)) rfl ?_
  refine hd_take 22 (v := .slice (some ⟨dpb, dpo, none⟩) ln dpc) rfl (by kernel_rfl) (by kernel_rfl) (by kernel_rfl) rfl hS0 (fun W' hS => by obtain ⟨h0, h1, h2, h3, h4, h5⟩ := hS; first | (go_simp; done) | (go_simp; intro hix; omega)) rfl ?_
  simp only [Act.put, List.setIfInBounds_toArray, List.set_cons_zero, List.set_cons_succ]
  refine hd_take 4 (v := .int .i64 z0) rfl (by kernel_rfl) (by kernel_rfl) (by kernel_rfl) rfl hS0 (fun W' hS => by obtain ⟨h0, h1, h2, h3, h4, h5⟩ := hS; first | (go_simp; done) | (go_simp; intro hix; omega)) rfl ?_
  refine hd_take 10 (v := .pointer (some ⟨dfb, dfo, none⟩)) rfl (by kernel_rfl) (by kernel_rfl) (by kernel_rfl) rfl hS0 (fun W' hS => by obtain ⟨h0, h1, h2, h3, h4, h5⟩ := hS; first | (go_simp; done) | (go_simp; intro hix; omega)) rfl ?_
  refine hd_take 18 (v := .pointer (some ⟨dpb, dpo, none⟩)) rfl (by kernel_rfl) (by kernel_rfl) (by kernel_rfl) rfl hS0 (fun W' hS => by obtain ⟨h0, h1, h2, h3, h4, h5⟩ := hS; first | (go_simp; done) | (go_simp; intro hix; omega)) rfl ?_
  simp only [Act.put, List.setIfInBounds_toArray, List.set_cons_zero, List.set_cons_succ]
  refine hd_take 11 (v := .string ⟨y0.toArray⟩) rfl (by kernel_rfl) (by kernel_rfl) (by kernel_rfl) rfl hS0 (fun W' hS => by obtain ⟨h0, h1, h2, h3, h4, h5⟩ := hS; first | (go_simp; done) | (go_simp; intro hix; omega)) rfl ?_
  refine hd_take 19 (v := .slice (some ⟨p0b, p0o, none⟩) qn p0c) rfl (by kernel_rfl) (by kernel_rfl) (by kernel_rfl) rfl hS0 (fun W' hS => by obtain ⟨h0, h1, h2, h3, h4, h5⟩ := hS; first | (go_simp; done) | (go_simp; intro hix; omega)) rfl ?_
  simp only [Act.put, List.setIfInBounds_toArray, List.set_cons_zero, List.set_cons_succ]
  have yd : Fr [] w5 w5.drew := (Fr.refl [] w5).drew
  generalize w5.drew = wd at yd hS0 ⊢
  have HSF : Hid (∀ W, Fr [] wd W → (fun W => W.cell? ⟨db, 0, none⟩ = some (.int .i64 (fields.length : Int)) ∧ W.cell? ⟨db, 2, none⟩ = some (.slice (some ⟨dfb, dfo, none⟩) ln dfc) ∧ W.cell? ⟨db, 3, none⟩ = some (.slice (some ⟨dpb, dpo, none⟩) ln dpc) ∧ W.cell? ⟨lb, lo, none⟩ = some (.int .i64 z0) ∧ W.cell? ⟨dfb, dfo, none⟩ = some (.string ⟨y0.toArray⟩) ∧ W.cell? ⟨dpb, dpo, none⟩ = some (.slice (some ⟨p0b, p0o, none⟩) qn p0c)) W) := Lib.hid (fun W hW => ⟨hW.cell hS0.1 (by simp), hW.cell hS0.2.1 (by simp), hW.cell hS0.2.2.1 (by simp), hW.cell hS0.2.2.2.1 (by simp), hW.cell hS0.2.2.2.2.1 (by simp), hW.cell hS0.2.2.2.2.2 (by simp)⟩)
  have YD := Lib.hid yd
  clear hS0 yd d0 d1 d2 d3 el0 ef0 ep0 ex0
  refine held_name (fun a0 ea0 => held_pred (fun H eH => ?_))
  suffices Kfin : ∀ (xc : Value) (gc kc : Nat) (xf : Value) (gf kf : Nat) (xp : Value) (gp kp : Nat) (tb : Nat) (W : World), TriB wd W (.slice (some ⟨gc, 0, none⟩) (ln + 1) kc) (.slice (some ⟨gf, 0, none⟩) (ln + 1) kf) (.slice (some ⟨gp, 0, none⟩) (ln + 1) kp) ([z0] ++ L) ([y0] ++ F) ([.slice (some ⟨p0b, p0o, none⟩) qn p0c] ++ us) tb → H 1 #[true, true, true, true, true, true, true, true, true, true, true, true, true, true, true, true, true, true, true, true, true, true, true, true, true, true, false] ((((((((a0.put (some 88) (xc)).put (some 90) (.slice (some ⟨gc, 0, none⟩) (ln + 1) kc)).put (some 95) (xf)).put (some 98) (.slice (some ⟨gf, 0, none⟩) (ln + 1) kf)).put (some 103) (xp)).put (some 106) (.slice (some ⟨gp, 0, none⟩) (ln + 1) kp)).put (some 15) (.pointer (some ⟨tb, 0, none⟩))).put (some 107) (.agg #[.int .i64 (fields.length : Int), .slice (some ⟨gc, 0, none⟩) (ln + 1) kc, .slice (some ⟨gf, 0, none⟩) (ln + 1) kf, .slice (some ⟨gp, 0, none⟩) (ln + 1) kp])) W by
    have K2221 : ∀ (xc : Value) (gc kc : Nat) (xf : Value) (gf kf : Nat) (xp : Value) (gp kp : Nat) (tb : Nat) (W : World), TriB wd W (.slice (some ⟨gc, 0, none⟩) (ln + 1) kc) (.slice (some ⟨gf, 0, none⟩) (ln + 1) kf) (.slice (some ⟨gp, 0, none⟩) (ln + 1) kp) ([z0] ++ L) ([y0] ++ F) ([.slice (some ⟨p0b, p0o, none⟩) qn p0c] ++ us) tb → H 2 #[true, true, true, true, true, true, true, true, true, true, true, true, true, true, true, true, true, true, true, true, true, true, true, true, false, true, false] (((((((a0.put (some 88) (xc)).put (some 90) (.slice (some ⟨gc, 0, none⟩) (ln + 1) kc)).put (some 95) (xf)).put (some 98) (.slice (some ⟨gf, 0, none⟩) (ln + 1) kf)).put (some 103) (xp)).put (some 106) (.slice (some ⟨gp, 0, none⟩) (ln + 1) kp)).put (some 15) (.pointer (some ⟨tb, 0, none⟩))) W := by
      intro xc gc kc xf gf kf xp gp kp tb W h
      rw [eH, ea0]
      try simp only [Act.put, List.setIfInBounds_toArray, List.set_cons_zero, List.set_cons_succ]
      refine hd_take 24 (v := .agg #[.int .i64 (fields.length : Int), .slice (some ⟨gc, 0, none⟩) (ln + 1) kc, .slice (some ⟨gf, 0, none⟩) (ln + 1) kf, .slice (some ⟨gp, 0, none⟩) (ln + 1) kp]) rfl (by kernel_rfl) (by kernel_rfl) (by kernel_rfl) rfl (HSF.out _ h.t.fr) (fun W' hS => by go_simp) rfl ?_
      simp only [Act.put, List.setIfInBounds_toArray, List.set_cons_zero, List.set_cons_succ]
      have hk := Kfin xc gc kc xf gf kf xp gp kp tb _ h
      rw [eH, ea0] at hk
      exact held_same hk (by kernel_rfl) (by kernel_rfl)
    have K2211 : ∀ (xc : Value) (gc kc : Nat) (xf : Value) (gf kf : Nat) (bp : Nat) (tb : Nat) (W : World), TriB wd W (.slice (some ⟨gc, 0, none⟩) (ln + 1) kc) (.slice (some ⟨gf, 0, none⟩) (ln + 1) kf) (.slice (some ⟨bp, 0, none⟩) 1 1) ([z0] ++ L) ([y0] ++ F) [.slice (some ⟨p0b, p0o, none⟩) qn p0c] tb → H 3 #[true, true, true, true, true, true, true, true, true, true, true, true, true, true, true, true, true, true, true, true, true, true, true, false, false, true, false] ((((((a0.put (some 88) (xc)).put (some 90) (.slice (some ⟨gc, 0, none⟩) (ln + 1) kc)).put (some 95) (xf)).put (some 98) (.slice (some ⟨gf, 0, none⟩) (ln + 1) kf)).put (some 103) (.slice (some ⟨bp, 0, none⟩) 1 1)).put (some 15) (.pointer (some ⟨tb, 0, none⟩))) W := by
      intro xc gc kc xf gf kf bp tb W h
      rw [eH, ea0]
      try simp only [Act.put, List.setIfInBounds_toArray, List.set_cons_zero, List.set_cons_succ]
      refine hd_many [23] (by kernel_rfl) (by simp) (fun i hi => ?_)
      simp only [List.mem_cons, List.not_mem_nil, or_false] at hi
      subst hi
      · refine ⟨_, rfl, by kernel_rfl, fun K' hK => ?_⟩
        refine wp_appVm (.tmp 103) (.tmp 105) (by rfl) wd.heap.size _ [.slice (some ⟨p0b, p0o, none⟩) qn p0c] us dpb dpo ln dpc (by rfl) (by rfl) (by rw [HUL.out, ← ELN.out]) (HPC.out _ (YD.out.trans h.t.fr (by simp))) HONE.out h.t.p h.t.fr.size (by have := HLN.out; simp; omega) ?_
        intro nv W2 ho hg hat
        obtain ⟨g9, c9, rfl⟩ := ho.slice (n := ln + 1) (by simp [HUL.out, ELN.out]) (by omega)
        have ht := h.setP ho hg hat
        refine hK.out _ _ (fun _ => HSF.out _ ht.t.fr) ?_
        have hk := K2221 xc gc kc xf gf kf (.slice (some ⟨bp, 0, none⟩) 1 1) g9 c9 tb _ ht
        rw [eH, ea0] at hk
        exact held_same hk (by kernel_rfl) (by kernel_rfl)
    have K2220 : ∀ (xc : Value) (gc kc : Nat) (xf : Value) (gf kf : Nat) (xp : Value) (gp kp : Nat) (W : World), Tri wd W (.slice (some ⟨gc, 0, none⟩) (ln + 1) kc) (.slice (some ⟨gf, 0, none⟩) (ln + 1) kf) (.slice (some ⟨gp, 0, none⟩) (ln + 1) kp) ([z0] ++ L) ([y0] ++ F) ([.slice (some ⟨p0b, p0o, none⟩) qn p0c] ++ us) → H 3 #[true, true, true, true, true, true, true, true, true, true, true, true, true, true, true, true, true, true, true, true, true, true, true, true, false, false, false] ((((((a0.put (some 88) (xc)).put (some 90) (.slice (some ⟨gc, 0, none⟩) (ln + 1) kc)).put (some 95) (xf)).put (some 98) (.slice (some ⟨gf, 0, none⟩) (ln + 1) kf)).put (some 103) (xp)).put (some 106) (.slice (some ⟨gp, 0, none⟩) (ln + 1) kp)) W := by
      intro xc gc kc xf gf kf xp gp kp W h
      rw [eH, ea0]
      try simp only [Act.put, List.setIfInBounds_toArray, List.set_cons_zero, List.set_cons_succ]
      refine hd_take 24 (v := .agg #[.int .i64 (fields.length : Int), .slice (some ⟨gc, 0, none⟩) (ln + 1) kc, .slice (some ⟨gf, 0, none⟩) (ln + 1) kf, .slice (some ⟨gp, 0, none⟩) (ln + 1) kp]) rfl (by kernel_rfl) (by kernel_rfl) (by kernel_rfl) rfl (HSF.out _ h.fr) (fun W' hS => by go_simp) rfl ?_
      simp only [Act.put, List.setIfInBounds_toArray, List.set_cons_zero, List.set_cons_succ]
      refine hd_one 25 (by kernel_rfl) rfl (by kernel_rfl) rfl (fun K' hK => ?_)
      go_simp
      have ht := h.newB
      refine hK.out _ _ (fun _ => HSF.out _ ht.t.fr) ?_
      have hk := Kfin xc gc kc xf gf kf xp gp kp W.heap.size _ ht
      rw [eH, ea0] at hk
      exact held_same hk (by kernel_rfl) (by kernel_rfl)
    have K2111 : ∀ (xc : Value) (gc kc : Nat) (bf : Nat) (bp : Nat) (tb : Nat) (W : World), TriB wd W (.slice (some ⟨gc, 0, none⟩) (ln + 1) kc) (.slice (some ⟨bf, 0, none⟩) 1 1) (.slice (some ⟨bp, 0, none⟩) 1 1) ([z0] ++ L) [y0] [.slice (some ⟨p0b, p0o, none⟩) qn p0c] tb → H 4 #[true, true, true, true, true, true, true, true, true, true, true, true, true, true, true, false, true, true, true, true, true, true, true, false, false, true, false] (((((a0.put (some 88) (xc)).put (some 90) (.slice (some ⟨gc, 0, none⟩) (ln + 1) kc)).put (some 95) (.slice (some ⟨bf, 0, none⟩) 1 1)).put (some 103) (.slice (some ⟨bp, 0, none⟩) 1 1)).put (some 15) (.pointer (some ⟨tb, 0, none⟩))) W := by
      intro xc gc kc bf bp tb W h
      rw [eH, ea0]
      try simp only [Act.put, List.setIfInBounds_toArray, List.set_cons_zero, List.set_cons_succ]
      refine hd_many [15] (by kernel_rfl) (by simp) (fun i hi => ?_)
      simp only [List.mem_cons, List.not_mem_nil, or_false] at hi
      subst hi
      · refine ⟨_, rfl, by kernel_rfl, fun K' hK => ?_⟩
        refine wp_appSm (.tmp 95) (.tmp 97) (by rfl) wd.heap.size _ [y0] F dfb dfo ln dfc (by rfl) (by rfl) HFL.out (HFC.out _ (YD.out.trans h.t.fr (by simp))) h.t.f h.t.fr.size (by have := HLN.out; simp; omega) ?_
        intro nv W2 ho hg hat
        obtain ⟨g9, c9, rfl⟩ := ho.slice (n := ln + 1) (by simp [HFL.out]) (by omega)
        have ht := h.setF ho hg hat
        refine hK.out _ _ (fun _ => HSF.out _ ht.t.fr) ?_
        have hk := K2211 xc gc kc (.slice (some ⟨bf, 0, none⟩) 1 1) g9 c9 bp tb _ ht
        rw [eH, ea0] at hk
        exact held_same hk (by kernel_rfl) (by kernel_rfl)
    have K2201 : ∀ (xc : Value) (gc kc : Nat) (xf : Value) (gf kf : Nat) (tb : Nat) (W : World), TriB wd W (.slice (some ⟨gc, 0, none⟩) (ln + 1) kc) (.slice (some ⟨gf, 0, none⟩) (ln + 1) kf) (.slice none 0 0) ([z0] ++ L) ([y0] ++ F) [] tb → H 4 #[true, true, true, true, true, true, true, true, true, true, true, true, true, true, true, true, true, true, true, true, false, true, true, false, false, true, false] (((((a0.put (some 88) (xc)).put (some 90) (.slice (some ⟨gc, 0, none⟩) (ln + 1) kc)).put (some 95) (xf)).put (some 98) (.slice (some ⟨gf, 0, none⟩) (ln + 1) kf)).put (some 15) (.pointer (some ⟨tb, 0, none⟩))) W := by
      intro xc gc kc xf gf kf tb W h
      rw [eH, ea0]
      try simp only [Act.put, List.setIfInBounds_toArray, List.set_cons_zero, List.set_cons_succ]
      refine hd_many [20] (by kernel_rfl) (by simp) (fun i hi => ?_)
      simp only [List.mem_cons, List.not_mem_nil, or_false] at hi
      subst hi
      · refine ⟨_, rfl, by kernel_rfl, fun K' hK => ?_⟩
        go_simp
        have ht := h.newP (.slice (some ⟨p0b, p0o, none⟩) qn p0c)
        refine hK.out _ _ (fun _ => HSF.out _ ht.t.fr) ?_
        have hk := K2211 xc gc kc xf gf kf W.heap.size tb _ ht
        rw [eH, ea0] at hk
        exact held_same hk (by kernel_rfl) (by kernel_rfl)
    have K2210 : ∀ (xc : Value) (gc kc : Nat) (xf : Value) (gf kf : Nat) (bp : Nat) (W : World), Tri wd W (.slice (some ⟨gc, 0, none⟩) (ln + 1) kc) (.slice (some ⟨gf, 0, none⟩) (ln + 1) kf) (.slice (some ⟨bp, 0, none⟩) 1 1) ([z0] ++ L) ([y0] ++ F) [.slice (some ⟨p0b, p0o, none⟩) qn p0c] → H 4 #[true, true, true, true, true, true, true, true, true, true, true, true, true, true, true, true, true, true, true, true, true, true, true, false, false, false, false] (((((a0.put (some 88) (xc)).put (some 90) (.slice (some ⟨gc, 0, none⟩) (ln + 1) kc)).put (some 95) (xf)).put (some 98) (.slice (some ⟨gf, 0, none⟩) (ln + 1) kf)).put (some 103) (.slice (some ⟨bp, 0, none⟩) 1 1)) W := by
      intro xc gc kc xf gf kf bp W h
      rw [eH, ea0]
      try simp only [Act.put, List.setIfInBounds_toArray, List.set_cons_zero, List.set_cons_succ]
      refine hd_many [23, 25] (by kernel_rfl) (by simp) (fun i hi => ?_)
      simp only [List.mem_cons, List.not_mem_nil, or_false] at hi
      rcases hi with rfl | rfl
      · refine ⟨_, rfl, by kernel_rfl, fun K' hK => ?_⟩
        refine wp_appVm (.tmp 103) (.tmp 105) (by rfl) wd.heap.size _ [.slice (some ⟨p0b, p0o, none⟩) qn p0c] us dpb dpo ln dpc (by rfl) (by rfl) (by rw [HUL.out, ← ELN.out]) (HPC.out _ (YD.out.trans h.fr (by simp))) HONE.out h.p h.fr.size (by have := HLN.out; simp; omega) ?_
        intro nv W2 ho hg hat
        obtain ⟨g9, c9, rfl⟩ := ho.slice (n := ln + 1) (by simp [HUL.out, ELN.out]) (by omega)
        have ht := h.setP ho hg hat
        refine hK.out _ _ (fun _ => HSF.out _ ht.fr) ?_
        have hk := K2220 xc gc kc xf gf kf (.slice (some ⟨bp, 0, none⟩) 1 1) g9 c9 _ ht
        rw [eH, ea0] at hk
        exact held_same hk (by kernel_rfl) (by kernel_rfl)
      · refine ⟨_, rfl, by kernel_rfl, fun K' hK => ?_⟩
        go_simp
        have ht := h.newB
        refine hK.out _ _ (fun _ => HSF.out _ ht.t.fr) ?_
        have hk := K2211 xc gc kc xf gf kf bp W.heap.size _ ht
        rw [eH, ea0] at hk
        exact held_same hk (by kernel_rfl) (by kernel_rfl)
    have K1111 : ∀ (bc : Nat) (bf : Nat) (bp : Nat) (tb : Nat) (W : World), TriB wd W (.slice (some ⟨bc, 0, none⟩) 1 1) (.slice (some ⟨bf, 0, none⟩) 1 1) (.slice (some ⟨bp, 0, none⟩) 1 1) [z0] [y0] [.slice (some ⟨p0b, p0o, none⟩) qn p0c] tb → H 5 #[true, true, true, true, true, true, true, false, true, true, true, true, true, true, true, false, true, true, true, true, true, true, true, false, false, true, false] ((((a0.put (some 88) (.slice (some ⟨bc, 0, none⟩) 1 1)).put (some 95) (.slice (some ⟨bf, 0, none⟩) 1 1)).put (some 103) (.slice (some ⟨bp, 0, none⟩) 1 1)).put (some 15) (.pointer (some ⟨tb, 0, none⟩))) W := by
      intro bc bf bp tb W h
      rw [eH, ea0]
      try simp only [Act.put, List.setIfInBounds_toArray, List.set_cons_zero, List.set_cons_succ]
      refine hd_many [7] (by kernel_rfl) (by simp) (fun i hi => ?_)
      simp only [List.mem_cons, List.not_mem_nil, or_false] at hi
      subst hi
      · refine ⟨_, rfl, by kernel_rfl, fun K' hK => ?_⟩
        refine wp_appZm (.tmp 88) (.tmp 89) (by rfl) wd.heap.size _ [z0] L lb lo ln lcap (by rfl) (by rfl) ELN.out.symm (HLC.out _ (YD.out.trans h.t.fr (by simp))) h.t.c h.t.fr.size (by have := HLN.out; simp; omega) ?_
        intro nv W2 ho hg hat
        obtain ⟨g9, c9, rfl⟩ := ho.slice (n := ln + 1) (by simp [ELN.out]) (by omega)
        have ht := h.setC ho hg hat
        refine hK.out _ _ (fun _ => HSF.out _ ht.t.fr) ?_
        have hk := K2111 (.slice (some ⟨bc, 0, none⟩) 1 1) g9 c9 bf bp tb _ ht
        rw [eH, ea0] at hk
        exact held_same hk (by kernel_rfl) (by kernel_rfl)
    have K2011 : ∀ (xc : Value) (gc kc : Nat) (bp : Nat) (tb : Nat) (W : World), TriB wd W (.slice (some ⟨gc, 0, none⟩) (ln + 1) kc) (.slice none 0 0) (.slice (some ⟨bp, 0, none⟩) 1 1) ([z0] ++ L) [] [.slice (some ⟨p0b, p0o, none⟩) qn p0c] tb → H 5 #[true, true, true, true, true, true, true, true, true, true, true, true, false, true, true, false, true, true, true, true, true, true, true, false, false, true, false] ((((a0.put (some 88) (xc)).put (some 90) (.slice (some ⟨gc, 0, none⟩) (ln + 1) kc)).put (some 103) (.slice (some ⟨bp, 0, none⟩) 1 1)).put (some 15) (.pointer (some ⟨tb, 0, none⟩))) W := by
      intro xc gc kc bp tb W h
      rw [eH, ea0]
      try simp only [Act.put, List.setIfInBounds_toArray, List.set_cons_zero, List.set_cons_succ]
      refine hd_many [12] (by kernel_rfl) (by simp) (fun i hi => ?_)
      simp only [List.mem_cons, List.not_mem_nil, or_false] at hi
      subst hi
      · refine ⟨_, rfl, by kernel_rfl, fun K' hK => ?_⟩
        go_simp
        have ht := h.newF y0
        refine hK.out _ _ (fun _ => HSF.out _ ht.t.fr) ?_
        have hk := K2111 xc gc kc W.heap.size bp tb _ ht
        rw [eH, ea0] at hk
        exact held_same hk (by kernel_rfl) (by kernel_rfl)
    have K2101 : ∀ (xc : Value) (gc kc : Nat) (bf : Nat) (tb : Nat) (W : World), TriB wd W (.slice (some ⟨gc, 0, none⟩) (ln + 1) kc) (.slice (some ⟨bf, 0, none⟩) 1 1) (.slice none 0 0) ([z0] ++ L) [y0] [] tb → H 5 #[true, true, true, true, true, true, true, true, true, true, true, true, true, true, true, false, true, true, true, true, false, true, true, false, false, true, false] ((((a0.put (some 88) (xc)).put (some 90) (.slice (some ⟨gc, 0, none⟩) (ln + 1) kc)).put (some 95) (.slice (some ⟨bf, 0, none⟩) 1 1)).put (some 15) (.pointer (some ⟨tb, 0, none⟩))) W := by
      intro xc gc kc bf tb W h
      rw [eH, ea0]
      try simp only [Act.put, List.setIfInBounds_toArray, List.set_cons_zero, List.set_cons_succ]
      refine hd_many [15, 20] (by kernel_rfl) (by simp) (fun i hi => ?_)
      simp only [List.mem_cons, List.not_mem_nil, or_false] at hi
      rcases hi with rfl | rfl
      · refine ⟨_, rfl, by kernel_rfl, fun K' hK => ?_⟩
        refine wp_appSm (.tmp 95) (.tmp 97) (by rfl) wd.heap.size _ [y0] F dfb dfo ln dfc (by rfl) (by rfl) HFL.out (HFC.out _ (YD.out.trans h.t.fr (by simp))) h.t.f h.t.fr.size (by have := HLN.out; simp; omega) ?_
        intro nv W2 ho hg hat
        obtain ⟨g9, c9, rfl⟩ := ho.slice (n := ln + 1) (by simp [HFL.out]) (by omega)
        have ht := h.setF ho hg hat
        refine hK.out _ _ (fun _ => HSF.out _ ht.t.fr) ?_
        have hk := K2201 xc gc kc (.slice (some ⟨bf, 0, none⟩) 1 1) g9 c9 tb _ ht
        rw [eH, ea0] at hk
        exact held_same hk (by kernel_rfl) (by kernel_rfl)
      · refine ⟨_, rfl, by kernel_rfl, fun K' hK => ?_⟩
        go_simp
        have ht := h.newP (.slice (some ⟨p0b, p0o, none⟩) qn p0c)
        refine hK.out _ _ (fun _ => HSF.out _ ht.t.fr) ?_
        have hk := K2111 xc gc kc bf W.heap.size tb _ ht
        rw [eH, ea0] at hk
        exact held_same hk (by kernel_rfl) (by kernel_rfl)
    have K2110 : ∀ (xc : Value) (gc kc : Nat) (bf : Nat) (bp : Nat) (W : World), Tri wd W (.slice (some ⟨gc, 0, none⟩) (ln + 1) kc) (.slice (some ⟨bf, 0, none⟩) 1 1) (.slice (some ⟨bp, 0, none⟩) 1 1) ([z0] ++ L) [y0] [.slice (some ⟨p0b, p0o, none⟩) qn p0c] → H 5 #[true, true, true, true, true, true, true, true, true, true, true, true, true, true, true, false, true, true, true, true, true, true, true, false, false, false, false] ((((a0.put (some 88) (xc)).put (some 90) (.slice (some ⟨gc, 0, none⟩) (ln + 1) kc)).put (some 95) (.slice (some ⟨bf, 0, none⟩) 1 1)).put (some 103) (.slice (some ⟨bp, 0, none⟩) 1 1)) W := by
      intro xc gc kc bf bp W h
      rw [eH, ea0]
      try simp only [Act.put, List.setIfInBounds_toArray, List.set_cons_zero, List.set_cons_succ]
      refine hd_many [15, 25] (by kernel_rfl) (by simp) (fun i hi => ?_)
      simp only [List.mem_cons, List.not_mem_nil, or_false] at hi
      rcases hi with rfl | rfl
      · refine ⟨_, rfl, by kernel_rfl, fun K' hK => ?_⟩
        refine wp_appSm (.tmp 95) (.tmp 97) (by rfl) wd.heap.size _ [y0] F dfb dfo ln dfc (by rfl) (by rfl) HFL.out (HFC.out _ (YD.out.trans h.fr (by simp))) h.f h.fr.size (by have := HLN.out; simp; omega) ?_
        intro nv W2 ho hg hat
        obtain ⟨g9, c9, rfl⟩ := ho.slice (n := ln + 1) (by simp [HFL.out]) (by omega)
        have ht := h.setF ho hg hat
        refine hK.out _ _ (fun _ => HSF.out _ ht.fr) ?_
        have hk := K2210 xc gc kc (.slice (some ⟨bf, 0, none⟩) 1 1) g9 c9 bp _ ht
        rw [eH, ea0] at hk
        exact held_same hk (by kernel_rfl) (by kernel_rfl)
      · refine ⟨_, rfl, by kernel_rfl, fun K' hK => ?_⟩
        go_simp
        have ht := h.newB
        refine hK.out _ _ (fun _ => HSF.out _ ht.t.fr) ?_
        have hk := K2111 xc gc kc bf bp W.heap.size _ ht
        rw [eH, ea0] at hk
        exact held_same hk (by kernel_rfl) (by kernel_rfl)
    have K2200 : ∀ (xc : Value) (gc kc : Nat) (xf : Value) (gf kf : Nat) (W : World), Tri wd W (.slice (some ⟨gc, 0, none⟩) (ln + 1) kc) (.slice (some ⟨gf, 0, none⟩) (ln + 1) kf) (.slice none 0 0) ([z0] ++ L) ([y0] ++ F) [] → H 5 #[true, true, true, true, true, true, true, true, true, true, true, true, true, true, true, true, true, true, true, true, false, true, true, false, false, false, false] ((((a0.put (some 88) (xc)).put (some 90) (.slice (some ⟨gc, 0, none⟩) (ln + 1) kc)).put (some 95) (xf)).put (some 98) (.slice (some ⟨gf, 0, none⟩) (ln + 1) kf)) W := by
      intro xc gc kc xf gf kf W h
      rw [eH, ea0]
      try simp only [Act.put, List.setIfInBounds_toArray, List.set_cons_zero, List.set_cons_succ]
      refine hd_many [20, 25] (by kernel_rfl) (by simp) (fun i hi => ?_)
      simp only [List.mem_cons, List.not_mem_nil, or_false] at hi
      rcases hi with rfl | rfl
      · refine ⟨_, rfl, by kernel_rfl, fun K' hK => ?_⟩
        go_simp
        have ht := h.newP (.slice (some ⟨p0b, p0o, none⟩) qn p0c)
        refine hK.out _ _ (fun _ => HSF.out _ ht.fr) ?_
        have hk := K2210 xc gc kc xf gf kf W.heap.size _ ht
        rw [eH, ea0] at hk
        exact held_same hk (by kernel_rfl) (by kernel_rfl)
      · refine ⟨_, rfl, by kernel_rfl, fun K' hK => ?_⟩
        go_simp
        have ht := h.newB
        refine hK.out _ _ (fun _ => HSF.out _ ht.t.fr) ?_
        have hk := K2201 xc gc kc xf gf kf W.heap.size _ ht
        rw [eH, ea0] at hk
        exact held_same hk (by kernel_rfl) (by kernel_rfl)
    have K0111 : ∀ (bf : Nat) (bp : Nat) (tb : Nat) (W : World), TriB wd W (.slice none 0 0) (.slice (some ⟨bf, 0, none⟩) 1 1) (.slice (some ⟨bp, 0, none⟩) 1 1) [] [y0] [.slice (some ⟨p0b, p0o, none⟩) qn p0c] tb → H 6 #[true, true, true, true, true, false, true, false, true, true, true, true, true, true, true, false, true, true, true, true, true, true, true, false, false, true, false] (((a0.put (some 95) (.slice (some ⟨bf, 0, none⟩) 1 1)).put (some 103) (.slice (some ⟨bp, 0, none⟩) 1 1)).put (some 15) (.pointer (some ⟨tb, 0, none⟩))) W := by
      intro bf bp tb W h
      rw [eH, ea0]
      try simp only [Act.put, List.setIfInBounds_toArray, List.set_cons_zero, List.set_cons_succ]
      refine hd_many [5] (by kernel_rfl) (by simp) (fun i hi => ?_)
      simp only [List.mem_cons, List.not_mem_nil, or_false] at hi
      subst hi
      · refine ⟨_, rfl, by kernel_rfl, fun K' hK => ?_⟩
        go_simp
        have ht := h.newC z0
        refine hK.out _ _ (fun _ => HSF.out _ ht.t.fr) ?_
        have hk := K1111 W.heap.size bf bp tb _ ht
        rw [eH, ea0] at hk
        exact held_same hk (by kernel_rfl) (by kernel_rfl)
    have K1011 : ∀ (bc : Nat) (bp : Nat) (tb : Nat) (W : World), TriB wd W (.slice (some ⟨bc, 0, none⟩) 1 1) (.slice none 0 0) (.slice (some ⟨bp, 0, none⟩) 1 1) [z0] [] [.slice (some ⟨p0b, p0o, none⟩) qn p0c] tb → H 6 #[true, true, true, true, true, true, true, false, true, true, true, true, false, true, true, false, true, true, true, true, true, true, true, false, false, true, false] (((a0.put (some 88) (.slice (some ⟨bc, 0, none⟩) 1 1)).put (some 103) (.slice (some ⟨bp, 0, none⟩) 1 1)).put (some 15) (.pointer (some ⟨tb, 0, none⟩))) W := by
      intro bc bp tb W h
      rw [eH, ea0]
      try simp only [Act.put, List.setIfInBounds_toArray, List.set_cons_zero, List.set_cons_succ]
      refine hd_many [7, 12] (by kernel_rfl) (by simp) (fun i hi => ?_)
      simp only [List.mem_cons, List.not_mem_nil, or_false] at hi
      rcases hi with rfl | rfl
      · refine ⟨_, rfl, by kernel_rfl, fun K' hK => ?_⟩
        refine wp_appZm (.tmp 88) (.tmp 89) (by rfl) wd.heap.size _ [z0] L lb lo ln lcap (by rfl) (by rfl) ELN.out.symm (HLC.out _ (YD.out.trans h.t.fr (by simp))) h.t.c h.t.fr.size (by have := HLN.out; simp; omega) ?_
        intro nv W2 ho hg hat
        obtain ⟨g9, c9, rfl⟩ := ho.slice (n := ln + 1) (by simp [ELN.out]) (by omega)
        have ht := h.setC ho hg hat
        refine hK.out _ _ (fun _ => HSF.out _ ht.t.fr) ?_
        have hk := K2011 (.slice (some ⟨bc, 0, none⟩) 1 1) g9 c9 bp tb _ ht
        rw [eH, ea0] at hk
        exact held_same hk (by kernel_rfl) (by kernel_rfl)
      · refine ⟨_, rfl, by kernel_rfl, fun K' hK => ?_⟩
        go_simp
        have ht := h.newF y0
        refine hK.out _ _ (fun _ => HSF.out _ ht.t.fr) ?_
        have hk := K1111 bc W.heap.size bp tb _ ht
        rw [eH, ea0] at hk
        exact held_same hk (by kernel_rfl) (by kernel_rfl)
    have K1101 : ∀ (bc : Nat) (bf : Nat) (tb : Nat) (W : World), TriB wd W (.slice (some ⟨bc, 0, none⟩) 1 1) (.slice (some ⟨bf, 0, none⟩) 1 1) (.slice none 0 0) [z0] [y0] [] tb → H 6 #[true, true, true, true, true, true, true, false, true, true, true, true, true, true, true, false, true, true, true, true, false, true, true, false, false, true, false] (((a0.put (some 88) (.slice (some ⟨bc, 0, none⟩) 1 1)).put (some 95) (.slice (some ⟨bf, 0, none⟩) 1 1)).put (some 15) (.pointer (some ⟨tb, 0, none⟩))) W := by
      intro bc bf tb W h
      rw [eH, ea0]
      try simp only [Act.put, List.setIfInBounds_toArray, List.set_cons_zero, List.set_cons_succ]
      refine hd_many [7, 20] (by kernel_rfl) (by simp) (fun i hi => ?_)
      simp only [List.mem_cons, List.not_mem_nil, or_false] at hi
      rcases hi with rfl | rfl
      · refine ⟨_, rfl, by kernel_rfl, fun K' hK => ?_⟩
        refine wp_appZm (.tmp 88) (.tmp 89) (by rfl) wd.heap.size _ [z0] L lb lo ln lcap (by rfl) (by rfl) ELN.out.symm (HLC.out _ (YD.out.trans h.t.fr (by simp))) h.t.c h.t.fr.size (by have := HLN.out; simp; omega) ?_
        intro nv W2 ho hg hat
        obtain ⟨g9, c9, rfl⟩ := ho.slice (n := ln + 1) (by simp [ELN.out]) (by omega)
        have ht := h.setC ho hg hat
        refine hK.out _ _ (fun _ => HSF.out _ ht.t.fr) ?_
        have hk := K2101 (.slice (some ⟨bc, 0, none⟩) 1 1) g9 c9 bf tb _ ht
        rw [eH, ea0] at hk
        exact held_same hk (by kernel_rfl) (by kernel_rfl)
      · refine ⟨_, rfl, by kernel_rfl, fun K' hK => ?_⟩
        go_simp
        have ht := h.newP (.slice (some ⟨p0b, p0o, none⟩) qn p0c)
        refine hK.out _ _ (fun _ => HSF.out _ ht.t.fr) ?_
        have hk := K1111 bc bf W.heap.size tb _ ht
        rw [eH, ea0] at hk
        exact held_same hk (by kernel_rfl) (by kernel_rfl)
    have K1110 : ∀ (bc : Nat) (bf : Nat) (bp : Nat) (W : World), Tri wd W (.slice (some ⟨bc, 0, none⟩) 1 1) (.slice (some ⟨bf, 0, none⟩) 1 1) (.slice (some ⟨bp, 0, none⟩) 1 1) [z0] [y0] [.slice (some ⟨p0b, p0o, none⟩) qn p0c] → H 6 #[true, true, true, true, true, true, true, false, true, true, true, true, true, true, true, false, true, true, true, true, true, true, true, false, false, false, false] (((a0.put (some 88) (.slice (some ⟨bc, 0, none⟩) 1 1)).put (some 95) (.slice (some ⟨bf, 0, none⟩) 1 1)).put (some 103) (.slice (some ⟨bp, 0, none⟩) 1 1)) W := by
      intro bc bf bp W h
      rw [eH, ea0]
      try simp only [Act.put, List.setIfInBounds_toArray, List.set_cons_zero, List.set_cons_succ]
      refine hd_many [7, 25] (by kernel_rfl) (by simp) (fun i hi => ?_)
      simp only [List.mem_cons, List.not_mem_nil, or_false] at hi
      rcases hi with rfl | rfl
      · refine ⟨_, rfl, by kernel_rfl, fun K' hK => ?_⟩
        refine wp_appZm (.tmp 88) (.tmp 89) (by rfl) wd.heap.size _ [z0] L lb lo ln lcap (by rfl) (by rfl) ELN.out.symm (HLC.out _ (YD.out.trans h.fr (by simp))) h.c h.fr.size (by have := HLN.out; simp; omega) ?_
        intro nv W2 ho hg hat
        obtain ⟨g9, c9, rfl⟩ := ho.slice (n := ln + 1) (by simp [ELN.out]) (by omega)
        have ht := h.setC ho hg hat
        refine hK.out _ _ (fun _ => HSF.out _ ht.fr) ?_
        have hk := K2110 (.slice (some ⟨bc, 0, none⟩) 1 1) g9 c9 bf bp _ ht
        rw [eH, ea0] at hk
        exact held_same hk (by kernel_rfl) (by kernel_rfl)
      · refine ⟨_, rfl, by kernel_rfl, fun K' hK => ?_⟩
        go_simp
        have ht := h.newB
        refine hK.out _ _ (fun _ => HSF.out _ ht.t.fr) ?_
        have hk := K1111 bc bf bp W.heap.size _ ht
        rw [eH, ea0] at hk
        exact held_same hk (by kernel_rfl) (by kernel_rfl)
    have K2001 : ∀ (xc : Value) (gc kc : Nat) (tb : Nat) (W : World), TriB wd W (.slice (some ⟨gc, 0, none⟩) (ln + 1) kc) (.slice none 0 0) (.slice none 0 0) ([z0] ++ L) [] [] tb → H 6 #[true, true, true, true, true, true, true, true, true, true, true, true, false, true, true, false, true, true, true, true, false, true, true, false, false, true, false] (((a0.put (some 88) (xc)).put (some 90) (.slice (some ⟨gc, 0, none⟩) (ln + 1) kc)).put (some 15) (.pointer (some ⟨tb, 0, none⟩))) W := by
      intro xc gc kc tb W h
      rw [eH, ea0]
      try simp only [Act.put, List.setIfInBounds_toArray, List.set_cons_zero, List.set_cons_succ]
      refine hd_many [12, 20] (by kernel_rfl) (by simp) (fun i hi => ?_)
      simp only [List.mem_cons, List.not_mem_nil, or_false] at hi
      rcases hi with rfl | rfl
      · refine ⟨_, rfl, by kernel_rfl, fun K' hK => ?_⟩
        go_simp
        have ht := h.newF y0
        refine hK.out _ _ (fun _ => HSF.out _ ht.t.fr) ?_
        have hk := K2101 xc gc kc W.heap.size tb _ ht
        rw [eH, ea0] at hk
        exact held_same hk (by kernel_rfl) (by kernel_rfl)
      · refine ⟨_, rfl, by kernel_rfl, fun K' hK => ?_⟩
        go_simp
        have ht := h.newP (.slice (some ⟨p0b, p0o, none⟩) qn p0c)
        refine hK.out _ _ (fun _ => HSF.out _ ht.t.fr) ?_
        have hk := K2011 xc gc kc W.heap.size tb _ ht
        rw [eH, ea0] at hk
        exact held_same hk (by kernel_rfl) (by kernel_rfl)
    have K2010 : ∀ (xc : Value) (gc kc : Nat) (bp : Nat) (W : World), Tri wd W (.slice (some ⟨gc, 0, none⟩) (ln + 1) kc) (.slice none 0 0) (.slice (some ⟨bp, 0, none⟩) 1 1) ([z0] ++ L) [] [.slice (some ⟨p0b, p0o, none⟩) qn p0c] → H 6 #[true, true, true, true, true, true, true, true, true, true, true, true, false, true, true, false, true, true, true, true, true, true, true, false, false, false, false] (((a0.put (some 88) (xc)).put (some 90) (.slice (some ⟨gc, 0, none⟩) (ln + 1) kc)).put (some 103) (.slice (some ⟨bp, 0, none⟩) 1 1)) W := by
      intro xc gc kc bp W h
      rw [eH, ea0]
      try simp only [Act.put, List.setIfInBounds_toArray, List.set_cons_zero, List.set_cons_succ]
      refine hd_many [12, 25] (by kernel_rfl) (by simp) (fun i hi => ?_)
      simp only [List.mem_cons, List.not_mem_nil, or_false] at hi
      rcases hi with rfl | rfl
      · refine ⟨_, rfl, by kernel_rfl, fun K' hK => ?_⟩
        go_simp
        have ht := h.newF y0
        refine hK.out _ _ (fun _ => HSF.out _ ht.fr) ?_
        have hk := K2110 xc gc kc W.heap.size bp _ ht
        rw [eH, ea0] at hk
        exact held_same hk (by kernel_rfl) (by kernel_rfl)
      · refine ⟨_, rfl, by kernel_rfl, fun K' hK => ?_⟩
        go_simp
        have ht := h.newB
        refine hK.out _ _ (fun _ => HSF.out _ ht.t.fr) ?_
        have hk := K2011 xc gc kc bp W.heap.size _ ht
        rw [eH, ea0] at hk
        exact held_same hk (by kernel_rfl) (by kernel_rfl)
    have K2100 : ∀ (xc : Value) (gc kc : Nat) (bf : Nat) (W : World), Tri wd W (.slice (some ⟨gc, 0, none⟩) (ln + 1) kc) (.slice (some ⟨bf, 0, none⟩) 1 1) (.slice none 0 0) ([z0] ++ L) [y0] [] → H 6 #[true, true, true, true, true, true, true, true, true, true, true, true, true, true, true, false, true, true, true, true, false, true, true, false, false, false, false] (((a0.put (some 88) (xc)).put (some 90) (.slice (some ⟨gc, 0, none⟩) (ln + 1) kc)).put (some 95) (.slice (some ⟨bf, 0, none⟩) 1 1)) W := by
      intro xc gc kc bf W h
      rw [eH, ea0]
      try simp only [Act.put, List.setIfInBounds_toArray, List.set_cons_zero, List.set_cons_succ]
      refine hd_many [15, 20, 25] (by kernel_rfl) (by simp) (fun i hi => ?_)
      simp only [List.mem_cons, List.not_mem_nil, or_false] at hi
      rcases hi with rfl | rfl | rfl
      · refine ⟨_, rfl, by kernel_rfl, fun K' hK => ?_⟩
        refine wp_appSm (.tmp 95) (.tmp 97) (by rfl) wd.heap.size _ [y0] F dfb dfo ln dfc (by rfl) (by rfl) HFL.out (HFC.out _ (YD.out.trans h.fr (by simp))) h.f h.fr.size (by have := HLN.out; simp; omega) ?_
        intro nv W2 ho hg hat
        obtain ⟨g9, c9, rfl⟩ := ho.slice (n := ln + 1) (by simp [HFL.out]) (by omega)
        have ht := h.setF ho hg hat
        refine hK.out _ _ (fun _ => HSF.out _ ht.fr) ?_
        have hk := K2200 xc gc kc (.slice (some ⟨bf, 0, none⟩) 1 1) g9 c9 _ ht
        rw [eH, ea0] at hk
        exact held_same hk (by kernel_rfl) (by kernel_rfl)
      · refine ⟨_, rfl, by kernel_rfl, fun K' hK => ?_⟩
        go_simp
        have ht := h.newP (.slice (some ⟨p0b, p0o, none⟩) qn p0c)
        refine hK.out _ _ (fun _ => HSF.out _ ht.fr) ?_
        have hk := K2110 xc gc kc bf W.heap.size _ ht
        rw [eH, ea0] at hk
        exact held_same hk (by kernel_rfl) (by kernel_rfl)
      · refine ⟨_, rfl, by kernel_rfl, fun K' hK => ?_⟩
        go_simp
        have ht := h.newB
        refine hK.out _ _ (fun _ => HSF.out _ ht.t.fr) ?_
        have hk := K2101 xc gc kc bf W.heap.size _ ht
        rw [eH, ea0] at hk
        exact held_same hk (by kernel_rfl) (by kernel_rfl)
    have K0011 : ∀ (bp : Nat) (tb : Nat) (W : World), TriB wd W (.slice none 0 0) (.slice none 0 0) (.slice (some ⟨bp, 0, none⟩) 1 1) [] [] [.slice (some ⟨p0b, p0o, none⟩) qn p0c] tb → H 7 #[true, true, true, true, true, false, true, false, true, true, true, true, false, true, true, false, true, true, true, true, true, true, true, false, false, true, false] ((a0.put (some 103) (.slice (some ⟨bp, 0, none⟩) 1 1)).put (some 15) (.pointer (some ⟨tb, 0, none⟩))) W := by
      intro bp tb W h
      rw [eH, ea0]
      try simp only [Act.put, List.setIfInBounds_toArray, List.set_cons_zero, List.set_cons_succ]
      refine hd_many [5, 12] (by kernel_rfl) (by simp) (fun i hi => ?_)
      simp only [List.mem_cons, List.not_mem_nil, or_false] at hi
      rcases hi with rfl | rfl
      · refine ⟨_, rfl, by kernel_rfl, fun K' hK => ?_⟩
        go_simp
        have ht := h.newC z0
        refine hK.out _ _ (fun _ => HSF.out _ ht.t.fr) ?_
        have hk := K1011 W.heap.size bp tb _ ht
        rw [eH, ea0] at hk
        exact held_same hk (by kernel_rfl) (by kernel_rfl)
      · refine ⟨_, rfl, by kernel_rfl, fun K' hK => ?_⟩
        go_simp
        have ht := h.newF y0
        refine hK.out _ _ (fun _ => HSF.out _ ht.t.fr) ?_
        have hk := K0111 W.heap.size bp tb _ ht
        rw [eH, ea0] at hk
        exact held_same hk (by kernel_rfl) (by kernel_rfl)
    have K0101 : ∀ (bf : Nat) (tb : Nat) (W : World), TriB wd W (.slice none 0 0) (.slice (some ⟨bf, 0, none⟩) 1 1) (.slice none 0 0) [] [y0] [] tb → H 7 #[true, true, true, true, true, false, true, false, true, true, true, true, true, true, true, false, true, true, true, true, false, true, true, false, false, true, false] ((a0.put (some 95) (.slice (some ⟨bf, 0, none⟩) 1 1)).put (some 15) (.pointer (some ⟨tb, 0, none⟩))) W := by
      intro bf tb W h
      rw [eH, ea0]
      try simp only [Act.put, List.setIfInBounds_toArray, List.set_cons_zero, List.set_cons_succ]
      refine hd_many [5, 20] (by kernel_rfl) (by simp) (fun i hi => ?_)
      simp only [List.mem_cons, List.not_mem_nil, or_false] at hi
      rcases hi with rfl | rfl
      · refine ⟨_, rfl, by kernel_rfl, fun K' hK => ?_⟩
        go_simp
        have ht := h.newC z0
        refine hK.out _ _ (fun _ => HSF.out _ ht.t.fr) ?_
        have hk := K1101 W.heap.size bf tb _ ht
        rw [eH, ea0] at hk
        exact held_same hk (by kernel_rfl) (by kernel_rfl)
      · refine ⟨_, rfl, by kernel_rfl, fun K' hK => ?_⟩
        go_simp
        have ht := h.newP (.slice (some ⟨p0b, p0o, none⟩) qn p0c)
        refine hK.out _ _ (fun _ => HSF.out _ ht.t.fr) ?_
        have hk := K0111 bf W.heap.size tb _ ht
        rw [eH, ea0] at hk
        exact held_same hk (by kernel_rfl) (by kernel_rfl)
    have K0110 : ∀ (bf : Nat) (bp : Nat) (W : World), Tri wd W (.slice none 0 0) (.slice (some ⟨bf, 0, none⟩) 1 1) (.slice (some ⟨bp, 0, none⟩) 1 1) [] [y0] [.slice (some ⟨p0b, p0o, none⟩) qn p0c] → H 7 #[true, true, true, true, true, false, true, false, true, true, true, true, true, true, true, false, true, true, true, true, true, true, true, false, false, false, false] ((a0.put (some 95) (.slice (some ⟨bf, 0, none⟩) 1 1)).put (some 103) (.slice (some ⟨bp, 0, none⟩) 1 1)) W := by
      intro bf bp W h
      rw [eH, ea0]
      try simp only [Act.put, List.setIfInBounds_toArray, List.set_cons_zero, List.set_cons_succ]
      refine hd_many [5, 25] (by kernel_rfl) (by simp) (fun i hi => ?_)
      simp only [List.mem_cons, List.not_mem_nil, or_false] at hi
      rcases hi with rfl | rfl
      · refine ⟨_, rfl, by kernel_rfl, fun K' hK => ?_⟩
        go_simp
        have ht := h.newC z0
        refine hK.out _ _ (fun _ => HSF.out _ ht.fr) ?_
        have hk := K1110 W.heap.size bf bp _ ht
        rw [eH, ea0] at hk
        exact held_same hk (by kernel_rfl) (by kernel_rfl)
      · refine ⟨_, rfl, by kernel_rfl, fun K' hK => ?_⟩
        go_simp
        have ht := h.newB
        refine hK.out _ _ (fun _ => HSF.out _ ht.t.fr) ?_
        have hk := K0111 bf bp W.heap.size _ ht
        rw [eH, ea0] at hk
        exact held_same hk (by kernel_rfl) (by kernel_rfl)
    have K1001 : ∀ (bc : Nat) (tb : Nat) (W : World), TriB wd W (.slice (some ⟨bc, 0, none⟩) 1 1) (.slice none 0 0) (.slice none 0 0) [z0] [] [] tb → H 7 #[true, true, true, true, true, true, true, false, true, true, true, true, false, true, true, false, true, true, true, true, false, true, true, false, false, true, false] ((a0.put (some 88) (.slice (some ⟨bc, 0, none⟩) 1 1)).put (some 15) (.pointer (some ⟨tb, 0, none⟩))) W := by
      intro bc tb W h
      rw [eH, ea0]
      try simp only [Act.put, List.setIfInBounds_toArray, List.set_cons_zero, List.set_cons_succ]
      refine hd_many [7, 12, 20] (by kernel_rfl) (by simp) (fun i hi => ?_)
      simp only [List.mem_cons, List.not_mem_nil, or_false] at hi
      rcases hi with rfl | rfl | rfl
      · refine ⟨_, rfl, by kernel_rfl, fun K' hK => ?_⟩
        refine wp_appZm (.tmp 88) (.tmp 89) (by rfl) wd.heap.size _ [z0] L lb lo ln lcap (by rfl) (by rfl) ELN.out.symm (HLC.out _ (YD.out.trans h.t.fr (by simp))) h.t.c h.t.fr.size (by have := HLN.out; simp; omega) ?_
        intro nv W2 ho hg hat
        obtain ⟨g9, c9, rfl⟩ := ho.slice (n := ln + 1) (by simp [ELN.out]) (by omega)
        have ht := h.setC ho hg hat
        refine hK.out _ _ (fun _ => HSF.out _ ht.t.fr) ?_
        have hk := K2001 (.slice (some ⟨bc, 0, none⟩) 1 1) g9 c9 tb _ ht
        rw [eH, ea0] at hk
        exact held_same hk (by kernel_rfl) (by kernel_rfl)
      · refine ⟨_, rfl, by kernel_rfl, fun K' hK => ?_⟩
        go_simp
        have ht := h.newF y0
        refine hK.out _ _ (fun _ => HSF.out _ ht.t.fr) ?_
        have hk := K1101 bc W.heap.size tb _ ht
        rw [eH, ea0] at hk
        exact held_same hk (by kernel_rfl) (by kernel_rfl)
      · refine ⟨_, rfl, by kernel_rfl, fun K' hK => ?_⟩
        go_simp
        have ht := h.newP (.slice (some ⟨p0b, p0o, none⟩) qn p0c)
        refine hK.out _ _ (fun _ => HSF.out _ ht.t.fr) ?_
        have hk := K1011 bc W.heap.size tb _ ht
        rw [eH, ea0] at hk
        exact held_same hk (by kernel_rfl) (by kernel_rfl)
    have K1010 : ∀ (bc : Nat) (bp : Nat) (W : World), Tri wd W (.slice (some ⟨bc, 0, none⟩) 1 1) (.slice none 0 0) (.slice (some ⟨bp, 0, none⟩) 1 1) [z0] [] [.slice (some ⟨p0b, p0o, none⟩) qn p0c] → H 7 #[true, true, true, true, true, true, true, false, true, true, true, true, false, true, true, false, true, true, true, true, true, true, true, false, false, false, false] ((a0.put (some 88) (.slice (some ⟨bc, 0, none⟩) 1 1)).put (some 103) (.slice (some ⟨bp, 0, none⟩) 1 1)) W := by
      intro bc bp W h
      rw [eH, ea0]
      try simp only [Act.put, List.setIfInBounds_toArray, List.set_cons_zero, List.set_cons_succ]
      refine hd_many [7, 12, 25] (by kernel_rfl) (by simp) (fun i hi => ?_)
      simp only [List.mem_cons, List.not_mem_nil, or_false] at hi
      rcases hi with rfl | rfl | rfl
      · refine ⟨_, rfl, by kernel_rfl, fun K' hK => ?_⟩
        refine wp_appZm (.tmp 88) (.tmp 89) (by rfl) wd.heap.size _ [z0] L lb lo ln lcap (by rfl) (by rfl) ELN.out.symm (HLC.out _ (YD.out.trans h.fr (by simp))) h.c h.fr.size (by have := HLN.out; simp; omega) ?_
        intro nv W2 ho hg hat
        obtain ⟨g9, c9, rfl⟩ := ho.slice (n := ln + 1) (by simp [ELN.out]) (by omega)
        have ht := h.setC ho hg hat
        refine hK.out _ _ (fun _ => HSF.out _ ht.fr) ?_
        have hk := K2010 (.slice (some ⟨bc, 0, none⟩) 1 1) g9 c9 bp _ ht
        rw [eH, ea0] at hk
        exact held_same hk (by kernel_rfl) (by kernel_rfl)
      · refine ⟨_, rfl, by kernel_rfl, fun K' hK => ?_⟩
        go_simp
        have ht := h.newF y0
        refine hK.out _ _ (fun _ => HSF.out _ ht.fr) ?_
        have hk := K1110 bc W.heap.size bp _ ht
        rw [eH, ea0] at hk
        exact held_same hk (by kernel_rfl) (by kernel_rfl)
      · refine ⟨_, rfl, by kernel_rfl, fun K' hK => ?_⟩
        go_simp
        have ht := h.newB
        refine hK.out _ _ (fun _ => HSF.out _ ht.t.fr) ?_
        have hk := K1011 bc bp W.heap.size _ ht
        rw [eH, ea0] at hk
        exact held_same hk (by kernel_rfl) (by kernel_rfl)
    have K1100 : ∀ (bc : Nat) (bf : Nat) (W : World), Tri wd W (.slice (some ⟨bc, 0, none⟩) 1 1) (.slice (some ⟨bf, 0, none⟩) 1 1) (.slice none 0 0) [z0] [y0] [] → H 7 #[true, true, true, true, true, true, true, false, true, true, true, true, true, true, true, false, true, true, true, true, false, true, true, false, false, false, false] ((a0.put (some 88) (.slice (some ⟨bc, 0, none⟩) 1 1)).put (some 95) (.slice (some ⟨bf, 0, none⟩) 1 1)) W := by
      intro bc bf W h
      rw [eH, ea0]
      try simp only [Act.put, List.setIfInBounds_toArray, List.set_cons_zero, List.set_cons_succ]
      refine hd_many [7, 20, 25] (by kernel_rfl) (by simp) (fun i hi => ?_)
      simp only [List.mem_cons, List.not_mem_nil, or_false] at hi
      rcases hi with rfl | rfl | rfl
      · refine ⟨_, rfl, by kernel_rfl, fun K' hK => ?_⟩
        refine wp_appZm (.tmp 88) (.tmp 89) (by rfl) wd.heap.size _ [z0] L lb lo ln lcap (by rfl) (by rfl) ELN.out.symm (HLC.out _ (YD.out.trans h.fr (by simp))) h.c h.fr.size (by have := HLN.out; simp; omega) ?_
        intro nv W2 ho hg hat
        obtain ⟨g9, c9, rfl⟩ := ho.slice (n := ln + 1) (by simp [ELN.out]) (by omega)
        have ht := h.setC ho hg hat
        refine hK.out _ _ (fun _ => HSF.out _ ht.fr) ?_
        have hk := K2100 (.slice (some ⟨bc, 0, none⟩) 1 1) g9 c9 bf _ ht
        rw [eH, ea0] at hk
        exact held_same hk (by kernel_rfl) (by kernel_rfl)
      · refine ⟨_, rfl, by kernel_rfl, fun K' hK => ?_⟩
        go_simp
        have ht := h.newP (.slice (some ⟨p0b, p0o, none⟩) qn p0c)
        refine hK.out _ _ (fun _ => HSF.out _ ht.fr) ?_
        have hk := K1110 bc bf W.heap.size _ ht
        rw [eH, ea0] at hk
        exact held_same hk (by kernel_rfl) (by kernel_rfl)
      · refine ⟨_, rfl, by kernel_rfl, fun K' hK => ?_⟩
        go_simp
        have ht := h.newB
        refine hK.out _ _ (fun _ => HSF.out _ ht.t.fr) ?_
        have hk := K1101 bc bf W.heap.size _ ht
        rw [eH, ea0] at hk
        exact held_same hk (by kernel_rfl) (by kernel_rfl)
    have K2000 : ∀ (xc : Value) (gc kc : Nat) (W : World), Tri wd W (.slice (some ⟨gc, 0, none⟩) (ln + 1) kc) (.slice none 0 0) (.slice none 0 0) ([z0] ++ L) [] [] → H 7 #[true, true, true, true, true, true, true, true, true, true, true, true, false, true, true, false, true, true, true, true, false, true, true, false, false, false, false] ((a0.put (some 88) (xc)).put (some 90) (.slice (some ⟨gc, 0, none⟩) (ln + 1) kc)) W := by
      intro xc gc kc W h
      rw [eH, ea0]
      try simp only [Act.put, List.setIfInBounds_toArray, List.set_cons_zero, List.set_cons_succ]
      refine hd_many [12, 20, 25] (by kernel_rfl) (by simp) (fun i hi => ?_)
      simp only [List.mem_cons, List.not_mem_nil, or_false] at hi
      rcases hi with rfl | rfl | rfl
      · refine ⟨_, rfl, by kernel_rfl, fun K' hK => ?_⟩
        go_simp
        have ht := h.newF y0
        refine hK.out _ _ (fun _ => HSF.out _ ht.fr) ?_
        have hk := K2100 xc gc kc W.heap.size _ ht
        rw [eH, ea0] at hk
        exact held_same hk (by kernel_rfl) (by kernel_rfl)
      · refine ⟨_, rfl, by kernel_rfl, fun K' hK => ?_⟩
        go_simp
        have ht := h.newP (.slice (some ⟨p0b, p0o, none⟩) qn p0c)
        refine hK.out _ _ (fun _ => HSF.out _ ht.fr) ?_
        have hk := K2010 xc gc kc W.heap.size _ ht
        rw [eH, ea0] at hk
        exact held_same hk (by kernel_rfl) (by kernel_rfl)
      · refine ⟨_, rfl, by kernel_rfl, fun K' hK => ?_⟩
        go_simp
        have ht := h.newB
        refine hK.out _ _ (fun _ => HSF.out _ ht.t.fr) ?_
        have hk := K2001 xc gc kc W.heap.size _ ht
        rw [eH, ea0] at hk
        exact held_same hk (by kernel_rfl) (by kernel_rfl)
    have K0001 : ∀ (tb : Nat) (W : World), TriB wd W (.slice none 0 0) (.slice none 0 0) (.slice none 0 0) [] [] [] tb → H 8 #[true, true, true, true, true, false, true, false, true, true, true, true, false, true, true, false, true, true, true, true, false, true, true, false, false, true, false] (a0.put (some 15) (.pointer (some ⟨tb, 0, none⟩))) W := by
      intro tb W h
      rw [eH, ea0]
      try simp only [Act.put, List.setIfInBounds_toArray, List.set_cons_zero, List.set_cons_succ]
      refine hd_many [5, 12, 20] (by kernel_rfl) (by simp) (fun i hi => ?_)
      simp only [List.mem_cons, List.not_mem_nil, or_false] at hi
      rcases hi with rfl | rfl | rfl
      · refine ⟨_, rfl, by kernel_rfl, fun K' hK => ?_⟩
        go_simp
        have ht := h.newC z0
        refine hK.out _ _ (fun _ => HSF.out _ ht.t.fr) ?_
        have hk := K1001 W.heap.size tb _ ht
        rw [eH, ea0] at hk
        exact held_same hk (by kernel_rfl) (by kernel_rfl)
      · refine ⟨_, rfl, by kernel_rfl, fun K' hK => ?_⟩
        go_simp
        have ht := h.newF y0
        refine hK.out _ _ (fun _ => HSF.out _ ht.t.fr) ?_
        have hk := K0101 W.heap.size tb _ ht
        rw [eH, ea0] at hk
        exact held_same hk (by kernel_rfl) (by kernel_rfl)
      · refine ⟨_, rfl, by kernel_rfl, fun K' hK => ?_⟩
        go_simp
        have ht := h.newP (.slice (some ⟨p0b, p0o, none⟩) qn p0c)
        refine hK.out _ _ (fun _ => HSF.out _ ht.t.fr) ?_
        have hk := K0011 W.heap.size tb _ ht
        rw [eH, ea0] at hk
        exact held_same hk (by kernel_rfl) (by kernel_rfl)
    have K0010 : ∀ (bp : Nat) (W : World), Tri wd W (.slice none 0 0) (.slice none 0 0) (.slice (some ⟨bp, 0, none⟩) 1 1) [] [] [.slice (some ⟨p0b, p0o, none⟩) qn p0c] → H 8 #[true, true, true, true, true, false, true, false, true, true, true, true, false, true, true, false, true, true, true, true, true, true, true, false, false, false, false] (a0.put (some 103) (.slice (some ⟨bp, 0, none⟩) 1 1)) W := by
      intro bp W h
      rw [eH, ea0]
      try simp only [Act.put, List.setIfInBounds_toArray, List.set_cons_zero, List.set_cons_succ]
      refine hd_many [5, 12, 25] (by kernel_rfl) (by simp) (fun i hi => ?_)
      simp only [List.mem_cons, List.not_mem_nil, or_false] at hi
      rcases hi with rfl | rfl | rfl
      · refine ⟨_, rfl, by kernel_rfl, fun K' hK => ?_⟩
        go_simp
        have ht := h.newC z0
        refine hK.out _ _ (fun _ => HSF.out _ ht.fr) ?_
        have hk := K1010 W.heap.size bp _ ht
        rw [eH, ea0] at hk
        exact held_same hk (by kernel_rfl) (by kernel_rfl)
      · refine ⟨_, rfl, by kernel_rfl, fun K' hK => ?_⟩
        go_simp
        have ht := h.newF y0
        refine hK.out _ _ (fun _ => HSF.out _ ht.fr) ?_
        have hk := K0110 W.heap.size bp _ ht
        rw [eH, ea0] at hk
        exact held_same hk (by kernel_rfl) (by kernel_rfl)
      · refine ⟨_, rfl, by kernel_rfl, fun K' hK => ?_⟩
        go_simp
        have ht := h.newB
        refine hK.out _ _ (fun _ => HSF.out _ ht.t.fr) ?_
        have hk := K0011 bp W.heap.size _ ht
        rw [eH, ea0] at hk
        exact held_same hk (by kernel_rfl) (by kernel_rfl)
    have K0100 : ∀ (bf : Nat) (W : World), Tri wd W (.slice none 0 0) (.slice (some ⟨bf, 0, none⟩) 1 1) (.slice none 0 0) [] [y0] [] → H 8 #[true, true, true, true, true, false, true, false, true, true, true, true, true, true, true, false, true, true, true, true, false, true, true, false, false, false, false] (a0.put (some 95) (.slice (some ⟨bf, 0, none⟩) 1 1)) W := by
      intro bf W h
      rw [eH, ea0]
      try simp only [Act.put, List.setIfInBounds_toArray, List.set_cons_zero, List.set_cons_succ]
      refine hd_many [5, 20, 25] (by kernel_rfl) (by simp) (fun i hi => ?_)
      simp only [List.mem_cons, List.not_mem_nil, or_false] at hi
      rcases hi with rfl | rfl | rfl
      · refine ⟨_, rfl, by kernel_rfl, fun K' hK => ?_⟩
        go_simp
        have ht := h.newC z0
        refine hK.out _ _ (fun _ => HSF.out _ ht.fr) ?_
        have hk := K1100 W.heap.size bf _ ht
        rw [eH, ea0] at hk
        exact held_same hk (by kernel_rfl) (by kernel_rfl)
      · refine ⟨_, rfl, by kernel_rfl, fun K' hK => ?_⟩
        go_simp
        have ht := h.newP (.slice (some ⟨p0b, p0o, none⟩) qn p0c)
        refine hK.out _ _ (fun _ => HSF.out _ ht.fr) ?_
        have hk := K0110 bf W.heap.size _ ht
        rw [eH, ea0] at hk
        exact held_same hk (by kernel_rfl) (by kernel_rfl)
      · refine ⟨_, rfl, by kernel_rfl, fun K' hK => ?_⟩
        go_simp
        have ht := h.newB
        refine hK.out _ _ (fun _ => HSF.out _ ht.t.fr) ?_
        have hk := K0101 bf W.heap.size _ ht
        rw [eH, ea0] at hk
        exact held_same hk (by kernel_rfl) (by kernel_rfl)
    have K1000 : ∀ (bc : Nat) (W : World), Tri wd W (.slice (some ⟨bc, 0, none⟩) 1 1) (.slice none 0 0) (.slice none 0 0) [z0] [] [] → H 8 #[true, true, true, true, true, true, true, false, true, true, true, true, false, true, true, false, true, true, true, true, false, true, true, false, false, false, false] (a0.put (some 88) (.slice (some ⟨bc, 0, none⟩) 1 1)) W := by
      intro bc W h
      rw [eH, ea0]
      try simp only [Act.put, List.setIfInBounds_toArray, List.set_cons_zero, List.set_cons_succ]
      refine hd_many [7, 12, 20, 25] (by kernel_rfl) (by simp) (fun i hi => ?_)
      simp only [List.mem_cons, List.not_mem_nil, or_false] at hi
      rcases hi with rfl | rfl | rfl | rfl
      · refine ⟨_, rfl, by kernel_rfl, fun K' hK => ?_⟩
        refine wp_appZm (.tmp 88) (.tmp 89) (by rfl) wd.heap.size _ [z0] L lb lo ln lcap (by rfl) (by rfl) ELN.out.symm (HLC.out _ (YD.out.trans h.fr (by simp))) h.c h.fr.size (by have := HLN.out; simp; omega) ?_
        intro nv W2 ho hg hat
        obtain ⟨g9, c9, rfl⟩ := ho.slice (n := ln + 1) (by simp [ELN.out]) (by omega)
        have ht := h.setC ho hg hat
        refine hK.out _ _ (fun _ => HSF.out _ ht.fr) ?_
        have hk := K2000 (.slice (some ⟨bc, 0, none⟩) 1 1) g9 c9 _ ht
        rw [eH, ea0] at hk
        exact held_same hk (by kernel_rfl) (by kernel_rfl)
      · refine ⟨_, rfl, by kernel_rfl, fun K' hK => ?_⟩
        go_simp
        have ht := h.newF y0
        refine hK.out _ _ (fun _ => HSF.out _ ht.fr) ?_
        have hk := K1100 bc W.heap.size _ ht
        rw [eH, ea0] at hk
        exact held_same hk (by kernel_rfl) (by kernel_rfl)
      · refine ⟨_, rfl, by kernel_rfl, fun K' hK => ?_⟩
        go_simp
        have ht := h.newP (.slice (some ⟨p0b, p0o, none⟩) qn p0c)
        refine hK.out _ _ (fun _ => HSF.out _ ht.fr) ?_
        have hk := K1010 bc W.heap.size _ ht
        rw [eH, ea0] at hk
        exact held_same hk (by kernel_rfl) (by kernel_rfl)
      · refine ⟨_, rfl, by kernel_rfl, fun K' hK => ?_⟩
        go_simp
        have ht := h.newB
        refine hK.out _ _ (fun _ => HSF.out _ ht.t.fr) ?_
        have hk := K1001 bc W.heap.size _ ht
        rw [eH, ea0] at hk
        exact held_same hk (by kernel_rfl) (by kernel_rfl)
    have K0000 : ∀  (W : World), Tri wd W (.slice none 0 0) (.slice none 0 0) (.slice none 0 0) [] [] [] → H 9 #[true, true, true, true, true, false, true, false, true, true, true, true, false, true, true, false, true, true, true, true, false, true, true, false, false, false, false] a0 W := by
      intro W h
      rw [eH, ea0]
      try simp only [Act.put, List.setIfInBounds_toArray, List.set_cons_zero, List.set_cons_succ]
      refine hd_many [5, 12, 20, 25] (by kernel_rfl) (by simp) (fun i hi => ?_)
      simp only [List.mem_cons, List.not_mem_nil, or_false] at hi
      rcases hi with rfl | rfl | rfl | rfl
      · refine ⟨_, rfl, by kernel_rfl, fun K' hK => ?_⟩
        go_simp
        have ht := h.newC z0
        refine hK.out _ _ (fun _ => HSF.out _ ht.fr) ?_
        have hk := K1000 W.heap.size _ ht
        rw [eH, ea0] at hk
        exact held_same hk (by kernel_rfl) (by kernel_rfl)
      · refine ⟨_, rfl, by kernel_rfl, fun K' hK => ?_⟩
        go_simp
        have ht := h.newF y0
        refine hK.out _ _ (fun _ => HSF.out _ ht.fr) ?_
        have hk := K0100 W.heap.size _ ht
        rw [eH, ea0] at hk
        exact held_same hk (by kernel_rfl) (by kernel_rfl)
      · refine ⟨_, rfl, by kernel_rfl, fun K' hK => ?_⟩
        go_simp
        have ht := h.newP (.slice (some ⟨p0b, p0o, none⟩) qn p0c)
        refine hK.out _ _ (fun _ => HSF.out _ ht.fr) ?_
        have hk := K0010 W.heap.size _ ht
        rw [eH, ea0] at hk
        exact held_same hk (by kernel_rfl) (by kernel_rfl)
      · refine ⟨_, rfl, by kernel_rfl, fun K' hK => ?_⟩
        go_simp
        have ht := h.newB
        refine hK.out _ _ (fun _ => HSF.out _ ht.t.fr) ?_
        have hk := K0001 W.heap.size _ ht
        rw [eH, ea0] at hk
        exact held_same hk (by kernel_rfl) (by kernel_rfl)
    have hk := K0000 wd Tri.start
    rw [eH, ea0] at hk
    rw [eH, ea0]
    exact held_same hk (by kernel_rfl) (by kernel_rfl)
  intro xc gc kc xf gf kf xp gp kp tb W ht
  rw [eH, ea0]
  clear eH ea0 H a0
  simp only [Act.put, List.setIfInBounds_toArray, List.set_cons_zero, List.set_cons_succ]
  have htw := HSF.out _ ht.t.fr
  have cb0 : W.cell? ⟨tb, 0, none⟩ = some (.int .i64 0) := by rw [row_cell ht.blk 0]; rfl
  have cb1 : W.cell? ⟨tb, 1, none⟩ = some (.slice none 0 0) := by rw [row_cell ht.blk 1]; rfl
  have cb2 : W.cell? ⟨tb, 2, none⟩ = some (.slice none 0 0) := by rw [row_cell ht.blk 2]; rfl
  have cb3 : W.cell? ⟨tb, 3, none⟩ = some (.slice none 0 0) := by rw [row_cell ht.blk 3]; rfl
  have fz0 := row_free ht.blk 0
  have fz1 := row_free ht.blk 1
  have fz2 := row_free ht.blk 2
  have fz3 := row_free ht.blk 3
  refine hd_one 26 (by kernel_rfl) rfl (by kernel_rfl) rfl (fun K' hK => ?_)
  go_simp
  have h9 : ((((W.setCell ⟨tb, 0, none⟩ (.int .i64 (fields.length : Int))).setCell ⟨tb, 1, none⟩ (.slice (some ⟨gc, 0, none⟩) (ln + 1) kc)).setCell ⟨tb, 2, none⟩ (.slice (some ⟨gf, 0, none⟩) (ln + 1) kf)).setCell ⟨tb, 3, none⟩ (.slice (some ⟨gp, 0, none⟩) (ln + 1) kp)).heap[tb]? = some (.cells #[.int .i64 (fields.length : Int), .slice (some ⟨gc, 0, none⟩) (ln + 1) kc, .slice (some ⟨gf, 0, none⟩) (ln + 1) kf, .slice (some ⟨gp, 0, none⟩) (ln + 1) kp] 26 (0, 0)) := row_set (row_set (row_set (row_set ht.blk 0 _) 1 _) 2 _) 3 _
  have f9 : Fr [tb] W ((((W.setCell ⟨tb, 0, none⟩ (.int .i64 (fields.length : Int))).setCell ⟨tb, 1, none⟩ (.slice (some ⟨gc, 0, none⟩) (ln + 1) kc)).setCell ⟨tb, 2, none⟩ (.slice (some ⟨gf, 0, none⟩) (ln + 1) kf)).setCell ⟨tb, 3, none⟩ (.slice (some ⟨gp, 0, none⟩) (ln + 1) kp)) := ((((Fr.refl [tb] W).setCell _ _ (by simp)).setCell _ _ (by simp)).setCell _ _ (by simp)).setCell _ _ (by simp)
  have htb := ht.b
  have hyd := YD.out.size
  have f59 : Fr [] w5 ((((W.setCell ⟨tb, 0, none⟩ (.int .i64 (fields.length : Int))).setCell ⟨tb, 1, none⟩ (.slice (some ⟨gc, 0, none⟩) (ln + 1) kc)).setCell ⟨tb, 2, none⟩ (.slice (some ⟨gf, 0, none⟩) (ln + 1) kf)).setCell ⟨tb, 3, none⟩ (.slice (some ⟨gp, 0, none⟩) (ln + 1) kp)) := (YD.out.trans ht.t.fr (by simp)).trans f9 (fun y hy => Or.inr (by simp at hy; omega))
  have hS9 : (fun W => W.cell? ⟨db, 0, none⟩ = some (.int .i64 (fields.length : Int)) ∧ W.cell? ⟨db, 2, none⟩ = some (.slice (some ⟨dfb, dfo, none⟩) ln dfc) ∧ W.cell? ⟨db, 3, none⟩ = some (.slice (some ⟨dpb, dpo, none⟩) ln dpc) ∧ W.cell? ⟨lb, lo, none⟩ = some (.int .i64 z0) ∧ W.cell? ⟨dfb, dfo, none⟩ = some (.string ⟨y0.toArray⟩) ∧ W.cell? ⟨dpb, dpo, none⟩ = some (.slice (some ⟨p0b, p0o, none⟩) qn p0c)) ((((W.setCell ⟨tb, 0, none⟩ (.int .i64 (fields.length : Int))).setCell ⟨tb, 1, none⟩ (.slice (some ⟨gc, 0, none⟩) (ln + 1) kc)).setCell ⟨tb, 2, none⟩ (.slice (some ⟨gf, 0, none⟩) (ln + 1) kf)).setCell ⟨tb, 3, none⟩ (.slice (some ⟨gp, 0, none⟩) (ln + 1) kp)) := HSF.out _ (ht.t.fr.trans f9 (fun y hy => Or.inr (by simp at hy; omega)))
  refine hK.out _ _ (fun _ => hS9) ?_
  clear hK K'
  refine held_done (by kernel_rfl) ?_
  have QT : Hid (DAt tb (.int .i64 (fields.length : Int)) (.slice (some ⟨gc, 0, none⟩) (ln + 1) kc) (.slice (some ⟨gf, 0, none⟩) (ln + 1) kf) (.slice (some ⟨gp, 0, none⟩) (ln + 1) kp) ((((W.setCell ⟨tb, 0, none⟩ (.int .i64 (fields.length : Int))).setCell ⟨tb, 1, none⟩ (.slice (some ⟨gc, 0, none⟩) (ln + 1) kc)).setCell ⟨tb, 2, none⟩ (.slice (some ⟨gf, 0, none⟩) (ln + 1) kf)).setCell ⟨tb, 3, none⟩ (.slice (some ⟨gp, 0, none⟩) (ln + 1) kp))) := Lib.hid (DAt.of h9)
  have HTD : Hid (DiscR ((((W.setCell ⟨tb, 0, none⟩ (.int .i64 (fields.length : Int))).setCell ⟨tb, 1, none⟩ (.slice (some ⟨gc, 0, none⟩) (ln + 1) kc)).setCell ⟨tb, 2, none⟩ (.slice (some ⟨gf, 0, none⟩) (ln + 1) kf)).setCell ⟨tb, 3, none⟩ (.slice (some ⟨gp, 0, none⟩) (ln + 1) kp)) (.agg #[.int .i64 (fields.length : Int), .slice (some ⟨gc, 0, none⟩) (ln + 1) kc, .slice (some ⟨gf, 0, none⟩) (ln + 1) kf, .slice (some ⟨gp, 0, none⟩) (ln + 1) kp]) ⟨fields.length, z0 :: L, y0 :: F, q0 :: PP⟩) := Lib.hid ⟨_, _, _, rfl, (ht.t.c.fr f9 (fun b hb hm => by simp at hm; subst hm; exact ht.nc (by simpa using hb))).zs, (ht.t.f.fr f9 (fun b hb hm => by simp at hm; subst hm; exact ht.nf (by simpa using hb))).strs,
    (ht.t.p.fr f9 (fun b hb hm => by simp at hm; subst hm; exact ht.np (by simpa using hb))).ss (l := q0 :: PP) (by simp [HUL.out, EPP.out]) (fun i hi => by
      match i, hi with
      | 0, _ => exact HUU.out _ f59
      | i + 1, hi =>
        have h1 := HUR.out i (by simp [EPP.out] at hi; omega)
        exact (h1.fr0 F45.out).fr0 f59)⟩
  have F59 := Lib.hid f59
  generalize (((W.setCell ⟨tb, 0, none⟩ (.int .i64 (fields.length : Int))).setCell ⟨tb, 1, none⟩ (.slice (some ⟨gc, 0, none⟩) (ln + 1) kc)).setCell ⟨tb, 2, none⟩ (.slice (some ⟨gf, 0, none⟩) (ln + 1) kf)).setCell ⟨tb, 3, none⟩ (.slice (some ⟨gp, 0, none⟩) (ln + 1) kp) = w9 at QT HTD F59 ⊢
  have hf9 : Fr [] w w9 := hf5.trans F59.out (by simp)
  clear h9 f9 f59 hS9 htw ht cb0 cb1 cb2 cb3 fz0 fz1 fz2 fz3 hyd htb HSF YD
  have HQN : Hid (q0.length ≤ 100) := Lib.hid (by have h1 := HPTL.out; have h2 := plen_le fields.length z0.toNat; have h3 := HSH.out.2; rw [HQC.out, List.length_cons]; omega)
  obtain ⟨d0, d1, d2, d3⟩ := Q5.out.fr F59.out (by simp)
  go_upto_region 12 with (fail)
  have fa : Fr [] w9 (w9.alloc (.cells #[.int .i64 (fields.length : Int), .slice (some ⟨dwb, dwo, none⟩) ln dwc, .slice (some ⟨dfb, dfo, none⟩) ln dfc, .slice (some ⟨dpb, dpo, none⟩) ln dpc] 26)) := (Fr.refl [] w9).alloc _
  have qa : (w9.alloc (.cells #[.int .i64 (fields.length : Int), .slice (some ⟨dwb, dwo, none⟩) ln dwc, .slice (some ⟨dfb, dfo, none⟩) ln dfc, .slice (some ⟨dpb, dpo, none⟩) ln dpc] 26)).heap[w9.heap.size]? = some (.cells #[.int .i64 (fields.length : Int), .slice (some ⟨dwb, dwo, none⟩) ln dwc, .slice (some ⟨dfb, dfo, none⟩) ln dfc, .slice (some ⟨dpb, dpo, none⟩) ln dpc] 26 (0, 0)) := heap_new rfl
  generalize w9.alloc (.cells #[.int .i64 (fields.length : Int), .slice (some ⟨dwb, dwo, none⟩) ln dwc, .slice (some ⟨dfb, dfo, none⟩) ln dfc, .slice (some ⟨dpb, dpo, none⟩) ln dpc] 26) = w9a at fa qa ⊢
  obtain ⟨b12, eb12⟩ : ∃ b, b = w9.heap.size := ⟨_, rfl⟩
  rw [← eb12] at qa ⊢
  have Eb12 := Lib.hid eb12
  have FA := Lib.hid fa
  have QA := Lib.hid qa
  have G5 := Lib.hid (F59.out.trans fa (by simp))
  clear d0 d1 d2 d3 eb12 qa fa
  have WS12 : Hid (b12 = w9.heap.size ∧ w5.heap.size ≤ w9.heap.size) := Lib.hid ⟨Eb12.out, F59.out.size⟩
  obtain ⟨d0, d1, d2, d3⟩ := Q5.out.fr G5.out (by simp)
  have ep0 : w9a.cell? ⟨dpb, dpo, none⟩ = some (.slice (some ⟨p0b, p0o, none⟩) qn p0c) := by have := HPC.out _ G5.out 0 hl0; rwa [Nat.add_zero, HUV.out] at this
  have hS0 : (fun W => W.cell? ⟨db, 3, none⟩ = some (.slice (some ⟨dpb, dpo, none⟩) ln dpc) ∧ W.cell? ⟨dpb, dpo, none⟩ = some (.slice (some ⟨p0b, p0o, none⟩) qn p0c)) w9a.drew := ⟨d3, ep0⟩
  refine region_held 100 (fun W => W.cell? ⟨db, 3, none⟩ = some (.slice (some ⟨dpb, dpo, none⟩) ln dpc) ∧ W.cell? ⟨dpb, dpo, none⟩ = some (.slice (some ⟨p0b, p0o, none⟩) qn p0c)) hmx ?_
  change Held _ _ _ _ _ _ 16 (Array.replicate 16 false) _ _
  refine hd_take 1 (v := .pointer (some ⟨db, 3, none⟩)) rfl (by kernel_rfl) (by kernel_rfl) (by kernel_rfl) rfl hS0 (fun W' hS => by obtain ⟨h0, h1⟩ := hS; first | (go_simp; done) | (go_simp; intro hix; omega)) rfl ?_
  refine hd_take 6 (v := .string ⟨more.toArray⟩) rfl (by kernel_rfl) (by kernel_rfl) (by kernel_rfl) rfl hS0 (fun W' hS => by obtain ⟨h0, h1⟩ := hS; first | (go_simp; done) | (go_simp; intro hix; omega)) rfl ?_
  refine hd_take 10 (v := .pointer (some ⟨db, 3, none⟩)) rfl (by kernel_rfl) (by kernel_rfl) (by kernel_rfl) rfl hS0 (fun W' hS => by obtain ⟨h0, h1⟩ := hS; first | (go_simp; done) | (go_simp; intro hix; omega)) rfl ?_
  simp only [Act.put, List.setIfInBounds_toArray, List.set_cons_zero, List.set_cons_succ]
  refine hd_take 2 (v := .slice (some ⟨dpb, dpo, none⟩) ln dpc) rfl (by kernel_rfl) (by kernel_rfl) (by kernel_rfl) rfl hS0 (fun W' hS => by obtain ⟨h0, h1⟩ := hS; first | (go_simp; done) | (go_simp; intro hix; omega)) rfl ?_
  refine hd_take 11 (v := .slice (some ⟨dpb, dpo, none⟩) ln dpc) rfl (by kernel_rfl) (by kernel_rfl) (by kernel_rfl) rfl hS0 (fun W' hS => by obtain ⟨h0, h1⟩ := hS; first | (go_simp; done) | (go_simp; intro hix; omega)) rfl ?_
  simp only [Act.put, List.setIfInBounds_toArray, List.set_cons_zero, List.set_cons_succ]
  refine hd_take 3 (v := .pointer (some ⟨dpb, dpo, none⟩)) rfl (by kernel_rfl) (by kernel_rfl) (by kernel_rfl) rfl hS0 (fun W' hS => by obtain ⟨h0, h1⟩ := hS; first | (go_simp; done) | (go_simp; intro hix; omega)) rfl ?_
  refine hd_take 12 (v := .slice (some ⟨dpb, dq, none⟩) (ln - 1) (dpc - 1)) rfl (by kernel_rfl) (by kernel_rfl) (by kernel_rfl) rfl hS0 (fun W' hS => by rcases HDQ.out with ⟨⟨e1, e2, e3⟩ | ⟨e1, e2⟩, e4, e5, e6⟩ <;> (have g1 : (1 : Int) ≤ (ln : Int) := by omega) <;> (have g2 : (1 : Int) ≤ (dpc : Int) := by omega) <;> first | (subst e1 e2 e3; go_simp; done) | ((have g3 : ¬ dpc - 1 = 0 := by omega); (have g4 : ¬ dpc ≤ 1 := by omega); subst e2; go_simp; done)) rfl ?_
  simp only [Act.put, List.setIfInBounds_toArray, List.set_cons_zero, List.set_cons_succ]
  refine hd_take 4 (v := .slice (some ⟨p0b, p0o, none⟩) qn p0c) rfl (by kernel_rfl) (by kernel_rfl) (by kernel_rfl) rfl hS0 (fun W' hS => by obtain ⟨h0, h1⟩ := hS; first | (go_simp; done) | (go_simp; intro hix; omega)) rfl ?_
  simp only [Act.put, List.setIfInBounds_toArray, List.set_cons_zero, List.set_cons_succ]
  have yd : Fr [] w9a w9a.drew := (Fr.refl [] w9a).drew
  generalize w9a.drew = wd at yd hS0 ⊢
  have HSF : Hid (∀ W, Fr [] wd W → (fun W => W.cell? ⟨db, 3, none⟩ = some (.slice (some ⟨dpb, dpo, none⟩) ln dpc) ∧ W.cell? ⟨dpb, dpo, none⟩ = some (.slice (some ⟨p0b, p0o, none⟩) qn p0c)) W) := Lib.hid (fun W hW => ⟨hW.cell hS0.1 (by simp), hW.cell hS0.2 (by simp)⟩)
  have YD := Lib.hid yd
  have QD := Lib.hid (yd.at QA.out (by simp))
  have hbd : b12 < wd.heap.size := lt_of_block QD.out
  clear hS0 yd d0 d1 d2 d3 ep0
  refine held_name (fun a0 ea0 => held_pred (fun H eH => ?_))
  suffices J057 : ∀ (ba ga ka : Nat) (bm : Nat) (W : World), Duo wd W (.slice (some ⟨ga, 0, none⟩) qn ka) (.slice (some ⟨bm, 0, none⟩) 1 1) q0 [more] → H 5 #[true, true, true, true, true, true, true, true, false, false, true, true, true, false, false, false] (((a0.put (some 109) (.slice (some ⟨ba, 0, none⟩) 0 0)).put (some 114) (.slice (some ⟨ga, 0, none⟩) qn ka)).put (some 116) (.slice (some ⟨bm, 0, none⟩) 1 1)) W by
    have J05 : ∀ (ba ga ka : Nat) (W : World), Duo wd W (.slice (some ⟨ga, 0, none⟩) qn ka) (.slice none 0 0) q0 [] → H 6 #[true, true, true, true, true, true, true, false, false, false, true, true, true, false, false, false] ((a0.put (some 109) (.slice (some ⟨ba, 0, none⟩) 0 0)).put (some 114) (.slice (some ⟨ga, 0, none⟩) qn ka)) W := by
      intro ba ga ka W h
      rw [eH, ea0]
      try simp only [Act.put, List.setIfInBounds_toArray, List.set_cons_zero, List.set_cons_succ]
      refine hd_many [7] (by kernel_rfl) (by simp) (fun i hi => ?_)
      simp only [List.mem_cons, List.not_mem_nil, or_false] at hi
      subst hi
      · refine ⟨_, rfl, by kernel_rfl, fun K' hK => ?_⟩
        go_simp
        have ht := h.newM more
        refine hK.out _ _ (fun _ => HSF.out _ ht.fr) ?_
        have hk := J057 ba ga ka W.heap.size _ ht
        rw [eH, ea0] at hk
        exact held_same hk (by kernel_rfl) (by kernel_rfl)
    have J07 : ∀ (ba : Nat) (bm : Nat) (W : World), Duo wd W (.slice (some ⟨ba, 0, none⟩) 0 0) (.slice (some ⟨bm, 0, none⟩) 1 1) [] [more] → H 6 #[true, true, true, true, true, false, true, true, false, false, true, true, true, false, false, false] ((a0.put (some 109) (.slice (some ⟨ba, 0, none⟩) 0 0)).put (some 116) (.slice (some ⟨bm, 0, none⟩) 1 1)) W := by
      intro ba bm W h
      rw [eH, ea0]
      try simp only [Act.put, List.setIfInBounds_toArray, List.set_cons_zero, List.set_cons_succ]
      refine hd_many [5] (by kernel_rfl) (by simp) (fun i hi => ?_)
      simp only [List.mem_cons, List.not_mem_nil, or_false] at hi
      subst hi
      · refine ⟨_, rfl, by kernel_rfl, fun K' hK => ?_⟩
        refine wp_appSm (.tmp 109) (.tmp 113) (by rfl) wd.heap.size _ [] q0 p0b p0o qn p0c (by rfl) (by rfl) EQN.out.symm (HUU.out _ ((G5.out.trans YD.out (by simp)).trans h.fr (by simp))) h.a h.fr.size (by have := HQN.out; have := EQN.out; simp; omega) ?_
        intro nv W2 ho hg hat
        obtain ⟨g9, c9, rfl⟩ := ho.slice (n := qn) (by simp [EQN.out]) hqn
        have ht := h.setA ho hg hat
        refine hK.out _ _ (fun _ => HSF.out _ ht.fr) ?_
        have hk := J057 ba g9 c9 bm _ ht
        rw [eH, ea0] at hk
        exact held_same hk (by kernel_rfl) (by kernel_rfl)
    have J0 : ∀ (ba : Nat) (W : World), Duo wd W (.slice (some ⟨ba, 0, none⟩) 0 0) (.slice none 0 0) [] [] → H 7 #[true, true, true, true, true, false, true, false, false, false, true, true, true, false, false, false] (a0.put (some 109) (.slice (some ⟨ba, 0, none⟩) 0 0)) W := by
      intro ba W h
      rw [eH, ea0]
      try simp only [Act.put, List.setIfInBounds_toArray, List.set_cons_zero, List.set_cons_succ]
      refine hd_many [5, 7] (by kernel_rfl) (by simp) (fun i hi => ?_)
      simp only [List.mem_cons, List.not_mem_nil, or_false] at hi
      rcases hi with rfl | rfl
      · refine ⟨_, rfl, by kernel_rfl, fun K' hK => ?_⟩
        refine wp_appSm (.tmp 109) (.tmp 113) (by rfl) wd.heap.size _ [] q0 p0b p0o qn p0c (by rfl) (by rfl) EQN.out.symm (HUU.out _ ((G5.out.trans YD.out (by simp)).trans h.fr (by simp))) h.a h.fr.size (by have := HQN.out; have := EQN.out; simp; omega) ?_
        intro nv W2 ho hg hat
        obtain ⟨g9, c9, rfl⟩ := ho.slice (n := qn) (by simp [EQN.out]) hqn
        have ht := h.setA ho hg hat
        refine hK.out _ _ (fun _ => HSF.out _ ht.fr) ?_
        have hk := J05 ba g9 c9 _ ht
        rw [eH, ea0] at hk
        exact held_same hk (by kernel_rfl) (by kernel_rfl)
      · refine ⟨_, rfl, by kernel_rfl, fun K' hK => ?_⟩
        go_simp
        have ht := h.newM more
        refine hK.out _ _ (fun _ => HSF.out _ ht.fr) ?_
        have hk := J07 ba W.heap.size _ ht
        rw [eH, ea0] at hk
        exact held_same hk (by kernel_rfl) (by kernel_rfl)
    have J7 : ∀ (bm : Nat) (W : World), Duo wd W (.slice none 0 0) (.slice (some ⟨bm, 0, none⟩) 1 1) [] [more] → H 7 #[false, true, true, true, true, false, true, true, false, false, true, true, true, false, false, false] (a0.put (some 116) (.slice (some ⟨bm, 0, none⟩) 1 1)) W := by
      intro bm W h
      rw [eH, ea0]
      try simp only [Act.put, List.setIfInBounds_toArray, List.set_cons_zero, List.set_cons_succ]
      refine hd_many [0] (by kernel_rfl) (by simp) (fun i hi => ?_)
      simp only [List.mem_cons, List.not_mem_nil, or_false] at hi
      subst hi
      · refine ⟨_, rfl, by kernel_rfl, fun K' hK => ?_⟩
        go_simp
        have ht := h.newE
        refine hK.out _ _ (fun _ => HSF.out _ ht.fr) ?_
        have hk := J07 W.heap.size bm _ ht
        rw [eH, ea0] at hk
        exact held_same hk (by kernel_rfl) (by kernel_rfl)
    have Jn : ∀  (W : World), Duo wd W (.slice none 0 0) (.slice none 0 0) [] [] → H 8 #[false, true, true, true, true, false, true, false, false, false, true, true, true, false, false, false] a0 W := by
      intro W h
      rw [eH, ea0]
      try simp only [Act.put, List.setIfInBounds_toArray, List.set_cons_zero, List.set_cons_succ]
      refine hd_many [0, 7] (by kernel_rfl) (by simp) (fun i hi => ?_)
      simp only [List.mem_cons, List.not_mem_nil, or_false] at hi
      rcases hi with rfl | rfl
      · refine ⟨_, rfl, by kernel_rfl, fun K' hK => ?_⟩
        go_simp
        have ht := h.newE
        refine hK.out _ _ (fun _ => HSF.out _ ht.fr) ?_
        have hk := J0 W.heap.size _ ht
        rw [eH, ea0] at hk
        exact held_same hk (by kernel_rfl) (by kernel_rfl)
      · refine ⟨_, rfl, by kernel_rfl, fun K' hK => ?_⟩
        go_simp
        have ht := h.newM more
        refine hK.out _ _ (fun _ => HSF.out _ ht.fr) ?_
        have hk := J7 W.heap.size _ ht
        rw [eH, ea0] at hk
        exact held_same hk (by kernel_rfl) (by kernel_rfl)
    have hk := Jn wd Duo.start
    rw [eH, ea0] at hk
    rw [eH, ea0]
    exact held_same hk (by kernel_rfl) (by kernel_rfl)
  intro ba ga ka bm wq hduo
  rw [eH, ea0]
  clear eH ea0 H a0
  simp only [Act.put, List.setIfInBounds_toArray, List.set_cons_zero, List.set_cons_succ]
  refine hd_one 8 (by kernel_rfl) rfl (by kernel_rfl) rfl (fun K' hK => ?_)
  refine wp_appSm (.tmp 114) (.tmp 116) (by rfl) wd.heap.size _ q0 [more] bm 0 1 1 (by rfl) (by rfl) (by simp) hduo.b.strs hduo.a hduo.fr.size (by have := HQN.out; have := EQN.out; omega) ?_
  intro nv wp hoq hgq hatq
  obtain ⟨gq, cq, rfl⟩ := hoq.slice (n := qn + 1) (by simp [EQN.out]) (by omega)
  have fdp : Fr [] wd wp := hduo.fr.trans hgq (fun y hy => Or.inr (ownBlock_cells hduo.a y (by simpa using hy)).1)
  refine hK.out _ _ (fun _ => HSF.out _ fdp) ?_
  clear hK K'
  try simp only [Act.put, List.setIfInBounds_toArray, List.set_cons_zero, List.set_cons_succ]
  have hstr : Strs wp (.slice (some ⟨gq, 0, none⟩) (qn + 1) cq) (q0 ++ [more]) := hoq.strs
  have hgqb := (ownBlock_cells hoq gq rfl).1
  refine hd_one 9 (by kernel_rfl) rfl (by kernel_rfl) rfl (fun K' hK => ?_)
  go_simp
  have fo : Fr [] wp (wp.alloc (.cells #[.slice (some ⟨gq, 0, none⟩) (qn + 1) cq] 22)) := (Fr.refl [] wp).alloc _
  have hop : OwnV wd.heap.size (wp.alloc (.cells #[.slice (some ⟨gq, 0, none⟩) (qn + 1) cq] 22)) (.slice (some ⟨wp.heap.size, 0, none⟩) 1 1) [.slice (some ⟨gq, 0, none⟩) (qn + 1) cq] := OwnV.one fdp.size
  generalize wp.alloc (.cells #[.slice (some ⟨gq, 0, none⟩) (qn + 1) cq] 22) = wo at fo hop ⊢
  have fdo : Fr [] wd wo := fdp.trans fo (by simp)
  have hpb : wd.heap.size ≤ wp.heap.size := fdp.size
  refine hK.out _ _ (fun _ => HSF.out _ fdo) ?_
  clear hK K'
  refine hd_one 13 (by kernel_rfl) rfl (by kernel_rfl) rfl (fun K' hK => ?_)
  refine wp_appVm (.tmp 118) (.tmp 121) (by rfl) wd.heap.size _ [.slice (some ⟨gq, 0, none⟩) (qn + 1) cq] (us.drop 1) dpb dq (ln - 1) (dpc - 1) (by rfl) (by rfl) (by rw [List.length_drop, HUL.out, ← ELN.out]) (HPD.out _ ((G5.out.trans YD.out (by simp)).trans fdo (by simp))) (fun u hu => HONE.out u (List.mem_of_mem_drop hu)) hop fdo.size (by have := HLN.out; simp; omega) ?_
  intro nv w8 ho8 hg8 hat8
  obtain ⟨gn, cn, rfl⟩ := ho8.slice (n := ln) (by simp [HUL.out, ELN.out]; have := ELN.out; omega) hl0
  have fd8 : Fr [] wd w8 := fdo.trans hg8 (fun y hy => Or.inr (by simp [Value.ownBlock] at hy; omega))
  have fo8 : Fr [] wp w8 := fo.trans hg8 (fun y hy => Or.inr (by simp [Value.ownBlock] at hy; omega))
  refine hK.out _ _ (fun _ => HSF.out _ fd8) ?_
  clear hK K'
  try simp only [Act.put, List.setIfInBounds_toArray, List.set_cons_zero, List.set_cons_succ]
  have blk8 := fd8.at QD.out (by simp)
  have e1 : w8.cell? ⟨b12, 3, none⟩ = some (.slice (some ⟨dpb, dpo, none⟩) ln dpc) := by rw [row_cell blk8 3]; rfl
  have e2 := row_free blk8 3
  refine hd_one 14 (by kernel_rfl) rfl (by kernel_rfl) rfl (fun K' hK => ?_)
  go_simp
  refine hK.out _ _ (fun _ => HSF.out _ fd8) ?_
  clear hK K'
  refine hd_one 15 (by kernel_rfl) rfl (by kernel_rfl) rfl (fun K' hK => ?_)
  go_simp
  have x89 : Fr [b12] w8 (w8.setCell ⟨b12, 3, none⟩ (.slice (some ⟨gn, 0, none⟩) ln cn)) := (Fr.refl _ _).setCell _ _ (by simp)
  have fW : Fr [] w9 (w8.setCell ⟨b12, 3, none⟩ (.slice (some ⟨gn, 0, none⟩) ln cn)) := ((FA.out.trans YD.out (by simp)).trans fd8 (by simp)).trans x89 (fun y hy => Or.inr (by have := Eb12.out; simp at hy; omega))
  have HS9 := HSF.out _ fd8
  refine hK.out _ _ (fun _ => ⟨x89.cell HS9.1 (by simp; have h1 := EDB.out; have h2 := World.block_lt_of_cell? _ _ (HUC.out 0 (by have := ELN.out; omega)); have h3 := F59.out.size; have h4 := F45.out.size; have h5 := World.block_lt_of_cell? _ _ Q5.out.1; have h6 := WS12.out; simp only at h2 h5; omega), x89.cell HS9.2 (by simp; have h1 := EDB.out; have h2 := World.block_lt_of_cell? _ _ (HUC.out 0 (by have := ELN.out; omega)); have h3 := F59.out.size; have h4 := F45.out.size; have h5 := World.block_lt_of_cell? _ _ Q5.out.1; have h6 := WS12.out; simp only at h2 h5; omega)⟩) ?_
  clear hK K'
  refine held_done (by kernel_rfl) ?_
  have f5W := F59.out.trans fW (by simp)
  have Q12 : Hid (DAt b12 (.int .i64 (fields.length : Int)) (.slice (some ⟨dwb, dwo, none⟩) ln dwc) (.slice (some ⟨dfb, dfo, none⟩) ln dfc) (.slice (some ⟨gn, 0, none⟩) ln cn) (w8.setCell ⟨b12, 3, none⟩ (.slice (some ⟨gn, 0, none⟩) ln cn))) := Lib.hid (DAt.of (row_set blk8 3 _))
  have HD12 : Hid (DiscR (w8.setCell ⟨b12, 3, none⟩ (.slice (some ⟨gn, 0, none⟩) ln cn)) (.agg #[.int .i64 (fields.length : Int), .slice (some ⟨dwb, dwo, none⟩) ln dwc, .slice (some ⟨dfb, dfo, none⟩) ln dfc, .slice (some ⟨gn, 0, none⟩) ln cn]) ⟨fields.length, L, F, (q0 ++ [more]) :: PP.drop 1⟩) := Lib.hid ⟨_, _, _, rfl, (HDW.out.fr0 F45.out).fr0 f5W, HFC.out _ f5W, by
    have hss := (ho8.fr x89 (fun b hb hm => by have := (ownBlock_cells ho8 b hb).1; simp at hm; omega)).ss (l := (q0 ++ [more]) :: PP.drop 1) (by simp [HUL.out, HPL.out, ELN.out]) (fun i hi => by
      match i, hi with
      | 0, _ => exact ((hstr).fr0 fo8).fr x89 (fun b hb hm => by simp [Value.ownBlock] at hb; simp at hm; omega)
      | i + 1, hi =>
        have h1 := HUR.out (i + 1) (by simp [HPL.out] at hi; have := ELN.out; omega)
        have h2 := (h1.fr0 F45.out).fr0 f5W
        rwa [← drop_getD us i, ← drop_getD PP i] at h2)
    simpa [HPL.out, show ln - 1 + 1 = ln by omega] using hss⟩
  have F12 := Lib.hid f5W
  have G912 := Lib.hid fW
  generalize w8.setCell ⟨b12, 3, none⟩ (.slice (some ⟨gn, 0, none⟩) ln cn) = w12 at Q12 HD12 F12 G912 ⊢
  clear x89 fW f5W ho8 hg8 hat8 fd8 fo8 fdo fo hop blk8 e1 e2 HS9 hpb HSF YD QD QA FA G5 hbd
  obtain ⟨d0, d1, d2, d3⟩ := Q5.out.fr F12.out (by simp)
  go_upto_region 14 with (fail)
  have fa : Fr [] w12 (w12.alloc (.cells #[.int .i64 (fields.length : Int), .slice (some ⟨dwb, dwo, none⟩) ln dwc, .slice (some ⟨dfb, dfo, none⟩) ln dfc, .slice (some ⟨dpb, dpo, none⟩) ln dpc] 26)) := (Fr.refl [] w12).alloc _
  have qa : (w12.alloc (.cells #[.int .i64 (fields.length : Int), .slice (some ⟨dwb, dwo, none⟩) ln dwc, .slice (some ⟨dfb, dfo, none⟩) ln dfc, .slice (some ⟨dpb, dpo, none⟩) ln dpc] 26)).heap[w12.heap.size]? = some (.cells #[.int .i64 (fields.length : Int), .slice (some ⟨dwb, dwo, none⟩) ln dwc, .slice (some ⟨dfb, dfo, none⟩) ln dfc, .slice (some ⟨dpb, dpo, none⟩) ln dpc] 26 (0, 0)) := heap_new rfl
  generalize w12.alloc (.cells #[.int .i64 (fields.length : Int), .slice (some ⟨dwb, dwo, none⟩) ln dwc, .slice (some ⟨dfb, dfo, none⟩) ln dfc, .slice (some ⟨dpb, dpo, none⟩) ln dpc] 26) = w12a at fa qa ⊢
  obtain ⟨b14, eb14⟩ : ∃ b, b = w12.heap.size := ⟨_, rfl⟩
  rw [← eb14] at qa ⊢
  have Eb14 := Lib.hid eb14
  have FA := Lib.hid fa
  have QA := Lib.hid qa
  have G5 := Lib.hid (F12.out.trans fa (by simp))
  clear d0 d1 d2 d3 eb14 qa fa
  have WS14 : Hid (b14 = w12.heap.size ∧ w5.heap.size ≤ w12.heap.size) := Lib.hid ⟨Eb14.out, F12.out.size⟩
  obtain ⟨d0, d1, d2, d3⟩ := Q5.out.fr G5.out (by simp)
  have ep0 : w12a.cell? ⟨dpb, dpo, none⟩ = some (.slice (some ⟨p0b, p0o, none⟩) qn p0c) := by have := HPC.out _ G5.out 0 hl0; rwa [Nat.add_zero, HUV.out] at this
  have hS0 : (fun W => W.cell? ⟨db, 3, none⟩ = some (.slice (some ⟨dpb, dpo, none⟩) ln dpc) ∧ W.cell? ⟨dpb, dpo, none⟩ = some (.slice (some ⟨p0b, p0o, none⟩) qn p0c)) w12a.drew := ⟨d3, ep0⟩
  refine region_held 100 (fun W => W.cell? ⟨db, 3, none⟩ = some (.slice (some ⟨dpb, dpo, none⟩) ln dpc) ∧ W.cell? ⟨dpb, dpo, none⟩ = some (.slice (some ⟨p0b, p0o, none⟩) qn p0c)) hmx ?_
  change Held _ _ _ _ _ _ 18 (Array.replicate 18 false) _ _
  have xw : IntKind.i64.wrap ((qn : Int) - 1) = ((qn - 1 : Nat) : Int) := by rw [IntWalk.i64_in _ (by have := HXQ.out; omega)]; have := HXQ.out; omega
  have xi1 : (0 : Int) ≤ ((qn - 1 : Nat) : Int) := by omega
  have xi2 : ((qn - 1 : Nat) : Int) ≤ (p0c : Int) := by have := HXQ.out; omega
  refine hd_take 0 (v := .pointer (some ⟨db, 3, none⟩)) rfl (by kernel_rfl) (by kernel_rfl) (by kernel_rfl) rfl hS0 (fun W' hS => by obtain ⟨h0, h1⟩ := hS; first | (go_simp; done) | (go_simp; intro hix; omega)) rfl ?_
  refine hd_take 4 (v := .pointer (some ⟨db, 3, none⟩)) rfl (by kernel_rfl) (by kernel_rfl) (by kernel_rfl) rfl hS0 (fun W' hS => by obtain ⟨h0, h1⟩ := hS; first | (go_simp; done) | (go_simp; intro hix; omega)) rfl ?_
  refine hd_take 12 (v := .pointer (some ⟨db, 3, none⟩)) rfl (by kernel_rfl) (by kernel_rfl) (by kernel_rfl) rfl hS0 (fun W' hS => by obtain ⟨h0, h1⟩ := hS; first | (go_simp; done) | (go_simp; intro hix; omega)) rfl ?_
  simp only [Act.put, List.setIfInBounds_toArray, List.set_cons_zero, List.set_cons_succ]
  refine hd_take 1 (v := .slice (some ⟨dpb, dpo, none⟩) ln dpc) rfl (by kernel_rfl) (by kernel_rfl) (by kernel_rfl) rfl hS0 (fun W' hS => by obtain ⟨h0, h1⟩ := hS; first | (go_simp; done) | (go_simp; intro hix; omega)) rfl ?_
  refine hd_take 5 (v := .slice (some ⟨dpb, dpo, none⟩) ln dpc) rfl (by kernel_rfl) (by kernel_rfl) (by kernel_rfl) rfl hS0 (fun W' hS => by obtain ⟨h0, h1⟩ := hS; first | (go_simp; done) | (go_simp; intro hix; omega)) rfl ?_
  refine hd_take 13 (v := .slice (some ⟨dpb, dpo, none⟩) ln dpc) rfl (by kernel_rfl) (by kernel_rfl) (by kernel_rfl) rfl hS0 (fun W' hS => by obtain ⟨h0, h1⟩ := hS; first | (go_simp; done) | (go_simp; intro hix; omega)) rfl ?_
  simp only [Act.put, List.setIfInBounds_toArray, List.set_cons_zero, List.set_cons_succ]
  refine hd_take 2 (v := .pointer (some ⟨dpb, dpo, none⟩)) rfl (by kernel_rfl) (by kernel_rfl) (by kernel_rfl) rfl hS0 (fun W' hS => by obtain ⟨h0, h1⟩ := hS; first | (go_simp; done) | (go_simp; intro hix; omega)) rfl ?_
  refine hd_take 6 (v := .pointer (some ⟨dpb, dpo, none⟩)) rfl (by kernel_rfl) (by kernel_rfl) (by kernel_rfl) rfl hS0 (fun W' hS => by obtain ⟨h0, h1⟩ := hS; first | (go_simp; done) | (go_simp; intro hix; omega)) rfl ?_
  refine hd_take 14 (v := .slice (some ⟨dpb, dq, none⟩) (ln - 1) (dpc - 1)) rfl (by kernel_rfl) (by kernel_rfl) (by kernel_rfl) rfl hS0 (fun W' hS => by rcases HDQ.out with ⟨⟨e1, e2, e3⟩ | ⟨e1, e2⟩, e4, e5, e6⟩ <;> (have g1 : (1 : Int) ≤ (ln : Int) := by omega) <;> (have g2 : (1 : Int) ≤ (dpc : Int) := by omega) <;> first | (subst e1 e2 e3; go_simp; done) | ((have g3 : ¬ dpc - 1 = 0 := by omega); (have g4 : ¬ dpc ≤ 1 := by omega); subst e2; go_simp; done)) rfl ?_
  simp only [Act.put, List.setIfInBounds_toArray, List.set_cons_zero, List.set_cons_succ]
  refine hd_take 3 (v := .slice (some ⟨p0b, p0o, none⟩) qn p0c) rfl (by kernel_rfl) (by kernel_rfl) (by kernel_rfl) rfl hS0 (fun W' hS => by obtain ⟨h0, h1⟩ := hS; first | (go_simp; done) | (go_simp; intro hix; omega)) rfl ?_
  refine hd_take 7 (v := .slice (some ⟨p0b, p0o, none⟩) qn p0c) rfl (by kernel_rfl) (by kernel_rfl) (by kernel_rfl) rfl hS0 (fun W' hS => by obtain ⟨h0, h1⟩ := hS; first | (go_simp; done) | (go_simp; intro hix; omega)) rfl ?_
  simp only [Act.put, List.setIfInBounds_toArray, List.set_cons_zero, List.set_cons_succ]
  refine hd_take 8 (v := .int .i64 (qn : Int)) rfl (by kernel_rfl) (by kernel_rfl) (by kernel_rfl) rfl hS0 (fun W' hS => by obtain ⟨h0, h1⟩ := hS; first | (go_simp; done) | (go_simp; intro hix; omega)) rfl ?_
  simp only [Act.put, List.setIfInBounds_toArray, List.set_cons_zero, List.set_cons_succ]
  refine hd_take 9 (v := .int .i64 ((qn - 1 : Nat) : Int)) rfl (by kernel_rfl) (by kernel_rfl) (by kernel_rfl) rfl hS0 (fun W' hS => by obtain ⟨h0, h1⟩ := hS; first | (go_simp; done) | (go_simp; intro hix; omega)) rfl ?_
  simp only [Act.put, List.setIfInBounds_toArray, List.set_cons_zero, List.set_cons_succ]
  refine hd_take 10 (v := .slice (some ⟨p0b, p0o, none⟩) (qn - 1) p0c) rfl (by kernel_rfl) (by kernel_rfl) (by kernel_rfl) rfl hS0 (fun W' hS => by obtain ⟨h0, h1⟩ := hS; first | (go_simp; done) | (go_simp; intro hix; omega)) rfl ?_
  simp only [Act.put, List.setIfInBounds_toArray, List.set_cons_zero, List.set_cons_succ]
  have yd : Fr [] w12a w12a.drew := (Fr.refl [] w12a).drew
  generalize w12a.drew = wd at yd hS0 ⊢
  have HSF : Hid (∀ W, Fr [] wd W → (fun W => W.cell? ⟨db, 3, none⟩ = some (.slice (some ⟨dpb, dpo, none⟩) ln dpc) ∧ W.cell? ⟨dpb, dpo, none⟩ = some (.slice (some ⟨p0b, p0o, none⟩) qn p0c)) W) := Lib.hid (fun W hW => ⟨hW.cell hS0.1 (by simp), hW.cell hS0.2 (by simp)⟩)
  have YD := Lib.hid yd
  have QD := Lib.hid (yd.at QA.out (by simp))
  have hbd : b14 < wd.heap.size := lt_of_block QD.out
  clear hS0 yd d0 d1 d2 d3 ep0
  obtain ⟨wp, ewp⟩ : ∃ x, x = wd := ⟨_, rfl⟩
  have fdp : Fr [] wd wp := by rw [ewp]; exact Fr.refl _ _
  have hstr : Strs wp (.slice (some ⟨p0b, p0o, none⟩) (qn - 1) p0c) (q0.take (qn - 1)) := (HUU.out _ ((G5.out.trans YD.out (by simp)).trans fdp (by simp))).preN (by omega)
  have hsep : p0b < b14 := by have h1 := HU0.out.blk p0b rfl; have h2 := F45.out.size; have h3 := F12.out.size; have := Eb14.out; omega
  rw [← ewp]
  clear ewp xw xi1 xi2
  refine hd_one 11 (by kernel_rfl) rfl (by kernel_rfl) rfl (fun K' hK => ?_)
  go_simp
  have fo : Fr [] wp (wp.alloc (.cells #[.slice (some ⟨p0b, p0o, none⟩) (qn - 1) p0c] 22)) := (Fr.refl [] wp).alloc _
  have hop : OwnV wd.heap.size (wp.alloc (.cells #[.slice (some ⟨p0b, p0o, none⟩) (qn - 1) p0c] 22)) (.slice (some ⟨wp.heap.size, 0, none⟩) 1 1) [.slice (some ⟨p0b, p0o, none⟩) (qn - 1) p0c] := OwnV.one fdp.size
  generalize wp.alloc (.cells #[.slice (some ⟨p0b, p0o, none⟩) (qn - 1) p0c] 22) = wo at fo hop ⊢
  have fdo : Fr [] wd wo := fdp.trans fo (by simp)
  have hpb : wd.heap.size ≤ wp.heap.size := fdp.size
  refine hK.out _ _ (fun _ => HSF.out _ fdo) ?_
  clear hK K'
  refine hd_one 15 (by kernel_rfl) rfl (by kernel_rfl) rfl (fun K' hK => ?_)
  refine wp_appVm (.tmp 136) (.tmp 139) (by rfl) wd.heap.size _ [.slice (some ⟨p0b, p0o, none⟩) (qn - 1) p0c] (us.drop 1) dpb dq (ln - 1) (dpc - 1) (by rfl) (by rfl) (by rw [List.length_drop, HUL.out, ← ELN.out]) (HPD.out _ ((G5.out.trans YD.out (by simp)).trans fdo (by simp))) (fun u hu => HONE.out u (List.mem_of_mem_drop hu)) hop fdo.size (by have := HLN.out; simp; omega) ?_
  intro nv w8 ho8 hg8 hat8
  obtain ⟨gn, cn, rfl⟩ := ho8.slice (n := ln) (by simp [HUL.out, ELN.out]; have := ELN.out; omega) hl0
  have fd8 : Fr [] wd w8 := fdo.trans hg8 (fun y hy => Or.inr (by simp [Value.ownBlock] at hy; omega))
  have fo8 : Fr [] wp w8 := fo.trans hg8 (fun y hy => Or.inr (by simp [Value.ownBlock] at hy; omega))
  refine hK.out _ _ (fun _ => HSF.out _ fd8) ?_
  clear hK K'
  try simp only [Act.put, List.setIfInBounds_toArray, List.set_cons_zero, List.set_cons_succ]
  have blk8 := fd8.at QD.out (by simp)
  have e1 : w8.cell? ⟨b14, 3, none⟩ = some (.slice (some ⟨dpb, dpo, none⟩) ln dpc) := by rw [row_cell blk8 3]; rfl
  have e2 := row_free blk8 3
  refine hd_one 16 (by kernel_rfl) rfl (by kernel_rfl) rfl (fun K' hK => ?_)
  go_simp
  refine hK.out _ _ (fun _ => HSF.out _ fd8) ?_
  clear hK K'
  refine hd_one 17 (by kernel_rfl) rfl (by kernel_rfl) rfl (fun K' hK => ?_)
  go_simp
  have x89 : Fr [b14] w8 (w8.setCell ⟨b14, 3, none⟩ (.slice (some ⟨gn, 0, none⟩) ln cn)) := (Fr.refl _ _).setCell _ _ (by simp)
  have fW : Fr [] w12 (w8.setCell ⟨b14, 3, none⟩ (.slice (some ⟨gn, 0, none⟩) ln cn)) := ((FA.out.trans YD.out (by simp)).trans fd8 (by simp)).trans x89 (fun y hy => Or.inr (by have := Eb14.out; simp at hy; omega))
  have HS9 := HSF.out _ fd8
  refine hK.out _ _ (fun _ => ⟨x89.cell HS9.1 (by simp; have h1 := EDB.out; have h2 := World.block_lt_of_cell? _ _ (HUC.out 0 (by have := ELN.out; omega)); have h3 := F59.out.size; have h4 := F45.out.size; have h5 := World.block_lt_of_cell? _ _ Q5.out.1; have h6 := WS14.out; simp only at h2 h5; omega), x89.cell HS9.2 (by simp; have h1 := EDB.out; have h2 := World.block_lt_of_cell? _ _ (HUC.out 0 (by have := ELN.out; omega)); have h3 := F59.out.size; have h4 := F45.out.size; have h5 := World.block_lt_of_cell? _ _ Q5.out.1; have h6 := WS14.out; simp only at h2 h5; omega)⟩) ?_
  clear hK K'
  refine held_done (by kernel_rfl) ?_
  have f5W := F12.out.trans fW (by simp)
  have Q14 : Hid (DAt b14 (.int .i64 (fields.length : Int)) (.slice (some ⟨dwb, dwo, none⟩) ln dwc) (.slice (some ⟨dfb, dfo, none⟩) ln dfc) (.slice (some ⟨gn, 0, none⟩) ln cn) (w8.setCell ⟨b14, 3, none⟩ (.slice (some ⟨gn, 0, none⟩) ln cn))) := Lib.hid (DAt.of (row_set blk8 3 _))
  have HD14 : Hid (DiscR (w8.setCell ⟨b14, 3, none⟩ (.slice (some ⟨gn, 0, none⟩) ln cn)) (.agg #[.int .i64 (fields.length : Int), .slice (some ⟨dwb, dwo, none⟩) ln dwc, .slice (some ⟨dfb, dfo, none⟩) ln dfc, .slice (some ⟨gn, 0, none⟩) ln cn]) ⟨fields.length, L, F, (q0.take (qn - 1)) :: PP.drop 1⟩) := Lib.hid ⟨_, _, _, rfl, (HDW.out.fr0 F45.out).fr0 f5W, HFC.out _ f5W, by
    have hss := (ho8.fr x89 (fun b hb hm => by have := (ownBlock_cells ho8 b hb).1; simp at hm; omega)).ss (l := (q0.take (qn - 1)) :: PP.drop 1) (by simp [HUL.out, HPL.out, ELN.out]) (fun i hi => by
      match i, hi with
      | 0, _ => exact ((hstr).fr0 fo8).fr x89 (fun b hb hm => by simp [Value.ownBlock] at hb; simp at hm; omega)
      | i + 1, hi =>
        have h1 := HUR.out (i + 1) (by simp [HPL.out] at hi; have := ELN.out; omega)
        have h2 := (h1.fr0 F45.out).fr0 f5W
        rwa [← drop_getD us i, ← drop_getD PP i] at h2)
    simpa [HPL.out, show ln - 1 + 1 = ln by omega] using hss⟩
  have F14 := Lib.hid f5W
  have G1214 := Lib.hid fW
  generalize w8.setCell ⟨b14, 3, none⟩ (.slice (some ⟨gn, 0, none⟩) ln cn) = w14 at Q14 HD14 F14 G1214 ⊢
  clear x89 fW f5W ho8 hg8 hat8 fd8 fo8 fdo fo hop blk8 e1 e2 HS9 hpb HSF YD QD QA FA G5 hbd
  obtain ⟨d0, d1, d2, d3⟩ := Q5.out.fr F14.out (by simp)
  go_upto_region 16 with (fail)
  have fa : Fr [] w14 (w14.alloc (.cells #[.int .i64 (fields.length : Int), .slice (some ⟨dwb, dwo, none⟩) ln dwc, .slice (some ⟨dfb, dfo, none⟩) ln dfc, .slice (some ⟨dpb, dpo, none⟩) ln dpc] 26)) := (Fr.refl [] w14).alloc _
  have qa : (w14.alloc (.cells #[.int .i64 (fields.length : Int), .slice (some ⟨dwb, dwo, none⟩) ln dwc, .slice (some ⟨dfb, dfo, none⟩) ln dfc, .slice (some ⟨dpb, dpo, none⟩) ln dpc] 26)).heap[w14.heap.size]? = some (.cells #[.int .i64 (fields.length : Int), .slice (some ⟨dwb, dwo, none⟩) ln dwc, .slice (some ⟨dfb, dfo, none⟩) ln dfc, .slice (some ⟨dpb, dpo, none⟩) ln dpc] 26 (0, 0)) := heap_new rfl
  generalize w14.alloc (.cells #[.int .i64 (fields.length : Int), .slice (some ⟨dwb, dwo, none⟩) ln dwc, .slice (some ⟨dfb, dfo, none⟩) ln dfc, .slice (some ⟨dpb, dpo, none⟩) ln dpc] 26) = w14a at fa qa ⊢
  obtain ⟨b16, eb16⟩ : ∃ b, b = w14.heap.size := ⟨_, rfl⟩
  rw [← eb16] at qa ⊢
  have Eb16 := Lib.hid eb16
  have FA := Lib.hid fa
  have QA := Lib.hid qa
  have G5 := Lib.hid (F14.out.trans fa (by simp))
  clear d0 d1 d2 d3 eb16 qa fa
  have WS16 : Hid (b16 = w14.heap.size ∧ w5.heap.size ≤ w14.heap.size) := Lib.hid ⟨Eb16.out, F14.out.size⟩
  obtain ⟨d0, d1, d2, d3⟩ := Q5.out.fr G5.out (by simp)
  have ep0 : w14a.cell? ⟨dpb, dpo, none⟩ = some (.slice (some ⟨p0b, p0o, none⟩) qn p0c) := by have := HPC.out _ G5.out 0 hl0; rwa [Nat.add_zero, HUV.out] at this
  have ex0 : w14a.cell? ⟨p0b, p0o, none⟩ = some (.string ⟨x0.toArray⟩) := by
    have h1 := (HUU.out _ G5.out).cellN EQN.out.symm 0 hqn
    rw [Nat.add_zero, HQC.out] at h1
    exact h1
  have hS0 : (fun W => W.cell? ⟨db, 3, none⟩ = some (.slice (some ⟨dpb, dpo, none⟩) ln dpc) ∧ W.cell? ⟨dpb, dpo, none⟩ = some (.slice (some ⟨p0b, p0o, none⟩) qn p0c) ∧ W.cell? ⟨p0b, p0o, none⟩ = some (.string ⟨x0.toArray⟩)) w14a.drew := ⟨d3, ep0, ex0⟩
  refine region_held 100 (fun W => W.cell? ⟨db, 3, none⟩ = some (.slice (some ⟨dpb, dpo, none⟩) ln dpc) ∧ W.cell? ⟨dpb, dpo, none⟩ = some (.slice (some ⟨p0b, p0o, none⟩) qn p0c) ∧ W.cell? ⟨p0b, p0o, none⟩ = some (.string ⟨x0.toArray⟩)) hmx ?_
  change Held _ _ _ _ _ _ 21 (Array.replicate 21 false) _ _
  refine hd_take 0 (v := .pointer (some ⟨db, 3, none⟩)) rfl (by kernel_rfl) (by kernel_rfl) (by kernel_rfl) rfl hS0 (fun W' hS => by obtain ⟨h0, h1, h2⟩ := hS; first | (go_simp; done) | (go_simp; intro hix; omega)) rfl ?_
  refine hd_take 8 (v := .pointer (some ⟨db, 3, none⟩)) rfl (by kernel_rfl) (by kernel_rfl) (by kernel_rfl) rfl hS0 (fun W' hS => by obtain ⟨h0, h1, h2⟩ := hS; first | (go_simp; done) | (go_simp; intro hix; omega)) rfl ?_
  refine hd_take 15 (v := .pointer (some ⟨db, 3, none⟩)) rfl (by kernel_rfl) (by kernel_rfl) (by kernel_rfl) rfl hS0 (fun W' hS => by obtain ⟨h0, h1, h2⟩ := hS; first | (go_simp; done) | (go_simp; intro hix; omega)) rfl ?_
  simp only [Act.put, List.setIfInBounds_toArray, List.set_cons_zero, List.set_cons_succ]
  refine hd_take 1 (v := .slice (some ⟨dpb, dpo, none⟩) ln dpc) rfl (by kernel_rfl) (by kernel_rfl) (by kernel_rfl) rfl hS0 (fun W' hS => by obtain ⟨h0, h1, h2⟩ := hS; first | (go_simp; done) | (go_simp; intro hix; omega)) rfl ?_
  refine hd_take 9 (v := .slice (some ⟨dpb, dpo, none⟩) ln dpc) rfl (by kernel_rfl) (by kernel_rfl) (by kernel_rfl) rfl hS0 (fun W' hS => by obtain ⟨h0, h1, h2⟩ := hS; first | (go_simp; done) | (go_simp; intro hix; omega)) rfl ?_
  refine hd_take 16 (v := .slice (some ⟨dpb, dpo, none⟩) ln dpc) rfl (by kernel_rfl) (by kernel_rfl) (by kernel_rfl) rfl hS0 (fun W' hS => by obtain ⟨h0, h1, h2⟩ := hS; first | (go_simp; done) | (go_simp; intro hix; omega)) rfl ?_
  simp only [Act.put, List.setIfInBounds_toArray, List.set_cons_zero, List.set_cons_succ]
  refine hd_take 2 (v := .pointer (some ⟨dpb, dpo, none⟩)) rfl (by kernel_rfl) (by kernel_rfl) (by kernel_rfl) rfl hS0 (fun W' hS => by obtain ⟨h0, h1, h2⟩ := hS; first | (go_simp; done) | (go_simp; intro hix; omega)) rfl ?_
  refine hd_take 10 (v := .pointer (some ⟨dpb, dpo, none⟩)) rfl (by kernel_rfl) (by kernel_rfl) (by kernel_rfl) rfl hS0 (fun W' hS => by obtain ⟨h0, h1, h2⟩ := hS; first | (go_simp; done) | (go_simp; intro hix; omega)) rfl ?_
  refine hd_take 17 (v := .slice (some ⟨dpb, dq, none⟩) (ln - 1) (dpc - 1)) rfl (by kernel_rfl) (by kernel_rfl) (by kernel_rfl) rfl hS0 (fun W' hS => by rcases HDQ.out with ⟨⟨e1, e2, e3⟩ | ⟨e1, e2⟩, e4, e5, e6⟩ <;> (have g1 : (1 : Int) ≤ (ln : Int) := by omega) <;> (have g2 : (1 : Int) ≤ (dpc : Int) := by omega) <;> first | (subst e1 e2 e3; go_simp; done) | ((have g3 : ¬ dpc - 1 = 0 := by omega); (have g4 : ¬ dpc ≤ 1 := by omega); subst e2; go_simp; done)) rfl ?_
  simp only [Act.put, List.setIfInBounds_toArray, List.set_cons_zero, List.set_cons_succ]
  refine hd_take 3 (v := .slice (some ⟨p0b, p0o, none⟩) qn p0c) rfl (by kernel_rfl) (by kernel_rfl) (by kernel_rfl) rfl hS0 (fun W' hS => by obtain ⟨h0, h1, h2⟩ := hS; first | (go_simp; done) | (go_simp; intro hix; omega)) rfl ?_
  refine hd_take 11 (v := .slice (some ⟨p0b, p0o, none⟩) qn p0c) rfl (by kernel_rfl) (by kernel_rfl) (by kernel_rfl) rfl hS0 (fun W' hS => by obtain ⟨h0, h1, h2⟩ := hS; first | (go_simp; done) | (go_simp; intro hix; omega)) rfl ?_
  simp only [Act.put, List.setIfInBounds_toArray, List.set_cons_zero, List.set_cons_succ]
  refine hd_take 4 (v := .pointer (some ⟨p0b, p0o, none⟩)) rfl (by kernel_rfl) (by kernel_rfl) (by kernel_rfl) rfl hS0 (fun W' hS => by obtain ⟨h0, h1, h2⟩ := hS; first | (go_simp; done) | (go_simp; intro hix; omega)) rfl ?_
  refine hd_take 12 (v := .slice (some ⟨p0b, xq, none⟩) (qn - 1) (p0c - 1)) rfl (by kernel_rfl) (by kernel_rfl) (by kernel_rfl) rfl hS0 (fun W' hS => by rcases HXQ.out with ⟨⟨e1, e2, e3⟩ | ⟨e1, e2⟩, e4, e5, e6⟩ <;> (have g1 : (1 : Int) ≤ (qn : Int) := by omega) <;> (have g2 : (1 : Int) ≤ (p0c : Int) := by omega) <;> first | (subst e1 e2 e3; go_simp; done) | ((have g3 : ¬ p0c - 1 = 0 := by omega); (have g4 : ¬ p0c ≤ 1 := by omega); subst e2; go_simp; done)) rfl ?_
  simp only [Act.put, List.setIfInBounds_toArray, List.set_cons_zero, List.set_cons_succ]
  refine hd_take 5 (v := .string ⟨x0.toArray⟩) rfl (by kernel_rfl) (by kernel_rfl) (by kernel_rfl) rfl hS0 (fun W' hS => by obtain ⟨h0, h1, h2⟩ := hS; first | (go_simp; done) | (go_simp; intro hix; omega)) rfl ?_
  simp only [Act.put, List.setIfInBounds_toArray, List.set_cons_zero, List.set_cons_succ]
  have hx9 : x0.length + 1 < 9223372036854775808 := by have h1 := HPTD.out x0 (by rw [HQC.out]; simp); omega
  refine hd_take 6 (v := .string ⟨(x0 ++ [48]).toArray⟩) rfl (by kernel_rfl) (by kernel_rfl) (by kernel_rfl) rfl hS0 (fun W' hS => by first | (go_simp; done) | (go_simp; rw [if_neg (by omega)]; rw [show (⟨#[48]⟩ : ByteArray) = ⟨([48] : List UInt8).toArray⟩ from rfl, ba_append])) rfl ?_
  simp only [Act.put, List.setIfInBounds_toArray, List.set_cons_zero, List.set_cons_succ]
  have yd : Fr [] w14a w14a.drew := (Fr.refl [] w14a).drew
  generalize w14a.drew = wd at yd hS0 ⊢
  have HSF : Hid (∀ W, Fr [] wd W → (fun W => W.cell? ⟨db, 3, none⟩ = some (.slice (some ⟨dpb, dpo, none⟩) ln dpc) ∧ W.cell? ⟨dpb, dpo, none⟩ = some (.slice (some ⟨p0b, p0o, none⟩) qn p0c) ∧ W.cell? ⟨p0b, p0o, none⟩ = some (.string ⟨x0.toArray⟩)) W) := Lib.hid (fun W hW => ⟨hW.cell hS0.1 (by simp), hW.cell hS0.2.1 (by simp), hW.cell hS0.2.2 (by simp)⟩)
  have YD := Lib.hid yd
  have QD := Lib.hid (yd.at QA.out (by simp))
  have hbd : b16 < wd.heap.size := lt_of_block QD.out
  clear hS0 yd d0 d1 d2 d3 ep0
  clear ex0 hx9
  refine hd_one 7 (by kernel_rfl) rfl (by kernel_rfl) rfl (fun K' hK => ?_)
  go_simp
  have hos : OwnS wd.heap.size (wd.alloc (.cells #[.string ⟨(x0 ++ [48]).toArray⟩] 9)) (.slice (some ⟨wd.heap.size, 0, none⟩) 1 1) [x0 ++ [48]] := OwnS.one (Nat.le_refl _)
  have fs : Fr [] wd (wd.alloc (.cells #[.string ⟨(x0 ++ [48]).toArray⟩] 9)) := (Fr.refl [] wd).alloc _
  generalize wd.alloc (.cells #[.string ⟨(x0 ++ [48]).toArray⟩] 9) = ws at hos fs ⊢
  refine hK.out _ _ (fun _ => HSF.out _ fs) ?_
  clear hK K'
  refine hd_one 13 (by kernel_rfl) rfl (by kernel_rfl) rfl (fun K' hK => ?_)
  refine wp_appSm (.tmp 150) (.tmp 155) (by rfl) wd.heap.size _ [x0 ++ [48]] pt p0b xq (qn - 1) (p0c - 1) (by rfl) (by rfl) (by have h1 := EQN.out; rw [HQC.out, List.length_cons] at h1; omega) (HUX.out _ ((G5.out.trans YD.out (by simp)).trans fs (by simp))) hos fs.size (by have := HQN.out; have := EQN.out; simp; omega) ?_
  intro nv wp hoq hgq hatq
  obtain ⟨gq, cq, rfl⟩ := hoq.slice (n := qn) (by have h1 := EQN.out; rw [HQC.out, List.length_cons] at h1; simp; omega) hqn
  have fdp : Fr [] wd wp := fs.trans hgq (fun y hy => Or.inr (by simp [Value.ownBlock] at hy; omega))
  refine hK.out _ _ (fun _ => HSF.out _ fdp) ?_
  clear hK K'
  try simp only [Act.put, List.setIfInBounds_toArray, List.set_cons_zero, List.set_cons_succ]
  have hstr : Strs wp (.slice (some ⟨gq, 0, none⟩) qn cq) ((x0 ++ [48]) :: pt) := hoq.strs
  have hgqb := (ownBlock_cells hoq gq rfl).1
  refine hd_one 14 (by kernel_rfl) rfl (by kernel_rfl) rfl (fun K' hK => ?_)
  go_simp
  have fo : Fr [] wp (wp.alloc (.cells #[.slice (some ⟨gq, 0, none⟩) qn cq] 22)) := (Fr.refl [] wp).alloc _
  have hop : OwnV wd.heap.size (wp.alloc (.cells #[.slice (some ⟨gq, 0, none⟩) qn cq] 22)) (.slice (some ⟨wp.heap.size, 0, none⟩) 1 1) [.slice (some ⟨gq, 0, none⟩) qn cq] := OwnV.one fdp.size
  generalize wp.alloc (.cells #[.slice (some ⟨gq, 0, none⟩) qn cq] 22) = wo at fo hop ⊢
  have fdo : Fr [] wd wo := fdp.trans fo (by simp)
  have hpb : wd.heap.size ≤ wp.heap.size := fdp.size
  refine hK.out _ _ (fun _ => HSF.out _ fdo) ?_
  clear hK K'
  refine hd_one 18 (by kernel_rfl) rfl (by kernel_rfl) rfl (fun K' hK => ?_)
  refine wp_appVm (.tmp 157) (.tmp 160) (by rfl) wd.heap.size _ [.slice (some ⟨gq, 0, none⟩) qn cq] (us.drop 1) dpb dq (ln - 1) (dpc - 1) (by rfl) (by rfl) (by rw [List.length_drop, HUL.out, ← ELN.out]) (HPD.out _ ((G5.out.trans YD.out (by simp)).trans fdo (by simp))) (fun u hu => HONE.out u (List.mem_of_mem_drop hu)) hop fdo.size (by have := HLN.out; simp; omega) ?_
  intro nv w8 ho8 hg8 hat8
  obtain ⟨gn, cn, rfl⟩ := ho8.slice (n := ln) (by simp [HUL.out, ELN.out]; have := ELN.out; omega) hl0
  have fd8 : Fr [] wd w8 := fdo.trans hg8 (fun y hy => Or.inr (by simp [Value.ownBlock] at hy; omega))
  have fo8 : Fr [] wp w8 := fo.trans hg8 (fun y hy => Or.inr (by simp [Value.ownBlock] at hy; omega))
  refine hK.out _ _ (fun _ => HSF.out _ fd8) ?_
  clear hK K'
  try simp only [Act.put, List.setIfInBounds_toArray, List.set_cons_zero, List.set_cons_succ]
  have blk8 := fd8.at QD.out (by simp)
  have e1 : w8.cell? ⟨b16, 3, none⟩ = some (.slice (some ⟨dpb, dpo, none⟩) ln dpc) := by rw [row_cell blk8 3]; rfl
  have e2 := row_free blk8 3
  refine hd_one 19 (by kernel_rfl) rfl (by kernel_rfl) rfl (fun K' hK => ?_)
  go_simp
  refine hK.out _ _ (fun _ => HSF.out _ fd8) ?_
  clear hK K'
  refine hd_one 20 (by kernel_rfl) rfl (by kernel_rfl) rfl (fun K' hK => ?_)
  go_simp
  have x89 : Fr [b16] w8 (w8.setCell ⟨b16, 3, none⟩ (.slice (some ⟨gn, 0, none⟩) ln cn)) := (Fr.refl _ _).setCell _ _ (by simp)
  have fW : Fr [] w14 (w8.setCell ⟨b16, 3, none⟩ (.slice (some ⟨gn, 0, none⟩) ln cn)) := ((FA.out.trans YD.out (by simp)).trans fd8 (by simp)).trans x89 (fun y hy => Or.inr (by have := Eb16.out; simp at hy; omega))
  have HS9 := HSF.out _ fd8
  refine hK.out _ _ (fun _ => ⟨x89.cell HS9.1 (by simp; have h1 := EDB.out; have h2 := World.block_lt_of_cell? _ _ (HUC.out 0 (by have := ELN.out; omega)); have h3 := F59.out.size; have h4 := F45.out.size; have h5 := World.block_lt_of_cell? _ _ Q5.out.1; have h6 := WS16.out; simp only at h2 h5; omega; done), x89.cell HS9.2.1 (by simp; have h1 := EDB.out; have h2 := World.block_lt_of_cell? _ _ (HUC.out 0 (by have := ELN.out; omega)); have h3 := F59.out.size; have h4 := F45.out.size; have h5 := World.block_lt_of_cell? _ _ Q5.out.1; have h6 := WS16.out; simp only at h2 h5; omega; done), x89.cell HS9.2.2 (by simp; have h7 := HU0.out.blk p0b rfl; have h1 := EDB.out; have h2 := World.block_lt_of_cell? _ _ (HUC.out 0 (by have := ELN.out; omega)); have h3 := F59.out.size; have h4 := F45.out.size; have h5 := World.block_lt_of_cell? _ _ Q5.out.1; have h6 := WS16.out; simp only at h2 h5; omega)⟩) ?_
  clear hK K'
  refine held_done (by kernel_rfl) ?_
  have f5W := F14.out.trans fW (by simp)
  have Q16 : Hid (DAt b16 (.int .i64 (fields.length : Int)) (.slice (some ⟨dwb, dwo, none⟩) ln dwc) (.slice (some ⟨dfb, dfo, none⟩) ln dfc) (.slice (some ⟨gn, 0, none⟩) ln cn) (w8.setCell ⟨b16, 3, none⟩ (.slice (some ⟨gn, 0, none⟩) ln cn))) := Lib.hid (DAt.of (row_set blk8 3 _))
  have HD16 : Hid (DiscR (w8.setCell ⟨b16, 3, none⟩ (.slice (some ⟨gn, 0, none⟩) ln cn)) (.agg #[.int .i64 (fields.length : Int), .slice (some ⟨dwb, dwo, none⟩) ln dwc, .slice (some ⟨dfb, dfo, none⟩) ln dfc, .slice (some ⟨gn, 0, none⟩) ln cn]) ⟨fields.length, L, F, ((x0 ++ [48]) :: pt) :: PP.drop 1⟩) := Lib.hid ⟨_, _, _, rfl, (HDW.out.fr0 F45.out).fr0 f5W, HFC.out _ f5W, by
    have hss := (ho8.fr x89 (fun b hb hm => by have := (ownBlock_cells ho8 b hb).1; simp at hm; omega)).ss (l := ((x0 ++ [48]) :: pt) :: PP.drop 1) (by simp [HUL.out, HPL.out, ELN.out]) (fun i hi => by
      match i, hi with
      | 0, _ => exact ((hstr).fr0 fo8).fr x89 (fun b hb hm => by simp [Value.ownBlock] at hb; simp at hm; omega)
      | i + 1, hi =>
        have h1 := HUR.out (i + 1) (by simp [HPL.out] at hi; have := ELN.out; omega)
        have h2 := (h1.fr0 F45.out).fr0 f5W
        rwa [← drop_getD us i, ← drop_getD PP i] at h2)
    simpa [HPL.out, show ln - 1 + 1 = ln by omega] using hss⟩
  have F16 := Lib.hid f5W
  have G1416 := Lib.hid fW
  generalize w8.setCell ⟨b16, 3, none⟩ (.slice (some ⟨gn, 0, none⟩) ln cn) = w16 at Q16 HD16 F16 G1416 ⊢
  clear x89 fW f5W ho8 hg8 hat8 fd8 fo8 fdo fo hop blk8 e1 e2 HS9 hpb HSF YD QD QA FA G5 hbd
  have f916 : Fr [] w9 w16 := (G912.out.trans G1214.out (by simp)).trans G1416.out (by simp)
  have f1216 : Fr [] w12 w16 := G1214.out.trans G1416.out (by simp)
  have QT6 := Lib.hid (QT.out.fr f916 (by simp))
  have HT6 := Lib.hid (HTD.out.fr f916)
  have Q126 := Lib.hid (Q12.out.fr f1216 (by simp))
  have HD126 := Lib.hid (HD12.out.fr f1216)
  have Q146 := Lib.hid (Q14.out.fr G1416.out (by simp))
  have HD146 := Lib.hid (HD14.out.fr G1416.out)
  clear f916 f1216 QT HTD Q12 HD12 Q14 HD14 G912 G1214 G1416
  obtain ⟨d0, d1, d2, d3⟩ := Q5.out.fr F16.out (by simp)
  have xw : IntKind.i64.wrap ((ln : Int) - 1) = ((ln - 1 : Nat) : Int) := by rw [IntWalk.i64_in _ (by omega)]; omega
  have hdfc := HDF.out.capOf.1
  have hdwc := hdwl
  have xi1 : (0 : Int) ≤ ((ln - 1 : Nat) : Int) := by omega
  have xi2 : ((ln - 1 : Nat) : Int) ≤ (dfc : Int) := by omega
  have xi3 : ((ln - 1 : Nat) : Int) ≤ (dpc : Int) := by omega
  have xi4 : ((ln - 1 : Nat) : Int) ≤ (dwc : Int) := by omega
  have HZW : Hid (∀ W, Fr [] w5 W → Zs W (.slice (some ⟨dwb, dwo, none⟩) ln dwc) L) := Lib.hid (fun W hW => (HDW.out.fr0 F45.out).fr0 hW)
  have HPSS : Hid (∀ W, Fr [] w5 W → SS W (.slice (some ⟨dpb, dpo, none⟩) ln dpc) PP) := Lib.hid (fun W hW => (HDP.out.fr0 F45.out).fr0 hW)
  clear d0 d1 d2 d3
  obtain ⟨d0, d1, d2, d3⟩ := Q5.out.fr F16.out (by simp)
  go_upto_region 18 with (fail)
  have fa : Fr [] w16 (w16.alloc (.cells #[.int .i64 (fields.length : Int), .slice (some ⟨dwb, dwo, none⟩) ln dwc, .slice (some ⟨dfb, dfo, none⟩) ln dfc, .slice (some ⟨dpb, dpo, none⟩) ln dpc] 26)) := (Fr.refl [] w16).alloc _
  have qa : (w16.alloc (.cells #[.int .i64 (fields.length : Int), .slice (some ⟨dwb, dwo, none⟩) ln dwc, .slice (some ⟨dfb, dfo, none⟩) ln dfc, .slice (some ⟨dpb, dpo, none⟩) ln dpc] 26)).heap[w16.heap.size]? = some (.cells #[.int .i64 (fields.length : Int), .slice (some ⟨dwb, dwo, none⟩) ln dwc, .slice (some ⟨dfb, dfo, none⟩) ln dfc, .slice (some ⟨dpb, dpo, none⟩) ln dpc] 26 (0, 0)) := heap_new rfl
  generalize w16.alloc (.cells #[.int .i64 (fields.length : Int), .slice (some ⟨dwb, dwo, none⟩) ln dwc, .slice (some ⟨dfb, dfo, none⟩) ln dfc, .slice (some ⟨dpb, dpo, none⟩) ln dpc] 26) = w16a at fa qa ⊢
  obtain ⟨b19, eb19⟩ : ∃ b, b = w16.heap.size := ⟨_, rfl⟩
  rw [← eb19] at qa ⊢
  have Eb19 := Lib.hid eb19
  have FA := Lib.hid fa
  have QA := Lib.hid qa
  have G5 := Lib.hid (F16.out.trans fa (by simp))
  clear d0 d1 d2 d3 eb19 qa fa
  obtain ⟨d0, d1, d2, d3⟩ := Q5.out.fr G5.out (by simp)
  have ep0 : w16a.cell? ⟨dpb, dpo, none⟩ = some (.slice (some ⟨p0b, p0o, none⟩) qn p0c) := by have := HPC.out _ G5.out 0 hl0; rwa [Nat.add_zero, HUV.out] at this
  clear ep0
  have ek : w16a.cell? ⟨b19, 2, none⟩ = some (.slice (some ⟨dfb, dfo, none⟩) ln dfc) := by rw [row_cell QA.out 2]; rfl
  have fzk := row_free QA.out 2
  go_upto_region 19 with (fail)
  have x89 : Fr [b19] w16a (w16a.setCell ⟨b19, 2, none⟩ (.slice (some ⟨dfb, dfo, none⟩) (ln - 1) dfc)) := (Fr.refl _ _).setCell _ _ (by simp)
  have fW : Fr [] w16 (w16a.setCell ⟨b19, 2, none⟩ (.slice (some ⟨dfb, dfo, none⟩) (ln - 1) dfc)) := FA.out.trans x89 (fun y hy => Or.inr (by have := Eb19.out; simp at hy; omega))
  have f5W := F16.out.trans fW (by simp)
  have Q18 : Hid (DAt b19 (.int .i64 (fields.length : Int)) (.slice (some ⟨dwb, dwo, none⟩) ln dwc) (.slice (some ⟨dfb, dfo, none⟩) (ln - 1) dfc) (.slice (some ⟨dpb, dpo, none⟩) ln dpc) (w16a.setCell ⟨b19, 2, none⟩ (.slice (some ⟨dfb, dfo, none⟩) (ln - 1) dfc))) := Lib.hid (DAt.of (row_set QA.out 2 _))
  have HD18 : Hid (DiscR (w16a.setCell ⟨b19, 2, none⟩ (.slice (some ⟨dfb, dfo, none⟩) (ln - 1) dfc)) (.agg #[.int .i64 (fields.length : Int), .slice (some ⟨dwb, dwo, none⟩) ln dwc, .slice (some ⟨dfb, dfo, none⟩) (ln - 1) dfc, .slice (some ⟨dpb, dpo, none⟩) ln dpc]) ⟨fields.length, L, F.take (ln - 1), PP⟩) := Lib.hid ⟨_, _, _, rfl, HZW.out _ f5W, (HFC.out _ f5W).preN (by omega), HPSS.out _ f5W⟩
  have F18 := Lib.hid f5W
  have G18 := Lib.hid fW
  generalize w16a.setCell ⟨b19, 2, none⟩ (.slice (some ⟨dfb, dfo, none⟩) (ln - 1) dfc) = w18 at Q18 HD18 F18 G18 ⊢
  clear x89 fW f5W ek fzk QA FA G5 d0 d1 d2 d3
  obtain ⟨d0, d1, d2, d3⟩ := Q5.out.fr F18.out (by simp)
  go_upto_region 20 with (fail)
  have fa : Fr [] w18 (w18.alloc (.cells #[.int .i64 (fields.length : Int), .slice (some ⟨dwb, dwo, none⟩) ln dwc, .slice (some ⟨dfb, dfo, none⟩) ln dfc, .slice (some ⟨dpb, dpo, none⟩) ln dpc] 26)) := (Fr.refl [] w18).alloc _
  have qa : (w18.alloc (.cells #[.int .i64 (fields.length : Int), .slice (some ⟨dwb, dwo, none⟩) ln dwc, .slice (some ⟨dfb, dfo, none⟩) ln dfc, .slice (some ⟨dpb, dpo, none⟩) ln dpc] 26)).heap[w18.heap.size]? = some (.cells #[.int .i64 (fields.length : Int), .slice (some ⟨dwb, dwo, none⟩) ln dwc, .slice (some ⟨dfb, dfo, none⟩) ln dfc, .slice (some ⟨dpb, dpo, none⟩) ln dpc] 26 (0, 0)) := heap_new rfl
  generalize w18.alloc (.cells #[.int .i64 (fields.length : Int), .slice (some ⟨dwb, dwo, none⟩) ln dwc, .slice (some ⟨dfb, dfo, none⟩) ln dfc, .slice (some ⟨dpb, dpo, none⟩) ln dpc] 26) = w18a at fa qa ⊢
  obtain ⟨b20, eb20⟩ : ∃ b, b = w18.heap.size := ⟨_, rfl⟩
  rw [← eb20] at qa ⊢
  have Eb20 := Lib.hid eb20
  have FA := Lib.hid fa
  have QA := Lib.hid qa
  have G5 := Lib.hid (F18.out.trans fa (by simp))
  clear d0 d1 d2 d3 eb20 qa fa
  obtain ⟨d0, d1, d2, d3⟩ := Q5.out.fr G5.out (by simp)
  have ep0 : w18a.cell? ⟨dpb, dpo, none⟩ = some (.slice (some ⟨p0b, p0o, none⟩) qn p0c) := by have := HPC.out _ G5.out 0 hl0; rwa [Nat.add_zero, HUV.out] at this
  clear ep0
  have ek : w18a.cell? ⟨b20, 3, none⟩ = some (.slice (some ⟨dpb, dpo, none⟩) ln dpc) := by rw [row_cell QA.out 3]; rfl
  have fzk := row_free QA.out 3
  go_upto_region 21 with (fail)
  have x89 : Fr [b20] w18a (w18a.setCell ⟨b20, 3, none⟩ (.slice (some ⟨dpb, dpo, none⟩) (ln - 1) dpc)) := (Fr.refl _ _).setCell _ _ (by simp)
  have fW : Fr [] w18 (w18a.setCell ⟨b20, 3, none⟩ (.slice (some ⟨dpb, dpo, none⟩) (ln - 1) dpc)) := FA.out.trans x89 (fun y hy => Or.inr (by have := Eb20.out; simp at hy; omega))
  have f5W := F18.out.trans fW (by simp)
  have Q20 : Hid (DAt b20 (.int .i64 (fields.length : Int)) (.slice (some ⟨dwb, dwo, none⟩) ln dwc) (.slice (some ⟨dfb, dfo, none⟩) ln dfc) (.slice (some ⟨dpb, dpo, none⟩) (ln - 1) dpc) (w18a.setCell ⟨b20, 3, none⟩ (.slice (some ⟨dpb, dpo, none⟩) (ln - 1) dpc))) := Lib.hid (DAt.of (row_set QA.out 3 _))
  have HD20 : Hid (DiscR (w18a.setCell ⟨b20, 3, none⟩ (.slice (some ⟨dpb, dpo, none⟩) (ln - 1) dpc)) (.agg #[.int .i64 (fields.length : Int), .slice (some ⟨dwb, dwo, none⟩) ln dwc, .slice (some ⟨dfb, dfo, none⟩) ln dfc, .slice (some ⟨dpb, dpo, none⟩) (ln - 1) dpc]) ⟨fields.length, L, F, PP.take (ln - 1)⟩) := Lib.hid ⟨_, _, _, rfl, HZW.out _ f5W, HFC.out _ f5W, (HPSS.out _ f5W).preN (by omega)⟩
  have F20 := Lib.hid f5W
  have G20 := Lib.hid fW
  generalize w18a.setCell ⟨b20, 3, none⟩ (.slice (some ⟨dpb, dpo, none⟩) (ln - 1) dpc) = w20 at Q20 HD20 F20 G20 ⊢
  clear x89 fW f5W ek fzk QA FA G5 d0 d1 d2 d3
  obtain ⟨d0, d1, d2, d3⟩ := Q5.out.fr F20.out (by simp)
  go_upto_region 22 with (fail)
  have fa : Fr [] w20 (w20.alloc (.cells #[.int .i64 (fields.length : Int), .slice (some ⟨dwb, dwo, none⟩) ln dwc, .slice (some ⟨dfb, dfo, none⟩) ln dfc, .slice (some ⟨dpb, dpo, none⟩) ln dpc] 26)) := (Fr.refl [] w20).alloc _
  have qa : (w20.alloc (.cells #[.int .i64 (fields.length : Int), .slice (some ⟨dwb, dwo, none⟩) ln dwc, .slice (some ⟨dfb, dfo, none⟩) ln dfc, .slice (some ⟨dpb, dpo, none⟩) ln dpc] 26)).heap[w20.heap.size]? = some (.cells #[.int .i64 (fields.length : Int), .slice (some ⟨dwb, dwo, none⟩) ln dwc, .slice (some ⟨dfb, dfo, none⟩) ln dfc, .slice (some ⟨dpb, dpo, none⟩) ln dpc] 26 (0, 0)) := heap_new rfl
  generalize w20.alloc (.cells #[.int .i64 (fields.length : Int), .slice (some ⟨dwb, dwo, none⟩) ln dwc, .slice (some ⟨dfb, dfo, none⟩) ln dfc, .slice (some ⟨dpb, dpo, none⟩) ln dpc] 26) = w20a at fa qa ⊢
  obtain ⟨b21, eb21⟩ : ∃ b, b = w20.heap.size := ⟨_, rfl⟩
  rw [← eb21] at qa ⊢
  have Eb21 := Lib.hid eb21
  have FA := Lib.hid fa
  have QA := Lib.hid qa
  have G5 := Lib.hid (F20.out.trans fa (by simp))
  clear d0 d1 d2 d3 eb21 qa fa
  obtain ⟨d0, d1, d2, d3⟩ := Q5.out.fr G5.out (by simp)
  have ep0 : w20a.cell? ⟨dpb, dpo, none⟩ = some (.slice (some ⟨p0b, p0o, none⟩) qn p0c) := by have := HPC.out _ G5.out 0 hl0; rwa [Nat.add_zero, HUV.out] at this
  clear ep0
  have ek : w20a.cell? ⟨b21, 1, none⟩ = some (.slice (some ⟨dwb, dwo, none⟩) ln dwc) := by rw [row_cell QA.out 1]; rfl
  have fzk := row_free QA.out 1
  go_upto_region 23 with (fail)
  have x89 : Fr [b21] w20a (w20a.setCell ⟨b21, 1, none⟩ (.slice (some ⟨dwb, dwo, none⟩) (ln - 1) dwc)) := (Fr.refl _ _).setCell _ _ (by simp)
  have fW : Fr [] w20 (w20a.setCell ⟨b21, 1, none⟩ (.slice (some ⟨dwb, dwo, none⟩) (ln - 1) dwc)) := FA.out.trans x89 (fun y hy => Or.inr (by have := Eb21.out; simp at hy; omega))
  have f5W := F20.out.trans fW (by simp)
  have Q22 : Hid (DAt b21 (.int .i64 (fields.length : Int)) (.slice (some ⟨dwb, dwo, none⟩) (ln - 1) dwc) (.slice (some ⟨dfb, dfo, none⟩) ln dfc) (.slice (some ⟨dpb, dpo, none⟩) ln dpc) (w20a.setCell ⟨b21, 1, none⟩ (.slice (some ⟨dwb, dwo, none⟩) (ln - 1) dwc))) := Lib.hid (DAt.of (row_set QA.out 1 _))
  have HD22 : Hid (DiscR (w20a.setCell ⟨b21, 1, none⟩ (.slice (some ⟨dwb, dwo, none⟩) (ln - 1) dwc)) (.agg #[.int .i64 (fields.length : Int), .slice (some ⟨dwb, dwo, none⟩) (ln - 1) dwc, .slice (some ⟨dfb, dfo, none⟩) ln dfc, .slice (some ⟨dpb, dpo, none⟩) ln dpc]) ⟨fields.length, L.take (ln - 1), F, PP⟩) := Lib.hid ⟨_, _, _, rfl, (HZW.out _ f5W).preN (by omega), HFC.out _ f5W, HPSS.out _ f5W⟩
  have F22 := Lib.hid f5W
  have G22 := Lib.hid fW
  generalize w20a.setCell ⟨b21, 1, none⟩ (.slice (some ⟨dwb, dwo, none⟩) (ln - 1) dwc) = w22 at Q22 HD22 F22 G22 ⊢
  clear x89 fW f5W ek fzk QA FA G5 d0 d1 d2 d3
  obtain ⟨d0, d1, d2, d3⟩ := Q5.out.fr F22.out (by simp)
  go_upto_region 24 with (fail)
  have fa : Fr [] w22 (w22.alloc (.cells #[.int .i64 (fields.length : Int), .slice none 0 0, .slice none 0 0, .slice none 0 0] 26)) := (Fr.refl [] w22).alloc _
  have Q24 : Hid (DAt w22.heap.size (.int .i64 (fields.length : Int)) (.slice none 0 0) (.slice none 0 0) (.slice none 0 0) (w22.alloc (.cells #[.int .i64 (fields.length : Int), .slice none 0 0, .slice none 0 0, .slice none 0 0] 26))) := Lib.hid (DAt.of (heap_new rfl))
  generalize w22.alloc (.cells #[.int .i64 (fields.length : Int), .slice none 0 0, .slice none 0 0, .slice none 0 0] 26) = wf at fa Q24 ⊢
  obtain ⟨b22, eb22⟩ : ∃ b, b = w22.heap.size := ⟨_, rfl⟩
  rw [← eb22] at Q24 ⊢
  have EB22 := Lib.hid eb22
  have gwf : Fr [] w wf := (hf5.trans F22.out (by simp)).trans fa (by simp)
  have e16 : Fr [] w16 wf := ((G18.out.trans G20.out (by simp)).trans G22.out (by simp)).trans fa (by simp)
  have e18 : Fr [] w18 wf := (G20.out.trans G22.out (by simp)).trans fa (by simp)
  have e20 : Fr [] w20 wf := G22.out.trans fa (by simp)
  have R1 := Lib.hid (QT6.out.fr e16 (by simp))
  have S1 := Lib.hid (HT6.out.fr e16)
  have R2 := Lib.hid (Q126.out.fr e16 (by simp))
  have S2 := Lib.hid (HD126.out.fr e16)
  have R3 := Lib.hid (Q146.out.fr e16 (by simp))
  have S3 := Lib.hid (HD146.out.fr e16)
  have R4 := Lib.hid (Q16.out.fr e16 (by simp))
  have S4 := Lib.hid (HD16.out.fr e16)
  have R5 := Lib.hid (Q18.out.fr e18 (by simp))
  have S5 := Lib.hid (HD18.out.fr e18)
  have R6 := Lib.hid (Q20.out.fr e20 (by simp))
  have S6 := Lib.hid (HD20.out.fr e20)
  have R7 := Lib.hid (Q22.out.fr fa (by simp))
  have S7 := Lib.hid (HD22.out.fr fa)
  have R8 := Q24
  have S8 : Hid (DiscR wf (.agg #[.int .i64 (fields.length : Int), .slice none 0 0, .slice none 0 0, .slice none 0 0]) ⟨fields.length, [], [], []⟩) := Lib.hid ⟨_, _, _, rfl, Or.inl ⟨rfl, rfl⟩, Or.inl ⟨rfl, rfl⟩, Or.inl ⟨rfl, rfl⟩⟩
  have GWF := Lib.hid gwf
  have hLl := ELN.out
  have hFl := HFL.out
  have hPl := HPL.out
  have hq16 := HPTD.out
  have hy0 : y0.length ≤ 100000 := by rw [EY0.out]; exact HFSS.out _ (getD_mem F 0 [] (by omega))
  have hqc := HQC.out
  have hqn9 : qn = pt.length + 1 := by rw [EQN.out, hqc, List.length_cons]
  have hx16 : x0.length = 16 := hq16 x0 (by rw [hqc]; simp)
  have hp16 : ∀ x ∈ pt, x.length = 16 := fun x hx => hq16 x (by rw [hqc]; simp [hx])
  have hzz : L.getD 0 0 = ((z0.toNat : Nat) : Int) := by rw [← EZ0.out]; have := HZR.out; omega
  have X1 : Hid (chkD root ⟨fields.length, z0 :: L, y0 :: F, q0 :: PP⟩ = false) := Lib.hid (chk_false_inc (inc_twice EZ0.out (by omega)))
  have X2 : Hid (chkD root ⟨fields.length, L, F, (q0 ++ [more]) :: PP.drop 1⟩ = false) := Lib.hid (chk_false_at (k := 0) (by show 0 < L.length; omega) (step_len (x := x0) (p := pt ++ [more]) (n := fields.length) (i := z0.toNat) (by rw [hqc]; rfl) rfl hzz (by rw [List.length_append, HPTL.out]; simp)))
  have X3 : Hid (chkD root ⟨fields.length, L, F, (q0.take (qn - 1)) :: PP.drop 1⟩ = false) := Lib.hid (chk_false_at (k := 0) (by show 0 < L.length; omega) (by
    rw [hqn9, Nat.add_sub_cancel, hqc]
    cases hpt : pt with
    | nil => exact step_nil rfl
    | cons a p2 =>
      rw [List.length_cons, List.take_succ_cons]
      refine step_len (x := x0) (p := (a :: p2).take p2.length) (n := fields.length) (i := z0.toNat) rfl rfl hzz ?_
      rw [List.length_take, ← HPTL.out, hpt]
      simp))
  have X4 : Hid (chkD root ⟨fields.length, L, F, ((x0 ++ [48]) :: pt) :: PP.drop 1⟩ = false) := Lib.hid (chk_false_at (k := 0) (by show 0 < L.length; omega) (step_bad (x := x0 ++ [48]) (p := pt) rfl (by
    cases h : isD (x0 ++ [48]) with
    | false => rfl
    | true => have := isD_l16 h; rw [List.length_append] at this; simp at this; omega)))
  have X5 : Hid (chkD root ⟨fields.length, L, F.take (ln - 1), PP⟩ = false) := Lib.hid (chk_false_f (by show (F.take (ln - 1)).length ≠ L.length; rw [List.length_take]; omega))
  have X6 : Hid (chkD root ⟨fields.length, L, F, PP.take (ln - 1)⟩ = false) := Lib.hid (chk_false_p (by show (PP.take (ln - 1)).length ≠ L.length; rw [List.length_take]; omega))
  have X7 : Hid (chkD root ⟨fields.length, L.take (ln - 1), F, PP⟩ = false) := Lib.hid (chk_false_f (by show F.length ≠ (L.take (ln - 1)).length; rw [List.length_take]; omega))
  have X8 : Hid (chkD root ⟨fields.length, [], [], []⟩ = false) := Lib.hid (chk_false_inc (by simp [incB]))
  have hFS : ∀ x ∈ F, x.length ≤ 100000 := HFSS.out
  have hPD : ∀ l ∈ PP.drop 1, ∀ x ∈ l, x.length ≤ 100000 := fun l hl => HPPS.out l (List.mem_of_mem_drop hl)
  have Y1 : Hid (DSmall ⟨fields.length, z0 :: L, y0 :: F, q0 :: PP⟩) := Lib.hid ⟨HNN.out, fun x hx => by
      rcases List.mem_cons.1 hx with rfl | hx
      · exact hy0
      · exact hFS x hx, fun l hl x hx => by
      rcases List.mem_cons.1 hl with rfl | hl
      · have := hq16 x hx; omega
      · exact HPPS.out l hl x hx⟩
  have Y2 : Hid (DSmall ⟨fields.length, L, F, (q0 ++ [more]) :: PP.drop 1⟩) := Lib.hid ⟨HNN.out, hFS, fun l hl x hx => by
      rcases List.mem_cons.1 hl with rfl | hl
      · rcases List.mem_append.1 hx with hx | hx
        · have := hq16 x hx; omega
        · rw [List.mem_singleton.1 hx]; omega
      · exact hPD l hl x hx⟩
  have Y3 : Hid (DSmall ⟨fields.length, L, F, (q0.take (qn - 1)) :: PP.drop 1⟩) := Lib.hid ⟨HNN.out, hFS, fun l hl x hx => by
      rcases List.mem_cons.1 hl with rfl | hl
      · have := hq16 x (List.mem_of_mem_take hx); omega
      · exact hPD l hl x hx⟩
  have Y4 : Hid (DSmall ⟨fields.length, L, F, ((x0 ++ [48]) :: pt) :: PP.drop 1⟩) := Lib.hid ⟨HNN.out, hFS, fun l hl x hx => by
      rcases List.mem_cons.1 hl with rfl | hl
      · rcases List.mem_cons.1 hx with rfl | hx
        · rw [List.length_append]; simp; omega
        · have := hp16 x hx; omega
      · exact hPD l hl x hx⟩
  have Y5 : Hid (DSmall ⟨fields.length, L, F.take (ln - 1), PP⟩) := Lib.hid ⟨HNN.out, fun x hx => hFS x (List.mem_of_mem_take hx), HPPS.out⟩
  have Y6 : Hid (DSmall ⟨fields.length, L, F, PP.take (ln - 1)⟩) := Lib.hid ⟨HNN.out, hFS, fun l hl => HPPS.out l (List.mem_of_mem_take hl)⟩
  have Y7 : Hid (DSmall ⟨fields.length, L.take (ln - 1), F, PP⟩) := Lib.hid ⟨HNN.out, hFS, HPPS.out⟩
  have Y8 : Hid (DSmall ⟨fields.length, [], [], []⟩) := Lib.hid ⟨HNN.out, fun x hx => by simp at hx, fun l hl => by simp at hl⟩
  clear hLl hFl hPl hq16 hy0 hqc hqn9 hx16 hp16 hzz hFS hPD fa e16 e18 e20 gwf eb22 d0 d1 d2 d3 xw xi1 xi2 xi3 xi4 hdfc hdwc
  have v0 : Fr [] wf wf := Fr.refl _ _
  obtain ⟨k0, k1, k2, k3⟩ := R1.out.fr v0 (by simp)
  go_wp2_with fail
  refine (checkD_any root _ ⟨fields.length, z0 :: L, y0 :: F, q0 :: PP⟩ wf (S1.out.fr v0) Y1.out (HT.out.fr (GWF.out.trans v0 (by simp)))).mono ?_
  rintro e v1w ⟨rfl, hbv⟩
  rw [X1.out]
  have v1 : Fr [] wf v1w := v0.below hbv v0.size
  clear k0 k1 k2 k3 hbv v0
  obtain ⟨k0, k1, k2, k3⟩ := R2.out.fr v1 (by simp)
  go_wp2_with fail
  refine (checkD_any root _ ⟨fields.length, L, F, (q0 ++ [more]) :: PP.drop 1⟩ v1w (S2.out.fr v1) Y2.out (HT.out.fr (GWF.out.trans v1 (by simp)))).mono ?_
  rintro e v2w ⟨rfl, hbv⟩
  rw [X2.out]
  have v2 : Fr [] wf v2w := v1.below hbv v1.size
  clear k0 k1 k2 k3 hbv v1
  obtain ⟨k0, k1, k2, k3⟩ := R3.out.fr v2 (by simp)
  go_wp2_with fail
  refine (checkD_any root _ ⟨fields.length, L, F, (q0.take (qn - 1)) :: PP.drop 1⟩ v2w (S3.out.fr v2) Y3.out (HT.out.fr (GWF.out.trans v2 (by simp)))).mono ?_
  rintro e v3w ⟨rfl, hbv⟩
  rw [X3.out]
  have v3 : Fr [] wf v3w := v2.below hbv v2.size
  clear k0 k1 k2 k3 hbv v2
  obtain ⟨k0, k1, k2, k3⟩ := R4.out.fr v3 (by simp)
  go_wp2_with fail
  refine (checkD_any root _ ⟨fields.length, L, F, ((x0 ++ [48]) :: pt) :: PP.drop 1⟩ v3w (S4.out.fr v3) Y4.out (HT.out.fr (GWF.out.trans v3 (by simp)))).mono ?_
  rintro e v4w ⟨rfl, hbv⟩
  rw [X4.out]
  have v4 : Fr [] wf v4w := v3.below hbv v3.size
  clear k0 k1 k2 k3 hbv v3
  obtain ⟨k0, k1, k2, k3⟩ := R5.out.fr v4 (by simp)
  go_wp2_with fail
  refine (checkD_any root _ ⟨fields.length, L, F.take (ln - 1), PP⟩ v4w (S5.out.fr v4) Y5.out (HT.out.fr (GWF.out.trans v4 (by simp)))).mono ?_
  rintro e v5w ⟨rfl, hbv⟩
  rw [X5.out]
  have v5 : Fr [] wf v5w := v4.below hbv v4.size
  clear k0 k1 k2 k3 hbv v4
  obtain ⟨k0, k1, k2, k3⟩ := R6.out.fr v5 (by simp)
  go_wp2_with fail
  refine (checkD_any root _ ⟨fields.length, L, F, PP.take (ln - 1)⟩ v5w (S6.out.fr v5) Y6.out (HT.out.fr (GWF.out.trans v5 (by simp)))).mono ?_
  rintro e v6w ⟨rfl, hbv⟩
  rw [X6.out]
  have v6 : Fr [] wf v6w := v5.below hbv v5.size
  clear k0 k1 k2 k3 hbv v5
  obtain ⟨k0, k1, k2, k3⟩ := R7.out.fr v6 (by simp)
  go_wp2_with fail
  refine (checkD_any root _ ⟨fields.length, L.take (ln - 1), F, PP⟩ v6w (S7.out.fr v6) Y7.out (HT.out.fr (GWF.out.trans v6 (by simp)))).mono ?_
  rintro e v7w ⟨rfl, hbv⟩
  rw [X7.out]
  have v7 : Fr [] wf v7w := v6.below hbv v6.size
  clear k0 k1 k2 k3 hbv v6
  obtain ⟨k0, k1, k2, k3⟩ := R8.out.fr v7 (by simp)
  go_wp2_with fail
  refine (checkD_any root _ ⟨fields.length, [], [], []⟩ v7w (S8.out.fr v7) Y8.out (HT.out.fr (GWF.out.trans v7 (by simp)))).mono ?_
  rintro e v8w ⟨rfl, hbv⟩
  rw [X8.out]
  have v8 : Fr [] wf v8w := v7.below hbv v7.size
  clear k0 k1 k2 k3 hbv v7
  go_wp2_with fail
  go_ret
  exact ⟨rfl, (GWF.out.trans v8 (by simp)).toBelow (by simp)⟩
end Go.Proofs.YtmhejcndkplepaaDoor
