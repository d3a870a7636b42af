/-
  foyerlaw20.AuditReceipts.
-/
import Derived.Test.YtcohghaanakiiaaGreatDoorAuX
import Derived.BigQuiet
namespace Go.Proofs.YtcohghaanakiiaaGreatDoor
open Go.RowKit
set_option maxRecDepth 100000

theorem receipts_coll {es : List Pty} {i : Nat} {x y : Pty} (hv : ∀ e ∈ es, validB e = true) (hi : es[i]? = some x) (hne : x ≠ y) (hr : chkB (rootL (textsE es)) (es.length : Int) (i : Int) (textS y) (pathL ((textsE es).map leafD) i) = true) : collT (textsE es) ((textsE es).set i (textS y)) = true := by
  have hil : i < es.length := (List.getElem?_eq_some_iff.1 hi).1
  have hl : (textsE es).length = es.length := by unfold textsE; rw [List.length_map]
  have g : (textsE es)[i]? = some (textS x) := by unfold textsE; rw [List.getElem?_map, hi]; rfl
  refine coll_of (by rw [List.length_set]) (fun e => ?_) ?_
  · have h2 : ((textsE es).set i (textS y))[i]? = some (textS y) := by rw [List.getElem?_set_self (by omega)]
    rw [← e, g] at h2
    exact hne (ent_inj x y (hv x (List.mem_of_getElem? hi)) (Option.some.inj h2))
  · exact (receipt_set (by omega) (by rw [hl]; exact hr)).symm
theorem receipts_ok {es : List Pty} {i : Nat} {x : Pty} (hi : es[i]? = some x) : chkB (rootL (textsE es)) (es.length : Int) (i : Int) (textS x) (pathL ((textsE es).map leafD) i) = true := by
  have hil : i < es.length := (List.getElem?_eq_some_iff.1 hi).1
  have hl : (textsE es).length = es.length := by unfold textsE; rw [List.length_map]
  have g : (textsE es).getD i [] = textS x := by rw [List.getD_eq_getElem?_getD]; unfold textsE; rw [List.getElem?_map, hi]; rfl
  have h := receipt_ok (textsE es) i (by omega)
  rw [hl, g] at h
  exact h
set_option maxHeartbeats 16000000 in
theorem auditReceipts_any (ev0 : Value) (es : List Pty) (pv0 : Value) (ps : List Pty) (c d : Nat) (w : World) (hc : c < 256) (hd : d < 256) (hT : Tabs w) (he : Pts w ev0 es) (hp : Pts w pv0 ps) :
    Calls Tryz.prog 6 #[ev0, pv0, .int .u8 (c : Int), .int .u8 (d : Int)] w fun e w' => e = .returned (.bool true) ∧ Below w.heap.size w w' := by
  have HT := Lib.hid hT
  have HE0 := Lib.hid he
  have HP0 := Lib.hid hp
  have HFEW := Lib.hid (fun (W : World) (hf : Fr [] w W) => few20_any _ (⟨es, [], ps, [], []⟩ : Pbl) 20 W ⟨ev0, pv0, .slice none 0 0, .slice none 0 0, rfl, he.fr hf, hp.fr hf, Or.inl ⟨rfl, none, rfl⟩, Or.inl ⟨rfl, none, rfl⟩⟩)
  obtain ⟨ea0, ec0, rfl, _, _, hea⟩ := he.form
  obtain ⟨pa0, pc0, rfl, _, _, _⟩ := hp.form
  have hmx : Tryz.prog.follows .mixedOrders = true := by kernel_rfl
  clear hT he hp
  go_enter Tryz.func6, Tryz.ntmps6
  go_wp2_with fail
  refine (head20_any w HT.out).mono ?_
  rintro e w1 ⟨rfl, hb⟩
  have HF1 := Lib.hid (Fr.ofBelow (X := []) hb)
  clear hb
  go_wp2_with fail
  refine (HFEW.out w1 HF1.out).mono ?_
  rintro e w2 ⟨rfl, hb⟩
  have HF2 := Lib.hid (HF1.out.below hb HF1.out.size)
  clear hb HFEW
  obtain ⟨fb, efb⟩ : ∃ q, q = few20B (⟨es, [], ps, [], []⟩ : Pbl) 20 := ⟨_, rfl⟩
  rw [← efb]
  cases fb with
  | false =>
    clear efb
    go_wp2_with fail
    go_ret
    exact ⟨rfl, HF2.out.toBelow (by simp)⟩
  | true =>
  have HOK := Lib.hid (few20_ok efb.symm (fun k hk => by cases hk) (fun k hk => by cases hk))
  clear efb
  have HEN : Hid (es.length ≤ 20) := Lib.hid HOK.out.2.1
  have HPN : Hid (ps.length ≤ 20) := Lib.hid HOK.out.2.2.1
  by_cases h0 : es.length = 0
  case pos =>
    have t1 : ((es.length : Int) == 0) = true := by rw [h0]; rfl
    clear h0
    go_wp2_with fail
    go_ret
    exact ⟨rfl, HF2.out.toBelow (by simp)⟩
  have t1 : ((es.length : Int) == 0) = false := by rw [beq_eq_false_iff_ne]; omega
  have HPZ := Lib.hid (pub_two (clsL es) es ps)
  rcases HPZ.out with ⟨P, hP, hgood, hpe, hpp, hps, hpo, hpr⟩ | hbad
  case inr =>
    obtain ⟨er, eer⟩ : ∃ q, q = (pubS (clsL es) es ps).2 := ⟨_, rfl⟩
    have t2 : (er != 0) = true := by rw [eer]; simpa using hbad
    have t3 : (er == 0) = false := by rw [eer]; simpa using hbad
    have HN := Lib.hid (pubNo_any _ _ es ps er w2 (HE0.out.fr HF2.out) (HP0.out.fr HF2.out) HOK.out.1.e (by have := HEN.out; omega) (by have := HPN.out; omega) HOK.out.1.p (HT.out.fr HF2.out) eer.symm (by rw [eer]; exact hbad))
    clear eer hbad
    go_wp2_with fail
    refine HN.out.mono ?_
    rintro e w3 ⟨ea, ec, pa, pc, oa, oc, sa, sc, rfl, hb⟩
    have HF3 := Lib.hid (HF2.out.below hb HF2.out.size)
    clear hb HN
    go_wp2_with fail
    go_ret
    exact ⟨rfl, (HF3.out.alloc _).toBelow (by simp)⟩
  obtain ⟨on, eon⟩ : ∃ q, q = P.order.length := ⟨_, rfl⟩
  obtain ⟨n, en⟩ : ∃ q, q = es.length := ⟨_, rfl⟩
  obtain ⟨m, em⟩ : ∃ q, q = ps.length := ⟨_, rfl⟩
  obtain ⟨R, eR⟩ : ∃ q, q = P.root := ⟨_, rfl⟩
  have HOK2 := Lib.hid (pubOk_any _ _ es ps P w2 (HE0.out.fr HF2.out) (HP0.out.fr HF2.out) HOK.out.1.e (by have := HEN.out; omega) (by have := HPN.out; omega) HOK.out.1.p (HT.out.fr HF2.out) hP n m on 0 (by rw [hpe, en]) (by rw [hpp, em]) eon.symm (by rw [hps]; rfl))
  have HPE : Hid (P.ents = es) := Lib.hid hpe
  have HRT : Hid (R = rootL (textsE es)) := Lib.hid (by rw [eR, hpr])
  have HV : Hid (∀ e ∈ es, validB e = true) := Lib.hid (by have := hgood.2.1; rwa [hpe] at this)
  have HEs := Lib.hid (fun W (h : Fr [] w W) => HE0.out.fr h)
  have HTX := Lib.hid (fun W (h : Fr [] w W) => ctexts_any _ es W (HE0.out.fr h) (by have := HEN.out; omega) HOK.out.1.e)
  have HPFE : Hid (∀ W v, PblR W v P → PblR W v P) := Lib.hid (fun _ _ h => h)
  have EN := Lib.hid en
  have EM := Lib.hid em
  have HN0 : Hid (0 < n) := Lib.hid (by omega)
  have HN20 : Hid (n ≤ 20) := Lib.hid (by have := HEN.out; omega)
  have EON := Lib.hid eon
  have EPE := Lib.hid hpe
  have EPP := Lib.hid hpp
  have EPS := Lib.hid hps
  have ER := Lib.hid eR
  rw [← eR] at HOK2
  rw [← en] at HEs HTX t1 hea HOK2 ⊢
  rw [← em] at HOK2 ⊢
  clear hP hgood hpe hpp hps hpo hpr en em eon eR h0
  go_wp2_with fail
  refine HOK2.out.mono ?_
  rintro e w3 ⟨ea, ec, pa, pc, oa, oc, sa, sc, rfl, g1, g2, g3, g4, hb⟩
  have HF3 := Lib.hid (HF2.out.below hb HF2.out.size)
  have HG1 := Lib.hid g1
  have HG2 := Lib.hid g2
  have HG3 := Lib.hid g3
  have HG4 := Lib.hid g4
  clear g1 g2 g3 g4 hb HOK2
  obtain ⟨W4, hW4⟩ : ∃ W, W = w3.alloc (.cells #[.slice ea n ec, .string ⟨R.toArray⟩, .slice pa m pc, .slice oa on oc, .slice sa 0 sc] 26) := ⟨_, rfl⟩
  obtain ⟨pb, epb⟩ : ∃ q, q = w3.heap.size := ⟨_, rfl⟩
  have hp4 : W4.heap[pb]? = some (.cells #[.slice ea n ec, .string ⟨R.toArray⟩, .slice pa m pc, .slice oa on oc, .slice sa 0 sc] 26 (0, 0)) := by rw [hW4]; exact heap_new epb
  have f34 : Fr [] w3 W4 := by rw [hW4]; exact (Fr.refl [] w3).alloc _
  have HF4 := Lib.hid (HF3.out.trans f34 (by simp))
  have HPR4 : Hid (PblR W4 (.agg #[.slice ea n ec, .string ⟨R.toArray⟩, .slice pa m pc, .slice oa on oc, .slice sa 0 sc]) P) := Lib.hid ⟨_, _, _, _, by rw [ER.out], HG1.out.fr f34, HG2.out.fr f34, HG3.out.fr0 f34, HG4.out.fr0 f34⟩
  have HP4 := Lib.hid hp4
  have E4 := Lib.hid hW4
  have EPB := Lib.hid epb
  obtain ⟨i, ei⟩ : ∃ q, q = c % n := ⟨_, rfl⟩
  obtain ⟨k, ek⟩ : ∃ q, q = d % n := ⟨_, rfl⟩
  have q1 : IntKind.i64.wrap (c : Int) = (c : Int) := IntWalk.i64_in _ (by omega)
  have q2 : IntKind.i64.wrap (d : Int) = (d : Int) := IntWalk.i64_in _ (by omega)
  have q3 : (c : Int).tmod (n : Int) = (i : Int) := by rw [Int.tmod_eq_emod_of_nonneg (by omega), ei]; rfl
  have q4 : (d : Int).tmod (n : Int) = (k : Int) := by rw [Int.tmod_eq_emod_of_nonneg (by omega), ek]; rfl
  have hin : i < n := by rw [ei]; exact Nat.mod_lt _ HN0.out
  have hkn : k < n := by rw [ek]; exact Nat.mod_lt _ HN0.out
  have q5 : IntKind.i64.wrap (i : Int) = (i : Int) := IntWalk.i64_in _ (by have := HN20.out; omega)
  have q6 : IntKind.i64.wrap (k : Int) = (k : Int) := IntWalk.i64_in _ (by have := HN20.out; omega)
  have HIN := Lib.hid hin
  have HKN := Lib.hid hkn
  have p0 := row_cell hp4 0
  have p1 := row_cell hp4 1
  have p2 := row_cell hp4 2
  have p3 := row_cell hp4 3
  have p4 := row_cell hp4 4
  simp at p0 p1 p2 p3 p4
  have t2 : ((0 : Int) != 0) = false := by rfl
  have q7 : ¬ n = 0 := by have := HN0.out; omega
  have q8 : ¬ (n : Int) = 0 := by have := HN0.out; omega
  have HRC := Lib.hid (fun (j : Int) W (h : PblR W (.agg #[.slice ea n ec, .string ⟨R.toArray⟩, .slice pa m pc, .slice oa on oc, .slice sa 0 sc]) P) (hT : Tabs W) => receipt_any _ P j W h (by rw [EPE.out]; exact HOK.out.1.e) (by rw [EPE.out]; have := HEN.out; omega) hT)
  clear f34 hp4 hW4 epb ei ek hin hkn
  go_wp2_with fail
  rw [← E4.out, ← EPB.out]
  refine (HRC.out i W4 HPR4.out (HT.out.fr HF4.out)).mono ?_
  rintro e w5 ⟨rv, re, rfl, _, hrk, hb⟩
  obtain ⟨rfl, hro⟩ := hrk i rfl (by rw [EPE.out, ← EN.out]; exact HIN.out)
  rw [EPE.out] at hro
  obtain ⟨L, eL⟩ : ∃ L, L = pathL ((textsE es).map leafD) i := ⟨_, rfl⟩
  rw [← eL] at hro
  have HLS : Hid (∀ s ∈ L, s.length ≤ 1000000) := Lib.hid (by
    rw [eL]
    exact fun s hs => path_small _ _ (fun t ht => by obtain ⟨u, _, rfl⟩ := List.mem_map.1 ht; unfold leafD dlist; rw [dsum_length]; decide) s hs)
  have EL := Lib.hid eL
  obtain ⟨la, lc, rfl, _, _⟩ := hro.strs.form
  have f45 := Fr.ofBelow (X := []) hb
  have HL5 := Lib.hid hro.strs
  have HX5 := Lib.hid f45
  have HF5 := Lib.hid (HF4.out.trans f45 (by simp))
  have p0 := row_cell (f45.at HP4.out (by simp)) 0
  have p1 := row_cell (f45.at HP4.out (by simp)) 1
  have p2 := row_cell (f45.at HP4.out (by simp)) 2
  have p3 := row_cell (f45.at HP4.out (by simp)) 3
  have p4 := row_cell (f45.at HP4.out (by simp)) 4
  simp at p0 p1 p2 p3 p4
  clear hrk hb hro eL f45
  go_wp2_with fail
  refine (HRC.out n w5 (HPR4.out.fr HX5.out) (HT.out.fr HF5.out)).mono ?_
  rintro e w6 ⟨rv2, re2, rfl, hno, _, hb⟩
  obtain ⟨rfl, rfl⟩ := hno (Or.inr (by rw [EPE.out, ← EN.out]; exact Int.le_refl _))
  have f56 := Fr.ofBelow (X := []) hb
  have HL6 := Lib.hid (HL5.out.fr0 f56)
  have HX6 := Lib.hid (HX5.out.trans f56 (by simp))
  have HF6 := Lib.hid (HF5.out.trans f56 (by simp))
  clear hno hb f56 p0 p1 p2 p3 p4 q1 q2 q3 q4
  go_wp2_with fail
  obtain ⟨W8, eW8⟩ : ∃ W, W = w6 := ⟨_, rfl⟩
  rw [← eW8] at HL6 HX6 HF6 ⊢
  clear eW8
  obtain ⟨eb, eo, rfl⟩ := hea i HIN.out
  obtain ⟨x, hx⟩ : ∃ x, es[i]? = some x := ⟨_, List.getElem?_eq_getElem (by rw [← EN.out]; exact HIN.out)⟩
  obtain ⟨y, hy⟩ : ∃ x, es[k]? = some x := ⟨_, List.getElem?_eq_getElem (by rw [← EN.out]; exact HKN.out)⟩
  obtain ⟨x0, x1, x2⟩ := (HEs.out W8 HF6.out).cells i x hx
  obtain ⟨y0, y1, y2⟩ := (HEs.out W8 HF6.out).cells k y hy
  have p1 := row_cell (HX6.out.at HP4.out (by simp)) 1
  simp at p1
  have hxs := HOK.out.1.e x (List.mem_of_getElem? hx)
  have hys := HOK.out.1.e y (List.mem_of_getElem? hy)
  have HVY : Hid (validB y = true) := Lib.hid (HV.out y (List.mem_of_getElem? hy))
  have HCK : Hid ((validB x && chkB R n i (textS x) L) = true) := Lib.hid (by rw [HV.out x (List.mem_of_getElem? hx), HRT.out, EL.out, EN.out, receipts_ok hx]; rfl)
  have HCO : Hid (x ≠ y → chkB R n i (textS y) L = true → collT (textsE es) ((textsE es).set i (textS y)) = true) := Lib.hid (fun h1 h2 => receipts_coll HV.out hx h1 (by rw [← HRT.out, ← EL.out, ← EN.out]; exact h2))
  have HTY := Lib.hid (fun W => textE_any y W hys.1 hys.2.1 hys.2.2)
  have HIX := Lib.hid (fun W (h : Fr [] W8 W) => inclB_any R n i x _ L W true (by have := HN20.out; omega) (by have := HN20.out; have := HIN.out; omega) hxs.1 hxs.2.1 hxs.2.2 (HL6.out.fr0 h) HLS.out (HT.out.fr (HF6.out.trans h (by simp))) HCK.out)
  have HIY0 := Lib.hid (fun W (h : Fr [] W8 W) => inclB_any R n i y _ L W (validB y && chkB R n i (textS y) L) (by have := HN20.out; omega) (by have := HN20.out; have := HIN.out; omega) hys.1 hys.2.1 hys.2.2 (HL6.out.fr0 h) HLS.out (HT.out.fr (HF6.out.trans h (by simp))) rfl)
  have i0 : (0 : Int) ≤ (i : Int) := by omega
  have i1 : (i : Int) < (n : Int) := by have := HIN.out; omega
  have i2 : (0 : Int) ≤ (k : Int) := by omega
  have i3 : (k : Int) < (n : Int) := by have := HKN.out; omega
  have HXI := Lib.hid hx
  have HYI := Lib.hid hy
  clear hx hy hxs hys
  unfold ptyV at HIX HIY0
  have gu0 : Fr [] W8 W8.drew := (Fr.refl [] W8).drew
  have hSu0 : Fr [] W8 W8.drew := gu0
  refine region_held 100 (fun W' => Fr [] W8 W') hmx ?_
  change Held _ _ _ _ _ _ 19 (Array.replicate 19 false) _ _
  refine hd_take 0 (v := .int .i64 0) rfl (by kernel_rfl) (by kernel_rfl) (by kernel_rfl) rfl hSu0 (fun W' hS => by go_simp) rfl ?_
  try simp only [Act.put, List.setIfInBounds_toArray, List.set_cons_zero, List.set_cons_succ]
  refine hd_take 1 (v := .bool false) rfl (by kernel_rfl) (by kernel_rfl) (by kernel_rfl) rfl hSu0 (fun W' hS => by go_simp) rfl ?_
  try simp only [Act.put, List.setIfInBounds_toArray, List.set_cons_zero, List.set_cons_succ]
  refine hd_take 2 (v := .bool false) rfl (by kernel_rfl) (by kernel_rfl) (by kernel_rfl) rfl hSu0 (fun W' hS => by go_simp) rfl ?_
  try simp only [Act.put, List.setIfInBounds_toArray, List.set_cons_zero, List.set_cons_succ]
  refine hd_take 3 (v := .int .i64 1) rfl (by kernel_rfl) (by kernel_rfl) (by kernel_rfl) rfl hSu0 (fun W' hS => by go_simp) rfl ?_
  try simp only [Act.put, List.setIfInBounds_toArray, List.set_cons_zero, List.set_cons_succ]
  refine hd_take 4 (v := .bool false) rfl (by kernel_rfl) (by kernel_rfl) (by kernel_rfl) rfl hSu0 (fun W' hS => by go_simp) rfl ?_
  try simp only [Act.put, List.setIfInBounds_toArray, List.set_cons_zero, List.set_cons_succ]
  refine hd_take 5 (v := .bool false) rfl (by kernel_rfl) (by kernel_rfl) (by kernel_rfl) rfl hSu0 (fun W' hS => by go_simp) rfl ?_
  try simp only [Act.put, List.setIfInBounds_toArray, List.set_cons_zero, List.set_cons_succ]
  refine hd_take 6 (v := .bool false) rfl (by kernel_rfl) (by kernel_rfl) (by kernel_rfl) rfl hSu0 (fun W' hS => by go_simp) rfl ?_
  try simp only [Act.put, List.setIfInBounds_toArray, List.set_cons_zero, List.set_cons_succ]
  refine hd_take 7 (v := .pointer (some ⟨pb, 1, none⟩)) rfl (by kernel_rfl) (by kernel_rfl) (by kernel_rfl) rfl hSu0 (fun W' hS => by go_simp) rfl ?_
  refine hd_take 9 (v := .int .i64 (n : Int)) rfl (by kernel_rfl) (by kernel_rfl) (by kernel_rfl) rfl hSu0 (fun W' hS => by go_simp) rfl ?_
  refine hd_take 10 (v := .int .i64 (i : Int)) rfl (by kernel_rfl) (by kernel_rfl) (by kernel_rfl) rfl hSu0 (fun W' hS => by go_simp) rfl ?_
  refine hd_take 11 (v := .slice (some ⟨eb, eo, none⟩) n ec0) rfl (by kernel_rfl) (by kernel_rfl) (by kernel_rfl) rfl hSu0 (fun W' hS => by go_simp) rfl ?_
  refine hd_take 12 (v := .int .i64 (i : Int)) rfl (by kernel_rfl) (by kernel_rfl) (by kernel_rfl) rfl hSu0 (fun W' hS => by go_simp) rfl ?_
  refine hd_take 15 (v := .slice la L.length lc) rfl (by kernel_rfl) (by kernel_rfl) (by kernel_rfl) rfl hSu0 (fun W' hS => by go_simp) rfl ?_
  try simp only [Act.put, List.setIfInBounds_toArray, List.set_cons_zero, List.set_cons_succ]
  refine hd_take 8 (v := .string ⟨R.toArray⟩) rfl (by kernel_rfl) (by kernel_rfl) (by kernel_rfl) rfl hSu0 (fun W' hS => by have s0 := hS.cell p1 (by simp); go_simp) rfl ?_
  refine hd_take 13 (v := .pointer (some ⟨eb, eo + i * 3, none⟩)) rfl (by kernel_rfl) (by kernel_rfl) (by kernel_rfl) rfl hSu0 (fun W' hS => by go_simp) rfl ?_
  try simp only [Act.put, List.setIfInBounds_toArray, List.set_cons_zero, List.set_cons_succ]
  refine hd_take 14 (v := .agg #[.string ⟨x.name.toArray⟩, .string ⟨x.com.toArray⟩, .string ⟨x.rev.toArray⟩]) rfl (by kernel_rfl) (by kernel_rfl) (by kernel_rfl) rfl hSu0 (fun W' hS => by have s0 := hS.cell x0 (by simp); have s1 := hS.cell x1 (by simp); have s2 := hS.cell x2 (by simp); go_simp) rfl ?_
  try simp only [Act.put, List.setIfInBounds_toArray, List.set_cons_zero, List.set_cons_succ]
  refine hd_one 16 (by kernel_rfl) rfl (by kernel_rfl) rfl (fun K' hK => ?_)
  go_simp
  refine (HIX.out W8.drew gu0).mono ?_
  rintro e yu1 ⟨rfl, hbb⟩
  have gu1 : Fr [] W8 yu1 := gu0.below hbb gu0.size
  clear hbb
  have hSu1 : Fr [] W8 yu1 := gu1
  refine hK.out _ _ (fun _ => hSu1) ?_
  clear hK K'
  try simp only [Act.put, List.setIfInBounds_toArray, List.set_cons_zero, List.set_cons_succ]
  refine hd_take 17 (v := .bool false) rfl (by kernel_rfl) (by kernel_rfl) (by kernel_rfl) rfl hSu1 (fun W' hS => by go_simp) rfl ?_
  try simp only [Act.put, List.setIfInBounds_toArray, List.set_cons_zero, List.set_cons_succ]
  refine hd_one 18 (by kernel_rfl) rfl (by kernel_rfl) rfl (fun K' hK => ?_)
  go_simp
  refine hK.out _ _ (fun _ => hSu1) ?_
  clear hK K'
  refine held_done (by kernel_rfl) ?_
  have f89 := gu1
  obtain ⟨W9, eW9⟩ : ∃ W, W = yu1 := ⟨_, rfl⟩
  rw [← eW9] at f89 ⊢
  have HX9 := Lib.hid f89
  have x0 := f89.cell x0 (by simp)
  have x1 := f89.cell x1 (by simp)
  have x2 := f89.cell x2 (by simp)
  have y0 := f89.cell y0 (by simp)
  have y1 := f89.cell y1 (by simp)
  have y2 := f89.cell y2 (by simp)
  have p1 := f89.cell p1 (by simp)
  obtain ⟨q, eq⟩ : ∃ q, q = decide (x = y) := ⟨_, rfl⟩
  have hqq : ∀ w, (Op.equalIn 10000 43 (.agg #[.string ⟨x.name.toArray⟩, .string ⟨x.com.toArray⟩, .string ⟨x.rev.toArray⟩]) (.agg #[.string ⟨y.name.toArray⟩, .string ⟨y.com.toArray⟩, .string ⟨y.rev.toArray⟩])).run Tryz.prog w = .ok q w := fun w => by
    rw [eq]
    exact ent_eq x y w
  have EQ := Lib.hid eq
  clear eq eW9 f89 HIX
  go_wp2_with fail
  cases q with
  | true =>
    have gv0 : Fr [] W9 W9.drew := (Fr.refl [] W9).drew
    have hSv0 : Fr [] W9 W9.drew := gv0
    refine region_held 100 (fun W' => Fr [] W9 W') hmx ?_
    change Held _ _ _ _ _ _ 22 (Array.replicate 22 false) _ _
    refine hd_take 0 (v := .slice (some ⟨eb, eo, none⟩) n ec0) rfl (by kernel_rfl) (by kernel_rfl) (by kernel_rfl) rfl hSv0 (fun W' hS => by go_simp) rfl ?_
    refine hd_take 1 (v := .int .i64 (i : Int)) rfl (by kernel_rfl) (by kernel_rfl) (by kernel_rfl) rfl hSv0 (fun W' hS => by go_simp) rfl ?_
    refine hd_take 4 (v := .slice (some ⟨eb, eo, none⟩) n ec0) rfl (by kernel_rfl) (by kernel_rfl) (by kernel_rfl) rfl hSv0 (fun W' hS => by go_simp) rfl ?_
    refine hd_take 5 (v := .int .i64 (k : Int)) rfl (by kernel_rfl) (by kernel_rfl) (by kernel_rfl) rfl hSv0 (fun W' hS => by go_simp) rfl ?_
    try simp only [Act.put, List.setIfInBounds_toArray, List.set_cons_zero, List.set_cons_succ]
    refine hd_take 2 (v := .pointer (some ⟨eb, eo + i * 3, none⟩)) rfl (by kernel_rfl) (by kernel_rfl) (by kernel_rfl) rfl hSv0 (fun W' hS => by go_simp) rfl ?_
    refine hd_take 6 (v := .pointer (some ⟨eb, eo + k * 3, none⟩)) rfl (by kernel_rfl) (by kernel_rfl) (by kernel_rfl) rfl hSv0 (fun W' hS => by go_simp) rfl ?_
    try simp only [Act.put, List.setIfInBounds_toArray, List.set_cons_zero, List.set_cons_succ]
    refine hd_take 3 (v := .agg #[.string ⟨x.name.toArray⟩, .string ⟨x.com.toArray⟩, .string ⟨x.rev.toArray⟩]) rfl (by kernel_rfl) (by kernel_rfl) (by kernel_rfl) rfl hSv0 (fun W' hS => by have s0 := hS.cell x0 (by simp); have s1 := hS.cell x1 (by simp); have s2 := hS.cell x2 (by simp); go_simp) rfl ?_
    refine hd_take 7 (v := .agg #[.string ⟨y.name.toArray⟩, .string ⟨y.com.toArray⟩, .string ⟨y.rev.toArray⟩]) rfl (by kernel_rfl) (by kernel_rfl) (by kernel_rfl) rfl hSv0 (fun W' hS => by have s0 := hS.cell y0 (by simp); have s1 := hS.cell y1 (by simp); have s2 := hS.cell y2 (by simp); go_simp) rfl ?_
    try simp only [Act.put, List.setIfInBounds_toArray, List.set_cons_zero, List.set_cons_succ]
    refine hd_take 8 (v := .bool true) rfl (by kernel_rfl) (by kernel_rfl) (by kernel_rfl) rfl hSv0 (fun W' hS => by go_simp) rfl ?_
    try simp only [Act.put, List.setIfInBounds_toArray, List.set_cons_zero, List.set_cons_succ]
    refine hd_take 9 (v := .bool true) rfl (by kernel_rfl) (by kernel_rfl) (by kernel_rfl) rfl hSv0 (fun W' hS => by go_simp) rfl ?_
    try simp only [Act.put, List.setIfInBounds_toArray, List.set_cons_zero, List.set_cons_succ]
    refine hd_skip 10 rfl (by kernel_rfl) (by kernel_rfl) (by kernel_rfl) rfl hSv0 rfl ?_
    refine hd_skip 11 rfl (by kernel_rfl) (by kernel_rfl) (by kernel_rfl) rfl hSv0 rfl ?_
    refine hd_skip 12 rfl (by kernel_rfl) (by kernel_rfl) (by kernel_rfl) rfl hSv0 rfl ?_
    refine hd_skip 13 rfl (by kernel_rfl) (by kernel_rfl) (by kernel_rfl) rfl hSv0 rfl ?_
    refine hd_skip 14 rfl (by kernel_rfl) (by kernel_rfl) (by kernel_rfl) rfl hSv0 rfl ?_
    refine hd_skip 15 rfl (by kernel_rfl) (by kernel_rfl) (by kernel_rfl) rfl hSv0 rfl ?_
    refine hd_skip 16 rfl (by kernel_rfl) (by kernel_rfl) (by kernel_rfl) rfl hSv0 rfl ?_
    refine hd_skip 17 rfl (by kernel_rfl) (by kernel_rfl) (by kernel_rfl) rfl hSv0 rfl ?_
    refine hd_skip 18 rfl (by kernel_rfl) (by kernel_rfl) (by kernel_rfl) rfl hSv0 rfl ?_
    refine hd_skip 19 rfl (by kernel_rfl) (by kernel_rfl) (by kernel_rfl) rfl hSv0 rfl ?_
    refine hd_skip 20 rfl (by kernel_rfl) (by kernel_rfl) (by kernel_rfl) rfl hSv0 rfl ?_
    try simp only [Act.put, List.setIfInBounds_toArray, List.set_cons_zero, List.set_cons_succ]
    refine hd_one 21 (by kernel_rfl) rfl (by kernel_rfl) rfl (fun K' hK => ?_)
    go_simp
    refine hK.out _ _ (fun _ => hSv0) ?_
    clear hK K'
    refine held_done (by kernel_rfl) ?_
    have HFS := Lib.hid (HF6.out.trans (HX9.out.trans gv0 (by simp)) (by simp))
    go_wp2_with fail
    go_ret
    exact ⟨rfl, HFS.out.toBelow (by simp)⟩
  | false =>
  have HNE : Hid (x ≠ y) := Lib.hid (of_decide_eq_false EQ.out.symm)
  obtain ⟨bb, ebb⟩ : ∃ q, q = (validB y && chkB R n i (textS y) L) := ⟨_, rfl⟩
  have EBB := Lib.hid ebb
  rw [← ebb] at HIY0
  have HIY := Lib.hid (fun W (h : Fr [] W9 W) => HIY0.out W (HX9.out.trans h (by simp)))
  clear ebb HIY0
  cases bb with
  | false =>
    have gv0 : Fr [] W9 W9.drew := (Fr.refl [] W9).drew
    have hSv0 : Fr [] W9 W9.drew := gv0
    refine region_held 100 (fun W' => Fr [] W9 W') hmx ?_
    change Held _ _ _ _ _ _ 22 (Array.replicate 22 false) _ _
    refine hd_take 0 (v := .slice (some ⟨eb, eo, none⟩) n ec0) rfl (by kernel_rfl) (by kernel_rfl) (by kernel_rfl) rfl hSv0 (fun W' hS => by go_simp) rfl ?_
    refine hd_take 1 (v := .int .i64 (i : Int)) rfl (by kernel_rfl) (by kernel_rfl) (by kernel_rfl) rfl hSv0 (fun W' hS => by go_simp) rfl ?_
    refine hd_take 4 (v := .slice (some ⟨eb, eo, none⟩) n ec0) rfl (by kernel_rfl) (by kernel_rfl) (by kernel_rfl) rfl hSv0 (fun W' hS => by go_simp) rfl ?_
    refine hd_take 5 (v := .int .i64 (k : Int)) rfl (by kernel_rfl) (by kernel_rfl) (by kernel_rfl) rfl hSv0 (fun W' hS => by go_simp) rfl ?_
    try simp only [Act.put, List.setIfInBounds_toArray, List.set_cons_zero, List.set_cons_succ]
    refine hd_take 2 (v := .pointer (some ⟨eb, eo + i * 3, none⟩)) rfl (by kernel_rfl) (by kernel_rfl) (by kernel_rfl) rfl hSv0 (fun W' hS => by go_simp) rfl ?_
    refine hd_take 6 (v := .pointer (some ⟨eb, eo + k * 3, none⟩)) rfl (by kernel_rfl) (by kernel_rfl) (by kernel_rfl) rfl hSv0 (fun W' hS => by go_simp) rfl ?_
    try simp only [Act.put, List.setIfInBounds_toArray, List.set_cons_zero, List.set_cons_succ]
    refine hd_take 3 (v := .agg #[.string ⟨x.name.toArray⟩, .string ⟨x.com.toArray⟩, .string ⟨x.rev.toArray⟩]) rfl (by kernel_rfl) (by kernel_rfl) (by kernel_rfl) rfl hSv0 (fun W' hS => by have s0 := hS.cell x0 (by simp); have s1 := hS.cell x1 (by simp); have s2 := hS.cell x2 (by simp); go_simp) rfl ?_
    refine hd_take 7 (v := .agg #[.string ⟨y.name.toArray⟩, .string ⟨y.com.toArray⟩, .string ⟨y.rev.toArray⟩]) rfl (by kernel_rfl) (by kernel_rfl) (by kernel_rfl) rfl hSv0 (fun W' hS => by have s0 := hS.cell y0 (by simp); have s1 := hS.cell y1 (by simp); have s2 := hS.cell y2 (by simp); go_simp) rfl ?_
    try simp only [Act.put, List.setIfInBounds_toArray, List.set_cons_zero, List.set_cons_succ]
    refine hd_take 8 (v := .bool false) rfl (by kernel_rfl) (by kernel_rfl) (by kernel_rfl) rfl hSv0 (fun W' hS => by go_simp) rfl ?_
    try simp only [Act.put, List.setIfInBounds_toArray, List.set_cons_zero, List.set_cons_succ]
    refine hd_take 9 (v := .bool false) rfl (by kernel_rfl) (by kernel_rfl) (by kernel_rfl) rfl hSv0 (fun W' hS => by go_simp) rfl ?_
    try simp only [Act.put, List.setIfInBounds_toArray, List.set_cons_zero, List.set_cons_succ]
    refine hd_take 10 (v := .pointer (some ⟨pb, 1, none⟩)) rfl (by kernel_rfl) (by kernel_rfl) (by kernel_rfl) rfl hSv0 (fun W' hS => by go_simp) rfl ?_
    refine hd_take 12 (v := .int .i64 (n : Int)) rfl (by kernel_rfl) (by kernel_rfl) (by kernel_rfl) rfl hSv0 (fun W' hS => by go_simp) rfl ?_
    refine hd_take 13 (v := .int .i64 (i : Int)) rfl (by kernel_rfl) (by kernel_rfl) (by kernel_rfl) rfl hSv0 (fun W' hS => by go_simp) rfl ?_
    refine hd_take 14 (v := .slice (some ⟨eb, eo, none⟩) n ec0) rfl (by kernel_rfl) (by kernel_rfl) (by kernel_rfl) rfl hSv0 (fun W' hS => by go_simp) rfl ?_
    refine hd_take 15 (v := .int .i64 (k : Int)) rfl (by kernel_rfl) (by kernel_rfl) (by kernel_rfl) rfl hSv0 (fun W' hS => by go_simp) rfl ?_
    refine hd_take 18 (v := .slice la L.length lc) rfl (by kernel_rfl) (by kernel_rfl) (by kernel_rfl) rfl hSv0 (fun W' hS => by go_simp) rfl ?_
    try simp only [Act.put, List.setIfInBounds_toArray, List.set_cons_zero, List.set_cons_succ]
    refine hd_take 11 (v := .string ⟨R.toArray⟩) rfl (by kernel_rfl) (by kernel_rfl) (by kernel_rfl) rfl hSv0 (fun W' hS => by have s0 := hS.cell p1 (by simp); go_simp) rfl ?_
    refine hd_take 16 (v := .pointer (some ⟨eb, eo + k * 3, none⟩)) rfl (by kernel_rfl) (by kernel_rfl) (by kernel_rfl) rfl hSv0 (fun W' hS => by go_simp) rfl ?_
    try simp only [Act.put, List.setIfInBounds_toArray, List.set_cons_zero, List.set_cons_succ]
    refine hd_take 17 (v := .agg #[.string ⟨y.name.toArray⟩, .string ⟨y.com.toArray⟩, .string ⟨y.rev.toArray⟩]) rfl (by kernel_rfl) (by kernel_rfl) (by kernel_rfl) rfl hSv0 (fun W' hS => by have s0 := hS.cell y0 (by simp); have s1 := hS.cell y1 (by simp); have s2 := hS.cell y2 (by simp); go_simp) rfl ?_
    try simp only [Act.put, List.setIfInBounds_toArray, List.set_cons_zero, List.set_cons_succ]
    refine hd_one 19 (by kernel_rfl) rfl (by kernel_rfl) rfl (fun K' hK => ?_)
    go_simp
    refine (HIY.out W9.drew gv0).mono ?_
    rintro e yv1 ⟨rfl, hbb⟩
    have gv1 : Fr [] W9 yv1 := gv0.below hbb gv0.size
    clear hbb
    have hSv1 : Fr [] W9 yv1 := gv1
    refine hK.out _ _ (fun _ => hSv1) ?_
    clear hK K'
    try simp only [Act.put, List.setIfInBounds_toArray, List.set_cons_zero, List.set_cons_succ]
    refine hd_take 20 (v := .bool true) rfl (by kernel_rfl) (by kernel_rfl) (by kernel_rfl) rfl hSv1 (fun W' hS => by go_simp) rfl ?_
    try simp only [Act.put, List.setIfInBounds_toArray, List.set_cons_zero, List.set_cons_succ]
    refine hd_one 21 (by kernel_rfl) rfl (by kernel_rfl) rfl (fun K' hK => ?_)
    go_simp
    refine hK.out _ _ (fun _ => hSv1) ?_
    clear hK K'
    refine held_done (by kernel_rfl) ?_
    have HFS := Lib.hid (HF6.out.trans (HX9.out.trans gv1 (by simp)) (by simp))
    go_wp2_with fail
    go_ret
    exact ⟨rfl, HFS.out.toBelow (by simp)⟩
  | true =>
  have HCT : Hid (collT (textsE es) ((textsE es).set i (textS y)) = true) := Lib.hid (HCO.out HNE.out (by have := EBB.out; rw [HVY.out, Bool.true_and] at this; exact this.symm))
  have gv0 : Fr [] W9 W9.drew := (Fr.refl [] W9).drew
  have hSv0 : Fr [] W9 W9.drew := gv0
  refine region_held 100 (fun W' => Fr [] W9 W') hmx ?_
  change Held _ _ _ _ _ _ 22 (Array.replicate 22 false) _ _
  refine hd_take 0 (v := .slice (some ⟨eb, eo, none⟩) n ec0) rfl (by kernel_rfl) (by kernel_rfl) (by kernel_rfl) rfl hSv0 (fun W' hS => by go_simp) rfl ?_
  refine hd_take 1 (v := .int .i64 (i : Int)) rfl (by kernel_rfl) (by kernel_rfl) (by kernel_rfl) rfl hSv0 (fun W' hS => by go_simp) rfl ?_
  refine hd_take 4 (v := .slice (some ⟨eb, eo, none⟩) n ec0) rfl (by kernel_rfl) (by kernel_rfl) (by kernel_rfl) rfl hSv0 (fun W' hS => by go_simp) rfl ?_
  refine hd_take 5 (v := .int .i64 (k : Int)) rfl (by kernel_rfl) (by kernel_rfl) (by kernel_rfl) rfl hSv0 (fun W' hS => by go_simp) rfl ?_
  try simp only [Act.put, List.setIfInBounds_toArray, List.set_cons_zero, List.set_cons_succ]
  refine hd_take 2 (v := .pointer (some ⟨eb, eo + i * 3, none⟩)) rfl (by kernel_rfl) (by kernel_rfl) (by kernel_rfl) rfl hSv0 (fun W' hS => by go_simp) rfl ?_
  refine hd_take 6 (v := .pointer (some ⟨eb, eo + k * 3, none⟩)) rfl (by kernel_rfl) (by kernel_rfl) (by kernel_rfl) rfl hSv0 (fun W' hS => by go_simp) rfl ?_
  try simp only [Act.put, List.setIfInBounds_toArray, List.set_cons_zero, List.set_cons_succ]
  refine hd_take 3 (v := .agg #[.string ⟨x.name.toArray⟩, .string ⟨x.com.toArray⟩, .string ⟨x.rev.toArray⟩]) rfl (by kernel_rfl) (by kernel_rfl) (by kernel_rfl) rfl hSv0 (fun W' hS => by have s0 := hS.cell x0 (by simp); have s1 := hS.cell x1 (by simp); have s2 := hS.cell x2 (by simp); go_simp) rfl ?_
  refine hd_take 7 (v := .agg #[.string ⟨y.name.toArray⟩, .string ⟨y.com.toArray⟩, .string ⟨y.rev.toArray⟩]) rfl (by kernel_rfl) (by kernel_rfl) (by kernel_rfl) rfl hSv0 (fun W' hS => by have s0 := hS.cell y0 (by simp); have s1 := hS.cell y1 (by simp); have s2 := hS.cell y2 (by simp); go_simp) rfl ?_
  try simp only [Act.put, List.setIfInBounds_toArray, List.set_cons_zero, List.set_cons_succ]
  refine hd_take 8 (v := .bool false) rfl (by kernel_rfl) (by kernel_rfl) (by kernel_rfl) rfl hSv0 (fun W' hS => by go_simp) rfl ?_
  try simp only [Act.put, List.setIfInBounds_toArray, List.set_cons_zero, List.set_cons_succ]
  refine hd_take 9 (v := .bool false) rfl (by kernel_rfl) (by kernel_rfl) (by kernel_rfl) rfl hSv0 (fun W' hS => by go_simp) rfl ?_
  try simp only [Act.put, List.setIfInBounds_toArray, List.set_cons_zero, List.set_cons_succ]
  refine hd_take 10 (v := .pointer (some ⟨pb, 1, none⟩)) rfl (by kernel_rfl) (by kernel_rfl) (by kernel_rfl) rfl hSv0 (fun W' hS => by go_simp) rfl ?_
  refine hd_take 12 (v := .int .i64 (n : Int)) rfl (by kernel_rfl) (by kernel_rfl) (by kernel_rfl) rfl hSv0 (fun W' hS => by go_simp) rfl ?_
  refine hd_take 13 (v := .int .i64 (i : Int)) rfl (by kernel_rfl) (by kernel_rfl) (by kernel_rfl) rfl hSv0 (fun W' hS => by go_simp) rfl ?_
  refine hd_take 14 (v := .slice (some ⟨eb, eo, none⟩) n ec0) rfl (by kernel_rfl) (by kernel_rfl) (by kernel_rfl) rfl hSv0 (fun W' hS => by go_simp) rfl ?_
  refine hd_take 15 (v := .int .i64 (k : Int)) rfl (by kernel_rfl) (by kernel_rfl) (by kernel_rfl) rfl hSv0 (fun W' hS => by go_simp) rfl ?_
  refine hd_take 18 (v := .slice la L.length lc) rfl (by kernel_rfl) (by kernel_rfl) (by kernel_rfl) rfl hSv0 (fun W' hS => by go_simp) rfl ?_
  try simp only [Act.put, List.setIfInBounds_toArray, List.set_cons_zero, List.set_cons_succ]
  refine hd_take 11 (v := .string ⟨R.toArray⟩) rfl (by kernel_rfl) (by kernel_rfl) (by kernel_rfl) rfl hSv0 (fun W' hS => by have s0 := hS.cell p1 (by simp); go_simp) rfl ?_
  refine hd_take 16 (v := .pointer (some ⟨eb, eo + k * 3, none⟩)) rfl (by kernel_rfl) (by kernel_rfl) (by kernel_rfl) rfl hSv0 (fun W' hS => by go_simp) rfl ?_
  try simp only [Act.put, List.setIfInBounds_toArray, List.set_cons_zero, List.set_cons_succ]
  refine hd_take 17 (v := .agg #[.string ⟨y.name.toArray⟩, .string ⟨y.com.toArray⟩, .string ⟨y.rev.toArray⟩]) rfl (by kernel_rfl) (by kernel_rfl) (by kernel_rfl) rfl hSv0 (fun W' hS => by have s0 := hS.cell y0 (by simp); have s1 := hS.cell y1 (by simp); have s2 := hS.cell y2 (by simp); go_simp) rfl ?_
  try simp only [Act.put, List.setIfInBounds_toArray, List.set_cons_zero, List.set_cons_succ]
  refine hd_one 19 (by kernel_rfl) rfl (by kernel_rfl) rfl (fun K' hK => ?_)
  go_simp
  refine (HIY.out W9.drew gv0).mono ?_
  rintro e yv1 ⟨rfl, hbb⟩
  have gv1 : Fr [] W9 yv1 := gv0.below hbb gv0.size
  clear hbb
  have hSv1 : Fr [] W9 yv1 := gv1
  refine hK.out _ _ (fun _ => hSv1) ?_
  clear hK K'
  try simp only [Act.put, List.setIfInBounds_toArray, List.set_cons_zero, List.set_cons_succ]
  refine hd_take 20 (v := .bool false) rfl (by kernel_rfl) (by kernel_rfl) (by kernel_rfl) rfl hSv1 (fun W' hS => by go_simp) rfl ?_
  try simp only [Act.put, List.setIfInBounds_toArray, List.set_cons_zero, List.set_cons_succ]
  refine hd_one 21 (by kernel_rfl) rfl (by kernel_rfl) rfl (fun K' hK => ?_)
  go_simp
  refine hK.out _ _ (fun _ => hSv1) ?_
  clear hK K'
  refine held_done (by kernel_rfl) ?_
  have f10 := gv1
  obtain ⟨W10, eW10⟩ : ∃ W, W = yv1 := ⟨_, rfl⟩
  rw [← eW10] at f10 ⊢
  have HF10 : Hid (Fr [] w W10) := Lib.hid (HF6.out.trans (HX9.out.trans f10 (by simp)) (by simp))
  clear eW10 f10 HIY x0 x1 x2 y0 y1 y2 p1 hqq
  go_wp2_with fail
  refine (HTX.out W10 HF10.out).mono ?_
  rintro e w11 ⟨v11, rfl, ho, hb⟩
  have hlt : (textsE es).length = n := by unfold textsE; rw [List.length_map, EN.out]
  obtain ⟨g, cp, cur, rfl, hgb, hgc, hg3, hg4, hg5, hg6⟩ : ∃ g cap cur, v11 = .slice (some ⟨g, 0, none⟩) n cap ∧ W10.heap.size ≤ g ∧ w11.heap[g]? = some (.cells cur 9 (0, 0)) ∧ n ≤ cap ∧ cap ≤ maxLen ∧ cur.size = cap * 1 ∧ cur.toList.take (n * 1) = (textsE es).map strV := by
    rcases ho.2 with ⟨_, h1⟩ | ⟨g, cap, cur, hv, hb, hg, h3, h4, h5, h6⟩
    · rw [h1] at hlt; have := HN0.out; omega
    · rw [hlt] at hv h3 h6; exact ⟨g, cap, cur, hv, hb, hg, h3, h4, h5, h6⟩
  have f1011 := Fr.ofBelow (X := []) hb
  have HF11 := Lib.hid (HF10.out.trans f1011 (by simp))
  have HX11 := Lib.hid f1011
  obtain ⟨y0, y1, y2⟩ := (HEs.out w11 HF11.out).cells k y HYI.out
  have HGC := Lib.hid hgc
  have HGB := Lib.hid hgb
  have HG3 := Lib.hid hg3
  have HG4 := Lib.hid hg4
  have HG5 := Lib.hid hg5
  have HG6 := Lib.hid hg6
  have HLT := Lib.hid hlt
  clear ho hb hlt hgb hgc hg3 hg4 hg5 hg6 f1011
  go_wp2_with fail
  refine (HTY.out w11).mono ?_
  rintro e w12 ⟨rfl, hb⟩
  have f12 := Fr.ofBelow (X := []) hb
  have hgc := f12.at HGC.out (by simp)
  have HF12 := Lib.hid (HF11.out.trans f12 (by simp))
  have HX12 := Lib.hid (HX11.out.trans f12 (by simp))
  have hck : i < cur.size := by have := HG5.out; have := HG3.out; have := HIN.out; omega
  have c1 := row_cell hgc i
  have c2 := row_free hgc i
  rw [Array.getElem?_eq_getElem hck] at c1
  obtain ⟨t, et⟩ : ∃ q, q = textS y := ⟨_, rfl⟩
  rw [← et] at HCT ⊢
  have HTL : Hid (t.length ≤ 1000000) := Lib.hid (by rw [et]; have := textS_len y; omega)
  have HO13 : Hid (OwnS W10.heap.size (w12.setCell ⟨g, i, none⟩ (.string ⟨t.toArray⟩)) (.slice (some ⟨g, 0, none⟩) n cp) ((textsE es).set i t)) := Lib.hid (own_set HGB.out hgc HG3.out HG4.out HG5.out HG6.out t)
  have HF13 : Hid (Fr [] w (w12.setCell ⟨g, i, none⟩ (.string ⟨t.toArray⟩))) := Lib.hid (HF10.out.trans (HX12.out.setCell ⟨g, i, none⟩ (.string ⟨t.toArray⟩) (by right; exact HGB.out)) (by simp))
  clear hb f12 hgc y0 y1 y2 et
  go_wp2_with fail
  clear c1 c2
  generalize w12.setCell ⟨g, i, none⟩ (.string ⟨t.toArray⟩) = W13 at HO13 HF13 ⊢
  refine (HTX.out W13 HF13.out).mono ?_
  rintro e w14 ⟨v14, rfl, ho14, hb⟩
  have f14 := Fr.ofBelow (X := []) hb
  have HF14 := Lib.hid (HF13.out.trans f14 (by simp))
  have HA14 := Lib.hid ho14.strs
  have HB14 := Lib.hid (HO13.out.strs.fr0 f14)
  clear hb f14 ho14
  go_wp2_with fail
  refine (collide_any _ _ _ _ w14 HA14.out HB14.out (by rw [HLT.out]; have := HN20.out; omega) (textsE_len es) (fun s hs => ?_)).mono ?_
  · have hty : t.length ≤ 1000000 := HTL.out
    rcases List.mem_or_eq_of_mem_set hs with h | h
    · exact textsE_len es s h
    · rw [h]; exact hty
  rintro e w15 ⟨rfl, hb⟩
  rw [HCT.out]
  have HF15 := Lib.hid (HF14.out.below hb HF14.out.size)
  clear hb
  go_wp2_with fail
  go_ret
  exact ⟨rfl, HF15.out.toBelow (by simp)⟩
end Go.Proofs.YtcohghaanakiiaaGreatDoor
