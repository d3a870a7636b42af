/-
  Helpers of the laws of published lotteries; foyerlaw20.AuditOrders.
-/
import Derived.Test.YtcohghaanakiiaaGreatDoorAuQ
import Derived.BigQuiet
namespace Go.Proofs.YtcohghaanakiiaaGreatDoor
open Go.RowKit
set_option maxRecDepth 100000

theorem PblR.form {W : World} {v : Value} {p : Pbl} (h : PblR W v p) : ∃ ea ec pa pc oa oc sa sc, v = .agg #[.slice ea p.ents.length ec, .string ⟨p.root.toArray⟩, .slice pa p.parts.length pc, .slice oa p.order.length oc, .slice sa p.served.length sc] ∧
    Pts W (.slice ea p.ents.length ec) p.ents ∧ Pts W (.slice pa p.parts.length pc) p.parts ∧ Zs W (.slice oa p.order.length oc) p.order ∧ Zs W (.slice sa p.served.length sc) p.served := by
  obtain ⟨ev, pv, ov, sv, rfl, h1, h2, h3, h4⟩ := h
  obtain ⟨ea, ec, rfl, _⟩ := h1.form
  obtain ⟨pa, pc, rfl, _⟩ := h2.form
  obtain ⟨oa, oc, rfl, _⟩ := h3.form
  obtain ⟨sa, sc, rfl, _⟩ := h4.form
  exact ⟨ea, ec, pa, pc, oa, oc, sa, sc, rfl, h1, h2, h3, h4⟩
/-- Publish, where it answers without an error. -/
theorem pubOk_any (ev pv : Value) (es ps : List Pty) (P : Pbl) (w : World) (he : Pts w ev es) (hp : Pts w pv ps) (hl : EntS es) (hn : es.length ≤ 100000) (hpn : ps.length ≤ 100000) (hps : ∀ p ∈ ps, p.name.length ≤ 1000000 ∧ p.rev.length ≤ 1000000) (hT : Tabs w)
    (hP : pubS (clsL es) es ps = (P, 0)) (n m on sn : Nat) (h1 : P.ents.length = n) (h2 : P.parts.length = m) (h3 : P.order.length = on) (h4 : P.served.length = sn) :
    Calls Tryz.prog 13 #[ev, pv] w fun e w' => ∃ ea ec pa pc oa oc sa sc, e = .returned (.tuple #[.agg #[.slice ea n ec, .string ⟨P.root.toArray⟩, .slice pa m pc, .slice oa on oc, .slice sa sn sc], .int .i64 0]) ∧
      Pts w' (.slice ea n ec) P.ents ∧ Pts w' (.slice pa m pc) P.parts ∧ Zs w' (.slice oa on oc) P.order ∧ Zs w' (.slice sa sn sc) P.served ∧ Below w.heap.size w w' :=
  (publish_any ev pv es ps w he hp hl hn hpn hps hT).mono fun e w' ⟨v, he, hr, hb⟩ => by
    rw [hP] at he hr
    obtain ⟨ea, ec, pa, pc, oa, oc, sa, sc, rfl, g1, g2, g3, g4⟩ := hr.form
    rw [h1, h2, h3, h4] at he
    rw [h1] at g1
    rw [h2] at g2
    rw [h3] at g3
    rw [h4] at g4
    exact ⟨ea, ec, pa, pc, oa, oc, sa, sc, he, g1, g2, g3, g4, hb⟩
/-- Publish, where it answers an error. -/
theorem pubNo_any (ev pv : Value) (es ps : List Pty) (er : Int) (w : World) (he : Pts w ev es) (hp : Pts w pv ps) (hl : EntS es) (hn : es.length ≤ 100000) (hpn : ps.length ≤ 100000) (hps : ∀ p ∈ ps, p.name.length ≤ 1000000 ∧ p.rev.length ≤ 1000000) (hT : Tabs w)
    (hP : (pubS (clsL es) es ps).2 = er) (hne : er ≠ 0) :
    Calls Tryz.prog 13 #[ev, pv] w fun e w' => ∃ ea ec pa pc oa oc sa sc, e = .returned (.tuple #[.agg #[.slice ea 0 ec, .string ⟨#[]⟩, .slice pa 0 pc, .slice oa 0 oc, .slice sa 0 sc], .int .i64 er]) ∧ Below w.heap.size w w' :=
  (publish_any ev pv es ps w he hp hl hn hpn hps hT).mono fun e w' ⟨v, he, hr, hb⟩ => by
    rw [pub_bad (by rw [hP]; exact hne)] at hr
    obtain ⟨ea, ec, pa, pc, oa, oc, sa, sc, rfl, _⟩ := hr.form
    rw [hP] at he
    exact ⟨ea, ec, pa, pc, oa, oc, sa, sc, he, hb⟩
theorem pub_two (o : List Nat) (es ps : List Pty) : (∃ P, pubS o es ps = (P, 0) ∧ GoodR P ∧ P.ents = es ∧ P.parts = ps ∧ P.served = [] ∧ P.order = wantI o P ∧ P.root = rootL (textsE es)) ∨ (pubS o es ps).2 ≠ 0 := by
  by_cases h : (pubS o es ps).2 = 0
  · left
    obtain ⟨h1, h2, h3, h4⟩ := pub_ok h
    refine ⟨(pubS o es ps).1, Prod.ext rfl h, ?_⟩
    rw [h4]
    exact ⟨⟨h1, h2, rfl, h3⟩, rfl, rfl, rfl, rfl, rfl⟩
  · exact Or.inr h
theorem wantI_len (o : List Nat) (p : Pbl) : (wantI o p).length ≤ o.length := by
  unfold wantI
  rw [List.length_map, order_length]
  have := headsK_le o o.length
  rwa [headsK_all] at this
theorem wantI_in {o : List Nat} {p : Pbl} (h : o.length ≤ 1000) : ∀ k ∈ wantI o p, inI k := by
  intro k hk
  unfold wantI at hk
  obtain ⟨i, hi, rfl⟩ := List.mem_map.1 hk
  have := (heads_order hi).1
  unfold inI
  have e : (Int.ofNat i) = (i : Int) := rfl
  rw [e]
  omega
set_option maxHeartbeats 16000000 in
theorem auditOrders_any (ev0 : Value) (es : List Pty) (pv0 : Value) (ps : List Pty) (zv0 : Value) (order : List Int) (w : World) (hT : Tabs w) (he : Pts w ev0 es) (hp : Pts w pv0 ps) (hz : Zs w zv0 order) (hoi : ∀ z ∈ order, -9223372036854775808 ≤ z ∧ z < 9223372036854775808) :
    Calls Tryz.prog 5 #[ev0, pv0, zv0] w fun e w' => e = .returned (.bool true) ∧ Below w.heap.size w w' := by
  have HT := Lib.hid hT
  have HE0 := Lib.hid he
  have HP0 := Lib.hid hp
  have HZ0 := Lib.hid hz
  have HOI : Hid (∀ k ∈ order, inI k) := Lib.hid (fun k hk => by have := hoi k hk; unfold inI; omega)
  have HFEW := Lib.hid (fun (W : World) (hf : Fr [] w W) => few20_any _ (⟨es, [], ps, order, []⟩ : Pbl) 20 W ⟨ev0, pv0, zv0, .slice none 0 0, rfl, he.fr hf, hp.fr hf, hz.fr0 hf, Or.inl ⟨rfl, none, rfl⟩⟩)
  obtain ⟨ea0, ec0, rfl, _, _, _⟩ := he.form
  obtain ⟨pa0, pc0, rfl, _, _, _⟩ := hp.form
  obtain ⟨za, zc, rfl, _, _, hza⟩ := hz.form
  have hmx : Tryz.prog.follows .mixedOrders = true := by kernel_rfl
  obtain ⟨on, eon⟩ : ∃ n, n = order.length := ⟨_, rfl⟩
  rw [← eon] at hza HZ0 HFEW ⊢
  have EON := Lib.hid eon
  clear hT he hp hz hoi eon
  go_enter Tryz.func5, Tryz.ntmps5
  go_wp2_with fail
  refine (head20_any w HT.out).mono ?_
  rintro e w1 ⟨rfl, hb⟩
  have HF1 := Lib.hid (Fr.ofBelow (X := []) hb)
  clear hb
  go_wp2_with fail
  refine (HFEW.out w1 HF1.out).mono ?_
  rintro e w2 ⟨rfl, hb⟩
  have HF2 := Lib.hid (HF1.out.below hb HF1.out.size)
  clear hb HFEW
  obtain ⟨fb, efb⟩ : ∃ q, q = few20B (⟨es, [], ps, order, []⟩ : Pbl) 20 := ⟨_, rfl⟩
  rw [← efb]
  cases fb with
  | false =>
    clear efb
    go_wp2_with fail
    go_ret
    exact ⟨rfl, HF2.out.toBelow (by simp)⟩
  | true =>
  have HOK := Lib.hid (few20_ok efb.symm HOI.out (fun k hk => by cases hk))
  have b1 : on ≤ 60 := by have := HOK.out.2.2.2.1; have := EON.out; simp only at *; omega
  clear efb
  have HPZ := Lib.hid (pub_two (clsL es) es ps)
  have HCL : Hid ((clsL es).length ≤ 1000) := Lib.hid (by have h1 := clsL_len es; have h2 := HOK.out.2.1; simp only at h2; omega)
  have HEN : Hid (es.length ≤ 20) := Lib.hid HOK.out.2.1
  have HPN : Hid (ps.length ≤ 20) := Lib.hid HOK.out.2.2.1
  rcases HPZ.out with ⟨P, hP, hgood, hpe, hpp, hps, hpo, hpr⟩ | hbad
  case inr =>
    obtain ⟨er, eer⟩ : ∃ q, q = (pubS (clsL es) es ps).2 := ⟨_, rfl⟩
    have t1 : (er != 0) = true := by rw [eer]; simpa using hbad
    have HN := Lib.hid (pubNo_any _ _ es ps er w2 (HE0.out.fr HF2.out) (HP0.out.fr HF2.out) HOK.out.1.e (by have := HEN.out; omega) (by have := HPN.out; omega) HOK.out.1.p (HT.out.fr HF2.out) eer.symm (by rw [eer]; exact hbad))
    clear eer hbad
    go_wp2_with fail
    refine HN.out.mono ?_
    rintro e w3 ⟨ea, ec, pa, pc, oa, oc, sa, sc, rfl, hb⟩
    have HF3 := Lib.hid (HF2.out.below hb HF2.out.size)
    clear hb HN
    go_wp2_with fail
    go_ret
    exact ⟨rfl, (HF3.out.alloc _).toBelow (by simp)⟩
  obtain ⟨OW, eOW⟩ : ∃ q, q = wantI (clsL es) P := ⟨_, rfl⟩
  obtain ⟨wn, ewn⟩ : ∃ q, q = OW.length := ⟨_, rfl⟩
  obtain ⟨n, en⟩ : ∃ q, q = es.length := ⟨_, rfl⟩
  obtain ⟨m, em⟩ : ∃ q, q = ps.length := ⟨_, rfl⟩
  have hwn : wn ≤ 1000 := by have h1 := wantI_len (clsL es) P; have h2 := HCL.out; rw [ewn, eOW]; omega
  have HOK2 := Lib.hid (pubOk_any _ _ es ps P w2 (HE0.out.fr HF2.out) (HP0.out.fr HF2.out) HOK.out.1.e (by have := HEN.out; omega) (by have := HPN.out; omega) HOK.out.1.p (HT.out.fr HF2.out) hP n m wn 0 (by rw [hpe, en]) (by rw [hpp, em]) (by rw [hpo, ewn, eOW]) (by rw [hps]; rfl))
  have HPG : Hid (P.order = OW ∧ P = ⟨es, P.root, ps, OW, []⟩) := Lib.hid ⟨by rw [hpo, eOW], by cases P; simp only at hpe hpp hps hpo ⊢; rw [hpe, hpp, hps, eOW, ← hpo]⟩
  have HGOOD := Lib.hid hgood
  have HOW := Lib.hid eOW
  have EWN := Lib.hid ewn
  have EN := Lib.hid en
  have EM := Lib.hid em
  have HQG : Hid (GoodR ⟨es, P.root, ps, order, []⟩ ∧ wantI (clsL es) ⟨es, P.root, ps, order, []⟩ = OW ∧ PblS ⟨es, P.root, ps, order, []⟩) := Lib.hid (by
    obtain ⟨g1, g2, g3, g4⟩ := hgood
    rw [hpe] at g1 g2 g3
    rw [hpp] at g4
    refine ⟨⟨g1, g2, g3, g4⟩, ?_, ?_⟩
    · rw [eOW]; unfold wantI; simp only; rw [hpp]
    · have h := HOK.out.1
      have h16 := rootL_len (textsE es)
      rw [← g3] at h16
      exact ⟨h.e, h.en, h.p, h.pn, by simp only; omega, h.on, h.oi, h.sn, h.si⟩)
  obtain ⟨R, eR⟩ : ∃ q, q = P.root := ⟨_, rfl⟩
  rw [← eR] at HOK2 HQG
  clear hP hgood hpe hpp hps hpo hpr eOW ewn en em eR
  go_wp2_with fail
  refine HOK2.out.mono ?_
  rintro e w3 ⟨ea, ec, pa, pc, oa, oc, sa, sc, rfl, g1, g2, g3, g4, hb⟩
  rw [HPG.out.1] at g3
  have HF3 := Lib.hid (HF2.out.below hb HF2.out.size)
  have HE3 : Hid (Pts w3 (.slice ea n ec) es) := Lib.hid (by have := g1; rw [HPG.out.2] at this; exact this)
  have HP3 : Hid (Pts w3 (.slice pa m pc) ps) := Lib.hid (by have := g2; rw [HPG.out.2] at this; exact this)
  have HS3 : Hid (Zs w3 (.slice sa 0 sc) []) := Lib.hid (by have := g4; rw [HPG.out.2] at this; exact this)
  have HO3 := Lib.hid g3
  obtain ⟨_, _, eo, _, _, hoa⟩ := g3.form
  rw [← EWN.out] at eo hoa
  cases eo
  -- the blocks of p and of q
  obtain ⟨W4, hW4⟩ : ∃ W, W = w3.alloc (.cells #[.slice ea n ec, .string ⟨R.toArray⟩, .slice pa m pc, .slice oa wn oc, .slice sa 0 sc] 26) := ⟨_, rfl⟩
  obtain ⟨pb, epb⟩ : ∃ q, q = w3.heap.size := ⟨_, rfl⟩
  obtain ⟨W5, hW5⟩ : ∃ W, W = W4.alloc (.cells #[.slice ea n ec, .string ⟨R.toArray⟩, .slice pa m pc, .slice za on zc, .slice sa 0 sc] 26) := ⟨_, rfl⟩
  have hp4 : W4.heap[pb]? = some (.cells #[.slice ea n ec, .string ⟨R.toArray⟩, .slice pa m pc, .slice oa wn oc, .slice sa 0 sc] 26 (0, 0)) := by rw [hW4]; exact heap_new epb
  have f34 : Fr [] w3 W4 := by rw [hW4]; exact (Fr.refl [] w3).alloc _
  have f45 : Fr [] W4 W5 := by rw [hW5]; exact (Fr.refl [] W4).alloc _
  have hq5 : W5.heap[pb + 1]? = some (.cells #[.slice ea n ec, .string ⟨R.toArray⟩, .slice pa m pc, .slice za on zc, .slice sa 0 sc] 26 (0, 0)) := by rw [hW5]; exact heap_new (by rw [hW4, epb]; simp)
  have HP5 := Lib.hid (f45.at hp4 (by simp))
  have F35 := Lib.hid (f34.trans f45 (by simp))
  have HF5 := Lib.hid (HF3.out.trans F35.out (by simp))
  have HZ5 : Hid (Zs W5 (.slice za on zc) order) := Lib.hid (HZ0.out.fr0 HF5.out)
  have HQR : Hid (PblR W5 (.agg #[.slice ea n ec, .string ⟨R.toArray⟩, .slice pa m pc, .slice za on zc, .slice sa 0 sc]) ⟨es, R, ps, order, []⟩) := Lib.hid ⟨_, _, _, _, rfl, HE3.out.fr F35.out, HP3.out.fr F35.out, HZ5.out, HS3.out.fr0 F35.out⟩
  have a0 := row_cell hp4 0
  have a1 := row_cell hp4 1
  have a2 := row_cell hp4 2
  have a3 := row_cell hp4 3
  have a4 := row_cell hp4 4
  have b0 := row_cell hq5 0
  have b1' := row_cell hq5 1
  have b2 := row_cell hq5 2
  have b3 := row_cell hq5 3
  have b4 := row_cell hq5 4
  simp at a0 a1 a2 a3 a4 b0 b1' b2 b3 b4
  rw [hW4, epb] at a0 a1 a2 a3 a4
  rw [hW5, hW4, epb] at b0 b1' b2 b3 b4
  have E4 := Lib.hid hW4
  have E5 := Lib.hid hW5
  have EPB := Lib.hid epb
  clear hb g1 g2 g3 g4 hW4 hW5 epb hp4 hq5 f34 f45
  go_wp2_with fail
  rw [← E4.out, ← E5.out, ← EPB.out]
  clear a0 a1 a2 a3 a4 b0 b1' b2 b3 b4 E4 E5
  refine (check20_any _ (⟨es, R, ps, order, []⟩ : Pbl) W5 HQR.out HQG.out.2.2 (HT.out.fr HF5.out)).mono ?_
  rintro e w6 ⟨cv, rfl, hcv, hb⟩
  have f56 := Fr.ofBelow (X := []) hb
  have HF6 := Lib.hid (HF5.out.trans f56 (by simp))
  have HP6 := Lib.hid (f56.at HP5.out (by simp))
  have HZ6 := Lib.hid (HZ5.out.fr0 f56)
  have HO6 := Lib.hid (HO3.out.fr0 (F35.out.trans f56 (by simp)))
  obtain ⟨L, eL⟩ : ∃ L, L = checkS (clsL es) ⟨es, R, ps, order, []⟩ := ⟨_, rfl⟩
  change Ads w6 cv (checkS (clsL es) ⟨es, R, ps, order, []⟩) at hcv
  rw [← eL] at hcv
  obtain ⟨ca, cc, rfl, hl1, hl2, hla⟩ := hcv.form
  have HC := Lib.hid hcv
  obtain ⟨ln, eln⟩ : ∃ q, q = L.length := ⟨_, rfl⟩
  rw [← eln] at hl1 hla HC ⊢
  have ELN := Lib.hid eln
  have EL := Lib.hid eL
  have p3 := row_cell HP6.out 3
  simp at p3
  clear hb hcv eL eln f56
  go_wp2_with fail
  refine (zints_any _ _ order OW w6 HZ6.out HO6.out).mono ?_
  rintro e w7 ⟨rfl, hb⟩
  have f67 := Fr.ofBelow (X := []) hb
  have HF7 := Lib.hid (HF6.out.trans f67 (by simp))
  have HP7 := Lib.hid (f67.at HP6.out (by simp))
  have HZ7 := Lib.hid (HZ6.out.fr0 f67)
  have HO7 := Lib.hid (HO6.out.fr0 f67)
  have HC7 := Lib.hid (HC.out.fr f67)
  obtain ⟨db, edb⟩ : ∃ q, q = decide (order = OW) := ⟨_, rfl⟩
  rw [← edb]
  clear hb f67 p3
  cases db with
  | true =>
    have heq : order = OW := of_decide_eq_true edb.symm
    have HL0 : Hid (ln = 0) := Lib.hid (by
      rw [ELN.out, EL.out]
      unfold checkS
      rw [check_good HQG.out.1 (by rw [HQG.out.2.1]; exact heq)]
      rfl)
    clear edb heq
    have h0 := HL0.out
    subst h0
    go_wp2_with fail
    go_ret
    exact ⟨rfl, HF7.out.toBelow (by simp)⟩
  | false =>
    have hne : order ≠ OW := of_decide_eq_false edb.symm
    have HLAW : Hid (0 < cntK 5 L ln ∧ cntK 5 L ln ≤ difN order OW (max on wn)) := Lib.hid (by
      have h := orders_law (o := clsL es) HQG.out.1 rfl (by rw [HQG.out.2.1]; exact hne)
      rw [HQG.out.2.1, ← EL.out, ← ELN.out] at h
      rw [EON.out, EWN.out]
      exact h)
    obtain ⟨M, eM⟩ : ∃ q, q = max on wn := ⟨_, rfl⟩
    have tm : max (on : Int) (wn : Int) = (M : Int) := by omega
    rw [← eM] at HLAW
    have HMX : Hid (M = max on wn) := Lib.hid eM
    have hM : M ≤ 1000 := by omega
    have p3 := row_cell HP7.out 3
    simp at p3
    clear edb hne eM
    go_wp2_with fail
    go_loopg [12, 13] (M + 1) (fun gh di i wr => ∃ k : Nat, k ≤ M ∧ gh = M + 1 - k ∧ i = .int .i64 (k : Int) ∧ di = .int .i64 ((difN order OW k : Nat) : Int) ∧ Fr [] w7 wr)
    case atStart => exact ⟨0, by omega, by omega, rfl, rfl, Fr.refl _ _⟩
    case round =>
      obtain ⟨k, hk, hgh, rfl, rfl, hfr⟩ := hrel
      have HG := Lib.hid hgh
      have HFR := Lib.hid hfr
      have p3 := row_cell (hfr.at HP7.out (by simp)) 3
      simp at p3
      clear hgh hfr
      by_cases hlt : k < M
      · have t2 : decide ((k : Int) < (M : Int)) = true := by simp; omega
        have hds := difN_succ order OW k
        have hdl := difN_le order OW k
        obtain ⟨d, ed⟩ : ∃ q, q = difN order OW k := ⟨_, rfl⟩
        rw [← ed] at hds hdl ⊢
        have HDS := Lib.hid hds
        clear hds ed
        by_cases c1 : on ≤ k
        · have t3 : decide ((on : Int) ≤ (k : Int)) = true := by simp; omega
          have t3' : decide (on ≤ k) = true := by simp; omega
          have HD : Hid (difN order OW (k + 1) = d + 1) := Lib.hid (by
            rw [HDS.out, if_pos]
            unfold difB
            rw [← EON.out]
            simp [c1])
          clear c1
          go_wp2_with fail
          go_quiet (fail)
          go_wp2_with fail
          go_roundg (M + 1 - (k + 1))
          case measure => have := HG.out; omega
          case rel => exact ⟨k + 1, by omega, rfl, by go_num, by rw [HD.out]; go_num, HFR.out.drewN _⟩
        have t3 : decide ((on : Int) ≤ (k : Int)) = false := by simp; omega
        have t3' : decide (on ≤ k) = false := by simp; omega
        by_cases c2 : wn ≤ k
        · have t4 : decide ((wn : Int) ≤ (k : Int)) = true := by simp; omega
          have t4' : decide (wn ≤ k) = true := by simp; omega
          have HD : Hid (difN order OW (k + 1) = d + 1) := Lib.hid (by
            rw [HDS.out, if_pos]
            unfold difB
            rw [← EWN.out]
            simp [c2])
          clear c1 c2
          go_wp2_with fail
          go_quiet (fail)
          go_wp2_with fail
          go_roundg (M + 1 - (k + 1))
          case measure => have := HG.out; omega
          case rel => exact ⟨k + 1, by omega, rfl, by go_num, by rw [HD.out]; go_num, HFR.out.drewN _⟩
        have t4 : decide ((wn : Int) ≤ (k : Int)) = false := by simp; omega
        have t4' : decide (wn ≤ k) = false := by simp; omega
        obtain ⟨zb, zo, rfl⟩ := hza k (by omega)
        obtain ⟨ob, oo, rfl⟩ := hoa k (by omega)
        have cz := (HZ7.out.fr0 HFR.out).cell k (by rw [← EON.out]; omega)
        have co := (HO7.out.fr0 HFR.out).cell k (by rw [← EWN.out]; omega)
        obtain ⟨x, ex⟩ : ∃ q, q = order.getD k 0 := ⟨_, rfl⟩
        obtain ⟨y, ey⟩ : ∃ q, q = OW.getD k 0 := ⟨_, rfl⟩
        rw [← ex] at cz
        rw [← ey] at co
        have i0 : (0 : Int) ≤ (k : Int) := by omega
        have i1 : (k : Int) < (on : Int) := by omega
        have i2 : (k : Int) < (wn : Int) := by omega
        have HDB : Hid (difB order OW k = !(x == y)) := Lib.hid (by
          unfold difB
          rw [← EON.out, ← EWN.out, ← ex, ← ey, t3', t4']
          simp)
        clear ex ey c1 c2
        by_cases hxy : x = y
        · have t5 : (x != y) = false := by simp [hxy]
          have t6 : (x == y) = true := by simp [hxy]
          have HD : Hid (difN order OW (k + 1) = d) := Lib.hid (by rw [HDS.out, HDB.out, t6]; simp)
          clear hxy
          go_wp2_with fail
          go_quiet (fail)
          go_wp2_with fail
          go_roundg (M + 1 - (k + 1))
          case measure => have := HG.out; omega
          case rel => exact ⟨k + 1, by omega, rfl, by go_num, by rw [HD.out], HFR.out.drewN _⟩
        · have t6 : (x == y) = false := by simpa using hxy
          have t5 : (x != y) = true := by simp [bne, t6]
          have HD : Hid (difN order OW (k + 1) = d + 1) := Lib.hid (by rw [HDS.out, HDB.out, t6]; simp)
          clear hxy
          go_wp2_with fail
          go_quiet (fail)
          go_wp2_with fail
          go_roundg (M + 1 - (k + 1))
          case measure => have := HG.out; omega
          case rel => exact ⟨k + 1, by omega, rfl, by go_num, by rw [HD.out]; go_num, HFR.out.drewN _⟩
      · obtain rfl : k = M := by omega
        have t2 : decide ((k : Int) < (k : Int)) = false := by simp
        obtain ⟨d, ed⟩ : ∃ q, q = difN order OW k := ⟨_, rfl⟩
        rw [← ed] at HLAW ⊢
        have hdl : d ≤ k := by rw [ed]; exact difN_le order OW k
        clear ed
        go_wp2_with fail
        obtain ⟨wo, rfl⟩ : ∃ wo : World, wo = wr := ⟨_, rfl⟩
        go_loopg [14, 15] (ln + 1) (fun gh mo i wr => ∃ q : Nat, q ≤ ln ∧ gh = ln + 1 - q ∧ i = .int .i64 (q : Int) ∧ mo = .int .i64 ((cntK 5 L q : Nat) : Int) ∧ Fr [] wo wr)
        case atStart => exact ⟨0, by omega, by omega, rfl, rfl, Fr.refl _ _⟩
        case round =>
          obtain ⟨q, hq, hgq, rfl, rfl, hfq⟩ := hrel
          have HGQ := Lib.hid hgq
          have HFQ := Lib.hid hfq
          clear hgq hfq
          by_cases hltq : q < ln
          · have t6 : decide ((q : Int) < (ln : Int)) = true := by simp; omega
            obtain ⟨ab, ao, rfl⟩ := hla q hltq
            obtain ⟨x, hx⟩ : ∃ x, L[q]? = some x := ⟨L[q]'(by rw [← ELN.out]; exact hltq), List.getElem?_eq_getElem _⟩
            have hcx := ((HC7.out.fr (HFR.out.trans HFQ.out (by simp))).cells q x hx).1
            have hcs := cntK_succ 5 L (k := q) (by rw [← ELN.out]; exact hltq)
            rw [List.getD_eq_getElem?_getD, hx] at hcs
            simp only [Option.getD_some] at hcs
            have hcl := cntK_le 5 L q
            obtain ⟨c, ec⟩ : ∃ r, r = cntK 5 L q := ⟨_, rfl⟩
            rw [← ec] at hcs hcl ⊢
            have HCS := Lib.hid hcs
            have i0 : (0 : Int) ≤ (q : Int) := by omega
            have i1 : (q : Int) < (ln : Int) := by omega
            have hln : ln ≤ 1000000 := by
              rw [ELN.out, EL.out]
              unfold checkS
              have h1 := nodup_len (sortA_nodup (checkF (clsL es) ⟨es, R, ps, order, []⟩)) (fun x hx => (mem_sortA _ x).1 hx)
              have h2 := checkF_len (clsL es) _ HQG.out.2.2 HCL.out
              omega
            clear hx hcs ec
            by_cases hk5 : x.kind = 5
            · have t7 : (x.kind == 5) = true := by simpa using hk5
              have HD : Hid (cntK 5 L (q + 1) = c + 1) := Lib.hid (by rw [HCS.out, if_pos hk5])
              clear hk5
              go_wp2_with fail
              go_roundg (ln + 1 - (q + 1))
              case measure => have := HGQ.out; omega
              case rel => exact ⟨q + 1, by omega, rfl, by go_num, by rw [HD.out]; go_num, HFQ.out⟩
            · have t7 : (x.kind == 5) = false := by simpa using hk5
              have HD : Hid (cntK 5 L (q + 1) = c) := Lib.hid (by rw [HCS.out, if_neg hk5]; rfl)
              clear hk5
              go_wp2_with fail
              go_roundg (ln + 1 - (q + 1))
              case measure => have := HGQ.out; omega
              case rel => exact ⟨q + 1, by omega, rfl, by go_num, by rw [HD.out], HFQ.out⟩
          · obtain rfl : q = ln := by omega
            have t6 : decide ((q : Int) < (q : Int)) = false := by simp
            obtain ⟨c, ec⟩ : ∃ r, r = cntK 5 L q := ⟨_, rfl⟩
            rw [← ec] at HLAW ⊢
            have t7 : decide ((0 : Int) < (c : Int)) = true := by have := HLAW.out.1; simp; omega
            have t8 : decide ((c : Int) ≤ (d : Int)) = true := by have := HLAW.out.2; simp; omega
            have t7' : decide (0 < c) = true := by have := HLAW.out.1; simp; omega
            have t8' : decide (c ≤ d) = true := by have := HLAW.out.2; simp; omega
            clear ec
            go_wp2_with fail
            go_ret
            exact ⟨rfl, (HF7.out.trans (HFR.out.trans HFQ.out (by simp)) (by simp)).toBelow (by simp)⟩
end Go.Proofs.YtcohghaanakiiaaGreatDoor
