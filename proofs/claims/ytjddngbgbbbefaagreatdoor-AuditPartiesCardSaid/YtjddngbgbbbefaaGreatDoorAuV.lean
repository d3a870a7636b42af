/-
  foyerref20.Texts, Collide.
  Helpers of the laws of published lotteries; foyerlaw20.AuditOrders.
  foyerlaw20.AuditBinding.
-/
import Derived.Test.YtjddngbgbbbefaaGreatDoorPlnAw
import Derived.Test.YtjddngbgbbbefaaGreatDoorAuA
import Derived.Test.YtjddngbgbbbefaaGreatDoorEnK
import Derived.Test.YtjddngbgbbbefaaGreatDoorTrD
import Derived.Test.YtjddngbgbbbefaaGreatDoorTwo
import Derived.BigQuiet
import Derived.Test.YtjddngbgbbbefaaGreatDoorAuQ
import Derived.Test.YtjddngbgbbbefaaGreatDoorPlnHv
namespace Go.Proofs.YtjddngbgbbbefaaGreatDoor
open Go.RowKit

set_option maxRecDepth 100000 in
set_option maxHeartbeats 2000000 in
theorem ctexts_any (v : Value) (l : List Pty) (w : World) (hv : Pts w v l) (hn : l.length ≤ 100000) (hl : EntS l) :
    Calls Tryz.prog 23 #[v] w fun e w' => ∃ v', e = .returned v' ∧ OwnS w.heap.size w' v' (textsE l) ∧ Below w.heap.size w w' := by
  have HV := Lib.hid hv
  have HL := Lib.hid hl
  obtain ⟨a, cap, rfl, hlc, hcap, ha⟩ := hv.form
  clear hv hl
  go_enter Tryz.func23, Tryz.ntmps23
  go_wp2_with fail
  go_loopg [3, 4] (l.length + 1) (fun g ev i wr => ∃ k : Nat, k ≤ l.length ∧ g = l.length + 1 - k ∧ i = .int .i64 (k : Int) ∧ OwnS w.heap.size wr ev (textsE (l.take k)) ∧ Fr [] w wr)
  case atStart => exact ⟨0, by omega, by omega, rfl, ⟨rfl, Or.inl ⟨rfl, rfl⟩⟩, Fr.refl _ _⟩
  case round =>
    obtain ⟨k, hk, hg, rfl, ho, hfr⟩ := hrel
    have HG := Lib.hid hg
    have HO := Lib.hid ho
    have HF := Lib.hid hfr
    clear hg ho
    by_cases hlt : k < l.length
    · obtain ⟨b, off, rfl⟩ := ha k hlt
      have t2 : decide ((k : Int) < (l.length : Int)) = true := by simp; omega
      obtain ⟨p, hp⟩ : ∃ p, l[k]? = some p := ⟨l[k], List.getElem?_eq_getElem hlt⟩
      obtain ⟨c0, c1, c2⟩ := (HV.out.fr hfr).cells k p hp
      have HS := Lib.hid (textsE_snoc l k p hp)
      have HPS := Lib.hid (HL.out p (List.mem_of_getElem? hp))
      have hlen : (textsE (l.take k)).length < 1000000 := by unfold textsE; rw [List.length_map, List.length_take]; omega
      have i0 : (0 : Int) ≤ (k : Int) := by omega
      have i1 : (k : Int) < (l.length : Int) := by omega
      clear hp hfr
      generalize textsE (l.take k) = L at HO HS hlen
      go_wp2_with fail
      refine (rtextE_any p wr HPS.out.1 HPS.out.2.1 HPS.out.2.2).mono ?_
      rintro e w2 ⟨rfl, hb⟩
      have hf2 : Fr [] wr w2 := (Fr.refl [] wr).below hb (Nat.le_refl _)
      have HO2 := Lib.hid (HO.out.fr hf2 (by simp))
      have HF2 := Lib.hid (HF.out.trans hf2 (by simp))
      clear hb hf2 c0 c1 c2
      obtain ⟨tx, etx⟩ : ∃ q, q = textS p := ⟨_, rfl⟩
      rw [← etx]
      rw [← etx] at HS
      clear etx
      go_wp2_with (at_builtin; go_loud (refine wpList_appS rfl (.tmp 11) (.tmp 17) rfl w.heap.size _ L tx w rfl rfl HO2.out HF2.out (Nat.le_refl _) HF2.out.size hlen ?_))
      intro v' w' g9 c9 hv9 ho' hf' _
      subst hv9
      have HO3 := Lib.hid ho'
      have HF3 := Lib.hid hf'
      clear ho' hf'
      go_wp2_with fail
      go_roundg (l.length + 1 - (k + 1))
      case measure => have := HG.out; omega
      case rel => exact ⟨k + 1, by omega, rfl, by go_num, by rw [HS.out]; exact HO3.out, HF3.out⟩
    · obtain rfl : k = l.length := by omega
      have t2 : decide ((l.length : Int) < (l.length : Int)) = false := by simp
      have HOE : Hid (OwnS w.heap.size wr _ (textsE l)) := Lib.hid (by have := HO.out; rwa [List.take_length] at this)
      go_wp2_with fail
      go_ret
      exact ⟨_, rfl, HOE.out, HF.out.toBelow (by simp)⟩


theorem collT_leaf {a b : List (List UInt8)} (hl : a.length = b.length) {k : Nat} (hk : k < a.length) (h1 : a.getD k [] ≠ b.getD k []) (h2 : (a.map leafD).getD k [] = (b.map leafD).getD k []) : collT a b = true := by
  unfold collT
  rw [decide_eq_true hl, Bool.true_and, Bool.or_eq_true]
  refine Or.inl (List.any_eq_true.2 ⟨k, List.mem_range.2 hk, ?_⟩)
  rw [beq_eq_false_iff_ne.2 h1, beq_iff_eq.2 h2]
  rfl
theorem collT_up {a b : List (List UInt8)} (hl : a.length = b.length) (h : ∀ k, k < a.length → a.getD k [] ≠ b.getD k [] → (a.map leafD).getD k [] ≠ (b.map leafD).getD k []) : collT a b = upC (a.map leafD) (b.map leafD) := by
  have h0 : leafC a b = false := List.any_eq_false.2 (fun k hk => by
    have hk := List.mem_range.1 hk
    by_cases e : a.getD k [] = b.getD k []
    · rw [beq_iff_eq.2 e]; simp
    · rw [beq_eq_false_iff_ne.2 (h k hk e)]; simp)
  unfold collT
  rw [decide_eq_true hl, Bool.true_and, h0, Bool.false_or]
theorem collT_no {a b : List (List UInt8)} (hl : a.length ≠ b.length) : collT a b = false := by
  unfold collT
  rw [decide_eq_false hl, Bool.false_and]
theorem upC_end {x y : List (List UInt8)} (h : ¬ 1 < x.length) : upC x y = false := by rw [upC.eq_def, if_neg h]
theorem upC_yes {x y : List (List UInt8)} {k : Nat} (hk : 2 * k + 1 < x.length) (h1 : ¬ (x.getD (2 * k) [] = y.getD (2 * k) [] ∧ x.getD (2 * k + 1) [] = y.getD (2 * k + 1) [])) (h2 : (upL x).getD k [] = (upL y).getD k []) : upC x y = true := by
  rw [upC.eq_def, if_pos (by omega), Bool.or_eq_true]
  refine Or.inl (List.any_eq_true.2 ⟨k, List.mem_range.2 (by omega), ?_⟩)
  unfold pairC
  rw [beq_iff_eq.2 h2, Bool.and_true]
  by_cases e : x.getD (2 * k) [] = y.getD (2 * k) []
  · rw [beq_eq_false_iff_ne.2 (fun e2 => h1 ⟨e, e2⟩)]; simp
  · rw [beq_eq_false_iff_ne.2 e]; rfl
theorem upC_next {x y : List (List UInt8)} (h1 : 1 < x.length) (h : ∀ k, 2 * k + 1 < x.length → ¬ (x.getD (2 * k) [] = y.getD (2 * k) [] ∧ x.getD (2 * k + 1) [] = y.getD (2 * k + 1) []) → (upL x).getD k [] ≠ (upL y).getD k []) : upC x y = upC (upL x) (upL y) := by
  have h0 : nodeC x y = false := List.any_eq_false.2 (fun k hk => by
    have hk := List.mem_range.1 hk
    unfold pairC
    by_cases e : x.getD (2 * k) [] = y.getD (2 * k) [] ∧ x.getD (2 * k + 1) [] = y.getD (2 * k + 1) []
    · rw [beq_iff_eq.2 e.1, beq_iff_eq.2 e.2]; simp
    · rw [beq_eq_false_iff_ne.2 (h k (by omega) e)]; simp)
  rw [upC.eq_def, if_pos h1, h0, Bool.false_or]

end Go.Proofs.YtjddngbgbbbefaaGreatDoor
namespace Go.Proofs.YtjddngbgbbbefaaGreatDoor
open Go.RowKit
set_option maxRecDepth 100000

theorem PblR.form {W : World} {v : Value} {p : Pbl} (h : PblR W v p) : ∃ ea ec pa pc oa oc sa sc, v = .agg #[.slice ea p.ents.length ec, .string ⟨p.root.toArray⟩, .slice pa p.parts.length pc, .slice oa p.order.length oc, .slice sa p.served.length sc] ∧
    Pts W (.slice ea p.ents.length ec) p.ents ∧ Pts W (.slice pa p.parts.length pc) p.parts ∧ Zs W (.slice oa p.order.length oc) p.order ∧ Zs W (.slice sa p.served.length sc) p.served := by
  obtain ⟨ev, pv, ov, sv, rfl, h1, h2, h3, h4⟩ := h
  obtain ⟨ea, ec, rfl, _⟩ := h1.form
  obtain ⟨pa, pc, rfl, _⟩ := h2.form
  obtain ⟨oa, oc, rfl, _⟩ := h3.form
  obtain ⟨sa, sc, rfl, _⟩ := h4.form
  exact ⟨ea, ec, pa, pc, oa, oc, sa, sc, rfl, h1, h2, h3, h4⟩
/-- Publish, where it answers without an error. -/
theorem pubOk_any (ev pv : Value) (es ps : List Pty) (P : Pbl) (w : World) (he : Pts w ev es) (hp : Pts w pv ps) (hl : EntS es) (hn : es.length ≤ 100000) (hpn : ps.length ≤ 100000) (hps : ∀ p ∈ ps, p.name.length ≤ 1000000 ∧ p.rev.length ≤ 1000000) (hT : Tabs w)
    (hP : pubS (clsL es) es ps = (P, 0)) (n m on sn : Nat) (h1 : P.ents.length = n) (h2 : P.parts.length = m) (h3 : P.order.length = on) (h4 : P.served.length = sn) :
    Calls Tryz.prog 8 #[ev, pv] w fun e w' => ∃ ea ec pa pc oa oc sa sc, e = .returned (.tuple #[.agg #[.slice ea n ec, .string ⟨P.root.toArray⟩, .slice pa m pc, .slice oa on oc, .slice sa sn sc], .int .i64 0]) ∧
      Pts w' (.slice ea n ec) P.ents ∧ Pts w' (.slice pa m pc) P.parts ∧ Zs w' (.slice oa on oc) P.order ∧ Zs w' (.slice sa sn sc) P.served ∧ Below w.heap.size w w' :=
  (publish_any ev pv es ps w he hp hl hn hpn hps hT).mono fun e w' ⟨v, he, hr, hb⟩ => by
    rw [hP] at he hr
    obtain ⟨ea, ec, pa, pc, oa, oc, sa, sc, rfl, g1, g2, g3, g4⟩ := hr.form
    rw [h1, h2, h3, h4] at he
    rw [h1] at g1
    rw [h2] at g2
    rw [h3] at g3
    rw [h4] at g4
    exact ⟨ea, ec, pa, pc, oa, oc, sa, sc, he, g1, g2, g3, g4, hb⟩
/-- Publish, where it answers an error. -/
theorem pubNo_any (ev pv : Value) (es ps : List Pty) (er : Int) (w : World) (he : Pts w ev es) (hp : Pts w pv ps) (hl : EntS es) (hn : es.length ≤ 100000) (hpn : ps.length ≤ 100000) (hps : ∀ p ∈ ps, p.name.length ≤ 1000000 ∧ p.rev.length ≤ 1000000) (hT : Tabs w)
    (hP : (pubS (clsL es) es ps).2 = er) (hne : er ≠ 0) :
    Calls Tryz.prog 8 #[ev, pv] w fun e w' => ∃ ea ec pa pc oa oc sa sc, e = .returned (.tuple #[.agg #[.slice ea 0 ec, .string ⟨#[]⟩, .slice pa 0 pc, .slice oa 0 oc, .slice sa 0 sc], .int .i64 er]) ∧ Below w.heap.size w w' :=
  (publish_any ev pv es ps w he hp hl hn hpn hps hT).mono fun e w' ⟨v, he, hr, hb⟩ => by
    rw [pub_bad (by rw [hP]; exact hne)] at hr
    obtain ⟨ea, ec, pa, pc, oa, oc, sa, sc, rfl, _⟩ := hr.form
    rw [hP] at he
    exact ⟨ea, ec, pa, pc, oa, oc, sa, sc, he, hb⟩
theorem pub_two (o : List Nat) (es ps : List Pty) : (∃ P, pubS o es ps = (P, 0) ∧ GoodR P ∧ P.ents = es ∧ P.parts = ps ∧ P.served = [] ∧ P.order = wantI o P ∧ P.root = rootL (textsE es)) ∨ (pubS o es ps).2 ≠ 0 := by
  by_cases h : (pubS o es ps).2 = 0
  · left
    obtain ⟨h1, h2, h3, h4⟩ := pub_ok h
    refine ⟨(pubS o es ps).1, Prod.ext rfl h, ?_⟩
    rw [h4]
    exact ⟨⟨h1, h2, rfl, h3⟩, rfl, rfl, rfl, rfl, rfl⟩
  · exact Or.inr h
theorem wantI_len (o : List Nat) (p : Pbl) : (wantI o p).length ≤ o.length := by
  unfold wantI
  rw [List.length_map, order_length]
  have := headsK_le o o.length
  rwa [headsK_all] at this
theorem wantI_in {o : List Nat} {p : Pbl} (h : o.length ≤ 1000) : ∀ k ∈ wantI o p, inI k := by
  intro k hk
  unfold wantI at hk
  obtain ⟨i, hi, rfl⟩ := List.mem_map.1 hk
  have := (heads_order hi).1
  unfold inI
  have e : (Int.ofNat i) = (i : Int) := rfl
  rw [e]
  omega
end Go.Proofs.YtjddngbgbbbefaaGreatDoor
namespace Go.Proofs.YtjddngbgbbbefaaGreatDoor
open Go.RowKit
set_option maxRecDepth 100000

theorem ent_eq (x y : Pty) (w : World) : (Op.equalIn 10000 43 (.agg #[.string ⟨x.name.toArray⟩, .string ⟨x.com.toArray⟩, .string ⟨x.rev.toArray⟩]) (.agg #[.string ⟨y.name.toArray⟩, .string ⟨y.com.toArray⟩, .string ⟨y.rev.toArray⟩])).run Tryz.prog w = .ok (decide (x = y)) w := by
  have u3 := Tryz.underlying9
  have a3 := Tryz.isAgg9
  have z3 := Tryz.sizeOf9
  rw [show (10000 : Nat) = 9999 + 1 from rfl, run_equalIn_agg _ _ _ _ _ (by kernel_rfl) (by kernel_rfl)]
  obtain ⟨a1, a2, a3⟩ := x
  obtain ⟨b1, b2, b3⟩ := y
  go_simp
  by_cases h1 : a1 = b1 <;> by_cases h2 : a2 = b2 <;> by_cases h3 : a3 = b3 <;> simp [h1, h2, h3]
theorem nm_no32 (l : List UInt8) (h : nameB l = true) : (32 : UInt8) ∉ l := by
  unfold nameB at h
  rw [decide_eq_true_eq] at h
  intro hm
  obtain ⟨i, hi, e⟩ := List.getElem_of_mem hm
  have := h.1 i hi
  rw [List.getD_eq_getElem?_getD, List.getElem?_eq_getElem hi, Option.getD_some, e] at this
  unfold nameC at this
  rw [decide_eq_true_eq] at this
  have h32 : (32 : UInt8).toNat = 32 := rfl
  omega
theorem dg_no32 (l : List UInt8) (h : isD l = true) : (32 : UInt8) ∉ l := by
  simp only [isD, Bool.and_eq_true] at h
  intro hm
  have := List.all_eq_true.1 h.2 _ hm
  revert this; decide
theorem ent_split (p : Pty) (h : validB p = true) : splitS (textS p) = [p.name, p.com, p.rev] ∧ textS p ≠ [] := by
  have h0 := h
  simp only [validB, Bool.and_eq_true] at h
  have e : textS p = p.name ++ 32 :: (p.com ++ 32 :: p.rev) := by unfold textS; rw [if_pos h0]; simp
  refine ⟨?_, by rw [e]; simp⟩
  rw [e, split_app _ (nm_no32 _ h.1.1), split_app _ (dg_no32 _ h.1.2), split_one _ (dg_no32 _ h.2)]
theorem ent_inj (p q : Pty) (h : validB p = true) (e : textS p = textS q) : p = q := by
  have h2 : validB q = true := by
    cases hq : validB q with
    | true => rfl
    | false => exact absurd (show textS p = [] by rw [e]; unfold textS; rw [if_neg (by rw [hq]; decide)]) (ent_split p h).2
  have g := (ent_split p h).1
  rw [e, (ent_split q h2).1] at g
  obtain ⟨a, b, c⟩ := p
  obtain ⟨a', b', c'⟩ := q
  simp only [List.cons.injEq, and_true] at g
  obtain ⟨rfl, rfl, rfl⟩ := g
  rfl
theorem textsE_ne {a b : List Pty} (ha : ∀ e ∈ a, validB e = true) (hl : a.length = b.length) (h : a ≠ b) : textsE a ≠ textsE b := by
  intro e
  refine h (List.ext_getElem hl (fun i h1 h2 => ?_))
  have g : (textsE a)[i]? = (textsE b)[i]? := by rw [e]
  unfold textsE at g
  rw [List.getElem?_map, List.getElem?_map, List.getElem?_eq_getElem h1, List.getElem?_eq_getElem h2] at g
  exact ent_inj _ _ (ha _ (List.getElem_mem h1)) (Option.some.inj g)
theorem binding_same {a b : List Pty} (h : a = b) : (pubS (clsL a) a []).1.root = (pubS (clsL b) b []).1.root := by rw [h]
theorem binding_coll {a b : List Pty} (h1 : (pubS (clsL a) a []).2 = 0) (h2 : (pubS (clsL b) b []).2 = 0) (hl : a.length = b.length) (hne : a ≠ b) (hr : (pubS (clsL a) a []).1.root = (pubS (clsL b) b []).1.root) : collT (textsE a) (textsE b) = true := by
  obtain ⟨_, g1, _, e1⟩ := pub_ok h1
  obtain ⟨_, _, _, e2⟩ := pub_ok h2
  rw [e1, e2] at hr
  exact coll_of (by unfold textsE; rw [List.length_map, List.length_map, hl]) (textsE_ne g1 hl hne) hr
end Go.Proofs.YtjddngbgbbbefaaGreatDoor
