/-
  foyerlaw20.AuditBinding.
-/
import Derived.Test.YtcohghaanakiiaaGreatDoorAuV
import Derived.Test.YtcohghaanakiiaaGreatDoorAuU
import Derived.Test.YtcohghaanakiiaaGreatDoorPlnHv
import Derived.BigQuiet
namespace Go.Proofs.YtcohghaanakiiaaGreatDoor
open Go.RowKit
set_option maxRecDepth 100000

theorem ent_eq (x y : Pty) (w : World) : (Op.equalIn 10000 43 (.agg #[.string ⟨x.name.toArray⟩, .string ⟨x.com.toArray⟩, .string ⟨x.rev.toArray⟩]) (.agg #[.string ⟨y.name.toArray⟩, .string ⟨y.com.toArray⟩, .string ⟨y.rev.toArray⟩])).run Tryz.prog w = .ok (decide (x = y)) w := by
  have u3 := Tryz.underlying9
  have a3 := Tryz.isAgg9
  have z3 := Tryz.sizeOf9
  rw [show (10000 : Nat) = 9999 + 1 from rfl, run_equalIn_agg _ _ _ _ _ (by kernel_rfl) (by kernel_rfl)]
  obtain ⟨a1, a2, a3⟩ := x
  obtain ⟨b1, b2, b3⟩ := y
  go_simp
  by_cases h1 : a1 = b1 <;> by_cases h2 : a2 = b2 <;> by_cases h3 : a3 = b3 <;> simp [h1, h2, h3]
theorem nm_no32 (l : List UInt8) (h : nameB l = true) : (32 : UInt8) ∉ l := by
  unfold nameB at h
  rw [decide_eq_true_eq] at h
  intro hm
  obtain ⟨i, hi, e⟩ := List.getElem_of_mem hm
  have := h.1 i hi
  rw [List.getD_eq_getElem?_getD, List.getElem?_eq_getElem hi, Option.getD_some, e] at this
  unfold nameC at this
  rw [decide_eq_true_eq] at this
  have h32 : (32 : UInt8).toNat = 32 := rfl
  omega
theorem dg_no32 (l : List UInt8) (h : isD l = true) : (32 : UInt8) ∉ l := by
  simp only [isD, Bool.and_eq_true] at h
  intro hm
  have := List.all_eq_true.1 h.2 _ hm
  revert this; decide
theorem ent_split (p : Pty) (h : validB p = true) : splitS (textS p) = [p.name, p.com, p.rev] ∧ textS p ≠ [] := by
  have h0 := h
  simp only [validB, Bool.and_eq_true] at h
  have e : textS p = p.name ++ 32 :: (p.com ++ 32 :: p.rev) := by unfold textS; rw [if_pos h0]; simp
  refine ⟨?_, by rw [e]; simp⟩
  rw [e, split_app _ (nm_no32 _ h.1.1), split_app _ (dg_no32 _ h.1.2), split_one _ (dg_no32 _ h.2)]
theorem ent_inj (p q : Pty) (h : validB p = true) (e : textS p = textS q) : p = q := by
  have h2 : validB q = true := by
    cases hq : validB q with
    | true => rfl
    | false => exact absurd (show textS p = [] by rw [e]; unfold textS; rw [if_neg (by rw [hq]; decide)]) (ent_split p h).2
  have g := (ent_split p h).1
  rw [e, (ent_split q h2).1] at g
  obtain ⟨a, b, c⟩ := p
  obtain ⟨a', b', c'⟩ := q
  simp only [List.cons.injEq, and_true] at g
  obtain ⟨rfl, rfl, rfl⟩ := g
  rfl
theorem textsE_ne {a b : List Pty} (ha : ∀ e ∈ a, validB e = true) (hl : a.length = b.length) (h : a ≠ b) : textsE a ≠ textsE b := by
  intro e
  refine h (List.ext_getElem hl (fun i h1 h2 => ?_))
  have g : (textsE a)[i]? = (textsE b)[i]? := by rw [e]
  unfold textsE at g
  rw [List.getElem?_map, List.getElem?_map, List.getElem?_eq_getElem h1, List.getElem?_eq_getElem h2] at g
  exact ent_inj _ _ (ha _ (List.getElem_mem h1)) (Option.some.inj g)
theorem binding_same {a b : List Pty} (h : a = b) : (pubS (clsL a) a []).1.root = (pubS (clsL b) b []).1.root := by rw [h]
theorem binding_coll {a b : List Pty} (h1 : (pubS (clsL a) a []).2 = 0) (h2 : (pubS (clsL b) b []).2 = 0) (hl : a.length = b.length) (hne : a ≠ b) (hr : (pubS (clsL a) a []).1.root = (pubS (clsL b) b []).1.root) : collT (textsE a) (textsE b) = true := by
  obtain ⟨_, g1, _, e1⟩ := pub_ok h1
  obtain ⟨_, _, _, e2⟩ := pub_ok h2
  rw [e1, e2] at hr
  exact coll_of (by unfold textsE; rw [List.length_map, List.length_map, hl]) (textsE_ne g1 hl hne) hr
set_option maxHeartbeats 16000000 in
theorem auditBinding_any (ev0 : Value) (es : List Pty) (fv0 : Value) (fs : List Pty) (w : World) (hT : Tabs w) (he : Pts w ev0 es) (hf : Pts w fv0 fs) :
    Calls Tryz.prog 7 #[ev0, fv0] w fun e w' => e = .returned (.bool true) ∧ Below w.heap.size w w' := by
  have HT := Lib.hid hT
  have HE0 := Lib.hid he
  have HP0 := Lib.hid hf
  have HFEW := Lib.hid (fun (W : World) (h : Fr [] w W) => few20_any _ (⟨es, [], [], [], []⟩ : Pbl) 20 W ⟨ev0, .slice none 0 0, .slice none 0 0, .slice none 0 0, rfl, he.fr h, Or.inl ⟨rfl, rfl⟩, Or.inl ⟨rfl, none, rfl⟩, Or.inl ⟨rfl, none, rfl⟩⟩)
  have HFEW2 := Lib.hid (fun (W : World) (h : Fr [] w W) => few20_any _ (⟨fs, [], [], [], []⟩ : Pbl) 20 W ⟨fv0, .slice none 0 0, .slice none 0 0, .slice none 0 0, rfl, hf.fr h, Or.inl ⟨rfl, rfl⟩, Or.inl ⟨rfl, none, rfl⟩, Or.inl ⟨rfl, none, rfl⟩⟩)
  obtain ⟨ea0, ec0, rfl, _, _, hea⟩ := he.form
  obtain ⟨fa0, fc0, rfl, _, _, hfa⟩ := hf.form
  have hmx : Tryz.prog.follows .mixedOrders = true := by kernel_rfl
  clear hT he hf
  go_enter Tryz.func7, Tryz.ntmps7
  go_wp2_with fail
  refine (head20_any w HT.out).mono ?_
  rintro e w1 ⟨rfl, hb⟩
  have HF1 := Lib.hid (Fr.ofBelow (X := []) hb)
  clear hb
  go_wp2_with fail
  refine (HFEW.out w1 HF1.out).mono ?_
  rintro e w2 ⟨rfl, hb⟩
  have HF2 := Lib.hid (HF1.out.below hb HF1.out.size)
  clear hb HFEW
  obtain ⟨fb, efb⟩ : ∃ q, q = few20B (⟨es, [], [], [], []⟩ : Pbl) 20 := ⟨_, rfl⟩
  rw [← efb]
  cases fb with
  | false =>
    clear efb
    go_wp2_with fail
    go_ret
    exact ⟨rfl, HF2.out.toBelow (by simp)⟩
  | true =>
  have HOK := Lib.hid (few20_ok efb.symm (fun k hk => by cases hk) (fun k hk => by cases hk))
  clear efb
  go_wp2_with fail
  refine (HFEW2.out w2 HF2.out).mono ?_
  rintro e w3 ⟨rfl, hb⟩
  have HF3 := Lib.hid (HF2.out.below hb HF2.out.size)
  clear hb HFEW2
  obtain ⟨fb, efb⟩ : ∃ q, q = few20B (⟨fs, [], [], [], []⟩ : Pbl) 20 := ⟨_, rfl⟩
  rw [← efb]
  cases fb with
  | false =>
    clear efb
    go_wp2_with fail
    go_ret
    exact ⟨rfl, HF3.out.toBelow (by simp)⟩
  | true =>
  have HOK2 := Lib.hid (few20_ok efb.symm (fun k hk => by cases hk) (fun k hk => by cases hk))
  clear efb
  by_cases hl : es.length = fs.length
  case neg =>
    have t0 : ((es.length : Int) == (fs.length : Int)) = false := by rw [beq_eq_false_iff_ne]; omega
    have t0' : ((es.length : Int) != (fs.length : Int)) = true := by simp; omega
    go_wp2_with fail
    go_ret
    exact ⟨rfl, HF3.out.toBelow (by simp)⟩
  have HLEN := Lib.hid hl
  have HN1 : Hid (es.length ≤ 20) := Lib.hid HOK.out.2.1
  obtain ⟨n, en⟩ : ∃ q, q = es.length := ⟨_, rfl⟩
  have fn : fs.length = n := by rw [en, hl]
  have EN := Lib.hid en
  have FN := Lib.hid fn
  have HEs := Lib.hid (fun W (h : Fr [] w W) => HE0.out.fr h)
  have HFs := Lib.hid (fun W (h : Fr [] w W) => HP0.out.fr h)
  have HP1 := Lib.hid (fun W (h : Fr [] w W) => publish_any _ (.slice none 0 0) es [] W (HE0.out.fr h) (Or.inl ⟨rfl, rfl⟩) HOK.out.1.e (by have := HN1.out; omega) (by simp) (fun q hq => by cases hq) (HT.out.fr h))
  have HP2 := Lib.hid (fun W (h : Fr [] w W) => publish_any _ (.slice none 0 0) fs [] W (HP0.out.fr h) (Or.inl ⟨rfl, rfl⟩) HOK2.out.1.e (by have := HN1.out; have := HLEN.out; omega) (by simp) (fun q hq => by cases hq) (HT.out.fr h))
  have HTX1 := Lib.hid (fun W (h : Fr [] w W) => ctexts_any _ es W (HE0.out.fr h) (by have := HN1.out; omega) HOK.out.1.e)
  have HTX2 := Lib.hid (fun W (h : Fr [] w W) => ctexts_any _ fs W (HP0.out.fr h) (by have := HN1.out; have := HLEN.out; omega) HOK2.out.1.e)
  have HCO := Lib.hid (fun va vb W (h1 : Strs W va (textsE es)) (h2 : Strs W vb (textsE fs)) => collide_any va vb _ _ W h1 h2 (by unfold textsE; rw [List.length_map]; have := HN1.out; omega) (textsE_len es) (textsE_len fs))
  rw [← en] at HEs HP1 HTX1 hea ⊢
  rw [fn] at HFs HP2 HTX2 hfa ⊢
  have t0 : ((n : Int) == (n : Int)) = true := by simp
  have hn20 : n ≤ 20 := by have := HN1.out; omega
  clear hl en fn HE0 HP0
  have HBS := Lib.hid (fun h => binding_same (a := es) (b := fs) h)
  have HBC := Lib.hid (fun h1 h2 h3 h4 => binding_coll (a := es) (b := fs) h1 h2 HLEN.out h3 h4)
  obtain ⟨P1, eP1⟩ : ∃ q, q = pubS (clsL es) es [] := ⟨_, rfl⟩
  obtain ⟨P2, eP2⟩ : ∃ q, q = pubS (clsL fs) fs [] := ⟨_, rfl⟩
  rw [← eP1] at HP1
  rw [← eP2] at HP2
  rw [← eP1, ← eP2] at HBS HBC
  clear eP1 eP2
  obtain ⟨P1, er1⟩ := P1
  obtain ⟨P2, er2⟩ := P2
  simp only at HP1 HP2 HBS HBC
  go_wp2_with fail
  refine (HP1.out w3 HF3.out).mono ?_
  rintro e w4 ⟨v1, rfl, hr1, hb⟩
  obtain ⟨a1, c1, a2, c2, a3, c3, a4, c4, rfl, _⟩ := hr1.form
  have HF4 := Lib.hid (HF3.out.below hb HF3.out.size)
  obtain ⟨k1, ek1⟩ : ∃ q, q = P1.ents.length := ⟨_, rfl⟩
  obtain ⟨k2, ek2⟩ : ∃ q, q = P1.parts.length := ⟨_, rfl⟩
  obtain ⟨k3, ek3⟩ : ∃ q, q = P1.order.length := ⟨_, rfl⟩
  obtain ⟨k4, ek4⟩ : ∃ q, q = P1.served.length := ⟨_, rfl⟩
  obtain ⟨R1, eR1⟩ : ∃ q, q = P1.root := ⟨_, rfl⟩
  rw [← ek1, ← ek2, ← ek3, ← ek4, ← eR1]
  rw [← eR1] at HBS HBC
  clear hr1 hb HP1 ek1 ek2 ek3 ek4 eR1
  obtain ⟨W5, hW5⟩ : ∃ W, W = w4.alloc (.cells #[.slice a1 k1 c1, .string ⟨R1.toArray⟩, .slice a2 k2 c2, .slice a3 k3 c3, .slice a4 k4 c4] 26) := ⟨_, rfl⟩
  obtain ⟨pb, epb⟩ : ∃ q, q = w4.heap.size := ⟨_, rfl⟩
  have hp5 : W5.heap[pb]? = some (.cells #[.slice a1 k1 c1, .string ⟨R1.toArray⟩, .slice a2 k2 c2, .slice a3 k3 c3, .slice a4 k4 c4] 26 (0, 0)) := by rw [hW5]; exact heap_new epb
  have f45 : Fr [] w4 W5 := by rw [hW5]; exact (Fr.refl [] w4).alloc _
  have HF5 := Lib.hid (HF4.out.trans f45 (by simp))
  have HR5 := Lib.hid hp5
  have E5 := Lib.hid hW5
  have EPB := Lib.hid epb
  clear f45 hp5 hW5 epb
  go_wp2_with fail
  rw [← E5.out, ← EPB.out]
  clear E5 EPB
  go_wp2_with fail
  refine (HP2.out W5 HF5.out).mono ?_
  rintro e w6 ⟨v2, rfl, hr2, hb⟩
  obtain ⟨b1, d1, b2, d2, b3, d3, b4, d4, rfl, _⟩ := hr2.form
  have HF56 : Hid (Fr [] W5 w6) := Lib.hid (Fr.ofBelow hb)
  obtain ⟨k1', ek1⟩ : ∃ q, q = P2.ents.length := ⟨_, rfl⟩
  obtain ⟨k2', ek2⟩ : ∃ q, q = P2.parts.length := ⟨_, rfl⟩
  obtain ⟨k3', ek3⟩ : ∃ q, q = P2.order.length := ⟨_, rfl⟩
  obtain ⟨k4', ek4⟩ : ∃ q, q = P2.served.length := ⟨_, rfl⟩
  obtain ⟨R2, eR2⟩ : ∃ q, q = P2.root := ⟨_, rfl⟩
  rw [← ek1, ← ek2, ← ek3, ← ek4, ← eR2]
  rw [← eR2] at HBS HBC
  clear hr2 hb HP2 ek1 ek2 ek3 ek4 eR2
  obtain ⟨W7, hW7⟩ : ∃ W, W = w6.alloc (.cells #[.slice b1 k1' d1, .string ⟨R2.toArray⟩, .slice b2 k2' d2, .slice b3 k3' d3, .slice b4 k4' d4] 26) := ⟨_, rfl⟩
  obtain ⟨qb, eqb⟩ : ∃ q, q = w6.heap.size := ⟨_, rfl⟩
  have hq7 : W7.heap[qb]? = some (.cells #[.slice b1 k1' d1, .string ⟨R2.toArray⟩, .slice b2 k2' d2, .slice b3 k3' d3, .slice b4 k4' d4] 26 (0, 0)) := by rw [hW7]; exact heap_new eqb
  have f67 : Fr [] w6 W7 := by rw [hW7]; exact (Fr.refl [] w6).alloc _
  have HF57 := Lib.hid (HF56.out.trans f67 (by simp))
  have HF7 := Lib.hid (HF5.out.trans HF57.out (by simp))
  have HQ7 := Lib.hid hq7
  have HR7 := Lib.hid (HF57.out.at HR5.out (by simp))
  have E7 := Lib.hid hW7
  have EQB := Lib.hid eqb
  clear f67 hq7 hW7 eqb
  by_cases he1 : er1 = 0
  case neg =>
    have t1 : (er1 == 0) = false := by rw [beq_eq_false_iff_ne]; exact he1
    have t1' : (er1 != 0) = true := by simpa using he1
    clear he1
    go_wp2_with fail
    go_ret
    exact ⟨rfl, by rw [← E7.out]; exact HF7.out.toBelow (by simp)⟩
  by_cases he2 : er2 = 0
  case neg =>
    have t1 : (er1 == 0) = true := by rw [he1]; rfl
    have t1' : (er1 != 0) = false := by rw [he1]; rfl
    have t2 : (er2 == 0) = false := by rw [beq_eq_false_iff_ne]; exact he2
    have t2' : (er2 != 0) = true := by simpa using he2
    clear he1 he2
    go_wp2_with fail
    go_ret
    exact ⟨rfl, by rw [← E7.out]; exact HF7.out.toBelow (by simp)⟩
  have HBC2 := Lib.hid (HBC.out he1 he2)
  have t1 : (er1 == 0) = true := by rw [he1]; rfl
  have t1' : (er1 != 0) = false := by rw [he1]; rfl
  have t2 : (er2 == 0) = true := by rw [he2]; rfl
  have t2' : (er2 != 0) = false := by rw [he2]; rfl
  clear he1 he2
  go_wp2_with fail
  rw [← E7.out, ← EQB.out]
  clear E7 EQB
  go_loopg [10, 11] (n + 1) (fun g s i wr => ∃ k : Nat, k ≤ n ∧ g = n + 1 - k ∧ s = .bool (decide (es.take k = fs.take k)) ∧ i = .int .i64 (k : Int) ∧ Fr [] W7 wr)
  case atStart => exact ⟨0, by omega, by omega, by simp, rfl, Fr.refl _ _⟩
  case round =>
    obtain ⟨k, hk, hg, rfl, rfl, hfr⟩ := hrel
    have HG := Lib.hid hg
    clear hg
    obtain ⟨sm, esm⟩ : ∃ q, q = decide (es.take k = fs.take k) := ⟨_, rfl⟩
    rw [← esm]
    have HSM := Lib.hid esm
    clear esm
    by_cases hlt : k < n
    · have t2 : decide ((k : Int) < (n : Int)) = true := by simp; omega
      obtain ⟨ba, oa, rfl⟩ := hea k hlt
      obtain ⟨bb, ob, rfl⟩ := hfa k hlt
      obtain ⟨x, hx⟩ : ∃ x, es[k]? = some x := ⟨_, List.getElem?_eq_getElem (by rw [← EN.out]; exact hlt)⟩
      obtain ⟨y, hy⟩ : ∃ x, fs[k]? = some x := ⟨_, List.getElem?_eq_getElem (by rw [FN.out]; exact hlt)⟩
      obtain ⟨ca0, ca1, ca2⟩ := (HEs.out wr (HF7.out.trans hfr (by simp))).cells k x hx
      obtain ⟨cb0, cb1, cb2⟩ := (HFs.out wr (HF7.out.trans hfr (by simp))).cells k y hy
      have HSA : Hid (es.take (k + 1) = es.take k ++ [x]) := Lib.hid (by rw [List.take_add_one, hx]; rfl)
      have HSB : Hid (fs.take (k + 1) = fs.take k ++ [y]) := Lib.hid (by rw [List.take_add_one, hy]; rfl)
      have HL : Hid ((es.take k).length = (fs.take k).length) := Lib.hid (by rw [List.length_take, List.length_take, HLEN.out])
      have i0 : (0 : Int) ≤ (k : Int) := by omega
      have i1 : (k : Int) < (n : Int) := by omega
      obtain ⟨d, hd⟩ : ∃ d, d = decide (x = y) := ⟨_, rfl⟩
      have hqq : ∀ w, (Op.equalIn 10000 43 (.agg #[.string ⟨x.name.toArray⟩, .string ⟨x.com.toArray⟩, .string ⟨x.rev.toArray⟩]) (.agg #[.string ⟨y.name.toArray⟩, .string ⟨y.com.toArray⟩, .string ⟨y.rev.toArray⟩])).run Tryz.prog w = .ok d w := fun w => by
        rw [hd]
        exact ent_eq x y w
      have HST : Hid (decide (es.take (k + 1) = fs.take (k + 1)) = (sm && d)) := Lib.hid (by
        rw [HSM.out, hd, HSA.out, HSB.out, ← Bool.decide_and]
        congr 1
        rw [eq_iff_iff]
        refine ⟨fun h => ?_, fun h => by rw [h.1, h.2]⟩
        have := List.append_inj h HL.out
        exact ⟨this.1, by simpa using this.2⟩)
      clear hx hy hd hea hfa
      cases sm with
      | true =>
        cases d with
        | true =>
          go_wp2_with fail
          go_quiet (fail)
          go_wp2_with fail
          go_roundg (n + 1 - (k + 1))
          case measure => have := HG.out; omega
          case rel => exact ⟨k + 1, by omega, rfl, by rw [HST.out]; rfl, by go_num, hfr.drewN _⟩
        | false =>
          go_wp2_with fail
          go_quiet (fail)
          go_wp2_with fail
          go_roundg (n + 1 - (k + 1))
          case measure => have := HG.out; omega
          case rel => exact ⟨k + 1, by omega, rfl, by rw [HST.out]; rfl, by go_num, hfr.drewN _⟩
      | false =>
        go_wp2_with fail
        go_quiet (fail)
        go_wp2_with fail
        go_roundg (n + 1 - (k + 1))
        case measure => have := HG.out; omega
        case rel => exact ⟨k + 1, by omega, rfl, by rw [HST.out]; rfl, by go_num, hfr.drewN _⟩
    · obtain rfl : n = k := by omega
      have t2 : decide ((n : Int) < (n : Int)) = false := by simp
      have HS2 : Hid (sm = decide (es = fs)) := Lib.hid (by rw [HSM.out, List.take_of_length_le (by have := EN.out; omega), List.take_of_length_le (by have := FN.out; omega)])
      have r1 := row_cell (hfr.at HR7.out (by simp)) 1
      have q1 := row_cell (hfr.at HQ7.out (by simp)) 1
      simp at r1 q1
      have HF8 := Lib.hid (HF7.out.trans hfr (by simp))
      clear hfr hea hfa HSM
      cases sm with
      | true =>
        have t3 : (R1 == R2) = true := by rw [HBS.out (of_decide_eq_true HS2.out.symm)]; simp
        go_wp2_with fail
        go_ret
        exact ⟨rfl, HF8.out.toBelow (by simp)⟩
      | false =>
        have HNE : Hid (es ≠ fs) := Lib.hid (of_decide_eq_false HS2.out.symm)
        by_cases hr : R1 = R2
        · have t3 : (R1 == R2) = true := by rw [hr]; simp
          have HCT := Lib.hid (HBC2.out HNE.out hr)
          clear hr
          go_wp2_with fail
          refine (HTX1.out wr HF8.out).mono ?_
          rintro e w9 ⟨v9, rfl, ho9, hb⟩
          have HF9 := Lib.hid (HF8.out.below hb HF8.out.size)
          have HS9 := Lib.hid ho9.strs
          clear ho9 hb
          go_wp2_with fail
          refine (HTX2.out w9 HF9.out).mono ?_
          rintro e w10 ⟨v10, rfl, ho10, hb⟩
          have HF10 := Lib.hid (HF9.out.below hb HF9.out.size)
          have HS10 := Lib.hid (HS9.out.fr0 (Fr.ofBelow hb))
          have HO10 := Lib.hid ho10.strs
          clear ho10 hb
          go_wp2_with fail
          refine (HCO.out _ _ w10 HS10.out HO10.out).mono ?_
          rintro e w11 ⟨rfl, hb⟩
          rw [HCT.out]
          have HF11 := Lib.hid (HF10.out.below hb HF10.out.size)
          clear hb
          go_wp2_with fail
          go_ret
          exact ⟨rfl, HF11.out.toBelow (by simp)⟩
        · have t3 : (R1 == R2) = false := by simpa using hr
          clear hr
          go_wp2_with fail
          go_ret
          exact ⟨rfl, HF8.out.toBelow (by simp)⟩
end Go.Proofs.YtcohghaanakiiaaGreatDoor
