/-
  foyerlaw31: RevealHides.
-/
import Derived.Test.YtmhejcndkplepaaDoorRvM
namespace Go.Proofs.YtmhejcndkplepaaDoor
open Go.RowKit

/-- Other fields, with the chosen ones of a record in their places. -/
def mixL (fields others : List (List UInt8)) (L : List Int) (k : Nat) : List (List UInt8) := (L.take k).foldl (fun acc z => acc.set z.toNat (fields.getD z.toNat [])) others
theorem mixL_succ {fields others : List (List UInt8)} {L : List Int} {k : Nat} (h : k < L.length) : mixL fields others L (k + 1) = (mixL fields others L k).set (L.getD k 0).toNat (fields.getD (L.getD k 0).toNat []) := by
  unfold mixL
  rw [take_snoc' L k 0 h, List.foldl_append]
  rfl
theorem mixL_len {fields others : List (List UInt8)} {L : List Int} : ∀ k, k ≤ L.length → (mixL fields others L k).length = others.length := by
  intro k
  induction k with
  | zero => intro _; rfl
  | succ k ih => intro h; rw [mixL_succ (by omega), List.length_set, ih (by omega)]
theorem mixL_short {fields others : List (List UInt8)} {L : List Int} {n : Nat} (hf : ∀ x ∈ fields, x.length ≤ n) (ho : ∀ x ∈ others, x.length ≤ n) : ∀ k, k ≤ L.length → ∀ x ∈ mixL fields others L k, x.length ≤ n := by
  intro k
  induction k with
  | zero => intro _; exact ho
  | succ k ih =>
    intro h x hx
    rw [mixL_succ (by omega)] at hx
    rcases List.mem_or_eq_of_mem_set hx with h1 | h1
    · exact ih (by omega) x h1
    · rw [h1]; exact getD_short hf
theorem mixL_at {fields others : List (List UInt8)} {L : List Int} (hz : ∀ z ∈ L, z.toNat < others.length) : ∀ k, k ≤ L.length → ∀ z ∈ L.take k, (mixL fields others L k).getD z.toNat [] = fields.getD z.toNat [] := by
  intro k
  induction k with
  | zero => intro _ z hm; simp at hm
  | succ k ih =>
    intro h z hm
    have hl := mixL_len (fields := fields) (others := others) (L := L) k (by omega)
    have hzz := hz _ (getD_mem L k 0 (by omega))
    rw [mixL_succ (by omega), List.getD_eq_getElem?_getD, List.getElem?_set]
    by_cases he : (L.getD k 0).toNat = z.toNat
    · rw [if_pos he, if_pos (by omega), he]
      rfl
    · rw [if_neg he, ← List.getD_eq_getElem?_getD]
      rw [take_snoc' L k 0 (by omega)] at hm
      rcases List.mem_append.1 hm with hm | hm
      · exact ih (by omega) z hm
      · rw [List.mem_singleton.1 hm] at he
        exact absurd rfl he
theorem mix_fields {fields others : List (List UInt8)} {L : List Int} (hz : ∀ z ∈ L, z.toNat < others.length) : (L.map fun i => (mixL fields others L L.length).getD i.toNat []) = L.map fun i => fields.getD i.toNat [] := by
  refine List.map_congr_left (fun z hm => ?_)
  exact mixL_at hz L.length (Nat.le_refl _) z (by rw [List.take_length]; exact hm)
theorem Zs.cell0 {w : World} {a : Option Addr} {n cap : Nat} {l : List Int} (h : Zs w (.slice a n cap) l) (i : Nat) (hi : i < l.length) : ∃ b off, a = some ⟨b, off, none⟩ ∧ w.cell? ⟨b, off + i, none⟩ = some (.int .i64 (l.getD i 0)) := by
  rcases h with ⟨h, h2⟩ | ⟨b', off', cap', hv, _, _, _, h4⟩
  · subst h2; exact absurd hi (by simp)
  · cases hv; exact ⟨b', off', rfl, h4 i hi⟩
theorem SS.cell0 {w : World} {a : Option Addr} {n cap : Nat} {l : List (List (List UInt8))} (h : SS w (.slice a n cap) l) (i : Nat) (hi : i < l.length) : ∃ b off, a = some ⟨b, off, none⟩ ∧ ∃ u, w.cell? ⟨b, off + i, none⟩ = some u ∧ Strs w u (l.getD i []) := by
  rcases h with ⟨h, h2⟩ | ⟨b', off', cap', hv, _, _, _, h4⟩
  · subst h2; exact absurd hi (by simp)
  · cases hv; exact ⟨b', off', rfl, h4 i hi⟩

set_option maxRecDepth 100000 in
set_option maxHeartbeats 8000000 in
theorem revealHides_any (v : Value) (fields : List (List UInt8)) (ov : Value) (others : List (List UInt8)) (s t : List UInt8) (bv : Value) (bl : List Bool) (w : World) (hs9 : s.length ≤ 140737488355328) (ht9 : t.length ≤ 140737488355328) (hT : Tabs w) (hv : Strs w v fields) (ho : Strs w ov others) (hb : Bools w bv bl) :
    Calls Tryd.prog 6 #[v, ov, .string ⟨s.toArray⟩, .string ⟨t.toArray⟩, bv] w fun e w' => e = .returned (.bool true) ∧ Below w.heap.size w w' := by
  have hmx : Tryd.prog.follows .mixedOrders = true := by kernel_rfl
  have HT := Lib.hid hT
  have HV := Lib.hid hv
  have HO := Lib.hid ho
  obtain ⟨fa, fcap, rfl, hfl, hfa⟩ := hv.form
  obtain ⟨oa, ocap, rfl, hol, hoa⟩ := ho.form
  have HB := Lib.hid hb
  clear hT hv ho hb
  go_enter Tryd.func6, Tryd.ntmps6
  go_wp2_with fail
  refine (head31_any w HT.out).mono ?_
  rintro e w1 ⟨rfl, hb1⟩
  have hf1 : Fr [] w w1 := (Fr.refl [] w).below hb1 (Nat.le_refl _)
  clear hb1
  go_wp2_with fail
  refine (short_any _ fields 30 w1 (HV.out.fr0 hf1)).mono ?_
  rintro e w2 ⟨rfl, hb2⟩
  have hf2 : Fr [] w w2 := hf1.below hb2 hf1.size
  clear hb2 hf1
  cases hsh : shortB fields 30 with
  | false => go_wp2_with fail; go_ret; exact ⟨rfl, hf2.toBelow (by simp)⟩
  | true => ?_
  have HSH := Lib.hid (shortB_all hsh)
  clear hsh
  go_wp2_with fail
  refine (short_any _ others 30 w2 (HO.out.fr0 hf2)).mono ?_
  rintro e w3 ⟨rfl, hb3⟩
  have hf3 : Fr [] w w3 := hf2.below hb3 hf2.size
  clear hb3 hf2
  cases hsh : shortB others 30 with
  | false => go_wp2_with fail; go_ret; exact ⟨rfl, hf3.toBelow (by simp)⟩
  | true => ?_
  have HSO := Lib.hid (shortB_all hsh)
  clear hsh
  by_cases hll : fields.length = others.length
  case neg =>
    have t0 : ((fields.length : Int) != (others.length : Int)) = true := by simp; omega
    have t0' : (fields.length != others.length) = true := by simp; omega
    go_wp2_with fail
    go_ret
    exact ⟨rfl, hf3.toBelow (by simp)⟩
  have t0 : ((fields.length : Int) != (others.length : Int)) = false := by simp; omega
  have t0' : (fields.length != others.length) = false := by simp; omega
  have HLL := Lib.hid hll
  clear hll
  by_cases h0 : fields.length = 0
  · have t2 : ((fields.length : Int) == 0) = true := by rw [beq_iff_eq]; omega
    have t2' : (fields.length == 0) = true := by rw [beq_iff_eq]; omega
    clear h0
    go_wp2_with fail
    go_ret
    exact ⟨rfl, hf3.toBelow (by simp)⟩
  have t2 : ((fields.length : Int) == 0) = false := by rw [beq_eq_false_iff_ne]; omega
  have t2' : (fields.length == 0) = false := by rw [beq_eq_false_iff_ne]; omega
  have x1 : IntKind.i64.wrap ((s.length : Int) + (t.length : Int)) = (s.length : Int) + (t.length : Int) := IntWalk.i64_in _ (by omega)
  by_cases h1 : 300 < s.length + t.length
  · have t1 : decide ((300 : Int) < (s.length : Int) + (t.length : Int)) = true := by simp; omega
    go_wp2_with fail
    go_ret
    exact ⟨rfl, hf3.toBelow (by simp)⟩
  have t1 : decide ((300 : Int) < (s.length : Int) + (t.length : Int)) = false := by simp; omega
  go_wp2_with fail
  refine (chosen_any fields.length bv bl w3 (HB.out.fr hf3) (by have := HSH.out.2; omega)).mono ?_
  rintro e w4 ⟨lv, rfl, hz4, hb4⟩
  have hf4 : Fr [] w w4 := hf3.below hb4 hf3.size
  have HINC := Lib.hid (inc_chosen bl (show 0 < fields.length by omega))
  obtain ⟨L, eL⟩ : ∃ L, L = chosenL fields.length bl := ⟨_, rfl⟩
  rw [← eL] at hz4 HINC
  have HZ := Lib.hid hz4
  obtain ⟨la, lcap, rfl, hlc, hlcap, hla⟩ := hz4.form
  have HLB : Hid (L.length ≤ 30) := Lib.hid (by have := incB_len HINC.out; have := HSH.out.2; omega)
  have HZB : Hid (∀ z ∈ L, 0 ≤ z ∧ z < fields.length) := Lib.hid (incB_in HINC.out (by decide))
  clear hb4 hf3 eL hz4 t0 t0' t1 t2 t2' x1
  go_upto_region 5 with (fail)
  go_wp2_with (at_builtin; go_loud (refine wpList_appW rfl (.tmp 55) (.tmp 56) rfl w4.heap.size _ _ [] others w rfl rfl ?_ ?_ (hf4.alloc _) hf4.size (by simp) ?_ ?_))
  · exact (HO.out.fr0 hf4).fr0 ((Fr.refl [] w4).alloc _)
  · exact own_empty (Nat.le_refl _)
  · have := HSO.out.2; simp; omega
  intro sv w5 ho5 hf5 hg5 _
  obtain ⟨sg, scap, rfl⟩ := ho5.slice (n := fields.length) HLL.out.symm (by omega)
  have HS5 := Lib.hid ho5
  have hsg : w4.heap.size ≤ sg := (ownBlock_cells ho5 sg rfl).1
  have h45 : Fr [] w4 w5 := ((Fr.refl [] w4).alloc _).trans hg5 (fun y hy => Or.inr (by simp [Value.ownBlock] at hy; omega))
  clear hg5
  clear ho5
  go_wp2_with fail
  go_loopg [14] (L.length + 1) (fun gh i wr => ∃ k : Nat, k ≤ L.length ∧ gh = L.length + 1 - k ∧ i = .int .i64 (k : Int) ∧ OwnS w4.heap.size wr (.slice (some ⟨sg, 0, none⟩) fields.length scap) (mixL fields others L k) ∧ Fr [sg] w5 wr)
  case atStart => exact ⟨0, by omega, by omega, rfl, HS5.out, Fr.refl _ _⟩
  case round =>
    obtain ⟨k, hk, hgh, rfl, hown, hfr⟩ := hrel
    have HG := Lib.hid hgh
    have HOW := Lib.hid hown
    clear hgh hown
    have f4r : Fr [] w4 wr := h45.trans hfr (fun y hy => Or.inr (by simp at hy; omega))
    have gr : Fr [] w wr := hf4.trans f4r (by simp)
    by_cases hlt : k < L.length
    · have t1 : decide ((k : Int) < (L.length : Int)) = true := by simp; omega
      obtain ⟨lb, lo, rfl⟩ := hla k hlt
      have cl := f4r.cell (HZ.out.cell k hlt) (by simp)
      have hz := HZB.out _ (getD_mem L k 0 hlt)
      obtain ⟨m, hm⟩ : ∃ m : Nat, L.getD k 0 = (m : Int) := ⟨(L.getD k 0).toNat, by omega⟩
      have hmx2 := mixL_succ (fields := fields) (others := others) hlt
      have hml := mixL_len (fields := fields) (others := others) (L := L) k hk
      rw [hm] at cl hz hmx2
      rw [Int.toNat_natCast] at hmx2
      obtain ⟨fb, fo, rfl⟩ := hfa m (by omega)
      have cf := gr.cell (HV.out.cell m (by omega)) (by simp)
      have HMX := Lib.hid hmx2
      generalize fields.getD m [] = f at cf HMX
      obtain ⟨cur, hb1, hg1, hn1, hc1, hs1, ht1⟩ := HOW.out.formG (n := fields.length) (by rw [hml, HLL.out])
      have cs := HOW.out.strs.cellN (by rw [hml, HLL.out]) m (by omega)
      generalize (mixL fields others L k).getD m [] = old at cs
      have CUR := Lib.hid ht1
      have fz := row_free hg1 m
      have g0 : (0 : Int) ≤ (k : Int) := by omega
      have g1 : (k : Int) < (L.length : Int) := by omega
      have g2 : (0 : Int) ≤ (m : Int) := by omega
      have g3 : (m : Int) < (fields.length : Int) := by omega
      rw [Nat.zero_add] at cs
      have hw5 : w.heap.size ≤ sg := by have := hf4.size; omega
      clear hm hz hmx2 hml ht1
      go_wp2_with fail
      have hS0 : wr.drew.cell? ⟨lb, lo + k, none⟩ = some (.int .i64 (m : Int)) ∧ wr.drew.cell? ⟨fb, fo + m, none⟩ = some (.string ⟨f.toArray⟩) ∧ wr.drew.cell? ⟨sg, m, none⟩ = some (.string ⟨old.toArray⟩) := ⟨cl, cf, cs⟩
      refine region_held 13 (fun W => W.cell? ⟨lb, lo + k, none⟩ = some (.int .i64 (m : Int)) ∧ W.cell? ⟨fb, fo + m, none⟩ = some (.string ⟨f.toArray⟩) ∧ W.cell? ⟨sg, m, none⟩ = some (.string ⟨old.toArray⟩)) hmx ?_
      change Held _ _ _ _ _ _ 14 (Array.replicate 14 false) _ _
      refine hd_take 0 (v := .slice (some ⟨sg, 0, none⟩) fields.length scap) rfl (by kernel_rfl) (by kernel_rfl) (by kernel_rfl) rfl hS0 (fun W' hS => by obtain ⟨h0, h1, h2⟩ := hS; first | (go_simp; done) | (go_simp; intro hix; omega)) rfl ?_
      refine hd_take 1 (v := .slice (some ⟨lb, lo, none⟩) L.length lcap) rfl (by kernel_rfl) (by kernel_rfl) (by kernel_rfl) rfl hS0 (fun W' hS => by obtain ⟨h0, h1, h2⟩ := hS; first | (go_simp; done) | (go_simp; intro hix; omega)) rfl ?_
      refine hd_take 2 (v := .int .i64 (k : Int)) rfl (by kernel_rfl) (by kernel_rfl) (by kernel_rfl) rfl hS0 (fun W' hS => by obtain ⟨h0, h1, h2⟩ := hS; first | (go_simp; done) | (go_simp; intro hix; omega)) rfl ?_
      refine hd_take 5 (v := .slice (some ⟨fb, fo, none⟩) fields.length fcap) rfl (by kernel_rfl) (by kernel_rfl) (by kernel_rfl) rfl hS0 (fun W' hS => by obtain ⟨h0, h1, h2⟩ := hS; first | (go_simp; done) | (go_simp; intro hix; omega)) rfl ?_
      refine hd_take 6 (v := .slice (some ⟨lb, lo, none⟩) L.length lcap) rfl (by kernel_rfl) (by kernel_rfl) (by kernel_rfl) rfl hS0 (fun W' hS => by obtain ⟨h0, h1, h2⟩ := hS; first | (go_simp; done) | (go_simp; intro hix; omega)) rfl ?_
      refine hd_take 7 (v := .int .i64 (k : Int)) rfl (by kernel_rfl) (by kernel_rfl) (by kernel_rfl) rfl hS0 (fun W' hS => by obtain ⟨h0, h1, h2⟩ := hS; first | (go_simp; done) | (go_simp; intro hix; omega)) rfl ?_
      simp only [Act.put, List.setIfInBounds_toArray, List.set_cons_zero, List.set_cons_succ]
      refine hd_take 3 (v := .pointer (some ⟨lb, lo + k, none⟩)) rfl (by kernel_rfl) (by kernel_rfl) (by kernel_rfl) rfl hS0 (fun W' hS => by obtain ⟨h0, h1, h2⟩ := hS; first | (go_simp; done) | (go_simp; intro hix; omega)) rfl ?_
      refine hd_take 8 (v := .pointer (some ⟨lb, lo + k, none⟩)) rfl (by kernel_rfl) (by kernel_rfl) (by kernel_rfl) rfl hS0 (fun W' hS => by obtain ⟨h0, h1, h2⟩ := hS; first | (go_simp; done) | (go_simp; intro hix; omega)) rfl ?_
      simp only [Act.put, List.setIfInBounds_toArray, List.set_cons_zero, List.set_cons_succ]
      refine hd_take 4 (v := .int .i64 (m : Int)) rfl (by kernel_rfl) (by kernel_rfl) (by kernel_rfl) rfl hS0 (fun W' hS => by obtain ⟨h0, h1, h2⟩ := hS; first | (go_simp; done) | (go_simp; intro hix; omega)) rfl ?_
      refine hd_take 9 (v := .int .i64 (m : Int)) rfl (by kernel_rfl) (by kernel_rfl) (by kernel_rfl) rfl hS0 (fun W' hS => by obtain ⟨h0, h1, h2⟩ := hS; first | (go_simp; done) | (go_simp; intro hix; omega)) rfl ?_
      simp only [Act.put, List.setIfInBounds_toArray, List.set_cons_zero, List.set_cons_succ]
      refine hd_take 10 (v := .pointer (some ⟨fb, fo + m, none⟩)) rfl (by kernel_rfl) (by kernel_rfl) (by kernel_rfl) rfl hS0 (fun W' hS => by obtain ⟨h0, h1, h2⟩ := hS; first | (go_simp; done) | (go_simp; intro hix; omega)) rfl ?_
      simp only [Act.put, List.setIfInBounds_toArray, List.set_cons_zero, List.set_cons_succ]
      refine hd_take 11 (v := .string ⟨f.toArray⟩) rfl (by kernel_rfl) (by kernel_rfl) (by kernel_rfl) rfl hS0 (fun W' hS => by obtain ⟨h0, h1, h2⟩ := hS; first | (go_simp; done) | (go_simp; intro hix; omega)) rfl ?_
      simp only [Act.put, List.setIfInBounds_toArray, List.set_cons_zero, List.set_cons_succ]
      refine hd_take 12 (v := .pointer (some ⟨sg, m, none⟩)) rfl (by kernel_rfl) (by kernel_rfl) (by kernel_rfl) rfl hS0 (fun W' hS => by obtain ⟨h0, h1, h2⟩ := hS; first | (go_simp; done) | (go_simp; intro hix; omega)) rfl ?_
      simp only [Act.put, List.setIfInBounds_toArray, List.set_cons_zero, List.set_cons_succ]
      have yd : Fr [] wr wr.drew := (Fr.refl [] wr).drew
      generalize wr.drew = wd at yd hS0 ⊢
      have hgd := yd.at hg1 (by simp)
      have e1 : wd.cell? ⟨sg, m, none⟩ = some (.string ⟨old.toArray⟩) := hS0.2.2
      have e2 := row_free hgd m
      refine hd_one 13 (by kernel_rfl) rfl (by kernel_rfl) rfl (fun K' hK => ?_)
      go_simp
      refine hK.out _ _ (fun h => absurd rfl h) ?_
      clear hK K'
      refine held_done (by kernel_rfl) ?_
      have HO9 : Hid (OwnS w4.heap.size (wd.setCell ⟨sg, m, none⟩ (.string ⟨f.toArray⟩)) (.slice (some ⟨sg, 0, none⟩) fields.length scap) (mixL fields others L (k + 1))) := Lib.hid (by rw [HMX.out]; exact own_set hsg hgd hn1 hc1 hs1 CUR.out f)
      have f9 : Fr [sg] w5 (wd.setCell ⟨sg, m, none⟩ (.string ⟨f.toArray⟩)) := (hfr.trans yd (by simp)).setCell _ _ (by simp)
      generalize wd.setCell ⟨sg, m, none⟩ (.string ⟨f.toArray⟩) = w9 at HO9 f9 ⊢
      clear e1 e2 hgd yd hS0 cs fz hg1 hb1 hn1 hc1 hs1 cl cf
      go_wp2_with fail
      go_roundg (L.length + 1 - (k + 1))
      case measure => have := HG.out; omega
      case rel => exact ⟨k + 1, by omega, rfl, by go_num, HO9.out, f9⟩
    · obtain rfl : k = L.length := by omega
      have t1 : decide ((L.length : Int) < (L.length : Int)) = false := by simp
      have hml := mixL_len (fields := fields) (others := others) (L := L) L.length (Nat.le_refl _)
      rw [← HLL.out] at hml
      have HML := Lib.hid hml
      have HMS := Lib.hid (mixL_short (L := L) HSH.out.1 HSO.out.1 L.length (Nat.le_refl _))
      have HMF := Lib.hid (mix_fields (fields := fields) (others := others) (L := L) (fun z hz => by have := HZB.out z hz; have := HLL.out; omega))
      generalize mixL fields others L L.length = M at HML HMS HMF HOW
      have HINM : Hid (incB (-1) L (M.length : Int) = true) := Lib.hid (by rw [HML.out]; exact HINC.out)
      have HSM := Lib.hid HOW.out.strs
      clear hml HS5 HOW HG hfr hk hlt
      go_wp2_with fail
      refine (show_any _ _ fields s L wr (HV.out.fr0 gr) (HZ.out.fr0 f4r) (by have := HSH.out.2; omega) (by omega) (fun f hf => by have := HSH.out.1 f hf; omega) (HT.out.fr gr)).mono ?_
      rintro e w6 ⟨dv, rfl, hd, hb6⟩
      have f6 : Fr [] wr w6 := Fr.ofBelow hb6
      rw [show_ok HINC.out] at hd
      rw [showE_ok HINC.out]
      clear hb6 t1
      obtain ⟨aw, af, ap, rfl, haw, haf, hap⟩ := hd
      obtain ⟨awa, awc, rfl⟩ : ∃ a c, aw = .slice a L.length c := by obtain ⟨a, c, h, _⟩ := haw.form; exact ⟨a, c, h⟩
      obtain ⟨afa, afc, rfl⟩ : ∃ a c, af = .slice a L.length c := by
        obtain ⟨a, c, h1, _⟩ := haf.form
        simp only [List.length_map] at h1
        exact ⟨a, c, h1⟩
      obtain ⟨apa, apc, rfl⟩ : ∃ a c, ap = .slice a L.length c := by
        obtain ⟨a, c, h1, _⟩ := hap.form
        simp only [List.length_map] at h1
        exact ⟨a, c, h1⟩
      have HaW := Lib.hid haw
      have HaF := Lib.hid haf
      have HaP := Lib.hid hap
      clear haw haf hap
      go_upto_region 11 with (fail)
      have f7 : Fr [] w6 (w6.alloc (.cells #[.int .i64 (fields.length : Int), .slice awa L.length awc, .slice afa L.length afc, .slice apa L.length apc] 26)) := (Fr.refl [] w6).alloc _
      have q7 : DAt w6.heap.size (.int .i64 (fields.length : Int)) (.slice awa L.length awc) (.slice afa L.length afc) (.slice apa L.length apc) (w6.alloc (.cells #[.int .i64 (fields.length : Int), .slice awa L.length awc, .slice afa L.length afc, .slice apa L.length apc] 26)) := DAt.of (heap_new rfl)
      generalize w6.alloc (.cells #[.int .i64 (fields.length : Int), .slice awa L.length awc, .slice afa L.length afc, .slice apa L.length apc] 26) = w7 at f7 q7 ⊢
      obtain ⟨ab, eab⟩ : ∃ b, b = w6.heap.size := ⟨_, rfl⟩
      rw [← eab] at q7 ⊢
      have EAB := Lib.hid eab
      have QA7 := Lib.hid q7
      have f67 : Fr [] wr w7 := f6.trans f7 (by simp)
      have g7 : Fr [] w w7 := gr.trans f67 (by simp)
      clear q7 eab
      go_wp2_with fail
      refine (show_any _ _ M t L w7 (HSM.out.fr0 f67) (HZ.out.fr0 (f4r.trans f67 (by simp))) (by have := HSH.out.2; have := HML.out; omega) (by omega) (fun f hf => by have := HMS.out f hf; omega) (HT.out.fr g7)).mono ?_
      rintro e w8 ⟨dv, rfl, hd, hb8⟩
      have f8 : Fr [] w7 w8 := Fr.ofBelow hb8
      rw [show_ok HINM.out, HML.out] at hd
      rw [showE_ok HINM.out]
      clear hb8
      obtain ⟨bw, bf, bp, rfl, hbw, hbf, hbp⟩ := hd
      obtain ⟨bwa, bwc, rfl⟩ : ∃ a c, bw = .slice a L.length c := by obtain ⟨a, c, h, _⟩ := hbw.form; exact ⟨a, c, h⟩
      obtain ⟨bfa, bfc, rfl⟩ : ∃ a c, bf = .slice a L.length c := by
        obtain ⟨a, c, h1, _⟩ := hbf.form
        simp only [List.length_map] at h1
        exact ⟨a, c, h1⟩
      obtain ⟨bpa, bpc, rfl⟩ : ∃ a c, bp = .slice a L.length c := by
        obtain ⟨a, c, h1, _⟩ := hbp.form
        simp only [List.length_map] at h1
        exact ⟨a, c, h1⟩
      have HbW := Lib.hid hbw
      have HbF := Lib.hid hbf
      have HbP := Lib.hid hbp
      clear hbw hbf hbp
      go_upto_region 12 with (fail)
      have f9 : Fr [] w8 (w8.alloc (.cells #[.int .i64 (fields.length : Int), .slice bwa L.length bwc, .slice bfa L.length bfc, .slice bpa L.length bpc] 26)) := (Fr.refl [] w8).alloc _
      have q9 : DAt w8.heap.size (.int .i64 (fields.length : Int)) (.slice bwa L.length bwc) (.slice bfa L.length bfc) (.slice bpa L.length bpc) (w8.alloc (.cells #[.int .i64 (fields.length : Int), .slice bwa L.length bwc, .slice bfa L.length bfc, .slice bpa L.length bpc] 26)) := DAt.of (heap_new rfl)
      generalize w8.alloc (.cells #[.int .i64 (fields.length : Int), .slice bwa L.length bwc, .slice bfa L.length bfc, .slice bpa L.length bpc] 26) = w9 at f9 q9 ⊢
      obtain ⟨bb, ebb⟩ : ∃ b, b = w8.heap.size := ⟨_, rfl⟩
      rw [← ebb] at q9 ⊢
      have EBB := Lib.hid ebb
      have QB9 := Lib.hid q9
      have f79 : Fr [] w7 w9 := f8.trans f9 (by simp)
      have f69 : Fr [] w6 w9 := f7.trans f79 (by simp)
      have g9 : Fr [] w w9 := g7.trans f79 (by simp)
      obtain ⟨a0, a1, a2, a3⟩ := QA7.out.fr f79 (by simp)
      obtain ⟨b0, b1, b2, b3⟩ := q9
      have t2 : ((fields.length : Int) != (fields.length : Int)) = false := by simp
      have t3 : ((L.length : Int) != (L.length : Int)) = false := by simp
      clear ebb
      go_wp2_with fail
      refine (rsame4_any _ _ _ _ w9 (HaF.out.fr0 f69) (HbF.out.fr0 f9)).mono ?_
      rintro e w10 ⟨rfl, hb10⟩
      rw [show decide ((L.map fun i => fields.getD i.toNat []) = L.map fun i => M.getD i.toNat []) = true from decide_eq_true HMF.out.symm]
      have f10 : Fr [] w9 w10 := Fr.ofBelow hb10
      have QA := Lib.hid (QA7.out.fr (f79.trans f10 (by simp)) (by simp))
      have QB := Lib.hid (QB9.out.fr f10 (by simp))
      have F60 := Lib.hid (f69.trans f10 (by simp))
      have F80 := Lib.hid (f9.trans f10 (by simp))
      have G0 := Lib.hid (g9.trans f10 (by simp))
      clear a0 a1 a2 a3 b0 b1 b2 b3
      obtain ⟨a0, a1, a2, a3⟩ := QA.out
      obtain ⟨b0, b1, b2, b3⟩ := QB.out
      clear f10 f9 f79 f69 f8 f7 f67 f6 g9 g7 gr f4r hb10 QA7 QB9 HSM
      go_wp2_with fail
      go_loopg [19] (L.length + 1) (fun gh i wr => ∃ k : Nat, k ≤ L.length ∧ gh = L.length + 1 - k ∧ i = .int .i64 (k : Int) ∧ Fr [] w10 wr)
      case atStart => exact ⟨0, by omega, by omega, rfl, Fr.refl _ _⟩
      case round =>
        clear a0 a1 a2 a3 b0 b1 b2 b3
        obtain ⟨k, hk, hgh, rfl, hfr⟩ := hrel
        have HG := Lib.hid hgh
        clear hgh t2 t3
        by_cases hlt : k < L.length
        · have t1 : decide ((k : Int) < (L.length : Int)) = true := by simp; omega
          obtain ⟨awb, awo, rfl, caw⟩ := HaW.out.cell0 k hlt
          obtain ⟨bwb, bwo, rfl, cbw⟩ := HbW.out.cell0 k hlt
          obtain ⟨apb, apo, rfl, ua, cua, sua⟩ := HaP.out.cell0 k (by simpa using hlt)
          obtain ⟨bpb, bpo, rfl, ub, cub, sub⟩ := HbP.out.cell0 k (by simpa using hlt)
          rw [map_getD' (pathF fields s) L k 0 [] hlt] at sua
          rw [map_getD' (pathF M t) L k 0 [] hlt] at sub
          have HDA := Lib.hid (pathF_isD fields s (L.getD k 0))
          have HDB := Lib.hid (pathF_isD M t (L.getD k 0))
          have hla1 := pathF_len fields s (L.getD k 0)
          have hlb1 := pathF_len M t (L.getD k 0)
          rw [HML.out] at hlb1
          obtain ⟨pn, epn⟩ : ∃ pn, pn = plen fields.length (L.getD k 0).toNat + 1 := ⟨_, rfl⟩
          rw [← epn] at hla1 hlb1
          generalize pathF fields s (L.getD k 0) = pa at sua HDA hla1
          generalize pathF M t (L.getD k 0) = pb at sub HDB hlb1
          generalize L.getD k 0 = z at caw cbw
          have LA := Lib.hid hla1
          have LB := Lib.hid hlb1
          have SUA := Lib.hid sua
          have SUB := Lib.hid sub
          obtain ⟨xa, xc, rfl, hxn, hxa⟩ : ∃ a c, ua = .slice a pn c ∧ pn ≤ 9223372036854775807 ∧ (∀ i, i < pn → ∃ b off, a = some ⟨b, off, none⟩) := by
            obtain ⟨a, c, h1, h2, h3⟩ := sua.form
            rw [hla1] at h1 h2 h3
            exact ⟨a, c, h1, h2, h3⟩
          obtain ⟨ya, yc, rfl, hyn, hya⟩ : ∃ a c, ub = .slice a pn c ∧ pn ≤ 9223372036854775807 ∧ (∀ i, i < pn → ∃ b off, a = some ⟨b, off, none⟩) := by
            obtain ⟨a, c, h1, h2, h3⟩ := sub.form
            rw [hlb1] at h1 h2 h3
            exact ⟨a, c, h1, h2, h3⟩
          have CAW := Lib.hid (F60.out.cell caw (by simp))
          have CBW := Lib.hid (F80.out.cell cbw (by simp))
          have CUA := Lib.hid (F60.out.cell cua (by simp))
          have CUB := Lib.hid (F80.out.cell cub (by simp))
          have d1 := hfr.cell CAW.out (by simp)
          have d2 := hfr.cell CBW.out (by simp)
          have d3 := hfr.cell CUA.out (by simp)
          have d4 := hfr.cell CUB.out (by simp)
          obtain ⟨a0, a1, a2, a3⟩ := QA.out.fr hfr (by simp)
          obtain ⟨b0, b1, b2, b3⟩ := QB.out.fr hfr (by simp)
          have g0 : (0 : Int) ≤ (k : Int) := by omega
          have g1 : (k : Int) < (L.length : Int) := by omega
          have t2 : (z != z) = false := by simp
          have t3 : ((pn : Int) != (pn : Int)) = false := by simp
          clear caw cbw cua cub sua sub hla1 hlb1 epn
          go_wp2_with fail
          go_quiet (fail)
          go_wp2_with fail
          go_loopg [20] (pn + 1) (fun gh i wq => ∃ j : Nat, j ≤ pn ∧ gh = pn + 1 - j ∧ i = .int .i64 (j : Int) ∧ Fr [] w10 wq)
          case atStart => exact ⟨0, by omega, by omega, rfl, hfr.drewN _⟩
          case round =>
            clear hfr a0 a1 a2 a3 b0 b1 b2 b3 d1 d2 d3 d4 t2 t3 t1
            obtain ⟨j, hj, hgj, rfl, hfr⟩ := hrel
            have HG2 := Lib.hid hgj
            clear hgj
            have d3 := hfr.cell CUA.out (by simp)
            have d4 := hfr.cell CUB.out (by simp)
            obtain ⟨a0, a1, a2, a3⟩ := QA.out.fr hfr (by simp)
            obtain ⟨b0, b1, b2, b3⟩ := QB.out.fr hfr (by simp)
            by_cases hlj : j < pn
            · have t1 : decide ((j : Int) < (pn : Int)) = true := by simp; omega
              obtain ⟨xb, xo, rfl⟩ := hxa j hlj
              obtain ⟨yb, yo, rfl⟩ := hya j hlj
              have cx := (F60.out.trans hfr (by simp)).cell (SUA.out.cellN LA.out j hlj) (by simp)
              have cy0 := F80.out.cell (SUB.out.cellN LB.out j hlj) (by simp)
              have hdx := HDA.out _ (getD_mem pa j [] (by rw [LA.out]; exact hlj))
              have hdy := HDB.out _ (getD_mem pb j [] (by rw [LB.out]; exact hlj))
              generalize pa.getD j [] = x at cx hdx
              generalize pb.getD j [] = y at cy0 hdy
              have hxl := isD_l16 hdx
              have hyl := isD_l16 hdy
              have HDX := Lib.hid hdx
              have HDY := Lib.hid hdy
              have q0 : (0 : Int) ≤ (j : Int) := by omega
              have q1 : (j : Int) < (pn : Int) := by omega
              have hxl2 : x.length ≤ 9223372036854775807 := by omega
              have hyl2 : y.length ≤ 9223372036854775807 := by omega
              clear hdx hdy hxl hyl
              go_wp2_with fail
              refine (is_any x wr hxl2).mono ?_
              rintro e w11 ⟨rfl, hb11⟩
              have f11 : Fr [] w10 w11 := hfr.below hb11 hfr.size
              rw [HDX.out]
              clear d3 d4 a0 a1 a2 a3 b0 b1 b2 b3 cx hfr hb11
              have d4 := f11.cell CUB.out (by simp)
              obtain ⟨b0, b1, b2, b3⟩ := QB.out.fr f11 (by simp)
              have cy := f11.cell cy0 (by simp)
              go_wp2_with fail
              refine (is_any y w11 hyl2).mono ?_
              rintro e w12 ⟨rfl, hb12⟩
              have f12 : Fr [] w10 w12 := f11.below hb12 f11.size
              rw [HDY.out]
              clear d4 b0 b1 b2 b3 cy f11 hb12
              go_wp2_with fail
              go_roundg (pn + 1 - (j + 1))
              case measure => have := HG2.out; omega
              case rel => exact ⟨j + 1, by omega, rfl, by go_num, f12⟩
            · obtain rfl : j = pn := by omega
              have t1 : decide ((j : Int) < (j : Int)) = false := by simp
              go_wp2_with fail
              go_roundg (L.length + 1 - (k + 1))
              case measure => have := HG.out; omega
              case rel => exact ⟨k + 1, by omega, rfl, by go_num, hfr⟩
        · obtain rfl : k = L.length := by omega
          have t1 : decide ((L.length : Int) < (L.length : Int)) = false := by simp
          go_wp2_with fail
          go_ret
          exact ⟨rfl, (G0.out.trans hfr (by simp)).toBelow (by simp)⟩
end Go.Proofs.YtmhejcndkplepaaDoor
