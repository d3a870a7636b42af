/-
  foyerlaw03: SignChanges.
-/
import Derived.Test.YthcgcocmgjamnaaDoorLawF
import Derived.Test.YthcgcocmgjamnaaDoorLawD
namespace Go.Proofs.YthcgcocmgjamnaaDoor
open Go.RowKit
theorem OwnS.slice {base n : Nat} {w : World} {v : Value} {l : List (List UInt8)} (h : OwnS base w v l) (hn : l.length = n) (h0 : 0 < n) : ∃ g c, v = .slice (some ⟨g, 0, none⟩) n c := by
  rcases h.2 with ⟨_, h1⟩ | ⟨g, cap, cur, hv, _⟩
  · omega
  · exact ⟨g, cap, by rw [hn] at hv; exact hv⟩
/-- A cell of an own slice that is set. -/
theorem own_set {base : Nat} {w : World} {g cap n i : Nat} {cur : Array Value} {l : List (List UInt8)} (hb : base ≤ g) (hg : w.heap[g]? = some (.cells cur 9 (0, 0))) (h3 : n ≤ cap) (h4 : cap ≤ maxLen) (h5 : cur.size = cap * 1)
    (h6 : cur.toList.take (n * 1) = l.map strV) (x : List UInt8) : OwnS base (w.setCell ⟨g, i, none⟩ (.string ⟨x.toArray⟩)) (.slice (some ⟨g, 0, none⟩) n cap) (l.set i x) := by
  have hl : l.length = n := by
    have := congrArg List.length h6
    simp only [List.length_take, List.length_map, Array.length_toList] at this
    omega
  refine ⟨by simp [strV], Or.inr ⟨g, cap, cur.setIfInBounds i (.string ⟨x.toArray⟩), by rw [List.length_set, hl], hb, row_set hg i _, by rw [List.length_set]; omega, h4, by simp [h5], ?_⟩⟩
  rw [List.length_set, hl, Array.toList_setIfInBounds, List.take_set, h6, List.map_set]; rfl

set_option maxRecDepth 100000 in
set_option maxHeartbeats 2000000 in
theorem signChanges_any (s m : List UInt8) (q : Nat) (x : List UInt8) (w : World) (hq : q < 256) (hT : Tabs w) :
    Calls Tryd.prog 6 #[.string ⟨s.toArray⟩, .string ⟨m.toArray⟩, .int .u8 (q : Int), .string ⟨x.toArray⟩] w fun e w' => e = .returned (.bool true) ∧ Below w.heap.size w w' := by
  have hmx : Tryd.prog.follows .mixedOrders = true := by kernel_rfl
  have HT := Lib.hid hT
  clear hT
  go_enter Tryd.func6, Tryd.ntmps6
  go_wp2_with fail
  refine (head_any w HT.out).mono ?_
  rintro e w1 ⟨rfl, hb1⟩
  have hf1 : Fr [] w w1 := (Fr.refl [] w).below hb1 (Nat.le_refl _)
  go_wp2_with fail
  refine (short_any _ [s, m, x] _ (strs_three (heap_new rfl))).mono ?_
  rintro e w2 ⟨rfl, hb2⟩
  have hf2 : Fr [] w w2 := (hf1.alloc _).below hb2 (hf1.alloc _).size
  clear hb1 hb2
  cases hsh : shortB [s, m, x] with
  | false => go_wp2_with fail; go_ret; exact ⟨rfl, hf2.toBelow (by simp)⟩
  | true => ?_
  obtain ⟨hs', hm', hx'⟩ := shortB_three hsh
  clear hsh hf1
  go_wp2_with fail
  refine (sign_any s m w2 (by omega) (by omega) (HT.out.fr hf2)).mono ?_
  rintro e w5 ⟨sv, rfl, ho5, hb5⟩
  have hf5 : Fr [] w w5 := hf2.below hb5 hf2.size
  have hstr := ho5.strs
  have hsl := sigS_length s m
  have HSH := Lib.hid (sigS_short s m)
  have HPL := Lib.hid (publicS_length s)
  obtain ⟨i, hi, ei⟩ : ∃ i : Nat, i < 18 ∧ (q : Int) % 18 = (i : Int) := ⟨q % 18, by omega, by omega⟩
  have HC := Lib.hid (changes_coll s m x i hi)
  have HCE := Lib.hid (capN_vends m (sigS s m) (sigS_isD s m) (sigS_length s m))
  obtain ⟨a, cap, rfl, _, ha⟩ := hstr.form
  obtain ⟨b, off, rfl⟩ := ha 0 (by omega)
  have HSTR := Lib.hid hstr
  have hcell := hstr.cell i (by omega)
  rw [hsl] at hstr ⊢
  have HSL := Lib.hid hsl
  clear ho5 hstr ha hb5 hsl hf2
  generalize hS : sigS s m = S at HC HSL HSH HSTR HCE hcell
  generalize hPP : publicS s = P at HC HPL
  generalize hs0 : S.getD i [] = s0 at HC hcell
  by_cases hne : s0 = x
  · have t1 : (s0 == x) = true := by rw [hne]; simp
    go_wp2_with fail
    go_ret
    exact ⟨rfl, hf5.toBelow (by simp)⟩
  · have t1 : (s0 == x) = false := by simpa using hne
    have HC1 := Lib.hid (HC.out hne)
    clear hne HC
    go_wp2_with (at_builtin; go_loud (refine wpList_appM rfl (.tmp 39) (.tmp 40) rfl w5.heap.size (.slice (some ⟨w5.heap.size, 0, none⟩) 0 0) [] S b off 18 cap w5 rfl rfl HSL.out (by have := HSTR.out; rw [HSL.out] at this; exact this.fr0 ((Fr.refl [] w5).alloc _)) (own_empty (Nat.le_refl _)) ((Fr.refl [] w5).alloc _) (Nat.le_refl _) (by simp) (by simp) ?_))
    intro v6 w6 ho6 hf6 _
    obtain ⟨g, gc, cur, rfl, hgb, hgc, hg3, hg4, hg5, hg6⟩ : ∃ g cap cur, v6 = .slice (some ⟨g, 0, none⟩) 18 cap ∧ w5.heap.size ≤ g ∧ w6.heap[g]? = some (.cells cur 9 (0, 0)) ∧ 18 ≤ cap ∧ cap ≤ maxLen ∧ cur.size = cap * 1 ∧ cur.toList.take (18 * 1) = S.map strV := by
      rcases ho6.2 with ⟨_, h0⟩ | ⟨g, cap, cur, hv, h1, h2, h3, h4, h5, h6⟩
      · rw [HSL.out] at h0; cases h0
      · rw [HSL.out] at hv h3 h6; exact ⟨g, cap, cur, hv, h1, h2, h3, h4, h5, h6⟩
    have HO6 : Hid (OwnS w5.heap.size (w6.setCell ⟨g, i, none⟩ (.string ⟨x.toArray⟩)) (.slice (some ⟨g, 0, none⟩) 18 gc) (S.set i x)) := Lib.hid (own_set hgb hgc hg3 hg4 hg5 hg6 x)
    have hcu : w6.cell? ⟨g, i, none⟩ = some (.string ⟨s0.toArray⟩) := by
      have h1 := (show OwnS w5.heap.size w6 (.slice (some ⟨g, 0, none⟩) 18 gc) S from ho6).strs.cellN HSL.out i hi
      rw [Nat.zero_add, hs0] at h1
      exact h1
    have hfz := row_free hgc i
    have hf7 : Fr [] w5 (w6.setCell ⟨g, i, none⟩ (.string ⟨x.toArray⟩)) := hf6.setCell _ _ (Or.inr hgb)
    clear ho6 hgc hg5 hg6
    go_wp2_with fail
    generalize w6.setCell ⟨g, i, none⟩ (.string ⟨x.toArray⟩) = w7 at HO6 hf7
    have hg7 : Fr [] w w7 := hf5.trans hf7 (by simp)
    clear hcu hfz hf6
    refine (public_any s w7 (by omega) (HT.out.fr hg7)).mono ?_
    rintro e w8 ⟨rfl, hb8⟩
    have hf8 : Fr [] w7 w8 := Fr.ofBelow hb8
    rw [hPP]
    have hbl : (S.set i x).length = 18 := by rw [List.length_set]; exact HSL.out
    have hbs : ∀ y ∈ S.set i x, y.length ≤ 1000000 := by
      intro y hy
      rcases List.mem_or_eq_of_mem_set hy with h | rfl
      · exact HSH.out y h
      · omega
    have HBL := Lib.hid hbl
    have HBS := Lib.hid hbs
    have HBI : Hid (verifyS P m (S.set i x) = true → (S.set i x).all isD = true) := Lib.hid (fun h => List.all_eq_true.2 (verifyS_true h).2.1)
    generalize hB : S.set i x = B at HC1 HO6 HBL HBS HBI
    clear hbl hbs hB
    go_wp2_with fail
    refine (verify_any P m _ B w8 (by rw [HPL.out]; decide) (by omega) HBS.out (HO6.out.strs.frN hf8 (by simp)) (HT.out.fr (hg7.trans hf8 (by simp)))).mono ?_
    rintro e w9 ⟨rfl, hb9⟩
    have hf9 : Fr [] w7 w9 := hf8.below hb9 hf8.size
    cases hv : verifyS P m B with
    | false => go_wp2_with fail; go_ret; exact ⟨rfl, (hg7.trans hf9 (by simp)).toBelow (by simp)⟩
    | true => ?_
    have HC2 := Lib.hid (HC1.out hv)
    have HCB := Lib.hid (capN_vends m B (HBI.out hv) HBL.out)
    clear hv HC1 HBI hb8 hb9 hf8
    have hstr9 : Strs w9 (.slice (some ⟨b, off, none⟩) 18 cap) S := by have := HSTR.out; rw [HSL.out] at this; exact this.frN (hf7.trans hf9 (by simp)) (by simp)
    go_wp2_with fail
    refine (ends_any m _ S w9 (by omega) HSL.out HSH.out hstr9).mono ?_
    rintro e w10 ⟨av, rfl, hav, hb10⟩
    have hf10 : Fr [] w9 w10 := Fr.ofBelow hb10
    go_wp2_with fail
    refine (ends_any m _ B w10 (by omega) HBL.out HBS.out (HO6.out.strs.frN (hf9.trans hf10 (by simp)) (by simp))).mono ?_
    rintro e w11 ⟨bv, rfl, hbv, hb11⟩
    have hf11 : Fr [] w10 w11 := Fr.ofBelow hb11
    have HAV := Lib.hid (hav.fr hf11 (by simp)).strs
    have HBV := Lib.hid hbv.strs
    have hc := (hstr9.frN (hf10.trans hf11 (by simp)) (by simp)).cellN HSL.out i hi
    rw [hs0] at hc
    have hg11 : Fr [] w w11 := hg7.trans (hf9.trans (hf10.trans hf11 (by simp)) (by simp)) (by simp)
    clear hav hbv hstr9 hb10 hb11 hf10 hf11 hf9 hg7
    go_wp2_with fail
    have HS0 : Hid (s0.length ≤ 1000000) := Lib.hid (by rw [← hs0]; exact HSH.out _ (getD_mem S i [] (by rw [HSL.out]; exact hi)))
    have HCL : Hid (∀ y ∈ (linksS x 16 ++ linksS s0 16) ++ [joinL (vends m S), joinL (vends m B)], y.length ≤ 9223372036854770000) := Lib.hid (two_small (fun y hy => by
      rcases List.mem_append.1 hy with hy | hy
      · exact links_small x 16 (by omega) y hy
      · exact links_small s0 16 HS0.out y hy) (joinL_small _ HCE.out) (joinL_small _ HCB.out))
    have HLL : Hid (((linksS x 16 ++ linksS s0 16) ++ [joinL (vends m S), joinL (vends m B)]).length ≤ 100000) := Lib.hid (by simp [links_length])
    have hc0 := hc
    have hh0 : Fr [] w11 w11.drew := (Fr.refl [] w11).drew
    have hS0 : w11.drew.cell? ⟨b, off + i, none⟩ = some (.string ⟨s0.toArray⟩) := hh0.cell hc0 (by simp)
    refine region_held 18 (fun W' => W'.cell? ⟨b, off + i, none⟩ = some (.string ⟨s0.toArray⟩)) hmx ?_
    change Held _ _ _ _ _ _ 19 (Array.replicate 19 false) _ _
    refine held_take 0 (v := .bool true) rfl (by kernel_rfl) (by kernel_rfl) (by kernel_rfl) rfl hS0 (fun W' hS => by go_simp) rfl ?_
    simp only [Act.put]
    refine held_take 1 (v := .bool true) rfl (by kernel_rfl) (by kernel_rfl) (by kernel_rfl) rfl hS0 (fun W' hS => by go_simp) rfl ?_
    simp only [Act.put]
    refine held_take_g 2 (v := .string ⟨x.toArray⟩) rfl (by kernel_rfl) (by kernel_rfl) (by kernel_rfl) rfl hS0 (fun W' hS => by go_simp) rfl ?_
    refine held_take_g 4 (v := .slice (some ⟨b, off, none⟩) 18 cap) rfl (by kernel_rfl) (by kernel_rfl) (by kernel_rfl) rfl hS0 (fun W' hS => by go_simp) rfl ?_
    refine held_take_g 5 (v := .int .i64 (i : Int)) rfl (by kernel_rfl) (by kernel_rfl) (by kernel_rfl) rfl hS0 (fun W' hS => by go_simp) rfl ?_
    refine held_take_g 10 (v := av) rfl (by kernel_rfl) (by kernel_rfl) (by kernel_rfl) rfl hS0 (fun W' hS => by go_simp) rfl ?_
    refine held_take_g 12 (v := bv) rfl (by kernel_rfl) (by kernel_rfl) (by kernel_rfl) rfl hS0 (fun W' hS => by go_simp) rfl ?_
    simp only [Act.put]
    refine held_take_g 6 (v := .pointer (some ⟨b, off + i, none⟩)) rfl (by kernel_rfl) (by kernel_rfl) (by kernel_rfl) rfl hS0 (fun W' hS => by first | (go_simp; done) | (go_simp; intro hix; omega)) rfl ?_
    simp only [Act.put]
    refine held_take_g 7 (v := .string ⟨s0.toArray⟩) rfl (by kernel_rfl) (by kernel_rfl) (by kernel_rfl) rfl hS0 (fun W' hS => by have h1 := hS; go_simp) rfl ?_
    simp only [Act.put]
    refine held_one_g 3 (by kernel_rfl) rfl (by kernel_rfl) rfl (fun K' hK => ?_)
    go_simp
    refine (links_any x 16 w11.drew (by omega) (by decide)).mono ?_
    rintro e wq1 ⟨lv, rfl, hol, hb⟩
    have hh1 : Fr [] w11 wq1 := hh0.below hb hh0.size
    clear hb
    have hS1 : wq1.cell? ⟨b, off + i, none⟩ = some (.string ⟨s0.toArray⟩) := hh1.cell hc0 (by simp)
    refine hK.out _ _ (fun _ => hS1) ?_
    clear hK K'
    try simp only [Act.put]
    refine held_one_g 8 (by kernel_rfl) rfl (by kernel_rfl) rfl (fun K' hK => ?_)
    go_simp
    refine (links_any s0 16 wq1 HS0.out (by decide)).mono ?_
    rintro e wq2 ⟨mv, rfl, hom, hb⟩
    have hfm : Fr [] wq1 wq2 := Fr.ofBelow hb
    have HOL := Lib.hid ((hol.fr hfm (by simp)).mono (base' := w11.heap.size) (by simp))
    clear hol hfm
    obtain ⟨lb, lc, rfl⟩ := hom.slice (links_length s0 16) (by decide)
    have HOM := Lib.hid hom.strs
    clear hom
    have hh2 : Fr [] w11 wq2 := hh1.below hb hh1.size
    clear hb
    have hS2 : wq2.cell? ⟨b, off + i, none⟩ = some (.string ⟨s0.toArray⟩) := hh2.cell hc0 (by simp)
    refine hK.out _ _ (fun _ => hS2) ?_
    clear hK K'
    try simp only [Act.put]
    refine held_one_g 9 (by kernel_rfl) rfl (by kernel_rfl) rfl (fun K' hK => ?_)
    refine wp_appM (.tmp 62) (.tmp 67) rfl w11.heap.size lv (linksS x 16) (linksS s0 16) lb 0 17 lc w11 (by kernel_rfl) (by kernel_rfl) (links_length _ _) HOM.out HOL.out hh2 (Nat.le_refl _) hh2.size (by rw [links_length]; decide) ?_
    intro yv wq3 hoy hh3 _
    have HOY := Lib.hid hoy
    clear hoy HOL HOM
    have hS3 : wq3.cell? ⟨b, off + i, none⟩ = some (.string ⟨s0.toArray⟩) := hh3.cell hc0 (by simp)
    refine hK.out _ _ (fun _ => hS3) ?_
    clear hK K'
    try simp only [Act.put]
    refine held_one_g 11 (by kernel_rfl) rfl (by kernel_rfl) rfl (fun K' hK => ?_)
    go_simp
    refine (r3joined_any _ (vends m S) wq3 (HAV.out.fr0 hh3) HCE.out).mono ?_
    rintro e wq4 ⟨rfl, hb⟩
    have hh4 : Fr [] w11 wq4 := hh3.below hb hh3.size
    have hfy4 : Fr [] wq3 wq4 := Fr.ofBelow hb
    clear hb
    have hS4 : wq4.cell? ⟨b, off + i, none⟩ = some (.string ⟨s0.toArray⟩) := hh4.cell hc0 (by simp)
    refine hK.out _ _ (fun _ => hS4) ?_
    clear hK K'
    try simp only [Act.put]
    refine held_one_g 13 (by kernel_rfl) rfl (by kernel_rfl) rfl (fun K' hK => ?_)
    go_simp
    refine (r3joined_any _ (vends m B) wq4 (HBV.out.fr0 hh4) HCB.out).mono ?_
    rintro e wq5 ⟨rfl, hb⟩
    have hfy5 : Fr [] wq3 wq5 := (hfy4.below hb (by have := hfy4.size; omega))
    have hh5 : Fr [] w11 wq5 := hh4.below hb hh4.size
    clear hb
    have hS5 : wq5.cell? ⟨b, off + i, none⟩ = some (.string ⟨s0.toArray⟩) := hh5.cell hc0 (by simp)
    refine hK.out _ _ (fun _ => hS5) ?_
    clear hK K'
    try simp only [Act.put]
    refine held_one_g 14 (by kernel_rfl) rfl (by kernel_rfl) rfl (fun K' hK => ?_)
    go_simp
    have hh6 := hh5.alloc (.cells #[.string ⟨(joinL (vends m S)).toArray⟩, .string ⟨(joinL (vends m B)).toArray⟩] 9)
    have hS6 : (wq5.alloc (.cells #[.string ⟨(joinL (vends m S)).toArray⟩, .string ⟨(joinL (vends m B)).toArray⟩] 9)).cell? ⟨b, off + i, none⟩ = some (.string ⟨s0.toArray⟩) := hh6.cell hc0 (by simp)
    refine hK.out _ _ (fun _ => hS6) ?_
    clear hK K'
    try simp only [Act.put]
    refine held_one_g 15 (by kernel_rfl) rfl (by kernel_rfl) rfl (fun K' hK => ?_)
    have hfy : Fr [] wq3 wq5 := hfy5
    have HOY2 := Lib.hid ((HOY.out.fr hfy (by simp)).fr ((Fr.refl [] wq5).alloc (.cells #[.string ⟨(joinL (vends m S)).toArray⟩, .string ⟨(joinL (vends m B)).toArray⟩] 9)) (by simp))
    clear hfy
    refine wp_appM (.tmp 68) (.tmp 73) rfl w11.heap.size yv (linksS x 16 ++ linksS s0 16) [joinL (vends m S), joinL (vends m B)] wq5.heap.size 0 2 2 w11 (by kernel_rfl) (by kernel_rfl) rfl (strs_two (heap_new rfl)) HOY2.out hh6 (Nat.le_refl _) hh6.size (by rw [List.length_append, links_length, links_length]; decide) ?_
    intro zv wq7 hoz hh7 _
    have HOZ := Lib.hid hoz
    clear hoz HOY HOY2
    have hS7 : wq7.cell? ⟨b, off + i, none⟩ = some (.string ⟨s0.toArray⟩) := hh7.cell hc0 (by simp)
    refine hK.out _ _ (fun _ => hS7) ?_
    clear hK K'
    try simp only [Act.put]
    refine held_one_g 16 (by kernel_rfl) rfl (by kernel_rfl) rfl (fun K' hK => ?_)
    go_simp
    refine (shown_any zv _ wq7 HOZ.out.strs HLL.out HCL.out).mono ?_
    rintro e wq8 ⟨bb, rfl, hbb, hb⟩
    obtain rfl := hbb HC2.out
    have hh8 : Fr [] w11 wq8 := hh7.below hb hh7.size
    clear hb
    have hS8 : wq8.cell? ⟨b, off + i, none⟩ = some (.string ⟨s0.toArray⟩) := hh8.cell hc0 (by simp)
    refine hK.out _ _ (fun _ => hS8) ?_
    clear hK K'
    try simp only [Act.put]
    refine held_take 17 (v := .bool true) rfl (by kernel_rfl) (by kernel_rfl) (by kernel_rfl) rfl hS8 (fun W' hS => by go_simp) rfl ?_
    simp only [Act.put]
    refine held_one 18 (by kernel_rfl) rfl rfl rfl (fun K' hK => ?_)
    go_simp
    refine hK.out _ _ (fun h => absurd rfl h) ?_
    clear hK K'
    refine held_done (by kernel_rfl) ?_
    go_wp2_with fail
    go_ret
    exact ⟨rfl, (hg11.trans hh8 (by simp)).toBelow (by simp)⟩
end Go.Proofs.YthcgcocmgjamnaaDoor
