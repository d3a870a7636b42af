/-
  reveal.Show.
-/
import Derived.Test.YtmhejcndkplepaaDoorRvD
import Derived.Laws.ResultCell
namespace Go.Proofs.YtmhejcndkplepaaDoor
open Go.RowKit

/-- A disclosure. -/
structure Disc where
  count : Int
  which : List Int
  fields : List (List UInt8)
  paths : List (List (List UInt8))
/-- A value reads as a disclosure. -/
def DiscR (w : World) (v : Value) (d : Disc) : Prop := ∃ wv fv pv, v = .agg #[.int .i64 d.count, wv, fv, pv] ∧ Zs w wv d.which ∧ Strs w fv d.fields ∧ SS w pv d.paths
theorem DiscR.fr {w w' : World} {v : Value} {d : Disc} (h : DiscR w v d) (hf : Fr [] w w') : DiscR w' v d :=
  let ⟨a, b, c, h1, h2, h3, h4⟩ := h; ⟨a, b, c, h1, h2.fr0 hf, h3.fr0 hf, h4.fr0 hf⟩
def noDisc : Disc := ⟨0, [], [], []⟩
/-- The path of a field, with its salt. -/
def pathF (fields : List (List UInt8)) (s : List UInt8) (i : Int) : List (List UInt8) := saltS s i.toNat :: pathL ((elemsL fields s).map leafD) i.toNat
/-- What Show answers. -/
def showD (fields : List (List UInt8)) (s : List UInt8) (which : List Int) : Disc :=
  if incB (-1) which fields.length then ⟨fields.length, which, which.map fun i => fields.getD i.toNat [], which.map (pathF fields s)⟩ else noDisc
def showE (fields : List (List UInt8)) (which : List Int) : Int := if incB (-1) which fields.length then 0 else 1
theorem incB_in {last : Int} {l : List Int} {n : Int} (h : incB last l n = true) (h0 : -1 ≤ last) : ∀ z ∈ l, 0 ≤ z ∧ z < n := by
  induction l generalizing last with
  | nil => intro z hz; cases hz
  | cons x t ih =>
    simp only [incB, Bool.and_eq_true, decide_eq_true_eq] at h
    intro z hz
    rcases List.mem_cons.1 hz with rfl | hz
    · omega
    · exact ih h.2 (by omega) z hz
theorem incB_len {last : Int} {l : List Int} {n : Int} (h : incB last l n = true) : (l.length : Int) ≤ max 0 (n - 1 - last) := by
  induction l generalizing last with
  | nil => simp; omega
  | cons x t ih =>
    simp only [incB, Bool.and_eq_true, decide_eq_true_eq] at h
    have := ih h.2
    simp only [List.length_cons]
    omega

theorem dInfo : (Tryd.prog.info? 26).map (·.size) = some 4 := by kernel_rfl
theorem run_loadD {w : World} {g : Nat} {t : TypeId} {a b c d : Value} {fr : Nat × Nat} (hg : w.heap[g]? = some (.cells #[a, b, c, d] t fr)) : (loadVar 26 ⟨g, 0, none⟩).run Tryd.prog w = .ok (.agg #[a, b, c, d]) w :=
  run_loadVar_row w g t 26 #[a, b, c, d] fr _ hg Tryd.underlying26 rfl dInfo

theorem Strs.blk {w : World} {v : Value} {l : List (List UInt8)} (h : Strs w v l) : ∀ b, v.ownBlock = some b → b < w.heap.size := by
  intro b hb
  rcases h with ⟨rfl, _⟩ | ⟨g, off, cap, rfl, _, _, hg, _⟩
  · simp [Value.ownBlock] at hb
  · obtain rfl : g = b := by simpa [Value.ownBlock] using hb
    exact hg
theorem Zs.blk {w : World} {v : Value} {l : List Int} (h : Zs w v l) : ∀ b, v.ownBlock = some b → b < w.heap.size := by
  intro b hb
  rcases h with ⟨rfl, _⟩ | ⟨g, off, cap, rfl, _, _, hg, _⟩
  · simp [Value.ownBlock] at hb
  · obtain rfl : g = b := by simpa [Value.ownBlock] using hb
    exact hg
/-- The loop of Show: k fields are shown. -/
structure ShInv (W3 wr : World) (db base n : Nat) (cs : Value) (fields : List (List UInt8)) (s : List UInt8) (which : List Int) (k : Nat) (fv pv : Value) (us : List Value) : Prop where
  blk : wr.heap[db]? = some (.cells #[.int .i64 (n : Int), cs, fv, pv] 26 (0, 0))
  f : OwnS base wr fv ((which.take k).map fun i => fields.getD i.toNat [])
  p : OwnV base wr pv us
  len : us.length = k
  r : ∀ j, j < k → Strs wr (us.getD j (.slice none 0 0)) (pathF fields s (which.getD j 0)) ∧ Apart (us.getD j (.slice none 0 0)) fv ∧ Apart (us.getD j (.slice none 0 0)) pv ∧ (∀ b, (us.getD j (.slice none 0 0)).ownBlock = some b → base ≤ b)
  ap : Apart fv pv
  fr : Fr [db] W3 wr
theorem pathF_nat (fields : List (List UInt8)) (s : List UInt8) (k : Nat) : pathF fields s (k : Int) = saltS s k :: pathL ((elemsL fields s).map leafD) k := rfl

set_option maxRecDepth 100000 in
set_option maxHeartbeats 4000000 in
theorem show_any (v wv : Value) (fields : List (List UInt8)) (s : List UInt8) (which : List Int) (w : World) (hv : Strs w v fields) (hw : Zs w wv which) (hn : fields.length ≤ 50000) (hsl : s.length ≤ 1000000) (hfs : ∀ f ∈ fields, f.length ≤ 100000) (hT : Tabs w) :
    Calls Tryd.prog 19 #[v, .string ⟨s.toArray⟩, wv] w fun e w' => ∃ dv, e = .returned (.tuple #[dv, .int .i64 (showE fields which)]) ∧ DiscR w' dv (showD fields s which) ∧ Below w.heap.size w w' := by
  obtain ⟨fa, fcap, rfl, hfl, hfa⟩ := hv.form
  obtain ⟨wa, wcap, rfl, hwl, hwc, hwa⟩ := hw.form
  have HV := Lib.hid hv
  have HW := Lib.hid hw
  have HT := Lib.hid hT
  have HFS := Lib.hid hfs
  clear hv hw hT hfs
  have hmx : Tryd.prog.follows .mixedOrders = true := by kernel_rfl
  go_enter Tryd.func19, Tryd.ntmps19
  go_wp2_with fail
  refine (increasing_any _ which (fields.length : Int) _ (HW.out.fr0 ((Fr.refl [] w).alloc _))).mono ?_
  rintro e w1 ⟨rfl, rfl⟩
  cases hinc : incB (-1) which (fields.length : Int) with
  | false =>
    have HS : Hid (showD fields s which = noDisc) := Lib.hid (by unfold showD; rw [hinc]; rfl)
    have HE : Hid (showE fields which = 1) := Lib.hid (by unfold showE; rw [hinc]; rfl)
    clear hinc
    go_wp2_with fail
    refine bodyPost_ret (v := .tuple #[.agg #[.int .i64 0, .slice none 0 0, .slice none 0 0, .slice none 0 0], .int .i64 1]) ?_ rfl ?_
    · rw [results_cell_tmp rfl]
      simp [asAddr, run_loadD (heap_new (w := w) (o := .cells #[.int .i64 0, .slice none 0 0, .slice none 0 0, .slice none 0 0] 26) rfl), Result.andThen]
    · exact ⟨_, by rw [HE.out], by rw [HS.out]; exact ⟨_, _, _, rfl, Or.inl ⟨rfl, rfl⟩, Or.inl ⟨rfl, rfl⟩, Or.inl ⟨rfl, rfl⟩⟩, ((Fr.refl [] w).alloc _).toBelow (by simp)⟩
  | true =>
    have HIN := Lib.hid (incB_in hinc (by decide))
    have hwl9 : which.length ≤ 50000 := by have := incB_len hinc; omega
    have HS : Hid (showD fields s which = ⟨fields.length, which, which.map fun i => fields.getD i.toNat [], which.map (pathF fields s)⟩) := Lib.hid (by unfold showD; rw [hinc]; rfl)
    have HE : Hid (showE fields which = 0) := Lib.hid (by unfold showE; rw [hinc]; rfl)
    clear hinc
    have hr0 : (w.alloc (.cells #[.int .i64 0, .slice none 0 0, .slice none 0 0, .slice none 0 0] 26)).heap[w.heap.size]? = some (.cells #[.int .i64 0, .slice none 0 0, .slice none 0 0, .slice none 0 0] 26 (0, 0)) := heap_new rfl
    have hf0 : Fr [] w (w.alloc (.cells #[.int .i64 0, .slice none 0 0, .slice none 0 0, .slice none 0 0] 26)) := (Fr.refl [] w).alloc _
    go_wp2_with fail
    generalize w.alloc (.cells #[.int .i64 0, .slice none 0 0, .slice none 0 0, .slice none 0 0] 26) = w0 at hr0 hf0 ⊢
    obtain ⟨rb, erb⟩ : ∃ rb, rb = w.heap.size := ⟨_, rfl⟩
    rw [← erb] at hr0 ⊢
    have ERB := Lib.hid erb
    have HR0 := Lib.hid hr0
    clear erb hr0
    refine (spread_any _ fields s w0 (HV.out.fr0 hf0) (by omega) hsl (fun f hf => Nat.le_trans (HFS.out f hf) (by decide)) (HT.out.fr hf0)).mono ?_
    rintro e w1 ⟨v1, v2, rfl, o1, o2, hb1⟩
    have hf1 : Fr [] w0 w1 := Fr.ofBelow hb1
    have O1 := Lib.hid o1.strs
    have O2 := Lib.hid o2.strs
    clear o1 o2 hb1
    go_wp2_with fail
    refine (clone_any _ which w1 (HW.out.fr0 (hf0.trans hf1 (by simp))) (by omega)).mono ?_
    rintro e w2 ⟨cv, rfl, oc, hb2⟩
    have hf2 : Fr [] w0 w2 := hf1.below hb2 hf1.size
    obtain ⟨ca, ccap, rfl, _, _, _⟩ := oc.zs.form
    have OC := Lib.hid oc.zs
    have BCR : Hid (∀ b, (Value.slice ca which.length ccap).ownBlock = some b → b ≠ rb) := Lib.hid (fun b hb => by
      have h1 := (ownBlock_cells oc b hb).1
      have h2 := lt_of_block HR0.out
      have h3 := hf1.size
      omega)
    have O12 := Lib.hid (O1.out.fr0 (Fr.ofBelow hb2))
    have O22 := Lib.hid (O2.out.fr0 (Fr.ofBelow hb2))
    clear oc hb2 O1 O2 hf1
    go_wp2_with fail
    obtain ⟨db, edb⟩ : ∃ db, db = w2.heap.size := ⟨_, rfl⟩
    obtain ⟨W3, eW3⟩ : ∃ W3, W3 = w2.alloc (.cells #[.int .i64 (fields.length : Int), .slice ca which.length ccap, .slice none 0 0, .slice none 0 0] 26) := ⟨_, rfl⟩
    have hblk : W3.heap[db]? = some (.cells #[.int .i64 (fields.length : Int), .slice ca which.length ccap, .slice none 0 0, .slice none 0 0] 26 (0, 0)) := by rw [eW3, edb]; exact heap_new rfl
    have hf23 : Fr [] w2 W3 := by rw [eW3]; exact (Fr.refl [] w2).alloc _
    have hsz3 : W3.heap.size = db + 1 := by rw [eW3, edb]; simp
    rw [← edb, ← eW3]
    have hrb : rb < db := by have := (lt_of_block HR0.out); have := hf2.size; omega
    have hwdb : w.heap.size ≤ db := by have := hf0.size; have := hf2.size; omega
    have V1 := Lib.hid (O12.out.fr0 hf23)
    have V2 := Lib.hid (O22.out.fr0 hf23)
    have VF := Lib.hid ((HV.out.fr0 (hf0.trans hf2 (by simp))).fr0 hf23)
    have VW := Lib.hid ((HW.out.fr0 (hf0.trans hf2 (by simp))).fr0 hf23)
    have T3 := Lib.hid (HT.out.fr ((hf0.trans hf2 (by simp)).trans hf23 (by simp)))
    have B1 : Hid (∀ b, v1.ownBlock = some b → b ≠ db) := Lib.hid (fun b hb => by have := O12.out.blk b hb; omega)
    have B2 : Hid (∀ b, v2.ownBlock = some b → b ≠ db) := Lib.hid (fun b hb => by have := O22.out.blk b hb; omega)
    have BF : Hid (∀ b, (Value.slice fa fields.length fcap).ownBlock = some b → b ≠ db) := Lib.hid (fun b hb => by have := HV.out.blk b hb; omega)
    have BW : Hid (∀ b, (Value.slice wa which.length wcap).ownBlock = some b → b ≠ db) := Lib.hid (fun b hb => by have := HW.out.blk b hb; omega)
    have BC : Hid (∀ b, (Value.slice ca which.length ccap).ownBlock = some b → b ≠ db) := Lib.hid (fun b hb => by have := OC.out.blk b hb; omega)
    have OC3 := Lib.hid (OC.out.fr0 hf23)
    have FW := Lib.hid ((hf0.trans hf2 (by simp)).trans hf23 (by simp))
    have HR3 := Lib.hid ((hf2.trans hf23 (by simp)).at HR0.out (by simp))
    have htl := tabs_lt HT.out
    have EDB := Lib.hid edb
    have hvs : (List.range fields.length).length = fields.length := by simp
    obtain ⟨va1, vc1, hva1, _, hvf1⟩ := V1.out.form
    rw [List.length_map, List.length_range] at hva1 hvf1
    subst hva1
    have HI0 : Hid (ShInv W3 W3 db W3.heap.size fields.length (.slice ca which.length ccap) fields s which 0 (.slice none 0 0) (.slice none 0 0) []) := Lib.hid ⟨hblk, ⟨rfl, Or.inl ⟨rfl, rfl⟩⟩, OwnV.nil, rfl, fun j hj => absurd hj (Nat.not_lt_zero _), .nil, .refl _ _⟩
    clear eW3 edb hblk hf23 hf0 hf2 O12 O22 OC hvs HR0
    go_loopg [34] (which.length + 1) (fun g iv wr => ∃ (k : Nat) (fv pv : Value) (us : List Value), k ≤ which.length ∧ g = which.length + 1 - k ∧ iv = .int .i64 (k : Int) ∧ ShInv W3 wr db W3.heap.size fields.length (.slice ca which.length ccap) fields s which k fv pv us)
    case atStart => exact ⟨0, _, _, _, by omega, by omega, rfl, HI0.out⟩
    case round =>
      clear HI0
      obtain ⟨k, fv, pv, us, hk, hg, rfl, hinv⟩ := hrel
      have HG := Lib.hid hg
      have HI := Lib.hid hinv
      have HBL := Lib.hid hinv.blk
      have hfr := hinv.fr
      clear hg hinv
      by_cases hlt : k < which.length
      · have t1 : decide ((k : Int) < (which.length : Int)) = true := by simp; omega
        obtain ⟨wb, woff, rfl⟩ := hwa k hlt
        have cw := hfr.cell (VW.out.cell k hlt) (by simpa using BW.out wb rfl)
        have hz := HIN.out _ (getD_mem which k 0 hlt)
        obtain ⟨zn, ezn⟩ : ∃ zn : Nat, which.getD k 0 = (zn : Int) := ⟨(which.getD k 0).toNat, by omega⟩
        rw [ezn] at cw hz
        have hzl : zn < fields.length := by omega
        have HTK : Hid ((which.take (k + 1)).map (fun i => fields.getD i.toNat []) = (which.take k).map (fun i => fields.getD i.toNat []) ++ [fields.getD zn []]) := Lib.hid (by rw [take_snoc' which k 0 hlt, List.map_append, ezn]; rfl)
        have EZN := Lib.hid ezn
        have g0 : (0 : Int) ≤ (k : Int) := by omega
        have g1 : (k : Int) < (which.length : Int) := by omega
        clear ezn
        go_wp2_with fail
        refine (path_any v2 (elemsL fields s) (zn : Int) wr (V2.out.fr hfr (fun b hb hm => B2.out b hb (by simpa using hm))) (by rw [elemsL_length]; omega) (elemsL_short HFS.out) (T3.out.frX hfr HT.out (B := db) hwdb (by simp))).mono ?_
        rintro e w5 ⟨pt, ep, rfl, _, hpt, hb5⟩
        obtain ⟨rfl, hop⟩ := hpt zn rfl (by rw [elemsL_length]; exact hzl)
        have hf5 : Fr [] wr w5 := Fr.ofBelow hb5
        have OP := Lib.hid hop
        have hfr5 : Fr [db] W3 w5 := hfr.trans hf5 (by simp)
        have hb5' := hf5.at HBL.out (by simp)
        have HB5 := Lib.hid hb5'
        obtain ⟨fb, fo, rfl⟩ := hfa zn hzl
        have cfl := hfr5.cell (VF.out.cell zn hzl) (by simpa using BF.out fb rfl)
        have cdf : w5.cell? ⟨db, 2, none⟩ = some fv := by rw [row_cell hb5' 2]; rfl
        have hfdb : fb ≠ db := BF.out fb rfl
        have i0 : (0 : Int) ≤ (zn : Int) := by omega
        have i1 : (zn : Int) < (fields.length : Int) := by omega
        have HFV := Lib.hid (HI.out.f.fr hf5 (by simp))
        have HPV := Lib.hid (HI.out.p.fr hf5 (by simp))
        have hfvdb : ∀ b, fv.ownBlock = some b → W3.heap.size ≤ b := fun b hb => (ownBlock_cells HFV.out b hb).1
        have hpvdb : ∀ b, pv.ownBlock = some b → W3.heap.size ≤ b := fun b hb => (ownBlock_cells HPV.out b hb).1
        have hlf : ((which.take k).map fun i => fields.getD i.toNat []).length = k := by simp; omega
        have HF5 := Lib.hid hf5
        clear hb5 hb5' hop hpt hf5 cw
        generalize fields.getD zn [] = fz at cfl HTK
        go_wp2_with fail
        have hS0 : w5.drew.cell? ⟨db, 2, none⟩ = some fv ∧ w5.drew.cell? ⟨fb, fo + zn, none⟩ = some (.string ⟨fz.toArray⟩) := ⟨cdf, cfl⟩
        refine region_held 9 (fun W' => W'.cell? ⟨db, 2, none⟩ = some fv ∧ W'.cell? ⟨fb, fo + zn, none⟩ = some (.string ⟨fz.toArray⟩)) hmx ?_
        change Held _ _ _ _ _ _ 10 (Array.replicate 10 false) _ _
        refine hd_take 0 (v := .pointer (some ⟨db, 2, none⟩)) rfl (by kernel_rfl) (by kernel_rfl) (by kernel_rfl) rfl hS0 (fun W' hS => by obtain ⟨h0, h1⟩ := hS; first | (go_simp; done) | (go_simp; intro hix; omega)) rfl ?_
        refine hd_take 2 (v := .slice (some ⟨fb, fo, none⟩) fields.length fcap) rfl (by kernel_rfl) (by kernel_rfl) (by kernel_rfl) rfl hS0 (fun W' hS => by obtain ⟨h0, h1⟩ := hS; first | (go_simp; done) | (go_simp; intro hix; omega)) rfl ?_
        refine hd_take 3 (v := .int .i64 (zn : Int)) rfl (by kernel_rfl) (by kernel_rfl) (by kernel_rfl) rfl hS0 (fun W' hS => by obtain ⟨h0, h1⟩ := hS; first | (go_simp; done) | (go_simp; intro hix; omega)) rfl ?_
        simp only [Act.put, List.setIfInBounds_toArray, List.set_cons_zero, List.set_cons_succ]
        refine hd_take 1 (v := fv) rfl (by kernel_rfl) (by kernel_rfl) (by kernel_rfl) rfl hS0 (fun W' hS => by obtain ⟨h0, h1⟩ := hS; first | (go_simp; done) | (go_simp; intro hix; omega)) rfl ?_
        refine hd_take 4 (v := .pointer (some ⟨fb, fo + zn, none⟩)) rfl (by kernel_rfl) (by kernel_rfl) (by kernel_rfl) rfl hS0 (fun W' hS => by obtain ⟨h0, h1⟩ := hS; first | (go_simp; done) | (go_simp; intro hix; omega)) rfl ?_
        simp only [Act.put, List.setIfInBounds_toArray, List.set_cons_zero, List.set_cons_succ]
        refine hd_take 5 (v := .string ⟨fz.toArray⟩) rfl (by kernel_rfl) (by kernel_rfl) (by kernel_rfl) rfl hS0 (fun W' hS => by obtain ⟨h0, h1⟩ := hS; first | (go_simp; done) | (go_simp; intro hix; omega)) rfl ?_
        simp only [Act.put, List.setIfInBounds_toArray, List.set_cons_zero, List.set_cons_succ]
        have y0 : Fr [] w5 w5.drew := (Fr.refl [] w5).drew
        generalize w5.drew = w6 at y0 hS0 ⊢
        refine hd_one 6 (by kernel_rfl) rfl (by kernel_rfl) rfl (fun K' hK => ?_)
        go_simp
        obtain ⟨pb, epb⟩ : ∃ pb, pb = w6.heap.size := ⟨_, rfl⟩
        obtain ⟨w7, ew7⟩ : ∃ w7, w7 = w6.alloc (.cells #[.string ⟨fz.toArray⟩] 9) := ⟨_, rfl⟩
        have y1 : Fr [] w5 w7 := by rw [ew7]; exact y0.alloc _
        have q1 : Strs w7 (.slice (some ⟨pb, 0, none⟩) 1 1) [fz] := by rw [ew7, epb]; exact strs_one (heap_new rfl)
        rw [← ew7, ← epb]
        refine hK.out _ _ (fun _ => ⟨y1.cell cdf (by simp), y1.cell cfl (by simp)⟩) ?_
        clear hK K' ew7 epb
        refine hd_one 7 (by kernel_rfl) rfl (by kernel_rfl) rfl (fun K' hK => ?_)
        have z1 : W3.heap.size ≤ w7.heap.size := Nat.le_trans hfr5.size y1.size
        have hfv7 := HFV.out.fr y1 (by simp)
        have hw7 : Fr [] w w7 := (FW.out.trans hfr5 (fun y hy => Or.inr (by simp at hy; omega))).trans y1 (by simp)
        refine wp_appMa (.tmp 45) (.tmp 50) (by rfl) W3.heap.size fv _ [fz] pb 0 1 1 w (by rfl) (by rfl) (by simp) ?_ ?_ hw7 (by omega) z1 (by rw [hlf]; omega) ?_
        · exact q1
        · exact hfv7
        intro nv w8 ho8 _ hg8 hat8
        obtain ⟨gn, cn, rfl⟩ := ho8.slice (n := k + 1) (by rw [List.length_append, hlf]; rfl) (by omega)
        have hndb : ∀ b, b < W3.heap.size → b ∉ fv.ownBlock.toList := fun b hb hm => by have := hfvdb b (by simpa using hm); omega
        have blk8 := hg8.at (y1.at HB5.out (by simp)) (hndb db (by omega))
        have hfbl : fb < W3.heap.size := VF.out.blk fb rfl
        refine hK.out _ _ (fun _ => ⟨by rw [row_cell blk8 2]; rfl, hg8.cell (y1.cell cfl (by simp)) (hndb fb hfbl)⟩) ?_
        clear hK K'
        simp only [Act.put, List.setIfInBounds_toArray, List.set_cons_zero, List.set_cons_succ]
        have e1 : w8.cell? ⟨db, 2, none⟩ = some fv := by rw [row_cell blk8 2]; rfl
        have e2 := row_free blk8 2
        refine hd_one 8 (by kernel_rfl) rfl (by kernel_rfl) rfl (fun K' hK => ?_)
        go_simp
        refine hK.out _ _ (fun _ => ⟨e1, hg8.cell (y1.cell cfl (by simp)) (hndb fb hfbl)⟩) ?_
        clear hK K'
        refine hd_one 9 (by kernel_rfl) rfl (by kernel_rfl) rfl (fun K' hK => ?_)
        go_simp
        refine hK.out _ _ (fun h => absurd rfl h) ?_
        clear hK K'
        refine held_done (by kernel_rfl) ?_
        have BLK9 : Hid ((w8.setCell ⟨db, 2, none⟩ (.slice (some ⟨gn, 0, none⟩) (k + 1) cn)).heap[db]? = some (.cells #[.int .i64 (fields.length : Int), .slice ca which.length ccap, .slice (some ⟨gn, 0, none⟩) (k + 1) cn, pv] 26 (0, 0))) := Lib.hid (row_set blk8 2 _)
        have x59 : Fr (db :: fv.ownBlock.toList) w5 (w8.setCell ⟨db, 2, none⟩ (.slice (some ⟨gn, 0, none⟩) (k + 1) cn)) := ((y1.mono (by simp)).trans hg8 (fun y hy => Or.inl (List.mem_cons_of_mem _ hy))).setCell _ _ (by simp)
        have x89 : Fr [db] w8 (w8.setCell ⟨db, 2, none⟩ (.slice (some ⟨gn, 0, none⟩) (k + 1) cn)) := (Fr.refl _ _).setCell _ _ (by simp)
        have F9 : Hid (OwnS W3.heap.size (w8.setCell ⟨db, 2, none⟩ (.slice (some ⟨gn, 0, none⟩) (k + 1) cn)) (.slice (some ⟨gn, 0, none⟩) (k + 1) cn) ((which.take (k + 1)).map fun i => fields.getD i.toNat [])) := Lib.hid (by
          rw [HTK.out]
          exact ho8.fr x89 (fun b hb hm => by have := (ownBlock_cells ho8 b hb).1; simp at hm; omega))
        have X59 := Lib.hid x59
        have hgn : gn < w8.heap.size := (let ⟨_, _, h, _⟩ := ho8.formG (n := k + 1) (by rw [List.length_append, hlf]; rfl); lt_of_block h)
        have HGN : Hid (∀ b, b < w5.heap.size → fv.ownBlock ≠ some b → gn ≠ b) := Lib.hid (fun b hb hne e => by
          subst e
          rcases hat8 with e | e
          · exact hne (by rw [← e]; rfl)
          · have : gn = w7.heap.size := by simpa [Value.ownBlock] using e
            have := y1.size; omega)
        have hz9 : w8.heap.size = (w8.setCell ⟨db, 2, none⟩ (.slice (some ⟨gn, 0, none⟩) (k + 1) cn)).heap.size := by simp [World.setCell]
        have hgn9 : gn < (w8.setCell ⟨db, 2, none⟩ (.slice (some ⟨gn, 0, none⟩) (k + 1) cn)).heap.size := by rw [← hz9]; exact hgn
        generalize w8.setCell ⟨db, 2, none⟩ (.slice (some ⟨gn, 0, none⟩) (k + 1) cn) = w9 at BLK9 F9 X59 hgn9 ⊢
        clear blk8 e1 e2 x59 x89 ho8 hg8 hat8 hw7 hfv7 q1 y1 y0 hS0 cfl cdf hz9 hgn z1 hndb
        have x59 := X59.out
        have hfr9 : Fr [db] W3 w9 := hfr5.trans x59 (fun y hy => by
          rcases List.mem_cons.1 hy with rfl | hy
          · exact Or.inl (by simp)
          · exact Or.inr (hfvdb y (by simpa using hy)))
        have hpfv : ∀ b, pv.ownBlock = some b → b ∉ db :: fv.ownBlock.toList := fun b hb hm => by
          rcases List.mem_cons.1 hm with rfl | hm
          · have := hpvdb b hb; omega
          · exact HI.out.ap b (by simpa using hm) hb
        have P9 := Lib.hid (HPV.out.fr x59 hpfv)
        have hptb : ∀ b, pt.ownBlock = some b → b ∉ db :: fv.ownBlock.toList := fun b hb hm => by
          have h1 := (ownBlock_cells OP.out b hb).1
          rcases List.mem_cons.1 hm with rfl | hm
          · have := lt_of_block HBL.out; omega
          · have := HI.out.f.lt b (by simpa using hm); omega
        have PT9 := Lib.hid (OP.out.strs.fr x59 hptb)
        have cpv : w9.cell? ⟨db, 3, none⟩ = some pv := by rw [row_cell BLK9.out 3]; rfl
        obtain ⟨sb, so, rfl⟩ := hvf1 zn hzl
        have hsb : sb ≠ db := B1.out sb rfl
        have csl := hfr9.cell (V1.out.cellN (by simp) zn hzl) (by simpa using hsb)
        rw [show ((List.range fields.length).map (saltS s)).getD zn [] = saltS s zn by simp [List.getD_eq_getElem?_getD, hzl]] at csl
        have HPF : Hid (pathF fields s (zn : Int) = saltS s zn :: pathL ((elemsL fields s).map leafD) zn) := Lib.hid rfl
        have hpll : (pathL ((elemsL fields s).map leafD) zn).length ≤ 100000 := by rw [pathL_length]; have := plen_le ((elemsL fields s).map leafD).length zn; rw [List.length_map, elemsL_length] at this; rw [List.length_map, elemsL_length]; omega
        have hsbl : sb < W3.heap.size := V1.out.blk sb rfl
        generalize saltS s zn = sz at csl HPF
        generalize pathL ((elemsL fields s).map leafD) zn = pl at PT9 HPF hpll OP
        clear x59 hpfv hptb
        go_wp2_with fail
        have hS0 : w9.drew.cell? ⟨db, 3, none⟩ = some pv ∧ w9.drew.cell? ⟨sb, so + zn, none⟩ = some (.string ⟨sz.toArray⟩) := ⟨cpv, csl⟩
        refine region_held 12 (fun W' => W'.cell? ⟨db, 3, none⟩ = some pv ∧ W'.cell? ⟨sb, so + zn, none⟩ = some (.string ⟨sz.toArray⟩)) hmx ?_
        change Held _ _ _ _ _ _ 13 (Array.replicate 13 false) _ _
        refine hd_take 0 (v := .pointer (some ⟨db, 3, none⟩)) rfl (by kernel_rfl) (by kernel_rfl) (by kernel_rfl) rfl hS0 (fun W' hS => by obtain ⟨h0, h1⟩ := hS; first | (go_simp; done) | (go_simp; intro hix; omega)) rfl ?_
        refine hd_take 2 (v := .slice (some ⟨sb, so, none⟩) fields.length vc1) rfl (by kernel_rfl) (by kernel_rfl) (by kernel_rfl) rfl hS0 (fun W' hS => by obtain ⟨h0, h1⟩ := hS; first | (go_simp; done) | (go_simp; intro hix; omega)) rfl ?_
        refine hd_take 3 (v := .int .i64 (zn : Int)) rfl (by kernel_rfl) (by kernel_rfl) (by kernel_rfl) rfl hS0 (fun W' hS => by obtain ⟨h0, h1⟩ := hS; first | (go_simp; done) | (go_simp; intro hix; omega)) rfl ?_
        refine hd_take 7 (v := pt) rfl (by kernel_rfl) (by kernel_rfl) (by kernel_rfl) rfl hS0 (fun W' hS => by obtain ⟨h0, h1⟩ := hS; first | (go_simp; done) | (go_simp; intro hix; omega)) rfl ?_
        simp only [Act.put, List.setIfInBounds_toArray, List.set_cons_zero, List.set_cons_succ]
        refine hd_take 1 (v := pv) rfl (by kernel_rfl) (by kernel_rfl) (by kernel_rfl) rfl hS0 (fun W' hS => by obtain ⟨h0, h1⟩ := hS; first | (go_simp; done) | (go_simp; intro hix; omega)) rfl ?_
        refine hd_take 4 (v := .pointer (some ⟨sb, so + zn, none⟩)) rfl (by kernel_rfl) (by kernel_rfl) (by kernel_rfl) rfl hS0 (fun W' hS => by obtain ⟨h0, h1⟩ := hS; first | (go_simp; done) | (go_simp; intro hix; omega)) rfl ?_
        simp only [Act.put, List.setIfInBounds_toArray, List.set_cons_zero, List.set_cons_succ]
        refine hd_take 5 (v := .string ⟨sz.toArray⟩) rfl (by kernel_rfl) (by kernel_rfl) (by kernel_rfl) rfl hS0 (fun W' hS => by obtain ⟨h0, h1⟩ := hS; first | (go_simp; done) | (go_simp; intro hix; omega)) rfl ?_
        simp only [Act.put, List.setIfInBounds_toArray, List.set_cons_zero, List.set_cons_succ]
        have y0 : Fr [] w9 w9.drew := (Fr.refl [] w9).drew
        generalize w9.drew = w10 at y0 hS0 ⊢
        refine hd_one 6 (by kernel_rfl) rfl (by kernel_rfl) rfl (fun K' hK => ?_)
        go_simp
        obtain ⟨p2, ep2⟩ : ∃ p2, p2 = w10.heap.size := ⟨_, rfl⟩
        obtain ⟨w11, ew11⟩ : ∃ w11, w11 = w10.alloc (.cells #[.string ⟨sz.toArray⟩] 9) := ⟨_, rfl⟩
        have y1 : Fr [] w9 w11 := by rw [ew11]; exact y0.alloc _
        have z1 : W3.heap.size ≤ w11.heap.size := Nat.le_trans hfr9.size y1.size
        have own1 : OwnS W3.heap.size w11 (.slice (some ⟨p2, 0, none⟩) 1 1) [sz] := by rw [ew11, ep2]; exact OwnS.one (Nat.le_trans hfr9.size y0.size)
        have hp2 : w9.heap.size ≤ p2 := by rw [ep2]; exact y0.size
        have hp2' : p2 < w11.heap.size := by rw [ew11, ep2]; simp
        rw [← ew11, ← ep2]
        refine hK.out _ _ (fun _ => ⟨y1.cell cpv (by simp), y1.cell csl (by simp)⟩) ?_
        clear hK K' ew11 ep2
        refine hd_one 8 (by kernel_rfl) rfl (by kernel_rfl) rfl (fun K' hK => ?_)
        have hw11 : Fr [] w w11 := (FW.out.trans hfr9 (fun y hy => Or.inr (by simp at hy; omega))).trans y1 (by simp)
        refine wp_appW (.tmp 59) (.tmp 60) (by rfl) W3.heap.size (.slice (some ⟨p2, 0, none⟩) 1 1) pt [sz] pl w (by rfl) (by rfl) ?_ ?_ hw11 (by omega) z1 (by simp; omega) ?_
        · exact PT9.out.fr0 y1
        · exact own1
        intro u w12 ho12 hw12 hg12 hat12
        obtain ⟨gu, cu, rfl⟩ := ho12.slice (n := pl.length + 1) (by simp) (by omega)
        have hp2n : ∀ b, b < w9.heap.size → b ∉ (Value.slice (some ⟨p2, 0, none⟩) 1 1).ownBlock.toList := fun b hb hm => by
          have : b = p2 := by simpa [Value.ownBlock] using hm
          omega
        have y2 : Fr [] w9 w12 := ⟨hg12.os.trans y1.os, hg12.tape.trans y1.tape, hg12.output.trans y1.output, Nat.le_trans y1.size hg12.size, fun b hb _ => (hg12.block b (Nat.lt_of_lt_of_le hb y1.size) (hp2n b hb)).trans (y1.block b hb (by simp))⟩
        have hgu : w9.heap.size ≤ gu ∧ gu < w12.heap.size := by
          refine ⟨?_, (let ⟨_, _, h, _⟩ := ho12.formG (n := pl.length + 1) (by simp); lt_of_block h)⟩
          rcases hat12 with e | e
          · have : gu = p2 := by simpa [Value.ownBlock] using e
            omega
          · have : gu = w11.heap.size := by simpa [Value.ownBlock] using e
            have := y1.size; omega
        refine hK.out _ _ (fun _ => ⟨y2.cell cpv (by simp), y2.cell csl (by simp)⟩) ?_
        clear hK K'
        simp only [Act.put, List.setIfInBounds_toArray, List.set_cons_zero, List.set_cons_succ]
        refine hd_one 9 (by kernel_rfl) rfl (by kernel_rfl) rfl (fun K' hK => ?_)
        go_simp
        obtain ⟨p3, ep3⟩ : ∃ p3, p3 = w12.heap.size := ⟨_, rfl⟩
        obtain ⟨w13, ew13⟩ : ∃ w13, w13 = w12.alloc (.cells #[.slice (some ⟨gu, 0, none⟩) (pl.length + 1) cu] 22) := ⟨_, rfl⟩
        have y23 : Fr [] w12 w13 := by rw [ew13]; exact (Fr.refl [] w12).alloc _
        have y3 : Fr [] w9 w13 := y2.trans y23 (by simp)
        have hc13 : w13.cell? ⟨p3, 0, none⟩ = some (.slice (some ⟨gu, 0, none⟩) (pl.length + 1) cu) := by rw [ew13, ep3]; exact cell_of_one (heap_new rfl)
        rw [← ew13, ← ep3]
        refine hK.out _ _ (fun _ => ⟨y3.cell cpv (by simp), y3.cell csl (by simp)⟩) ?_
        clear hK K' ew13 ep3
        refine hd_one 10 (by kernel_rfl) rfl (by kernel_rfl) rfl (fun K' hK => ?_)
        have hw13 : Fr [] w w13 := (FW.out.trans hfr9 (fun y hy => Or.inr (by simp at hy; omega))).trans y3 (by simp)
        refine wp_appV (.tmp 54) (.tmp 62) (by rfl) W3.heap.size pv (.slice (some ⟨gu, 0, none⟩) (pl.length + 1) cu) us p3 0 1 w (by rfl) (by rfl) hc13 (by rfl) ?_ hw13 (by omega) (Nat.le_trans hfr9.size y3.size) (by have := HI.out.len; omega) ?_
        · exact P9.out.fr y3 (by simp)
        rintro nu w14 ho14 _ hg14 hat14 ⟨g4, c4, rfl⟩
        have hpdb : ∀ b, b < W3.heap.size → b ∉ pv.ownBlock.toList := fun b hb hm => by have := hpvdb b (by simpa using hm); omega
        have blk14 := hg14.at (y3.at BLK9.out (by simp)) (hpdb db (by omega))
        have e1 : w14.cell? ⟨db, 3, none⟩ = some pv := by rw [row_cell blk14 3]; rfl
        have e2 := row_free blk14 3
        refine hK.out _ _ (fun _ => ⟨e1, hg14.cell (y3.cell csl (by simp)) (hpdb sb hsbl)⟩) ?_
        clear hK K'
        simp only [Act.put, List.setIfInBounds_toArray, List.set_cons_zero, List.set_cons_succ]
        refine hd_one 11 (by kernel_rfl) rfl (by kernel_rfl) rfl (fun K' hK => ?_)
        go_simp
        refine hK.out _ _ (fun _ => ⟨e1, hg14.cell (y3.cell csl (by simp)) (hpdb sb hsbl)⟩) ?_
        clear hK K'
        refine hd_one 12 (by kernel_rfl) rfl (by kernel_rfl) rfl (fun K' hK => ?_)
        go_simp
        refine hK.out _ _ (fun h => absurd rfl h) ?_
        clear hK K'
        refine held_done (by kernel_rfl) ?_
        have x9 : Fr (db :: pv.ownBlock.toList) w9 (w14.setCell ⟨db, 3, none⟩ (.slice (some ⟨g4, 0, none⟩) (us.length + 1) c4)) := ((y3.mono (by simp)).trans hg14 (fun y hy => Or.inl (List.mem_cons_of_mem _ hy))).setCell _ _ (by simp)
        have x13 : Fr (db :: pv.ownBlock.toList) w13 (w14.setCell ⟨db, 3, none⟩ (.slice (some ⟨g4, 0, none⟩) (us.length + 1) c4)) := (hg14.mono (fun y hy => Or.inl (List.mem_cons_of_mem _ hy))).setCell _ _ (by simp)
        have x14 : Fr [db] w14 (w14.setCell ⟨db, 3, none⟩ (.slice (some ⟨g4, 0, none⟩) (us.length + 1) c4)) := (Fr.refl _ _).setCell _ _ (by simp)
        have hlen := HI.out.len
        have hpb9 : ∀ b, pv.ownBlock = some b → b < w9.heap.size := P9.out.lt
        have hg4 : pv.ownBlock = some g4 ∨ g4 = w13.heap.size := by
          rcases hat14 with e | e
          · exact Or.inl e.symm
          · exact Or.inr (by simpa [Value.ownBlock] using e)
        have hgnp : ∀ b, pv.ownBlock = some b → gn ≠ b := fun b hb => HGN.out b (Nat.lt_of_lt_of_le (HI.out.p.lt b hb) HF5.out.size) (fun e => HI.out.ap b e hb)
        have hgnd : W3.heap.size ≤ gn := (ownBlock_cells F9.out gn rfl).1
        have hgnx : ∀ b, (Value.slice (some ⟨gn, 0, none⟩) (k + 1) cn).ownBlock = some b → b ∉ db :: pv.ownBlock.toList := fun b hb hm => by
          obtain rfl : gn = b := by simpa [Value.ownBlock] using hb
          rcases List.mem_cons.1 hm with h | hm
          · omega
          · exact hgnp gn (by simpa using hm) rfl
        have hgux : ∀ b, (Value.slice (some ⟨gu, 0, none⟩) (pl.length + 1) cu).ownBlock = some b → b ∉ db :: pv.ownBlock.toList := fun b hb hm => by
          obtain rfl : gu = b := by simpa [Value.ownBlock] using hb
          have h9 := hfr9.size
          rcases List.mem_cons.1 hm with h | hm
          · omega
          · have := hpb9 gu (by simpa using hm); omega
        have h913 := y3.size
        have h1213 := y23.size
        have HFIN : Hid (ShInv W3 (w14.setCell ⟨db, 3, none⟩ (.slice (some ⟨g4, 0, none⟩) (us.length + 1) c4)) db W3.heap.size fields.length (.slice ca which.length ccap) fields s which (k + 1) (.slice (some ⟨gn, 0, none⟩) (k + 1) cn) (.slice (some ⟨g4, 0, none⟩) (us.length + 1) c4) (us ++ [.slice (some ⟨gu, 0, none⟩) (pl.length + 1) cu])) := Lib.hid (by
          refine ⟨row_set blk14 3 _, F9.out.fr x9 hgnx, ho14.fr x14 (fun b hb hm => by have := (ownBlock_cells ho14 b hb).1; simp at hm; omega), by simp [hlen], fun j hj => ?_, fun b hb hb2 => ?_, hfr9.trans x9 (fun y hy => ?_)⟩
          · by_cases hjk : j < k
            · have hge : (us ++ [Value.slice (some ⟨gu, 0, none⟩) (pl.length + 1) cu]).getD j (.slice none 0 0) = us.getD j (.slice none 0 0) := by
                simp [List.getD_eq_getElem?_getD, List.getElem?_append_left (show j < us.length by omega)]
              rw [hge]
              obtain ⟨r1, r2, r3, r4⟩ := HI.out.r j hjk
              have hbl := r1.blk
              refine ⟨((r1.fr0 HF5.out).fr X59.out (fun b hb hm => ?_)).fr x9 (fun b hb hm => ?_), fun b hb hb2 => ?_, fun b hb hb2 => ?_, r4⟩
              · rcases List.mem_cons.1 hm with h | hm
                · have := r4 b hb; omega
                · exact r2 b hb (by simpa using hm)
              · rcases List.mem_cons.1 hm with h | hm
                · have := r4 b hb; omega
                · exact r3 b hb (by simpa using hm)
              · obtain rfl : gn = b := by simpa [Value.ownBlock] using hb2
                exact HGN.out gn (Nat.lt_of_lt_of_le (hbl gn hb) HF5.out.size) (fun e => r2 gn hb e) rfl
              · obtain rfl : g4 = b := by simpa [Value.ownBlock] using hb2
                rcases hg4 with e | e
                · exact r3 g4 hb e
                · have := hbl g4 hb
                  have := HF5.out.size
                  have := X59.out.size
                  omega
            · obtain rfl : j = k := by omega
              have hge : (us ++ [Value.slice (some ⟨gu, 0, none⟩) (pl.length + 1) cu]).getD j (.slice none 0 0) = .slice (some ⟨gu, 0, none⟩) (pl.length + 1) cu := by
                simp [List.getD_eq_getElem?_getD, ← hlen]
              rw [hge, EZN.out, HPF.out]
              refine ⟨(ho12.strs.fr0 y23).fr x13 hgux, fun b hb hb2 => ?_, fun b hb hb2 => ?_, fun b hb => ?_⟩
              · obtain rfl : gu = b := by simpa [Value.ownBlock] using hb
                obtain rfl : gn = gu := by simpa [Value.ownBlock] using hb2
                omega
              · obtain rfl : gu = b := by simpa [Value.ownBlock] using hb
                obtain rfl : g4 = gu := by simpa [Value.ownBlock] using hb2
                rcases hg4 with e | e
                · have := hpb9 g4 e; omega
                · omega
              · obtain rfl : gu = b := by simpa [Value.ownBlock] using hb
                have h9 := hfr9.size
                omega
          · obtain rfl : gn = b := by simpa [Value.ownBlock] using hb
            obtain rfl : g4 = gn := by simpa [Value.ownBlock] using hb2
            rcases hg4 with e | e
            · exact hgnp g4 e rfl
            · omega
          · rcases List.mem_cons.1 hy with rfl | hy
            · exact Or.inl (by simp)
            · exact Or.inr (hpvdb y (by simpa using hy)))
        generalize w14.setCell ⟨db, 3, none⟩ (.slice (some ⟨g4, 0, none⟩) (us.length + 1) c4) = w15 at HFIN x9 x13 x14 ⊢
        clear x9 x13 x14 e1 e2 blk14 ho14 hg14 hat14 hg4 ho12 hg12 hat12 hS0 y0 y1 y2 y3 y23 hc13 cpv csl
        go_wp2_with fail
        go_roundg (which.length + 1 - (k + 1))
        case measure => have := HG.out; omega
        case rel => exact ⟨k + 1, _, _, _, by omega, rfl, by go_num, HFIN.out⟩
      · obtain rfl : k = which.length := by omega
        have t1 : decide ((which.length : Int) < (which.length : Int)) = false := by simp
        have hrw := hfr.at HR3.out (by simp; omega)
        have HRW := Lib.hid hrw
        have cr0 : wr.cell? ⟨rb, 0, none⟩ = some (.int .i64 0) := by rw [row_cell hrw 0]; rfl
        have cr1 : wr.cell? ⟨rb, 1, none⟩ = some (.slice none 0 0) := by rw [row_cell hrw 1]; rfl
        have cr2 : wr.cell? ⟨rb, 2, none⟩ = some (.slice none 0 0) := by rw [row_cell hrw 2]; rfl
        have cr3 : wr.cell? ⟨rb, 3, none⟩ = some (.slice none 0 0) := by rw [row_cell hrw 3]; rfl
        have SSR := Lib.hid (HI.out.p.ss (l := which.map (pathF fields s)) (by rw [List.length_map]; exact HI.out.len) (fun j hj => by
          rw [List.length_map] at hj
          have := (HI.out.r j hj).1
          rwa [show (which.map (pathF fields s)).getD j [] = pathF fields s (which.getD j 0) by simp [List.getD_eq_getElem?_getD, hj]]))
        have FFR := Lib.hid HI.out.f.strs
        rw [List.take_length] at FFR
        obtain ⟨xa, xc, rfl, _, _⟩ := FFR.out.form
        obtain ⟨ya, yc, rfl, _, _, _⟩ := SSR.out.form
        simp only [List.length_map] at FFR SSR HBL
        have cd0 : wr.cell? ⟨db, 0, none⟩ = some (.int .i64 (fields.length : Int)) := by rw [row_cell HBL.out 0]; rfl
        have cd1 : wr.cell? ⟨db, 1, none⟩ = some (.slice ca which.length ccap) := by rw [row_cell HBL.out 1]; rfl
        have cd2 : wr.cell? ⟨db, 2, none⟩ = some (.slice xa which.length xc) := by rw [row_cell HBL.out 2]; rfl
        have cd3 : wr.cell? ⟨db, 3, none⟩ = some (.slice ya which.length yc) := by rw [row_cell HBL.out 3]; rfl
        have fz0 := row_free hrw 0
        have fz1 := row_free hrw 1
        have fz2 := row_free hrw 2
        have fz3 := row_free hrw 3
        clear hrw
        go_wp2_with fail
        have h9 : ((((wr.setCell ⟨rb, 0, none⟩ (.int .i64 (fields.length : Int))).setCell ⟨rb, 1, none⟩ (.slice ca which.length ccap)).setCell ⟨rb, 2, none⟩ (.slice xa which.length xc)).setCell ⟨rb, 3, none⟩ (.slice ya which.length yc)).heap[rb]? = some (.cells #[.int .i64 (fields.length : Int), .slice ca which.length ccap, .slice xa which.length xc, .slice ya which.length yc] 26 (0, 0)) :=
          row_set (row_set (row_set (row_set HRW.out 0 _) 1 _) 2 _) 3 _
        have f9 : Fr [rb] wr ((((wr.setCell ⟨rb, 0, none⟩ (.int .i64 (fields.length : Int))).setCell ⟨rb, 1, none⟩ (.slice ca which.length ccap)).setCell ⟨rb, 2, none⟩ (.slice xa which.length xc)).setCell ⟨rb, 3, none⟩ (.slice ya which.length yc)) :=
          ((((Fr.refl [rb] wr).setCell _ _ (by simp)).setCell _ _ (by simp)).setCell _ _ (by simp)).setCell _ _ (by simp)
        generalize (((wr.setCell ⟨rb, 0, none⟩ (.int .i64 (fields.length : Int))).setCell ⟨rb, 1, none⟩ (.slice ca which.length ccap)).setCell ⟨rb, 2, none⟩ (.slice xa which.length xc)).setCell ⟨rb, 3, none⟩ (.slice ya which.length yc) = W9 at h9 f9 ⊢
        refine bodyPost_ret (v := .tuple #[.agg #[.int .i64 (fields.length : Int), .slice ca which.length ccap, .slice xa which.length xc, .slice ya which.length yc], .int .i64 0]) ?_ rfl ?_
        · rw [results_cell_tmp rfl]
          simp [asAddr, run_loadD h9, Result.andThen]
        · refine ⟨.agg #[.int .i64 (fields.length : Int), .slice ca which.length ccap, .slice xa which.length xc, .slice ya which.length yc], by rw [HE.out], ?_, ?_⟩
          rw [HS.out]
          refine ⟨_, _, _, rfl, ?_, ?_, ?_⟩
          · exact (OC3.out.fr hfr (fun b hb hm => BC.out b hb (by simpa using hm))).fr f9 (fun b hb hm => BCR.out b hb (by simpa using hm))
          · exact FFR.out.fr f9 (fun b hb hm => by have := (ownBlock_cells HI.out.f b (by rw [List.length_map]; exact hb)).1; simp at hm; omega)
          · suffices hss : SS W9 (.slice ya (which.map (pathF fields s)).length yc) (which.map (pathF fields s)) by rwa [List.length_map] at hss
            refine (HI.out.p.fr f9 (fun b hb hm => by have := (ownBlock_cells HI.out.p b hb).1; simp at hm; omega)).ss (l := which.map (pathF fields s)) (by rw [List.length_map]; exact HI.out.len) (fun j hj => ?_)
            rw [List.length_map] at hj
            have h1 := HI.out.r j hj
            rw [show (which.map (pathF fields s)).getD j [] = pathF fields s (which.getD j 0) by simp [List.getD_eq_getElem?_getD, hj]]
            exact h1.1.fr f9 (fun b hb hm => by have := h1.2.2.2 b hb; simp at hm; omega)
          · exact ((FW.out.trans hfr (fun y hy => Or.inr (by simp at hy; omega))).trans f9 (fun y hy => Or.inr (by have := ERB.out; simp at hy; omega))).toBelow (by simp)
end Go.Proofs.YtmhejcndkplepaaDoor
