/-
  sign.digits, Sign, Verify.
-/
import Derived.Test.YtennhdgnpodkaaaGreatDoorSgnB
import Derived.Test.YtennhdgnpodkaaaGreatDoorConv
import Derived.Laws.CopyOwn
namespace Go.Proofs.YtennhdgnpodkaaaGreatDoor
open Go.RowKit Go.Shelf

/-- The digits of a message and their check. -/
def restN (h : List UInt8) : Nat := h.foldl (fun r c => r + (15 - hexN c)) 0
def digs (h : List UInt8) : List Nat := h.map hexN ++ [restN h / 16, restN h % 16]
theorem idx_any (c : UInt8) (w : World) : Calls Tryz.prog 102 #[.string ⟨#[48, 49, 50, 51, 52, 53, 54, 55, 56, 57, 97, 98, 99, 100, 101, 102]⟩, .int .u8 (c.toNat : Int)] w fun e w' => e = .returned (.int .i64 (Lib.indexByte cutset c)) ∧ w = w' :=
  (Tryz.strings_IndexByte _ _ w).mono fun e w' ⟨he, hw⟩ => ⟨by rw [he]; simp [cutset], hw.symm⟩
def digTab (h : List UInt8) (k : Nat) : Array Value := ((List.range 18).map fun i => Value.int .i64 (if i < k then (hexN (h.getD i 0) : Nat) else 0)).toArray
theorem digTab_get (h : List UInt8) (k i : Nat) (hi : i < 18) : (digTab h k)[i]? = some (.int .i64 (if i < k then (hexN (h.getD i 0) : Nat) else 0)) := by
  simp [digTab, hi]
theorem digTab_zero (h : List UInt8) : digTab h 0 = #[.int .i64 0, .int .i64 0, .int .i64 0, .int .i64 0, .int .i64 0, .int .i64 0, .int .i64 0, .int .i64 0, .int .i64 0, .int .i64 0, .int .i64 0, .int .i64 0, .int .i64 0, .int .i64 0, .int .i64 0, .int .i64 0, .int .i64 0, .int .i64 0] := rfl
theorem digTab_set (h : List UInt8) (k : Nat) (hk : k < 18) : (digTab h k).setIfInBounds k (.int .i64 (hexN (h.getD k 0) : Nat)) = digTab h (k + 1) := by
  apply Array.ext_getElem?
  intro i
  rw [Array.getElem?_setIfInBounds]
  have hsz : ∀ j, (digTab h j).size = 18 := fun j => by simp [digTab]
  by_cases hi : i < 18
  · rw [digTab_get h (k + 1) i hi]
    by_cases he : k = i
    · subst he
      rw [if_pos rfl, if_pos (by rw [hsz]; exact hi), if_pos (by omega)]
    · rw [if_neg he, digTab_get h k i hi]
      by_cases h1 : i < k
      · rw [if_pos h1, if_pos (by omega)]
      · rw [if_neg h1, if_neg (by omega)]
  · rw [if_neg (by omega), Array.getElem?_eq_none (by rw [hsz]; omega), Array.getElem?_eq_none (by rw [hsz]; omega)]
theorem digTab_end (h : List UInt8) (hl : h.length = 16) : ((digTab h 16).setIfInBounds 16 (.int .i64 ((restN h : Int) / 16))).setIfInBounds 17 (.int .i64 ((restN h : Int) % 16)) = ((digs h).map fun (d : Nat) => Value.int .i64 (d : Int)).toArray := by
  apply Array.ext_getElem?
  intro i
  have hsz : ∀ j, (digTab h j).size = 18 := fun j => by simp [digTab]
  have hds : (digs h).length = 18 := by simp [digs, hl]
  rw [Array.getElem?_setIfInBounds, Array.getElem?_setIfInBounds]
  by_cases h17 : 17 = i
  · subst h17
    simp [hsz, digs, hl]
  · rw [if_neg h17]
    by_cases h16 : 16 = i
    · subst h16
      simp [hsz, digs, hl]
    · rw [if_neg h16]
      by_cases hi : i < 16
      · rw [digTab_get h 16 i (by omega), if_pos hi]
        simp [digs, hl, hi, List.getElem?_append_left, List.getD_eq_getElem?_getD]
      · rw [Array.getElem?_eq_none (by rw [hsz]; omega), Array.getElem?_eq_none (by simp [hds]; omega)]
theorem restN_snoc (h : List UInt8) (k : Nat) (hk : k < h.length) : restN (h.take (k + 1)) = restN (h.take k) + (15 - hexN (h.getD k 0)) := by
  unfold restN
  rw [List.take_succ_eq_append_getElem hk, List.foldl_append, List.getD_eq_getElem?_getD, List.getElem?_eq_getElem hk]
  rfl
theorem restN_le (h : List UInt8) : restN h ≤ 15 * h.length := by
  have key : ∀ (l : List UInt8) (r : Nat), l.foldl (fun r c => r + (15 - hexN c)) r ≤ r + 15 * l.length := by
    intro l
    induction l with
    | nil => intro r; simp
    | cons c l ih => intro r; have := ih (r + (15 - hexN c)); simp only [List.foldl_cons, List.length_cons]; omega
  have := key h 0
  unfold restN; omega

set_option maxRecDepth 100000 in
set_option maxHeartbeats 1000000 in
theorem digits_any (l : List UInt8) (w : World) (hl : l.length ≤ 9223372036854775807) (hT : Tabs w) :
    Calls Tryz.prog 77 #[.string ⟨l.toArray⟩] w fun e w' => e = .returned (.agg ((digs (dsum l)).map fun (d : Nat) => Value.int .i64 (d : Int)).toArray) ∧ Below w.heap.size w w' := by
  have HT := Lib.hid hT
  clear hT
  have hsum := dsum_length l
  have hall := hexS_hex
  go_enter Tryz.func77, Tryz.ntmps77
  go_wp2_with fail
  refine (sum_any ⟨l.toArray⟩ _ (by rw [ba_size]; exact hl) (HT.out.hex.fr (((Fr.refl [] w).alloc _).alloc _) (by simp))).mono ?_
  rintro e w1 ⟨rfl, hb1⟩
  obtain ⟨c, w2, hrun, hf2, hlt2, hcells⟩ := conv_bytes w1 (dsum l)
  rw [hsum] at hrun hcells
  go_wp2_with fail
  have hlen : (dsum l).length = 16 := dsum_length l
  have hhex : (dsum l).all hexC = true := hexS_hex _
  clear hsum
  generalize hh : dsum l = h at hcells hlen hhex ⊢
  have EH := Lib.hid hh
  clear hh
  have HH := Lib.hid hhex
  have HL := Lib.hid hlen
  clear hhex hlen
  go_loopg [4, 11] 16 (fun g r i wr => ∃ k : Nat, k ≤ 16 ∧ g = 16 - k ∧ i = .int .i64 (k : Int) ∧ r = .int .i64 (restN (h.take k) : Int) ∧ wr.heap[w.heap.size + 1]? = some (.cells (digTab h k) 89 (0, 0)) ∧ Fr [w.heap.size + 1] w2 wr)
  case atStart =>
    refine ⟨0, by omega, by omega, rfl, rfl, ?_, Fr.refl _ _⟩
    rw [digTab_zero]
    exact hf2.at (((Fr.refl [] _).below hb1 (Nat.le_refl _)).at (heap_new (by simp)) (by simp)) (by simp)
  case round =>
    obtain ⟨k, hk, hg, rfl, rfl, hB, hfr⟩ := hrel
    have HG := Lib.hid hg
    have hw1 : w.heap.size + 2 ≤ w1.heap.size := by have := hb1.size; simpa using this
    have hw2 := hf2.size
    clear hg
    by_cases hlt : k < 16
    · have hc1 := hfr.cell (hcells k hlt) (by simp; omega)
      have hx := index_hex (h.getD k 0) (List.all_eq_true.1 HH.out _ (by rw [List.getD_eq_getElem?_getD, List.getElem?_eq_getElem (by have := HL.out; omega)]; exact List.getElem_mem _))
      have HR := Lib.hid (restN_snoc h k (by have := HL.out; omega))
      have HS := Lib.hid (digTab_set h k (by omega))
      have hr1 : restN (h.take k) ≤ 240 := by have h1 := restN_le (h.take k); have h2 : (h.take k).length ≤ 16 := (by rw [List.length_take]; omega); omega
      have hc2 := row_cell hB k
      rw [digTab_get h k k (by omega)] at hc2
      have hf3 := row_free hB k
      have HB := Lib.hid hB
      obtain ⟨d, hd, ed⟩ : ∃ d, d < 16 ∧ d = hexN (h.getD k 0) := ⟨_, hx.2, rfl⟩
      have HX := Lib.hid hx.1
      rw [← ed] at HX HS HR
      have hbyte : (h.getD k 0).toNat < 256 := (h.getD k 0).toNat_lt
      generalize hcc : h.getD k 0 = cb at *
      clear hB hx ed hcc
      have hcs : (15 : Int) - (d : Int) = ((15 - d : Nat) : Int) := by omega
      have hfr' : Fr [w.heap.size + 1] w2 (wr.setCell ⟨w.heap.size + 1, k, none⟩ (.int .i64 (d : Int))) := hfr.setCell _ _ (by simp)
      have hB' := row_set HB.out k (.int .i64 (d : Int))
      rw [HS.out] at hB'
      have HB' := Lib.hid hB'
      clear hB' hfr HB
      go_wp2_with fail
      refine (idx_any cb wr).mono ?_
      rintro e w3 ⟨rfl, rfl⟩
      rw [HX.out]
      go_wp2_with fail
      go_roundg (16 - (k + 1))
      case measure => have := HG.out; omega
      case rel => exact ⟨k + 1, by omega, rfl, by go_num, by rw [HR.out]; go_num, HB'.out, hfr'⟩
    · obtain rfl : k = 16 := by omega
      have hr2 : h.take 16 = h := List.take_of_length_le (by have := HL.out; omega)
      have hr1 : restN h ≤ 240 := by have h1 := restN_le h; have := HL.out; omega
      rw [hr2]
      have b16 := row_cell hB 16
      have b17 := row_cell hB 17
      rw [digTab_get h 16 16 (by decide)] at b16
      rw [digTab_get h 16 17 (by decide)] at b17
      have f16 := row_free hB 16
      have f17 := row_free hB 17
      have ha : wr.heap[w.heap.size]? = some (.cells #[.int .i64 0, .int .i64 0, .int .i64 0, .int .i64 0, .int .i64 0, .int .i64 0, .int .i64 0, .int .i64 0, .int .i64 0, .int .i64 0, .int .i64 0, .int .i64 0, .int .i64 0, .int .i64 0, .int .i64 0, .int .i64 0, .int .i64 0, .int .i64 0] 89 (0, 0)) :=
        hfr.at (hf2.at (((Fr.refl [] _).below hb1 (Nat.le_refl _)).at (heap_past _ (heap_new rfl)) (by simp)) (by simp)) (by simp)
      have HB := Lib.hid hB
      have HA := Lib.hid ha
      clear hr2 hB ha
      obtain ⟨X, hX⟩ : ∃ X, X = ((digTab h 16).setIfInBounds 16 (.int .i64 ((restN h : Int) / 16))).setIfInBounds 17 (.int .i64 ((restN h : Int) % 16)) := ⟨_, rfl⟩
      have hXs : X.size = 18 := by rw [hX]; simp [digTab]
      have hXd : X = ((digs h).map fun (d : Nat) => Value.int .i64 (d : Int)).toArray := by rw [hX]; exact digTab_end h HL.out
      have hX1 : X.all (·.oneCell') = true := by rw [hXd]; simp [Value.oneCell']
      have HX := Lib.hid hXd
      have HX1 := Lib.hid hX1
      have HXS := Lib.hid hXs
      have hg : ((wr.setCell ⟨w.heap.size + 1, 16, none⟩ (.int .i64 ((restN h : Int) / 16))).setCell ⟨w.heap.size + 1, 17, none⟩ (.int .i64 ((restN h : Int) % 16))).heap[w.heap.size + 1]? = some (.cells X 89 (0, 0)) := by
        rw [hX]; exact row_set (row_set HB.out 16 _) 17 _
      have hg2 : ((wr.setCell ⟨w.heap.size + 1, 16, none⟩ (.int .i64 ((restN h : Int) / 16))).setCell ⟨w.heap.size + 1, 17, none⟩ (.int .i64 ((restN h : Int) % 16))).heap[w.heap.size]? = some (.cells #[.int .i64 0, .int .i64 0, .int .i64 0, .int .i64 0, .int .i64 0, .int .i64 0, .int .i64 0, .int .i64 0, .int .i64 0, .int .i64 0, .int .i64 0, .int .i64 0, .int .i64 0, .int .i64 0, .int .i64 0, .int .i64 0, .int .i64 0, .int .i64 0] 89 (0, 0)) :=
        heap_other (heap_other HA.out _ _ (by simp)) _ _ (by simp)
      have HGX := Lib.hid hg
      have HG2 := Lib.hid hg2
      clear hX hXd hX1 hXs hg hg2
      go_wp2_with (first | (refine wpList_load_row rfl 89 _ rfl (w.heap.size + 1) rfl 89 X (0, 0) _ HGX.out Tryz.underlying89 rfl (by rw [HXS.out]; kernel_rfl) ?_) | (refine wpList_store_row rfl 89 _ _ rfl w.heap.size X rfl rfl 89 _ HG2.out (by rw [HXS.out]; kernel_rfl) (by rw [HXS.out]; rfl) HX1.out ?_))
      refine bodyPost_ret (v := .agg X) (results_cell_row rfl _ _ w.heap.size 89 X (0, 0) _ rfl (setRow_heap _ _ _ _ _ _ HG2.out) Tryz.underlying89 rfl (by rw [HXS.out]; kernel_rfl)) rfl ?_
      refine ⟨by rw [HX.out, EH.out], ?_⟩
      have h1 : Fr [] w w1 := (((Fr.refl [] w).alloc _).alloc _).below hb1 (by simp; omega)
      have h2 : Fr [] w w2 := h1.trans hf2 (by simp)
      have h3 : Fr [] w wr := h2.trans hfr (by simp)
      have h4 := (h3.setCell ⟨w.heap.size + 1, 16, none⟩ (.int .i64 ((restN h : Int) / 16)) (by simp)).setCell ⟨w.heap.size + 1, 17, none⟩ (.int .i64 ((restN h : Int) % 16)) (by simp)
      exact below_setRow (h4.toBelow (by simp)) (Nat.le_refl _) _
end Go.Proofs.YtennhdgnpodkaaaGreatDoor
