/-
  draw.of, draw.Shuffle.
-/
import Derived.Test.YtnbpajcecjpfpaaDoorPlnDr
import Derived.Test.YtnbpajcecjpfpaaDoorOwn
import Derived.Test.YtnbpajcecjpfpaaDoorRefB
import Derived.Test.YtnbpajcecjpfpaaDoorRound
import Derived.Laws.OwnMore
import Derived.BigRegion
namespace Go.Proofs.YtnbpajcecjpfpaaDoor
open Go.RowKit

/-- A row of numbers at a block. -/
def ArrN (w : World) (g : Nat) (l : List Nat) : Prop := w.heap[g]? = some (.cells (l.map fun n : Nat => Value.int .i64 (n : Int)).toArray 3 (0, 0))
theorem ArrN.cell {w : World} {g : Nat} {l : List Nat} (h : ArrN w g l) (i : Nat) (hi : i < l.length) : w.cell? ⟨g, i, none⟩ = some (.int .i64 (l.getD i 0 : Nat)) := by
  rw [row_cell h i]
  simp [List.getD_eq_getElem?_getD, hi]
theorem ArrN.set {w : World} {g : Nat} {l : List Nat} (h : ArrN w g l) (i x : Nat) : ArrN (w.setCell ⟨g, i, none⟩ (.int .i64 (x : Int))) g (l.set i x) := by
  unfold ArrN
  rw [row_set h i]
  simp [List.map_set]
theorem ArrN.fr {w w' : World} {X : List Nat} {g : Nat} {l : List Nat} (h : ArrN w g l) (hf : Fr X w w') (hx : g ∉ X) : ArrN w' g l := hf.at h hx
theorem arr_of_own {w : World} {base n g : Nat} {l : List Nat} (h : w.ownsRow base 3 1 (.slice (some ⟨g, 0, none⟩) n n) n (l.map fun n : Nat => Value.int .i64 (n : Int))) : base ≤ g ∧ ArrN w g l := by
  rcases h.2 with ⟨h1, _⟩ | ⟨g', cap, cur, hv, hb, hg, h3, h4, h5, h6⟩
  · cases h1
  · cases hv
    refine ⟨hb, ?_⟩
    rw [ArrN, hg]
    have : cur = (l.map fun n : Nat => Value.int .i64 (n : Int)).toArray := by
      apply Array.ext'
      rw [← h6, List.take_of_length_le (by rw [Array.length_toList]; omega)]
    rw [this]

/-- The row while it is filled: the places below k hold their own numbers. -/
def initL (n k : Nat) : List Nat := (List.range n).map fun i => if i < k then i else 0
theorem initL_zero (n : Nat) : initL n 0 = List.replicate n 0 := by
  apply List.ext_getElem <;> simp [initL]
theorem initL_end (n : Nat) : initL n n = List.range n := by
  apply List.ext_getElem
  · simp [initL]
  · intro i h1 h2
    have : i < n := by simpa [initL] using h1
    simp [initL, this]
theorem initL_length (n k : Nat) : (initL n k).length = n := by simp [initL]
theorem initL_set (n k : Nat) : (initL n k).set k k = initL n (k + 1) := by
  apply List.ext_getElem
  · simp [initL]
  · intro i h1 h2
    simp only [List.getElem_set, initL, List.getElem_map, List.getElem_range]
    split <;> split <;> (try split) <;> omega
theorem iInfoD : (Tryd.prog.info? 3).map (fun i => (i.zero, i.size, i.bytes)) = some (some (.int .i64 0), 1, 8) := by kernel_rfl
theorem of_any (v : Value) (l : List (List UInt8)) (w : World) (hv : Strs w v l) (hl : (joinL l).length ≤ 140737488355328) (hT : Tabs w) :
    Calls Tryd.prog 22 #[v] w fun e w' => e = .returned (.string ⟨(dlist l).toArray⟩) ∧ Below w.heap.size w w' := by
  go_enter Tryd.func22, Tryd.ntmps22
  go_wp2_with fail
  refine (list_any v l w hv hl hT).mono ?_
  rintro e w1 ⟨rfl, hb1⟩
  go_wp2_with fail
  go_ret
  exact ⟨rfl, hb1⟩

set_option maxRecDepth 100000 in
set_option maxHeartbeats 2000000 in
theorem shuffle_any (seed : List UInt8) (n : Nat) (w : World) (hn : n ≤ 4000) (hs : seed.length ≤ 1000000) (hT : Tabs w) :
    Calls Tryd.prog 16 #[.string ⟨seed.toArray⟩, .int .i64 (n : Int)] w fun e w' => ∃ g, e = .returned (.slice (some ⟨g, 0, none⟩) n n) ∧ w.heap.size ≤ g ∧ ArrN w' g (shufS seed n) ∧ Below w.heap.size w w' := by
  have hmx : Tryd.prog.follows .mixedOrders = true := by kernel_rfl
  have HT := Lib.hid hT
  clear hT
  have t1 : decide ((n : Int) < 0) = false := by simp
  have t2 : decide ((4000 : Int) < (n : Int)) = false := by simp; omega
  go_enter Tryd.func16, Tryd.ntmps16
  obtain ⟨i0, hi, hz0, hz1, hz2⟩ := info_parts iInfoD
  go_wp2_with (at_make; go_loud (refine wpList_make_full _ rfl (.tmp 16) (.tmp 16) 32 rfl w.heap.size 3 i0 (.int .i64 0) 1 Tryd.underlying32 hi hz0 hz1 .i64 .i64 (n : Int) (n : Int) n rfl rfl rfl rfl (by rw [hz2]; omega) (by unfold maxLen; omega) (Nat.le_refl _) ?_))
  intro w1 hown hgrow
  have hf1 : Fr [] w w1 := (Fr.refl [] w).grown hgrow (fun r e => by cases e)
  rw [toList_madeCells_one, show List.replicate n (Value.int .i64 0) = (initL n 0).map fun n : Nat => Value.int .i64 (n : Int) by simp [initL_zero]] at hown
  have harr := (arr_of_own hown).2
  clear hown hgrow
  obtain ⟨g, hg⟩ : ∃ g, g = w.heap.size := ⟨_, rfl⟩
  rw [← hg] at harr ⊢
  have HG0 := Lib.hid hg
  have HARR := Lib.hid harr
  clear hg harr hi hz0 hz1 hz2
  go_wp2_with fail
  go_loopg [19] (n + 1) (fun gh i wr => ∃ k : Nat, k ≤ n ∧ gh = n + 1 - k ∧ i = .int .i64 (k : Int) ∧ ArrN wr g (initL n k) ∧ Fr [] w wr)
  case atStart => exact ⟨0, by omega, by omega, rfl, HARR.out, hf1⟩
  case round =>
    clear HARR hf1
    obtain ⟨k, hk, hgh, rfl, ha, hfr⟩ := hrel
    have HGH := Lib.hid hgh
    clear hgh
    by_cases hlt : k < n
    · have t3 : decide ((k : Int) < (n : Int)) = true := by simp; omega
      have hcu := ha.cell k (by rw [initL_length]; exact hlt)
      have hfz := row_free ha k
      have ha2 := ha.set k k
      rw [initL_set] at ha2
      have HA := Lib.hid ha2
      have hfr2 : Fr [] w (wr.setCell ⟨g, k, none⟩ (.int .i64 (k : Int))) := hfr.setCell _ _ (Or.inr (by rw [HG0.out]; exact Nat.le_refl _))
      clear ha ha2 hfr
      go_wp2_with fail
      go_roundg (n + 1 - (k + 1))
      case measure => have := HGH.out; omega
      case rel => exact ⟨k + 1, by omega, rfl, by go_num, HA.out, hfr2⟩
    · obtain rfl : n = k := by omega
      have t3 : decide ((n : Int) < (n : Int)) = false := by simp
      rw [initL_end] at ha
      have HA := Lib.hid ha
      clear ha
      go_wp2_with fail
      go_loopg [28] (n + 1) (fun gh i wr => ∃ (k : Nat) (cur : List Nat), k ≤ n ∧ gh = n + 1 - k ∧ i = .int .i64 (k : Int) ∧ cur.length = n ∧ shufT seed cur (n - 1 - k) = shufS seed n ∧ ArrN wr g cur ∧ Fr [] w wr)
      case atStart => exact ⟨0, _, by omega, by omega, rfl, List.length_range, rfl, HA.out, hfr⟩
      case round =>
        clear HA hfr
        obtain ⟨k, cur, hk, hgh, rfl, hcl, hsh, ha, hfr⟩ := hrel
        have HGH := Lib.hid hgh
        have HSH := Lib.hid hsh
        have HA := Lib.hid ha
        clear hgh hsh ha
        by_cases hlt : k < n
        · have t4 : decide ((k : Int) < (n : Int)) = true := by simp; omega
          obtain ⟨i, hi, ei⟩ : ∃ i : Nat, i = n - 1 - k ∧ (n : Int) - 1 - (k : Int) = (i : Int) := ⟨n - 1 - k, rfl, by omega⟩
          by_cases hi0 : i = 0
          · have t5 : decide (0 < i) = false := by simp; omega
            have HI := Lib.hid hi
            have HI0 := Lib.hid hi0
            clear hi hi0
            go_wp2_with fail
            go_roundg (n + 1 - (k + 1))
            case measure => have := HGH.out; omega
            case rel => exact ⟨k + 1, cur, by omega, rfl, by go_num, hcl, by rw [← HSH.out, show n - 1 - (k + 1) = 0 by have := HI.out; have := HI0.out; omega, show n - 1 - k = 0 by have := HI.out; have := HI0.out; omega], HA.out, hfr⟩
          · have t5 : decide (0 < i) = true := by simp; omega
            have hin : i < n := by omega
            have hj := jS_le seed i
            have HJ := Lib.hid (jS_below seed i)
            have HST : Hid (shufT seed (swapL cur i (jS seed i)) (n - 1 - (k + 1)) = shufS seed n) := Lib.hid (by
              rw [← HSH.out, ← hi, show i = (n - 1 - (k + 1)) + 1 by omega]; rfl)
            have HDD := Lib.hid (dec_len i (by omega))
            clear hi hi0
            go_wp2_with fail
            refine (itoa_any i wr (by omega) (HT.out.fr hfr)).mono ?_
            rintro e w2 ⟨rfl, hb2⟩
            have hw2 : Fr [] wr w2 := (Fr.refl [] wr).below hb2 (Nat.le_refl _)
            go_wp2_with fail
            refine (of_any _ [seed, Lib.decDigits i] _ (strs_two (heap_new rfl)) ?_ (HT.out.fr (hfr.trans (hw2.alloc _) (by simp)))).mono ?_
            · have := HDD.out
              simp [joinL, joinE]
              have := dec_len seed.length (by omega)
              have := dec_len (Lib.decDigits i).length (by omega)
              omega
            rintro e w3 ⟨rfl, hb3⟩
            have hw3 : Fr [] wr w3 := (hw2.alloc _).below hb3 (hw2.alloc _).size
            go_wp2_with fail
            refine (below_any _ ((i : Int) + 1) w3 (by rw [show (dlist [seed, Lib.decDigits i]).length = 16 from dsum_length _]; decide) (by omega)).mono ?_
            rintro e w4 ⟨rfl, hb4⟩
            have hw4 : Fr [] wr w4 := hw3.below hb4 hw3.size
            rw [HJ.out]
            generalize jS seed i = j at hj HST ⊢
            have ha4 := HA.out.fr hw4 (by simp)
            have c1 := ha4.cell i (by omega)
            have c2 := ha4.cell j (by omega)
            have f1 := row_free ha4 i
            have ha5 := ha4.set i (cur.getD j 0)
            have c3 := ha5.cell j (by rw [List.length_set]; omega)
            have f3 := row_free ha5 j
            have ha6 := ha5.set j (cur.getD i 0)
            have HA6 : Hid (ArrN ((w4.setCell ⟨g, i, none⟩ (.int .i64 (cur.getD j 0 : Nat))).setCell ⟨g, j, none⟩ (.int .i64 (cur.getD i 0 : Nat))) g (swapL cur i j)) := Lib.hid ha6
            have hg6 : Fr [] w ((w4.setCell ⟨g, i, none⟩ (.int .i64 (cur.getD j 0 : Nat))).setCell ⟨g, j, none⟩ (.int .i64 (cur.getD i 0 : Nat))) :=
              ((hfr.trans hw4 (by simp)).setCell _ _ (Or.inr (by rw [HG0.out]; exact Nat.le_refl _))).setCell _ _ (Or.inr (by rw [HG0.out]; exact Nat.le_refl _))
            have HG6 := Lib.hid hg6
            have hjn : j < n := by omega
            have HSL := Lib.hid (swapL_length cur i j)
            have HCL := Lib.hid hcl
            generalize ((cur.set i (cur.getD j 0)).getD j 0) = z at c3
            generalize swapL cur i j = cur2 at HA6 HST HSL
            generalize cur.getD i 0 = x at c1 HA6 HG6
            generalize cur.getD j 0 = y at c2 c3 f3 HA6 HG6
            clear ha4 ha5 ha6 hg6 hb2 hb3 hb4 hw2 hw3 hw4 HA hfr HJ HDD hcl
            go_wp2_with fail
            go_region
            go_wp2_with fail
            go_roundg (n + 1 - (k + 1))
            case measure => have := HGH.out; omega
            case rel => exact ⟨k + 1, cur2, by omega, rfl, by go_num, by rw [HSL.out, HCL.out], HST.out, HA6.out, HG6.out.drew⟩
        · obtain rfl : n = k := by omega
          have t4 : decide ((n : Int) < (n : Int)) = false := by simp
          have HSE : Hid (cur = shufS seed n) := Lib.hid (by rw [← HSH.out, show n - 1 - n = 0 by omega]; rfl)
          go_wp2_with fail
          go_ret
          exact ⟨g, rfl, by rw [HG0.out]; exact Nat.le_refl _, by rw [← HSE.out]; exact HA.out, hfr.toBelow (by simp)⟩
end Go.Proofs.YtnbpajcecjpfpaaDoor
