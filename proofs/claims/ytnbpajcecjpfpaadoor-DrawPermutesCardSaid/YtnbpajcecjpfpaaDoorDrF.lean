/-
  foyerlaw19: DrawPermutes.
-/
import Derived.Test.YtnbpajcecjpfpaaDoorDrD
namespace Go.Proofs.YtnbpajcecjpfpaaDoor
open Go.RowKit
theorem bInfoD : (Tryd.prog.info? 4).map (fun i => (i.zero, i.size, i.bytes)) = some (some (.bool false), 1, 1) := by kernel_rfl
/-- A row of truth values at a block. -/
def ArrB (w : World) (g : Nat) (l : List Bool) : Prop := w.heap[g]? = some (.cells (l.map Value.bool).toArray 4 (0, 0))
theorem ArrB.cell {w : World} {g : Nat} {l : List Bool} (h : ArrB w g l) (i : Nat) (hi : i < l.length) : w.cell? ⟨g, i, none⟩ = some (.bool (l.getD i false)) := by
  rw [row_cell h i]
  simp [List.getD_eq_getElem?_getD, hi]
theorem ArrB.set {w : World} {g : Nat} {l : List Bool} (h : ArrB w g l) (i : Nat) (x : Bool) : ArrB (w.setCell ⟨g, i, none⟩ (.bool x)) g (l.set i x) := by
  unfold ArrB
  rw [row_set h i]
  simp [List.map_set]
theorem arrB_of_own {w : World} {base n g : Nat} {l : List Bool} (h : w.ownsRow base 4 1 (.slice (some ⟨g, 0, none⟩) n n) n (l.map Value.bool)) : ArrB w g l := by
  rcases h.2 with ⟨h1, _⟩ | ⟨g', cap, cur, hv, hb, hg, h3, h4, h5, h6⟩
  · cases h1
  · cases hv
    rw [ArrB, hg]
    have : cur = (l.map Value.bool).toArray := by
      apply Array.ext'
      rw [← h6, List.take_of_length_le (by rw [Array.length_toList]; omega)]
    rw [this]

set_option maxRecDepth 100000 in
set_option maxHeartbeats 2000000 in
theorem drawPermutes_any (s : List UInt8) (r : Nat) (w : World) (hr : r < 65536) (hT : Tabs w) :
    Calls Tryd.prog 4 #[.string ⟨s.toArray⟩, .int .u16 (r : Int)] w fun e w' => e = .returned (.bool true) ∧ Below w.heap.size w w' := by
  have hmx : Tryd.prog.follows .mixedOrders = true := by kernel_rfl
  have HT := Lib.hid hT
  clear hT
  go_enter Tryd.func4, Tryd.ntmps4
  go_wp2_with fail
  refine (head19_any w HT.out).mono ?_
  rintro e w1 ⟨rfl, hb1⟩
  have hf1 : Fr [] w w1 := (Fr.refl [] w).below hb1 (Nat.le_refl _)
  obtain ⟨n, hn, en⟩ : ∃ n : Nat, n < 501 ∧ (r : Int) % 501 = (n : Int) := ⟨r % 501, by omega, by omega⟩
  by_cases hl : s.length ≤ 200
  · have t1 : decide ((200 : Int) < (s.length : Int)) = false := by simp; omega
    go_wp2_with fail
    refine (shuffle_any s n w1 (by omega) (by omega) (HT.out.fr hf1)).mono ?_
    rintro e w2 ⟨g1, rfl, _, ha1, hb2⟩
    have hf2 : Fr [] w w2 := hf1.below hb2 hf1.size
    have HA1 := Lib.hid ha1
    have HP := Lib.hid (perm_S s n)
    clear ha1 hb1 hb2 hf1
    generalize shufS s n = A at HA1 HP
    obtain ⟨i0, hi, hz0, hz1, hz2⟩ := info_parts bInfoD
    go_wp2_with (at_make; go_loud (refine wpList_make_full _ rfl (.tmp 21) (.tmp 21) 36 rfl w2.heap.size 4 i0 (.bool false) 1 Tryd.underlying36 hi hz0 hz1 .i64 .i64 (n : Int) (n : Int) n rfl rfl rfl rfl (by rw [hz2]; omega) (by unfold maxLen; omega) (Nat.le_refl _) ?_))
    intro w3 hown hgrow
    have hf23 : Fr [] w2 w3 := (Fr.refl [] w2).grown hgrow (fun r e => by cases e)
    rw [toList_madeCells_one, show List.replicate n (Value.bool false) = (List.replicate n false).map Value.bool by simp] at hown
    have harr := arrB_of_own hown
    have HA3 := Lib.hid (HA1.out.fr hf23 (by simp))
    have hf3 : Fr [] w w3 := hf2.trans hf23 (by simp)
    obtain ⟨g2, hg2⟩ : ∃ g, g = w2.heap.size := ⟨_, rfl⟩
    rw [← hg2] at harr ⊢
    have hgw : w.heap.size ≤ g2 := by rw [hg2]; exact hf2.size
    have hg12 : g1 ≠ g2 := by have := lt_of_block HA1.out; omega
    have HARR := Lib.hid harr
    have HGW := Lib.hid hgw
    clear hown hgrow harr hg2 hgw hi hz0 hz1 hz2 hf23 HA1 hf2
    go_wp2_with fail
    go_loopg [9] (n + 1) (fun g i wr => ∃ (k : Nat) (bs : List Bool), k ≤ n ∧ g = n + 1 - k ∧ i = .int .i64 (k : Int) ∧ bs.length = n ∧ (∀ i, k ≤ i → i < n → bs.getD (A.getD i 0) false = false) ∧ ArrB wr g2 bs ∧ ArrN wr g1 A ∧ Fr [] w wr)
    case atStart => exact ⟨0, List.replicate n false, by omega, by omega, rfl, by simp, fun i _ hi => by simp [List.getD_eq_getElem?_getD, List.getElem?_replicate]; split <;> rfl, HARR.out, HA3.out, hf3⟩
    case round =>
      clear HARR HA3 hf3
      obtain ⟨k, bs, hk, hg, rfl, hbl, hun, hab, han, hfr⟩ := hrel
      have HG := Lib.hid hg
      have HUN := Lib.hid hun
      have HBL := Lib.hid hbl
      clear hg hun
      obtain ⟨p1, p2, p3⟩ := HP.out
      by_cases hlt : k < n
      · have t2 : decide ((k : Int) < (n : Int)) = true := by simp; omega
        have c1 := han.cell k (by omega)
        have hx := p2 k hlt
        have c2 := hab.cell (A.getD k 0) (by omega)
        rw [HUN.out k (Nat.le_refl _) hlt] at c2
        have f2 := row_free hab (A.getD k 0)
        have HB2 := Lib.hid (hab.set (A.getD k 0) true)
        have han2 : ArrN (wr.setCell ⟨g2, A.getD k 0, none⟩ (.bool true)) g1 A := heap_other han _ _ (fun h => hg12 h.symm)
        have HA2 := Lib.hid han2
        have hfr2 : Fr [] w (wr.setCell ⟨g2, A.getD k 0, none⟩ (.bool true)) := hfr.setCell _ _ (Or.inr HGW.out)
        have HN : Hid (∀ i, k + 1 ≤ i → i < n → (bs.set (A.getD k 0) true).getD (A.getD i 0) false = false) := Lib.hid (by
          intro i h1 h2
          have h3 := HUN.out i (by omega) h2
          have h4 : A.getD k 0 ≠ A.getD i 0 := fun h => by have := p3 k i hlt h2 h; omega
          rw [List.getD_eq_getElem?_getD, List.getElem?_set, if_neg h4, ← List.getD_eq_getElem?_getD]
          exact h3)
        generalize A.getD k 0 = x at c1 c2 f2 HB2 HA2 hfr2 HN hx
        have t3 : decide ((x : Int) < 0) = false := by simp
        have t4 : decide ((n : Int) ≤ (x : Int)) = false := by simp; omega
        clear han han2 hab p1 p2 p3 hfr hbl
        go_wp2_with fail
        go_roundg (n + 1 - (k + 1))
        case measure => have := HG.out; omega
        case rel => exact ⟨k + 1, bs.set x true, by omega, rfl, by go_num, by rw [List.length_set]; exact HBL.out, HN.out, HB2.out, HA2.out, hfr2⟩
      · obtain rfl : n = k := by omega
        have t2 : decide ((n : Int) < (n : Int)) = false := by simp
        have t5 : ((n : Int) == (n : Int)) = true := by simp
        clear han hab p1 p2 p3 hbl
        go_wp2_with fail
        go_ret
        exact ⟨rfl, hfr.toBelow (by simp)⟩
  · have t1 : decide ((200 : Int) < (s.length : Int)) = true := by simp; omega
    go_wp2_with fail
    go_ret
    exact ⟨rfl, hf1.toBelow (by simp)⟩
end Go.Proofs.YtnbpajcecjpfpaaDoor
