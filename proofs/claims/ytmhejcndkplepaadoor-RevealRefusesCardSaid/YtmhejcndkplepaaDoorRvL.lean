/-
  foyerlaw31.chosen.
-/
import Derived.Test.YtmhejcndkplepaaDoorRvK
import Derived.Test.YtmhejcndkplepaaDoorTabB
namespace Go.Proofs.YtmhejcndkplepaaDoor
open Go.RowKit

def pickL (n : Nat) (l : List Bool) : List Int := ((List.range n).filter (fun k => l.getD k false)).map (fun k : Nat => (k : Int))
def chosenL (n : Nat) (l : List Bool) : List Int := if pickL n l = [] then [0] else pickL n l
theorem pickL_yes {k : Nat} {l : List Bool} (h : l.getD k false = true) : pickL (k + 1) l = pickL k l ++ [(k : Int)] := by
  unfold pickL
  rw [List.range_succ, List.filter_append, List.map_append, List.filter_cons_of_pos (p := fun k => l.getD k false) h, List.filter_nil]
  rfl
theorem pickL_no {k : Nat} {l : List Bool} (h : l.getD k false = false) : pickL (k + 1) l = pickL k l := by
  unfold pickL
  rw [List.range_succ, List.filter_append, List.map_append, List.filter_cons_of_neg (p := fun k => l.getD k false) (by show ¬ l.getD k false = true; rw [h]; decide), List.filter_nil, List.map_nil, List.append_nil]
theorem pickL_len (k : Nat) (l : List Bool) : (pickL k l).length ≤ k := by
  unfold pickL
  rw [List.length_map]
  exact Nat.le_trans (List.length_filter_le _ _) (by simp)

set_option maxRecDepth 100000 in
set_option maxHeartbeats 2000000 in
theorem chosen_any (n : Nat) (bv : Value) (l : List Bool) (w : World) (hb : Bools w bv l) (hn : n ≤ 100000) :
    Calls Tryd.prog 26 #[.int .i64 (n : Int), bv] w fun e w' => ∃ v, e = .returned v ∧ Zs w' v (chosenL n l) ∧ Below w.heap.size w w' := by
  have HB := Lib.hid hb
  obtain ⟨ba, bcap, rfl, hbl, hba⟩ := hb.form
  clear hb
  go_enter Tryd.func26, Tryd.ntmps26
  go_wp2_with fail
  go_loopg [5, 6] (n + 1) (fun g ov iv wr => ∃ k : Nat, k ≤ n ∧ g = n + 1 - k ∧ iv = .int .i64 (k : Int) ∧ OwnZ w.heap.size wr ov (pickL k l) ∧ Fr [] w wr)
  case atStart => exact ⟨0, by omega, by omega, rfl, ⟨rfl, Or.inl ⟨rfl, rfl⟩⟩, Fr.refl _ _⟩
  case round =>
    obtain ⟨k, hk, hg, rfl, hown, hfr⟩ := hrel
    have HG := Lib.hid hg
    have HO := Lib.hid hown
    clear hg hown
    by_cases hlt : k < n
    · have t1 : decide ((k : Int) < (n : Int)) = true := by simp; omega
      have t1' : decide (k < n) = true := by simp; omega
      by_cases hl : k < l.length
      · have t2 : decide ((k : Int) < (l.length : Int)) = true := by simp; omega
        have t2' : decide (k < l.length) = true := by simp; omega
        obtain ⟨bb, bo, rfl⟩ := hba k hl
        have cb := hfr.cell (HB.out.cell k hl) (by simp)
        have g0 : (0 : Int) ≤ (k : Int) := by omega
        have g1 : (k : Int) < (l.length : Int) := by omega
        cases hv : l.getD k false with
        | true =>
          rw [hv] at cb
          have HP := Lib.hid (pickL_yes hv)
          have hpl := pickL_len k l
          clear hv
          have fa : Fr [] wr (wr.alloc (.cells #[.int .i64 (k : Int)] 3)) := (Fr.refl [] wr).alloc _
          have za : Zs (wr.alloc (.cells #[.int .i64 (k : Int)] 3)) (.slice (some ⟨wr.heap.size, 0, none⟩) 1 1) [(k : Int)] := zs_one (heap_new rfl)
          have oa := HO.out.fr fa (by simp)
          have fw : Fr [] w (wr.alloc (.cells #[.int .i64 (k : Int)] 3)) := hfr.alloc _
          go_wp2_with (at_builtin; go_loud (refine wpList_appZ rfl (.tmp 22) (.tmp 24) rfl w.heap.size _ _ (pickL k l) [(k : Int)] w rfl rfl za oa fw (Nat.le_refl _) fw.size (by simp; omega) ?_))
          intro nv w2 ho2 hf2 _
          rw [← HP.out] at ho2
          have HO2 := Lib.hid ho2
          clear ho2 za oa fw fa
          go_wp2_with fail
          go_roundg (n + 1 - (k + 1))
          case measure => have := HG.out; omega
          case rel => exact ⟨k + 1, by omega, rfl, by go_num, HO2.out, hf2⟩
        | false =>
          rw [hv] at cb
          have HP := Lib.hid (pickL_no hv)
          clear hv
          go_wp2_with fail
          go_roundg (n + 1 - (k + 1))
          case measure => have := HG.out; omega
          case rel => exact ⟨k + 1, by omega, rfl, by go_num, by rw [HP.out]; exact HO.out, hfr⟩
      · have t2 : decide ((k : Int) < (l.length : Int)) = false := by simp; omega
        have t2' : decide (k < l.length) = false := by simp; omega
        have HP : Hid (pickL (k + 1) l = pickL k l) := Lib.hid (pickL_no (by rw [List.getD_eq_getElem?_getD, List.getElem?_eq_none (by omega)]; rfl))
        go_wp2_with fail
        go_roundg (n + 1 - (k + 1))
        case measure => have := HG.out; omega
        case rel => exact ⟨k + 1, by omega, rfl, by go_num, by rw [HP.out]; exact HO.out, hfr⟩
    · obtain rfl : k = n := by omega
      have t1 : decide ((k : Int) < (k : Int)) = false := by simp
      have HZ := Lib.hid HO.out.zs
      obtain ⟨a, cap, rfl, _⟩ := HO.out.zs.form
      by_cases h0 : (pickL k l).length = 0
      · have HE : Hid (chosenL k l = [0]) := Lib.hid (if_pos (List.length_eq_zero_iff.1 h0))
        have t2 : (((pickL k l).length : Int) == 0) = true := by rw [beq_iff_eq]; omega
        have t2' : ((pickL k l).length == 0) = true := by rw [beq_iff_eq]; omega
        go_wp2_with fail
        go_ret
        exact ⟨_, rfl, by rw [HE.out]; exact zs_one (heap_new rfl), (hfr.alloc _).toBelow (by simp)⟩
      · have HE : Hid (chosenL k l = pickL k l) := Lib.hid (if_neg (fun h => h0 (by rw [h]; rfl)))
        have t2 : (((pickL k l).length : Int) == 0) = false := by rw [beq_eq_false_iff_ne]; omega
        have t2' : ((pickL k l).length == 0) = false := by rw [beq_eq_false_iff_ne]; omega
        go_wp2_with fail
        go_ret
        exact ⟨_, rfl, by rw [HE.out]; exact HZ.out, hfr.toBelow (by simp)⟩
end Go.Proofs.YtmhejcndkplepaaDoor
