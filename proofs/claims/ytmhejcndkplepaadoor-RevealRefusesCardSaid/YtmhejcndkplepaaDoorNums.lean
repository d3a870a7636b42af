/-
  Slices of numbers; foyerref01.Ints.
-/
import Derived.Test.YtmhejcndkplepaaDoorArr
import Derived.Test.YtmhejcndkplepaaDoorOwnI
namespace Go.Proofs.YtmhejcndkplepaaDoor
open Go.RowKit

/-- A slice of numbers. -/
def Nums (w : World) (v : Value) (l : List Nat) : Prop :=
  (v = .slice none 0 0 ∧ l = []) ∨ ∃ b off cap, v = .slice (some ⟨b, off, none⟩) l.length cap ∧ l.length ≤ cap ∧ cap ≤ 9223372036854775807 ∧ b < w.heap.size ∧
    ∀ i, i < l.length → w.cell? ⟨b, off + i, none⟩ = some (.int .i64 (l.getD i 0 : Nat))
theorem Nums.fr0 {w w' : World} {v : Value} {l : List Nat} (h : Nums w v l) (hf : Fr [] w w') : Nums w' v l := by
  rcases h with h | ⟨b, off, cap, hv, h1, h2, h3, h4⟩
  · exact Or.inl h
  · exact Or.inr ⟨b, off, cap, hv, h1, h2, Nat.lt_of_lt_of_le h3 hf.size, fun i hi => hf.cell (h4 i hi) (by simp)⟩
theorem Nums.form {w : World} {v : Value} {l : List Nat} (h : Nums w v l) : ∃ a cap, v = .slice a l.length cap ∧ l.length ≤ 9223372036854775807 ∧ (∀ i, i < l.length → ∃ b off, a = some ⟨b, off, none⟩) := by
  rcases h with ⟨rfl, rfl⟩ | ⟨b, off, cap, hv, h1, h2, h3, h4⟩
  · exact ⟨none, 0, rfl, by simp, fun i hi => by simp at hi⟩
  · exact ⟨_, cap, hv, by omega, fun i _ => ⟨b, off, rfl⟩⟩
theorem Nums.cell {w : World} {b off cap : Nat} {l : List Nat} (h : Nums w (.slice (some ⟨b, off, none⟩) l.length cap) l) (k : Nat) (hk : k < l.length) : w.cell? ⟨b, off + k, none⟩ = some (.int .i64 (l.getD k 0 : Nat)) := by
  rcases h with ⟨h, _⟩ | ⟨b', off', cap', hv, _, _, _, h4⟩
  · cases h
  · cases hv; exact h4 k hk
theorem ArrN.nums {w : World} {g n : Nat} {l : List Nat} (h : ArrN w g l) (hl : l.length = n) (hn : n ≤ 9223372036854775807) : Nums w (.slice (some ⟨g, 0, none⟩) n n) l :=
  Or.inr ⟨g, 0, n, by rw [hl], by omega, hn, lt_of_block h, fun i hi => by rw [Nat.zero_add]; exact h.cell i hi⟩

set_option maxRecDepth 100000 in
set_option maxHeartbeats 1000000 in
theorem ints_any (av bv : Value) (la lb : List Nat) (w : World) (ha : Nums w av la) (hb : Nums w bv lb) :
    Calls Tryd.prog 43 #[av, bv] w fun e w' => e = .returned (.bool (decide (la = lb))) ∧ Below w.heap.size w w' := by
  have hmx : Tryd.prog.follows .mixedOrders = true := by kernel_rfl
  have HA := Lib.hid ha
  have HB := Lib.hid hb
  obtain ⟨aa, acap, rfl, hla, hfa⟩ := ha.form
  obtain ⟨ab, bcap, rfl, hlb, hfb⟩ := hb.form
  clear ha hb
  by_cases hlen : la.length = lb.length
  · have t1 : ((la.length : Int) != (lb.length : Int)) = false := by rw [hlen]; simp
    have HLEN := Lib.hid hlen
    clear hlen
    go_enter Tryd.func43, Tryd.ntmps43
    go_wp2_with fail
    go_loopg [5] (la.length + 1) (fun g i wr => ∃ k : Nat, k ≤ la.length ∧ g = la.length + 1 - k ∧ i = .int .i64 (k : Int) ∧ la.take k = lb.take k ∧ Fr [] w wr)
    case atStart => exact ⟨0, by omega, by omega, rfl, by simp, Fr.refl _ _⟩
    case round =>
      obtain ⟨k, hk, hg, rfl, heq, hfr⟩ := hrel
      have HG := Lib.hid hg
      have HEQ := Lib.hid heq
      clear hg heq
      by_cases hlt : k < la.length
      · have hltb : k < lb.length := by have := HLEN.out; omega
        obtain ⟨ba, offa, rfl⟩ := hfa k hlt
        obtain ⟨bb, offb, rfl⟩ := hfb k hltb
        have hca := (HA.out.fr0 hfr).cell k hlt
        have hcb := (HB.out.fr0 hfr).cell k hltb
        have HSA := Lib.hid (take_snoc' la k 0 hlt)
        have HSB := Lib.hid (take_snoc' lb k 0 hltb)
        have t2 : decide ((k : Int) < (la.length : Int)) = true := by simp; omega
        have HGA : Hid (la.getD k 0 ≠ lb.getD k 0 → la ≠ lb) := fun h h' => h (by rw [h'])
        generalize la.getD k 0 = x at hca HSA HGA
        generalize lb.getD k 0 = y at hcb HSB HGA
        by_cases hxy : x = y
        · have t3 : ((x : Int) != (y : Int)) = false := by rw [hxy]; simp
          have t4 : ((x : Int) == (y : Int)) = true := by rw [hxy]; simp
          have HXY := Lib.hid hxy
          clear hxy
          go_wp2_with fail
          go_quiet (fail)
          go_wp2_with fail
          go_roundg (la.length + 1 - (k + 1))
          case measure => have := HG.out; omega
          case rel => exact ⟨k + 1, by omega, rfl, by go_num, by rw [HSA.out, HSB.out, HEQ.out, HXY.out], hfr.drewN _⟩
        · have t3 : ((x : Int) != (y : Int)) = true := by simp; omega
          have t4 : ((x : Int) == (y : Int)) = false := by simp; omega
          have HXY := Lib.hid hxy
          clear hxy
          go_wp2_with fail
          go_quiet (fail)
          go_wp2_with fail
          go_ret
          have hne : decide (la = lb) = false := decide_eq_false (HGA.out HXY.out)
          exact ⟨by rw [hne]; rfl, (hfr.drewN _).toBelow (by simp)⟩
      · obtain rfl : k = la.length := by omega
        have t2 : decide ((la.length : Int) < (la.length : Int)) = false := by simp
        have HE : Hid (la = lb) := by
          have := HEQ.out
          rw [List.take_length, List.take_of_length_le (by have := HLEN.out; omega)] at this
          exact this
        go_wp2_with fail
        go_ret
        exact ⟨by rw [decide_eq_true HE.out]; rfl, hfr.toBelow (by simp)⟩
  · have t1 : ((la.length : Int) != (lb.length : Int)) = true := by simp; omega
    have HLEN := Lib.hid hlen
    clear hlen
    go_enter Tryd.func43, Tryd.ntmps43
    go_wp2_with fail
    go_ret
    have hne : decide (la = lb) = false := decide_eq_false (fun h => HLEN.out (by rw [h]))
    exact ⟨by rw [hne]; rfl, Below.refl _ _⟩

theorem OwnI.nums {base : Nat} {w : World} {v : Value} {l : List Nat} (h : OwnI base w v l) : Nums w v l := by
  rcases h.form with ⟨h0, h1⟩ | ⟨g, cap, cur, h0, hb, hgc, h3, h4, h5, h6⟩
  · exact Or.inl ⟨h0, h1⟩
  · refine Or.inr ⟨g, 0, cap, h0, h3, by unfold maxLen at h4; omega, lt_of_block hgc, fun i hi => ?_⟩
    rw [Nat.zero_add, row_cell hgc i, natV_at h6 rfl i hi]
end Go.Proofs.YtmhejcndkplepaaDoor
