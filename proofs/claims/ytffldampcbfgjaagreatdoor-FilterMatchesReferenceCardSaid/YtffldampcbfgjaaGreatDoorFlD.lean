/-
  filter.Make: the closure that sets a bit.
-/
import Derived.Test.YtffldampcbfgjaaGreatDoorFlC
import Derived.Test.YtffldampcbfgjaaGreatDoorOwnW
import Derived.BigRegion
namespace Go.Proofs.YtffldampcbfgjaaGreatDoor
open Go.RowKit

set_option maxRecDepth 100000 in
set_option maxHeartbeats 2000000 in
theorem set_any (base bf g cap n : Nat) (bits hashes : Int) (W : List Nat) (w : World) (hb : w.heap[bf]? = some (.cells #[.int .i64 bits, .int .i64 hashes, .slice (some ⟨g, 0, none⟩) W.length cap] 25 (0, 0))) (ho : OwnW base w (.slice (some ⟨g, 0, none⟩) W.length cap) W)
    (hn : n / 64 < W.length) (hn9 : n ≤ 1000000) (hW : W64 W) :
    Calls Tryz.prog 41 #[.int .i64 (n : Int), .pointer (some ⟨bf, 0, none⟩)] w fun e w' => (∃ v, e = .returned v) ∧ Fr [g] w w' ∧ OwnW base w' (.slice (some ⟨g, 0, none⟩) W.length cap) (setW W n) := by
  obtain ⟨cur, h1, hg, h3, h4, h5, h6⟩ := ho.formN rfl
  obtain ⟨q, r, hq, hr⟩ : ∃ q r, q = n / 64 ∧ r = n % 64 := ⟨_, _, rfl, rfl⟩
  have e1 : (n : Int).tdiv 64 = (q : Int) := by rw [Int.tdiv_eq_ediv_of_nonneg (by omega)]; omega
  have e2 : (n : Int).tmod 64 = (r : Int) := by rw [Int.tmod_eq_emod_of_nonneg (by omega)]; omega
  have w1 : IntKind.i64.wrap (q : Int) = (q : Int) := IntWalk.i64_in _ (by omega)
  have w2 : IntKind.i64.wrap (r : Int) = (r : Int) := IntWalk.i64_in _ (by omega)
  have hr64 : r < 64 := by omega
  have c2 : w.drew.cell? ⟨bf, 2, none⟩ = some (.slice (some ⟨g, 0, none⟩) W.length cap) := by
    have : w.drew.heap[bf]? = _ := hb
    rw [row_cell this 2]; rfl
  obtain ⟨x, hx⟩ : ∃ x, x = W.getD q 0 := ⟨_, rfl⟩
  have cq : w.drew.cell? ⟨g, q, none⟩ = some (.int .u64 (x : Int)) := by
    have h7 : w.drew.heap[g]? = _ := hg
    rw [row_cell h7 q, hx]
    exact wrdV_at h6 rfl q (by omega)
  have fq : w.drew.frozen? ⟨g, q, none⟩ = false := row_free (show w.drew.heap[g]? = _ from hg) q
  have hx64 : x < 18446744073709551616 := by rw [hx]; exact hW.at q
  have i0 : (0 : Int) ≤ (q : Int) := by omega
  have i1 : (q : Int) < (W.length : Int) := by omega
  have HV : Hid (Go.bits .or .u64 (x : Int) (IntKind.u64.wrap (2 ^ r)) = ((x ||| 2 ^ r : Nat) : Int)) := Lib.hid (by
    have hp : 2 ^ r < 18446744073709551616 := Nat.lt_of_lt_of_le (Nat.pow_lt_pow_right (by decide) hr64) (by decide)
    rw [show ((2 : Int) ^ r) = ((2 ^ r : Nat) : Int) by simp]
    generalize 2 ^ r = p at hp ⊢
    rw [show IntKind.u64.wrap (p : Int) = (p : Int) by rw [IntKind.wrap_u64]; omega]
    exact u64_or_nat _ _ hx64 hp)
  have HS : Hid (setW W n = W.set q (x ||| 2 ^ r)) := Lib.hid (by unfold setW; rw [hx, hq, hr])
  have HG := Lib.hid hg
  have H6 := Lib.hid h6
  have HX := Lib.hid hx
  clear hb ho hg h6 hx hq hr hn
  go_enter Tryz.func41, Tryz.ntmps41
  go_wp2_with fail
  go_region
  all_goals
    rw [HV.out]
    go_end0
    refine ⟨⟨_, rfl⟩, ?_, ?_⟩
    · exact ((Fr.refl [g] w).setCell _ _ (by simp)).drew
    · rw [HS.out]
      exact (ownW_set h1 HG.out rfl h3 h4 h5 H6.out (x ||| 2 ^ r) (i := q)).fr ((Fr.refl [] _).drew) (by simp)
end Go.Proofs.YtffldampcbfgjaaGreatDoor
