/-
  digest.Chain.
-/
import Derived.Test.YtennhdgnpodkaaaGreatDoorDigE
namespace Go.Proofs.YtennhdgnpodkaaaGreatDoor
open Go.RowKit

set_option maxRecDepth 100000 in
set_option maxHeartbeats 1000000 in
theorem chain_any (l : List UInt8) (n : Int) (w : World) (hl : l.length ≤ 9223372036854775807) (hT : Tabs w) :
    Calls Tryz.prog 35 #[.string ⟨l.toArray⟩, .int .i64 n] w fun e w' => e = .returned (.string ⟨(dchain l n).toArray⟩) ∧ Below w.heap.size w w' := by
  have HT := Lib.hid hT
  clear hT
  obtain ⟨c, hc, ec, hmm⟩ : ∃ c : Nat, c ≤ 1000 ∧ c = cnt n ∧ max 0 (min n 1000) = (c : Int) := ⟨cnt n, by unfold cnt; omega, rfl, by unfold cnt; omega⟩
  have EC := Lib.hid ec
  clear ec
  go_enter Tryz.func35, Tryz.ntmps35
  go_wp2_with fail
  go_loopg [0, 8] c (fun g t i wr => ∃ k : Nat, k ≤ c ∧ g = c - k ∧ i = .int .i64 (k : Int) ∧ t = .string ⟨(chainN k l).toArray⟩ ∧ Fr [] w wr)
  case atStart => exact ⟨0, Nat.zero_le _, by omega, rfl, rfl, Fr.refl _ w⟩
  case round =>
    obtain ⟨k, hk, hg, rfl, rfl, hfr⟩ := hrel
    have HG := Lib.hid hg
    clear hg
    have hs : (chainN k l).length ≤ 9223372036854775807 := by
      cases k with
      | zero => exact hl
      | succ k => rw [chainN_succ, dsum_length]; decide
    have HS := Lib.hid (chainN_succ k l)
    by_cases hlt : k < c
    · generalize chainN k l = s at hs HS
      go_wp2_with fail
      refine (sum_any ⟨s.toArray⟩ wr (by rw [ba_size]; exact hs) (HT.out.hex.fr hfr (by simp))).mono ?_
      rintro e w1 ⟨rfl, hb1⟩
      have hfr1 : Fr [] w w1 := hfr.below hb1 hfr.size
      clear hfr hb1
      go_wp2_with fail
      go_roundg (c - (k + 1))
      case measure => have := HG.out; omega
      case rel => exact ⟨k + 1, by omega, rfl, by go_num, by rw [HS.out], hfr1⟩
    · obtain rfl : k = c := by omega
      go_wp2_with fail
      go_ret
      exact ⟨by unfold dchain; rw [← EC.out]; rfl, hfr.toBelow (by simp)⟩
end Go.Proofs.YtennhdgnpodkaaaGreatDoor
