/-
  foyerref20.Same, Place; foyerref11.Ints; foyerlaw20.party, example.
  foyerlaw20.example, head: the head answers true.
  foyerref20.Few; foyerlaw20.AuditServes.
-/
import Derived.Test.YtjddngbgbbbefaaGreatDoorAuN
import Derived.Test.YtjddngbgbbbefaaGreatDoorPlnAw
import Derived.Test.YtjddngbgbbbefaaGreatDoorAuA
import Derived.Test.YtjddngbgbbbefaaGreatDoorOwnZ
import Derived.Test.YtjddngbgbbbefaaGreatDoorTwo
import Derived.Test.YtjddngbgbbbefaaGreatDoorDrD
import Derived.BigQuiet
namespace Go.Proofs.YtjddngbgbbbefaaGreatDoor
open Go.RowKit
set_option maxRecDepth 100000

theorem aud_eq (x y : Aud) (w : World) : (Op.equalIn 10000 48 (.agg #[.int .i64 x.kind, .int .i64 x.a, .int .i64 x.b]) (.agg #[.int .i64 y.kind, .int .i64 y.a, .int .i64 y.b])).run Tryz.prog w = .ok (decide (x = y)) w := by
  have u4 := Tryz.underlying3
  have a4 := Tryz.isAgg3
  have z4 := Tryz.sizeOf3
  rw [show (10000 : Nat) = 9999 + 1 from rfl, run_equalIn_agg _ _ _ _ _ (by kernel_rfl) (by kernel_rfl)]
  obtain ⟨a1, a2, a3⟩ := x
  obtain ⟨b1, b2, b3⟩ := y
  go_simp
  by_cases h1 : a1 = b1 <;> by_cases h2 : a2 = b2 <;> by_cases h3 : a3 = b3 <;> simp [h1, h2, h3]
set_option maxHeartbeats 4000000 in
theorem rsameA_any (av bv : Value) (la lb : List Aud) (w : World) (ha : Ads w av la) (hb : Ads w bv lb) :
    Calls Tryz.prog 13 #[av, bv] w fun e w' => e = .returned (.bool (decide (la = lb))) ∧ Below w.heap.size w w' := by
  have hmx : Tryz.prog.follows .mixedOrders = true := by kernel_rfl
  have HA := Lib.hid ha
  have HB := Lib.hid hb
  obtain ⟨aa, acap, rfl, hla, hla9, hfa⟩ := ha.form
  obtain ⟨ab, bcap, rfl, hlb, hlb9, hfb⟩ := hb.form
  clear ha hb
  by_cases hlen : la.length = lb.length
  · have t1 : ((la.length : Int) != (lb.length : Int)) = false := by rw [hlen]; simp
    have HLEN := Lib.hid hlen
    clear hlen
    go_enter Tryz.func13, Tryz.ntmps13
    go_wp2_with fail
    go_loopg [5] (la.length + 1) (fun g i wr => ∃ k : Nat, k ≤ la.length ∧ g = la.length + 1 - k ∧ i = .int .i64 (k : Int) ∧ la.take k = lb.take k ∧ Fr [] w wr)
    case atStart => exact ⟨0, by omega, by omega, rfl, by simp, Fr.refl _ _⟩
    case round =>
      obtain ⟨k, hk, hg, rfl, heq, hfr⟩ := hrel
      have HG := Lib.hid hg
      have HEQ := Lib.hid heq
      clear hg heq
      by_cases hlt : k < la.length
      · have hltb : k < lb.length := by have := HLEN.out; omega
        obtain ⟨ba, offa, rfl⟩ := hfa k hlt
        obtain ⟨bb, offb, rfl⟩ := hfb k hltb
        obtain ⟨x, hx⟩ : ∃ x, la[k]? = some x := ⟨_, List.getElem?_eq_getElem hlt⟩
        obtain ⟨y, hy⟩ : ∃ x, lb[k]? = some x := ⟨_, List.getElem?_eq_getElem hltb⟩
        obtain ⟨a0, a1, a2⟩ := (HA.out.fr hfr).cells k x hx
        obtain ⟨b0, b1, b2⟩ := (HB.out.fr hfr).cells k y hy
        have t2 : decide ((k : Int) < (la.length : Int)) = true := by simp; omega
        have HSA : Hid (la.take (k + 1) = la.take k ++ [x]) := Lib.hid (by rw [List.take_add_one, hx]; rfl)
        have HSB : Hid (lb.take (k + 1) = lb.take k ++ [y]) := Lib.hid (by rw [List.take_add_one, hy]; rfl)
        have HNE : Hid (x ≠ y → la ≠ lb) := Lib.hid (fun h h2 => h (by rw [h2, hy] at hx; exact (Option.some.inj hx).symm))
        have i0 : (0 : Int) ≤ (k : Int) := by omega
        have i1 : (k : Int) < (la.length : Int) := by omega
        have i2 : (k : Int) < (lb.length : Int) := by omega
        obtain ⟨d, hd⟩ : ∃ d, d = decide (x = y) := ⟨_, rfl⟩
        have hqq : ∀ w, (Op.equalIn 10000 48 (.agg #[.int .i64 x.kind, .int .i64 x.a, .int .i64 x.b]) (.agg #[.int .i64 y.kind, .int .i64 y.a, .int .i64 y.b])).run Tryz.prog w = .ok d w := fun w => by
          rw [hd]
          exact aud_eq x y w
        have HD := Lib.hid hd
        clear hx hy hd
        cases d with
        | true =>
          have HXY : Hid (x = y) := Lib.hid (of_decide_eq_true HD.out.symm)
          go_wp2_with fail
          go_quiet (fail)
          go_wp2_with fail
          go_roundg (la.length + 1 - (k + 1))
          case measure => have := HG.out; omega
          case rel => exact ⟨k + 1, by omega, rfl, by go_num, by rw [HSA.out, HSB.out, HEQ.out, HXY.out], hfr.drewN _⟩
        | false =>
          have HXY : Hid (x ≠ y) := Lib.hid (of_decide_eq_false HD.out.symm)
          go_wp2_with fail
          go_quiet (fail)
          go_wp2_with fail
          go_ret
          have hne : decide (la = lb) = false := decide_eq_false (HNE.out HXY.out)
          exact ⟨by rw [hne]; rfl, (hfr.drewN _).toBelow (by simp)⟩
      · obtain rfl : k = la.length := by omega
        have t2 : decide ((la.length : Int) < (la.length : Int)) = false := by simp
        have HE : Hid (la = lb) := by
          have := HEQ.out
          rw [List.take_length, List.take_of_length_le (by have := HLEN.out; omega)] at this
          exact this
        go_wp2_with fail
        go_ret
        exact ⟨by rw [decide_eq_true HE.out]; rfl, hfr.toBelow (by simp)⟩
  · have t1 : ((la.length : Int) != (lb.length : Int)) = true := by simp; omega
    have HLEN := Lib.hid hlen
    clear hlen
    go_enter Tryz.func13, Tryz.ntmps13
    go_wp2_with fail
    go_ret
    have hne : decide (la = lb) = false := decide_eq_false (fun h => HLEN.out (by rw [h]))
    exact ⟨by rw [hne]; rfl, Below.refl _ _⟩
set_option maxHeartbeats 4000000 in
theorem zints_any (av bv : Value) (la lb : List Int) (w : World) (ha : Zs w av la) (hb : Zs w bv lb) :
    Calls Tryz.prog 42 #[av, bv] w fun e w' => e = .returned (.bool (decide (la = lb))) ∧ Below w.heap.size w w' := by
  have hmx : Tryz.prog.follows .mixedOrders = true := by kernel_rfl
  have HA := Lib.hid ha
  have HB := Lib.hid hb
  obtain ⟨aa, acap, rfl, hla, hla9, hfa⟩ := ha.form
  obtain ⟨ab, bcap, rfl, hlb, hlb9, hfb⟩ := hb.form
  clear ha hb
  by_cases hlen : la.length = lb.length
  · have t1 : ((la.length : Int) != (lb.length : Int)) = false := by rw [hlen]; simp
    have HLEN := Lib.hid hlen
    clear hlen
    go_enter Tryz.func42, Tryz.ntmps42
    go_wp2_with fail
    go_loopg [5] (la.length + 1) (fun g i wr => ∃ k : Nat, k ≤ la.length ∧ g = la.length + 1 - k ∧ i = .int .i64 (k : Int) ∧ la.take k = lb.take k ∧ Fr [] w wr)
    case atStart => exact ⟨0, by omega, by omega, rfl, by simp, Fr.refl _ _⟩
    case round =>
      obtain ⟨k, hk, hg, rfl, heq, hfr⟩ := hrel
      have HG := Lib.hid hg
      have HEQ := Lib.hid heq
      clear hg heq
      by_cases hlt : k < la.length
      · have hltb : k < lb.length := by have := HLEN.out; omega
        obtain ⟨ba, offa, rfl⟩ := hfa k hlt
        obtain ⟨bb, offb, rfl⟩ := hfb k hltb
        have hca := (HA.out.fr0 hfr).cell k hlt
        have hcb := (HB.out.fr0 hfr).cell k hltb
        have HSA := Lib.hid (take_snoc' la k 0 hlt)
        have HSB := Lib.hid (take_snoc' lb k 0 hltb)
        have t2 : decide ((k : Int) < (la.length : Int)) = true := by simp; omega
        have i0 : (0 : Int) ≤ (k : Int) := by omega
        have i1 : (k : Int) < (la.length : Int) := by omega
        have i2 : (k : Int) < (lb.length : Int) := by omega
        have HGA : Hid (la.getD k 0 ≠ lb.getD k 0 → la ≠ lb) := fun h h' => h (by rw [h'])
        generalize la.getD k 0 = x at hca HSA HGA
        generalize lb.getD k 0 = y at hcb HSB HGA
        by_cases hxy : x = y
        · have t3 : (x != y) = false := by rw [hxy]; simp
          have t4 : (x == y) = true := by rw [hxy]; simp
          have HXY := Lib.hid hxy
          clear hxy
          go_wp2_with fail
          go_quiet (fail)
          go_wp2_with fail
          go_roundg (la.length + 1 - (k + 1))
          case measure => have := HG.out; omega
          case rel => exact ⟨k + 1, by omega, rfl, by go_num, by rw [HSA.out, HSB.out, HEQ.out, HXY.out], hfr.drewN _⟩
        · have t3 : (x != y) = true := by simpa using hxy
          have t4 : (x == y) = false := by simpa using hxy
          have HXY := Lib.hid hxy
          clear hxy
          go_wp2_with fail
          go_quiet (fail)
          go_wp2_with fail
          go_ret
          have hne : decide (la = lb) = false := decide_eq_false (HGA.out HXY.out)
          exact ⟨by rw [hne]; rfl, (hfr.drewN _).toBelow (by simp)⟩
      · obtain rfl : k = la.length := by omega
        have t2 : decide ((la.length : Int) < (la.length : Int)) = false := by simp
        have HE : Hid (la = lb) := by
          have := HEQ.out
          rw [List.take_length, List.take_of_length_le (by have := HLEN.out; omega)] at this
          exact this
        go_wp2_with fail
        go_ret
        exact ⟨by rw [decide_eq_true HE.out]; rfl, hfr.toBelow (by simp)⟩
  · have t1 : ((la.length : Int) != (lb.length : Int)) = true := by simp; omega
    have HLEN := Lib.hid hlen
    clear hlen
    go_enter Tryz.func42, Tryz.ntmps42
    go_wp2_with fail
    go_ret
    have hne : decide (la = lb) = false := decide_eq_false (fun h => HLEN.out (by rw [h]))
    exact ⟨by rw [hne]; rfl, Below.refl _ _⟩

theorem placeL_at {l : List Int} {n : Int} {k : Nat} (hk : k < l.length) (hx : l.getD k 0 = n) (hno : ∀ j, j < k → l.getD j 0 ≠ n) : placeL l n = (k : Int) := by
  refine placeL_some ?_ (fun j hj e => ?_)
  · rw [List.getElem?_eq_getElem hk]
    rw [List.getD_eq_getElem?_getD, List.getElem?_eq_getElem hk] at hx
    simpa using hx
  · have := hno j hj
    rw [List.getD_eq_getElem?_getD, e] at this
    simp at this
set_option maxHeartbeats 2000000 in
theorem rplace_any (v : Value) (l : List Int) (n : Int) (w : World) (hv : Zs w v l) :
    Calls Tryz.prog 25 #[v, .int .i64 n] w fun e w' => e = .returned (.int .i64 (placeL l n)) ∧ w' = w := by
  obtain ⟨a, cap, rfl, hl, hl9, ha⟩ := hv.form
  have HV := Lib.hid hv
  clear hv
  obtain ⟨m, em⟩ : ∃ m, m = l.length := ⟨_, rfl⟩
  rw [← em] at hl ha HV ⊢
  have EM := Lib.hid em
  clear em
  go_enter Tryz.func25, Tryz.ntmps25
  go_wp2_with fail
  go_loop [5] (fun i => ∃ k : Nat, k ≤ m ∧ i = .int .i64 (k : Int) ∧ ∀ j, j < k → l.getD j 0 ≠ n) (fun i => m - (intOf i).toNat)
  case atStart => exact ⟨0, by omega, rfl, fun j hj => by omega⟩
  case round =>
    obtain ⟨k, hk, rfl, hno⟩ := hrel
    have HNO := Lib.hid hno
    clear hno
    by_cases hlt : k < m
    · obtain ⟨b, off, rfl⟩ := ha k hlt
      have c := HV.out.cell k (by rw [← EM.out]; exact hlt)
      obtain ⟨x, ex⟩ : ∃ x, x = l.getD k 0 := ⟨_, rfl⟩
      rw [← ex] at c
      have EX := Lib.hid ex
      have t2 : decide ((k : Int) < (m : Int)) = true := by simp; omega
      have i0 : (0 : Int) ≤ (k : Int) := by omega
      have i1 : (k : Int) < (m : Int) := by omega
      clear ex
      by_cases hx : x = n
      · have t3 : (x == n) = true := by simpa using hx
        have HX := Lib.hid hx
        clear hx
        go_wp2_with fail
        go_ret
        exact ⟨by rw [placeL_at (by rw [← EM.out]; exact hlt) (by rw [← EX.out]; exact HX.out) HNO.out]; rfl, rfl⟩
      · have t3 : (x == n) = false := by simpa using hx
        have HX := Lib.hid hx
        clear hx
        go_wp2_with fail
        go_round
        case rel => exact ⟨k + 1, by omega, by go_num, fun j hj => by
          rcases (show j < k ∨ j = k by omega) with h | h
          · exact HNO.out j h
          · rw [h, ← EX.out]; exact HX.out⟩
        case measure => simp [intOf]; omega
    · obtain rfl : k = m := by omega
      have t2 : decide ((k : Int) < (k : Int)) = false := by simp
      have HN : Hid (placeL l n = -1) := Lib.hid (placeL_none (fun hm => by
        obtain ⟨i, hi, e⟩ := List.getElem_of_mem hm
        have := HNO.out i (by rw [EM.out]; exact hi)
        rw [List.getD_eq_getElem?_getD, List.getElem?_eq_getElem hi] at this
        exact this (by simpa using e)))
      go_wp2_with fail
      go_ret
      exact ⟨by rw [HN.out]; rfl, rfl⟩

def partyS (x y : List UInt8) : Pty := ⟨x, dlist [x, y], y⟩
set_option maxHeartbeats 2000000 in
theorem party_any (x y : List UInt8) (w : World) (h0 : x.length ≤ 1000000) (h1 : y.length ≤ 1000000) (hT : Tabs w) :
    Calls Tryz.prog 20 #[.string ⟨x.toArray⟩, .string ⟨y.toArray⟩] w fun e w' => e = .returned (ptyV (partyS x y)) ∧ Below w.heap.size w w' := by
  unfold ptyV partyS
  simp only
  have HT := Lib.hid hT
  clear hT
  obtain ⟨W0, hW0⟩ : ∃ W0, W0 = w.alloc (.cells #[.string ⟨#[]⟩, .string ⟨#[]⟩, .string ⟨#[]⟩] 46) := ⟨_, rfl⟩
  obtain ⟨p, ep⟩ : ∃ q, q = w.heap.size := ⟨_, rfl⟩
  have f0 : Fr [] w W0 := by rw [hW0]; exact (Fr.refl [] w).alloc _
  have HP0 := Lib.hid (show W0.heap[p]? = some (.cells #[.string ⟨#[]⟩, .string ⟨#[]⟩, .string ⟨#[]⟩] 46 (0, 0)) by rw [hW0]; exact heap_new ep)
  have EP := Lib.hid ep
  have HSZ : Hid (p + 1 = W0.heap.size) := Lib.hid (by rw [hW0, ep]; simp)
  go_enter Tryz.func20, Tryz.ntmps20
  go_wp2_with fail
  rw [← hW0, ← ep]
  clear hW0 ep
  have f1 := f0.alloc (.cells #[.string ⟨x.toArray⟩, .string ⟨y.toArray⟩] 9)
  have hs2 := strs_two (heap_new (w := W0) (o := .cells #[.string ⟨x.toArray⟩, .string ⟨y.toArray⟩] 9) HSZ.out)
  refine (list_any _ [x, y] _ hs2 (two_joinE x y h0 h1) (HT.out.fr f1)).mono ?_
  rintro e w1 ⟨rfl, hb⟩
  have hf : Fr [] W0 w1 := ((Fr.refl [] W0).alloc _).below hb ((Fr.refl [] W0).alloc _).size
  have HF := Lib.hid (f0.trans hf (by simp))
  have hp1 := hf.at HP0.out (by simp)
  have HP1 := Lib.hid hp1
  have y0 := row_free hp1 0
  have y1 := row_free hp1 1
  have y2 := row_free hp1 2
  have z0 := row_cell hp1 0
  have z1 := row_cell hp1 1
  have z2 := row_cell hp1 2
  simp at z0 z1 z2
  obtain ⟨d, ed⟩ : ∃ d, d = dlist [x, y] := ⟨_, rfl⟩
  rw [← ed]
  have ED := Lib.hid ed
  clear hb hf f1 f0 hp1 ed hs2
  go_wp2_with fail
  have hr := row_set (row_set (row_set HP1.out 0 (.string ⟨x.toArray⟩)) 1 (.string ⟨d.toArray⟩)) 2 (.string ⟨y.toArray⟩)
  have m0 := row_cell hr 0
  have m1 := row_cell hr 1
  have m2 := row_cell hr 2
  simp at m0 m1 m2
  clear hr
  have hq : w.heap.size ≤ p := by rw [EP.out]; exact Nat.le_refl _
  refine bodyPost_ret (v := .agg #[.string ⟨x.toArray⟩, .string ⟨d.toArray⟩, .string ⟨y.toArray⟩]) ?_ rfl ⟨by rw [← ED.out], ((((HF.out.setCell ⟨p, 0, none⟩ _ (Or.inr hq)).setCell ⟨p, 1, none⟩ _ (Or.inr hq)).setCell ⟨p, 2, none⟩ _ (Or.inr hq))).toBelow (by simp)⟩
  simp only [results]
  go_simp
end Go.Proofs.YtjddngbgbbbefaaGreatDoor
namespace Go.Proofs.YtjddngbgbbbefaaGreatDoor
open Go.RowKit
set_option maxRecDepth 100000

theorem pts_lst {W : World} {b n : Nat} {cs : Array Value} {t : TypeId} {l : List Pty} (hn : l.length = n) (hsz : n ≤ 1000000) (h : W.heap[b]? = some (.cells cs t (0, 0)))
    (hc : ∀ (i : Nat) (p : Pty), l[i]? = some p → cs[i * 3]? = some (.string ⟨p.name.toArray⟩) ∧ cs[i * 3 + 1]? = some (.string ⟨p.com.toArray⟩) ∧ cs[i * 3 + 2]? = some (.string ⟨p.rev.toArray⟩)) : Pts W (.slice (some ⟨b, 0, none⟩) n n) l := by
  refine Or.inr ⟨b, 0, n, by rw [hn], by omega, by omega, lt_of_block h, fun i p hp => ?_⟩
  obtain ⟨h1, h2, h3⟩ := hc i p hp
  exact ⟨by rw [Nat.zero_add, row_cell h]; exact h1, by rw [Nat.zero_add, row_cell h]; exact h2, by rw [Nat.zero_add, row_cell h]; exact h3⟩
theorem hE_sizes : (dsum [112]).length ≤ 1000000 ∧ (dsum [113]).length ≤ 1000000 ∧ (dlist [hA, [49]]).length ≤ 1000000 ∧ (dlist [hB, [50]]).length ≤ 1000000 ∧ (dlist [hC, [51]]).length ≤ 1000000 := by
  unfold dlist
  simp only [dsum_length]
  decide
set_option maxHeartbeats 4000000 in
theorem example_any (w : World) (hT : Tabs w) :
    Calls Tryz.prog 24 #[] w fun e w' => ∃ b, e = .returned (.slice (some ⟨b, 0, none⟩) 3 3) ∧ Pts w' (.slice (some ⟨b, 0, none⟩) 3 3) hE ∧ Below w.heap.size w w' := by
  have HT := Lib.hid hT
  clear hT
  obtain ⟨p, ep⟩ : ∃ p, p = dsum [112] := ⟨_, rfl⟩
  obtain ⟨q, eq⟩ : ∃ q, q = dsum [113] := ⟨_, rfl⟩
  have HEP := Lib.hid ep
  have HEQ := Lib.hid eq
  clear ep eq
  go_enter Tryz.func24, Tryz.ntmps24
  go_wp2_with fail
  refine (sum_any ⟨#[112]⟩ w (by decide) (HT.out.hex)).mono ?_
  rintro e w1 ⟨rfl, hb1⟩
  have f1 : Fr [] w w1 := Fr.ofBelow hb1
  rw [show dsum (ByteArray.mk #[112]).data.toList = p from HEP.out.symm]
  clear hb1
  go_wp2_with fail
  refine (commit_any hA [49] w1 (by decide) (by decide) (HT.out.fr f1)).mono ?_
  rintro e w2 ⟨rfl, hb⟩
  have f2 := f1.below hb f1.size
  clear hb
  obtain ⟨c1, e1⟩ : ∃ c, c = dlist [hA, [49]] := ⟨_, rfl⟩
  rw [← e1]
  have HE1 := Lib.hid e1
  clear e1
  go_wp2_with fail
  refine (sum_any ⟨#[113]⟩ w2 (by decide) ((HT.out.fr f2).hex)).mono ?_
  rintro e w3 ⟨rfl, hb⟩
  have f3 := f2.below hb f2.size
  rw [show dsum (ByteArray.mk #[113]).data.toList = q from HEQ.out.symm]
  clear hb
  go_wp2_with fail
  refine (commit_any hB [50] w3 (by decide) (by decide) (HT.out.fr f3)).mono ?_
  rintro e w4 ⟨rfl, hb⟩
  have f4 := f3.below hb f3.size
  clear hb
  obtain ⟨c2, e2⟩ : ∃ c, c = dlist [hB, [50]] := ⟨_, rfl⟩
  rw [← e2]
  have HE2 := Lib.hid e2
  clear e2
  go_wp2_with fail
  refine (commit_any hC [51] w4 (by decide) (by decide) (HT.out.fr f4)).mono ?_
  rintro e w5 ⟨rfl, hb⟩
  have f5 := f4.below hb f4.size
  clear hb
  obtain ⟨c3, e3⟩ : ∃ c, c = dlist [hC, [51]] := ⟨_, rfl⟩
  rw [← e3]
  have HE3 := Lib.hid e3
  have HF5 := Lib.hid f5
  clear e3 f1 f2 f3 f4 f5
  go_wp2_with fail
  go_ret
  refine ⟨w5.heap.size, rfl, ?_, (HF5.out.alloc _).toBelow (by simp)⟩
  refine pts_lst rfl (by decide) (heap_new rfl) (fun i x hx => ?_)
  unfold hE hE0 hE1 hE2 at hx
  rw [← HEP.out, ← HEQ.out, ← HE1.out, ← HE2.out, ← HE3.out] at hx
  match i, hx with
  | 0, hx => cases hx; exact ⟨rfl, rfl, rfl⟩
  | 1, hx => cases hx; exact ⟨rfl, rfl, rfl⟩
  | 2, hx => cases hx; exact ⟨rfl, rfl, rfl⟩
  | i + 3, hx => simp at hx
theorem hP_pts {W : World} {b : Nat} {t : TypeId} (h : W.heap[b]? = some (.cells #[.string ⟨hP0.name.toArray⟩, .string ⟨hP0.com.toArray⟩, .string ⟨hP0.rev.toArray⟩, .string ⟨hP1.name.toArray⟩, .string ⟨hP1.com.toArray⟩, .string ⟨hP1.rev.toArray⟩] t (0, 0))) : Pts W (.slice (some ⟨b, 0, none⟩) 2 2) hP :=
  pts_lst rfl (by decide) h (fun i x hx => by
    unfold hP at hx
    match i, hx with
    | 0, hx => cases hx; exact ⟨rfl, rfl, rfl⟩
    | 1, hx => cases hx; exact ⟨rfl, rfl, rfl⟩
    | i + 2, hx => simp at hx)
theorem entS_hE : EntS hE := by
  have h := hE_sizes
  intro e he
  simp only [hE, List.mem_cons, List.not_mem_nil, or_false] at he
  rcases he with rfl | rfl | rfl
  · exact ⟨by decide, h.1, h.2.2.1⟩
  · exact ⟨by decide, h.2.1, h.2.2.2.1⟩
  · exact ⟨by decide, h.1, h.2.2.2.2⟩
theorem hP_small : ∀ p ∈ hP, p.name.length ≤ 1000000 ∧ p.rev.length ≤ 1000000 := by decide
theorem pblS_head {R : List UInt8} {order served : List Int} (hr : R.length ≤ 1000000) (ho : order.length ≤ 1000) (ho2 : ∀ k ∈ order, inI k) (hs : served.length ≤ 1000) (hs2 : ∀ k ∈ served, inI k) : PblS ⟨hE, R, hP, order, served⟩ :=
  ⟨entS_hE, show hE.length ≤ 1000 from (by decide), hP_small, show hP.length ≤ 1000 from (by decide), hr, ho, ho2, hs, hs2⟩
theorem inI_nat (n : Nat) (h : n ≤ 1000000) : inI (n : Int) := by unfold inI; omega
theorem ownZ_newA {base n : Nat} {W : World} (hk : n = W.heap.size) (hb : base ≤ n) : OwnZ base (W.alloc (.cells #[] 3)) (.slice (some ⟨n, 0, none⟩) 0 0) [] := by
  subst hk; exact ownZ_empty hb
theorem zs_oneA {w : World} {g : Nat} {x : Int} (h : w.heap[g]? = some (.cells #[.int .i64 x] 3 (0, 0))) : Zs w (.slice (some ⟨g, 0, none⟩) 1 1) [x] := by
  refine Or.inr ⟨g, 0, 1, rfl, Nat.le_refl _, by decide, lt_of_block h, fun i hi => ?_⟩
  rw [Nat.zero_add, row_cell h i]
  match i, hi with
  | 0, _ => rfl
theorem path_small : ∀ (l : List (List UInt8)) (i : Nat), (∀ t ∈ l, t.length ≤ 1000000) → ∀ s ∈ pathL l i, s.length ≤ 1000000 := by
  have key : ∀ (n : Nat) (l : List (List UInt8)) (i : Nat), l.length = n → (∀ t ∈ l, t.length ≤ 1000000) → ∀ s ∈ pathL l i, s.length ≤ 1000000 := by
    intro n
    induction n using Nat.strongRecOn with
    | ind n ih =>
      intro l i hn hl s hs
      unfold pathL at hs
      split at hs
      · rename_i h1
        have hu := upL_length l
        rcases List.mem_append.1 hs with h | h
        · split at h
          · rename_i h2
            rw [List.mem_singleton.1 h]
            exact hl _ (getD_mem _ _ _ h2)
          · cases h
        · refine ih (upL l).length (by omega) (upL l) (i / 2) rfl (fun t ht => ?_) s h
          obtain ⟨k, hk, rfl⟩ := List.getElem_of_mem ht
          have h2 := upL_at l k (by omega)
          have h3 : (upL l)[k] = (upL l).getD k [] := by rw [List.getD_eq_getElem?_getD, List.getElem?_eq_getElem hk]; rfl
          rw [h3, h2]
          split
          · unfold nodeD dlist
            rw [dsum_length]
            decide
          · exact hl _ (getD_mem _ _ _ (by omega))
      · cases hs
  exact fun l i hl s hs => key _ l i rfl hl s hs
theorem Zs.nil9 {w : World} {v : Value} (h : Zs w v []) : ∃ a c, v = .slice a 0 c := by
  obtain ⟨a, c, e, _⟩ := h.form
  exact ⟨a, c, e⟩
theorem rplaceB_any (v : Value) (l : List Int) (n : Int) (w : World) (hv : Zs w v l) :
    Calls Tryz.prog 25 #[v, .int .i64 n] w fun e w' => e = .returned (.int .i64 (placeL l n)) ∧ Below w.heap.size w w' := (rplace_any v l n w hv).mono fun e w' h => ⟨h.1, by rw [h.2]; exact Below.refl _ _⟩
theorem rsameT_any (av bv : Value) (l : List Aud) (w : World) (ha : Ads w av l) (hb : Ads w bv l) :
    Calls Tryz.prog 13 #[av, bv] w fun e w' => e = .returned (.bool true) ∧ Below w.heap.size w w' := (rsameA_any av bv l l w ha hb).mono fun e w' h => ⟨by rw [h.1, decide_eq_true rfl], h.2⟩
theorem chkN_any (v : Value) (p : Pbl) (L : List Aud) (n : Nat) (w : World) (hv : PblR w v p) (hs : PblS p) (hT : Tabs w) (hL : checkS (clsL p.ents) p = L) (hn : L.length = n) :
    Calls Tryz.prog 14 #[v] w fun e w' => ∃ ca cc, e = .returned (.slice ca n cc) ∧ Ads w' (.slice ca n cc) L ∧ Below w.heap.size w w' := (check20_any v p w hv hs hT).mono fun e w' ⟨v', he, ha, hb⟩ => by
  rw [hL] at ha
  obtain ⟨x, c, e', _⟩ := ha.form
  rw [hn] at e'
  subst e'
  exact ⟨x, c, he, ha, hb⟩
theorem ads_lst {W : World} {b n : Nat} {cs : Array Value} {t : TypeId} {l : List Aud} (hn : l.length = n) (hsz : n ≤ 1000000) (h : W.heap[b]? = some (.cells cs t (0, 0)))
    (hc : ∀ (i : Nat) (p : Aud), l[i]? = some p → cs[i * 3]? = some (.int .i64 p.kind) ∧ cs[i * 3 + 1]? = some (.int .i64 p.a) ∧ cs[i * 3 + 2]? = some (.int .i64 p.b)) : Ads W (.slice (some ⟨b, 0, none⟩) n n) l := by
  refine Or.inr ⟨b, 0, n, by rw [hn], by omega, by omega, lt_of_block h, fun i p hp => ?_⟩
  obtain ⟨h1, h2, h3⟩ := hc i p hp
  exact ⟨by rw [Nat.zero_add, row_cell h]; exact h1, by rw [Nat.zero_add, row_cell h]; exact h2, by rw [Nat.zero_add, row_cell h]; exact h3⟩
theorem ads2 {W : World} {g : Nat} {t : TypeId} {x y : Aud} (h : W.heap[g]? = some (.cells #[.int .i64 x.kind, .int .i64 x.a, .int .i64 x.b, .int .i64 y.kind, .int .i64 y.a, .int .i64 y.b] t (0, 0))) : Ads W (.slice (some ⟨g, 0, none⟩) 2 2) [x, y] :=
  ads_lst rfl (by decide) h (fun i z hz => by
    match i, hz with
    | 0, hz => cases hz; exact ⟨rfl, rfl, rfl⟩
    | 1, hz => cases hz; exact ⟨rfl, rfl, rfl⟩
    | i + 2, hz => simp at hz)
theorem ads1 {W : World} {g : Nat} {t : TypeId} {x : Aud} (h : W.heap[g]? = some (.cells #[.int .i64 x.kind, .int .i64 x.a, .int .i64 x.b] t (0, 0))) : Ads W (.slice (some ⟨g, 0, none⟩) 1 1) [x] :=
  ads_lst rfl (by decide) h (fun i z hz => by
    match i, hz with
    | 0, hz => cases hz; exact ⟨rfl, rfl, rfl⟩
    | i + 1, hz => simp at hz)
theorem inclB_any (root : List UInt8) (n i : Int) (p : Pty) (pv : Value) (path : List (List UInt8)) (w : World) (b : Bool) (hn : -9223372036854775808 ≤ n ∧ n < 9223372036854775808) (hi : -9223372036854775808 ≤ i ∧ i < 9223372036854775808)
    (h0 : p.name.length ≤ 1000000) (h1 : p.com.length ≤ 1000000) (h2 : p.rev.length ≤ 1000000) (hp : Strs w pv path) (hps : ∀ s ∈ path, s.length ≤ 1000000) (hT : Tabs w) (hb : (validB p && chkB root n i (textS p) path) = b) :
    Calls Tryz.prog 17 #[.string ⟨root.toArray⟩, .int .i64 n, .int .i64 i, ptyV p, pv] w fun e w' => e = .returned (.bool b) ∧ Below w.heap.size w w' := (included_any root n i p pv path w hn hi h0 h1 h2 hp hps hT).mono fun e w' h => ⟨by rw [h.1, hb], h.2⟩
set_option maxHeartbeats 32000000 in
theorem head20_any (w : World) (hT : Tabs w) :
    Calls Tryz.prog 5 #[] w fun e w' => e = .returned (.bool true) ∧ Below w.heap.size w w' := by
  obtain ⟨R, a, b, hH⟩ := head20_plain
  have HH := Lib.hid hH
  have HT := Lib.hid hT
  clear hT hH
  have hmx : Tryz.prog.follows .mixedOrders = true := by kernel_rfl
  go_enter Tryz.func5, Tryz.ntmps5
  go_wp2_with fail
  refine (example_any w HT.out).mono ?_
  rintro e w1 ⟨be, rfl, hpe, hb⟩
  have f1 : Fr [] w w1 := Fr.ofBelow hb
  have HPE := Lib.hid hpe
  clear hb hpe
  go_wp2_with fail
  refine (party_any [120] [111, 110, 101] w1 (by decide) (by decide) (HT.out.fr f1)).mono ?_
  rintro e w2 ⟨rfl, hb⟩
  have g2 : Fr [] w1 w2 := Fr.ofBelow hb
  have f2 := f1.trans g2 (by simp)
  have HPE2 := Lib.hid (HPE.out.fr g2)
  rw [show partyS [120] [111, 110, 101] = hP0 from rfl]
  unfold ptyV
  clear hb g2
  go_wp2_with fail
  refine (party_any [121] [116, 119, 111] w2 (by decide) (by decide) (HT.out.fr f2)).mono ?_
  rintro e w3 ⟨rfl, hb⟩
  have g3 : Fr [] w2 w3 := Fr.ofBelow hb
  have f3 := f2.trans g3 (by simp)
  have HPE3 := Lib.hid (HPE2.out.fr g3)
  rw [show partyS [121] [116, 119, 111] = hP1 from rfl]
  unfold ptyV
  have HF3 := Lib.hid f3
  clear hb g3 f1 f2 f3
  go_wp2_with fail

  obtain ⟨W4, hW4⟩ : ∃ W4, W4 = w3.alloc (.cells #[.string ⟨hP0.name.toArray⟩, .string ⟨hP0.com.toArray⟩, .string ⟨hP0.rev.toArray⟩, .string ⟨hP1.name.toArray⟩, .string ⟨hP1.com.toArray⟩, .string ⟨hP1.rev.toArray⟩] 46) := ⟨_, rfl⟩
  have f4 : Fr [] w3 W4 := by rw [hW4]; exact (Fr.refl [] w3).alloc _
  have hpp : Pts W4 (.slice (some ⟨w3.heap.size, 0, none⟩) 2 2) hP := by rw [hW4]; exact hP_pts (heap_new rfl)
  have hpub := publish_any (.slice (some ⟨be, 0, none⟩) 3 3) (.slice (some ⟨w3.heap.size, 0, none⟩) 2 2) hE hP W4 (HPE3.out.fr f4) hpp entS_hE (by decide) (by decide) hP_small (HT.out.fr (HF3.out.trans f4 (by simp)))
  rw [HH.out.pub] at hpub
  have HPUB := Lib.hid hpub
  have HF4 := Lib.hid (HF3.out.trans f4 (by simp))
  rw [← hW4]
  clear hpub hpp f4 hW4
  refine HPUB.out.mono ?_
  rintro e w5 ⟨pv0, rfl, hpr, hb⟩
  have hf5 := HF4.out.below hb HF4.out.size
  have HRD := Lib.hid hpr
  obtain ⟨ev, pv, ov, sv, rfl, h1, h2, h3, h4⟩ := hpr
  obtain ⟨ea, ec, rfl⟩ : ∃ ea ec, ev = .slice ea 3 ec := by obtain ⟨x, c, h, _⟩ := h1.form; exact ⟨x, c, h⟩
  obtain ⟨pa, pc, rfl⟩ : ∃ ea ec, pv = .slice ea 2 ec := by obtain ⟨x, c, h, _⟩ := h2.form; exact ⟨x, c, h⟩
  obtain ⟨ob, oo, oc, rfl⟩ : ∃ ob oo oc, ov = .slice (some ⟨ob, oo, none⟩) 2 oc := by
    obtain ⟨x, c, h, _, _, hx⟩ := h3.form
    obtain ⟨p, q, rfl⟩ := hx 0 (by simp)
    exact ⟨p, q, c, h⟩
  obtain ⟨sa, sc, rfl⟩ := h4.nil9
  have HE := Lib.hid h1
  have HP := Lib.hid h2
  have HO := Lib.hid h3
  have HOB : Hid (ob < w5.heap.size) := Lib.hid (by
    rcases h3 with ⟨h, _⟩ | ⟨b', off', cap', h, _, _, hb', _⟩
    · cases h
    · cases h; exact hb')
  have HS := Lib.hid h4
  obtain ⟨W5, hW5⟩ : ∃ W, W = w5.alloc (.cells #[.slice ea 3 ec, .string ⟨R.toArray⟩, .slice pa 2 pc, .slice (some ⟨ob, oo, none⟩) 2 oc, .slice sa 0 sc] 26) := ⟨_, rfl⟩
  obtain ⟨pb, epb⟩ : ∃ q, q = w5.heap.size := ⟨_, rfl⟩
  have hp5 : W5.heap[pb]? = some (.cells #[.slice ea 3 ec, .string ⟨R.toArray⟩, .slice pa 2 pc, .slice (some ⟨ob, oo, none⟩) 2 oc, .slice sa 0 sc] 26 (0, 0)) := by rw [hW5]; exact heap_new epb
  have f5 : Fr [] w5 W5 := by rw [hW5]; exact (Fr.refl [] w5).alloc _
  have HF5 := Lib.hid (hf5.trans f5 (by simp))
  have HF5W := Lib.hid hf5
  have HP5 := Lib.hid hp5
  have HRD5 := Lib.hid (HRD.out.fr f5)
  have HW5 : Hid (Fr [] w5 W5) := Lib.hid f5
  have p0 := row_cell hp5 0
  have p1 := row_cell hp5 1
  have p2 := row_cell hp5 2
  have p3 := row_cell hp5 3
  have p4 := row_cell hp5 4
  simp at p0 p1 p2 p3 p4
  rw [hW5, epb] at p0 p1 p2 p3 p4
  clear hb hf5 h1 h2 h3 h4 hp5 f5
  go_wp2_with fail
  rw [← hW5, ← epb]
  have HBP : Hid (w.heap.size ≤ pb ∧ w5.heap.size ≤ pb) := Lib.hid (by rw [epb]; exact ⟨HF5W.out.size, Nat.le_refl _⟩)
  clear p0 p1 p2 p3 p4 hW5 epb
  have HAB : Hid (a ≤ 1 ∧ b ≤ 1) := Lib.hid (by rcases HH.out.ab with ⟨h1, h2⟩ | ⟨h1, h2⟩ <;> omega)
  have HII : Hid (∀ k ∈ [(a : Int), (b : Int)], inI k) := Lib.hid (fun k hk => by
    have := HAB.out
    simp only [List.mem_cons, List.not_mem_nil, or_false] at hk
    unfold inI
    rcases hk with rfl | rfl <;> omega)
  have HRL : Hid (R.length ≤ 1000000) := Lib.hid (by have := HH.out.rl; omega)
  have hck := check20_any _ _ W5 HRD5.out (pblS_head HRL.out (by simp) HII.out (by simp) (fun k hk => by cases hk)) (HT.out.fr HF5.out)
  rw [show (⟨hE, R, hP, [(a : Int), (b : Int)], []⟩ : Pbl).ents = hE from rfl, HH.out.c0] at hck
  have HCK := Lib.hid hck
  clear hck
  refine HCK.out.mono ?_
  rintro e w6 ⟨cv, rfl, hcv, hb⟩
  obtain ⟨ca, cc, rfl⟩ : ∃ x c, cv = .slice x 0 c := by obtain ⟨x, c, h, _⟩ := hcv.form; exact ⟨x, c, h⟩
  have f6 := Fr.ofBelow (X := []) hb
  have HF6 := Lib.hid (HF5.out.trans f6 (by simp))
  have HW6 := Lib.hid (HW5.out.trans f6 (by simp))
  have HP6 := Lib.hid (f6.at HP5.out (by simp))
  clear hb hcv f6 HCK
  -- q, a copy
  obtain ⟨W7, hW7⟩ : ∃ W, W = w6.alloc (.cells #[.slice ea 3 ec, .string ⟨R.toArray⟩, .slice pa 2 pc, .slice (some ⟨ob, oo, none⟩) 2 oc, .slice sa 0 sc] 26) := ⟨_, rfl⟩
  obtain ⟨qb, eqb⟩ : ∃ q, q = w6.heap.size := ⟨_, rfl⟩
  have hq7 : W7.heap[qb]? = some (.cells #[.slice ea 3 ec, .string ⟨R.toArray⟩, .slice pa 2 pc, .slice (some ⟨ob, oo, none⟩) 2 oc, .slice sa 0 sc] 26 (0, 0)) := by rw [hW7]; exact heap_new eqb
  have f7 : Fr [] w6 W7 := by rw [hW7]; exact (Fr.refl [] w6).alloc _
  have HF7 := Lib.hid (HF6.out.trans f7 (by simp))
  have HW7 := Lib.hid (HW6.out.trans f7 (by simp))
  have HP7 := Lib.hid (f7.at HP6.out (by simp))
  have HQ7 := Lib.hid hq7
  have HBL : Hid (pb < qb) := Lib.hid (by rw [eqb]; exact lt_of_block HP6.out)
  have p0 := row_cell HP6.out 0
  have p1 := row_cell HP6.out 1
  have p2 := row_cell HP6.out 2
  have p3 := row_cell HP6.out 3
  have p4 := row_cell HP6.out 4
  simp at p0 p1 p2 p3 p4
  have EQB := Lib.hid eqb
  have HW7E := Lib.hid hW7
  clear hq7 f7 hW7 eqb
  go_wp2_with fail
  rw [← HW7E.out, ← EQB.out]
  clear p0 p1 p2 p3 p4 HW7E

  have hpr7 := HP7.out
  have p3 := row_cell hpr7 3
  simp at p3
  have o0 := (HO.out.fr0 HW7.out).cell 0 (by simp)
  have o1 := (HO.out.fr0 HW7.out).cell 1 (by simp)
  simp at o0 o1
  clear hpr7
  have g0 : Fr [] W7 W7.drew := (Fr.refl [] W7).drew
  have hS0 : W7.drew.cell? ⟨pb, 3, none⟩ = some (.slice (some ⟨ob, oo, none⟩) 2 oc) ∧ W7.drew.cell? ⟨ob, oo + 1, none⟩ = some (.int .i64 (b : Int)) ∧ W7.drew.cell? ⟨ob, oo, none⟩ = some (.int .i64 (a : Int)) := ⟨g0.cell p3 (by simp), g0.cell o1 (by simp), g0.cell o0 (by simp)⟩
  refine region_held 100 (fun W' => W'.cell? ⟨pb, 3, none⟩ = some (.slice (some ⟨ob, oo, none⟩) 2 oc) ∧ W'.cell? ⟨ob, oo + 1, none⟩ = some (.int .i64 (b : Int)) ∧ W'.cell? ⟨ob, oo, none⟩ = some (.int .i64 (a : Int))) hmx ?_
  change Held _ _ _ _ _ _ 11 (Array.replicate 11 false) _ _
  refine hd_take 0 (v := .pointer (some ⟨pb, 3, none⟩)) rfl (by kernel_rfl) (by kernel_rfl) (by kernel_rfl) rfl hS0 (fun W' hS => by go_simp) rfl ?_
  refine hd_take 4 (v := .pointer (some ⟨pb, 3, none⟩)) rfl (by kernel_rfl) (by kernel_rfl) (by kernel_rfl) rfl hS0 (fun W' hS => by go_simp) rfl ?_
  try simp only [Act.put, List.setIfInBounds_toArray, List.set_cons_zero, List.set_cons_succ]
  refine hd_take 1 (v := .slice (some ⟨ob, oo, none⟩) 2 oc) rfl (by kernel_rfl) (by kernel_rfl) (by kernel_rfl) rfl hS0 (fun W' hS => by obtain ⟨s0, s1, s2⟩ := hS; go_simp) rfl ?_
  refine hd_take 5 (v := .slice (some ⟨ob, oo, none⟩) 2 oc) rfl (by kernel_rfl) (by kernel_rfl) (by kernel_rfl) rfl hS0 (fun W' hS => by obtain ⟨s0, s1, s2⟩ := hS; go_simp) rfl ?_
  try simp only [Act.put, List.setIfInBounds_toArray, List.set_cons_zero, List.set_cons_succ]
  refine hd_take 2 (v := .pointer (some ⟨ob, oo + 1, none⟩)) rfl (by kernel_rfl) (by kernel_rfl) (by kernel_rfl) rfl hS0 (fun W' hS => by go_simp) rfl ?_
  refine hd_take 6 (v := .pointer (some ⟨ob, oo, none⟩)) rfl (by kernel_rfl) (by kernel_rfl) (by kernel_rfl) rfl hS0 (fun W' hS => by go_simp) rfl ?_
  try simp only [Act.put, List.setIfInBounds_toArray, List.set_cons_zero, List.set_cons_succ]
  refine hd_take 3 (v := .int .i64 (b : Int)) rfl (by kernel_rfl) (by kernel_rfl) (by kernel_rfl) rfl hS0 (fun W' hS => by obtain ⟨s0, s1, s2⟩ := hS; go_simp) rfl ?_
  refine hd_take 7 (v := .int .i64 (a : Int)) rfl (by kernel_rfl) (by kernel_rfl) (by kernel_rfl) rfl hS0 (fun W' hS => by obtain ⟨s0, s1, s2⟩ := hS; go_simp) rfl ?_
  try simp only [Act.put, List.setIfInBounds_toArray, List.set_cons_zero, List.set_cons_succ]
  refine hd_one 8 (by kernel_rfl) rfl (by kernel_rfl) rfl (fun K' hK => ?_)
  go_simp
  have g1 := g0.alloc (.cells #[.int .i64 (b : Int), .int .i64 (a : Int)] 3)
  have hS1 : (W7.drew.alloc (.cells #[.int .i64 (b : Int), .int .i64 (a : Int)] 3)).cell? ⟨pb, 3, none⟩ = some (.slice (some ⟨ob, oo, none⟩) 2 oc) ∧ (W7.drew.alloc (.cells #[.int .i64 (b : Int), .int .i64 (a : Int)] 3)).cell? ⟨ob, oo + 1, none⟩ = some (.int .i64 (b : Int)) ∧ (W7.drew.alloc (.cells #[.int .i64 (b : Int), .int .i64 (a : Int)] 3)).cell? ⟨ob, oo, none⟩ = some (.int .i64 (a : Int)) := ⟨g1.cell p3 (by simp), g1.cell o1 (by simp), g1.cell o0 (by simp)⟩
  refine hK.out _ _ (fun _ => hS1) ?_
  clear hK K'
  try simp only [Act.put, List.setIfInBounds_toArray, List.set_cons_zero, List.set_cons_succ]
  refine hd_take 9 (v := .pointer (some ⟨qb, 3, none⟩)) rfl (by kernel_rfl) (by kernel_rfl) (by kernel_rfl) rfl hS1 (fun W' hS => by go_simp) rfl ?_
  try simp only [Act.put, List.setIfInBounds_toArray, List.set_cons_zero, List.set_cons_succ]
  have g1a : Fr [] W7 (W7.alloc (.cells #[.int .i64 (b : Int), .int .i64 (a : Int)] 3)) := (Fr.refl [] W7).alloc _
  have hqx := g1a.at HQ7.out (by simp)
  have x3 := row_cell hqx 3
  have y3 := row_free hqx 3
  simp at x3
  have hz8 := zs_two (heap_new (w := W7) (o := .cells #[.int .i64 (b : Int), .int .i64 (a : Int)] 3) rfl)
  have HZ8 := Lib.hid hz8
  have HX := Lib.hid hqx
  refine hd_one 10 (by kernel_rfl) rfl (by kernel_rfl) rfl (fun K' hK => ?_)
  go_simp
  have gS : Fr [qb] W7 ((W7.alloc (.cells #[.int .i64 (b : Int), .int .i64 (a : Int)] 3)).setCell ⟨qb, 3, none⟩ (.slice (some ⟨W7.heap.size, 0, none⟩) 2 2)).drew := ((g1a.mono (by simp)).setCell _ _ (by simp)).drew
  have HOQ : Hid (pb ∉ [qb] ∧ ob ∉ [qb] ∧ W7.heap.size ∉ [qb]) := Lib.hid (by have h1 := HBL.out; have h2 := HOB.out; have h3 := HBP.out; have h4 := lt_of_block HQ7.out; simp; omega)
  refine hK.out _ _ (fun _ => ⟨gS.cell p3 HOQ.out.1, gS.cell o1 HOQ.out.2.1, gS.cell o0 HOQ.out.2.1⟩) ?_
  clear hK K'
  refine held_done (by kernel_rfl) ?_
  have HQ8a := Lib.hid (heap_drew (row_set HX.out 3 (.slice (some ⟨W7.heap.size, 0, none⟩) 2 2)))
  have HZ8a := Lib.hid (HZ8.out.fr (((Fr.refl [qb] _).setCell ⟨qb, 3, none⟩ (.slice (some ⟨W7.heap.size, 0, none⟩) 2 2) (by simp)).drew) (fun b' hb' => by simp [Value.ownBlock] at hb'; rw [← hb']; exact HOQ.out.2.2))
  obtain ⟨n1, en1⟩ : ∃ q, q = W7.heap.size := ⟨_, rfl⟩
  change Hid (Zs _ (.slice (some ⟨W7.heap.size, 0, none⟩) 2 2) [(b : Int), (a : Int)]) at HZ8a
  rw [← en1] at gS HQ8a HZ8a ⊢
  clear HX HZ8 hz8 hqx x3 y3 g0 g1 g1a hS0 hS1 p3 o0 o1 en1
  generalize ((W7.alloc (.cells #[.int .i64 (b : Int), .int .i64 (a : Int)] 3)).setCell ⟨qb, 3, none⟩ (.slice (some ⟨n1, 0, none⟩) 2 2)).drew = W8 at gS HQ8a HZ8a ⊢
  have HQ8 : Hid (W8.heap[qb]? = some (.cells #[.slice ea 3 ec, .string ⟨R.toArray⟩, .slice pa 2 pc, .slice (some ⟨n1, 0, none⟩) 2 2, .slice sa 0 sc] 26 (0, 0))) := HQ8a
  have HQB5 : Hid (∀ y ∈ [qb], y ∈ ([] : List Nat) ∨ w5.heap.size ≤ y) := Lib.hid (fun y hy => by rw [List.mem_singleton.1 hy]; have h1 := HBL.out; have h2 := HBP.out; omega)
  have HW8 := Lib.hid (HW7.out.trans gS HQB5.out)
  have HF58 : Hid (Fr [] w w5) := HF5W
  have HP8 := Lib.hid (gS.at HP7.out HOQ.out.1)
  have HRQ : Hid (PblR W8 (.agg #[.slice ea 3 ec, .string ⟨R.toArray⟩, .slice pa 2 pc, .slice (some ⟨n1, 0, none⟩) 2 2, .slice sa 0 sc]) ⟨hE, R, hP, [(b : Int), (a : Int)], []⟩) := Lib.hid ⟨_, _, _, _, rfl, HE.out.fr HW8.out, HP.out.fr HW8.out, HZ8a.out, HS.out.fr0 HW8.out⟩
  have HRP : Hid (PblR W8 (.agg #[.slice ea 3 ec, .string ⟨R.toArray⟩, .slice pa 2 pc, .slice (some ⟨ob, oo, none⟩) 2 oc, .slice sa 0 sc]) ⟨hE, R, hP, [(a : Int), (b : Int)], []⟩) := Lib.hid (HRD.out.fr HW8.out)
  clear gS HQ8a HF7 HF6 HW6 HP6 HP7 HQ7 HW7 HPE HPE2 HPE3 HPUB HF3 HF4 HF5 HW5 HRD5 HP5 HOQ
  -- r, a copy with another order
  obtain ⟨W9, hW9⟩ : ∃ W, W = W8.alloc (.cells #[.slice ea 3 ec, .string ⟨R.toArray⟩, .slice pa 2 pc, .slice (some ⟨ob, oo, none⟩) 2 oc, .slice sa 0 sc] 26) := ⟨_, rfl⟩
  obtain ⟨rb, erb⟩ : ∃ q, q = W8.heap.size := ⟨_, rfl⟩
  have hr9 : W9.heap[rb]? = some (.cells #[.slice ea 3 ec, .string ⟨R.toArray⟩, .slice pa 2 pc, .slice (some ⟨ob, oo, none⟩) 2 oc, .slice sa 0 sc] 26 (0, 0)) := by rw [hW9]; exact heap_new erb
  have f9 : Fr [] W8 W9 := by rw [hW9]; exact (Fr.refl [] W8).alloc _
  have HR9 := Lib.hid hr9
  have H89 := Lib.hid f9
  have HP9 := Lib.hid (f9.at HP8.out (by simp))
  have HS9 : Hid (W9.heap.size = rb + 1) := Lib.hid (by rw [hW9, erb]; simp)
  have p0 := row_cell HP8.out 0
  have p1 := row_cell HP8.out 1
  have p2 := row_cell HP8.out 2
  have p3 := row_cell HP8.out 3
  have p4 := row_cell HP8.out 4
  simp at p0 p1 p2 p3 p4
  have f10 : Fr [] W9 (W9.alloc (.cells #[] 3)) := (Fr.refl [] W9).alloc _
  have e3 := row_cell (f10.at HP9.out (by simp)) 3
  simp at e3
  have E9 := Lib.hid hW9
  have ER := Lib.hid erb
  have HZO : Hid (Zs W8 (.slice (some ⟨ob, oo, none⟩) 2 oc) [(a : Int), (b : Int)]) := Lib.hid (HO.out.fr0 HW8.out)
  rw [hW9] at e3
  clear hr9 f9 f10 hW9 erb
  go_wp2_with (at_builtin; go_loud (refine wpList_appZ rfl (.tmp 53) (.tmp 55) rfl (W8.heap.size + 1) _ _ [] [(a : Int), (b : Int)] (W8.alloc (.cells #[.slice ea 3 ec, .string ⟨R.toArray⟩, .slice pa 2 pc, .slice (some ⟨ob, oo, none⟩) 2 oc, .slice sa 0 sc] 26)) rfl rfl (by exact HZO.out.fr0 (((Fr.refl [] W8).alloc _).alloc _)) (by exact ownZ_newA (by simp) (Nat.le_refl _)) (by exact (Fr.refl [] _).alloc _) (by simp) (by simp) (by simp) ?_))
  intro v1 w1 ho1 hf1 _
  obtain ⟨g1, k1, rfl, hg1⟩ := ho1.form (by simp)
  have HO1 := Lib.hid ho1
  have HF1 := Lib.hid hf1
  clear ho1 hf1 e3
  go_wp2_with (at_builtin; go_loud (refine wpList_appZ rfl (.tmp 56) (.tmp 57) rfl (W8.heap.size + 1) _ _ ([] ++ [(a : Int), (b : Int)]) [2] (W8.alloc (.cells #[.slice ea 3 ec, .string ⟨R.toArray⟩, .slice pa 2 pc, .slice (some ⟨ob, oo, none⟩) 2 oc, .slice sa 0 sc] 26)) rfl rfl (by exact zs_oneA (heap_new rfl)) (by exact HO1.out.fr ((Fr.refl [] _).alloc _) (by simp)) (by exact HF1.out.alloc _) (by simp) (by have := HF1.out.size; simp at this ⊢; omega) (by simp) ?_))
  intro v2 w2 ho2 hf2 _
  obtain ⟨g2, k2, rfl, hg2⟩ := ho2.form (by simp)
  rw [← E9.out] at hf2
  have HO2 : Hid (OwnZ (rb + 1) w2 (.slice (some ⟨g2, 0, none⟩) 3 k2) [(a : Int), (b : Int), 2]) := Lib.hid (by have := ho2; rw [← ER.out] at this; exact this)
  have hg2' : rb + 1 ≤ g2 := by rw [ER.out]; exact hg2
  have hr2 := hf2.at HR9.out (by simp)
  have x3 := row_cell hr2 3
  have y3 := row_free hr2 3
  simp at x3
  rw [← ER.out]
  have HR2 := Lib.hid hr2
  have HF2 := Lib.hid hf2
  have HG2 : Hid (rb ∉ [g2] ∧ g2 ∉ [rb]) := Lib.hid (by simp; omega)
  obtain ⟨W11, hW11⟩ : ∃ W, W = w2.setCell ⟨rb, 3, none⟩ (.slice (some ⟨g2, 0, none⟩) 3 k2) := ⟨_, rfl⟩
  have fs : Fr [rb] w2 W11 := by rw [hW11]; exact (Fr.refl [rb] w2).setCell _ _ (by simp)
  have h911 : Fr [rb] W9 W11 := (HF2.out.mono (by simp)).trans fs (fun y hy => Or.inl hy)
  have h811 : Fr [] W8 W11 := H89.out.trans h911 (fun y hy => Or.inr (by rw [List.mem_singleton.1 hy, ER.out]; exact Nat.le_refl _))
  have H811 := Lib.hid h811
  have HR11 : Hid (W11.heap[rb]? = some (.cells #[.slice ea 3 ec, .string ⟨R.toArray⟩, .slice pa 2 pc, .slice (some ⟨g2, 0, none⟩) 3 k2, .slice sa 0 sc] 26 (0, 0))) := Lib.hid (by rw [hW11]; exact row_set HR2.out 3 _)
  have HW11 := Lib.hid (HW8.out.trans h811 (by simp))
  have HRR : Hid (PblR W11 (.agg #[.slice ea 3 ec, .string ⟨R.toArray⟩, .slice pa 2 pc, .slice (some ⟨g2, 0, none⟩) 3 k2, .slice sa 0 sc]) ⟨hE, R, hP, [(a : Int), (b : Int), 2], []⟩) := Lib.hid ⟨_, _, _, _, rfl, HE.out.fr HW11.out, HP.out.fr HW11.out, HO2.out.zs.fr fs (fun b' hb' => by simp [Value.ownBlock] at hb'; rw [← hb']; exact HG2.out.2), HS.out.fr0 HW11.out⟩
  have HP11 := Lib.hid (h811.at HP8.out (by simp))
  have p0 := row_cell HP11.out 0
  have p1 := row_cell HP11.out 1
  have p2 := row_cell HP11.out 2
  have p3 := row_cell HP11.out 3
  have p4 := row_cell HP11.out 4
  simp at p0 p1 p2 p3 p4
  have E11 := Lib.hid hW11
  rw [hW11] at p0 p1 p2 p3 p4
  -- s, a copy with another root
  obtain ⟨W12, hW12⟩ : ∃ W, W = W11.alloc (.cells #[.slice ea 3 ec, .string ⟨#[120]⟩, .slice pa 2 pc, .slice (some ⟨ob, oo, none⟩) 2 oc, .slice sa 0 sc] 26) := ⟨_, rfl⟩
  obtain ⟨sb, esb⟩ : ∃ q, q = W11.heap.size := ⟨_, rfl⟩
  have f12 : Fr [] W11 W12 := by rw [hW12]; exact (Fr.refl [] W11).alloc _
  have HS12 : Hid (W12.heap[sb]? = some (.cells #[.slice ea 3 ec, .string ⟨#[120]⟩, .slice pa 2 pc, .slice (some ⟨ob, oo, none⟩) 2 oc, .slice sa 0 sc] 26 (0, 0))) := Lib.hid (by rw [hW12]; exact heap_new esb)
  have H1112 := Lib.hid f12
  have HP12 := Lib.hid (f12.at HP11.out (by simp))
  have HW12 := Lib.hid (HW11.out.trans f12 (by simp))
  have HRS : Hid (PblR W12 (.agg #[.slice ea 3 ec, .string ⟨#[120]⟩, .slice pa 2 pc, .slice (some ⟨ob, oo, none⟩) 2 oc, .slice sa 0 sc]) ⟨hE, [120], hP, [(a : Int), (b : Int)], []⟩) := Lib.hid ⟨_, _, _, _, rfl, HE.out.fr HW12.out, HP.out.fr HW12.out, HO.out.fr0 HW12.out, HS.out.fr0 HW12.out⟩
  have q0 := row_cell HP12.out 0
  have q1 := row_cell HP12.out 1
  have q2 := row_cell HP12.out 2
  have q3 := row_cell HP12.out 3
  have q4 := row_cell HP12.out 4
  simp at q0 q1 q2 q3 q4
  have E12 := Lib.hid hW12
  have ES := Lib.hid esb
  rw [hW12, hW11] at q0 q1 q2 q3 q4
  have HSZ11 : Hid (W11.heap.size = w2.heap.size) := Lib.hid (by rw [hW11]; simp [World.setCell])
  clear ho2 hf2 hr2 hg2 hg2' HO1 HF1 fs h911 h811 hW11 f12 hW12 esb
  go_wp2_with fail

  rw [← E11.out, ← E12.out]
  have hsb : w2.heap.size = sb := by rw [ES.out, HSZ11.out]
  rw [hsb]
  have HSB : Hid (rb < sb) := Lib.hid (by rw [ES.out]; exact lt_of_block HR11.out)
  obtain ⟨W13, hW13⟩ : ∃ W, W = W12.alloc (.cells #[.slice ea 3 ec, .string ⟨R.toArray⟩, .slice pa 2 pc, .slice (some ⟨ob, oo, none⟩) 2 oc, .slice sa 0 sc] 26) := ⟨_, rfl⟩
  obtain ⟨tb, etb⟩ : ∃ q, q = sb + 1 := ⟨_, rfl⟩
  have f13 : Fr [] W12 W13 := by rw [hW13]; exact (Fr.refl [] W12).alloc _
  have ht13 : W13.heap[tb]? = some (.cells #[.slice ea 3 ec, .string ⟨R.toArray⟩, .slice pa 2 pc, .slice (some ⟨ob, oo, none⟩) 2 oc, .slice sa 0 sc] 26 (0, 0)) := by rw [hW13, etb]; exact heap_new (by rw [E12.out]; simp; exact ES.out)
  rw [← hW13, ← etb]
  have HT13 := Lib.hid ht13
  have HW13 := Lib.hid (HW12.out.trans f13 (by simp))
  have hpr := f13.at HP12.out (by simp)
  have HP13 := Lib.hid hpr
  have H1113 : Hid (Fr [] W11 W13) := Lib.hid (H1112.out.trans f13 (by simp))
  have HTB : Hid (sb < tb) := Lib.hid (by omega)
  have H1213 := Lib.hid f13
  clear p0 p1 p2 p3 p4 q0 q1 q2 q3 q4 hsb hW13 f13 ht13 etb
  have p3 := row_cell hpr 3
  simp at p3
  have o0 := (HO.out.fr0 HW13.out).cell 0 (by simp)
  have o1 := (HO.out.fr0 HW13.out).cell 1 (by simp)
  simp at o0 o1
  clear hpr
  have gt0 : Fr [] W13 W13.drew := (Fr.refl [] W13).drew
  have hSt0 : W13.drew.cell? ⟨pb, 3, none⟩ = some (.slice (some ⟨ob, oo, none⟩) 2 oc) ∧ W13.drew.cell? ⟨ob, oo + 1, none⟩ = some (.int .i64 (b : Int)) ∧ W13.drew.cell? ⟨ob, oo, none⟩ = some (.int .i64 (a : Int)) := ⟨gt0.cell p3 (by simp), gt0.cell o1 (by simp), gt0.cell o0 (by simp)⟩
  refine region_held 100 (fun W' => W'.cell? ⟨pb, 3, none⟩ = some (.slice (some ⟨ob, oo, none⟩) 2 oc) ∧ W'.cell? ⟨ob, oo + 1, none⟩ = some (.int .i64 (b : Int)) ∧ W'.cell? ⟨ob, oo, none⟩ = some (.int .i64 (a : Int))) hmx ?_
  change Held _ _ _ _ _ _ 11 (Array.replicate 11 false) _ _
  refine hd_take 0 (v := .pointer (some ⟨pb, 3, none⟩)) rfl (by kernel_rfl) (by kernel_rfl) (by kernel_rfl) rfl hSt0 (fun W' hS => by go_simp) rfl ?_
  refine hd_take 4 (v := .pointer (some ⟨pb, 3, none⟩)) rfl (by kernel_rfl) (by kernel_rfl) (by kernel_rfl) rfl hSt0 (fun W' hS => by go_simp) rfl ?_
  try simp only [Act.put, List.setIfInBounds_toArray, List.set_cons_zero, List.set_cons_succ]
  refine hd_take 1 (v := .slice (some ⟨ob, oo, none⟩) 2 oc) rfl (by kernel_rfl) (by kernel_rfl) (by kernel_rfl) rfl hSt0 (fun W' hS => by obtain ⟨s0, s1, s2⟩ := hS; go_simp) rfl ?_
  refine hd_take 5 (v := .slice (some ⟨ob, oo, none⟩) 2 oc) rfl (by kernel_rfl) (by kernel_rfl) (by kernel_rfl) rfl hSt0 (fun W' hS => by obtain ⟨s0, s1, s2⟩ := hS; go_simp) rfl ?_
  try simp only [Act.put, List.setIfInBounds_toArray, List.set_cons_zero, List.set_cons_succ]
  refine hd_take 2 (v := .pointer (some ⟨ob, oo + 1, none⟩)) rfl (by kernel_rfl) (by kernel_rfl) (by kernel_rfl) rfl hSt0 (fun W' hS => by go_simp) rfl ?_
  refine hd_take 6 (v := .pointer (some ⟨ob, oo, none⟩)) rfl (by kernel_rfl) (by kernel_rfl) (by kernel_rfl) rfl hSt0 (fun W' hS => by go_simp) rfl ?_
  try simp only [Act.put, List.setIfInBounds_toArray, List.set_cons_zero, List.set_cons_succ]
  refine hd_take 3 (v := .int .i64 (b : Int)) rfl (by kernel_rfl) (by kernel_rfl) (by kernel_rfl) rfl hSt0 (fun W' hS => by obtain ⟨s0, s1, s2⟩ := hS; go_simp) rfl ?_
  refine hd_take 7 (v := .int .i64 (a : Int)) rfl (by kernel_rfl) (by kernel_rfl) (by kernel_rfl) rfl hSt0 (fun W' hS => by obtain ⟨s0, s1, s2⟩ := hS; go_simp) rfl ?_
  try simp only [Act.put, List.setIfInBounds_toArray, List.set_cons_zero, List.set_cons_succ]
  refine hd_one 8 (by kernel_rfl) rfl (by kernel_rfl) rfl (fun K' hK => ?_)
  go_simp
  have gt1 := gt0.alloc (.cells #[.int .i64 (b : Int), .int .i64 (a : Int)] 3)
  have hSt1 : (W13.drew.alloc (.cells #[.int .i64 (b : Int), .int .i64 (a : Int)] 3)).cell? ⟨pb, 3, none⟩ = some (.slice (some ⟨ob, oo, none⟩) 2 oc) ∧ (W13.drew.alloc (.cells #[.int .i64 (b : Int), .int .i64 (a : Int)] 3)).cell? ⟨ob, oo + 1, none⟩ = some (.int .i64 (b : Int)) ∧ (W13.drew.alloc (.cells #[.int .i64 (b : Int), .int .i64 (a : Int)] 3)).cell? ⟨ob, oo, none⟩ = some (.int .i64 (a : Int)) := ⟨gt1.cell p3 (by simp), gt1.cell o1 (by simp), gt1.cell o0 (by simp)⟩
  refine hK.out _ _ (fun _ => hSt1) ?_
  clear hK K'
  try simp only [Act.put, List.setIfInBounds_toArray, List.set_cons_zero, List.set_cons_succ]
  refine hd_take 9 (v := .pointer (some ⟨tb, 4, none⟩)) rfl (by kernel_rfl) (by kernel_rfl) (by kernel_rfl) rfl hSt1 (fun W' hS => by go_simp) rfl ?_
  try simp only [Act.put, List.setIfInBounds_toArray, List.set_cons_zero, List.set_cons_succ]
  have g1a : Fr [] W13 (W13.alloc (.cells #[.int .i64 (b : Int), .int .i64 (a : Int)] 3)) := (Fr.refl [] W13).alloc _
  have hqx := g1a.at HT13.out (by simp)
  have x3 := row_cell hqx 4
  have y3 := row_free hqx 4
  simp at x3
  have hz8 := zs_two (heap_new (w := W13) (o := .cells #[.int .i64 (b : Int), .int .i64 (a : Int)] 3) rfl)
  have HZ8 := Lib.hid hz8
  have HX := Lib.hid hqx
  refine hd_one 10 (by kernel_rfl) rfl (by kernel_rfl) rfl (fun K' hK => ?_)
  go_simp
  have gS : Fr [tb] W13 ((W13.alloc (.cells #[.int .i64 (b : Int), .int .i64 (a : Int)] 3)).setCell ⟨tb, 4, none⟩ (.slice (some ⟨W13.heap.size, 0, none⟩) 2 2)).drew := ((g1a.mono (by simp)).setCell _ _ (by simp)).drew
  have HOQ : Hid (pb ∉ [tb] ∧ ob ∉ [tb] ∧ W13.heap.size ∉ [tb]) := Lib.hid (by have h1 := HBL.out; have h2 := HOB.out; have h3 := HBP.out; have h4 := lt_of_block HT13.out; have h5 := HSB.out; have h6 := HTB.out; have h7 := lt_of_block HP8.out; have h8 := ER.out; simp; omega)
  refine hK.out _ _ (fun _ => ⟨gS.cell p3 HOQ.out.1, gS.cell o1 HOQ.out.2.1, gS.cell o0 HOQ.out.2.1⟩) ?_
  clear hK K'
  refine held_done (by kernel_rfl) ?_
  have HQ8a := Lib.hid (heap_drew (row_set HX.out 4 (.slice (some ⟨W13.heap.size, 0, none⟩) 2 2)))
  have HZ8a := Lib.hid (HZ8.out.fr (((Fr.refl [tb] _).setCell ⟨tb, 4, none⟩ (.slice (some ⟨W13.heap.size, 0, none⟩) 2 2) (by simp)).drew) (fun b' hb' => by simp [Value.ownBlock] at hb'; rw [← hb']; exact HOQ.out.2.2))
  obtain ⟨n3, en3⟩ : ∃ q, q = W13.heap.size := ⟨_, rfl⟩
  change Hid (Zs _ (.slice (some ⟨W13.heap.size, 0, none⟩) 2 2) [(b : Int), (a : Int)]) at HZ8a
  rw [← en3] at gS HQ8a HZ8a ⊢
  clear HX HZ8 hz8 hqx x3 y3 gt0 gt1 g1a hSt0 hSt1 p3 o0 o1 en3
  generalize ((W13.alloc (.cells #[.int .i64 (b : Int), .int .i64 (a : Int)] 3)).setCell ⟨tb, 4, none⟩ (.slice (some ⟨n3, 0, none⟩) 2 2)).drew = W14 at gS HQ8a HZ8a ⊢
  have HT14 : Hid (W14.heap[tb]? = some (.cells #[.slice ea 3 ec, .string ⟨R.toArray⟩, .slice pa 2 pc, .slice (some ⟨ob, oo, none⟩) 2 oc, .slice (some ⟨n3, 0, none⟩) 2 2] 26 (0, 0))) := HQ8a
  have HTB5 : Hid (∀ y, y < tb → y ∉ [tb]) := Lib.hid (fun y hy => by simp; omega)
  have HW14 : Hid (Fr [] w5 W14) := Lib.hid (HW13.out.trans gS (fun y hy => by rw [List.mem_singleton.1 hy]; right; have h1 := HBL.out; have h3 := HBP.out; have h5 := HSB.out; have h6 := HTB.out; have h7 := lt_of_block HP8.out; have h8 := ER.out; omega))
  have HBS : Hid (pb < tb ∧ qb < tb ∧ rb < tb ∧ sb < tb) := Lib.hid (by have h1 := HBL.out; have h5 := HSB.out; have h6 := HTB.out; have h7 := lt_of_block HP8.out; have h8 := ER.out; have h9 := lt_of_block HQ8.out; omega)
  have H1114 : Hid (Fr [tb] W11 W14) := Lib.hid ((H1113.out.mono (by simp)).trans gS (fun y hy => Or.inl hy))
  have HS14 : Hid (∀ k, k < tb → (k < W13.heap.size) → W14.heap[k]? = W13.heap[k]?) := Lib.hid (fun k hk h2 => gS.block k h2 (HTB5.out k hk))
  have HP14 := Lib.hid (gS.at HP13.out (HTB5.out _ HBS.out.1))
  have HS14b := Lib.hid (gS.at (H1213.out.at HS12.out (by simp)) (HTB5.out _ HBS.out.2.2.2))
  have HR14 := Lib.hid (H1114.out.at HR11.out (HTB5.out _ HBS.out.2.2.1))
  have HQ14 := Lib.hid (H1114.out.at (H811.out.at HQ8.out (by simp)) (HTB5.out _ HBS.out.2.1))
  have Z0 : Hid (Fr [] W8 W14) := Lib.hid (H811.out.trans H1114.out (fun y hy => by rw [List.mem_singleton.1 hy]; right; have h8 := ER.out; have h9 := HBS.out; omega))
  have Z1 : Hid (Fr [] W11 W14) := Lib.hid ((Fr.refl [] W11).trans H1114.out (fun y hy => by rw [List.mem_singleton.1 hy]; right; have h8 := ES.out; have h9 := HBS.out; omega))
  have Z2 : Hid (Fr [] W12 W14) := Lib.hid (H1213.out.trans gS (fun y hy => by rw [List.mem_singleton.1 hy]; right; have h8 := ES.out; have h10 := HTB.out; have h9 := H1112.out.size; rw [E12.out]; simp; omega))
  have HRP14 := Lib.hid (HRP.out.fr Z0.out)
  have HRQ14 := Lib.hid (HRQ.out.fr Z0.out)
  have HRR14 := Lib.hid (HRR.out.fr Z1.out)
  have HRS14 := Lib.hid (HRS.out.fr Z2.out)
  have HRT14 : Hid (PblR W14 (.agg #[.slice ea 3 ec, .string ⟨R.toArray⟩, .slice pa 2 pc, .slice (some ⟨ob, oo, none⟩) 2 oc, .slice (some ⟨n3, 0, none⟩) 2 2]) ⟨hE, R, hP, [(a : Int), (b : Int)], [(b : Int), (a : Int)]⟩) := Lib.hid ⟨_, _, _, _, rfl, HE.out.fr HW14.out, HP.out.fr HW14.out, HO.out.fr0 HW14.out, HZ8a.out⟩
  have HFW : Hid (Fr [] w W14) := Lib.hid (HF5W.out.trans HW14.out (by simp))
  clear HT13 HQ8a HZ8a gS HOQ HW13 HP13 H1113 H1213 HS14 HTB5 HW12 HP12 H1112 HW11 HP11 HR11 HRR HRS HRQ HRP HR2 HF2 HG2 HQ8 HP8 HR9 H89 HP9 HS12 HZO E9 H811 H1114 Z0 Z1 Z2 E11 E12 HSZ11 HO2

  have p0 := row_cell HP14.out 0
  have p1 := row_cell HP14.out 1
  have p2 := row_cell HP14.out 2
  have p3 := row_cell HP14.out 3
  have p4 := row_cell HP14.out 4
  simp at p0 p1 p2 p3 p4
  go_wp2_with fail
  refine (receipt_any _ _ 2 W14 HRP14.out entS_hE (show hE.length ≤ 100000 from (by decide)) (HT.out.fr HFW.out)).mono ?_
  rintro e w15 ⟨rv, re, rfl, _, hrk, hb⟩
  obtain ⟨rfl, hro⟩ := hrk 2 rfl (show 2 < hE.length from (by decide))
  obtain ⟨L, eL⟩ : ∃ L, L = pathL ((textsE hE).map leafD) 2 := ⟨_, rfl⟩
  have HHY : Hid (chkB R 3 2 (textS hE2) L = true ∧ chkB R 3 2 (textS hE1) L = false ∧ ∀ s ∈ L, s.length ≤ 1000000) := Lib.hid (by
    rw [eL]
    refine ⟨HH.out.yes, HH.out.no, fun s hs => ?_⟩
    exact path_small _ _ (fun t ht => by obtain ⟨u, _, rfl⟩ := List.mem_map.1 ht; unfold leafD dlist; rw [dsum_length]; decide) s hs)
  change OwnS W14.heap.size w15 rv (pathL ((textsE hE).map leafD) 2) at hro
  rw [← eL] at hro
  obtain ⟨la, lc, rfl, _, _⟩ := hro.strs.form
  have f15 := Fr.ofBelow (X := []) hb
  have HL15 := Lib.hid hro.strs
  have HF15 := Lib.hid (HFW.out.trans f15 (by simp))
  have HX15 := Lib.hid f15
  clear p0 p1 p2 p3 p4 hrk hb hro f15 eL
  go_wp2_with fail
  refine (example_any w15 (HT.out.fr HF15.out)).mono ?_
  rintro e w16 ⟨be2, rfl, hpe, hb⟩
  have f16 := Fr.ofBelow (X := []) hb
  have HPE := Lib.hid hpe
  have HX16 := Lib.hid (HX15.out.trans f16 (by simp))
  have HF16 := Lib.hid (HF15.out.trans f16 (by simp))
  have HL16 := Lib.hid (HL15.out.fr f16 (by simp))
  clear hb hpe f16
  go_wp2_with fail
  obtain ⟨W17, hW17⟩ : ∃ W, W = w16.alloc (.cells #[.string ⟨#[120]⟩, .string ⟨#[]⟩, .string ⟨#[]⟩] 46) := ⟨_, rfl⟩
  have f17 : Fr [] w16 W17 := by rw [hW17]; exact (Fr.refl [] w16).alloc _
  have hpp : Pts W17 (.slice (some ⟨w16.heap.size, 0, none⟩) 1 1) [⟨[120], [], []⟩] := by rw [hW17]; exact pts_one (heap_new rfl)
  have hpub := publish_any (.slice (some ⟨be2, 0, none⟩) 3 3) (.slice (some ⟨w16.heap.size, 0, none⟩) 1 1) hE [⟨[120], [], []⟩] W17 (HPE.out.fr f17) hpp entS_hE (by decide) (by simp) (by decide) (HT.out.fr (HF16.out.trans f17 (by simp)))
  rw [HH.out.bad, pub_bad (by rw [HH.out.bad]; decide)] at hpub
  have HPUB := Lib.hid hpub
  have HF17 := Lib.hid (HF16.out.trans f17 (by simp))
  have HX17 := Lib.hid (HX16.out.trans f17 (by simp))
  have HL17 := Lib.hid (HL16.out.fr f17 (by simp))
  rw [← hW17]
  clear hpub hpp f17 hW17
  refine HPUB.out.mono ?_
  rintro e w18 ⟨pv0, rfl, hpr, hb⟩
  have f18 := Fr.ofBelow (X := []) hb
  obtain ⟨ev9, pv9, ov9, sv9, rfl, h1, h2, h3, h4⟩ := hpr
  obtain ⟨x1, y1, rfl⟩ : ∃ x c, ev9 = .slice x 0 c := by obtain ⟨x, c, h, _⟩ := h1.form; exact ⟨x, c, h⟩
  obtain ⟨x2, y2, rfl⟩ : ∃ x c, pv9 = .slice x 0 c := by obtain ⟨x, c, h, _⟩ := h2.form; exact ⟨x, c, h⟩
  obtain ⟨x3, y3, rfl⟩ := Zs.nil9 h3
  obtain ⟨x4, y4, rfl⟩ := Zs.nil9 h4
  have HF18 := Lib.hid (HF17.out.trans f18 (by simp))
  have HX18 := Lib.hid (HX17.out.trans f18 (by simp))
  have HL18 := Lib.hid (HL17.out.fr f18 (by simp))
  unfold zeroPb
  simp only
  obtain ⟨W19, hW19⟩ : ∃ W, W = w18.alloc (.cells #[.slice x1 0 y1, .string ⟨#[]⟩, .slice x2 0 y2, .slice x3 0 y3, .slice x4 0 y4] 26) := ⟨_, rfl⟩
  have f19 : Fr [] w18 W19 := by rw [hW19]; exact (Fr.refl [] w18).alloc _
  have HF19 := Lib.hid (HF18.out.trans f19 (by simp))
  have HX19 := Lib.hid (HX18.out.trans f19 (by simp))
  have HL19 := Lib.hid (HL18.out.fr f19 (by simp))
  have E19 := Lib.hid hW19
  clear hb f18 h1 h2 h3 h4 HPUB hW19 f19
  go_wp2_with fail

  rw [← E19.out]
  have HQ19 := Lib.hid (HX19.out.at HQ14.out (by simp))
  have HZQ : Hid (Zs W19 (.slice (some ⟨n1, 0, none⟩) 2 2) [(b : Int), (a : Int)]) := Lib.hid (by
    obtain ⟨_, _, _, _, e9, _, _, h, _⟩ := HRQ14.out
    cases e9
    exact h.fr0 HX19.out)
  have q3 := row_cell HQ19.out 3
  simp at q3
  clear E19
  have gu0 : Fr [] W19 W19.drew := (Fr.refl [] W19).drew
  have hSu0 : Fr [] W19 W19.drew := gu0
  refine region_held 100 (fun W' => Fr [] W19 W') hmx ?_
  change Held _ _ _ _ _ _ 10 (Array.replicate 10 false) _ _
  refine hd_take 0 (v := .pointer (some ⟨qb, 3, none⟩)) rfl (by kernel_rfl) (by kernel_rfl) (by kernel_rfl) rfl hSu0 (fun W' hS => by go_simp) rfl ?_
  refine hd_take 4 (v := .pointer (some ⟨qb, 3, none⟩)) rfl (by kernel_rfl) (by kernel_rfl) (by kernel_rfl) rfl hSu0 (fun W' hS => by go_simp) rfl ?_
  try simp only [Act.put, List.setIfInBounds_toArray, List.set_cons_zero, List.set_cons_succ]
  refine hd_take 1 (v := .slice (some ⟨n1, 0, none⟩) 2 2) rfl (by kernel_rfl) (by kernel_rfl) (by kernel_rfl) rfl hSu0 (fun W' hS => by have s0 := hS.cell q3 (by simp); go_simp) rfl ?_
  refine hd_take 5 (v := .slice (some ⟨n1, 0, none⟩) 2 2) rfl (by kernel_rfl) (by kernel_rfl) (by kernel_rfl) rfl hSu0 (fun W' hS => by have s0 := hS.cell q3 (by simp); go_simp) rfl ?_
  try simp only [Act.put, List.setIfInBounds_toArray, List.set_cons_zero, List.set_cons_succ]
  refine hd_one 2 (by kernel_rfl) rfl (by kernel_rfl) rfl (fun K' hK => ?_)
  go_simp
  refine (rplaceB_any (.slice (some ⟨n1, 0, none⟩) 2 2) [(b : Int), (a : Int)] 0 W19.drew (HZQ.out.fr0 gu0)).mono ?_
  rintro e yu1 ⟨rfl, hbb⟩
  have gu1 : Fr [] W19 yu1 := gu0.below hbb gu0.size
  clear hbb
  have hSu1 : Fr [] W19 yu1 := gu1
  refine hK.out _ _ (fun _ => hSu1) ?_
  clear hK K'
  try simp only [Act.put, List.setIfInBounds_toArray, List.set_cons_zero, List.set_cons_succ]
  refine hd_take 3 (v := .agg #[.int .i64 5, .int .i64 0, .int .i64 (placeL [(b : Int), (a : Int)] 0)]) rfl (by kernel_rfl) (by kernel_rfl) (by kernel_rfl) rfl hSu1 (fun W' hS => by go_simp) rfl ?_
  try simp only [Act.put, List.setIfInBounds_toArray, List.set_cons_zero, List.set_cons_succ]
  refine hd_one 6 (by kernel_rfl) rfl (by kernel_rfl) rfl (fun K' hK => ?_)
  go_simp
  refine (rplaceB_any (.slice (some ⟨n1, 0, none⟩) 2 2) [(b : Int), (a : Int)] 1 yu1 (HZQ.out.fr0 gu1)).mono ?_
  rintro e yu2 ⟨rfl, hbb⟩
  have gu2 : Fr [] W19 yu2 := gu1.below hbb gu1.size
  clear hbb
  have hSu2 : Fr [] W19 yu2 := gu2
  refine hK.out _ _ (fun _ => hSu2) ?_
  clear hK K'
  try simp only [Act.put, List.setIfInBounds_toArray, List.set_cons_zero, List.set_cons_succ]
  refine hd_take 7 (v := .agg #[.int .i64 5, .int .i64 1, .int .i64 (placeL [(b : Int), (a : Int)] 1)]) rfl (by kernel_rfl) (by kernel_rfl) (by kernel_rfl) rfl hSu2 (fun W' hS => by go_simp) rfl ?_
  try simp only [Act.put, List.setIfInBounds_toArray, List.set_cons_zero, List.set_cons_succ]
  refine hd_one 8 (by kernel_rfl) rfl (by kernel_rfl) rfl (fun K' hK => ?_)
  go_simp
  have gu3 := gu2.alloc (.cells #[.int .i64 5, .int .i64 0, .int .i64 (placeL [(b : Int), (a : Int)] 0), .int .i64 5, .int .i64 1, .int .i64 (placeL [(b : Int), (a : Int)] 1)] 48)
  have hSu3 : Fr [] W19 (yu2.alloc (.cells #[.int .i64 5, .int .i64 0, .int .i64 (placeL [(b : Int), (a : Int)] 0), .int .i64 5, .int .i64 1, .int .i64 (placeL [(b : Int), (a : Int)] 1)] 48)) := gu3
  refine hK.out _ _ (fun _ => hSu3) ?_
  clear hK K'
  try simp only [Act.put, List.setIfInBounds_toArray, List.set_cons_zero, List.set_cons_succ]
  refine hd_one 9 (by kernel_rfl) rfl (by kernel_rfl) rfl (fun K' hK => ?_)
  go_simp
  refine hK.out _ _ (fun _ => hSu3) ?_
  clear hK K'
  refine held_done (by kernel_rfl) ?_
  have ha21 : Ads (yu2.alloc (.cells #[.int .i64 5, .int .i64 0, .int .i64 (placeL [(b : Int), (a : Int)] 0), .int .i64 5, .int .i64 1, .int .i64 (placeL [(b : Int), (a : Int)] 1)] 48)) (.slice (some ⟨yu2.heap.size, 0, none⟩) 2 2) [⟨5, 0, placeL [(b : Int), (a : Int)] 0⟩, ⟨5, 1, placeL [(b : Int), (a : Int)] 1⟩] := ads_lst rfl (by decide) (heap_new rfl) (fun i x hx => by
    match i, hx with
    | 0, hx => cases hx; exact ⟨rfl, rfl, rfl⟩
    | 1, hx => cases hx; exact ⟨rfl, rfl, rfl⟩
    | i + 2, hx => simp at hx)
  obtain ⟨n5, en5⟩ : ∃ q, q = yu2.heap.size := ⟨_, rfl⟩
  rw [← en5] at ha21 ⊢
  clear q3 en5 gu0 gu1 gu2 hSu0 hSu1 hSu2 hSu3
  generalize yu2.alloc (.cells #[.int .i64 5, .int .i64 0, .int .i64 (placeL [(b : Int), (a : Int)] 0), .int .i64 5, .int .i64 1, .int .i64 (placeL [(b : Int), (a : Int)] 1)] 48) = W21 at gu3 ha21 ⊢
  have HA21 := Lib.hid ha21
  have HX21 : Hid (Fr [] W14 W21) := Lib.hid (HX19.out.trans gu3 (by simp))
  have HF21 : Hid (Fr [] w W21) := Lib.hid (HF19.out.trans gu3 (by simp))
  have HL21 := Lib.hid (HL19.out.fr gu3 (by simp))
  clear ha21 gu3 HQ19 HZQ
  go_wp2_with fail

  have HIJ : Hid ((∀ k ∈ [(b : Int), (a : Int)], inI k) ∧ (∀ k ∈ [(a : Int), (b : Int), 2], inI k)) := Lib.hid (by
    have := HAB.out
    refine ⟨fun k hk => ?_, fun k hk => ?_⟩ <;> simp only [List.mem_cons, List.not_mem_nil, or_false] at hk <;> unfold inI
    · rcases hk with rfl | rfl <;> omega
    · rcases hk with rfl | rfl | rfl <;> omega)
  have PSQ := Lib.hid (pblS_head (order := [(b : Int), (a : Int)]) (served := []) HRL.out (by simp) HIJ.out.1 (by simp) (fun k hk => by cases hk))
  have PSR := Lib.hid (pblS_head (order := [(a : Int), (b : Int), 2]) (served := []) HRL.out (by simp) HIJ.out.2 (by simp) (fun k hk => by cases hk))
  have PSS := Lib.hid (pblS_head (R := [120]) (order := [(a : Int), (b : Int)]) (served := []) (by decide) (by simp) HII.out (by simp) (fun k hk => by cases hk))
  have PST := Lib.hid (pblS_head (order := [(a : Int), (b : Int)]) (served := [(b : Int), (a : Int)]) HRL.out (by simp) HII.out (by simp) HIJ.out.1)
  have q0 := row_cell (HX21.out.at HQ14.out (by simp)) 0
  have q1 := row_cell (HX21.out.at HQ14.out (by simp)) 1
  have q2 := row_cell (HX21.out.at HQ14.out (by simp)) 2
  have q3 := row_cell (HX21.out.at HQ14.out (by simp)) 3
  have q4 := row_cell (HX21.out.at HQ14.out (by simp)) 4
  simp at q0 q1 q2 q3 q4
  have r0 := row_cell (HX21.out.at HR14.out (by simp)) 0
  have r1 := row_cell (HX21.out.at HR14.out (by simp)) 1
  have r2 := row_cell (HX21.out.at HR14.out (by simp)) 2
  have r3 := row_cell (HX21.out.at HR14.out (by simp)) 3
  have r4 := row_cell (HX21.out.at HR14.out (by simp)) 4
  simp at r0 r1 r2 r3 r4
  have s0 := row_cell (HX21.out.at HS14b.out (by simp)) 0
  have s1 := row_cell (HX21.out.at HS14b.out (by simp)) 1
  have s2 := row_cell (HX21.out.at HS14b.out (by simp)) 2
  have s3 := row_cell (HX21.out.at HS14b.out (by simp)) 3
  have s4 := row_cell (HX21.out.at HS14b.out (by simp)) 4
  simp at s0 s1 s2 s3 s4
  have t0 := row_cell (HX21.out.at HT14.out (by simp)) 0
  have t1 := row_cell (HX21.out.at HT14.out (by simp)) 1
  have t2 := row_cell (HX21.out.at HT14.out (by simp)) 2
  have t3 := row_cell (HX21.out.at HT14.out (by simp)) 3
  have t4 := row_cell (HX21.out.at HT14.out (by simp)) 4
  simp at t0 t1 t2 t3 t4
  have p3 := row_cell (HX21.out.at HP14.out (by simp)) 3
  simp at p3
  have o0 := (HO.out.fr0 (HW14.out.trans HX21.out (by simp))).cell 0 (by simp)
  simp at o0
  have gv0 : Fr [] W21 W21.drew := (Fr.refl [] W21).drew
  have hSv0 : Fr [] W21 W21.drew := gv0
  refine region_held 100 (fun W' => Fr [] W21 W') hmx ?_
  change Held _ _ _ _ _ _ 31 (Array.replicate 31 false) _ _
  refine hd_take 0 (v := .agg #[.slice ea 3 ec, .string ⟨R.toArray⟩, .slice pa 2 pc, .slice (some ⟨n1, 0, none⟩) 2 2, .slice sa 0 sc]) rfl (by kernel_rfl) (by kernel_rfl) (by kernel_rfl) rfl hSv0 (fun W' hS => by have s0 := hS.cell q0 (by simp); have s1 := hS.cell q1 (by simp); have s2 := hS.cell q2 (by simp); have s3 := hS.cell q3 (by simp); have s4 := hS.cell q4 (by simp); go_simp) rfl ?_
  refine hd_take 2 (v := .slice (some ⟨n5, 0, none⟩) 2 2) rfl (by kernel_rfl) (by kernel_rfl) (by kernel_rfl) rfl hSv0 (fun W' hS => by go_simp) rfl ?_
  try simp only [Act.put, List.setIfInBounds_toArray, List.set_cons_zero, List.set_cons_succ]
  refine hd_one 1 (by kernel_rfl) rfl (by kernel_rfl) rfl (fun K' hK => ?_)
  go_simp
  refine (chkN_any (.agg #[.slice ea 3 ec, .string ⟨R.toArray⟩, .slice pa 2 pc, .slice (some ⟨n1, 0, none⟩) 2 2, .slice sa 0 sc]) _ [⟨5, 0, placeL [(b : Int), (a : Int)] 0⟩, ⟨5, 1, placeL [(b : Int), (a : Int)] 1⟩] 2 W21.drew (HRQ14.out.fr (HX21.out.trans gv0 (by simp))) PSQ.out (HT.out.fr (HF21.out.trans gv0 (by simp))) HH.out.c1 rfl).mono ?_
  rintro e yv1 ⟨ca1, cc1, rfl, hads1, hbb⟩
  have gv1 : Fr [] W21 yv1 := gv0.below hbb gv0.size
  clear hbb
  have hSv1 : Fr [] W21 yv1 := gv1
  refine hK.out _ _ (fun _ => hSv1) ?_
  clear hK K'
  try simp only [Act.put, List.setIfInBounds_toArray, List.set_cons_zero, List.set_cons_succ]
  refine hd_one 3 (by kernel_rfl) rfl (by kernel_rfl) rfl (fun K' hK => ?_)
  go_simp
  refine (rsameT_any _ _ [⟨5, 0, placeL [(b : Int), (a : Int)] 0⟩, ⟨5, 1, placeL [(b : Int), (a : Int)] 1⟩] yv1 hads1 (HA21.out.fr gv1)).mono ?_
  rintro e yv2 ⟨rfl, hbb⟩
  have gv2 : Fr [] W21 yv2 := gv1.below hbb gv1.size
  clear hbb
  have hSv2 : Fr [] W21 yv2 := gv2
  refine hK.out _ _ (fun _ => hSv2) ?_
  clear hK K'
  try simp only [Act.put, List.setIfInBounds_toArray, List.set_cons_zero, List.set_cons_succ]
  refine hd_take 4 (v := .bool true) rfl (by kernel_rfl) (by kernel_rfl) (by kernel_rfl) rfl hSv2 (fun W' hS => by go_simp) rfl ?_
  try simp only [Act.put, List.setIfInBounds_toArray, List.set_cons_zero, List.set_cons_succ]
  refine hd_take 5 (v := .agg #[.slice ea 3 ec, .string ⟨R.toArray⟩, .slice pa 2 pc, .slice (some ⟨g2, 0, none⟩) 3 k2, .slice sa 0 sc]) rfl (by kernel_rfl) (by kernel_rfl) (by kernel_rfl) rfl hSv2 (fun W' hS => by have s0 := hS.cell r0 (by simp); have s1 := hS.cell r1 (by simp); have s2 := hS.cell r2 (by simp); have s3 := hS.cell r3 (by simp); have s4 := hS.cell r4 (by simp); go_simp) rfl ?_
  refine hd_take 7 (v := .agg #[.int .i64 2, .int .i64 0, .int .i64 2]) rfl (by kernel_rfl) (by kernel_rfl) (by kernel_rfl) rfl hSv2 (fun W' hS => by go_simp) rfl ?_
  refine hd_take 8 (v := .agg #[.int .i64 5, .int .i64 2, .int .i64 2]) rfl (by kernel_rfl) (by kernel_rfl) (by kernel_rfl) rfl hSv2 (fun W' hS => by go_simp) rfl ?_
  try simp only [Act.put, List.setIfInBounds_toArray, List.set_cons_zero, List.set_cons_succ]
  refine held_key2 100 103 #[true, true, true, true, true, true, true, true, true, true, false, false, false, false, false, false, false, false, false, false, false, false, false, false, false, false, false, false, false, false, false] (fun x y W' => (∃ ca cc, x = .slice ca 2 cc ∧ Ads W' (.slice ca 2 cc) [⟨2, 0, 2⟩, ⟨5, 2, 2⟩]) ∧ (∃ g, y = .slice (some ⟨g, 0, none⟩) 2 2 ∧ Ads W' (.slice (some ⟨g, 0, none⟩) 2 2) [⟨2, 0, 2⟩, ⟨5, 2, 2⟩]) ∧ Fr [] W21 W') (fuel' := 21) (fun key => ?_) (fun x y kA hR => ?_)
  · refine held_two_g 6 9 (by kernel_rfl) rfl rfl (by kernel_rfl) (by kernel_rfl) (fun K' hK => ?_) (fun K' hK => ?_)
    · go_simp
      refine (chkN_any (.agg #[.slice ea 3 ec, .string ⟨R.toArray⟩, .slice pa 2 pc, .slice (some ⟨g2, 0, none⟩) 3 k2, .slice sa 0 sc]) _ [⟨2, 0, 2⟩, ⟨5, 2, 2⟩] 2 yv2 (HRR14.out.fr (HX21.out.trans gv2 (by simp))) PSR.out (HT.out.fr (HF21.out.trans gv2 (by simp))) HH.out.c2 rfl).mono ?_
      rintro e x1 ⟨ca, cc, rfl, hads, hb⟩
      have gA : Fr [] W21 x1 := gv2.below hb gv2.size
      refine hK.out _ _ (fun _ => gA) ?_
      clear hK K'
      refine held_one_g 9 (by kernel_rfl) rfl (by kernel_rfl) rfl (fun K' hK => ?_)
      go_simp
      refine hK.out _ _ (fun _ => gA.alloc _) ?_
      clear hK K'
      have hk := key (.slice ca 2 cc) (.slice (some ⟨x1.heap.size, 0, none⟩) 2 2) (x1.alloc (.cells #[.int .i64 2, .int .i64 0, .int .i64 2, .int .i64 5, .int .i64 2, .int .i64 2] 48)) ⟨⟨_, _, rfl, hads.fr ((Fr.refl [] x1).alloc _)⟩, ⟨_, rfl, ads2 (x := ⟨2, 0, 2⟩) (y := ⟨5, 2, 2⟩) (heap_new rfl)⟩, gA.alloc _⟩
      exact held_same hk (by kernel_rfl) (by kernel_rfl)
    · go_simp
      refine hK.out _ _ (fun _ => gv2.alloc _) ?_
      clear hK K'
      refine held_one_g 6 (by kernel_rfl) rfl (by kernel_rfl) rfl (fun K' hK => ?_)
      go_simp
      refine (chkN_any (.agg #[.slice ea 3 ec, .string ⟨R.toArray⟩, .slice pa 2 pc, .slice (some ⟨g2, 0, none⟩) 3 k2, .slice sa 0 sc]) _ [⟨2, 0, 2⟩, ⟨5, 2, 2⟩] 2 (yv2.alloc (.cells #[.int .i64 2, .int .i64 0, .int .i64 2, .int .i64 5, .int .i64 2, .int .i64 2] 48)) (HRR14.out.fr (HX21.out.trans (gv2.alloc _) (by simp))) PSR.out (HT.out.fr (HF21.out.trans (gv2.alloc _) (by simp))) HH.out.c2 rfl).mono ?_
      rintro e x1 ⟨ca, cc, rfl, hads, hb⟩
      have gA : Fr [] W21 x1 := (gv2.alloc _).below hb (gv2.alloc _).size
      refine hK.out _ _ (fun _ => gA) ?_
      clear hK K'
      have hk := key (.slice ca 2 cc) (.slice (some ⟨yv2.heap.size, 0, none⟩) 2 2) x1 ⟨⟨_, _, rfl, hads⟩, ⟨_, rfl, Ads.fr (ads2 (x := ⟨2, 0, 2⟩) (y := ⟨5, 2, 2⟩) (heap_new rfl)) (Fr.ofBelow hb)⟩, gA⟩
      exact held_same hk (by kernel_rfl) (by kernel_rfl)
  obtain ⟨⟨caA, ccA, rfl, hxA⟩, ⟨ggA, rfl, hyA⟩, gkA⟩ := hR
  try simp only [List.setIfInBounds_toArray, List.set_cons_zero, List.set_cons_succ]
  refine hd_one 10 (by kernel_rfl) rfl (by kernel_rfl) rfl (fun K' hK => ?_)
  go_simp
  refine (rsameT_any _ _ [⟨2, 0, 2⟩, ⟨5, 2, 2⟩] kA hxA hyA).mono ?_
  rintro e yv3 ⟨rfl, hbb⟩
  have gv3 : Fr [] W21 yv3 := gkA.below hbb gkA.size
  clear hbb
  have hSv3 : Fr [] W21 yv3 := gv3
  refine hK.out _ _ (fun _ => hSv3) ?_
  clear hK K'
  try simp only [List.setIfInBounds_toArray, List.set_cons_zero, List.set_cons_succ]
  refine hd_take 11 (v := .bool true) rfl (by kernel_rfl) (by kernel_rfl) (by kernel_rfl) rfl hSv3 (fun W' hS => by go_simp) rfl ?_
  try simp only [Act.put, List.setIfInBounds_toArray, List.set_cons_zero, List.set_cons_succ]
  refine hd_take 12 (v := .bool true) rfl (by kernel_rfl) (by kernel_rfl) (by kernel_rfl) rfl hSv3 (fun W' hS => by go_simp) rfl ?_
  try simp only [Act.put, List.setIfInBounds_toArray, List.set_cons_zero, List.set_cons_succ]
  refine hd_take 13 (v := .agg #[.slice ea 3 ec, .string ⟨#[120]⟩, .slice pa 2 pc, .slice (some ⟨ob, oo, none⟩) 2 oc, .slice sa 0 sc]) rfl (by kernel_rfl) (by kernel_rfl) (by kernel_rfl) rfl hSv3 (fun W' hS => by have s0 := hS.cell s0 (by simp); have s1 := hS.cell s1 (by simp); have s2 := hS.cell s2 (by simp); have s3 := hS.cell s3 (by simp); have s4 := hS.cell s4 (by simp); go_simp) rfl ?_
  refine hd_take 15 (v := .agg #[.int .i64 3, .int .i64 (-1), .int .i64 (-1)]) rfl (by kernel_rfl) (by kernel_rfl) (by kernel_rfl) rfl hSv3 (fun W' hS => by go_simp) rfl ?_
  try simp only [Act.put, List.setIfInBounds_toArray, List.set_cons_zero, List.set_cons_succ]
  refine held_key2 108 110 #[true, true, true, true, true, true, true, true, true, true, true, true, true, true, true, true, true, false, false, false, false, false, false, false, false, false, false, false, false, false, false] (fun x y W' => (∃ ca cc, x = .slice ca 1 cc ∧ Ads W' (.slice ca 1 cc) [⟨3, -1, -1⟩]) ∧ (∃ g, y = .slice (some ⟨g, 0, none⟩) 1 1 ∧ Ads W' (.slice (some ⟨g, 0, none⟩) 1 1) [⟨3, -1, -1⟩]) ∧ Fr [] W21 W') (fuel' := 14) (fun key => ?_) (fun x y kB hR => ?_)
  · refine held_two_g 14 16 (by kernel_rfl) rfl rfl (by kernel_rfl) (by kernel_rfl) (fun K' hK => ?_) (fun K' hK => ?_)
    · go_simp
      refine (chkN_any (.agg #[.slice ea 3 ec, .string ⟨#[120]⟩, .slice pa 2 pc, .slice (some ⟨ob, oo, none⟩) 2 oc, .slice sa 0 sc]) _ [⟨3, -1, -1⟩] 1 yv3 (HRS14.out.fr (HX21.out.trans gv3 (by simp))) PSS.out (HT.out.fr (HF21.out.trans gv3 (by simp))) HH.out.c3 rfl).mono ?_
      rintro e x1 ⟨ca, cc, rfl, hads, hb⟩
      have gA : Fr [] W21 x1 := gv3.below hb gv3.size
      refine hK.out _ _ (fun _ => gA) ?_
      clear hK K'
      refine held_one_g 16 (by kernel_rfl) rfl (by kernel_rfl) rfl (fun K' hK => ?_)
      go_simp
      refine hK.out _ _ (fun _ => gA.alloc _) ?_
      clear hK K'
      have hk := key (.slice ca 1 cc) (.slice (some ⟨x1.heap.size, 0, none⟩) 1 1) (x1.alloc (.cells #[.int .i64 3, .int .i64 (-1), .int .i64 (-1)] 48)) ⟨⟨_, _, rfl, hads.fr ((Fr.refl [] x1).alloc _)⟩, ⟨_, rfl, ads1 (x := ⟨3, -1, -1⟩) (heap_new rfl)⟩, gA.alloc _⟩
      exact held_same hk (by kernel_rfl) (by kernel_rfl)
    · go_simp
      refine hK.out _ _ (fun _ => gv3.alloc _) ?_
      clear hK K'
      refine held_one_g 14 (by kernel_rfl) rfl (by kernel_rfl) rfl (fun K' hK => ?_)
      go_simp
      refine (chkN_any (.agg #[.slice ea 3 ec, .string ⟨#[120]⟩, .slice pa 2 pc, .slice (some ⟨ob, oo, none⟩) 2 oc, .slice sa 0 sc]) _ [⟨3, -1, -1⟩] 1 (yv3.alloc (.cells #[.int .i64 3, .int .i64 (-1), .int .i64 (-1)] 48)) (HRS14.out.fr (HX21.out.trans (gv3.alloc _) (by simp))) PSS.out (HT.out.fr (HF21.out.trans (gv3.alloc _) (by simp))) HH.out.c3 rfl).mono ?_
      rintro e x1 ⟨ca, cc, rfl, hads, hb⟩
      have gA : Fr [] W21 x1 := (gv3.alloc _).below hb (gv3.alloc _).size
      refine hK.out _ _ (fun _ => gA) ?_
      clear hK K'
      have hk := key (.slice ca 1 cc) (.slice (some ⟨yv3.heap.size, 0, none⟩) 1 1) x1 ⟨⟨_, _, rfl, hads⟩, ⟨_, rfl, Ads.fr (ads1 (x := ⟨3, -1, -1⟩) (heap_new rfl)) (Fr.ofBelow hb)⟩, gA⟩
      exact held_same hk (by kernel_rfl) (by kernel_rfl)
  obtain ⟨⟨caB, ccB, rfl, hxB⟩, ⟨ggB, rfl, hyB⟩, gkB⟩ := hR
  try simp only [List.setIfInBounds_toArray, List.set_cons_zero, List.set_cons_succ]
  refine hd_one 17 (by kernel_rfl) rfl (by kernel_rfl) rfl (fun K' hK => ?_)
  go_simp
  refine (rsameT_any _ _ [⟨3, -1, -1⟩] kB hxB hyB).mono ?_
  rintro e yv4 ⟨rfl, hbb⟩
  have gv4 : Fr [] W21 yv4 := gkB.below hbb gkB.size
  clear hbb
  have hSv4 : Fr [] W21 yv4 := gv4
  refine hK.out _ _ (fun _ => hSv4) ?_
  clear hK K'
  try simp only [List.setIfInBounds_toArray, List.set_cons_zero, List.set_cons_succ]
  refine hd_take 18 (v := .bool true) rfl (by kernel_rfl) (by kernel_rfl) (by kernel_rfl) rfl hSv4 (fun W' hS => by go_simp) rfl ?_
  try simp only [Act.put, List.setIfInBounds_toArray, List.set_cons_zero, List.set_cons_succ]
  refine hd_take 19 (v := .bool true) rfl (by kernel_rfl) (by kernel_rfl) (by kernel_rfl) rfl hSv4 (fun W' hS => by go_simp) rfl ?_
  try simp only [Act.put, List.setIfInBounds_toArray, List.set_cons_zero, List.set_cons_succ]
  refine hd_take 20 (v := .agg #[.slice ea 3 ec, .string ⟨R.toArray⟩, .slice pa 2 pc, .slice (some ⟨ob, oo, none⟩) 2 oc, .slice (some ⟨n3, 0, none⟩) 2 2]) rfl (by kernel_rfl) (by kernel_rfl) (by kernel_rfl) rfl hSv4 (fun W' hS => by have s0 := hS.cell t0 (by simp); have s1 := hS.cell t1 (by simp); have s2 := hS.cell t2 (by simp); have s3 := hS.cell t3 (by simp); have s4 := hS.cell t4 (by simp); go_simp) rfl ?_
  refine hd_take 22 (v := .pointer (some ⟨pb, 3, none⟩)) rfl (by kernel_rfl) (by kernel_rfl) (by kernel_rfl) rfl hSv4 (fun W' hS => by go_simp) rfl ?_
  try simp only [Act.put, List.setIfInBounds_toArray, List.set_cons_zero, List.set_cons_succ]
  refine hd_take 23 (v := .slice (some ⟨ob, oo, none⟩) 2 oc) rfl (by kernel_rfl) (by kernel_rfl) (by kernel_rfl) rfl hSv4 (fun W' hS => by have s0 := hS.cell p3 (by simp); go_simp) rfl ?_
  try simp only [Act.put, List.setIfInBounds_toArray, List.set_cons_zero, List.set_cons_succ]
  refine hd_take 24 (v := .pointer (some ⟨ob, oo, none⟩)) rfl (by kernel_rfl) (by kernel_rfl) (by kernel_rfl) rfl hSv4 (fun W' hS => by go_simp) rfl ?_
  try simp only [Act.put, List.setIfInBounds_toArray, List.set_cons_zero, List.set_cons_succ]
  refine hd_take 25 (v := .int .i64 (a : Int)) rfl (by kernel_rfl) (by kernel_rfl) (by kernel_rfl) rfl hSv4 (fun W' hS => by have s0 := hS.cell o0 (by simp); go_simp) rfl ?_
  try simp only [Act.put, List.setIfInBounds_toArray, List.set_cons_zero, List.set_cons_succ]
  refine hd_take 26 (v := .agg #[.int .i64 6, .int .i64 (a : Int), .int .i64 1]) rfl (by kernel_rfl) (by kernel_rfl) (by kernel_rfl) rfl hSv4 (fun W' hS => by go_simp) rfl ?_
  try simp only [Act.put, List.setIfInBounds_toArray, List.set_cons_zero, List.set_cons_succ]
  refine held_key2 115 121 #[true, true, true, true, true, true, true, true, true, true, true, true, true, true, true, true, true, true, true, true, true, true, true, true, true, true, true, true, false, false, false] (fun x y W' => (∃ ca cc, x = .slice ca 1 cc ∧ Ads W' (.slice ca 1 cc) [⟨6, (a : Int), 1⟩]) ∧ (∃ g, y = .slice (some ⟨g, 0, none⟩) 1 1 ∧ Ads W' (.slice (some ⟨g, 0, none⟩) 1 1) [⟨6, (a : Int), 1⟩]) ∧ Fr [] W21 W') (fuel' := 3) (fun key => ?_) (fun x y kC hR => ?_)
  · refine held_two_g 21 27 (by kernel_rfl) rfl rfl (by kernel_rfl) (by kernel_rfl) (fun K' hK => ?_) (fun K' hK => ?_)
    · go_simp
      refine (chkN_any (.agg #[.slice ea 3 ec, .string ⟨R.toArray⟩, .slice pa 2 pc, .slice (some ⟨ob, oo, none⟩) 2 oc, .slice (some ⟨n3, 0, none⟩) 2 2]) _ [⟨6, (a : Int), 1⟩] 1 yv4 (HRT14.out.fr (HX21.out.trans gv4 (by simp))) PST.out (HT.out.fr (HF21.out.trans gv4 (by simp))) HH.out.c4 rfl).mono ?_
      rintro e x1 ⟨ca, cc, rfl, hads, hb⟩
      have gA : Fr [] W21 x1 := gv4.below hb gv4.size
      refine hK.out _ _ (fun _ => gA) ?_
      clear hK K'
      refine held_one_g 27 (by kernel_rfl) rfl (by kernel_rfl) rfl (fun K' hK => ?_)
      go_simp
      refine hK.out _ _ (fun _ => gA.alloc _) ?_
      clear hK K'
      have hk := key (.slice ca 1 cc) (.slice (some ⟨x1.heap.size, 0, none⟩) 1 1) (x1.alloc (.cells #[.int .i64 6, .int .i64 (a : Int), .int .i64 1] 48)) ⟨⟨_, _, rfl, hads.fr ((Fr.refl [] x1).alloc _)⟩, ⟨_, rfl, ads1 (x := ⟨6, (a : Int), 1⟩) (heap_new rfl)⟩, gA.alloc _⟩
      exact held_same hk (by kernel_rfl) (by kernel_rfl)
    · go_simp
      refine hK.out _ _ (fun _ => gv4.alloc _) ?_
      clear hK K'
      refine held_one_g 21 (by kernel_rfl) rfl (by kernel_rfl) rfl (fun K' hK => ?_)
      go_simp
      refine (chkN_any (.agg #[.slice ea 3 ec, .string ⟨R.toArray⟩, .slice pa 2 pc, .slice (some ⟨ob, oo, none⟩) 2 oc, .slice (some ⟨n3, 0, none⟩) 2 2]) _ [⟨6, (a : Int), 1⟩] 1 (yv4.alloc (.cells #[.int .i64 6, .int .i64 (a : Int), .int .i64 1] 48)) (HRT14.out.fr (HX21.out.trans (gv4.alloc _) (by simp))) PST.out (HT.out.fr (HF21.out.trans (gv4.alloc _) (by simp))) HH.out.c4 rfl).mono ?_
      rintro e x1 ⟨ca, cc, rfl, hads, hb⟩
      have gA : Fr [] W21 x1 := (gv4.alloc _).below hb (gv4.alloc _).size
      refine hK.out _ _ (fun _ => gA) ?_
      clear hK K'
      have hk := key (.slice ca 1 cc) (.slice (some ⟨yv4.heap.size, 0, none⟩) 1 1) x1 ⟨⟨_, _, rfl, hads⟩, ⟨_, rfl, Ads.fr (ads1 (x := ⟨6, (a : Int), 1⟩) (heap_new rfl)) (Fr.ofBelow hb)⟩, gA⟩
      exact held_same hk (by kernel_rfl) (by kernel_rfl)
  obtain ⟨⟨caC, ccC, rfl, hxC⟩, ⟨ggC, rfl, hyC⟩, gkC⟩ := hR
  try simp only [List.setIfInBounds_toArray, List.set_cons_zero, List.set_cons_succ]
  refine hd_one 28 (by kernel_rfl) rfl (by kernel_rfl) rfl (fun K' hK => ?_)
  go_simp
  refine (rsameT_any _ _ [⟨6, (a : Int), 1⟩] kC hxC hyC).mono ?_
  rintro e yv5 ⟨rfl, hbb⟩
  have gv5 : Fr [] W21 yv5 := gkC.below hbb gkC.size
  clear hbb
  have hSv5 : Fr [] W21 yv5 := gv5
  refine hK.out _ _ (fun _ => hSv5) ?_
  clear hK K'
  try simp only [List.setIfInBounds_toArray, List.set_cons_zero, List.set_cons_succ]
  refine hd_take 29 (v := .bool true) rfl (by kernel_rfl) (by kernel_rfl) (by kernel_rfl) rfl hSv5 (fun W' hS => by go_simp) rfl ?_
  try simp only [Act.put, List.setIfInBounds_toArray, List.set_cons_zero, List.set_cons_succ]
  refine hd_one 30 (by kernel_rfl) rfl (by kernel_rfl) rfl (fun K' hK => ?_)
  go_simp
  refine hK.out _ _ (fun _ => hSv5) ?_
  clear hK K'
  refine held_done (by kernel_rfl) ?_
  have HX23 : Hid (Fr [] W14 yv5) := Lib.hid (HX21.out.trans gv5 (by simp))
  have HF23 : Hid (Fr [] w yv5) := Lib.hid (HF21.out.trans gv5 (by simp))
  have HL23 := Lib.hid (HL21.out.fr gv5 (by simp))

  go_wp2_with fail
  obtain ⟨eb, eo, rfl⟩ : ∃ eb eo, ea = some ⟨eb, eo, none⟩ := by
    obtain ⟨x, c, e9, _, _, hx⟩ := HE.out.form
    obtain ⟨p, q, e8⟩ := hx 0 (by decide)
    cases e9
    exact ⟨p, q, e8⟩
  have p0 := row_cell (HX23.out.at HP14.out (by simp)) 0
  have p1 := row_cell (HX23.out.at HP14.out (by simp)) 1
  simp at p0 p1
  obtain ⟨e20, e21, e22⟩ := (HE.out.fr (HW14.out.trans HX23.out (by simp))).cells 2 hE2 rfl
  obtain ⟨e10, e11, e12⟩ := (HE.out.fr (HW14.out.trans HX23.out (by simp))).cells 1 hE1 rfl
  simp only [Nat.reduceMul, Nat.reduceAdd, Nat.one_mul, Nat.add_assoc] at e20 e21 e22 e10 e11 e12
  have EZ2 : Hid (hE2.name.length ≤ 1000000 ∧ hE2.com.length ≤ 1000000 ∧ hE2.rev.length ≤ 1000000 ∧ (validB hE2 && chkB R 3 2 (textS hE2) L) = true) := Lib.hid (by
    have h := entS_hE hE2 (by simp [hE])
    exact ⟨h.1, h.2.1, h.2.2, by rw [hE_valid hE2 (by simp [hE]), HHY.out.1]; rfl⟩)
  have EZ1 : Hid (hE1.name.length ≤ 1000000 ∧ hE1.com.length ≤ 1000000 ∧ hE1.rev.length ≤ 1000000 ∧ (validB hE1 && chkB R 3 2 (textS hE1) L) = false) := Lib.hid (by
    have h := entS_hE hE1 (by simp [hE])
    exact ⟨h.1, h.2.1, h.2.2, by rw [HHY.out.2.1, Bool.and_false]⟩)
  have gw0 : Fr [] yv5 yv5.drew := (Fr.refl [] yv5).drew
  have hSw0 : Fr [] yv5 yv5.drew := gw0
  refine region_held 100 (fun W' => Fr [] yv5 W') hmx ?_
  change Held _ _ _ _ _ _ 31 (Array.replicate 31 false) _ _
  refine hd_take 0 (v := .bool true) rfl (by kernel_rfl) (by kernel_rfl) (by kernel_rfl) rfl hSw0 (fun W' hS => by go_simp) rfl ?_
  try simp only [Act.put, List.setIfInBounds_toArray, List.set_cons_zero, List.set_cons_succ]
  refine hd_take 1 (v := .bool true) rfl (by kernel_rfl) (by kernel_rfl) (by kernel_rfl) rfl hSw0 (fun W' hS => by go_simp) rfl ?_
  try simp only [Act.put, List.setIfInBounds_toArray, List.set_cons_zero, List.set_cons_succ]
  refine hd_take 2 (v := .int .i64 0) rfl (by kernel_rfl) (by kernel_rfl) (by kernel_rfl) rfl hSw0 (fun W' hS => by go_simp) rfl ?_
  try simp only [Act.put, List.setIfInBounds_toArray, List.set_cons_zero, List.set_cons_succ]
  refine hd_take 3 (v := .bool true) rfl (by kernel_rfl) (by kernel_rfl) (by kernel_rfl) rfl hSw0 (fun W' hS => by go_simp) rfl ?_
  try simp only [Act.put, List.setIfInBounds_toArray, List.set_cons_zero, List.set_cons_succ]
  refine hd_take 4 (v := .bool true) rfl (by kernel_rfl) (by kernel_rfl) (by kernel_rfl) rfl hSw0 (fun W' hS => by go_simp) rfl ?_
  try simp only [Act.put, List.setIfInBounds_toArray, List.set_cons_zero, List.set_cons_succ]
  refine hd_take 5 (v := .bool true) rfl (by kernel_rfl) (by kernel_rfl) (by kernel_rfl) rfl hSw0 (fun W' hS => by go_simp) rfl ?_
  try simp only [Act.put, List.setIfInBounds_toArray, List.set_cons_zero, List.set_cons_succ]
  refine hd_take 6 (v := .pointer (some ⟨pb, 1, none⟩)) rfl (by kernel_rfl) (by kernel_rfl) (by kernel_rfl) rfl hSw0 (fun W' hS => by go_simp) rfl ?_
  refine hd_take 8 (v := .pointer (some ⟨pb, 0, none⟩)) rfl (by kernel_rfl) (by kernel_rfl) (by kernel_rfl) rfl hSw0 (fun W' hS => by go_simp) rfl ?_
  refine hd_take 12 (v := .slice la L.length lc) rfl (by kernel_rfl) (by kernel_rfl) (by kernel_rfl) rfl hSw0 (fun W' hS => by go_simp) rfl ?_
  try simp only [Act.put, List.setIfInBounds_toArray, List.set_cons_zero, List.set_cons_succ]
  refine hd_take 7 (v := .string ⟨R.toArray⟩) rfl (by kernel_rfl) (by kernel_rfl) (by kernel_rfl) rfl hSw0 (fun W' hS => by have s0 := hS.cell p1 (by simp); go_simp) rfl ?_
  refine hd_take 9 (v := .slice (some ⟨eb, eo, none⟩) 3 ec) rfl (by kernel_rfl) (by kernel_rfl) (by kernel_rfl) rfl hSw0 (fun W' hS => by have s0 := hS.cell p0 (by simp); go_simp) rfl ?_
  try simp only [Act.put, List.setIfInBounds_toArray, List.set_cons_zero, List.set_cons_succ]
  refine hd_take 10 (v := .pointer (some ⟨eb, eo + 6, none⟩)) rfl (by kernel_rfl) (by kernel_rfl) (by kernel_rfl) rfl hSw0 (fun W' hS => by go_simp) rfl ?_
  try simp only [Act.put, List.setIfInBounds_toArray, List.set_cons_zero, List.set_cons_succ]
  refine hd_take 11 (v := .agg #[.string ⟨hE2.name.toArray⟩, .string ⟨hE2.com.toArray⟩, .string ⟨hE2.rev.toArray⟩]) rfl (by kernel_rfl) (by kernel_rfl) (by kernel_rfl) rfl hSw0 (fun W' hS => by have s0 := hS.cell e20 (by simp); have s1 := hS.cell e21 (by simp); have s2 := hS.cell e22 (by simp); go_simp) rfl ?_
  try simp only [Act.put, List.setIfInBounds_toArray, List.set_cons_zero, List.set_cons_succ]
  refine hd_one 13 (by kernel_rfl) rfl (by kernel_rfl) rfl (fun K' hK => ?_)
  go_simp
  refine (inclB_any R 3 2 hE2 (.slice la L.length lc) L yv5.drew true (by decide) (by decide) EZ2.out.1 EZ2.out.2.1 EZ2.out.2.2.1 (HL23.out.fr gw0 (by simp)) HHY.out.2.2 (HT.out.fr (HF23.out.trans gw0 (by simp))) EZ2.out.2.2.2).mono ?_
  rintro e yw1 ⟨rfl, hbb⟩
  have gw1 : Fr [] yv5 yw1 := gw0.below hbb gw0.size
  clear hbb
  have hSw1 : Fr [] yv5 yw1 := gw1
  refine hK.out _ _ (fun _ => hSw1) ?_
  clear hK K'
  try simp only [Act.put, List.setIfInBounds_toArray, List.set_cons_zero, List.set_cons_succ]
  refine hd_take 14 (v := .bool true) rfl (by kernel_rfl) (by kernel_rfl) (by kernel_rfl) rfl hSw1 (fun W' hS => by go_simp) rfl ?_
  try simp only [Act.put, List.setIfInBounds_toArray, List.set_cons_zero, List.set_cons_succ]
  refine hd_take 15 (v := .bool true) rfl (by kernel_rfl) (by kernel_rfl) (by kernel_rfl) rfl hSw1 (fun W' hS => by go_simp) rfl ?_
  try simp only [Act.put, List.setIfInBounds_toArray, List.set_cons_zero, List.set_cons_succ]
  refine hd_take 16 (v := .pointer (some ⟨pb, 1, none⟩)) rfl (by kernel_rfl) (by kernel_rfl) (by kernel_rfl) rfl hSw1 (fun W' hS => by go_simp) rfl ?_
  refine hd_take 18 (v := .pointer (some ⟨pb, 0, none⟩)) rfl (by kernel_rfl) (by kernel_rfl) (by kernel_rfl) rfl hSw1 (fun W' hS => by go_simp) rfl ?_
  refine hd_take 22 (v := .slice la L.length lc) rfl (by kernel_rfl) (by kernel_rfl) (by kernel_rfl) rfl hSw1 (fun W' hS => by go_simp) rfl ?_
  try simp only [Act.put, List.setIfInBounds_toArray, List.set_cons_zero, List.set_cons_succ]
  refine hd_take 17 (v := .string ⟨R.toArray⟩) rfl (by kernel_rfl) (by kernel_rfl) (by kernel_rfl) rfl hSw1 (fun W' hS => by have s0 := hS.cell p1 (by simp); go_simp) rfl ?_
  refine hd_take 19 (v := .slice (some ⟨eb, eo, none⟩) 3 ec) rfl (by kernel_rfl) (by kernel_rfl) (by kernel_rfl) rfl hSw1 (fun W' hS => by have s0 := hS.cell p0 (by simp); go_simp) rfl ?_
  try simp only [Act.put, List.setIfInBounds_toArray, List.set_cons_zero, List.set_cons_succ]
  refine hd_take 20 (v := .pointer (some ⟨eb, eo + 3, none⟩)) rfl (by kernel_rfl) (by kernel_rfl) (by kernel_rfl) rfl hSw1 (fun W' hS => by go_simp) rfl ?_
  try simp only [Act.put, List.setIfInBounds_toArray, List.set_cons_zero, List.set_cons_succ]
  refine hd_take 21 (v := .agg #[.string ⟨hE1.name.toArray⟩, .string ⟨hE1.com.toArray⟩, .string ⟨hE1.rev.toArray⟩]) rfl (by kernel_rfl) (by kernel_rfl) (by kernel_rfl) rfl hSw1 (fun W' hS => by have s0 := hS.cell e10 (by simp); have s1 := hS.cell e11 (by simp); have s2 := hS.cell e12 (by simp); go_simp) rfl ?_
  try simp only [Act.put, List.setIfInBounds_toArray, List.set_cons_zero, List.set_cons_succ]
  refine hd_one 23 (by kernel_rfl) rfl (by kernel_rfl) rfl (fun K' hK => ?_)
  go_simp
  refine (inclB_any R 3 2 hE1 (.slice la L.length lc) L yw1 false (by decide) (by decide) EZ1.out.1 EZ1.out.2.1 EZ1.out.2.2.1 (HL23.out.fr gw1 (by simp)) HHY.out.2.2 (HT.out.fr (HF23.out.trans gw1 (by simp))) EZ1.out.2.2.2).mono ?_
  rintro e yw2 ⟨rfl, hbb⟩
  have gw2 : Fr [] yv5 yw2 := gw1.below hbb gw1.size
  clear hbb
  have hSw2 : Fr [] yv5 yw2 := gw2
  refine hK.out _ _ (fun _ => hSw2) ?_
  clear hK K'
  try simp only [Act.put, List.setIfInBounds_toArray, List.set_cons_zero, List.set_cons_succ]
  refine hd_take 24 (v := .bool true) rfl (by kernel_rfl) (by kernel_rfl) (by kernel_rfl) rfl hSw2 (fun W' hS => by go_simp) rfl ?_
  try simp only [Act.put, List.setIfInBounds_toArray, List.set_cons_zero, List.set_cons_succ]
  refine hd_take 25 (v := .bool true) rfl (by kernel_rfl) (by kernel_rfl) (by kernel_rfl) rfl hSw2 (fun W' hS => by go_simp) rfl ?_
  try simp only [Act.put, List.setIfInBounds_toArray, List.set_cons_zero, List.set_cons_succ]
  refine hd_take 26 (v := .bool true) rfl (by kernel_rfl) (by kernel_rfl) (by kernel_rfl) rfl hSw2 (fun W' hS => by go_simp) rfl ?_
  try simp only [Act.put, List.setIfInBounds_toArray, List.set_cons_zero, List.set_cons_succ]
  refine hd_take 27 (v := .int .i64 20) rfl (by kernel_rfl) (by kernel_rfl) (by kernel_rfl) rfl hSw2 (fun W' hS => by go_simp) rfl ?_
  try simp only [Act.put, List.setIfInBounds_toArray, List.set_cons_zero, List.set_cons_succ]
  refine hd_take 28 (v := .bool true) rfl (by kernel_rfl) (by kernel_rfl) (by kernel_rfl) rfl hSw2 (fun W' hS => by go_simp) rfl ?_
  try simp only [Act.put, List.setIfInBounds_toArray, List.set_cons_zero, List.set_cons_succ]
  refine hd_take 29 (v := .bool true) rfl (by kernel_rfl) (by kernel_rfl) (by kernel_rfl) rfl hSw2 (fun W' hS => by go_simp) rfl ?_
  try simp only [Act.put, List.setIfInBounds_toArray, List.set_cons_zero, List.set_cons_succ]
  refine hd_one 30 (by kernel_rfl) rfl (by kernel_rfl) rfl (fun K' hK => ?_)
  go_simp
  refine hK.out _ _ (fun _ => hSw2) ?_
  clear hK K'
  refine held_done (by kernel_rfl) ?_
  go_wp2_with fail
  go_ret
  exact ⟨rfl, (HF23.out.trans gw2 (by simp)).toBelow (by simp)⟩
end Go.Proofs.YtjddngbgbbbefaaGreatDoor
namespace Go.Proofs.YtjddngbgbbbefaaGreatDoor
open Go.RowKit
set_option maxRecDepth 100000

def few20B (p : Pbl) (n : Nat) : Bool := decide (p.parts.length ≤ 20) && (decide (p.order.length ≤ 60) && (decide (p.served.length ≤ 60) && (decide (p.root.length ≤ 60) && (few18B p.ents n && few19B p.parts 60))))
set_option maxHeartbeats 4000000 in
theorem few20_any (v : Value) (p : Pbl) (N : Nat) (w : World) (hv : PblR w v p) :
    Calls Tryz.prog 6 #[v, .int .i64 (N : Int)] w fun e w' => e = .returned (.bool (few20B p N)) ∧ Below w.heap.size w w' := by
  obtain ⟨ev, pv, ov, sv, rfl, h1, h2, h3, h4⟩ := hv
  obtain ⟨ea, ec, rfl, _, _, _⟩ := h1.form
  obtain ⟨pa, pc, rfl, _, _, _⟩ := h2.form
  obtain ⟨oa, oc, rfl, _, _, _⟩ := h3.form
  obtain ⟨sa, sc, rfl, _, _, _⟩ := h4.form
  have HE := Lib.hid h1
  have HP := Lib.hid h2
  obtain ⟨n, en⟩ : ∃ n, n = p.ents.length := ⟨_, rfl⟩
  obtain ⟨m, em⟩ : ∃ n, n = p.parts.length := ⟨_, rfl⟩
  obtain ⟨on, eon⟩ : ∃ n, n = p.order.length := ⟨_, rfl⟩
  obtain ⟨sn, esn⟩ : ∃ n, n = p.served.length := ⟨_, rfl⟩
  obtain ⟨rn, ern⟩ : ∃ n, n = p.root.length := ⟨_, rfl⟩
  obtain ⟨W1, hW1⟩ : ∃ W1, W1 = w.alloc (.cells #[.slice ea p.ents.length ec, .string ⟨p.root.toArray⟩, .slice pa p.parts.length pc, .slice oa p.order.length oc, .slice sa p.served.length sc] 26) := ⟨_, rfl⟩
  obtain ⟨pb, epb⟩ : ∃ q, q = w.heap.size := ⟨_, rfl⟩
  have hp1 : W1.heap[pb]? = some (.cells #[.slice ea p.ents.length ec, .string ⟨p.root.toArray⟩, .slice pa p.parts.length pc, .slice oa p.order.length oc, .slice sa p.served.length sc] 26 (0, 0)) := by rw [hW1]; exact heap_new epb
  have HF1 : Hid (Fr [] w W1) := Lib.hid (by rw [hW1]; exact (Fr.refl [] w).alloc _)
  have c0 := row_cell hp1 0
  have c1 := row_cell hp1 1
  have c2 := row_cell hp1 2
  have c3 := row_cell hp1 3
  have c4 := row_cell hp1 4
  simp at c0 c1 c2 c3 c4
  have HP1 := Lib.hid hp1
  have HR : Hid (few20B p N = (decide (m ≤ 20) && (decide (on ≤ 60) && (decide (sn ≤ 60) && (decide (rn ≤ 60) && (few18B p.ents N && few19B p.parts 60)))))) := Lib.hid (by rw [em, eon, esn, ern]; rfl)
  rw [← en] at HE HP1 c0 hW1
  rw [← em] at HP HP1 c2 hW1
  rw [← eon] at c3 hW1 HP1
  rw [← esn] at c4 hW1 HP1
  have hrn : (⟨p.root.toArray⟩ : ByteArray).size = rn := by rw [ba_size, ern]
  rw [← en, ← em, ← eon, ← esn]
  rw [hW1, epb] at c0 c1 c2 c3 c4
  have EW := Lib.hid hW1
  have EP := Lib.hid epb
  have HRN := Lib.hid ern
  clear h1 h2 h3 h4 hp1 hW1 epb en em eon esn ern hrn
  go_enter Tryz.func6, Tryz.ntmps6
  by_cases a1 : m ≤ 20
  case neg =>
    have t1 : decide ((20 : Int) < (m : Int)) = true := by simp; omega
    have HN : Hid (few20B p N = false) := Lib.hid (by rw [HR.out]; simp [a1])
    clear a1
    go_wp2_with fail
    rw [← EW.out]
    go_ret
    exact ⟨by rw [HN.out]; rfl, HF1.out.toBelow (by simp)⟩
  have t1 : decide ((20 : Int) < (m : Int)) = false := by simp; omega
  by_cases a2 : on ≤ 60
  case neg =>
    have t2 : decide ((60 : Int) < (on : Int)) = true := by simp; omega
    have HN : Hid (few20B p N = false) := Lib.hid (by rw [HR.out]; simp [a2])
    clear a1 a2
    go_wp2_with fail
    rw [← EW.out]
    go_ret
    exact ⟨by rw [HN.out]; rfl, HF1.out.toBelow (by simp)⟩
  have t2 : decide ((60 : Int) < (on : Int)) = false := by simp; omega
  by_cases a3 : sn ≤ 60
  case neg =>
    have t3 : decide ((60 : Int) < (sn : Int)) = true := by simp; omega
    have HN : Hid (few20B p N = false) := Lib.hid (by rw [HR.out]; simp [a3])
    clear a1 a2 a3
    go_wp2_with fail
    rw [← EW.out]
    go_ret
    exact ⟨by rw [HN.out]; rfl, HF1.out.toBelow (by simp)⟩
  have t3 : decide ((60 : Int) < (sn : Int)) = false := by simp; omega
  by_cases a4 : p.root.length ≤ 60
  case neg =>
    have t4 : decide ((60 : Int) < (p.root.length : Int)) = true := by simp; omega
    have HN : Hid (few20B p N = false) := Lib.hid (by rw [HR.out, HRN.out]; simp [a4])
    clear a1 a2 a3 a4
    go_wp2_with fail
    rw [← EW.out]
    go_ret
    exact ⟨by rw [HN.out]; rfl, HF1.out.toBelow (by simp)⟩
  have t4 : decide ((60 : Int) < (p.root.length : Int)) = false := by simp; omega
  have HR2 : Hid (few20B p N = (few18B p.ents N && few19B p.parts 60)) := Lib.hid (by rw [HR.out, HRN.out]; simp [a1, a2, a3, a4])
  clear a1 a2 a3 a4
  go_wp2_with fail
  rw [← EW.out, ← EP.out]
  refine (few18_any _ p.ents N W1 (HE.out.fr HF1.out)).mono ?_
  rintro e w2 ⟨rfl, hb⟩
  have f2 := Fr.ofBelow (X := []) hb
  have HF2 := Lib.hid (HF1.out.trans f2 (by simp))
  obtain ⟨b8, eb8⟩ : ∃ q, q = few18B p.ents N := ⟨_, rfl⟩
  rw [← eb8] at HR2 ⊢
  have d2 := row_cell (f2.at HP1.out (by simp)) 2
  simp at d2
  clear hb f2 eb8 c0 c1 c2 c3 c4 t1 t2 t3 t4
  cases b8 with
  | false =>
    go_wp2_with fail
    go_ret
    exact ⟨by rw [HR2.out]; rfl, HF2.out.toBelow (by simp)⟩
  | true =>
    go_wp2_with fail
    refine (few19_any _ p.parts 60 w2 (HP.out.fr HF2.out)).mono ?_
    rintro e w3 ⟨rfl, hb⟩
    have HF3 := Lib.hid (HF2.out.below hb HF2.out.size)
    clear hb d2
    go_wp2_with fail
    go_ret
    exact ⟨by rw [HR2.out]; rfl, HF3.out.toBelow (by simp)⟩
theorem few20_ok {p : Pbl} (h : few20B p 20 = true) (ho : ∀ k ∈ p.order, inI k) (hs : ∀ k ∈ p.served, inI k) : PblS p ∧ p.ents.length ≤ 20 ∧ p.parts.length ≤ 20 ∧ p.order.length ≤ 60 ∧ p.served.length ≤ 60 := by
  unfold few20B at h
  simp only [Bool.and_eq_true, decide_eq_true_eq] at h
  obtain ⟨h1, h2, h3, h4, h5, h6⟩ := h
  have g5 := few18_all h5
  have g6 := few19_all h6
  exact ⟨⟨fun e he => ⟨Nat.le_trans (g5.1 e he).1 (by decide), Nat.le_trans (g5.1 e he).2.1 (by decide), Nat.le_trans (g5.1 e he).2.2 (by decide)⟩, by omega, fun q hq => by have := g6.1 q hq; omega, by omega, by omega, by omega, ho, by omega, hs⟩, g5.2, h1, h2, h3⟩
end Go.Proofs.YtjddngbgbbbefaaGreatDoor
