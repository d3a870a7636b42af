/-
  slices.Chunk at slices of strings, by two: the contract of its iterator.
-/
import Derived.RangeFuncNested
import Derived.RangeFuncBound
import Derived.RangeFuncCalls
import Derived.RangeFuncLeaves
import Derived.RangeFuncBox
import Derived.Shelf.Abstract
import Derived.Shelf.RegionOpen
import Derived.OwnWalkIn
import Derived.TacticsInMore
import Derived.LoopNIn
import Derived.LoopIn
import Derived.Sort.BigQuietIn
import Derived.Sort.LoopGhostIn
import Derived.Test.YtmhejcndkplepaaDoorOwn
namespace Go.Proofs.YtmhejcndkplepaaDoor
open Go.RowKit Go.Shelf
attribute [local go_sem] Oper.semAt_some

theorem JC_below {β : Type} {B : Nat} {J : β → World → Prop} (h : AbidesFrom B J) {s : β} {A C : World} (hs : J s A) (hb : Fr [] A C) : J s C :=
  h s A C none hs ⟨hb.os, hb.tape, hb.output, hb.size, fun k hk _ => hb.block k hk (by simp)⟩ (fun r e => by cases e)
/-- What a round of the caller's body leaves: it goes on, or it stops. -/
def YPostC {α : Type} (J Jx : List α → World → Prop) (Kp : World → World → Prop) (pre : List α) (x : α) (W1 : World) (b : Bool) (W' : World) : Prop :=
  (b = true ∧ J (pre ++ [x]) W' ∧ Kp W1 W') ∨ (b = false ∧ Jx (pre ++ [x]) W')

theorem chunk_any (a : Option Addr) (n cap : Nat) (w : World) :
    Calls Tryd.prog 99 #[.slice a n cap, .int .i64 2] w fun e w' => e = .returned (.func (.func 113) #[] #[.pointer (some ⟨w.heap.size, 0, none⟩), .pointer (some ⟨w.heap.size + 1, 0, none⟩)]) ∧
      w' = (w.alloc (.cells #[.slice a n cap] 22)).alloc (.cells #[.int .i64 2] 3) := by
  go_enter Tryd.func99, Tryd.ntmps99
  go_wp2
  go_ret
  exact ⟨by simp, rfl⟩

/-- The length of the chunk at a place. -/
def chl (n k : Nat) : Nat := min 2 (n - 2 * k)
def encsC (b off n : Nat) (k : Fin ((n + 1) / 2)) : Array Value := #[.slice (some ⟨b, off + 2 * k.val, none⟩) (chl n k.val) (chl n k.val)]
/-- What a round keeps for the iterator. -/
def KpC (bs bn : Nat) (v : Value) (A B : World) : Prop :=
  (A.heap[bs]? = some (.cells #[v] 22 (0, 0)) → B.heap[bs]? = some (.cells #[v] 22 (0, 0))) ∧
  (A.heap[bn]? = some (.cells #[.int .i64 2] 3 (0, 0)) → B.heap[bn]? = some (.cells #[.int .i64 2] 3 (0, 0)))

set_option maxRecDepth 100000 in
set_option maxHeartbeats 2000000 in
theorem chunk_stops (m bs bn b off n cap : Nat) (w : World) (hm : 1 ≤ m) (hn : n ≤ 1000000) (hcap : n ≤ cap) (hc9 : cap ≤ 9223372036854775807)
    (hb1 : w.heap[bs]? = some (.cells #[.slice (some ⟨b, off, none⟩) n cap] 22 (0, 0))) (hb2 : w.heap[bn]? = some (.cells #[.int .i64 2] 3 (0, 0))) :
    SeqStopsK Fence.wide m Tryd.prog 113 #[.pointer (some ⟨bs, 0, none⟩), .pointer (some ⟨bn, 0, none⟩)] (encsC b off n) (KpC bs bn (.slice (some ⟨b, off, none⟩) n cap)) (fun xs => xs = List.finRange ((n + 1) / 2)) (fun _ => True) ((n + 1) / 2) w := fun l J Jx W hW hJ hJx hY h0 => by
  have hB1 := (Fr.ofBelow (X := []) hW).at hb1 (by simp)
  have hB2 := (Fr.ofBelow (X := []) hW).at hb2 (by simp)
  have HY := Lib.hid hY
  have HJ := Lib.hid hJ
  clear hY hJ hJx hb1 hb2 hW
  refine callsIn_of_wp Tryd.func113 rfl trivial ?_ rfl
  simp only [Tryd.ntmps113, List.size_toArray, List.length_cons, List.length_nil, Nat.reduceAdd, Nat.reduceSub, Array.replicate_succ, Array.replicate_zero, List.push_toArray, List.append_toArray, List.nil_append, List.cons_append]
  gi_wp2
  gi_loopw [4] (fun i wr => ∃ (k i0 : Nat), i0 = 2 * k ∧ i0 ≤ n + 1 ∧ i = .int .i64 (i0 : Int) ∧ J ((List.finRange ((n + 1) / 2)).take k) wr ∧ wr.heap[bs]? = some (.cells #[.slice (some ⟨b, off, none⟩) n cap] 22 (0, 0)) ∧ wr.heap[bn]? = some (.cells #[.int .i64 2] 3 (0, 0)))
    (fun i _ => n + 2 - (intOf i).toNat)
  case atStart => exact ⟨0, 0, rfl, by omega, rfl, h0, hB1, hB2⟩
  case round =>
    obtain ⟨k, i, hik, hi, rfl, hJk, hbk1, hbk2⟩ := hrel
    have hcs := cell_of_one hbk1
    have hcn := cell_of_one hbk2
    have HB1 := Lib.hid hbk1
    have HB2 := Lib.hid hbk2
    have HK := Lib.hid hJk
    have HIK := Lib.hid hik
    clear hbk1 hbk2 hJk hB1 hB2 hik
    by_cases hlt : i < n
    · have hmx : Tryd.prog.follows .mixedOrders = true := by kernel_rfl
      have t1 : decide ((i : Int) < (n : Int)) = true := by simp; omega
      obtain ⟨d, hd, hd2, hd3, hd4⟩ : ∃ d : Nat, d = chl n k ∧ i + d ≤ n ∧ 1 ≤ d ∧ d ≤ 2 := ⟨_, rfl, by have := HIK.out; unfold chl; omega, by have := HIK.out; unfold chl; omega, by unfold chl; omega⟩
      have m1 : min (2 : Int) ((n - i : Nat) : Int) = (d : Int) := by have := HIK.out; rw [hd]; unfold chl; omega
      have m2 : min (2 : Int) ((n : Int) - (i : Int)) = (d : Int) := by have := HIK.out; rw [hd]; unfold chl; omega
      have g0 : (0 : Int) ≤ (i : Int) := by omega
      have g1 : (i : Int) ≤ (cap : Int) := by omega
      have g2 : (i : Int) ≤ (n : Int) := by omega
      have HD := Lib.hid hd
      clear hd
      gi_wp2_with fail
      gi_quiet (fail)
      have hJ2 := JC_below HJ.out HK.out ((Fr.refl [] wr).drewN nq)
      have hkN : k < (n + 1) / 2 := by have := HIK.out; omega
      obtain ⟨fn, tmps, asg, bd, hy, hR⟩ := HY.out ((List.finRange ((n + 1) / 2)).take k) ⟨k, hkN⟩ (wr.drewN nq) hJ2 (by rw [List.length_take, List.length_finRange]; omega)
      unfold encsC at hy
      dsimp only at hy
      rw [← HD.out, ← HIK.out] at hy
      have HR := Lib.hid (hR.mono (R' := fun e W' => ∃ b', e = .returned (.bool b') ∧ YPostC J Jx (KpC bs bn (.slice (some ⟨b, off, none⟩) n cap)) ((List.finRange ((n + 1) / 2)).take k) ⟨k, hkN⟩ (wr.drewN nq) b' W') (fun e W' h => by rcases h with ⟨h1, h2, h3⟩ | ⟨h1, h2⟩; exact ⟨true, h1, Or.inl ⟨rfl, h2, h3⟩⟩; exact ⟨false, h1, Or.inr ⟨rfl, h2⟩⟩))
      clear hR hJ2
      have w1 : IntKind.i64.wrap ((i : Int) + (d : Int)) = (i : Int) + (d : Int) := IntWalk.i64_in _ (by omega)
      have g3 : (i : Int) + (d : Int) ≤ (n : Int) := by omega
      have g4 : (i : Int) + (d : Int) ≤ (cap : Int) := by omega
      have g5 : (i : Int) ≤ (i : Int) + (d : Int) := by omega
      have g6 : (0 : Int) ≤ (i : Int) + (d : Int) := by omega
      have g7 : ((i : Int) + (d : Int)).toNat = i + d := by omega
      have g8 : i + d - i = d := by omega
      have hcs' : (wr.drewN nq).cell? ⟨bs, 0, none⟩ = some (.slice (some ⟨b, off, none⟩) n cap) := hcs
      have hcn' : (wr.drewN nq).cell? ⟨bn, 0, none⟩ = some (.int .i64 2) := hcn
      gi_wp2_with fail
      refine HR.out.mono ?_
      rintro e w3 ⟨yb, rfl, hyp⟩
      have HYP := Lib.hid hyp
      clear hyp HR hcs hcs' hcn hcn' hy
      cases yb with
      | true =>
        obtain ⟨_, hJ3, hK3⟩ | ⟨h, _⟩ := HYP.out
        · have hb1 := hK3.1 (((Fr.refl [] wr).drewN nq).at HB1.out (by simp))
          have hb2 := hK3.2 (((Fr.refl [] wr).drewN nq).at HB2.out (by simp))
          have hcs := cell_of_one hb1
          have hcn := cell_of_one hb2
          have HB1' := Lib.hid hb1
          have HB2' := Lib.hid hb2
          have HJ3 : Hid (J ((List.finRange ((n + 1) / 2)).take (k + 1)) w3) := Lib.hid (by rw [List.take_succ_eq_append_getElem (by simpa using hkN)]; simpa using hJ3)
          have w2 : IntKind.i64.wrap ((i : Int) + 2) = (i : Int) + 2 := IntWalk.i64_in _ (by omega)
          clear hJ3 hb1 hb2 hK3 HYP
          gi_wp2_with fail
          go_roundw
          case rel => exact ⟨k + 1, i + 2, by have := HIK.out; omega, by omega, by go_num, HJ3.out, HB1'.out, HB2'.out⟩
          case measure => simp [intOf]; omega
        · cases h
      | false =>
        obtain ⟨h, _⟩ | ⟨_, hx3⟩ := HYP.out
        · cases h
        · have HX3 := Lib.hid hx3
          clear hx3 HYP
          gi_wp2_with fail
          refine bodyPost_ret (results_none rfl _ _ _) rfl ?_
          exact ⟨⟨_, rfl⟩, .inr ⟨_, trivial, HX3.out⟩⟩
    · have t1 : decide ((i : Int) < (n : Int)) = false := by simp; omega
      have HE : Hid (J (List.finRange ((n + 1) / 2)) wr) := Lib.hid (by
        have := HIK.out
        have h2 := HK.out
        rwa [List.take_of_length_le (by rw [List.length_finRange]; omega)] at h2)
      gi_wp2_with fail
      go_end0
      exact ⟨⟨_, rfl⟩, .inl ⟨_, rfl, HE.out⟩⟩
end Go.Proofs.YtmhejcndkplepaaDoor
