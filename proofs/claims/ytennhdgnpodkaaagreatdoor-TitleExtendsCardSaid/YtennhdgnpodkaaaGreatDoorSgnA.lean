/-
  sign.starts: the iterator over the starts of the chains.
-/
import Derived.RangeFuncNested
import Derived.RangeFuncBound
import Derived.RangeFuncCalls
import Derived.RangeFuncLeaves
import Derived.RangeFuncBox
import Derived.Shelf.Abstract
import Derived.Shelf.RegionOpen
import Derived.OwnWalkIn
import Derived.TacticsInMore
import Derived.LoopNIn
import Derived.LoopIn
import Derived.Maps.AppendAt
import Derived.Lib.ItoaLen
import Derived.Test.YtennhdgnpodkaaaGreatDoorDigE
import Derived.Test.YtennhdgnpodkaaaGreatDoorOwn
namespace Go.Proofs.YtennhdgnpodkaaaGreatDoor
open Go.RowKit Go.Shelf
attribute [local go_sem] Oper.semAt_some

/-- The start of a chain of a secret. -/
def startS (secret : List UInt8) (i : Nat) : List UInt8 := dlist [secret, Lib.decDigits i]
def encsS (secret : List UInt8) (i : Fin 18) : Array Value := #[.int .i64 (i.val : Int), .string ⟨(startS secret i.val).toArray⟩]
/-- What a round keeps for the iterator. -/
def KpS (bs : Nat) (secret : List UInt8) (A B : World) : Prop :=
  (A.heap[bs]? = some (.cells #[.string ⟨secret.toArray⟩] 9 (0, 0)) → B.heap[bs]? = some (.cells #[.string ⟨secret.toArray⟩] 9 (0, 0))) ∧ (Tabs A → Tabs B)
theorem decDigits_two (i : Nat) (h : i < 100) : (Lib.decDigits i).length ≤ 2 := by
  rw [Lib.decDigits]
  split
  · simp
  · rw [Lib.decDigits, dif_pos (by omega)]; simp

theorem J_below {β : Type} {B : Nat} {J : β → World → Prop} (h : AbidesFrom B J) {s : β} {A C : World} (hs : J s A) (hb : Fr [] A C) : J s C :=
  h s A C none hs ⟨hb.os, hb.tape, hb.output, hb.size, fun k hk _ => hb.block k hk (by simp)⟩ (fun r e => by cases e)
/-- What a round of the caller's body leaves: it goes on, or it stops. -/
def YPost {α : Type} (J Jx : List α → World → Prop) (Kp : World → World → Prop) (pre : List α) (x : α) (W1 : World) (b : Bool) (W' : World) : Prop :=
  (b = true ∧ J (pre ++ [x]) W' ∧ Kp W1 W') ∨ (b = false ∧ Jx (pre ++ [x]) W')
theorem starts_le (secret : List UInt8) (k : Nat) (hs : secret.length ≤ 1000000) (hk : k < 100) : (joinL [secret, Lib.decDigits k]).length ≤ 140737488355328 := by
  have h1 := decDigits_two k hk
  have h2 : (Lib.decDigits secret.length).length ≤ 21 := by have := Lib.itoa_length_le (secret.length : Int) (by omega) (by omega); rwa [Lib.itoa_nonneg] at this
  have h3 : (Lib.decDigits (Lib.decDigits k).length).length ≤ 2 := decDigits_two _ (by omega)
  simp only [joinL, joinE, List.flatMap_cons, List.flatMap_nil, List.length_append, List.length_cons, List.length_nil]
  omega

set_option maxRecDepth 100000 in
set_option maxHeartbeats 1000000 in
theorem starts_stops (n bs : Nat) (secret : List UInt8) (w : World) (hn : 1 ≤ n) (hsl : secret.length ≤ 1000000) (hb : w.heap[bs]? = some (.cells #[.string ⟨secret.toArray⟩] 9 (0, 0))) (hT : Tabs w) :
    SeqStopsK Fence.wide n Tryz.prog 116 #[.pointer (some ⟨bs, 0, none⟩)] (encsS secret) (KpS bs secret) (fun xs => xs = List.finRange 18) (fun _ => True) 18 w := fun l J Jx W hW hJ hJx hY h0 => by
  have hbW := (Fr.ofBelow (X := []) hW).at hb (by simp)
  have hTW := hT.fr (Fr.ofBelow hW)
  have HY := Lib.hid hY
  have HJ := Lib.hid hJ
  clear hY hJ hJx hb hT hW
  refine callsIn_of_wp Tryz.func116 rfl trivial ?_ rfl
  simp only [Tryz.ntmps116, List.size_toArray, List.length_cons, List.length_nil, Nat.reduceAdd, Nat.reduceSub, Array.replicate_succ, Array.replicate_zero, List.push_toArray, List.append_toArray, List.nil_append, List.cons_append]
  gi_wp2
  gi_loopw [4] (fun i wr => ∃ k : Nat, k ≤ 18 ∧ i = .int .i64 (k : Int) ∧ J ((List.finRange 18).take k) wr ∧ wr.heap[bs]? = some (.cells #[.string ⟨secret.toArray⟩] 9 (0, 0)) ∧ Tabs wr)
    (fun i _ => 18 - (intOf i).toNat)
  case atStart => exact ⟨0, by omega, rfl, h0, hbW, hTW⟩
  case round =>
    obtain ⟨k, hk, rfl, hJk, hbk, hTk⟩ := hrel
    by_cases hlt : k < 18
    · have hcs := cell_of_one hbk
      have HB := Lib.hid hbk
      have HT := Lib.hid hTk
      have HK := Lib.hid hJk
      clear hbk hTk hJk
      have hmx : Tryz.prog.follows .mixedOrders = true := by kernel_rfl
      gi_wp2_with fail
      gi_region_with_o (first
        | (refine ⟨trivial, ?_⟩; gi_at_call 52; refine (callsIn_wide.2 (itoa_any k _ (by omega) (HT.out.fr (by repeat (first | exact Fr.refl _ _ | apply Fr.drew | apply Fr.alloc))))).mono ?_; rintro e w1 ⟨rfl, hb1⟩; have hw1 : Fr [] wr w1 := ((Fr.refl [] wr).drew).below hb1 (Nat.le_refl _); have hcs1 : w1.cell? ⟨bs, 0, none⟩ = some (.string ⟨secret.toArray⟩) := cell_of_one (hw1.at HB.out (by simp)))
        | (refine ⟨trivial, ?_⟩; gi_at_call 53; refine (callsIn_wide.2 (list_any _ [secret, Lib.decDigits k] _ (strs_two (heap_new rfl)) (starts_le secret k hsl (by omega)) (HT.out.fr (hw1.alloc _)))).mono ?_; rintro e w2 ⟨rfl, hb2⟩; have hw2 : Fr [] wr w2 := (hw1.alloc _).below hb2 (hw1.alloc _).size; have hJ2 := J_below HJ.out HK.out hw2; obtain ⟨fn, tmps, asg, bd, hy, hR⟩ := HY.out _ ⟨k, hlt⟩ w2 hJ2 (by simp; omega); dsimp only [encsS, startS] at hy; have HR := Lib.hid (hR.mono (R' := fun e W' => ∃ b, e = .returned (.bool b) ∧ YPost J Jx (KpS bs secret) _ _ w2 b W') (fun e W' h => by rcases h with ⟨h1, h2, h3⟩ | ⟨h1, h2⟩; exact ⟨true, h1, Or.inl ⟨rfl, h2, h3⟩⟩; exact ⟨false, h1, Or.inr ⟨rfl, h2⟩⟩)); clear hR hJ2)
        | (refine HR.out.mono ?_; rintro e w3 ⟨yb, rfl, hyp⟩))
      all_goals
        have HYP := Lib.hid hyp
        clear hyp HR
        cases yb with
        | true =>
          obtain ⟨_, hJ3, hK3⟩ | ⟨h, _⟩ := HYP.out
          · have hb3 := hK3.1 (hw2.at HB.out (by simp))
            have hT3 := hK3.2 (HT.out.fr hw2)
            have e18 : (List.finRange 18).take (k + 1) = (List.finRange 18).take k ++ [⟨k, hlt⟩] := by
              rw [List.take_succ_eq_append_getElem (by simpa using hlt)]; simp
            have HE := Lib.hid e18
            have HJ3 := Lib.hid hJ3
            have HB3 := Lib.hid hb3
            have HT3 := Lib.hid hT3
            clear e18 hJ3 hb3 hT3 hK3 HYP
            gi_wp2
            go_roundw
            case rel => exact ⟨k + 1, by omega, by go_num, by rw [HE.out]; exact HJ3.out, HB3.out, HT3.out⟩
            case measure => simp [intOf]; omega
          · cases h
        | false =>
          obtain ⟨h, _⟩ | ⟨_, hx3⟩ := HYP.out
          · cases h
          · have HX3 := Lib.hid hx3
            clear hx3 HYP
            gi_wp2
            refine bodyPost_ret (results_none rfl _ _ _) rfl ?_
            exact ⟨⟨_, rfl⟩, .inr ⟨_, HX3.out⟩⟩
    · obtain rfl : k = 18 := by omega
      have HJk : Hid (J (List.finRange 18) wr) := by have := hJk; rw [List.take_of_length_le (by simp)] at this; exact this
      clear hJk
      gi_wp2
      go_end0
      exact ⟨⟨_, rfl⟩, .inl ⟨_, rfl, HJk.out⟩⟩
end Go.Proofs.YtennhdgnpodkaaaGreatDoor
