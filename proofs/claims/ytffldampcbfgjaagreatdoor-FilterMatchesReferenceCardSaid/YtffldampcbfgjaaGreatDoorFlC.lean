/-
  The iterator over the positions of a serial number.
-/
import Derived.Test.YtffldampcbfgjaaGreatDoorItI
import Derived.Test.YtffldampcbfgjaaGreatDoorFlB
import Derived.Test.YtffldampcbfgjaaGreatDoorRoundY
import Derived.Test.YtffldampcbfgjaaGreatDoorYld
namespace Go.Proofs.YtffldampcbfgjaaGreatDoor
open Go.RowKit Go.Shelf
attribute [local go_sem] Oper.semAt_some

theorem joinL_two (a b : List UInt8) (ha : a.length ≤ 21) (hb : b.length ≤ 21) : (joinL [a, b]).length ≤ 140737488355328 := by
  have h1 : (Lib.decDigits a.length).length ≤ 21 := by have := Lib.itoa_length_le (a.length : Int) (by omega) (by omega); rwa [Lib.itoa_nonneg] at this
  have h2 : (Lib.decDigits b.length).length ≤ 21 := by have := Lib.itoa_length_le (b.length : Int) (by omega) (by omega); rwa [Lib.itoa_nonneg] at this
  simp only [joinL, joinE, List.flatMap_cons, List.flatMap_nil, List.length_append, List.length_cons, List.length_nil]
  omega
/-- What the iterator hands out. -/
def encsP (serial bits hashes : Int) (i : Fin hashes.toNat) : Array Value := #[.int .i64 (posF serial bits i.val : Int)]
/-- What a round keeps for the iterator. -/
def KpP (bs bb : Nat) (serial bits : Int) (A B : World) : Prop :=
  (A.heap[bs]? = some (.cells #[.int .i64 serial] 3 (0, 0)) → B.heap[bs]? = some (.cells #[.int .i64 serial] 3 (0, 0))) ∧ (A.heap[bb]? = some (.cells #[.int .i64 bits] 3 (0, 0)) → B.heap[bb]? = some (.cells #[.int .i64 bits] 3 (0, 0))) ∧ (Tabs A → Tabs B)
theorem KpP.t {bs bb : Nat} {serial bits : Int} {A B C : World} (h : KpP bs bb serial bits A B) (k : KpP bs bb serial bits B C) : KpP bs bb serial bits A C :=
  ⟨fun x => k.1 (h.1 x), fun x => k.2.1 (h.2.1 x), fun x => k.2.2 (h.2.2 x)⟩

set_option maxRecDepth 100000 in
set_option maxHeartbeats 4000000 in
theorem positions_stops (m bh bs bb : Nat) (serial bits hashes : Int) (w : World) (hm : 1 ≤ m) (hs : -9223372036854775808 ≤ serial ∧ serial ≤ 9223372036854775807) (hb : 1 ≤ bits ∧ bits ≤ 65536) (hh : 0 ≤ hashes ∧ hashes ≤ 8)
    (hb0 : w.heap[bh]? = some (.cells #[.int .i64 hashes] 3 (0, 0))) (hb1 : w.heap[bs]? = some (.cells #[.int .i64 serial] 3 (0, 0))) (hb2 : w.heap[bb]? = some (.cells #[.int .i64 bits] 3 (0, 0))) (hT : Tabs w) :
    SeqStopsK Fence.wide m Tryz.prog 81 #[.pointer (some ⟨bh, 0, none⟩), .pointer (some ⟨bs, 0, none⟩), .pointer (some ⟨bb, 0, none⟩)] (encsP serial bits hashes) (KpP bs bb serial bits) (fun xs => xs = List.finRange hashes.toNat) (fun _ => True) hashes.toNat w := fun l J Jx W hW hJ hJx hY h0 => by
  have hB0 := (Fr.ofBelow (X := []) hW).at hb0 (by simp)
  have hB1 := (Fr.ofBelow (X := []) hW).at hb1 (by simp)
  have hB2 := (Fr.ofBelow (X := []) hW).at hb2 (by simp)
  have hT2 := hT.fr (Fr.ofBelow hW)
  have hcs := cell_of_one hB0
  have HY := Lib.hid hY
  have HJ := Lib.hid hJ
  clear hY hJ hJx hb0 hb1 hb2 hW hT
  refine callsIn_of_wp Tryz.func81 rfl trivial ?_ rfl
  simp only [Tryz.ntmps81, List.size_toArray, List.length_cons, List.length_nil, Nat.reduceAdd, Nat.reduceSub, Array.replicate_succ, Array.replicate_zero, List.push_toArray, List.append_toArray, List.nil_append, List.cons_append]
  gi_wp2_with fail
  clear hcs hB0
  gi_loopw [7] (fun i wr => ∃ k : Nat, k ≤ hashes.toNat ∧ i = .int .i64 (k : Int) ∧ J ((List.finRange hashes.toNat).take k) wr ∧ wr.heap[bs]? = some (.cells #[.int .i64 serial] 3 (0, 0)) ∧ wr.heap[bb]? = some (.cells #[.int .i64 bits] 3 (0, 0)) ∧ Tabs wr)
    (fun i _ => hashes.toNat - (intOf i).toNat)
  case atStart => exact ⟨0, by omega, rfl, h0, hB1, hB2, hT2⟩
  case round =>
    clear hB1 hB2 hT2 h0
    obtain ⟨k, hk, rfl, hJk, hb1, hb2, hTk⟩ := hrel
    have HB1 := Lib.hid hb1
    have HB2 := Lib.hid hb2
    have HT := Lib.hid hTk
    have HK := Lib.hid hJk
    have hcs := cell_of_one hb1
    have hcb := cell_of_one hb2
    clear hb1 hb2 hTk hJk
    by_cases hlt : k < hashes.toNat
    · have hmx : Tryz.prog.follows .mixedOrders = true := by kernel_rfl
      have t1 : decide ((k : Int) < hashes) = true := decide_eq_true (by omega)
      have HPE := Lib.hid (posF_eq serial hb.1 k)
      have hsl := Lib.itoa_length_le serial hs.1 hs.2
      have hkl : (Lib.decDigits k).length ≤ 21 := by have := Lib.itoa_length_le (k : Int) (by omega) (by omega); rwa [Lib.itoa_nonneg] at this
      have HJL := Lib.hid (joinL_two _ _ hsl hkl)
      gi_wp2_with fail
      have hw0 : Fr [] wr wr.drew := (Fr.refl [] wr).drew
      have hS0 : wr.drew.cell? ⟨bs, 0, none⟩ = some (.int .i64 serial) ∧ wr.drew.cell? ⟨bb, 0, none⟩ = some (.int .i64 bits) := ⟨hcs, hcb⟩
      refine regionY_held 9 (fun W' => W'.cell? ⟨bs, 0, none⟩ = some (.int .i64 serial) ∧ W'.cell? ⟨bb, 0, none⟩ = some (.int .i64 bits)) hmx ?_
      change HeldY _ _ _ _ _ _ _ 11 (Array.replicate 11 false) _ _
      refine hy_take 0 (v := .func (.yield l) #[] #[]) rfl (by kernel_rfl) (by kernel_rfl) (by kernel_rfl) rfl hS0 (fun W' hS => by go_simp) rfl ?_
      refine hy_take 1 (v := .int .i64 serial) rfl (by kernel_rfl) (by kernel_rfl) (by kernel_rfl) rfl hS0 (fun W' hS => by obtain ⟨h0, h1⟩ := hS; go_simp) rfl ?_
      refine hy_take 3 (v := .int .i64 (k : Int)) rfl (by kernel_rfl) (by kernel_rfl) (by kernel_rfl) rfl hS0 (fun W' hS => by go_simp) rfl ?_
      refine hy_take 7 (v := .int .i64 bits) rfl (by kernel_rfl) (by kernel_rfl) (by kernel_rfl) rfl hS0 (fun W' hS => by obtain ⟨h0, h1⟩ := hS; go_simp) rfl ?_
      simp only [Act.put, List.setIfInBounds_toArray, List.set_cons_zero, List.set_cons_succ]
      refine hy_one 2 (by kernel_rfl) (by decide) rfl (by kernel_rfl) rfl (fun K' hK => ?_)
      go_simp
      refine (itoaI_any serial _ hs.1 hs.2 (HT.out.fr hw0)).mono ?_
      rintro e w1 ⟨rfl, hbb1⟩
      have hw1 : Fr [] wr w1 := hw0.below hbb1 (Nat.le_refl _)
      refine hK.out _ _ ⟨hw1.cell hcs (by simp), hw1.cell hcb (by simp)⟩ ?_
      clear hK K'
      try simp only [Act.put, List.setIfInBounds_toArray, List.set_cons_zero, List.set_cons_succ]
      refine hy_one 4 (by kernel_rfl) (by decide) rfl (by kernel_rfl) rfl (fun K' hK => ?_)
      go_simp
      refine (itoa_any k _ (by omega) (HT.out.fr hw1)).mono ?_
      rintro e w2 ⟨rfl, hbb2⟩
      have hw2 : Fr [] wr w2 := hw1.below hbb2 hw1.size
      refine hK.out _ _ ⟨hw2.cell hcs (by simp), hw2.cell hcb (by simp)⟩ ?_
      clear hK K'
      try simp only [Act.put, List.setIfInBounds_toArray, List.set_cons_zero, List.set_cons_succ]
      refine hy_one 5 (by kernel_rfl) (by decide) rfl (by kernel_rfl) rfl (fun K' hK => ?_)
      go_simp
      have hw2a := hw2.alloc (.cells #[.string ⟨(Lib.itoa serial).toArray⟩, .string ⟨(Lib.decDigits k).toArray⟩] 9)
      refine hK.out _ _ ⟨hw2a.cell hcs (by simp), hw2a.cell hcb (by simp)⟩ ?_
      clear hK K'
      try simp only [Act.put, List.setIfInBounds_toArray, List.set_cons_zero, List.set_cons_succ]
      refine hy_one 6 (by kernel_rfl) (by decide) rfl (by kernel_rfl) rfl (fun K' hK => ?_)
      go_simp
      refine (list_any _ [Lib.itoa serial, Lib.decDigits k] _ (strs_two (heap_new rfl)) HJL.out (HT.out.fr hw2a)).mono ?_
      rintro e w3 ⟨rfl, hbb3⟩
      have hw3 : Fr [] wr w3 := hw2a.below hbb3 hw2a.size
      refine hK.out _ _ ⟨hw3.cell hcs (by simp), hw3.cell hcb (by simp)⟩ ?_
      clear hK K'
      try simp only [Act.put, List.setIfInBounds_toArray, List.set_cons_zero, List.set_cons_succ]
      refine hy_one 8 (by kernel_rfl) (by decide) rfl (by kernel_rfl) rfl (fun K' hK => ?_)
      go_simp
      refine (below_any (dlist [Lib.itoa serial, Lib.decDigits k]) bits _ (by rw [show (dlist [Lib.itoa serial, Lib.decDigits k]).length = 16 from dsum_length _]; decide) (by omega)).mono ?_
      rintro e w4 ⟨rfl, hbb4⟩
      have hw4 : Fr [] wr w4 := hw3.below hbb4 hw3.size
      rw [HPE.out]
      refine hK.out _ _ ⟨hw4.cell hcs (by simp), hw4.cell hcb (by simp)⟩ ?_
      clear hK K'
      try simp only [Act.put, List.setIfInBounds_toArray, List.set_cons_zero, List.set_cons_succ]
      have hJ2 := JC_below HJ.out HK.out hw4
      obtain ⟨fn, tmps, asg, bd, hy, hR⟩ := HY.out ((List.finRange hashes.toNat).take k) ⟨k, hlt⟩ w4 hJ2 (by rw [List.length_take, List.length_finRange]; omega)
      unfold encsP at hy
      dsimp only at hy
      have HR := Lib.hid (hR.mono (R' := fun e W' => ∃ b', e = .returned (.bool b') ∧ YPostC J Jx (KpP bs bb serial bits) ((List.finRange hashes.toNat).take k) ⟨k, hlt⟩ w4 b' W') (fun e W' h => by rcases h with ⟨h1, h2, h3⟩ | ⟨h1, h2⟩; exact ⟨true, h1, Or.inl ⟨rfl, h2, h3⟩⟩; exact ⟨false, h1, Or.inr ⟨rfl, h2⟩⟩))
      clear hR hJ2
      refine hy_last (by kernel_rfl) rfl (by kernel_rfl) rfl (fun K' hK => ?_)
      go_simp
      refine HR.out.mono ?_
      rintro e w5 ⟨yb, rfl, hyp⟩
      have HYP := Lib.hid hyp
      clear hyp
      refine hK.out _ _ ?_
      clear hK K'
      try simp only [Act.put, List.setIfInBounds_toArray, List.set_cons_zero, List.set_cons_succ]
      refine ay_one 10 (by kernel_rfl) rfl (by kernel_rfl) rfl (fun K' hK => ?_)
      go_simp
      refine hK.out _ _ ?_
      clear hK K'
      refine ay_done (by kernel_rfl) ?_
      clear HR hy hcs hcb hS0
      cases yb with
      | true =>
        obtain ⟨_, hJ3, hK3⟩ | ⟨h, _⟩ := HYP.out
        · have HB13 := Lib.hid (hK3.1 (hw4.at HB1.out (by simp)))
          have HB23 := Lib.hid (hK3.2.1 (hw4.at HB2.out (by simp)))
          have HT3 := Lib.hid (hK3.2.2 (HT.out.fr hw4))
          have HJ3 : Hid (J ((List.finRange hashes.toNat).take (k + 1)) w5) := Lib.hid (by rw [List.take_succ_eq_append_getElem (by simpa using hlt)]; simpa using hJ3)
          clear hJ3 hK3 HYP
          gi_wp2_with fail
          go_roundw
          case rel => exact ⟨k + 1, by omega, by go_num, HJ3.out, HB13.out, HB23.out, HT3.out⟩
          case measure => simp [intOf]; omega
        · cases h
      | false =>
        obtain ⟨h, _⟩ | ⟨_, hx3⟩ := HYP.out
        · cases h
        · have HX3 := Lib.hid hx3
          clear hx3 HYP
          gi_wp2_with fail
          refine bodyPost_ret (results_none rfl _ _ _) rfl ?_
          exact ⟨⟨_, rfl⟩, .inr ⟨_, HX3.out⟩⟩
    · obtain rfl : k = hashes.toNat := by omega
      have t1 : decide (((hashes.toNat : Nat) : Int) < hashes) = false := decide_eq_false (by omega)
      have HJk : Hid (J (List.finRange hashes.toNat) wr) := by have := HK.out; rw [List.take_of_length_le (by simp)] at this; exact Lib.hid this
      gi_wp2_with fail
      go_end0
      exact ⟨⟨_, rfl⟩, .inl ⟨_, rfl, HJk.out⟩⟩
end Go.Proofs.YtffldampcbfgjaaGreatDoor
