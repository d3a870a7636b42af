/-
  sign.starts: the iterator over the starts of the chains.
  digest.Chain.
  sign.walk, Public, Sign.
-/
import Derived.RangeFuncNested
import Derived.RangeFuncBound
import Derived.RangeFuncCalls
import Derived.RangeFuncLeaves
import Derived.RangeFuncBox
import Derived.Shelf.Abstract
import Derived.Shelf.RegionOpen
import Derived.OwnWalkIn
import Derived.TacticsInMore
import Derived.LoopNIn
import Derived.LoopIn
import Derived.Maps.AppendAt
import Derived.Lib.ItoaLen
import Derived.Test.YtglgkdbhdjkeaaaGreatDoorDigE
import Derived.Test.YtglgkdbhdjkeaaaGreatDoorOwn
import Derived.Test.YtglgkdbhdjkeaaaGreatDoorMrk
namespace Go.Proofs.YtglgkdbhdjkeaaaGreatDoor
open Go.RowKit Go.Shelf
attribute [local go_sem] Oper.semAt_some

/-- The start of a chain of a secret. -/
def startS (secret : List UInt8) (i : Nat) : List UInt8 := dlist [secret, Lib.decDigits i]
def encsS (secret : List UInt8) (i : Fin 18) : Array Value := #[.int .i64 (i.val : Int), .string ⟨(startS secret i.val).toArray⟩]
/-- What a round keeps for the iterator. -/
def KpS (bs : Nat) (secret : List UInt8) (A B : World) : Prop :=
  (A.heap[bs]? = some (.cells #[.string ⟨secret.toArray⟩] 9 (0, 0)) → B.heap[bs]? = some (.cells #[.string ⟨secret.toArray⟩] 9 (0, 0))) ∧ (Tabs A → Tabs B)
theorem decDigits_two (i : Nat) (h : i < 100) : (Lib.decDigits i).length ≤ 2 := by
  rw [Lib.decDigits]
  split
  · simp
  · rw [Lib.decDigits, dif_pos (by omega)]; simp

theorem J_below {β : Type} {B : Nat} {J : β → World → Prop} (h : AbidesFrom B J) {s : β} {A C : World} (hs : J s A) (hb : Fr [] A C) : J s C :=
  h s A C none hs ⟨hb.os, hb.tape, hb.output, hb.size, fun k hk _ => hb.block k hk (by simp)⟩ (fun r e => by cases e)
/-- What a round of the caller's body leaves: it goes on, or it stops. -/
def YPost {α : Type} (J Jx : List α → World → Prop) (Kp : World → World → Prop) (pre : List α) (x : α) (W1 : World) (b : Bool) (W' : World) : Prop :=
  (b = true ∧ J (pre ++ [x]) W' ∧ Kp W1 W') ∨ (b = false ∧ Jx (pre ++ [x]) W')
theorem starts_le (secret : List UInt8) (k : Nat) (hs : secret.length ≤ 1000000) (hk : k < 100) : (joinL [secret, Lib.decDigits k]).length ≤ 140737488355328 := by
  have h1 := decDigits_two k hk
  have h2 : (Lib.decDigits secret.length).length ≤ 21 := by have := Lib.itoa_length_le (secret.length : Int) (by omega) (by omega); rwa [Lib.itoa_nonneg] at this
  have h3 : (Lib.decDigits (Lib.decDigits k).length).length ≤ 2 := decDigits_two _ (by omega)
  simp only [joinL, joinE, List.flatMap_cons, List.flatMap_nil, List.length_append, List.length_cons, List.length_nil]
  omega

set_option maxRecDepth 100000 in
set_option maxHeartbeats 1000000 in
theorem starts_stops (n bs : Nat) (secret : List UInt8) (w : World) (hn : 1 ≤ n) (hsl : secret.length ≤ 1000000) (hb : w.heap[bs]? = some (.cells #[.string ⟨secret.toArray⟩] 9 (0, 0))) (hT : Tabs w) :
    SeqStopsK Fence.wide n Tryz.prog 112 #[.pointer (some ⟨bs, 0, none⟩)] (encsS secret) (KpS bs secret) (fun xs => xs = List.finRange 18) (fun _ => True) 18 w := fun l J Jx W hW hJ hJx hY h0 => by
  have hbW := (Fr.ofBelow (X := []) hW).at hb (by simp)
  have hTW := hT.fr (Fr.ofBelow hW)
  have HY := Lib.hid hY
  have HJ := Lib.hid hJ
  clear hY hJ hJx hb hT hW
  refine callsIn_of_wp Tryz.func112 rfl trivial ?_ rfl
  simp only [Tryz.ntmps112, List.size_toArray, List.length_cons, List.length_nil, Nat.reduceAdd, Nat.reduceSub, Array.replicate_succ, Array.replicate_zero, List.push_toArray, List.append_toArray, List.nil_append, List.cons_append]
  gi_wp2
  gi_loopw [4] (fun i wr => ∃ k : Nat, k ≤ 18 ∧ i = .int .i64 (k : Int) ∧ J ((List.finRange 18).take k) wr ∧ wr.heap[bs]? = some (.cells #[.string ⟨secret.toArray⟩] 9 (0, 0)) ∧ Tabs wr)
    (fun i _ => 18 - (intOf i).toNat)
  case atStart => exact ⟨0, by omega, rfl, h0, hbW, hTW⟩
  case round =>
    obtain ⟨k, hk, rfl, hJk, hbk, hTk⟩ := hrel
    by_cases hlt : k < 18
    · have hcs := cell_of_one hbk
      have HB := Lib.hid hbk
      have HT := Lib.hid hTk
      have HK := Lib.hid hJk
      clear hbk hTk hJk
      have hmx : Tryz.prog.follows .mixedOrders = true := by kernel_rfl
      gi_wp2_with fail
      gi_region_with_o (first
        | (refine ⟨trivial, ?_⟩; gi_at_call 78; refine (callsIn_wide.2 (itoa_any k _ (by omega) (HT.out.fr (by repeat (first | exact Fr.refl _ _ | apply Fr.drew | apply Fr.alloc))))).mono ?_; rintro e w1 ⟨rfl, hb1⟩; have hw1 : Fr [] wr w1 := ((Fr.refl [] wr).drew).below hb1 (Nat.le_refl _); have hcs1 : w1.cell? ⟨bs, 0, none⟩ = some (.string ⟨secret.toArray⟩) := cell_of_one (hw1.at HB.out (by simp)))
        | (refine ⟨trivial, ?_⟩; gi_at_call 58; refine (callsIn_wide.2 (list_any _ [secret, Lib.decDigits k] _ (strs_two (heap_new rfl)) (starts_le secret k hsl (by omega)) (HT.out.fr (hw1.alloc _)))).mono ?_; rintro e w2 ⟨rfl, hb2⟩; have hw2 : Fr [] wr w2 := (hw1.alloc _).below hb2 (hw1.alloc _).size; have hJ2 := J_below HJ.out HK.out hw2; obtain ⟨fn, tmps, asg, bd, hy, hR⟩ := HY.out _ ⟨k, hlt⟩ w2 hJ2 (by simp; omega); dsimp only [encsS, startS] at hy; have HR := Lib.hid (hR.mono (R' := fun e W' => ∃ b, e = .returned (.bool b) ∧ YPost J Jx (KpS bs secret) _ _ w2 b W') (fun e W' h => by rcases h with ⟨h1, h2, h3⟩ | ⟨h1, h2⟩; exact ⟨true, h1, Or.inl ⟨rfl, h2, h3⟩⟩; exact ⟨false, h1, Or.inr ⟨rfl, h2⟩⟩)); clear hR hJ2)
        | (refine HR.out.mono ?_; rintro e w3 ⟨yb, rfl, hyp⟩))
      all_goals
        have HYP := Lib.hid hyp
        clear hyp HR
        cases yb with
        | true =>
          obtain ⟨_, hJ3, hK3⟩ | ⟨h, _⟩ := HYP.out
          · have hb3 := hK3.1 (hw2.at HB.out (by simp))
            have hT3 := hK3.2 (HT.out.fr hw2)
            have e18 : (List.finRange 18).take (k + 1) = (List.finRange 18).take k ++ [⟨k, hlt⟩] := by
              rw [List.take_succ_eq_append_getElem (by simpa using hlt)]; simp
            have HE := Lib.hid e18
            have HJ3 := Lib.hid hJ3
            have HB3 := Lib.hid hb3
            have HT3 := Lib.hid hT3
            clear e18 hJ3 hb3 hT3 hK3 HYP
            gi_wp2
            go_roundw
            case rel => exact ⟨k + 1, by omega, by go_num, by rw [HE.out]; exact HJ3.out, HB3.out, HT3.out⟩
            case measure => simp [intOf]; omega
          · cases h
        | false =>
          obtain ⟨h, _⟩ | ⟨_, hx3⟩ := HYP.out
          · cases h
          · have HX3 := Lib.hid hx3
            clear hx3 HYP
            gi_wp2
            refine bodyPost_ret (results_none rfl _ _ _) rfl ?_
            exact ⟨⟨_, rfl⟩, .inr ⟨_, HX3.out⟩⟩
    · obtain rfl : k = 18 := by omega
      have HJk : Hid (J (List.finRange 18) wr) := by have := hJk; rw [List.take_of_length_le (by simp)] at this; exact this
      clear hJk
      gi_wp2
      go_end0
      exact ⟨⟨_, rfl⟩, .inl ⟨_, rfl, HJk.out⟩⟩
end Go.Proofs.YtglgkdbhdjkeaaaGreatDoor
namespace Go.Proofs.YtglgkdbhdjkeaaaGreatDoor
open Go.RowKit

set_option maxRecDepth 100000 in
set_option maxHeartbeats 1000000 in
theorem chain_any (l : List UInt8) (n : Int) (w : World) (hl : l.length ≤ 9223372036854775807) (hT : Tabs w) :
    Calls Tryz.prog 77 #[.string ⟨l.toArray⟩, .int .i64 n] w fun e w' => e = .returned (.string ⟨(dchain l n).toArray⟩) ∧ Below w.heap.size w w' := by
  have HT := Lib.hid hT
  clear hT
  obtain ⟨c, hc, ec, hmm⟩ : ∃ c : Nat, c ≤ 1000 ∧ c = cnt n ∧ max 0 (min n 1000) = (c : Int) := ⟨cnt n, by unfold cnt; omega, rfl, by unfold cnt; omega⟩
  have EC := Lib.hid ec
  clear ec
  go_enter Tryz.func77, Tryz.ntmps77
  go_wp2_with fail
  go_loopg [0, 8] c (fun g t i wr => ∃ k : Nat, k ≤ c ∧ g = c - k ∧ i = .int .i64 (k : Int) ∧ t = .string ⟨(chainN k l).toArray⟩ ∧ Fr [] w wr)
  case atStart => exact ⟨0, Nat.zero_le _, by omega, rfl, rfl, Fr.refl _ w⟩
  case round =>
    obtain ⟨k, hk, hg, rfl, rfl, hfr⟩ := hrel
    have HG := Lib.hid hg
    clear hg
    have hs : (chainN k l).length ≤ 9223372036854775807 := by
      cases k with
      | zero => exact hl
      | succ k => rw [chainN_succ, dsum_length]; decide
    have HS := Lib.hid (chainN_succ k l)
    by_cases hlt : k < c
    · generalize chainN k l = s at hs HS
      go_wp2_with fail
      refine (sum_any ⟨s.toArray⟩ wr (by rw [ba_size]; exact hs) (HT.out.hex.fr hfr (by simp))).mono ?_
      rintro e w1 ⟨rfl, hb1⟩
      have hfr1 : Fr [] w w1 := hfr.below hb1 hfr.size
      clear hfr hb1
      go_wp2_with fail
      go_roundg (c - (k + 1))
      case measure => have := HG.out; omega
      case rel => exact ⟨k + 1, by omega, rfl, by go_num, by rw [HS.out], hfr1⟩
    · obtain rfl : k = c := by omega
      go_wp2_with fail
      go_ret
      exact ⟨by unfold dchain; rw [← EC.out]; rfl, hfr.toBelow (by simp)⟩
end Go.Proofs.YtglgkdbhdjkeaaaGreatDoor
namespace Go.Proofs.YtglgkdbhdjkeaaaGreatDoor
open Go.RowKit Go.Shelf
attribute [local go_sem] Oper.semAt_some

theorem keepsOthers_fr {X : List Nat} {w w' : World} (hf : Fr X w w') (hx : ∀ x ∈ X, ∀ o, w.heap[x]? = some o → o.isCells = true) : KeepsOthers w w' :=
  ⟨hf.size, fun k o hk ho => by
    refine hf.at hk fun hm => ?_
    rw [hx k hm o hk] at ho; cases ho⟩
theorem KpS.fr {bs : Nat} {secret : List UInt8} {X : List Nat} {A B : World} (hf : Fr X A B) (hx : bs ∉ X) (h0 : 0 ∉ X) (h1 : 1 ∉ X) : KpS bs secret A B :=
  ⟨fun h => hf.at h hx, fun hT => ⟨hT.hex.fr hf h0, tabIs_fr gPow hT.pow hf h1⟩⟩
theorem Tabs.lt {w : World} (h : Tabs w) : 0 < w.heap.size ∧ 1 < w.heap.size := by
  refine ⟨h.hex.1, ?_⟩
  have := h.pow
  unfold Lib.TabIs World.var? at this
  simp only [gPow, Option.bind_some] at this
  rcases Nat.lt_or_ge 1 w.heap.size with h' | h'
  · exact h'
  · rw [Array.getElem?_eq_none h'] at this; cases this
theorem KpS.t {bs : Nat} {secret : List UInt8} {A B C : World} (h : KpS bs secret A B) (k : KpS bs secret B C) : KpS bs secret A C := ⟨fun x => k.1 (h.1 x), fun x => k.2 (h.2 x)⟩
theorem KpS.b {bs : Nat} {secret : List UInt8} {w : World} (hbs : bs < w.heap.size) (hT : Tabs w) (W : World) (l : Nat) (o o' : Obj) (hl : w.heap.size ≤ l) (_ : W.heap[l]? = some o) (_ : o.isCells = false) (_ : o.isWalk = false) : KpS bs secret W (W.putObj l o') := by
  have hf : Fr [l] W (W.putObj l o') := (Fr.refl _ W).grown (grownBy_putObj' W l o') (fun r e => by cases e; simp)
  have := hT.lt
  exact KpS.fr hf (by simp; omega) (by simp; omega) (by simp; omega)

theorem starts_any (secret : List UInt8) (w : World) :
    Calls Tryz.prog 88 #[.string ⟨secret.toArray⟩] w fun e w' => e = .returned (.func (.func 112) #[] #[.pointer (some ⟨w.heap.size, 0, none⟩)]) ∧ w' = w.alloc (.cells #[.string ⟨secret.toArray⟩] 9) := by
  go_enter Tryz.func88, Tryz.ntmps88
  go_wp2
  go_ret
  exact ⟨rfl, rfl⟩

set_option maxRecDepth 100000 in
set_option maxHeartbeats 2000000 in
theorem walk_any (secret : List UInt8) (lf : Nat) (lc : Array Value) (g : Nat → Int) (w : World) (hsl : secret.length ≤ 1000000) (hT : Tabs w)
    (he : ∀ args w, (callFunc lf args).run Tryz.prog w = .ok (.enter lf args) w)
    (hl : ∀ (i : Nat) (W : World), i < 18 → Fr [] w W → Calls Tryz.prog lf (#[.int .i64 (i : Int)] ++ lc) W fun e W' => e = .returned (.int .i64 (g i)) ∧ W = W') :
    Calls Tryz.prog 59 #[.string ⟨secret.toArray⟩, .func (.func lf) #[] lc] w fun e w' => ∃ v, e = .returned v ∧ OwnS w.heap.size w' v ((List.finRange 18).map fun i => dchain (startS secret i.val) (g i.val)) ∧ Below w.heap.size w w' := by
  refine (callsIn_wide (n := 3)).1 ?_
  have HT := Lib.hid hT
  have HL := Lib.hid hl
  clear hT hl
  refine callsIn_of_wp_marks Tryz.func59 rfl trivial ?_ rfl
  simp only [Tryz.ntmps59, List.size_toArray, List.length_cons, List.length_nil, Nat.reduceAdd, Nat.reduceSub, Array.replicate_succ, Array.replicate_zero, List.push_toArray, List.append_toArray, List.nil_append, List.cons_append]
  gi_wp2_with (refine ⟨trivial, ?_⟩; gi_at_call 88; refine (callsIn_wide.2 (starts_any secret _)).mono ?_; rintro e w' ⟨rfl, rfl⟩)
  obtain ⟨W0, hW0⟩ : ∃ W0, ((w.alloc (.cells #[.func (.func lf) #[] lc] 99)).alloc (.cells #[.slice none 0 0] 80)).alloc (.cells #[.string ⟨secret.toArray⟩] 9) = W0 := ⟨_, rfl⟩
  have hsz : W0.heap.size = w.heap.size + 3 := by rw [← hW0]; simp
  have hfr0 : Fr [] w W0 := by rw [← hW0]; exact ((((Fr.refl _ w).alloc _).alloc _).alloc _)
  have hbs : W0.heap[w.heap.size + 1 + 1]? = some (.cells #[.string ⟨secret.toArray⟩] 9 (0, 0)) := by rw [← hW0]; exact heap_new (by simp)
  have hbo : Boxed W0 (w.heap.size + 1) 80 (.slice none 0 0) := by rw [← hW0]; exact (heap_past _ (heap_new (by simp)))
  have hbf : Boxed W0 w.heap.size 99 (.func (.func lf) #[] lc) := by rw [← hW0]; exact (heap_past _ (heap_past _ (heap_new rfl)))
  have hT0 := HT.out.fr hfr0
  rw [hW0]
  clear hW0
  refine wpIn_rangeFunc_ownF rfl (by decide) (gf := 112) (lb := #[.pointer (some ⟨w.heap.size + 1 + 1, 0, none⟩)]) rfl trivial (enters_of Tryz.func112 (by kernel_rfl) rfl)
    (starts_stops 2 (w.heap.size + 1 + 1) secret W0 (by decide) hsl hbs hT0) KpS.t (KpS.b (by omega) hT0) (Below.refl _ _) (fun _ => rfl)
    (fun pre W => (∃ v, Boxed W (w.heap.size + 1) 80 v ∧ OwnS W0.heap.size W v (pre.map fun i => dchain (startS secret i.val) (g i.val))) ∧ Boxed W w.heap.size 99 (.func (.func lf) #[] lc) ∧ Fr [] w W ∧ W0.heap.size ≤ W.heap.size)
    (fun _ _ _ => False)
    ?own (fun _ _ _ _ _ hs _ _ => hs)
    ⟨⟨_, hbo, ⟨by simp, Or.inl ⟨rfl, rfl⟩⟩⟩, hbf, hfr0, Nat.le_refl _⟩
    (fun x => { tmps := #[.string ⟨secret.toArray⟩, .func (.func lf) #[] lc, undef, .pointer (some ⟨w.heap.size, 0, none⟩), .slice none 0 0, .pointer (some ⟨w.heap.size + 1, 0, none⟩), .int .i64 (x.val : Int), .string ⟨(startS secret x.val).toArray⟩, .string ⟨secret.toArray⟩, .func (.func 112) #[] #[.pointer (some ⟨w.heap.size + 1 + 1, 0, none⟩)], .int .i64 (x.val : Int), .string ⟨(startS secret x.val).toArray⟩, undef, undef, undef, undef, undef, undef, undef, undef, undef], defers := [] }) ?assign ?body ?done ?stop
  case own =>
    rintro pre A B row ⟨⟨v, hv, ho⟩, hf, hfr, hsA⟩ hg hr
    have hfrB : Fr [] w B := hfr.grown hg (fun r e => Or.inr (by have := (hr r e).1; omega))
    have hne : ∀ b o, A.heap[b]? = some o → o.isCells = true → some b ≠ row := fun b o hb ho e => by
      obtain ⟨_, o', ho', hc⟩ := hr b e.symm
      rw [hb] at ho'; cases ho'; rw [ho] at hc; cases hc
    refine ⟨⟨v, hv.kept hg (hne _ _ hv rfl), ho.kept hg ?_⟩, hf.kept hg (hne _ _ hf rfl), hfrB, Nat.le_trans hsA hg.size⟩
    rcases ho.2 with ⟨rfl, _⟩ | ⟨g', cap, cur, rfl, _, hgb, _⟩
    · exact .inl rfl
    · exact .inr (hne _ _ hgb rfl)
  case assign =>
    intro l x W K hK
    dsimp only [encsS]
    gi_wp2
    exact hK
  case body =>
    rintro l pre x W ⟨⟨v, hv, ho⟩, hf, hfr, hsW⟩ hlen
    have hmx : Tryz.prog.follows .mixedOrders = true := by kernel_rfl
    have hcv := hv.cell
    have hfv := hv.frozen
    have hcf := hf.cell
    have HV := Lib.hid hv
    have HO := Lib.hid ho
    have HF := Lib.hid hf
    clear hv ho hf
    obtain ⟨i0, hi, hz0, hz1, hz2⟩ := info_parts sInfo
    gi_wp2_with fail
    refine regionIn_held 8 (fun W' => W'.cell? ⟨w.heap.size + 1, 0, none⟩ = some v ∧ W'.cell? ⟨w.heap.size, 0, none⟩ = some (.func (.func lf) #[] lc)) hmx (by kernel_rfl) ?_
    change Held _ _ _ _ _ _ 9 (Array.replicate 9 false) _ _
    have hS0 : W.drew.cell? ⟨w.heap.size + 1, 0, none⟩ = some v ∧ W.drew.cell? ⟨w.heap.size, 0, none⟩ = some (.func (.func lf) #[] lc) := ⟨hcv, hcf⟩
    refine held_take 1 (v := .string ⟨(startS secret x.val).toArray⟩) rfl rfl (by kernel_rfl) (by kernel_rfl) rfl hS0 (fun W' hS => by go_simp) rfl ?_
    refine held_take 3 (v := .int .i64 (x.val : Int)) rfl rfl (by kernel_rfl) (by kernel_rfl) rfl hS0 (fun W' hS => by go_simp) rfl ?_
    refine held_take 0 (v := v) rfl rfl (by kernel_rfl) (by kernel_rfl) rfl hS0 (fun W' hS => by obtain ⟨h1, h2⟩ := hS; go_simp) rfl ?_
    refine held_take 2 (v := .func (.func lf) #[] lc) rfl rfl (by kernel_rfl) (by kernel_rfl) rfl hS0 (fun W' hS => by obtain ⟨h1, h2⟩ := hS; go_simp) rfl ?_
    simp only [Act.put]
    refine held_one 4 (by kernel_rfl) rfl rfl rfl (fun K' hK => ?_)
    go_simp
    refine (HL.out x.val _ x.2 hfr.drew).mono ?_
    rintro e w1 ⟨rfl, rfl⟩
    refine hK.out _ _ (fun _ => hS0) ?_
    clear hK K'
    refine held_one 5 (by kernel_rfl) rfl rfl rfl (fun K' hK => ?_)
    go_simp
    refine (chain_any (startS secret x.val) (g x.val) _ (by unfold startS dlist; rw [dsum_length]; decide) (HT.out.fr hfr.drew)).mono ?_
    rintro e w2 ⟨rfl, hb2⟩
    have hw2 : Fr [] W w2 := (Fr.refl [] W).drew.below hb2 (Nat.le_refl _)
    have hv2 : Boxed w2 (w.heap.size + 1) 80 v := hw2.at HV.out (by simp)
    have hf2 : Boxed w2 w.heap.size 99 (.func (.func lf) #[] lc) := hw2.at HF.out (by simp)
    have ho2 := HO.out.fr hw2 (by simp)
    refine hK.out _ _ (fun _ => ⟨hv2.cell, hf2.cell⟩) ?_
    clear hK K' hcv hfv hcf hS0
    refine held_one 6 (by kernel_rfl) rfl rfl rfl (fun K' hK => ?_)
    go_simp
    refine hK.out _ _ (fun _ => ⟨(hv2.alloc _).cell, (hf2.alloc _).cell⟩) ?_
    clear hK K'
    refine held_one 7 (by kernel_rfl) rfl rfl rfl (fun K' hK => ?_)
    refine wp_append_own _ _ _ 80 rfl W0.heap.size 9 i0 (.string ⟨#[]⟩) 1 16 Tryz.underlying80 hi hz0 hz1 hz2 rfl (by decide) v _ _ rfl (ownsRow_fr ho2 ((Fr.refl [] w2).alloc _) (by simp)) ⟨w2.heap.size, 0, none⟩ 1 1 [strV (dchain (startS secret x.val) (g x.val))] rfl rfl (cell_one_new _ _ _) (by simp [strV, Value.oneCell']) (by simp [maxLen]; omega) (by simp; omega) (by have := hsW; have := hw2.size; simp; omega) ?_
    intro v' w3 hown' hgrow _
    obtain ⟨g', cap', rfl⟩ := ownsRow_succ hown'
    have hne1 : some (w.heap.size + 1) ≠ v.ownBlock := (hv2.alloc _).not_row (by decide) (ownsRow_fr ho2 ((Fr.refl [] w2).alloc (.cells #[.string ⟨(dchain (startS secret x.val) (g x.val)).toArray⟩] 9)) (by simp))
    have hne2 : some w.heap.size ≠ v.ownBlock := (hf2.alloc _).not_row (by decide) (ownsRow_fr ho2 ((Fr.refl [] w2).alloc (.cells #[.string ⟨(dchain (startS secret x.val) (g x.val)).toArray⟩] 9)) (by simp))
    have hv3 := (hv2.alloc _).kept hgrow hne1
    have hf3 := (hf2.alloc _).kept hgrow hne2
    refine hK.out _ _ (fun _ => ⟨hv3.cell, hf3.cell⟩) ?_
    clear hK K'
    have hcv3 := hv3.cell
    have hfv3 := hv3.frozen
    refine held_one 8 (by kernel_rfl) rfl rfl rfl (fun K' hK => ?_)
    go_simp
    refine hK.out _ _ (fun h => absurd rfl h) ?_
    clear hK K' hcv3 hfv3
    refine held_done (by kernel_rfl) ?_
    gi_wp2
    have hX : ∀ k, v.ownBlock = some k → W0.heap.size ≤ k ∧ ∀ o, W.heap[k]? = some o → o.isCells = true := ownBlock_cells HO.out
    have hall : Fr ((w.heap.size + 1) :: v.ownBlock.toList) W (w3.setCell ⟨w.heap.size + 1, 0, none⟩ (.slice (some ⟨g', 0, none⟩) (pre.length + 1) cap')) := by
      refine Fr.setCell ?_ _ _ (by simp)
      exact ((hw2.mono (by simp)).alloc _).grown hgrow (fun r e => Or.inl (by simp [e]))
    refine ⟨keepsOthers_fr hall ?_, KpS.fr hall ?_ ?_ ?_, ⟨⟨_, hv3.set _, ?_⟩, ?_, ?_, ?_⟩⟩
    · intro k hk o ho
      rcases List.mem_cons.1 hk with rfl | hk
      · rw [show W.heap[w.heap.size + 1]? = _ from HV.out] at ho; cases ho; rfl
      · exact (hX k (by simpa using hk)).2 o ho
    · intro hk
      rcases List.mem_cons.1 hk with h | hk
      · omega
      · have := (hX _ (by simpa using hk)).1; omega
    · intro hk
      have := hT0.lt; have := HT.out.lt
      rcases List.mem_cons.1 hk with h | hk
      · omega
      · have := (hX _ (by simpa using hk)).1; omega
    · intro hk
      have := hT0.lt; have := HT.out.lt
      rcases List.mem_cons.1 hk with h | hk
      · omega
      · have := (hX _ (by simpa using hk)).1; omega
    · have h5 := ownsRow_setCell_other (a := ⟨w.heap.size + 1, 0, none⟩) hown' (by
        intro e
        have := (ownBlock_cells hown' _ e).1
        simp only at this
        omega) (.slice (some ⟨g', 0, none⟩) (pre.length + 1) cap')
      simpa [OwnS, strV] using h5
    · exact hf3.other (by omega) _
    · refine (hfr.trans hall ?_)
      intro k hk
      rcases List.mem_cons.1 hk with rfl | hk
      · right; omega
      · right; have := (hX k (by simpa using hk)).1; omega
    · exact Nat.le_trans hsW hall.size
  case done =>
    rintro D xs W hD rfl ⟨⟨v, hv, ho⟩, hf, hfr, hsW⟩ hK
    have hcv := hv.cell
    gi_wp2
    refine ⟨by simp, .inl ⟨_, _, rfl, run_takeDeferred hK, ?_⟩⟩
    refine ⟨_, results_tmp rfl _ _ _, _, rfl, ?_, ?_⟩
    · exact OwnS.mono (base := W0.heap.size) (ownsRow_putObj ho _ hK rfl) (by omega)
    · exact (hfr.grown (grownBy_putObj' W D _) (fun r e => by cases e; right; omega)).toBelow (by simp)
  case stop =>
    rintro D c pre W _ _ h _
    exact h.elim

theorem public1_any (i : Int) (w : World) : Calls Tryz.prog 60 #[.int .i64 i] w fun e w' => e = .returned (.int .i64 15) ∧ w = w' := by
  go_enter Tryz.func60, Tryz.ntmps60
  go_wp2
  go_ret
  exact ⟨rfl, rfl⟩

/-- The ends of the chains of a secret; the public key. -/
def endsS (secret : List UInt8) : List (List UInt8) := (List.finRange 18).map fun i => dchain (startS secret i.val) 15
def publicS (secret : List UInt8) : List UInt8 := dlist (endsS secret)
theorem dchain_length (l : List UInt8) (n : Int) (h : 1 ≤ n) : (dchain l n).length = 16 := by
  unfold dchain
  obtain ⟨k, hk⟩ : ∃ k, cnt n = k + 1 := ⟨cnt n - 1, by unfold cnt; omega⟩
  rw [hk, chainN_succ, dsum_length]
theorem dchain_length' (l : List UInt8) (n : Int) (h : l.length = 16) : (dchain l n).length = 16 := by
  by_cases h1 : 1 ≤ n
  · exact dchain_length l n h1
  · have : cnt n = 0 := by unfold cnt; omega
    unfold dchain; rw [this]; exact h
theorem startS_length (s : List UInt8) (i : Nat) : (startS s i).length = 16 := dsum_length _
theorem joinL_bound (l : List (List UInt8)) (B : Nat) (hB : B ≤ 1000000) (h : ∀ s ∈ l, s.length ≤ B) : (joinL l).length ≤ l.length * (B + 22) := by
  induction l with
  | nil => simp [joinL]
  | cons s l ih =>
    have h1 := h s (by simp)
    have h2 : (Lib.decDigits s.length).length ≤ 21 := by have := Lib.itoa_length_le (s.length : Int) (by omega) (by omega); rwa [Lib.itoa_nonneg] at this
    have h3 := ih (fun x hx => h x (by simp [hx]))
    have h4 : (joinL (s :: l)).length = (joinE s).length + (joinL l).length := by simp [joinL]
    have h5 : (joinE s).length = (Lib.decDigits s.length).length + (s.length + 1) := by simp [joinE]
    have h6 : (s :: l).length = l.length + 1 := rfl
    rw [h4, h5, h6, Nat.add_mul]; omega

set_option maxRecDepth 100000 in
theorem public_any (secret : List UInt8) (w : World) (hsl : secret.length ≤ 1000000) (hT : Tabs w) :
    Calls Tryz.prog 27 #[.string ⟨secret.toArray⟩] w fun e w' => e = .returned (.string ⟨(publicS secret).toArray⟩) ∧ Below w.heap.size w w' := by
  go_enter Tryz.func27, Tryz.ntmps27
  go_wp2_with fail
  refine (walk_any secret 60 #[] (fun _ => 15) w hsl hT (enters_of Tryz.func60 (by kernel_rfl) rfl) (fun i W _ _ => public1_any _ W)).mono ?_
  rintro e w1 ⟨v, rfl, ho, hb⟩
  have hT1 := hT.below hb (Nat.le_refl _)
  go_wp2_with fail
  refine (list_any v (endsS secret) w1 ho.strs ?_ hT1).mono ?_
  · have := joinL_bound (endsS secret) 16 (by decide) (fun s hs => by
      obtain ⟨i, _, rfl⟩ := List.mem_map.1 hs
      rw [dchain_length _ _ (by decide)]; decide)
    have h18 : (endsS secret).length = 18 := by simp [endsS]
    rw [h18] at this; omega
  rintro e w2 ⟨rfl, hb2⟩
  go_wp2_with fail
  go_ret
  exact ⟨rfl, hb.trans (hb2.mono hb.size)⟩
end Go.Proofs.YtglgkdbhdjkeaaaGreatDoor
