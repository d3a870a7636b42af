/-
  slices.Chunk at slices of strings, by two: the contract of its iterator.
  tree.of, tree.levels: the iterator over the levels.
  tree.levels, tree.Root, tree.Path.
  tree.Check.
-/
import Derived.Test.YtjddngbgbbbefaaGreatDoorMrk
import Derived.RangeFuncNested
import Derived.RangeFuncBound
import Derived.RangeFuncCalls
import Derived.RangeFuncLeaves
import Derived.RangeFuncBox
import Derived.Shelf.Abstract
import Derived.Shelf.RegionOpen
import Derived.OwnWalkIn
import Derived.TacticsInMore
import Derived.LoopNIn
import Derived.LoopIn
import Derived.Sort.BigQuietIn
import Derived.Sort.LoopGhostIn
import Derived.Test.YtjddngbgbbbefaaGreatDoorOwn
import Derived.Test.YtjddngbgbbbefaaGreatDoorRfAt
import Derived.Test.YtjddngbgbbbefaaGreatDoorPlnTr
import Derived.Test.YtjddngbgbbbefaaGreatDoorDigE
import Derived.Lib.ItoaLen
namespace Go.Proofs.YtjddngbgbbbefaaGreatDoor
open Go.RowKit Go.Shelf
attribute [local go_sem] Oper.semAt_some

theorem chunk_any (a : Option Addr) (n cap : Nat) (w : World) :
    Calls Tryz.prog 109 #[.slice a n cap, .int .i64 2] w fun e w' => e = .returned (.func (.func 129) #[] #[.pointer (some ⟨w.heap.size, 0, none⟩), .pointer (some ⟨w.heap.size + 1, 0, none⟩)]) ∧
      w' = (w.alloc (.cells #[.slice a n cap] 27)).alloc (.cells #[.int .i64 2] 3) := by
  go_enter Tryz.func109, Tryz.ntmps109
  go_wp2
  go_ret
  exact ⟨by simp, rfl⟩

/-- The length of the chunk at a place. -/
def chl (n k : Nat) : Nat := min 2 (n - 2 * k)
def encsC (b off n : Nat) (k : Fin ((n + 1) / 2)) : Array Value := #[.slice (some ⟨b, off + 2 * k.val, none⟩) (chl n k.val) (chl n k.val)]
/-- What a round keeps for the iterator. -/
def KpC (bs bn : Nat) (v : Value) (A B : World) : Prop :=
  (A.heap[bs]? = some (.cells #[v] 27 (0, 0)) → B.heap[bs]? = some (.cells #[v] 27 (0, 0))) ∧
  (A.heap[bn]? = some (.cells #[.int .i64 2] 3 (0, 0)) → B.heap[bn]? = some (.cells #[.int .i64 2] 3 (0, 0)))

set_option maxRecDepth 100000 in
set_option maxHeartbeats 2000000 in
theorem chunk_stops (m bs bn b off n cap : Nat) (w : World) (hm : 1 ≤ m) (hn : n ≤ 1000000) (hcap : n ≤ cap) (hc9 : cap ≤ 9223372036854775807)
    (hb1 : w.heap[bs]? = some (.cells #[.slice (some ⟨b, off, none⟩) n cap] 27 (0, 0))) (hb2 : w.heap[bn]? = some (.cells #[.int .i64 2] 3 (0, 0))) :
    SeqStopsK Fence.wide m Tryz.prog 129 #[.pointer (some ⟨bs, 0, none⟩), .pointer (some ⟨bn, 0, none⟩)] (encsC b off n) (KpC bs bn (.slice (some ⟨b, off, none⟩) n cap)) (fun xs => xs = List.finRange ((n + 1) / 2)) (fun _ => True) ((n + 1) / 2) w := fun l J Jx W hW hJ hJx hY h0 => by
  have hB1 := (Fr.ofBelow (X := []) hW).at hb1 (by simp)
  have hB2 := (Fr.ofBelow (X := []) hW).at hb2 (by simp)
  have HY := Lib.hid hY
  have HJ := Lib.hid hJ
  clear hY hJ hJx hb1 hb2 hW
  refine callsIn_of_wp Tryz.func129 rfl trivial ?_ rfl
  simp only [Tryz.ntmps129, List.size_toArray, List.length_cons, List.length_nil, Nat.reduceAdd, Nat.reduceSub, Array.replicate_succ, Array.replicate_zero, List.push_toArray, List.append_toArray, List.nil_append, List.cons_append]
  gi_wp2
  gi_loopw [4] (fun i wr => ∃ (k i0 : Nat), i0 = 2 * k ∧ i0 ≤ n + 1 ∧ i = .int .i64 (i0 : Int) ∧ J ((List.finRange ((n + 1) / 2)).take k) wr ∧ wr.heap[bs]? = some (.cells #[.slice (some ⟨b, off, none⟩) n cap] 27 (0, 0)) ∧ wr.heap[bn]? = some (.cells #[.int .i64 2] 3 (0, 0)))
    (fun i _ => n + 2 - (intOf i).toNat)
  case atStart => exact ⟨0, 0, rfl, by omega, rfl, h0, hB1, hB2⟩
  case round =>
    obtain ⟨k, i, hik, hi, rfl, hJk, hbk1, hbk2⟩ := hrel
    have hcs := cell_of_one hbk1
    have hcn := cell_of_one hbk2
    have HB1 := Lib.hid hbk1
    have HB2 := Lib.hid hbk2
    have HK := Lib.hid hJk
    have HIK := Lib.hid hik
    clear hbk1 hbk2 hJk hB1 hB2 hik
    by_cases hlt : i < n
    · have hmx : Tryz.prog.follows .mixedOrders = true := by kernel_rfl
      have t1 : decide ((i : Int) < (n : Int)) = true := by simp; omega
      obtain ⟨d, hd, hd2, hd3, hd4⟩ : ∃ d : Nat, d = chl n k ∧ i + d ≤ n ∧ 1 ≤ d ∧ d ≤ 2 := ⟨_, rfl, by have := HIK.out; unfold chl; omega, by have := HIK.out; unfold chl; omega, by unfold chl; omega⟩
      have m1 : min (2 : Int) ((n - i : Nat) : Int) = (d : Int) := by have := HIK.out; rw [hd]; unfold chl; omega
      have m2 : min (2 : Int) ((n : Int) - (i : Int)) = (d : Int) := by have := HIK.out; rw [hd]; unfold chl; omega
      have g0 : (0 : Int) ≤ (i : Int) := by omega
      have g1 : (i : Int) ≤ (cap : Int) := by omega
      have g2 : (i : Int) ≤ (n : Int) := by omega
      have HD := Lib.hid hd
      clear hd
      gi_wp2_with fail
      gi_quiet (fail)
      have hJ2 := JC_below HJ.out HK.out ((Fr.refl [] wr).drewN nq)
      have hkN : k < (n + 1) / 2 := by have := HIK.out; omega
      obtain ⟨fn, tmps, asg, bd, hy, hR⟩ := HY.out ((List.finRange ((n + 1) / 2)).take k) ⟨k, hkN⟩ (wr.drewN nq) hJ2 (by rw [List.length_take, List.length_finRange]; omega)
      unfold encsC at hy
      dsimp only at hy
      rw [← HD.out, ← HIK.out] at hy
      have HR := Lib.hid (hR.mono (R' := fun e W' => ∃ b', e = .returned (.bool b') ∧ YPostC J Jx (KpC bs bn (.slice (some ⟨b, off, none⟩) n cap)) ((List.finRange ((n + 1) / 2)).take k) ⟨k, hkN⟩ (wr.drewN nq) b' W') (fun e W' h => by rcases h with ⟨h1, h2, h3⟩ | ⟨h1, h2⟩; exact ⟨true, h1, Or.inl ⟨rfl, h2, h3⟩⟩; exact ⟨false, h1, Or.inr ⟨rfl, h2⟩⟩))
      clear hR hJ2
      have w1 : IntKind.i64.wrap ((i : Int) + (d : Int)) = (i : Int) + (d : Int) := IntWalk.i64_in _ (by omega)
      have g3 : (i : Int) + (d : Int) ≤ (n : Int) := by omega
      have g4 : (i : Int) + (d : Int) ≤ (cap : Int) := by omega
      have g5 : (i : Int) ≤ (i : Int) + (d : Int) := by omega
      have g6 : (0 : Int) ≤ (i : Int) + (d : Int) := by omega
      have g7 : ((i : Int) + (d : Int)).toNat = i + d := by omega
      have g8 : i + d - i = d := by omega
      have hcs' : (wr.drewN nq).cell? ⟨bs, 0, none⟩ = some (.slice (some ⟨b, off, none⟩) n cap) := hcs
      have hcn' : (wr.drewN nq).cell? ⟨bn, 0, none⟩ = some (.int .i64 2) := hcn
      gi_wp2_with fail
      refine HR.out.mono ?_
      rintro e w3 ⟨yb, rfl, hyp⟩
      have HYP := Lib.hid hyp
      clear hyp HR hcs hcs' hcn hcn' hy
      cases yb with
      | true =>
        obtain ⟨_, hJ3, hK3⟩ | ⟨h, _⟩ := HYP.out
        · have hb1 := hK3.1 (((Fr.refl [] wr).drewN nq).at HB1.out (by simp))
          have hb2 := hK3.2 (((Fr.refl [] wr).drewN nq).at HB2.out (by simp))
          have hcs := cell_of_one hb1
          have hcn := cell_of_one hb2
          have HB1' := Lib.hid hb1
          have HB2' := Lib.hid hb2
          have HJ3 : Hid (J ((List.finRange ((n + 1) / 2)).take (k + 1)) w3) := Lib.hid (by rw [List.take_succ_eq_append_getElem (by simpa using hkN)]; simpa using hJ3)
          have w2 : IntKind.i64.wrap ((i : Int) + 2) = (i : Int) + 2 := IntWalk.i64_in _ (by omega)
          clear hJ3 hb1 hb2 hK3 HYP
          gi_wp2_with fail
          go_roundw
          case rel => exact ⟨k + 1, i + 2, by have := HIK.out; omega, by omega, by go_num, HJ3.out, HB1'.out, HB2'.out⟩
          case measure => simp [intOf]; omega
        · cases h
      | false =>
        obtain ⟨h, _⟩ | ⟨_, hx3⟩ := HYP.out
        · cases h
        · have HX3 := Lib.hid hx3
          clear hx3 HYP
          gi_wp2_with fail
          refine bodyPost_ret (results_none rfl _ _ _) rfl ?_
          exact ⟨⟨_, rfl⟩, .inr ⟨_, trivial, HX3.out⟩⟩
    · have t1 : decide ((i : Int) < (n : Int)) = false := by simp; omega
      have HE : Hid (J (List.finRange ((n + 1) / 2)) wr) := Lib.hid (by
        have := HIK.out
        have h2 := HK.out
        rwa [List.take_of_length_le (by rw [List.length_finRange]; omega)] at h2)
      gi_wp2_with fail
      go_end0
      exact ⟨⟨_, rfl⟩, .inl ⟨_, rfl, HE.out⟩⟩
end Go.Proofs.YtjddngbgbbbefaaGreatDoor
namespace Go.Proofs.YtjddngbgbbbefaaGreatDoor
open Go.RowKit Go.Shelf
attribute [local go_sem] Oper.semAt_some

theorem joinL_cap (l : List (List UInt8)) (hn : l.length ≤ 1000000) (h : ∀ s ∈ l, s.length ≤ 1000000) : (joinL l).length ≤ 140737488355328 := by
  have key : ∀ l : List (List UInt8), (∀ s ∈ l, s.length ≤ 1000000) → (joinL l).length ≤ l.length * 1000022 := by
    intro l h
    induction l with
    | nil => simp [joinL]
    | cons s l ih =>
      have h1 := h s (by simp)
      have h2 : (Lib.decDigits s.length).length ≤ 21 := by have := Lib.itoa_length_le (s.length : Int) (by omega) (by omega); rwa [Lib.itoa_nonneg] at this
      have h3 := ih (fun x hx => h x (by simp [hx]))
      have h4 : (joinL (s :: l)).length = (joinE s).length + (joinL l).length := by simp [joinL]
      have h5 : (joinE s).length = (Lib.decDigits s.length).length + (s.length + 1) := by simp [joinE]
      have h6 : (s :: l).length = l.length + 1 := rfl
      rw [h4, h5, h6, Nat.add_mul]; omega
  have := key l h
  have : l.length * 1000022 ≤ 1000000 * 1000022 := Nat.mul_le_mul_right _ hn
  omega
theorem dlist_len (l : List (List UInt8)) : (dlist l).length = 16 := dsum_length _

theorem of_any (v : Value) (l : List (List UInt8)) (w : World) (hv : Strs w v l) (hn : l.length ≤ 1000000) (hl : ∀ s ∈ l, s.length ≤ 1000000) (hT : Tabs w) :
    Calls Tryz.prog 72 #[v] w fun e w' => e = .returned (.string ⟨(dlist l).toArray⟩) ∧ Below w.heap.size w w' := by
  obtain ⟨a, cap, rfl, hln, hf⟩ := hv.form
  go_enter Tryz.func72, Tryz.ntmps72
  go_wp2_with fail
  refine (list_any _ l w hv (joinL_cap l hn hl) hT).mono ?_
  rintro e w' ⟨rfl, hb⟩
  go_wp2_with fail
  go_ret
  exact ⟨rfl, hb⟩

theorem wpListIn_makeS {F : Fence} {n : Nat} {ops : Array Oper} {rest : List Oper} {o : Oper} {a : Act} {Q : Exit → Act → World → Prop} {w : World} (hg : o.guard = none) (l c : Operand)
    (hop : o.op = Op.makeSlice 27 l c) (k : Nat) (hl : a.eval l = .int .i64 (k : Int)) (hc : a.eval c = .int .i64 (k : Int)) (hk : k ≤ 1000000)
    (h : ∀ w', OwnS w.heap.size w' (.slice (some ⟨w.heap.size, 0, none⟩) k k) (List.replicate k []) → Fr [] w w' → wpListIn F n Tryz.prog ops Q rest (a.put o.dst (.slice (some ⟨w.heap.size, 0, none⟩) k k)) w') :
    wpListIn F n Tryz.prog ops Q (o :: rest) a w := by
  obtain ⟨i0, hi, hz0, hz1, hz2⟩ := info_parts sInfo
  refine wpListIn_plain hg fun K hK' => ?_
  obtain ⟨w', hrun, r1, r2⟩ := run_make_full (P := Tryz.prog) w w.heap.size 27 9 i0 (.string ⟨#[]⟩) 1 Tryz.underlying27 hi hz0 hz1 .i64 .i64 k (by rw [hz2]; omega) (by unfold maxLen; omega) (Nat.le_refl _)
  unfold Oper.wpIn
  refine ⟨?_, ?_⟩
  · simp [Oper.about, hop]
  · rw [Oper.semAt_plain F _ _ (by rw [hop]; intro c hc'; cases hc')]
    simp [execOp, hop, hl, hc, hrun, Result.andThen]
    refine hK' _ _ (h w' ?_ ((Fr.refl [] w).grown r2 (fun r e => by cases e)))
    have e : (madeCells (Value.string ⟨#[]⟩).cells (k * 1)).toList = List.replicate k (.string ⟨#[]⟩) := by rw [Nat.mul_one]; exact toList_madeCells_one _ _
    rw [e] at r1
    unfold OwnS
    rw [List.length_replicate, List.map_replicate]
    exact r1

theorem OwnS.formG {base : Nat} {w : World} {g n cap : Nat} {l : List (List UInt8)} (h : OwnS base w (.slice (some ⟨g, 0, none⟩) n cap) l) (hn : l.length = n) :
    ∃ cur, base ≤ g ∧ w.heap[g]? = some (.cells cur 9 (0, 0)) ∧ n ≤ cap ∧ cap ≤ maxLen ∧ cur.size = cap * 1 ∧ cur.toList.take (n * 1) = l.map strV := by
  rcases h.2 with ⟨h0, _⟩ | ⟨g', cap', cur, h0, hb, hg, h3, h4, h5, h6⟩
  · cases h0
  · subst hn
    cases h0
    exact ⟨cur, hb, hg, h3, h4, h5, h6⟩

theorem KpC.fr {bs bn : Nat} {v : Value} {X : List Nat} {A B : World} (hf : Fr X A B) (h0 : bs ∉ X) (h1 : bn ∉ X) : KpC bs bn v A B := ⟨fun h => hf.at h h0, fun h => hf.at h h1⟩
theorem KpC.t {bs bn : Nat} {v : Value} {A B C : World} (h : KpC bs bn v A B) (k : KpC bs bn v B C) : KpC bs bn v A C := ⟨fun x => k.1 (h.1 x), fun x => k.2 (h.2 x)⟩
theorem KpC.b {bs bn : Nat} {v : Value} {w : World} (h0 : bs < w.heap.size) (h1 : bn < w.heap.size) (W : World) (l : Nat) (o o' : Obj) (hl : w.heap.size ≤ l) (_ : W.heap[l]? = some o) (_ : o.isCells = false) (_ : o.isWalk = false) : KpC bs bn v W (W.putObj l o') := by
  have hf : Fr [l] W (W.putObj l o') := (Fr.refl _ W).grown (grownBy_putObj' W l o') (fun r e => by cases e; simp)
  exact KpC.fr hf (by simp; omega) (by simp; omega)
/-- One element of the next level. -/
def chE (l : List (List UInt8)) (k : Nat) : List UInt8 := if 2 * k + 1 < l.length then nodeD (l.getD (2 * k) []) (l.getD (2 * k + 1) []) else l.getD (2 * k) []
theorem upL_map (l : List (List UInt8)) : upL l = (List.finRange ((l.length + 1) / 2)).map fun k => chE l k.val := by
  refine List.ext_getElem (by rw [upL_length]; simp) fun k h1 h2 => ?_
  rw [upL_length] at h1
  have := upL_at l k (by omega)
  rw [List.getD_eq_getElem?_getD, List.getElem?_eq_getElem (by rw [upL_length]; omega)] at this
  simp only [Option.getD_some] at this
  rw [this]
  simp [chE]
/-- The loop over the levels. -/
structure LvInv (J : List (Value × List (List UInt8)) → World → Prop) (W : World) (lvs : List (List (List UInt8))) (gh : Nat) (v : Value) (ds : List Deferred) (wr : World) (pre : List (Value × List (List UInt8))) (lv : List (List UInt8)) (W0 : World) (g cap : Nat) (Ds : List Nat) : Prop where
  hv : v = .slice (some ⟨g, 0, none⟩) lv.length cap
  gh : gh = lv.length
  small : lv.length ≤ 1000000
  short : ∀ s ∈ lv, s.length ≤ 1000000
  j : J pre W0
  wf : Fr [] W0 wr
  sz : W.heap.size ≤ W0.heap.size
  s : Strs wr v lv
  fresh : W0.heap.size ≤ g
  all : pre.map Prod.snd ++ levelsL lv = lvs
  ds : ds = Ds.map markD
  m : Marks W.heap.size Ds wr
  t : Tabs wr

set_option maxRecDepth 100000 in
set_option maxHeartbeats 4000000 in
theorem levels_at (m bs : Nat) (lv : Value) (leaves : List (List UInt8)) (w : World) (hm : 3 ≤ m) (hbs : w.heap[bs]? = some (.cells #[lv] 27 (0, 0))) (hlv : Strs w lv leaves) (hT : Tabs w)
    (hn : leaves.length ≤ 1000000) (hl : ∀ s ∈ leaves, s.length ≤ 1000000) :
    SeqAt Fence.wide m Tryz.prog 108 #[.pointer (some ⟨bs, 0, none⟩)] (fun xs => xs.map Prod.snd = levelsL (leaves.map leafD)) (fun xs => xs.map Prod.snd <+: levelsL (leaves.map leafD)) w := fun l J W hW hJ hY h0 => by
  have HLV := Lib.hid (hlv.fr0 (Fr.ofBelow hW))
  have hbW := (Fr.ofBelow (X := []) hW).at hbs (by simp)
  have HT := Lib.hid (hT.fr (Fr.ofBelow hW))
  obtain ⟨la, lcap, rfl, hll, hla⟩ := hlv.form
  have HBS := Lib.hid hbW
  have hcs := cell_of_one hbW
  have HY := Lib.hid hY
  have HJ := Lib.hid hJ
  have HN := Lib.hid hl
  clear hY hJ hbs hlv hT hW hl hbW
  refine callsIn_of_wp_marks Tryz.func108 rfl trivial ?_ rfl
  simp only [Tryz.ntmps108, List.size_toArray, List.length_cons, List.length_nil, Nat.reduceAdd, Nat.reduceSub, Array.replicate_succ, Array.replicate_zero, List.push_toArray, List.append_toArray, List.nil_append, List.cons_append]
  gi_wp2_with (gi_at_make; go_loud (refine wpListIn_makeS rfl (.tmp 9) (.tmp 9) rfl leaves.length rfl rfl hn ?_))
  intro w1 ho1 hf1
  have hcs1 := hf1.cell hcs (by simp)
  obtain ⟨g, hg⟩ : ∃ g, g = W.heap.size := ⟨_, rfl⟩
  have hO1 : OwnS g w1 (.slice (some ⟨g, 0, none⟩) leaves.length leaves.length) (List.replicate leaves.length []) := by rw [hg]; exact ho1
  have HO1 := Lib.hid hO1
  rw [← hg]
  have HG := Lib.hid hg
  clear ho1 hO1 hg
  have hsz1 : g < w1.heap.size := (let ⟨_, _, h, _⟩ := HO1.out.formG (by simp); lt_of_block h)
  gi_wp2_with fail
  gi_loopg [13] (leaves.length + 1) (fun gh i wr => ∃ k : Nat, k ≤ leaves.length ∧ gh = leaves.length + 1 - k ∧ i = .int .i64 (k : Int) ∧ OwnS g wr (.slice (some ⟨g, 0, none⟩) leaves.length leaves.length) ((leaves.take k).map leafD ++ List.replicate (leaves.length - k) []) ∧ Fr [] W wr)
  case atStart => exact ⟨0, by omega, by omega, rfl, by simpa using HO1.out, hf1⟩
  case round =>
    clear hcs1 hf1
    obtain ⟨k, hk, hgh, rfl, hok, hfr⟩ := hrel
    have HGH := Lib.hid hgh
    have HOK := Lib.hid hok
    clear hgh hok
    by_cases hlt : k < leaves.length
    · have t1 : decide ((k : Int) < (leaves.length : Int)) = true := by simp; omega
      obtain ⟨b, off, rfl⟩ := hla k hlt
      have cs := hfr.cell (HLV.out.cell k hlt) (by simp)
      have HM := Lib.hid (HN.out _ (getD_mem leaves k [] hlt))
      have HTK : Hid ((leaves.take (k + 1)).map leafD = (leaves.take k).map leafD ++ [leafD (leaves.getD k [])]) := Lib.hid (by rw [take_snoc' leaves k [] hlt, List.map_append]; rfl)
      generalize leaves.getD k [] = s at cs HM HTK
      have i0 : (0 : Int) ≤ (k : Int) := by omega
      have i1 : (k : Int) < (leaves.length : Int) := by omega
      have hA : Fr [] wr (wr.alloc (.cells #[.string ⟨#[108, 101, 97, 102]⟩, .string ⟨s.toArray⟩] 9)) := (Fr.refl [] wr).alloc _
      gi_wp2_with fail
      refine ⟨trivial, fun _ => by omega, (callsIn_wide.2 (of_any _ [leafB, s] _ (strs_two (heap_new rfl)) (by simp) (fun x hx => ?_) ((HT.out.fr hfr).fr hA))).mono ?_⟩
      · rcases List.mem_cons.1 hx with rfl | hx
        · simp [leafB]
        · obtain rfl : x = s := by simpa using hx
          exact HM.out
      rintro e w2 ⟨rfl, hb2⟩
      have hf2 : Fr [] W w2 := (hfr.trans hA (by simp)).below hb2 ((hfr.trans hA (by simp)).size)
      have hO2 := HOK.out.fr (hA.below hb2 hA.size) (by simp)
      obtain ⟨cur, q0, q1, q2, q3, q4, q5⟩ := hO2.formG (by simp; omega)
      have c1 := row_cell q1 k
      have c2 := row_free q1 k
      have hck : k < cur.size := by omega
      rw [Array.getElem?_eq_getElem hck] at c1
      have HO3 : Hid (OwnS g (w2.setCell ⟨g, k, none⟩ (.string ⟨(leafD s).toArray⟩)) (.slice (some ⟨g, 0, none⟩) leaves.length leaves.length) ((leaves.take (k + 1)).map leafD ++ List.replicate (leaves.length - (k + 1)) [])) := Lib.hid (by
        have := own_set q0 q1 q2 q3 q4 q5 (leafD s) (i := k)
        rw [HTK.out]
        rw [List.set_append_right _ _ (by simp; omega)] at this
        rw [show k - ((leaves.take k).map leafD).length = 0 by simp; omega, show leaves.length - k = (leaves.length - (k + 1)) + 1 by omega, List.replicate_succ, List.set_cons_zero] at this
        rw [List.append_assoc, List.singleton_append]
        exact this)
      have HF3 : Hid (Fr [] W (w2.setCell ⟨g, k, none⟩ (.string ⟨(leafD s).toArray⟩))) := Lib.hid (hf2.setCell _ _ (by right; rw [HG.out]; exact Nat.le_refl _))
      rw [show (dlist [leafB, s]) = leafD s from rfl]
      generalize leafD s = ls at HO3 HF3 HTK ⊢
      clear hO2 q0 q1 q2 q3 q4 q5 hb2 hf2 hA hfr
      gi_wp2_with fail
      gi_roundg (leaves.length + 1 - (k + 1))
      case measure => have := HGH.out; omega
      case rel => exact ⟨k + 1, by omega, rfl, by go_num, HO3.out, HF3.out⟩
    · obtain rfl : k = leaves.length := by omega
      have t1 : decide ((leaves.length : Int) < (leaves.length : Int)) = false := by simp
      gi_wp2_with fail
      have HI0 : Hid (LvInv J W (levelsL (leaves.map leafD)) leaves.length (.slice (some ⟨g, 0, none⟩) leaves.length leaves.length) [] wr [] (leaves.map leafD) W g leaves.length []) := Lib.hid (by
        have h1 := HOK.out
        rw [List.take_length, Nat.sub_self, List.replicate_zero, List.append_nil] at h1
        exact ⟨by rw [List.length_map], by rw [List.length_map], by rw [List.length_map]; exact hn, fun s hs => by obtain ⟨t, _, rfl⟩ := List.mem_map.1 hs; unfold leafD; rw [dlist_len]; decide,
          h0, hfr, Nat.le_refl _, h1.strs, by rw [HG.out]; exact Nat.le_refl _, rfl, rfl, ⟨List.nodup_nil, fun D hD => by cases hD⟩, HT.out.fr hfr⟩)
      clear HGH HOK HO1 HLV hsz1 t1 hk hlt h0
      refine wpIn_loop_ghost_k (fun gh a' wr => ∃ (ds : List Deferred) (u3 u6 u25 u26 u27 u28 u29 u30 u31 u32 u33 u34 u56 : Value), (∃ pre lv W0 g cap Ds, LvInv J W (levelsL (leaves.map leafD)) gh u3 ds wr pre lv W0 g cap Ds) ∧ a' = { tmps := #[Value.func (.yield l) #[] #[], .pointer (some ⟨bs, 0, none⟩), undef, u3, u4, u5, u6, undef, .slice la leaves.length lcap, .int .i64 (leaves.length : Int), .slice (some ⟨g, 0, none⟩) leaves.length leaves.length, .slice la leaves.length lcap, .int .i64 (leaves.length : Int), .int .i64 (leaves.length : Int), .bool false, u15, u16, u17, u18, u19, u20, u21, u22, u23, u24, u25, u26, u27, u28, u29, u30, u31, u32, u33, u34, undef, undef, undef, undef, undef, undef, undef, undef, undef, undef, undef, undef, undef, undef, undef, undef, undef, undef, undef, undef, undef, u56], defers := ds }) leaves.length ?_ ?_
      · exact ⟨_, _, _, _, _, _, _, _, _, _, _, _, _, _, ⟨_, _, _, _, _, _, HI0.out⟩, rfl⟩
      clear HI0 hfr
      intro gh _ wr2 hinv
      obtain ⟨ds, u3, u6, u25, u26, u27, u28, u29, u30, u31, u32, u33, u34, u56, hrel, ha⟩ := hinv
      subst ha
      dsimp only
      intro JJ KK hJJ hKK
      obtain ⟨pre, lv, W0, g2, cap2, Ds, hI⟩ := hrel
      have HI := Lib.hid hI
      obtain rfl := hI.hv
      obtain rfl := hI.ds
      obtain rfl := hI.gh
      have hsm := hI.small
      obtain ⟨lvx, elx⟩ : ∃ lvx, lvx = levelsL (leaves.map leafD) := ⟨_, rfl⟩
      have hpx : (pre ++ [(Value.slice (some ⟨g2, 0, none⟩) lv.length cap2, lv)]).map Prod.snd <+: levelsL (leaves.map leafD) := by
        rw [← hI.all, List.map_append]
        refine List.prefix_append_right_inj _ |>.2 ?_
        rw [levelsL.eq_def]
        split
        · exact ⟨_, rfl⟩
        · exact ⟨[], by simp⟩
      obtain ⟨fn, tmps, asg, bd, hy, hR⟩ := HY.out pre (Value.slice (some ⟨g2, 0, none⟩) lv.length cap2, lv) W0 wr2 hI.j (hI.wf.std _) ⟨hI.s, fun k hk => by cases hk; exact hI.fresh⟩ hpx
      dsimp only at hy
      have HR := Lib.hid hR
      clear hI hR hpx
      gi_wp2_with fail
      refine ⟨fun _ => by omega, HR.out.mono ?_⟩
      rintro e w3 ⟨rfl, hJ3, hkp⟩
      have HJ3 := Lib.hid hJ3
      have HM3 := Lib.hid (HI.out.m.keeps hkp.fr)
      have HS3 := Lib.hid (hkp.x HI.out.s)
      have HT3 := Lib.hid (hkp.t HI.out.t)
      have hW3 : W.heap.size ≤ w3.heap.size := Nat.le_trans HI.out.sz (Nat.le_trans HI.out.wf.size hkp.fr.size)
      clear hJ3 hkp HR hy
      by_cases h1 : 1 < lv.length
      · have t2 : decide ((1 : Int) < (lv.length : Int)) = true := by simp; omega
        gi_wp2_with fail
        refine ⟨trivial, fun _ => by omega, (callsIn_wide.2 (chunk_any _ _ _ _)).mono ?_⟩
        rintro e w' ⟨rfl, rfl⟩
        obtain ⟨nb, enb⟩ : ∃ nb, nb = w3.heap.size := ⟨_, rfl⟩
        obtain ⟨W4, hW4⟩ : ∃ W4, W4 = ((w3.alloc (.cells #[.slice none 0 0] 27)).alloc (.cells #[.slice (some ⟨g2, 0, none⟩) lv.length cap2] 27)).alloc (.cells #[.int .i64 2] 3) := ⟨_, rfl⟩
        have hsz4 : W4.heap.size = nb + 3 := by rw [hW4, enb]; simp
        have hf34 : Fr [] w3 W4 := by rw [hW4]; exact (((Fr.refl [] w3).alloc _).alloc _).alloc _
        have hbn0 : Boxed W4 nb 27 (.slice none 0 0) := by rw [hW4, enb]; exact heap_past _ (heap_past _ (heap_new rfl))
        have hb1 : W4.heap[nb + 1]? = some (.cells #[.slice (some ⟨g2, 0, none⟩) lv.length cap2] 27 (0, 0)) := by rw [hW4, enb]; exact heap_past _ (heap_new (by simp))
        have hb2 : W4.heap[nb + 1 + 1]? = some (.cells #[.int .i64 2] 3 (0, 0)) := by rw [hW4, enb]; exact heap_new (by simp)
        obtain ⟨hcap, hc9⟩ : lv.length ≤ cap2 ∧ cap2 ≤ 9223372036854775807 := by
          rcases HS3.out with ⟨h, _⟩ | ⟨_, _, _, h, h1, h2, _⟩
          · cases h
          · cases h; exact ⟨h1, h2⟩
        have hg2 : g2 < w3.heap.size := by
          rcases HS3.out with ⟨h, _⟩ | ⟨_, _, _, h, _, _, h3, _⟩
          · cases h
          · cases h; exact h3
        simp only [World.size_alloc]
        rw [← hW4, ← enb]
        have HSH := Lib.hid HI.out.short
        have HAL := Lib.hid HI.out.all
        have HNB := Lib.hid enb
        clear hW4 enb
        gi_wp2_with fail
        have hnb3 : nb = w3.heap.size := HNB.out
        clear HNB
        refine wpIn_rangeFunc_ownF rfl (by omega) (gf := 129) (lb := #[.pointer (some ⟨nb + 1, 0, none⟩), .pointer (some ⟨nb + 1 + 1, 0, none⟩)]) rfl trivial (enters_of Tryz.func129 (by kernel_rfl) rfl)
          (chunk_stops (m - 1) (nb + 1) (nb + 1 + 1) g2 0 lv.length cap2 W4 (by omega) hsm hcap hc9 hb1 hb2) KpC.t (KpC.b (by omega) (by omega)) (Below.refl _ _) (fun _ => rfl)
          (fun pre2 V => (∃ nv, Boxed V nb 27 nv ∧ OwnS W4.heap.size V nv (pre2.map fun k => chE lv k.val)) ∧ Fr [] w3 V ∧ W4.heap.size ≤ V.heap.size)
          (fun _ _ _ => False)
          ?own (fun _ _ _ _ _ hs _ _ => hs)
          ⟨⟨_, hbn0, ⟨by simp, Or.inl ⟨rfl, rfl⟩⟩⟩, hf34, Nat.le_refl _⟩
          (fun x => { tmps := #[Value.func (.yield l) #[] #[], .pointer (some ⟨bs, 0, none⟩), undef, .slice (some ⟨g2, 0, none⟩) lv.length cap2, u4, u5, .pointer (some ⟨nb, 0, none⟩), .slice (some ⟨g2, 2 * x.val, none⟩) (chl lv.length x.val) (chl lv.length x.val), .slice la leaves.length lcap, .int .i64 (leaves.length : Int), .slice (some ⟨g, 0, none⟩) leaves.length leaves.length, .slice la leaves.length lcap, .int .i64 (leaves.length : Int), .int .i64 (leaves.length : Int), .bool false, u15, u16, u17, u18, u19, u20, u21, u22, u23, u24, .func (.yield l) #[] #[], .slice (some ⟨g2, 0, none⟩) lv.length cap2, .bool true, .bool true, .slice (some ⟨g2, 0, none⟩) lv.length cap2, .int .i64 (lv.length : Int), .bool true, .bool true, .slice (some ⟨g2, 0, none⟩) lv.length cap2, .func (.func 129) #[] #[.pointer (some ⟨nb + 1, 0, none⟩), .pointer (some ⟨nb + 1 + 1, 0, none⟩)], .slice (some ⟨g2, 2 * x.val, none⟩) (chl lv.length x.val) (chl lv.length x.val), undef, undef, undef, undef, undef, undef, undef, undef, undef, undef, undef, undef, undef, undef, undef, undef, undef, undef, undef, undef, u56], defers := [] }) ?assign ?body ?done ?stop
        case own =>
          rintro pre2 A B row ⟨⟨nv, hv, ho⟩, hfr, hsA⟩ hg hr
          have hne : ∀ b o, A.heap[b]? = some o → o.isCells = true → some b ≠ row := fun b o hb ho e => by
            obtain ⟨_, o', ho', hc⟩ := hr b e.symm
            rw [hb] at ho'; cases ho'; rw [ho] at hc; cases hc
          refine ⟨⟨nv, hv.kept hg (hne _ _ hv rfl), ho.kept hg ?_⟩, hfr.grown hg (fun r e => Or.inr (by have := (hr r e).1; omega)), Nat.le_trans hsA hg.size⟩
          rcases ho.2 with ⟨rfl, _⟩ | ⟨g', cap', cur', rfl, _, hgb, _⟩
          · exact .inl rfl
          · exact .inr (hne _ _ hgb rfl)
        case assign =>
          clear hnb3
          intro l' x V K hK
          dsimp only [encsC]
          simp only [Nat.zero_add]
          gi_wp2
          exact hK
        case body =>
          rintro l' pre2 x V ⟨⟨nv, hv, ho⟩, hfr, hsV⟩ hlen
          have hmx : Tryz.prog.follows .mixedOrders = true := by kernel_rfl
          have HNB := Lib.hid hnb3
          clear hnb3
          have hx2 := x.2
          have hcv := hv.cell
          have hfv := hv.frozen
          have HV := Lib.hid hv
          have HO := Lib.hid ho
          clear hv ho
          have hls := HS3.out.fr0 hfr
          obtain ⟨y, ey⟩ : ∃ y, 2 * x.val = y := ⟨_, rfl⟩
          have hy1 : y < lv.length := by omega
          have cs0 := hls.cell y hy1
          rw [Nat.zero_add] at cs0
          have HCH : Hid (chE lv x.val = if y + 1 < lv.length then nodeD (lv.getD y []) (lv.getD (y + 1) []) else lv.getD y []) := Lib.hid (by unfold chE; rw [ey])
          have hsa := HSH.out _ (getD_mem lv y [] hy1)
          rw [ey]
          by_cases h2 : y + 1 < lv.length
          · have hd : chl lv.length x.val = 2 := by unfold chl; omega
            have cs1 := hls.cell (y + 1) h2
            rw [Nat.zero_add] at cs1
            have hsb := HSH.out _ (getD_mem lv (y + 1) [] h2)
            rw [if_pos h2] at HCH
            rw [hd]
            generalize lv.getD y [] = sa at cs0 HCH hsa
            generalize lv.getD (y + 1) [] = sb at cs1 HCH hsb
            clear hd hls hx2
            have EY := Lib.hid ey
            clear ey
            gi_wp2_with fail
            have hS0 : V.drew.cell? ⟨nb, 0, none⟩ = some nv ∧ V.drew.cell? ⟨g2, y, none⟩ = some (.string ⟨sa.toArray⟩) ∧ V.drew.cell? ⟨g2, y + 1, none⟩ = some (.string ⟨sb.toArray⟩) := ⟨hcv, cs0, cs1⟩
            refine regionIn_held 11 (fun W' => W'.cell? ⟨nb, 0, none⟩ = some nv ∧ W'.cell? ⟨g2, y, none⟩ = some (.string ⟨sa.toArray⟩) ∧ W'.cell? ⟨g2, y + 1, none⟩ = some (.string ⟨sb.toArray⟩)) hmx (by kernel_rfl) ?_
            change Held _ _ _ _ _ _ 12 (Array.replicate 12 false) _ _
            refine hd_take 0 (v := nv) rfl (by kernel_rfl) (by kernel_rfl) (by kernel_rfl) rfl hS0 (fun W' hS => by obtain ⟨h0, h1, h2⟩ := hS; first | (go_simp; done) | (go_simp; intro hix; omega)) rfl ?_
            refine hd_take 1 (v := .slice (some ⟨g2, y, none⟩) 2 2) rfl (by kernel_rfl) (by kernel_rfl) (by kernel_rfl) rfl hS0 (fun W' hS => by first | (go_simp; done) | (go_simp; intro hix; omega)) rfl ?_
            refine hd_take 4 (v := .slice (some ⟨g2, y, none⟩) 2 2) rfl (by kernel_rfl) (by kernel_rfl) (by kernel_rfl) rfl hS0 (fun W' hS => by first | (go_simp; done) | (go_simp; intro hix; omega)) rfl ?_
            simp only [Act.put, List.setIfInBounds_toArray, List.set_cons_zero, List.set_cons_succ]
            refine hd_take 2 (v := .pointer (some ⟨g2, y, none⟩)) rfl (by kernel_rfl) (by kernel_rfl) (by kernel_rfl) rfl hS0 (fun W' hS => by first | (go_simp; done) | (go_simp; intro hix; omega)) rfl ?_
            refine hd_take 5 (v := .pointer (some ⟨g2, y + 1, none⟩)) rfl (by kernel_rfl) (by kernel_rfl) (by kernel_rfl) rfl hS0 (fun W' hS => by first | (go_simp; done) | (go_simp; intro hix; omega)) rfl ?_
            simp only [Act.put, List.setIfInBounds_toArray, List.set_cons_zero, List.set_cons_succ]
            refine hd_take 3 (v := .string ⟨sa.toArray⟩) rfl (by kernel_rfl) (by kernel_rfl) (by kernel_rfl) rfl hS0 (fun W' hS => by obtain ⟨h0, h1, h2⟩ := hS; first | (go_simp; done) | (go_simp; intro hix; omega)) rfl ?_
            refine hd_take 6 (v := .string ⟨sb.toArray⟩) rfl (by kernel_rfl) (by kernel_rfl) (by kernel_rfl) rfl hS0 (fun W' hS => by obtain ⟨h0, h1, h2⟩ := hS; first | (go_simp; done) | (go_simp; intro hix; omega)) rfl ?_
            simp only [Act.put, List.setIfInBounds_toArray, List.set_cons_zero, List.set_cons_succ]
            have hV0 : Fr [] V V.drew := (Fr.refl [] V).drew
            refine hd_one 7 (by kernel_rfl) rfl (by kernel_rfl) rfl (fun K' hK => ?_)
            go_simp
            have hV1 : Fr [] V (V.drew.alloc (.cells #[.string ⟨#[110, 111, 100, 101]⟩, .string ⟨sa.toArray⟩, .string ⟨sb.toArray⟩] 9)) := hV0.alloc _
            refine hK.out _ _ (fun _ => ⟨hV1.cell hcv (by simp), hV1.cell cs0 (by simp), hV1.cell cs1 (by simp)⟩) ?_
            clear hK K'
            refine hd_one 8 (by kernel_rfl) rfl (by kernel_rfl) rfl (fun K' hK => ?_)
            go_simp
            refine (of_any _ [nodeB, sa, sb] _ (strs_three (heap_new rfl)) (by simp) (fun x hx => ?_) (HT3.out.fr (hfr.trans hV1 (by simp)))).mono ?_
            · rcases List.mem_cons.1 hx with rfl | hx
              · simp [nodeB]
              · rcases List.mem_cons.1 hx with rfl | hx
                · exact hsa
                · rw [List.mem_singleton.1 hx]; exact hsb
            rintro e w5 ⟨rfl, hb5⟩
            have hV2 : Fr [] V w5 := hV1.below hb5 hV1.size
            rw [show dlist [nodeB, sa, sb] = nodeD sa sb from rfl]
            refine hK.out _ _ (fun _ => ⟨hV2.cell hcv (by simp), hV2.cell cs0 (by simp), hV2.cell cs1 (by simp)⟩) ?_
            clear hK K' hV1 hb5
            generalize nodeD sa sb = sc at HCH ⊢
            refine hd_one 9 (by kernel_rfl) rfl (by kernel_rfl) rfl (fun K' hK => ?_)
            go_simp
            have hV3 : Fr [] V (w5.alloc (.cells #[.string ⟨sc.toArray⟩] 9)) := hV2.alloc _
            refine hK.out _ _ (fun _ => ⟨hV3.cell hcv (by simp), hV3.cell cs0 (by simp), hV3.cell cs1 (by simp)⟩) ?_
            clear hK K' hV3
            refine hd_one 10 (by kernel_rfl) rfl (by kernel_rfl) rfl (fun K' hK => ?_)
            refine wp_appS (.tmp 39) (.tmp 48) rfl W4.heap.size nv _ sc w3 rfl rfl (HO.out.fr hV2 (by simp)) (hfr.trans hV2 (by simp)) (by have := HNB.out; omega) (Nat.le_trans hsV hV2.size) (by simp; omega) ?_
            rintro v' w7 ⟨g9, c9, hv9⟩ hO7 hF7 hG7
            rw [List.length_map] at hv9
            subst hv9
            have hown : ∀ k, nv.ownBlock = some k → W4.heap.size ≤ k ∧ ∀ o, V.heap[k]? = some o → o.isCells = true := ownBlock_cells HO.out
            have hnn : ∀ k, k < W4.heap.size → k ∉ nv.ownBlock.toList := fun k hk hm => by have := (hown k (by simpa using hm)).1; omega
            have hV7 : Boxed w7 nb 27 nv := hG7.at (hV2.at HV.out (by simp)) (hnn nb (by omega))
            have hcv7 := hV7.cell
            have hfv7 := hV7.frozen
            have cs07 := hF7.cell (HS3.out.cell y hy1) (by simp)
            refine hK.out _ _ (fun _ => ⟨hcv7, hG7.cell (hV2.cell cs0 (by simp)) (hnn g2 (by have := HNB.out; omega)), hG7.cell (hV2.cell cs1 (by simp)) (hnn g2 (by have := HNB.out; omega))⟩) ?_
            clear hK K' cs07
            refine hd_one 11 (by kernel_rfl) rfl (by kernel_rfl) rfl (fun K' hK => ?_)
            go_simp
            refine hK.out _ _ (fun h => absurd rfl h) ?_
            clear hK K'
            refine held_done (by kernel_rfl) ?_
            have hall : Fr (nb :: nv.ownBlock.toList) V (w7.setCell ⟨nb, 0, none⟩ (.slice (some ⟨g9, 0, none⟩) (pre2.length + 1) c9)) := ((hV2.mono (by simp)).trans hG7 (fun k hk => Or.inl (by simp at hk ⊢; exact Or.inr hk))).setCell _ _ (by simp)
            have HKO : Hid (KeepsOthers V (w7.setCell ⟨nb, 0, none⟩ (.slice (some ⟨g9, 0, none⟩) (pre2.length + 1) c9))) := Lib.hid (keepsOthers_fr1 hall (fun k hk o ho => by
                rcases List.mem_cons.1 hk with rfl | hk
                · rw [show V.heap[k]? = _ from HV.out] at ho; cases ho; rfl
                · exact (hown k (by simpa using hk)).2 o ho))
            have HKC : Hid (KpC (nb + 1) (nb + 1 + 1) (.slice (some ⟨g2, 0, none⟩) lv.length cap2) V (w7.setCell ⟨nb, 0, none⟩ (.slice (some ⟨g9, 0, none⟩) (pre2.length + 1) c9))) := Lib.hid (KpC.fr hall (fun hk => by
                rcases List.mem_cons.1 hk with h | hk
                · omega
                · exact hnn _ (by omega) hk) (fun hk => by
                rcases List.mem_cons.1 hk with h | hk
                · omega
                · exact hnn _ (by omega) hk))
            have HBX : Hid (Boxed (w7.setCell ⟨nb, 0, none⟩ (.slice (some ⟨g9, 0, none⟩) (pre2.length + 1) c9)) nb 27 (.slice (some ⟨g9, 0, none⟩) (pre2.length + 1) c9)) := Lib.hid (hV7.set _)
            have HOX : Hid (OwnS W4.heap.size (w7.setCell ⟨nb, 0, none⟩ (.slice (some ⟨g9, 0, none⟩) (pre2.length + 1) c9)) (.slice (some ⟨g9, 0, none⟩) (pre2.length + 1) c9) ((pre2 ++ [x]).map fun k => chE lv k.val)) := Lib.hid (by
                rw [List.map_append, List.map_singleton, HCH.out]
                exact hO7.fr ((Fr.refl [nb] w7).setCell _ _ (by simp)) (fun k hk hm => by
                  have := (ownBlock_cells hO7 k hk).1
                  simp at hm; omega))
            have HFX : Hid (Fr [] w3 (w7.setCell ⟨nb, 0, none⟩ (.slice (some ⟨g9, 0, none⟩) (pre2.length + 1) c9))) := Lib.hid (hF7.setCell _ _ (by right; have := HNB.out; simp only; omega))
            have hsz7 : W4.heap.size ≤ (w7.setCell ⟨nb, 0, none⟩ (.slice (some ⟨g9, 0, none⟩) (pre2.length + 1) c9)).heap.size := Nat.le_trans hsV hall.size
            clear hall hown hnn hV7 hcv7 hfv7 hO7 hF7 hG7 hcv hfv cs0 cs1
            gi_wp2_with fail
            exact ⟨HKO.out, HKC.out, ⟨_, HBX.out, HOX.out⟩, HFX.out, hsz7⟩
          · have hd : chl lv.length x.val = 1 := by unfold chl; omega
            rw [if_neg h2] at HCH
            rw [hd]
            generalize lv.getD y [] = sa at cs0 HCH hsa
            clear hd hls hx2
            have EY := Lib.hid ey
            clear ey
            gi_wp2_with fail
            have hS0 : V.drew.cell? ⟨nb, 0, none⟩ = some nv ∧ V.drew.cell? ⟨g2, y, none⟩ = some (.string ⟨sa.toArray⟩) := ⟨hcv, cs0⟩
            refine regionIn_held 6 (fun W' => W'.cell? ⟨nb, 0, none⟩ = some nv ∧ W'.cell? ⟨g2, y, none⟩ = some (.string ⟨sa.toArray⟩)) hmx (by kernel_rfl) ?_
            change Held _ _ _ _ _ _ 7 (Array.replicate 7 false) _ _
            refine hd_take 0 (v := nv) rfl (by kernel_rfl) (by kernel_rfl) (by kernel_rfl) rfl hS0 (fun W' hS => by obtain ⟨h0, h1⟩ := hS; first | (go_simp; done) | (go_simp; intro hix; omega)) rfl ?_
            refine hd_take 1 (v := .slice (some ⟨g2, y, none⟩) 1 1) rfl (by kernel_rfl) (by kernel_rfl) (by kernel_rfl) rfl hS0 (fun W' hS => by first | (go_simp; done) | (go_simp; intro hix; omega)) rfl ?_
            simp only [Act.put, List.setIfInBounds_toArray, List.set_cons_zero, List.set_cons_succ]
            refine hd_take 2 (v := .pointer (some ⟨g2, y, none⟩)) rfl (by kernel_rfl) (by kernel_rfl) (by kernel_rfl) rfl hS0 (fun W' hS => by first | (go_simp; done) | (go_simp; intro hix; omega)) rfl ?_
            simp only [Act.put, List.setIfInBounds_toArray, List.set_cons_zero, List.set_cons_succ]
            refine hd_take 3 (v := .string ⟨sa.toArray⟩) rfl (by kernel_rfl) (by kernel_rfl) (by kernel_rfl) rfl hS0 (fun W' hS => by obtain ⟨h0, h1⟩ := hS; first | (go_simp; done) | (go_simp; intro hix; omega)) rfl ?_
            simp only [Act.put, List.setIfInBounds_toArray, List.set_cons_zero, List.set_cons_succ]
            have hV0 : Fr [] V V.drew := (Fr.refl [] V).drew
            obtain ⟨w5, hw5⟩ : ∃ w5, w5 = V.drew := ⟨_, rfl⟩
            rw [← hw5]
            have hV2 : Fr [] V w5 := by rw [hw5]; exact hV0
            clear hw5 hS0
            rw [show sa = sa from rfl]
            refine hd_one 4 (by kernel_rfl) rfl (by kernel_rfl) rfl (fun K' hK => ?_)
            go_simp
            have hV3 : Fr [] V (w5.alloc (.cells #[.string ⟨sa.toArray⟩] 9)) := hV2.alloc _
            refine hK.out _ _ (fun _ => ⟨hV3.cell hcv (by simp), hV3.cell cs0 (by simp)⟩) ?_
            clear hK K' hV3
            refine hd_one 5 (by kernel_rfl) rfl (by kernel_rfl) rfl (fun K' hK => ?_)
            refine wp_appS (.tmp 50) (.tmp 54) rfl W4.heap.size nv _ sa w3 rfl rfl (HO.out.fr hV2 (by simp)) (hfr.trans hV2 (by simp)) (by have := HNB.out; omega) (Nat.le_trans hsV hV2.size) (by simp; omega) ?_
            rintro v' w7 ⟨g9, c9, hv9⟩ hO7 hF7 hG7
            rw [List.length_map] at hv9
            subst hv9
            have hown : ∀ k, nv.ownBlock = some k → W4.heap.size ≤ k ∧ ∀ o, V.heap[k]? = some o → o.isCells = true := ownBlock_cells HO.out
            have hnn : ∀ k, k < W4.heap.size → k ∉ nv.ownBlock.toList := fun k hk hm => by have := (hown k (by simpa using hm)).1; omega
            have hV7 : Boxed w7 nb 27 nv := hG7.at (hV2.at HV.out (by simp)) (hnn nb (by omega))
            have hcv7 := hV7.cell
            have hfv7 := hV7.frozen
            have cs07 := hF7.cell (HS3.out.cell y hy1) (by simp)
            refine hK.out _ _ (fun _ => ⟨hcv7, hG7.cell (hV2.cell cs0 (by simp)) (hnn g2 (by have := HNB.out; omega))⟩) ?_
            clear hK K' cs07
            refine hd_one 6 (by kernel_rfl) rfl (by kernel_rfl) rfl (fun K' hK => ?_)
            go_simp
            refine hK.out _ _ (fun h => absurd rfl h) ?_
            clear hK K'
            refine held_done (by kernel_rfl) ?_
            have hall : Fr (nb :: nv.ownBlock.toList) V (w7.setCell ⟨nb, 0, none⟩ (.slice (some ⟨g9, 0, none⟩) (pre2.length + 1) c9)) := ((hV2.mono (by simp)).trans hG7 (fun k hk => Or.inl (by simp at hk ⊢; exact Or.inr hk))).setCell _ _ (by simp)
            have HKO : Hid (KeepsOthers V (w7.setCell ⟨nb, 0, none⟩ (.slice (some ⟨g9, 0, none⟩) (pre2.length + 1) c9))) := Lib.hid (keepsOthers_fr1 hall (fun k hk o ho => by
                rcases List.mem_cons.1 hk with rfl | hk
                · rw [show V.heap[k]? = _ from HV.out] at ho; cases ho; rfl
                · exact (hown k (by simpa using hk)).2 o ho))
            have HKC : Hid (KpC (nb + 1) (nb + 1 + 1) (.slice (some ⟨g2, 0, none⟩) lv.length cap2) V (w7.setCell ⟨nb, 0, none⟩ (.slice (some ⟨g9, 0, none⟩) (pre2.length + 1) c9))) := Lib.hid (KpC.fr hall (fun hk => by
                rcases List.mem_cons.1 hk with h | hk
                · omega
                · exact hnn _ (by omega) hk) (fun hk => by
                rcases List.mem_cons.1 hk with h | hk
                · omega
                · exact hnn _ (by omega) hk))
            have HBX : Hid (Boxed (w7.setCell ⟨nb, 0, none⟩ (.slice (some ⟨g9, 0, none⟩) (pre2.length + 1) c9)) nb 27 (.slice (some ⟨g9, 0, none⟩) (pre2.length + 1) c9)) := Lib.hid (hV7.set _)
            have HOX : Hid (OwnS W4.heap.size (w7.setCell ⟨nb, 0, none⟩ (.slice (some ⟨g9, 0, none⟩) (pre2.length + 1) c9)) (.slice (some ⟨g9, 0, none⟩) (pre2.length + 1) c9) ((pre2 ++ [x]).map fun k => chE lv k.val)) := Lib.hid (by
                rw [List.map_append, List.map_singleton, HCH.out]
                exact hO7.fr ((Fr.refl [nb] w7).setCell _ _ (by simp)) (fun k hk hm => by
                  have := (ownBlock_cells hO7 k hk).1
                  simp at hm; omega))
            have HFX : Hid (Fr [] w3 (w7.setCell ⟨nb, 0, none⟩ (.slice (some ⟨g9, 0, none⟩) (pre2.length + 1) c9))) := Lib.hid (hF7.setCell _ _ (by right; have := HNB.out; simp only; omega))
            have hsz7 : W4.heap.size ≤ (w7.setCell ⟨nb, 0, none⟩ (.slice (some ⟨g9, 0, none⟩) (pre2.length + 1) c9)).heap.size := Nat.le_trans hsV hall.size
            clear hall hown hnn hV7 hcv7 hfv7 hO7 hF7 hG7 hcv hfv cs0
            gi_wp2_with fail
            exact ⟨HKO.out, HKC.out, ⟨_, HBX.out, HOX.out⟩, HFX.out, hsz7⟩
        case done =>
          rintro D xs V hD rfl ⟨⟨nv, hv, ho⟩, hfr, hsV⟩ hK
          have hcv := hv.cell
          have HNB := Lib.hid hnb3
          rw [← upL_map] at ho
          have HUL : Hid ((upL lv).length = lv.length - lv.length / 2) := Lib.hid (by rw [upL_length]; omega)
          obtain ⟨g5, cap5, rfl⟩ := ho.slice rfl (by rw [HUL.out]; omega)
          have HO5 := Lib.hid ho
          have HM5 := Lib.hid (HM3.out.new hfr (D := D) (by omega) (by omega) hK)
          have HI5 : Hid (LvInv J W (levelsL (leaves.map leafD)) (upL lv).length (.slice (some ⟨g5, 0, none⟩) (upL lv).length cap5) ((D :: Ds).map markD) V (pre ++ [(Value.slice (some ⟨g2, 0, none⟩) lv.length cap2, lv)]) (upL lv) w3 g5 cap5 (D :: Ds)) := Lib.hid
            ⟨rfl, rfl, by rw [HUL.out]; omega, fun s hs => by
                rw [upL_map] at hs
                obtain ⟨k, _, rfl⟩ := List.mem_map.1 hs
                unfold chE
                split
                · unfold nodeD; rw [dlist_len]; decide
                · exact HSH.out _ (getD_mem _ _ _ (by have := k.2; omega)), HJ3.out, hfr, hW3, HO5.out.strs, by have := (ownBlock_cells HO5.out g5 rfl).1; omega,
              by rw [← HAL.out, List.map_append, List.append_assoc]; congr 1; conv => rhs; rw [levelsL.eq_def, if_pos h1]
                 rfl, rfl, HM5.out, HT3.out.fr hfr⟩
          clear ho hnb3
          gi_wp2_with fail
          gi_roundg (upL lv).length
          case measure => rw [HUL.out]; omega
          case rel => exact ⟨_, _, _, _, _, _, HI5.out⟩
        case stop =>
          rintro D c pre V _ _ h _
          exact h.elim
      · have t2 : decide ((1 : Int) < (lv.length : Int)) = false := by simp; omega
        have HFI : Hid ((pre ++ [(Value.slice (some ⟨g2, 0, none⟩) lv.length cap2, lv)]).map Prod.snd = levelsL (leaves.map leafD)) := Lib.hid (by
          rw [← HI.out.all, List.map_append, levelsL.eq_def lv, if_neg h1]; rfl)
        gi_wp2_with fail
        refine leaves_marks (B := W.heap.size) Ds w3 HM3.out (fun w' hst => ?_)
        exact ⟨_, results_none rfl _ _ _, ⟨_, rfl⟩, _, HFI.out, HJ.out _ _ _ HJ3.out hst⟩
end Go.Proofs.YtjddngbgbbbefaaGreatDoor
namespace Go.Proofs.YtjddngbgbbbefaaGreatDoor
open Go.RowKit Go.Shelf
attribute [local go_sem] Oper.semAt_some

theorem levels_any (v : Value) (w : World) (a : Option Addr) (n c : Nat) (hv : v = .slice a n c) :
    Calls Tryz.prog 73 #[v] w fun e w' => e = .returned (.func (.func 108) #[] #[.pointer (some ⟨w.heap.size, 0, none⟩)]) ∧ w' = w.alloc (.cells #[v] 27) := by
  subst hv
  go_enter Tryz.func73, Tryz.ntmps73
  go_wp2
  go_ret
  exact ⟨rfl, rfl⟩

/-- The first text of the last level. -/
def lastT (pre : List (Value × List (List UInt8))) : List UInt8 := ((pre.map Prod.snd).getLast?.getD []).getD 0 []

set_option maxRecDepth 100000 in
set_option maxHeartbeats 4000000 in
theorem root_any (v : Value) (l : List (List UInt8)) (w : World) (hv : Strs w v l) (hn : l.length ≤ 1000000) (hl : ∀ s ∈ l, s.length ≤ 1000000) (hT : Tabs w) :
    Calls Tryz.prog 32 #[v] w fun e w' => e = .returned (.string ⟨(rootL l).toArray⟩) ∧ Below w.heap.size w w' := by
  obtain ⟨a, cap, rfl, hln, hfa⟩ := hv.form
  have HV := Lib.hid hv
  have HT := Lib.hid hT
  have HLL := Lib.hid hl
  clear hv hT hl
  by_cases h0 : l.length = 0
  · obtain rfl : l = [] := List.length_eq_zero_iff.1 h0
    have t0 : (((([] : List (List UInt8)).length : Nat) : Int) == 0) = true := by simp
    go_enter Tryz.func32, Tryz.ntmps32
    go_wp2_with fail
    refine (of_any _ [noneB] _ (strs_one (heap_new rfl)) (by simp) (fun s hs => by obtain rfl : s = noneB := by simpa using hs
                                                                                   decide) (HT.out.fr ((Fr.refl [] w).alloc _))).mono ?_
    rintro e w1 ⟨rfl, hb⟩
    go_wp2_with fail
    go_ret
    exact ⟨rfl, ((((Fr.refl [] w).alloc _).below hb ((Fr.refl [] w).alloc _).size)).toBelow (by simp)⟩
  · have t0 : ((l.length : Int) == 0) = false := by rw [beq_eq_false_iff_ne]; omega
    refine (callsIn_wide (n := 5)).1 ?_
    refine callsIn_of_wp_marks Tryz.func32 rfl trivial ?_ rfl
    simp only [Tryz.ntmps32, List.size_toArray, List.length_cons, List.length_nil, Nat.reduceAdd, Nat.reduceSub, Array.replicate_succ, Array.replicate_zero, List.push_toArray, List.append_toArray, List.nil_append, List.cons_append]
    gi_wp2_with fail
    refine ⟨trivial, (callsIn_wide.2 (levels_any _ _ _ _ _ rfl)).mono ?_⟩
    rintro e w' ⟨rfl, rfl⟩
    obtain ⟨rb, erb⟩ : ∃ rb, rb = w.heap.size := ⟨_, rfl⟩
    obtain ⟨W0, hW0⟩ : ∃ W0, W0 = (w.alloc (.cells #[.string ⟨#[]⟩] 9)).alloc (.cells #[.slice a l.length cap] 27) := ⟨_, rfl⟩
    have hsz : W0.heap.size = rb + 2 := by rw [hW0, erb]; simp
    have hf0 : Fr [] w W0 := by rw [hW0]; exact ((Fr.refl [] w).alloc _).alloc _
    have hbx : Boxed W0 rb 9 (.string ⟨#[]⟩) := by rw [hW0, erb]; exact heap_past _ (heap_new rfl)
    have hbl : W0.heap[rb + 1]? = some (.cells #[.slice a l.length cap] 27 (0, 0)) := by rw [hW0, erb]; exact heap_new (by simp)
    simp only [World.size_alloc]
    rw [← hW0, ← erb]
    have ERB := Lib.hid erb
    clear hW0 erb
    gi_wp2_with fail
    refine wpIn_rangeAt rfl (by decide) (gf := 108) (lb := #[.pointer (some ⟨rb + 1, 0, none⟩)]) rfl trivial (enters_of Tryz.func108 (by kernel_rfl) rfl)
      (levels_at 4 (rb + 1) (.slice a l.length cap) l W0 (by decide) hbl (HV.out.fr0 hf0) (HT.out.fr hf0) hn HLL.out) (Below.refl _ _) rfl
      (fun pre W => Boxed W rb 9 (.string ⟨(lastT pre).toArray⟩) ∧ Fr [] w W)
      (fun s A C h hst => ⟨boxed_std h.1 hst, h.2.thenStd hst (by have := ERB.out; omega)⟩) ⟨hbx, hf0⟩
      (fun x => { tmps := #[.slice a l.length cap, undef, .string ⟨#[]⟩, .pointer (some ⟨rb, 0, none⟩), x, .slice a l.length cap, .int .i64 (l.length : Int), .bool false, undef, undef, .slice a l.length cap, .func (.func 108) #[] #[.pointer (some ⟨rb + 1, 0, none⟩)], x, undef, undef, undef, undef], defers := [] }) ?assign ?body ?done
    case assign =>
      intro l' x V K hK
      gi_wp2
      exact hK
    case body =>
      rintro l' pre ⟨x, lx⟩ A V ⟨hbA, hfA⟩ hst ⟨hsx, hfx⟩ hsp
      dsimp only at hsx hfx ⊢
      have hbV : Boxed V rb 9 (.string ⟨(lastT pre).toArray⟩) := boxed_std hbA hst
      have hlx : lx ≠ [] := by
        refine levels_ne (l := l.map leafD) (by simpa using h0) lx ?_
        exact hsp.subset (by simp)
      have hl1 : 0 < lx.length := List.length_pos_iff.2 hlx
      obtain ⟨ax, cx, rfl, _, hax⟩ := hsx.form
      obtain ⟨b, off, rfl⟩ := hax 0 hl1
      have c0 := hsx.cell 0 hl1
      rw [Nat.add_zero] at c0
      have hne : b ≠ rb := by
        have h1 := hfx b rfl
        have h2 : rb < A.heap.size := lt_of_block hbA
        omega
      have hcv := hbV.cell
      have hfv := hbV.frozen
      have g0 : (0 : Int) < (lx.length : Int) := by omega
      have HLT : Hid (lastT (pre ++ [(Value.slice (some ⟨b, off, none⟩) lx.length cx, lx)]) = lx.getD 0 []) := Lib.hid (by simp [lastT])
      have HB := Lib.hid hbV
      have HSX := Lib.hid hsx
      have HST := Lib.hid hst
      clear hbV hbA hst hsx hlx hsp hfx
      generalize lx.getD 0 [] = s0 at c0 HLT
      gi_wp2_with fail
      have hfr : Fr [rb] V (V.setCell ⟨rb, 0, none⟩ (.string ⟨s0.toArray⟩)) := (Fr.refl _ V).setCell _ _ (by simp)
      refine ⟨⟨keepsFrom_fr hfr (fun k hk o ho => ?_), fun h => h.fr hfr (fun k hk hm => ?_), fun h => h.frX hfr HT.out (B := rb) (by have := ERB.out; omega) (by simp)⟩, ?_, ?_⟩
      · obtain rfl : k = rb := by simpa using hk
        rw [show V.heap[k]? = _ from HB.out] at ho; cases ho; rfl
      · obtain rfl : b = k := by simpa [Value.ownBlock] using hk
        exact hne (by simpa using hm)
      · rw [HLT.out]; exact HB.out.set _
      · exact ((hfA.thenStd HST.out (by have := ERB.out; omega)).setCell _ _ (by right; have := ERB.out; simp only; omega))
    case done =>
      rintro D xs W hD hS ⟨hb, hf⟩ hK
      have hcv := hb.cell
      have HRT : Hid (lastT xs = rootL l) := Lib.hid (by
        unfold lastT rootL
        rw [if_neg (by intro h; rw [h] at h0; exact h0 rfl), hS, levelsL_top])
      rw [HRT.out] at hcv
      gi_wp2_with fail
      refine ⟨by simp, .inl ⟨_, _, rfl, run_takeDeferred hK, ?_⟩⟩
      refine ⟨_, results_tmp rfl _ _ _, rfl, ?_⟩
      exact (hf.grown (grownBy_putObj' W D _) (fun r e => by cases e; right; have := ERB.out; omega)).toBelow (by simp)

/-- The path that the rounds have made. -/
def pathT (pre : List (Value × List (List UInt8))) (i : Nat) : List (List UInt8) := pathV (pre.map Prod.snd) i
theorem pathT_snoc (pre : List (Value × List (List UInt8))) (v : Value) (l : List (List UInt8)) (i : Nat) : pathT (pre ++ [(v, l)]) i = pathT pre i ++ (if bes (i / 2 ^ pre.length) < l.length then [l.getD (bes (i / 2 ^ pre.length)) []] else []) := by
  unfold pathT
  rw [List.map_append, List.map_singleton, pathV_snoc, List.length_map]
theorem nat_xor_one (i : Nat) : i ^^^ 1 = bes i := by
  have h1 : (i ^^^ 1) / 2 = i / 2 := by rw [Nat.xor_div_two]; simp
  have h2 : (i ^^^ 1) % 2 = (i + 1) % 2 := by
    have := Nat.xor_mod_two_pow (a := i) (b := 1) (n := 1)
    rw [Nat.pow_one] at this
    rw [this]
    rcases Nat.mod_two_eq_zero_or_one i with h | h
    · rw [h]; simp; omega
    · rw [h]; simp; omega
  unfold bes
  split <;> omega
theorem bes_le (i : Nat) : bes i ≤ i + 1 := by unfold bes; split <;> omega
theorem xor_one (i : Nat) (h : i < 9223372036854775807) : bits .xor .i64 (i : Int) 1 = ((bes i : Nat) : Int) := by
  have h1 : (BitVec.ofInt 64 (i : Int)).toNat = i := by
    rw [BitVec.ofInt_natCast, BitVec.toNat_ofNat]; exact Nat.mod_eq_of_lt (by omega)
  have h2 : (BitVec.ofInt 64 (1 : Int)).toNat = 1 := by decide
  show IntKind.i64.wrap ((BitVec.ofInt 64 (i : Int) ^^^ BitVec.ofInt 64 1).toNat : Int) = _
  rw [BitVec.toNat_xor, h1, h2, nat_xor_one]
  have := bes_le i
  exact IntWalk.i64_in _ (by omega)

set_option maxRecDepth 100000 in
set_option maxHeartbeats 4000000 in
theorem path_any (v : Value) (l : List (List UInt8)) (i : Int) (w : World) (hv : Strs w v l) (hn : l.length ≤ 100000) (hl : ∀ s ∈ l, s.length ≤ 1000000) (hT : Tabs w) :
    Calls Tryz.prog 40 #[v, .int .i64 i] w fun e w' => ∃ v' e', e = .returned (.tuple #[v', .int .i64 e']) ∧ ((i < 0 ∨ (l.length : Int) ≤ i) → v' = .slice none 0 0 ∧ e' = 1) ∧
      (∀ k : Nat, i = (k : Int) → k < l.length → e' = 0 ∧ OwnS w.heap.size w' v' (pathL (l.map leafD) k)) ∧ Below w.heap.size w w' := by
  obtain ⟨a, cap, rfl, hln, hfa⟩ := hv.form
  have HV := Lib.hid hv
  have HT := Lib.hid hT
  have HLL := Lib.hid hl
  clear hv hT hl
  by_cases hneg : i < 0
  · have t0 : decide (i < 0) = true := by simpa using hneg
    go_enter Tryz.func40, Tryz.ntmps40
    go_wp2_with fail
    go_ret2
    exact ⟨.slice none 0 0, 1, rfl, by first | exact ⟨rfl, rfl⟩ | exact fun _ => ⟨rfl, rfl⟩, fun k hk => by omega, ((Fr.refl [] w).alloc _).toBelow (by simp)⟩
  have t0 : decide (i < 0) = false := by simpa using hneg
  by_cases hbig : (l.length : Int) ≤ i
  · have t1 : decide ((l.length : Int) ≤ i) = true := by simpa using hbig
    go_enter Tryz.func40, Tryz.ntmps40
    go_wp2_with fail
    go_ret2
    exact ⟨.slice none 0 0, 1, rfl, by first | exact ⟨rfl, rfl⟩ | exact fun _ => ⟨rfl, rfl⟩, fun k hk hk2 => by omega, ((Fr.refl [] w).alloc _).toBelow (by simp)⟩
  have t1 : decide ((l.length : Int) ≤ i) = false := by simpa using hbig
  obtain ⟨k, rfl⟩ : ∃ k : Nat, i = (k : Int) := ⟨i.toNat, by omega⟩
  have hkl : k < l.length := by omega
  refine (callsIn_wide (n := 5)).1 ?_
  refine callsIn_of_wp_marks Tryz.func40 rfl trivial ?_ rfl
  simp only [Tryz.ntmps40, List.size_toArray, List.length_cons, List.length_nil, Nat.reduceAdd, Nat.reduceSub, Array.replicate_succ, Array.replicate_zero, List.push_toArray, List.append_toArray, List.nil_append, List.cons_append]
  gi_wp2_with fail
  refine ⟨trivial, (callsIn_wide.2 (levels_any _ _ _ _ _ rfl)).mono ?_⟩
  rintro e w' ⟨rfl, rfl⟩
  obtain ⟨ib, eib⟩ : ∃ ib, ib = w.heap.size := ⟨_, rfl⟩
  obtain ⟨W0, hW0⟩ : ∃ W0, W0 = ((w.alloc (.cells #[.int .i64 (k : Int)] 3)).alloc (.cells #[.slice none 0 0] 27)).alloc (.cells #[.slice a l.length cap] 27) := ⟨_, rfl⟩
  have hsz : W0.heap.size = ib + 3 := by rw [hW0, eib]; simp
  have hf0 : Fr [] w W0 := by rw [hW0]; exact (((Fr.refl [] w).alloc _).alloc _).alloc _
  have hbi : Boxed W0 ib 3 (.int .i64 (k : Int)) := by rw [hW0, eib]; exact heap_past _ (heap_past _ (heap_new rfl))
  have hbo : Boxed W0 (ib + 1) 27 (.slice none 0 0) := by rw [hW0, eib]; exact heap_past _ (heap_new (by simp))
  have hbl : W0.heap[ib + 1 + 1]? = some (.cells #[.slice a l.length cap] 27 (0, 0)) := by rw [hW0, eib]; exact heap_new (by simp)
  simp only [World.size_alloc]
  rw [← hW0, ← eib]
  have EIB := Lib.hid eib
  clear hW0 eib
  gi_wp2_with fail
  have hT0 := tabs_lt HT.out
  refine wpIn_rangeAt rfl (by decide) (gf := 108) (lb := #[.pointer (some ⟨ib + 1 + 1, 0, none⟩)]) rfl trivial (enters_of Tryz.func108 (by kernel_rfl) rfl)
    (levels_at 4 (ib + 1 + 1) (.slice a l.length cap) l W0 (by decide) hbl (HV.out.fr0 hf0) (HT.out.fr hf0) (by omega) HLL.out) (Below.refl _ _) rfl
    (fun pre W => Boxed W ib 3 (.int .i64 (k / 2 ^ pre.length : Nat)) ∧ (∃ ov, Boxed W (ib + 1) 27 ov ∧ OwnS W0.heap.size W ov (pathT pre k)) ∧ Fr [] w W ∧ (pathT pre k).length ≤ pre.length ∧ W0.heap.size ≤ W.heap.size)
    (fun s A C h hst => ⟨boxed_std h.1 hst, let ⟨ov, h1, h2⟩ := h.2.1; ⟨ov, boxed_std h1 hst, h2.std hst⟩, h.2.2.1.thenStd hst (by have := EIB.out; omega), h.2.2.2.1, Nat.le_trans h.2.2.2.2 hst.size⟩)
    ⟨by simpa using hbi, ⟨_, hbo, ⟨rfl, Or.inl ⟨rfl, rfl⟩⟩⟩, hf0, by simp [pathT, pathV], Nat.le_refl _⟩
    (fun x => { tmps := #[.slice a l.length cap, .int .i64 (k : Int), undef, .pointer (some ⟨ib, 0, none⟩), .slice none 0 0, .int .i64 0, .pointer (some ⟨ib + 1, 0, none⟩), x, undef, .int .i64 (k : Int), .bool false, .bool false, .int .i64 (k : Int), .slice a l.length cap, .int .i64 (l.length : Int), .bool false, .bool false, .slice a l.length cap, .func (.func 108) #[] #[.pointer (some ⟨ib + 1 + 1, 0, none⟩)], x, undef, undef, undef, undef, undef, undef, undef, undef, undef, undef, undef, undef, undef, undef, undef, undef], defers := [] }) ?assign ?body ?done
  case assign =>
    intro l' x V K hK
    gi_wp2
    exact hK
  case body =>
    rintro l' pre ⟨x, lx⟩ A V ⟨hbA, ⟨ov, hoA, hownA⟩, hfA, hlen, hsA⟩ hst ⟨hsx, hfx⟩ hsp
    dsimp only at hsx hfx ⊢
    have hmx : Tryz.prog.follows .mixedOrders = true := by kernel_rfl
    have hpl : pre.length ≤ 100001 := by
      have h1 := hsp.length_le
      have h2 := levels_count (l.map leafD)
      simp at h1 h2; omega
    have hbV := boxed_std hbA hst
    have hoV := boxed_std hoA hst
    have HOW := Lib.hid (hownA.std hst)
    have hnx : ∀ j, x.ownBlock = some j → j ≠ ib ∧ j ≠ ib + 1 ∧ j ∉ ov.ownBlock.toList := fun j hj => by
      have h1 := hfx j hj
      refine ⟨by omega, by omega, fun hm => ?_⟩
      rcases hownA.2 with ⟨rfl, _⟩ | ⟨g, cp, cur, rfl, _, hg, _⟩
      · simp [Value.ownBlock] at hm
      · obtain rfl : j = g := by simpa [Value.ownBlock] using hm
        have := lt_of_block hg
        omega
    have HNX := Lib.hid hnx
    have hfV := hfA.thenStd hst (by have := EIB.out; omega)
    have hsV : W0.heap.size ≤ V.heap.size := Nat.le_trans hsA hst.size
    obtain ⟨ax, cx, rfl, hx9, hax⟩ := hsx.form
    have HPT := Lib.hid (pathT_snoc pre (.slice ax lx.length cx) lx k)
    obtain ⟨q, eq⟩ : ∃ q, q = k / 2 ^ pre.length := ⟨_, rfl⟩
    have hqk : q ≤ k := by rw [eq]; exact Nat.div_le_self _ _
    rw [← eq] at HPT hbV
    have EQ := Lib.hid eq
    obtain ⟨q2, eq2, eq3⟩ : ∃ q2 : Nat, q2 = q / 2 ∧ (q : Int) / 2 = (q2 : Int) := ⟨_, rfl, by omega⟩
    have HQ2 : Hid (q2 = k / 2 ^ (pre.length + 1)) := Lib.hid (by rw [eq2, eq, Nat.div_div_eq_div_mul, Nat.pow_succ])
    have hxo := xor_one q (by omega)
    obtain ⟨bq, ebq⟩ : ∃ bq, bq = bes q := ⟨_, rfl⟩
    rw [← ebq] at HPT hxo
    have hcb := hbV.cell
    have hfb := hbV.frozen
    have hco := hoV.cell
    have hfo := hoV.frozen
    have HBI := Lib.hid hbV
    have HBO := Lib.hid hoV
    have HSX := Lib.hid hsx
    have HHD := Lib.hid hownA
    clear hbA hoA hownA hfA hsA hst hfx hsp hbV hoV hsx hnx eq eq2 ebq
    by_cases hbl2 : bq < lx.length
    · have t5 : decide ((bq : Int) < (lx.length : Int)) = true := by simp; omega
      obtain ⟨b, off, rfl⟩ := hax bq hbl2
      obtain ⟨hne1, hne2, hne3⟩ := HNX.out b rfl
      have cx0 := HSX.out.cell bq hbl2
      rw [if_pos hbl2] at HPT
      generalize lx.getD bq [] = sx at cx0 HPT
      have g0 : (0 : Int) ≤ (bq : Int) := by omega
      have g1 : (bq : Int) < (lx.length : Int) := by omega
      gi_wp2_with fail
      have hS0 : V.drew.cell? ⟨ib + 1, 0, none⟩ = some ov ∧ V.drew.cell? ⟨b, off + bq, none⟩ = some (.string ⟨sx.toArray⟩) := ⟨hco, cx0⟩
      refine regionIn_held 7 (fun W' => W'.cell? ⟨ib + 1, 0, none⟩ = some ov ∧ W'.cell? ⟨b, off + bq, none⟩ = some (.string ⟨sx.toArray⟩)) hmx (by kernel_rfl) ?_
      change Held _ _ _ _ _ _ 8 (Array.replicate 8 false) _ _
      refine hd_take 0 (v := ov) rfl (by kernel_rfl) (by kernel_rfl) (by kernel_rfl) rfl hS0 (fun W' hS => by obtain ⟨h0, h1⟩ := hS; first | (go_simp; done) | (go_simp; intro hix; omega)) rfl ?_
      refine hd_take 1 (v := .slice (some ⟨b, off, none⟩) lx.length cx) rfl (by kernel_rfl) (by kernel_rfl) (by kernel_rfl) rfl hS0 (fun W' hS => by first | (go_simp; done) | (go_simp; intro hix; omega)) rfl ?_
      refine hd_take 2 (v := .int .i64 (bq : Int)) rfl (by kernel_rfl) (by kernel_rfl) (by kernel_rfl) rfl hS0 (fun W' hS => by first | (go_simp; done) | (go_simp; intro hix; omega)) rfl ?_
      simp only [Act.put, List.setIfInBounds_toArray, List.set_cons_zero, List.set_cons_succ]
      refine hd_take 3 (v := .pointer (some ⟨b, off + bq, none⟩)) rfl (by kernel_rfl) (by kernel_rfl) (by kernel_rfl) rfl hS0 (fun W' hS => by first | (go_simp; done) | (go_simp; intro hix; omega)) rfl ?_
      simp only [Act.put, List.setIfInBounds_toArray, List.set_cons_zero, List.set_cons_succ]
      refine hd_take 4 (v := .string ⟨sx.toArray⟩) rfl (by kernel_rfl) (by kernel_rfl) (by kernel_rfl) rfl hS0 (fun W' hS => by obtain ⟨h0, h1⟩ := hS; first | (go_simp; done) | (go_simp; intro hix; omega)) rfl ?_
      simp only [Act.put, List.setIfInBounds_toArray, List.set_cons_zero, List.set_cons_succ]
      have hV2 : Fr [] V V.drew := (Fr.refl [] V).drew
      generalize V.drew = w5 at hS0 hV2 ⊢
      refine hd_one 5 (by kernel_rfl) rfl (by kernel_rfl) rfl (fun K' hK => ?_)
      go_simp
      have hV3 : Fr [] V (w5.alloc (.cells #[.string ⟨sx.toArray⟩] 9)) := hV2.alloc _
      refine hK.out _ _ (fun _ => ⟨hV3.cell hco (by simp), hV3.cell cx0 (by simp)⟩) ?_
      clear hK K' hV3
      refine hd_one 6 (by kernel_rfl) rfl (by kernel_rfl) rfl (fun K' hK => ?_)
      refine wp_appS (.tmp 26) (.tmp 31) rfl W0.heap.size ov _ sx w rfl rfl (HOW.out.fr hV2 (by simp)) (hfV.trans hV2 (by simp)) (by have := EIB.out; omega) (Nat.le_trans hsV hV2.size) (by omega) ?_
      rintro v' w7 ⟨g9, c9, rfl⟩ hO7 hF7 hG7
      have hown : ∀ k, ov.ownBlock = some k → W0.heap.size ≤ k ∧ ∀ o, V.heap[k]? = some o → o.isCells = true := ownBlock_cells HOW.out
      have hnn : ∀ k, k < W0.heap.size → k ∉ ov.ownBlock.toList := fun k hk hm => by have := (hown k (by simpa using hm)).1; omega
      have hV7 : Boxed w7 (ib + 1) 27 ov := hG7.at (hV2.at HBO.out (by simp)) (hnn _ (by omega))
      have hI7 : Boxed w7 ib 3 (.int .i64 (q : Int)) := hG7.at (hV2.at HBI.out (by simp)) (hnn _ (by omega))
      have hcv7 := hV7.cell
      have hfv7 := hV7.frozen
      refine hK.out _ _ (fun _ => ⟨hcv7, hG7.cell (hV2.cell cx0 (by simp)) hne3⟩) ?_
      clear hK K'
      refine hd_one 7 (by kernel_rfl) rfl (by kernel_rfl) rfl (fun K' hK => ?_)
      go_simp
      refine hK.out _ _ (fun h => absurd rfl h) ?_
      clear hK K'
      refine held_done (by kernel_rfl) ?_
      have hI8 : Boxed (w7.setCell ⟨ib + 1, 0, none⟩ (.slice (some ⟨g9, 0, none⟩) ((pathT pre k).length + 1) c9)) ib 3 (.int .i64 (q : Int)) := hI7.other (by omega) _
      have hc8 := hI8.cell
      have hf8 := hI8.frozen
      have HALL : Hid (Fr (ib :: (ib + 1) :: ov.ownBlock.toList) V ((w7.setCell ⟨ib + 1, 0, none⟩ (.slice (some ⟨g9, 0, none⟩) ((pathT pre k).length + 1) c9)).setCell ⟨ib, 0, none⟩ (.int .i64 (q2 : Int)))) := Lib.hid
        ((((hV2.mono (by simp)).trans hG7 (fun k hk => Or.inl (by simp at hk ⊢; exact Or.inr (Or.inr hk)))).setCell _ _ (by simp)).setCell _ _ (by simp))
      have HBIX : Hid (Boxed ((w7.setCell ⟨ib + 1, 0, none⟩ (.slice (some ⟨g9, 0, none⟩) ((pathT pre k).length + 1) c9)).setCell ⟨ib, 0, none⟩ (.int .i64 (q2 : Int))) ib 3 (.int .i64 (q2 : Int))) := Lib.hid (hI8.set _)
      have HBOX : Hid (Boxed ((w7.setCell ⟨ib + 1, 0, none⟩ (.slice (some ⟨g9, 0, none⟩) ((pathT pre k).length + 1) c9)).setCell ⟨ib, 0, none⟩ (.int .i64 (q2 : Int))) (ib + 1) 27 (.slice (some ⟨g9, 0, none⟩) ((pathT pre k).length + 1) c9)) := Lib.hid ((hV7.set _).other (by omega) _)
      have HOX : Hid (OwnS W0.heap.size ((w7.setCell ⟨ib + 1, 0, none⟩ (.slice (some ⟨g9, 0, none⟩) ((pathT pre k).length + 1) c9)).setCell ⟨ib, 0, none⟩ (.int .i64 (q2 : Int))) (.slice (some ⟨g9, 0, none⟩) ((pathT pre k).length + 1) c9) (pathT (pre ++ [(Value.slice (some ⟨b, off, none⟩) lx.length cx, lx)]) k)) := Lib.hid (by
        rw [HPT.out]
        have h9 := (ownBlock_cells hO7 g9 rfl).1
        exact hO7.fr (((Fr.refl [ib + 1, ib] w7).setCell _ _ (by simp)).setCell _ _ (by simp)) (fun j hj hm => by
          obtain rfl : g9 = j := by simpa [Value.ownBlock] using hj
          simp at hm; omega))
      have HFX : Hid (Fr [] w ((w7.setCell ⟨ib + 1, 0, none⟩ (.slice (some ⟨g9, 0, none⟩) ((pathT pre k).length + 1) c9)).setCell ⟨ib, 0, none⟩ (.int .i64 (q2 : Int)))) := Lib.hid ((hF7.setCell _ _ (by right; have := EIB.out; simp only; omega)).setCell _ _ (by right; have := EIB.out; simp only; omega))
      have HPL : Hid ((pathT (pre ++ [(Value.slice (some ⟨b, off, none⟩) lx.length cx, lx)]) k).length ≤ pre.length + 1) := Lib.hid (by rw [HPT.out, List.length_append]; simp; omega)
      have HHO := Lib.hid hown
      clear hown hnn hV7 hI7 hcv7 hfv7 hO7 hF7 hG7 hcb hfb hco hfo cx0 hI8 hV2 hS0
      gi_wp2_with fail
      have hall := HALL.out
      refine ⟨⟨keepsFrom_fr hall (fun j hj o ho => ?_), fun h => h.fr hall (fun j hj hm => ?_), fun h => h.frX hall HT.out (B := ib) (by have := EIB.out; omega) (fun j hj => ?_)⟩, ?_, ⟨_, HBOX.out, HOX.out⟩, HFX.out, ?_, Nat.le_trans hsV hall.size⟩
      · rcases List.mem_cons.1 hj with rfl | hj
        · rw [show V.heap[j]? = _ from HBI.out] at ho; cases ho; rfl
        · rcases List.mem_cons.1 hj with rfl | hj
          · rw [show V.heap[ib + 1]? = _ from HBO.out] at ho; cases ho; rfl
          · exact (HHO.out j (by simpa using hj)).2 o ho
      · obtain ⟨m1, m2, m3⟩ := HNX.out j hj
        rcases List.mem_cons.1 hm with h | hm
        · exact m1 h
        · rcases List.mem_cons.1 hm with h | hm
          · exact m2 h
          · exact m3 hm
      · rcases List.mem_cons.1 hj with rfl | hj
        · exact Nat.le_refl _
        · rcases List.mem_cons.1 hj with rfl | hj
          · omega
          · have := (HHO.out j (by simpa using hj)).1; omega
      · rw [List.length_append, List.length_singleton, ← HQ2.out]; exact HBIX.out
      · rw [List.length_append, List.length_singleton]; exact HPL.out
    · have t5 : decide ((bq : Int) < (lx.length : Int)) = false := by simp; omega
      rw [if_neg hbl2, List.append_nil] at HPT
      have HALL : Hid (Fr [ib] V (V.setCell ⟨ib, 0, none⟩ (.int .i64 (q2 : Int)))) := Lib.hid ((Fr.refl _ V).setCell _ _ (by simp))
      have HBIX : Hid (Boxed (V.setCell ⟨ib, 0, none⟩ (.int .i64 (q2 : Int))) ib 3 (.int .i64 (q2 : Int))) := Lib.hid (HBI.out.set _)
      have HBOX : Hid (Boxed (V.setCell ⟨ib, 0, none⟩ (.int .i64 (q2 : Int))) (ib + 1) 27 ov) := Lib.hid (HBO.out.other (by omega) _)
      have HOX : Hid (OwnS W0.heap.size (V.setCell ⟨ib, 0, none⟩ (.int .i64 (q2 : Int))) ov (pathT (pre ++ [(Value.slice ax lx.length cx, lx)]) k)) := Lib.hid (by
        rw [HPT.out]
        exact HOW.out.fr HALL.out (fun j hj hm => by
          have := (ownBlock_cells HOW.out j hj).1
          simp at hm; omega))
      have HFX : Hid (Fr [] w (V.setCell ⟨ib, 0, none⟩ (.int .i64 (q2 : Int)))) := Lib.hid (hfV.setCell _ _ (by right; have := EIB.out; simp only; omega))
      have HPL : Hid ((pathT (pre ++ [(Value.slice ax lx.length cx, lx)]) k).length ≤ pre.length + 1) := Lib.hid (by rw [HPT.out]; omega)
      clear hco hfo
      gi_wp2_with fail
      have hall := HALL.out
      refine ⟨⟨keepsFrom_fr hall (fun j hj o ho => ?_), fun h => h.fr hall (fun j hj hm => ?_), fun h => h.frX hall HT.out (B := ib) (by have := EIB.out; omega) (by simp)⟩, ?_, ⟨_, HBOX.out, HOX.out⟩, HFX.out, ?_, Nat.le_trans hsV hall.size⟩
      · obtain rfl : j = ib := by simpa using hj
        rw [show V.heap[j]? = _ from HBI.out] at ho; cases ho; rfl
      · exact (HNX.out j hj).1 (by simpa using hm)
      · rw [List.length_append, List.length_singleton, ← HQ2.out]; exact HBIX.out
      · rw [List.length_append, List.length_singleton]; exact HPL.out
  case done =>
    rintro D xs W hD hS ⟨_, ⟨ov, hb, ho⟩, hf, _, _⟩ hK
    have hcv := hb.cell
    have HRT : Hid (pathT xs k = pathL (l.map leafD) k) := Lib.hid (by
      unfold pathT
      rw [hS, pathV_levels _ _ (by rw [List.length_map]; exact hkl)])
    rw [HRT.out] at ho
    have HO := Lib.hid ho
    clear ho
    gi_wp2_with fail
    refine ⟨by simp, .inl ⟨_, _, rfl, run_takeDeferred hK, ?_⟩⟩
    have hfD : Fr [D] W (W.putObj D (.deferred none)) := (Fr.refl [D] W).grown (grownBy_putObj' W D _) (fun r e => by cases e; simp)
    refine ⟨_, results_tmp2 rfl _ _ _, ov, 0, rfl, fun h => absurd h (by omega), fun j hj hj2 => ?_, ?_⟩
    · obtain rfl : k = j := by omega
      refine ⟨rfl, (HO.out.fr hfD (fun j hj hm => ?_)).mono (by have := EIB.out; omega)⟩
      have h1 := (ownBlock_cells HO.out j hj).2 _ (by obtain rfl : j = D := by simpa using hm
                                                      exact hK)
      cases h1
    · exact (hf.grown (grownBy_putObj' W D _) (fun r e => by cases e; right; have := EIB.out; omega)).toBelow (by simp)
end Go.Proofs.YtjddngbgbbbefaaGreatDoor
namespace Go.Proofs.YtjddngbgbbbefaaGreatDoor
open Go.RowKit

theorem Strs.tl {w : World} {b off n cap : Nat} {x : List UInt8} {l : List (List UInt8)} (h : Strs w (.slice (some ⟨b, off, none⟩) n cap) (x :: l)) (hn : n = l.length + 1) : Strs w (.slice (some ⟨b, off + 1, none⟩) (n - 1) (cap - 1)) l := by
  subst hn
  rcases h with ⟨h, _⟩ | ⟨b', off', cap', hv, h1, h2, h3, h4⟩
  · cases h
  · cases hv
    refine Or.inr ⟨b, off + 1, cap - 1, by rw [Nat.add_sub_cancel], by simp at h1; omega, by omega, h3, fun i hi => ?_⟩
    have := h4 (i + 1) (by simpa using hi)
    rw [Nat.add_assoc, Nat.add_comm 1 i, this]
    rfl
theorem Strs.capOf {w : World} {b off n cap : Nat} {l : List (List UInt8)} (h : Strs w (.slice (some ⟨b, off, none⟩) n cap) l) : n ≤ cap ∧ cap ≤ 9223372036854775807 := by
  rcases h with ⟨h, _⟩ | ⟨b', off', cap', hv, h1, h2, h3, h4⟩
  · cases h
  · cases hv; exact ⟨h1, h2⟩
/-- What Check answers. -/
def chkB (root : List UInt8) (n i : Int) (leaf : List UInt8) (p : List (List UInt8)) : Bool := decide (1 ≤ n ∧ 0 ≤ i ∧ i < n) && (ckL n.toNat i.toNat (leafD leaf) p == some root)
theorem ck_end {n i : Nat} {a : List UInt8} {p : List (List UInt8)} (h : ¬ 1 < n) : ckL n i a p = if p = [] then some a else none := by rw [ckL.eq_def, if_neg h]
theorem ck_skip {n i : Nat} {a : List UInt8} {p : List (List UInt8)} (h : 1 < n) (hb : ¬ bes i < n) : ckL n i a p = ckL (n - n / 2) (i / 2) a p := by rw [ckL.eq_def, if_pos h, if_neg hb]
theorem ck_nil {n i : Nat} {a : List UInt8} (h : 1 < n) (hb : bes i < n) : ckL n i a [] = none := by rw [ckL.eq_def, if_pos h, if_pos hb]
theorem ck_cons {n i : Nat} {a x : List UInt8} {p : List (List UInt8)} (h : 1 < n) (hb : bes i < n) : ckL n i a (x :: p) = ckL (n - n / 2) (i / 2) (if i % 2 = 0 then nodeD a x else nodeD x a) p := by rw [ckL.eq_def, if_pos h, if_pos hb]

set_option maxRecDepth 100000 in
set_option maxHeartbeats 8000000 in
theorem check_any (root leaf : List UInt8) (n i : Int) (pv : Value) (p : List (List UInt8)) (w : World) (hn : -9223372036854775808 ≤ n ∧ n < 9223372036854775808) (hi : -9223372036854775808 ≤ i ∧ i < 9223372036854775808)
    (hp : Strs w pv p) (hl : leaf.length ≤ 1000000) (hps : ∀ s ∈ p, s.length ≤ 1000000) (hT : Tabs w) :
    Calls Tryz.prog 56 #[.string ⟨root.toArray⟩, .int .i64 n, .int .i64 i, .string ⟨leaf.toArray⟩, pv] w fun e w' => e = .returned (.bool (chkB root n i leaf p)) ∧ Below w.heap.size w w' := by
  have HP := Lib.hid hp
  have HT := Lib.hid hT
  have HPS := Lib.hid hps
  obtain ⟨pa, pcap, rfl, hp9, hpa⟩ := hp.form
  clear hp hT hps
  by_cases h1 : n < 1
  · have t0 : decide (n < 1) = true := by simpa using h1
    have HC : Hid (chkB root n i leaf p = false) := Lib.hid (by unfold chkB; rw [decide_eq_false (by omega)]; rfl)
    rw [HC.out]
    go_enter Tryz.func56, Tryz.ntmps56
    go_wp2_with fail
    go_ret
    exact ⟨rfl, Below.refl _ _⟩
  have t0 : decide (n < 1) = false := by simpa using h1
  by_cases h2 : i < 0
  · have t1 : decide (i < 0) = true := by simpa using h2
    have HC : Hid (chkB root n i leaf p = false) := Lib.hid (by unfold chkB; rw [decide_eq_false (by omega)]; rfl)
    rw [HC.out]
    go_enter Tryz.func56, Tryz.ntmps56
    go_wp2_with fail
    go_ret
    exact ⟨rfl, Below.refl _ _⟩
  have t1 : decide (i < 0) = false := by simpa using h2
  by_cases h3 : n ≤ i
  · have t2 : decide (n ≤ i) = true := by simpa using h3
    have HC : Hid (chkB root n i leaf p = false) := Lib.hid (by unfold chkB; rw [decide_eq_false (by omega)]; rfl)
    rw [HC.out]
    go_enter Tryz.func56, Tryz.ntmps56
    go_wp2_with fail
    go_ret
    exact ⟨rfl, Below.refl _ _⟩
  have t2 : decide (n ≤ i) = false := by simpa using h3
  obtain ⟨n0, rfl⟩ : ∃ n0 : Nat, n = (n0 : Int) := ⟨n.toNat, by omega⟩
  obtain ⟨i0, rfl⟩ : ∃ i0 : Nat, i = (i0 : Int) := ⟨i.toNat, by omega⟩
  have HC : Hid (chkB root (n0 : Int) (i0 : Int) leaf p = (ckL n0 i0 (leafD leaf) p == some root)) := Lib.hid (by unfold chkB; rw [decide_eq_true (by omega)]; rfl)
  rw [HC.out]
  have hin : i0 < n0 := by omega
  have hn9 : n0 < 9223372036854775808 := by omega
  clear h1 h2 h3 HC hi hn
  go_enter Tryz.func56, Tryz.ntmps56
  go_wp2_with fail
  refine (of_any _ [leafB, leaf] _ (strs_two (heap_new rfl)) (by simp) (fun s hs => ?_) (HT.out.fr ((Fr.refl [] w).alloc _))).mono ?_
  · rcases List.mem_cons.1 hs with rfl | hs
    · decide
    · rw [List.mem_singleton.1 hs]; exact hl
  rintro e w1 ⟨rfl, hb1⟩
  have hf1 : Fr [] w w1 := ((Fr.refl [] w).alloc _).below hb1 ((Fr.refl [] w).alloc _).size
  rw [show dlist [leafB, leaf] = leafD leaf from rfl]
  have HLL : Hid ((leafD leaf).length = 16) := Lib.hid (dlist_len _)
  clear hb1
  obtain ⟨a0, ea0⟩ : ∃ a0, a0 = leafD leaf := ⟨_, rfl⟩
  rw [← ea0] at HLL ⊢
  have HA0 := Lib.hid ea0
  clear ea0
  go_wp2_with fail
  go_loopg [1, 2, 4, 11] n0 (fun gh nv iv pv av wr => ∃ (m i : Nat) (at' : List UInt8) (pv' : Value) (q : List (List UInt8)), i < m ∧ m ≤ n0 ∧ gh = m ∧ nv = .int .i64 (m : Int) ∧ iv = .int .i64 (i : Int) ∧ (pv = pv' ∧ av = .string ⟨at'.toArray⟩) ∧ Strs w pv' q ∧ q.length ≤ p.length ∧ at'.length ≤ 1000000 ∧ (∀ s ∈ q, s.length ≤ 1000000) ∧ ckL m i at' q = ckL n0 i0 a0 p ∧ Fr [] w wr)
  case atStart => exact ⟨n0, i0, a0, _, p, hin, Nat.le_refl _, rfl, rfl, rfl, ⟨rfl, rfl⟩, HP.out, Nat.le_refl _, by rw [HLL.out]; decide, HPS.out, rfl, hf1⟩
  case round =>
    clear t0 t1 t2 hf1 hin
    obtain ⟨m, i, at', pv', q0, him, hmn, hgm, rfl, rfl, ⟨rfl, rfl⟩, hsq, hql, hal, hqs, hck, hfr⟩ := hrel
    have HSQ0 := Lib.hid hsq
    have HGM := Lib.hid hgm
    clear hgm
    have HAL := Lib.hid hal
    have HQS0 := Lib.hid hqs
    have HCK0 := Lib.hid hck
    obtain ⟨qa, qcap, rfl, hq9, hqa⟩ := hsq.form
    clear hsq hal hqs hck
    by_cases h1 : 1 < m
    · have t1 : decide ((1 : Int) < (m : Int)) = true := by simp; omega
      have hxo := xor_one i (by omega)
      obtain ⟨m2, em2, em3⟩ : ∃ m2 : Nat, m2 = m - m / 2 ∧ (m : Int) - (m : Int) / 2 = (m2 : Int) := ⟨_, rfl, by omega⟩
      obtain ⟨i2, ei2, ei3⟩ : ∃ i2 : Nat, i2 = i / 2 ∧ (i : Int) / 2 = (i2 : Int) := ⟨_, rfl, by omega⟩
      have w1 : IntKind.i64.wrap (m2 : Int) = (m2 : Int) := IntWalk.i64_in _ (by omega)
      have hm2 : m2 < m := by omega
      have hi2 : i2 < m2 := by omega
      by_cases hb : bes i < m
      · have t2 : decide ((m : Int) ≤ ((bes i : Nat) : Int)) = false := by simp; omega
        have t2n : decide (m ≤ bes i) = false := by simp; omega
        rcases q0 with _ | ⟨x, q⟩
        · have HR : Hid (ckL n0 i0 a0 p = none) := Lib.hid (by rw [← HCK0.out, ck_nil h1 hb])
          generalize bes i = bi at hxo t2 t2n
          rw [List.length_nil]
          have t3 : (((0 : Nat) : Int) == 0) = true := by decide
          go_wp2_with fail
          go_ret
          exact ⟨by rw [← HA0.out, HR.out]; rfl, hfr.toBelow (by simp)⟩
        · obtain ⟨b, off, rfl⟩ := hqa 0 (by simp)
          have HCK := HCK0
          rw [ck_cons h1 hb, ← em2, ← ei2] at HCK
          have c0 := hfr.cell (HSQ0.out.cell 0 (by simp)) (by simp)
          rw [Nat.add_zero] at c0
          rw [show (x :: q).getD 0 [] = x from rfl] at c0
          have hcap := HSQ0.out.capOf
          have HBL : Hid (b < w.heap.size) := Lib.hid (by
            rcases HSQ0.out with ⟨h, _⟩ | ⟨_, _, _, h, _, _, h3, _⟩
            · cases h
            · cases h; exact h3)
          have HSQ := Lib.hid (HSQ0.out.tl (by simp))
          have HX := Lib.hid (HQS0.out x (by simp))
          have HQS : Hid (∀ s ∈ q, s.length ≤ 1000000) := Lib.hid (fun s hs => HQS0.out s (by simp [hs]))
          rw [List.length_cons] at HSQ hcap hql hq9 ⊢
          rw [Nat.add_sub_cancel] at HSQ
          have t3 : (((q.length + 1 : Nat) : Int) == 0) = false := by rw [beq_eq_false_iff_ne]; omega
          have t3' : ((q.length : Int) + 1 == 0) = false := by rw [beq_eq_false_iff_ne]; omega
          have g0 : (0 : Int) < ((q.length + 1 : Nat) : Int) := by omega
          have g1 : (1 : Int) ≤ ((q.length + 1 : Nat) : Int) := by omega
          have g2 : (1 : Int) ≤ (qcap : Int) := by omega
          clear HCK0 HSQ0 HQS0 em2 ei2 hqa
          generalize bes i = bi at hxo t2 t2n
          by_cases he : i % 2 = 0
          · have t4 : ((i : Int) % 2 == 0) = true := by simp; omega
            have t4' : ((i : Int).tmod 2 == 0) = true := by rw [Int.tmod_eq_emod_of_nonneg (by omega), beq_iff_eq]; omega
            rw [if_pos he] at HCK
            by_cases hq1 : qcap = 1
            · subst hq1
              obtain rfl : q = [] := List.length_eq_zero_iff.1 (by omega)
              have HSQ1 : Hid (Strs w (.slice (some ⟨b, off, none⟩) ([] : List (List UInt8)).length 0) []) := Lib.hid (Or.inr ⟨b, off, 0, rfl, by simp, by decide, HBL.out, fun i hi => absurd hi (by simp)⟩)
              have hA : Fr [] wr (wr.alloc (.cells #[.string ⟨#[110, 111, 100, 101]⟩, .string ⟨at'.toArray⟩, .string ⟨x.toArray⟩] 9)) := (Fr.refl [] wr).alloc _
              go_wp2_with fail
              refine (of_any _ [nodeB, at', x] _ (strs_three (heap_new rfl)) (by simp) (fun s hs => ?_) (HT.out.fr (hfr.trans hA (by simp)))).mono ?_
              · rcases List.mem_cons.1 hs with rfl | hs
                · decide
                · rcases List.mem_cons.1 hs with rfl | hs
                  · exact HAL.out
                  · rw [List.mem_singleton.1 hs]; exact HX.out
              rintro e w2 ⟨rfl, hb2⟩
              have hf2 : Fr [] w w2 := (hfr.trans hA (by simp)).below hb2 ((hfr.trans hA (by simp)).size)
              rw [show dlist [nodeB, at', x] = nodeD at' x from rfl]
              have HL2 : Hid ((nodeD at' x).length ≤ 1000000) := Lib.hid (by unfold nodeD; rw [dlist_len]; decide)
              generalize nodeD at' x = at2 at HCK HL2 ⊢
              clear hb2 hA hfr c0
              go_wp2_with fail
              go_roundg m2
              case measure => have := HGM.out; omega
              case rel => exact ⟨m2, i2, at2, _, [], by omega, by omega, rfl, rfl, rfl, ⟨rfl, rfl⟩, HSQ1.out, by omega, HL2.out, HQS.out, HCK.out, hf2⟩
            · have hq2 : ¬ qcap - 1 = 0 := by omega
              have hq3 : ¬ qcap ≤ 1 := by omega
              have hA : Fr [] wr (wr.alloc (.cells #[.string ⟨#[110, 111, 100, 101]⟩, .string ⟨at'.toArray⟩, .string ⟨x.toArray⟩] 9)) := (Fr.refl [] wr).alloc _
              go_wp2_with fail
              refine (of_any _ [nodeB, at', x] _ (strs_three (heap_new rfl)) (by simp) (fun s hs => ?_) (HT.out.fr (hfr.trans hA (by simp)))).mono ?_
              · rcases List.mem_cons.1 hs with rfl | hs
                · decide
                · rcases List.mem_cons.1 hs with rfl | hs
                  · exact HAL.out
                  · rw [List.mem_singleton.1 hs]; exact HX.out
              rintro e w2 ⟨rfl, hb2⟩
              have hf2 : Fr [] w w2 := (hfr.trans hA (by simp)).below hb2 ((hfr.trans hA (by simp)).size)
              rw [show dlist [nodeB, at', x] = nodeD at' x from rfl]
              have HL2 : Hid ((nodeD at' x).length ≤ 1000000) := Lib.hid (by unfold nodeD; rw [dlist_len]; decide)
              generalize nodeD at' x = at2 at HCK HL2 ⊢
              clear hb2 hA hfr c0
              go_wp2_with fail
              go_roundg m2
              case measure => have := HGM.out; omega
              case rel => exact ⟨m2, i2, at2, _, q, by omega, by omega, rfl, rfl, rfl, ⟨rfl, rfl⟩, HSQ.out, by omega, HL2.out, HQS.out, HCK.out, hf2⟩
          · have t4 : ((i : Int) % 2 == 0) = false := by rw [beq_eq_false_iff_ne]; omega
            have t4' : ((i : Int).tmod 2 == 0) = false := by rw [Int.tmod_eq_emod_of_nonneg (by omega), beq_eq_false_iff_ne]; omega
            rw [if_neg he] at HCK
            by_cases hq1 : qcap = 1
            · subst hq1
              obtain rfl : q = [] := List.length_eq_zero_iff.1 (by omega)
              have HSQ1 : Hid (Strs w (.slice (some ⟨b, off, none⟩) ([] : List (List UInt8)).length 0) []) := Lib.hid (Or.inr ⟨b, off, 0, rfl, by simp, by decide, HBL.out, fun i hi => absurd hi (by simp)⟩)
              have hA : Fr [] wr (wr.alloc (.cells #[.string ⟨#[110, 111, 100, 101]⟩, .string ⟨x.toArray⟩, .string ⟨at'.toArray⟩] 9)) := (Fr.refl [] wr).alloc _
              go_wp2_with fail
              refine (of_any _ [nodeB, x, at'] _ (strs_three (heap_new rfl)) (by simp) (fun s hs => ?_) (HT.out.fr (hfr.trans hA (by simp)))).mono ?_
              · rcases List.mem_cons.1 hs with rfl | hs
                · decide
                · rcases List.mem_cons.1 hs with rfl | hs
                  · exact HX.out
                  · rw [List.mem_singleton.1 hs]; exact HAL.out
              rintro e w2 ⟨rfl, hb2⟩
              have hf2 : Fr [] w w2 := (hfr.trans hA (by simp)).below hb2 ((hfr.trans hA (by simp)).size)
              rw [show dlist [nodeB, x, at'] = nodeD x at' from rfl]
              have HL2 : Hid ((nodeD x at').length ≤ 1000000) := Lib.hid (by unfold nodeD; rw [dlist_len]; decide)
              generalize nodeD x at' = at2 at HCK HL2 ⊢
              clear hb2 hA hfr c0
              go_wp2_with fail
              go_roundg m2
              case measure => have := HGM.out; omega
              case rel => exact ⟨m2, i2, at2, _, [], by omega, by omega, rfl, rfl, rfl, ⟨rfl, rfl⟩, HSQ1.out, by omega, HL2.out, HQS.out, HCK.out, hf2⟩
            · have hq2 : ¬ qcap - 1 = 0 := by omega
              have hq3 : ¬ qcap ≤ 1 := by omega
              have hA : Fr [] wr (wr.alloc (.cells #[.string ⟨#[110, 111, 100, 101]⟩, .string ⟨x.toArray⟩, .string ⟨at'.toArray⟩] 9)) := (Fr.refl [] wr).alloc _
              go_wp2_with fail
              refine (of_any _ [nodeB, x, at'] _ (strs_three (heap_new rfl)) (by simp) (fun s hs => ?_) (HT.out.fr (hfr.trans hA (by simp)))).mono ?_
              · rcases List.mem_cons.1 hs with rfl | hs
                · decide
                · rcases List.mem_cons.1 hs with rfl | hs
                  · exact HX.out
                  · rw [List.mem_singleton.1 hs]; exact HAL.out
              rintro e w2 ⟨rfl, hb2⟩
              have hf2 : Fr [] w w2 := (hfr.trans hA (by simp)).below hb2 ((hfr.trans hA (by simp)).size)
              rw [show dlist [nodeB, x, at'] = nodeD x at' from rfl]
              have HL2 : Hid ((nodeD x at').length ≤ 1000000) := Lib.hid (by unfold nodeD; rw [dlist_len]; decide)
              generalize nodeD x at' = at2 at HCK HL2 ⊢
              clear hb2 hA hfr c0
              go_wp2_with fail
              go_roundg m2
              case measure => have := HGM.out; omega
              case rel => exact ⟨m2, i2, at2, _, q, by omega, by omega, rfl, rfl, rfl, ⟨rfl, rfl⟩, HSQ.out, by omega, HL2.out, HQS.out, HCK.out, hf2⟩
      · have t2 : decide ((m : Int) ≤ ((bes i : Nat) : Int)) = true := by simp; omega
        have t2n : decide (m ≤ bes i) = true := by simp; omega
        have HCK := HCK0
        rw [ck_skip h1 hb, ← em2, ← ei2] at HCK
        clear em2 ei2 HCK0
        generalize bes i = bi at hxo t2 t2n
        go_wp2_with fail
        go_roundg m2
        case measure => have := HGM.out; omega
        case rel => exact ⟨m2, i2, at', _, q0, by omega, by omega, rfl, rfl, rfl, ⟨rfl, rfl⟩, HSQ0.out, hql, HAL.out, HQS0.out, HCK.out, hfr⟩
    · have t1 : decide ((1 : Int) < (m : Int)) = false := by simp; omega
      have HCK := HCK0
      rw [ck_end h1] at HCK
      rcases q0 with _ | ⟨x, q⟩
      · rw [if_pos rfl] at HCK
        have HE : Hid ((ckL n0 i0 a0 p == some root) = (at' == root)) := Lib.hid (by rw [← HCK.out]; rfl)
        cases hr : (at' == root) with
        | true =>
          rw [hr] at HE
          go_wp2_with fail
          go_ret
          exact ⟨by rw [← HA0.out, HE.out]; rfl, hfr.toBelow (by simp)⟩
        | false =>
          rw [hr] at HE
          go_wp2_with fail
          go_ret
          exact ⟨by rw [← HA0.out, HE.out]; rfl, hfr.toBelow (by simp)⟩
      · rw [if_neg (by simp)] at HCK
        rw [List.length_cons]
        have t3 : (((q.length + 1 : Nat) : Int) == 0) = false := by rw [beq_eq_false_iff_ne]; omega
        have t3' : ((q.length : Int) + 1 == 0) = false := by rw [beq_eq_false_iff_ne]; omega
        go_wp2_with fail
        go_ret
        exact ⟨by rw [← HA0.out, ← HCK.out]; rfl, hfr.toBelow (by simp)⟩
end Go.Proofs.YtjddngbgbbbefaaGreatDoor
