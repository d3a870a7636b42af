/-
  The reference of layer 4: trees.
  The reference of layer 4: Root, Path, Check, Short.
  The reference of layer 4: Check.
-/
import Derived.Test.YtjddngbgbbbefaaGreatDoorChk
import Derived.Test.YtjddngbgbbbefaaGreatDoorRefA
import Derived.Test.YtjddngbgbbbefaaGreatDoorAppAt
import Derived.BigQuiet
namespace Go.Proofs.YtjddngbgbbbefaaGreatDoor
open Go.RowKit

theorem capN_cap (l : List (List UInt8)) (hn : l.length ≤ 100) (h : ∀ s ∈ l, s.length ≤ 1000000) : capN l ≤ 140737488355328 := by
  have := capN_le l 1000000 h
  have : l.length * (1000000 + 21) ≤ 100 * (1000000 + 21) := Nat.mul_le_mul_right _ hn
  omega
theorem rleaf_any (s : List UInt8) (w : World) (hs : s.length ≤ 1000000) :
    Calls Tryz.prog 98 #[.string ⟨s.toArray⟩] w fun e w' => e = .returned (.string ⟨(leafD s).toArray⟩) ∧ Below w.heap.size w w' := by
  go_enter Tryz.func98, Tryz.ntmps98
  go_wp2_with fail
  refine (rlist_any _ [leafB, s] _ (strs_two (heap_new rfl)) (capN_cap _ (by simp) (fun x hx => ?_))).mono ?_
  · rcases List.mem_cons.1 hx with rfl | hx
    · decide
    · rw [List.mem_singleton.1 hx]; exact hs
  rintro e w1 ⟨rfl, hb⟩
  go_wp2_with fail
  go_ret
  exact ⟨rfl, ((((Fr.refl [] w).alloc _).below hb ((Fr.refl [] w).alloc _).size)).toBelow (by simp)⟩
theorem rnode_any (x y : List UInt8) (w : World) (hx : x.length ≤ 1000000) (hy : y.length ≤ 1000000) :
    Calls Tryz.prog 99 #[.string ⟨x.toArray⟩, .string ⟨y.toArray⟩] w fun e w' => e = .returned (.string ⟨(nodeD x y).toArray⟩) ∧ Below w.heap.size w w' := by
  go_enter Tryz.func99, Tryz.ntmps99
  go_wp2_with fail
  refine (rlist_any _ [nodeB, x, y] _ (strs_three (heap_new rfl)) (capN_cap _ (by simp) (fun s hs => ?_))).mono ?_
  · rcases List.mem_cons.1 hs with rfl | hs
    · decide
    · rcases List.mem_cons.1 hs with rfl | hs
      · exact hx
      · rw [List.mem_singleton.1 hs]; exact hy
  rintro e w1 ⟨rfl, hb⟩
  go_wp2_with fail
  go_ret
  exact ⟨rfl, ((((Fr.refl [] w).alloc _).below hb ((Fr.refl [] w).alloc _).size)).toBelow (by simp)⟩

set_option maxRecDepth 100000 in
set_option maxHeartbeats 2000000 in
theorem rleaves_any (v : Value) (l : List (List UInt8)) (w : World) (hv : Strs w v l) (hn : l.length ≤ 100000) (hl : ∀ s ∈ l, s.length ≤ 1000000) :
    Calls Tryz.prog 66 #[v] w fun e w' => ∃ v', e = .returned v' ∧ OwnS w.heap.size w' v' (l.map leafD) ∧ Below w.heap.size w w' := by
  have HV := Lib.hid hv
  have HLL := Lib.hid hl
  obtain ⟨a, cap, rfl, _, hfa⟩ := hv.form
  clear hv hl
  go_enter Tryz.func66, Tryz.ntmps66
  go_wp2_with fail
  go_loopg [3, 4] (l.length + 1) (fun g ov i wr => ∃ k : Nat, k ≤ l.length ∧ g = l.length + 1 - k ∧ i = .int .i64 (k : Int) ∧ OwnS w.heap.size wr ov ((l.map leafD).take k) ∧ Fr [] w wr)
  case atStart => exact ⟨0, by omega, by omega, rfl, ⟨rfl, Or.inl ⟨rfl, rfl⟩⟩, Fr.refl _ _⟩
  case round =>
    obtain ⟨k, hk, hg, rfl, ho, hfr⟩ := hrel
    have HG := Lib.hid hg
    have HO := Lib.hid ho
    clear hg ho
    by_cases hlt : k < l.length
    · have t1 : decide ((k : Int) < (l.length : Int)) = true := by simp; omega
      obtain ⟨b, off, rfl⟩ := hfa k hlt
      have c0 := hfr.cell (HV.out.cell k hlt) (by simp)
      have HM := Lib.hid (HLL.out _ (getD_mem l k [] hlt))
      have HTK : Hid ((l.map leafD).take (k + 1) = (l.map leafD).take k ++ [leafD (l.getD k [])]) := Lib.hid (by rw [take_snoc' (l.map leafD) k [] (by simpa using hlt)]; simp [List.getD_eq_getElem?_getD, hlt])
      generalize l.getD k [] = s at c0 HM HTK
      have i0 : (0 : Int) ≤ (k : Int) := by omega
      have i1 : (k : Int) < (l.length : Int) := by omega
      go_wp2_with fail
      refine (rleaf_any s wr HM.out).mono ?_
      rintro e w1 ⟨rfl, hb1⟩
      have hf1 : Fr [] w w1 := hfr.below hb1 hfr.size
      have HO1 := Lib.hid (HO.out.fr (Fr.ofBelow (X := []) hb1) (by simp))
      generalize leafD s = ls at HTK ⊢
      clear hb1 c0 hfr
      go_wp2_with (at_builtin; go_loud (refine wpList_appS rfl (.tmp 11) (.tmp 17) rfl w.heap.size _ ((l.map leafD).take k) ls w rfl rfl HO1.out hf1 (Nat.le_refl _) hf1.size (by simp; omega) ?_))
      intro v' w2 g9 c9 hv9 ho2 hf2 _
      have HO2 : Hid (OwnS w.heap.size w2 v' ((l.map leafD).take (k + 1))) := Lib.hid (by rw [HTK.out]; exact ho2)
      clear ho2
      go_wp2_with fail
      go_roundg (l.length + 1 - (k + 1))
      case measure => have := HG.out; omega
      case rel => exact ⟨k + 1, by omega, rfl, by go_num, HO2.out, hf2⟩
    · obtain rfl : k = l.length := by omega
      have t1 : decide ((l.length : Int) < (l.length : Int)) = false := by simp
      have HE : Hid (OwnS w.heap.size wr u3 (l.map leafD)) := Lib.hid (by have := HO.out; rwa [List.take_of_length_le (by simp)] at this)
      go_wp2_with fail
      go_ret
      exact ⟨_, rfl, HE.out, hfr.toBelow (by simp)⟩

set_option maxRecDepth 100000 in
set_option maxHeartbeats 4000000 in
theorem rup_any (v : Value) (l : List (List UInt8)) (w : World) (hv : Strs w v l) (hn : l.length ≤ 100000) (hl : ∀ s ∈ l, s.length ≤ 1000000) :
    Calls Tryz.prog 67 #[v] w fun e w' => ∃ v', e = .returned v' ∧ OwnS w.heap.size w' v' (upL l) ∧ Below w.heap.size w w' := by
  have hmx : Tryz.prog.follows .mixedOrders = true := by kernel_rfl
  have HV := Lib.hid hv
  have HLL := Lib.hid hl
  obtain ⟨a, cap, rfl, _, hfa⟩ := hv.form
  clear hv hl
  go_enter Tryz.func67, Tryz.ntmps67
  go_wp2_with fail
  go_loopg [3, 4] (l.length + 2) (fun g ov i wr => ∃ k i0 : Nat, i0 = 2 * k ∧ i0 ≤ l.length + 1 ∧ g = l.length + 2 - i0 ∧ i = .int .i64 (i0 : Int) ∧ OwnS w.heap.size wr ov ((upL l).take k) ∧ Fr [] w wr)
  case atStart => exact ⟨0, 0, rfl, by omega, by omega, rfl, ⟨rfl, Or.inl ⟨rfl, rfl⟩⟩, Fr.refl _ _⟩
  case round =>
    obtain ⟨k, i, hik, hi, hg, rfl, ho, hfr⟩ := hrel
    have HG := Lib.hid hg
    have HO := Lib.hid ho
    have HIK := Lib.hid hik
    have hku : ((upL l).take k).length ≤ 100000 := by rw [List.length_take, upL_length]; omega
    clear hg ho hik
    by_cases hlt : i < l.length
    · have t1 : decide ((i : Int) < (l.length : Int)) = true := by simp; omega
      obtain ⟨b, off, rfl⟩ := hfa i hlt
      have c0 := hfr.cell (HV.out.cell i hlt) (by simp)
      have HM := Lib.hid (HLL.out _ (getD_mem l i [] hlt))
      have HTK : Hid ((upL l).take (k + 1) = (upL l).take k ++ [if i + 1 < l.length then nodeD (l.getD i []) (l.getD (i + 1) []) else l.getD i []]) := Lib.hid (by
        have := HIK.out
        rw [take_snoc' (upL l) k [] (by rw [upL_length]; omega), upL_at l k (by omega), ← HIK.out])
      have i0 : (0 : Int) ≤ (i : Int) := by omega
      have i1 : (i : Int) < (l.length : Int) := by omega
      have w1 : IntKind.i64.wrap ((i : Int) + 1) = (i : Int) + 1 := IntWalk.i64_in _ (by omega)
      have w2 : IntKind.i64.wrap ((i : Int) + 2) = (i : Int) + 2 := IntWalk.i64_in _ (by omega)
      by_cases h2 : i + 1 < l.length
      · have t2 : decide ((i : Int) + 1 < (l.length : Int)) = true := by simp; omega
        have c1 := hfr.cell (HV.out.cell (i + 1) h2) (by simp)
        have HM2 := Lib.hid (HLL.out _ (getD_mem l (i + 1) [] h2))
        rw [if_pos h2] at HTK
        generalize l.getD i [] = sa at c0 HM HTK
        generalize l.getD (i + 1) [] = sb at c1 HM2 HTK
        have c1' : wr.cell? ⟨b, off + i + 1, none⟩ = some (.string ⟨sb.toArray⟩) := by rw [Nat.add_assoc]; exact c1
        have i2 : (i : Int) + 1 < (l.length : Int) := by omega
        have i3 : (0 : Int) ≤ (i : Int) + 1 := by omega
        have i4 : ((i : Int) + 1).toNat = i + 1 := by omega
        go_wp2_with fail
        have hS0 : wr.drew.cell? ⟨b, off + i, none⟩ = some (.string ⟨sa.toArray⟩) ∧ wr.drew.cell? ⟨b, off + (i + 1), none⟩ = some (.string ⟨sb.toArray⟩) := ⟨c0, c1⟩
        refine region_held 13 (fun W' => W'.cell? ⟨b, off + i, none⟩ = some (.string ⟨sa.toArray⟩) ∧ W'.cell? ⟨b, off + (i + 1), none⟩ = some (.string ⟨sb.toArray⟩)) hmx ?_
        change Held _ _ _ _ _ _ 14 (Array.replicate 14 false) _ _
        refine hd_take 0 (v := u3) rfl (by kernel_rfl) (by kernel_rfl) (by kernel_rfl) rfl hS0 (fun W' hS => by first | (go_simp; done) | (go_simp; intro hix; omega)) rfl ?_
        refine hd_take 1 (v := .slice (some ⟨b, off, none⟩) l.length cap) rfl (by kernel_rfl) (by kernel_rfl) (by kernel_rfl) rfl hS0 (fun W' hS => by first | (go_simp; done) | (go_simp; intro hix; omega)) rfl ?_
        refine hd_take 2 (v := .int .i64 (i : Int)) rfl (by kernel_rfl) (by kernel_rfl) (by kernel_rfl) rfl hS0 (fun W' hS => by first | (go_simp; done) | (go_simp; intro hix; omega)) rfl ?_
        refine hd_take 5 (v := .slice (some ⟨b, off, none⟩) l.length cap) rfl (by kernel_rfl) (by kernel_rfl) (by kernel_rfl) rfl hS0 (fun W' hS => by first | (go_simp; done) | (go_simp; intro hix; omega)) rfl ?_
        refine hd_take 6 (v := .int .i64 (i : Int)) rfl (by kernel_rfl) (by kernel_rfl) (by kernel_rfl) rfl hS0 (fun W' hS => by first | (go_simp; done) | (go_simp; intro hix; omega)) rfl ?_
        simp only [Act.put, List.setIfInBounds_toArray, List.set_cons_zero, List.set_cons_succ]
        refine hd_take 3 (v := .pointer (some ⟨b, off + i, none⟩)) rfl (by kernel_rfl) (by kernel_rfl) (by kernel_rfl) rfl hS0 (fun W' hS => by first | (go_simp; done) | (go_simp; intro hix; omega)) rfl ?_
        refine hd_take 7 (v := .int .i64 ((i : Int) + 1)) rfl (by kernel_rfl) (by kernel_rfl) (by kernel_rfl) rfl hS0 (fun W' hS => by first | (go_simp; done) | (go_simp; intro hix; omega)) rfl ?_
        simp only [Act.put, List.setIfInBounds_toArray, List.set_cons_zero, List.set_cons_succ]
        refine hd_take 4 (v := .string ⟨sa.toArray⟩) rfl (by kernel_rfl) (by kernel_rfl) (by kernel_rfl) rfl hS0 (fun W' hS => by obtain ⟨h0, h1⟩ := hS; first | (go_simp; done) | (go_simp; intro hix; omega)) rfl ?_
        refine hd_take 8 (v := .pointer (some ⟨b, off + (i + 1), none⟩)) rfl (by kernel_rfl) (by kernel_rfl) (by kernel_rfl) rfl hS0 (fun W' hS => by first | (go_simp; done) | (go_simp; intro hix; omega)) rfl ?_
        simp only [Act.put, List.setIfInBounds_toArray, List.set_cons_zero, List.set_cons_succ]
        refine hd_take 9 (v := .string ⟨sb.toArray⟩) rfl (by kernel_rfl) (by kernel_rfl) (by kernel_rfl) rfl hS0 (fun W' hS => by obtain ⟨h0, h1⟩ := hS; first | (go_simp; done) | (go_simp; intro hix; omega)) rfl ?_
        simp only [Act.put, List.setIfInBounds_toArray, List.set_cons_zero, List.set_cons_succ]
        refine hd_one 10 (by kernel_rfl) rfl (by kernel_rfl) rfl (fun K' hK => ?_)
        go_simp
        refine (rnode_any sa sb _ HM.out HM2.out).mono ?_
        rintro e w5 ⟨rfl, hb5⟩
        have hV2 : Fr [] wr w5 := ((Fr.refl [] wr).drew).below hb5 (Nat.le_refl _)
        refine hK.out _ _ (fun _ => ⟨hV2.cell c0 (by simp), hV2.cell c1 (by simp)⟩) ?_
        clear hK K' hb5 hS0
        generalize nodeD sa sb = sc at HTK ⊢
        refine hd_one 11 (by kernel_rfl) rfl (by kernel_rfl) rfl (fun K' hK => ?_)
        go_simp
        have hV3 : Fr [] wr (w5.alloc (.cells #[.string ⟨sc.toArray⟩] 9)) := hV2.alloc _
        refine hK.out _ _ (fun _ => ⟨hV3.cell c0 (by simp), hV3.cell c1 (by simp)⟩) ?_
        clear hK K' hV3
        refine hd_one 12 (by kernel_rfl) rfl (by kernel_rfl) rfl (fun K' hK => ?_)
        refine wp_appS (.tmp 16) (.tmp 27) rfl w.heap.size _ ((upL l).take k) sc w rfl rfl (HO.out.fr hV2 (by simp)) (hfr.trans hV2 (by simp)) (Nat.le_refl _) (hfr.trans hV2 (by simp)).size (by omega) ?_
        intro v' w7 _ ho7 hf7 hg7
        have hbw : b ∉ u3.ownBlock.toList := by
          intro hm
          have h1 := (ownBlock_cells HO.out b (by simpa using hm)).1
          have h2 := World.block_lt_of_cell? _ _ (HV.out.cell i hlt)
          simp only at h2
          omega
        refine hK.out _ _ (fun _ => ⟨hg7.cell (hV2.cell c0 (by simp)) hbw, hg7.cell (hV2.cell c1 (by simp)) hbw⟩) ?_
        clear hK K' hbw
        simp only [Act.put, List.setIfInBounds_toArray, List.set_cons_zero, List.set_cons_succ]
        refine hd_one 13 (by kernel_rfl) rfl (by kernel_rfl) rfl (fun K' hK => ?_)
        go_simp
        refine hK.out _ _ (fun h => absurd rfl h) ?_
        clear hK K'
        refine held_done (by kernel_rfl) ?_
        have HO2 : Hid (OwnS w.heap.size w7 v' ((upL l).take (k + 1))) := Lib.hid (by rw [HTK.out]; exact ho7)
        clear ho7 hg7 c0 c1 c1' hfr hV2
        go_wp2_with fail
        go_roundg (l.length + 2 - (i + 2))
        case measure => have := HG.out; omega
        case rel => exact ⟨k + 1, i + 2, by have := HIK.out; omega, by omega, rfl, by go_num, HO2.out, hf7⟩
      · have t2 : decide ((i : Int) + 1 < (l.length : Int)) = false := by simp; omega
        rw [if_neg h2] at HTK
        generalize l.getD i [] = sa at c0 HM HTK
        go_wp2_with (at_builtin; go_loud (refine wpList_appS rfl (.tmp 29) (.tmp 34) rfl w.heap.size _ ((upL l).take k) sa w rfl rfl HO.out hfr (Nat.le_refl _) hfr.size (by omega) ?_))
        intro v' w2' g9 c9 hv9 ho2 hf2 _
        have HO2 : Hid (OwnS w.heap.size w2' v' ((upL l).take (k + 1))) := Lib.hid (by rw [HTK.out]; exact ho2)
        clear ho2 c0 hfr
        go_wp2_with fail
        go_roundg (l.length + 2 - (i + 2))
        case measure => have := HG.out; omega
        case rel => exact ⟨k + 1, i + 2, by have := HIK.out; omega, by omega, rfl, by go_num, HO2.out, hf2⟩
    · have t1 : decide ((i : Int) < (l.length : Int)) = false := by simp; omega
      have HE : Hid (OwnS w.heap.size wr u3 (upL l)) := Lib.hid (by
        have := HO.out
        have := HIK.out
        rwa [List.take_of_length_le (by rw [upL_length]; omega)] at *)
      go_wp2_with fail
      go_ret
      exact ⟨_, rfl, HE.out, hfr.toBelow (by simp)⟩

end Go.Proofs.YtjddngbgbbbefaaGreatDoor
namespace Go.Proofs.YtjddngbgbbbefaaGreatDoor
open Go.RowKit

theorem up_short {l : List (List UInt8)} (h : ∀ s ∈ l, s.length ≤ 1000000) : ∀ s ∈ upL l, s.length ≤ 1000000 := by
  intro s hs
  rw [upL_map] at hs
  obtain ⟨k, _, rfl⟩ := List.mem_map.1 hs
  unfold chE
  have hk := k.2
  split
  · unfold nodeD; rw [dlist_len]; decide
  · exact h _ (getD_mem _ _ _ (by omega))
theorem leaf_short (l : List (List UInt8)) : ∀ s ∈ l.map leafD, s.length ≤ 1000000 := by
  intro s hs
  obtain ⟨t, _, rfl⟩ := List.mem_map.1 hs
  unfold leafD; rw [dlist_len]; decide
theorem topL_up {l : List (List UInt8)} (h : 1 < l.length) : topL (upL l) = topL l := by rw [topL.eq_def l, if_pos h]
theorem topL_end {l : List (List UInt8)} (h : ¬ 1 < l.length) : topL l = l.getD 0 [] := by rw [topL.eq_def, if_neg h]
theorem pathL_up {l : List (List UInt8)} {i : Nat} (h : 1 < l.length) : pathL l i = (if bes i < l.length then [l.getD (bes i) []] else []) ++ pathL (upL l) (i / 2) := by rw [pathL.eq_def, if_pos h]
theorem pathL_end {l : List (List UInt8)} {i : Nat} (h : ¬ 1 < l.length) : pathL l i = [] := by rw [pathL.eq_def, if_neg h]

set_option maxRecDepth 100000 in
set_option maxHeartbeats 2000000 in
theorem rroot_any (v : Value) (l : List (List UInt8)) (w : World) (hv : Strs w v l) (hn : l.length ≤ 100000) (hl : ∀ s ∈ l, s.length ≤ 1000000) :
    Calls Tryz.prog 22 #[v] w fun e w' => e = .returned (.string ⟨(rootL l).toArray⟩) ∧ Below w.heap.size w w' := by
  have HV := Lib.hid hv
  have HLL := Lib.hid hl
  obtain ⟨a, cap, rfl, _, hfa⟩ := hv.form
  clear hv hl
  by_cases h0 : l.length = 0
  · obtain rfl : l = [] := List.length_eq_zero_iff.1 h0
    have t0 : (((([] : List (List UInt8)).length : Nat) : Int) == 0) = true := by simp
    go_enter Tryz.func22, Tryz.ntmps22
    go_wp2_with fail
    refine (rlist_any _ [noneB] _ (strs_one (heap_new rfl)) (capN_cap _ (by simp) (fun s hs => by rw [List.mem_singleton.1 hs]; decide))).mono ?_
    rintro e w1 ⟨rfl, hb⟩
    go_wp2_with fail
    go_ret
    exact ⟨rfl, ((((Fr.refl [] w).alloc _).below hb ((Fr.refl [] w).alloc _).size)).toBelow (by simp)⟩
  · have t0 : ((l.length : Int) == 0) = false := by rw [beq_eq_false_iff_ne]; omega
    have HRT : Hid (rootL l = topL (l.map leafD)) := Lib.hid (by unfold rootL; rw [if_neg (fun h => h0 (by rw [h]; rfl))])
    go_enter Tryz.func22, Tryz.ntmps22
    go_wp2_with fail
    refine (rleaves_any _ l w HV.out hn HLL.out).mono ?_
    rintro e w1 ⟨v1, rfl, ho1, hb1⟩
    have hf1 : Fr [] w w1 := Fr.ofBelow hb1
    have hn1 : (l.map leafD).length ≤ 100000 := by simpa using hn
    have h01 : 0 < (l.map leafD).length := by simp; omega
    obtain ⟨lv0, elv⟩ : ∃ lv0, lv0 = l.map leafD := ⟨_, rfl⟩
    have hsh := leaf_short l
    rw [← elv] at ho1 hn1 h01 HRT hsh
    have HO1 := Lib.hid ho1.strs
    have HSH := Lib.hid hsh
    clear hb1 elv ho1 hsh
    go_wp2_with fail
    go_loopg [3] (lv0.length + 1) (fun g lvv wr => ∃ lv : List (List UInt8), 0 < lv.length ∧ lv.length ≤ lv0.length ∧ g = lv.length + 1 ∧ Strs wr lvv lv ∧ (∀ s ∈ lv, s.length ≤ 1000000) ∧ topL lv = topL lv0 ∧ Fr [] w wr)
    case atStart => exact ⟨lv0, h01, Nat.le_refl _, rfl, HO1.out, HSH.out, rfl, hf1⟩
    case round =>
      clear hf1 h01
      obtain ⟨lv, h0l, hll, hg, hs, hsl, htop, hfr⟩ := hrel
      have HG := Lib.hid hg
      have HS := Lib.hid hs
      have HSL := Lib.hid hsl
      have HTOP := Lib.hid htop
      obtain ⟨la, lcap, rfl, _, hla⟩ := hs.form
      clear hg hs hsl htop
      by_cases h1 : 1 < lv.length
      · have t1 : decide ((1 : Int) < (lv.length : Int)) = true := by simp; omega
        go_wp2_with fail
        refine (rup_any _ lv wr HS.out (by omega) HSL.out).mono ?_
        rintro e w2 ⟨v2, rfl, ho2, hb2⟩
        have hf2 : Fr [] w w2 := hfr.below hb2 hfr.size
        have HO2 := Lib.hid ho2.strs
        have HUL : Hid ((upL lv).length = (lv.length + 1) / 2) := Lib.hid (upL_length lv)
        have HUS := Lib.hid (up_short HSL.out)
        have HUT := Lib.hid (topL_up h1)
        clear ho2 hb2
        go_wp2_with fail
        go_roundg ((upL lv).length + 1)
        case measure => have := HG.out; have := HUL.out; omega
        case rel => exact ⟨upL lv, by have := HUL.out; omega, by have := HUL.out; omega, rfl, HO2.out, HUS.out, by rw [HUT.out, HTOP.out], hf2⟩
      · have t1 : decide ((1 : Int) < (lv.length : Int)) = false := by simp; omega
        obtain ⟨b, off, rfl⟩ := hla 0 h0l
        have c0 := HS.out.cell 0 h0l
        rw [Nat.add_zero] at c0
        have HE : Hid (rootL l = lv.getD 0 []) := Lib.hid (by rw [HRT.out, ← HTOP.out, topL_end h1])
        have g0 : (0 : Int) < (lv.length : Int) := by omega
        generalize lv.getD 0 [] = s0 at c0 HE
        go_wp2_with fail
        go_ret
        exact ⟨by rw [HE.out]; rfl, hfr.toBelow (by simp)⟩

set_option maxRecDepth 100000 in
set_option maxHeartbeats 4000000 in
theorem rpath_any (v : Value) (l : List (List UInt8)) (i : Int) (w : World) (hv : Strs w v l) (hn : l.length ≤ 100000) (hl : ∀ s ∈ l, s.length ≤ 1000000) :
    Calls Tryz.prog 41 #[v, .int .i64 i] w fun e w' => ∃ v' e', e = .returned (.tuple #[v', .int .i64 e']) ∧ ((i < 0 ∨ (l.length : Int) ≤ i) → v' = .slice none 0 0 ∧ e' = 1) ∧
      (∀ k : Nat, i = (k : Int) → k < l.length → e' = 0 ∧ OwnS w.heap.size w' v' (pathL (l.map leafD) k)) ∧ Below w.heap.size w w' := by
  obtain ⟨a, cap, rfl, hln, hfa⟩ := hv.form
  have HV := Lib.hid hv
  have HLL := Lib.hid hl
  clear hv hl
  by_cases hneg : i < 0
  · have t0 : decide (i < 0) = true := by simpa using hneg
    go_enter Tryz.func41, Tryz.ntmps41
    go_wp2_with fail
    go_ret2
    exact ⟨.slice none 0 0, 1, rfl, by first | exact ⟨rfl, rfl⟩ | exact fun _ => ⟨rfl, rfl⟩, fun k hk => by omega, Below.refl _ _⟩
  have t0 : decide (i < 0) = false := by simpa using hneg
  by_cases hbig : (l.length : Int) ≤ i
  · have t1 : decide ((l.length : Int) ≤ i) = true := by simpa using hbig
    go_enter Tryz.func41, Tryz.ntmps41
    go_wp2_with fail
    go_ret2
    exact ⟨.slice none 0 0, 1, rfl, by first | exact ⟨rfl, rfl⟩ | exact fun _ => ⟨rfl, rfl⟩, fun k hk hk2 => by omega, Below.refl _ _⟩
  have t1 : decide ((l.length : Int) ≤ i) = false := by simpa using hbig
  obtain ⟨k, rfl⟩ : ∃ k : Nat, i = (k : Int) := ⟨i.toNat, by omega⟩
  have hkl : k < l.length := by omega
  go_enter Tryz.func41, Tryz.ntmps41
  go_wp2_with fail
  refine (rleaves_any _ l w HV.out hn HLL.out).mono ?_
  rintro e w1 ⟨v1, rfl, ho1, hb1⟩
  have hf1 : Fr [] w w1 := Fr.ofBelow hb1
  have hn1 : (l.map leafD).length ≤ 100000 := by simpa using hn
  have h01 : k < (l.map leafD).length := by simpa using hkl
  have HLV0 : Hid (pathL (l.map leafD) k = pathL (l.map leafD) k) := Lib.hid rfl
  obtain ⟨lv0, elv⟩ : ∃ lv0, lv0 = l.map leafD := ⟨_, rfl⟩
  have hsh := leaf_short l
  rw [← elv] at ho1 hn1 h01 hsh
  have HO1 := Lib.hid ho1
  have HSH := Lib.hid hsh
  have ELV := Lib.hid elv
  clear hb1 elv ho1 hsh
  go_wp2_with fail
  go_loopg [1, 6, 7] (lv0.length + 1) (fun g iv ov lvv wr => ∃ (j : Nat) (out lv : List (List UInt8)), j < lv.length ∧ lv.length ≤ lv0.length ∧ g = lv.length + 1 ∧ iv = .int .i64 (j : Int) ∧ OwnS w.heap.size wr ov out ∧ OwnS w.heap.size wr lvv lv ∧ Apart ov lvv ∧
    (∀ s ∈ lv, s.length ≤ 1000000) ∧ out ++ pathL lv j = pathL lv0 k ∧ out.length + lv.length ≤ lv0.length ∧ Fr [] w wr)
  case atStart => exact ⟨k, [], lv0, h01, Nat.le_refl _, rfl, rfl, ⟨rfl, Or.inl ⟨rfl, rfl⟩⟩, HO1.out, .nil, HSH.out, rfl, by simp, hf1⟩
  case round =>
    clear hf1 h01 t0 t1 hkl
    obtain ⟨j, out, lv, hj, hll, hg, rfl, hoo, hol, hap, hsl, hpa, hbd, hfr⟩ := hrel
    have HG := Lib.hid hg
    have HOO := Lib.hid hoo
    have HOL := Lib.hid hol
    have HAP := Lib.hid hap
    have HSL := Lib.hid hsl
    have HPA := Lib.hid hpa
    obtain ⟨la, lcap, rfl, _, hla⟩ := hol.strs.form
    clear hg hoo hol hap hsl hpa
    by_cases h1 : 1 < lv.length
    · have t1 : decide ((1 : Int) < (lv.length : Int)) = true := by simp; omega
      obtain ⟨bq, ebq⟩ : ∃ bq, bq = bes j := ⟨_, rfl⟩
      have HPU : Hid (pathL lv j = (if bq < lv.length then [lv.getD bq []] else []) ++ pathL (upL lv) (j / 2)) := Lib.hid (by rw [ebq]; exact pathL_up h1)
      obtain ⟨r, er, er2⟩ : ∃ r : Nat, r = j % 2 ∧ (j : Int).tmod 2 = (r : Int) := ⟨_, rfl, by rw [Int.tmod_eq_emod_of_nonneg (by omega)]; omega⟩
      have er3 : (j : Int) % 2 = (r : Int) := by omega
      have hbj : (j : Int) + 1 - 2 * (r : Int) = (bq : Int) := by rw [ebq]; unfold bes; split <;> omega
      have hr2 : r < 2 := by omega
      have x1 : IntKind.i64.wrap ((j : Int) + 1) = (j : Int) + 1 := IntWalk.i64_in _ (by omega)
      have x2 : IntKind.i64.wrap (2 * (r : Int)) = 2 * (r : Int) := IntWalk.i64_in _ (by omega)
      have x3 : IntKind.i64.wrap (bq : Int) = (bq : Int) := IntWalk.i64_in _ (by omega)
      obtain ⟨j2, ej2, ej3⟩ : ∃ j2 : Nat, j2 = j / 2 ∧ (j : Int) / 2 = (j2 : Int) := ⟨_, rfl, by omega⟩
      rw [← ej2] at HPU
      have HUL : Hid ((upL lv).length = (lv.length + 1) / 2) := Lib.hid (upL_length lv)
      have HUS := Lib.hid (up_short HSL.out)
      have hj2 : j2 < (lv.length + 1) / 2 := by omega
      clear ebq er ej2
      by_cases hb : bq < lv.length
      · have t2 : decide ((bq : Int) < (lv.length : Int)) = true := by simp; omega
        obtain ⟨b, off, rfl⟩ := hla bq hb
        have c0 := HOL.out.strs.cell bq hb
        rw [if_pos hb] at HPU
        generalize lv.getD bq [] = sx at c0 HPU
        have g0 : (0 : Int) ≤ (bq : Int) := by omega
        have g1 : (bq : Int) < (lv.length : Int) := by omega
        go_wp2_with (at_builtin; go_loud (refine wpList_appSa rfl (.tmp 32) (.tmp 37) rfl w.heap.size _ out sx w rfl rfl HOO.out hfr (Nat.le_refl _) hfr.size (by omega) ?_))
        intro v' w2 ho2 hf2 hg2 hat2
        have HO2 := Lib.hid ho2
        have HOL2 := Lib.hid (HOL.out.fr hg2 HAP.out.notin)
        have HAP2 := Lib.hid (HAP.out.step hat2 HOL.out.lt)
        clear ho2 hg2 hat2 c0 hfr
        go_wp2_with fail
        refine (rup_any _ lv w2 HOL2.out.strs (by omega) HSL.out).mono ?_
        rintro e w3 ⟨v3, rfl, ho3, hb3⟩
        have hf3 : Fr [] w w3 := hf2.below hb3 hf2.size
        have HO3 := Lib.hid (ho3.mono hf2.size)
        have HOX := Lib.hid (HO2.out.fr (Fr.ofBelow (X := []) hb3) (by simp))
        have HAPX : Hid (Apart v' v3) := Lib.hid (fun m hm hm3 => by
          have h1 := HO2.out.lt m hm
          have h2 := (ownBlock_cells ho3 m hm3).1
          omega)
        clear ho3 hb3 hf2
        go_wp2_with fail
        go_roundg ((upL lv).length + 1)
        case measure => have := HG.out; have := HUL.out; omega
        case rel => exact ⟨j2, out ++ [sx], upL lv, by have := HUL.out; omega, by have := HUL.out; omega, rfl, rfl, HOX.out, HO3.out, HAPX.out, HUS.out, by rw [← HPA.out, HPU.out, List.append_assoc], by have := HUL.out; rw [List.length_append]; simp; omega, hf3⟩
      · have t2 : decide ((bq : Int) < (lv.length : Int)) = false := by simp; omega
        rw [if_neg hb, List.nil_append] at HPU
        go_wp2_with fail
        refine (rup_any _ lv wr HOL.out.strs (by omega) HSL.out).mono ?_
        rintro e w3 ⟨v3, rfl, ho3, hb3⟩
        have hf3 : Fr [] w w3 := hfr.below hb3 hfr.size
        have HO3 := Lib.hid (ho3.mono hfr.size)
        have HOX := Lib.hid (HOO.out.fr (Fr.ofBelow (X := []) hb3) (by simp))
        have HAPX : Hid (Apart u6 v3) := Lib.hid (fun m hm hm3 => by
          have h1 := HOO.out.lt m hm
          have h2 := (ownBlock_cells ho3 m hm3).1
          omega)
        clear ho3 hb3 hfr
        go_wp2_with fail
        go_roundg ((upL lv).length + 1)
        case measure => have := HG.out; have := HUL.out; omega
        case rel => exact ⟨j2, out, upL lv, by have := HUL.out; omega, by have := HUL.out; omega, rfl, rfl, HOX.out, HO3.out, HAPX.out, HUS.out, by rw [← HPA.out, HPU.out], by have := HUL.out; omega, hf3⟩
    · have t1 : decide ((1 : Int) < (lv.length : Int)) = false := by simp; omega
      have HE : Hid (out = pathL lv0 k) := Lib.hid (by rw [← HPA.out, pathL_end h1, List.append_nil])
      go_wp2_with fail
      go_ret2
      refine ⟨_, 0, rfl, fun h => absurd h (by omega), fun m hm hm2 => ?_, hfr.toBelow (by simp)⟩
      obtain rfl : k = m := by omega
      exact ⟨rfl, by rw [← ELV.out, ← HE.out]; exact HOO.out⟩

/-- At most m texts of at most 200 bytes. -/
def shortB (l : List (List UInt8)) (m : Nat) : Bool := l.all (fun s => decide (s.length ≤ 200)) && decide (l.length ≤ m)
theorem shortB_all {l : List (List UInt8)} {m : Nat} (h : shortB l m = true) : (∀ s ∈ l, s.length ≤ 200) ∧ l.length ≤ m := by
  simp only [shortB, Bool.and_eq_true, decide_eq_true_eq, List.all_eq_true] at h
  exact h
end Go.Proofs.YtjddngbgbbbefaaGreatDoor
namespace Go.Proofs.YtjddngbgbbbefaaGreatDoor
open Go.RowKit

set_option maxRecDepth 100000 in
set_option maxHeartbeats 8000000 in
theorem rcheck_any (root leaf : List UInt8) (n i : Int) (pv : Value) (p : List (List UInt8)) (w : World) (hn : -9223372036854775808 ≤ n ∧ n < 9223372036854775808) (hi : -9223372036854775808 ≤ i ∧ i < 9223372036854775808)
    (hp : Strs w pv p) (hl : leaf.length ≤ 1000000) (hps : ∀ s ∈ p, s.length ≤ 1000000) :
    Calls Tryz.prog 58 #[.string ⟨root.toArray⟩, .int .i64 n, .int .i64 i, .string ⟨leaf.toArray⟩, pv] w fun e w' => e = .returned (.bool (chkB root n i leaf p)) ∧ Below w.heap.size w w' := by
  have HP := Lib.hid hp
  have HPS := Lib.hid hps
  obtain ⟨pa, pcap, rfl, hp9, hpa⟩ := hp.form
  clear hp hps
  by_cases h1 : n < 1
  · have t0 : decide (n < 1) = true := by simpa using h1
    have HC : Hid (chkB root n i leaf p = false) := Lib.hid (by unfold chkB; rw [decide_eq_false (by omega)]; rfl)
    rw [HC.out]
    go_enter Tryz.func58, Tryz.ntmps58
    go_wp2_with fail
    go_ret
    exact ⟨rfl, Below.refl _ _⟩
  have t0 : decide (n < 1) = false := by simpa using h1
  by_cases h2 : i < 0
  · have t1 : decide (i < 0) = true := by simpa using h2
    have HC : Hid (chkB root n i leaf p = false) := Lib.hid (by unfold chkB; rw [decide_eq_false (by omega)]; rfl)
    rw [HC.out]
    go_enter Tryz.func58, Tryz.ntmps58
    go_wp2_with fail
    go_ret
    exact ⟨rfl, Below.refl _ _⟩
  have t1 : decide (i < 0) = false := by simpa using h2
  by_cases h3 : n ≤ i
  · have t2 : decide (n ≤ i) = true := by simpa using h3
    have HC : Hid (chkB root n i leaf p = false) := Lib.hid (by unfold chkB; rw [decide_eq_false (by omega)]; rfl)
    rw [HC.out]
    go_enter Tryz.func58, Tryz.ntmps58
    go_wp2_with fail
    go_ret
    exact ⟨rfl, Below.refl _ _⟩
  have t2 : decide (n ≤ i) = false := by simpa using h3
  obtain ⟨n0, rfl⟩ : ∃ n0 : Nat, n = (n0 : Int) := ⟨n.toNat, by omega⟩
  obtain ⟨i0, rfl⟩ : ∃ i0 : Nat, i = (i0 : Int) := ⟨i.toNat, by omega⟩
  have HC : Hid (chkB root (n0 : Int) (i0 : Int) leaf p = (ckL n0 i0 (leafD leaf) p == some root)) := Lib.hid (by unfold chkB; rw [decide_eq_true (by omega)]; rfl)
  rw [HC.out]
  have hin : i0 < n0 := by omega
  have hn9 : n0 < 9223372036854775808 := by omega
  clear h1 h2 h3 HC hi hn
  go_enter Tryz.func58, Tryz.ntmps58
  go_wp2_with fail
  refine (rleaf_any leaf w hl).mono ?_
  rintro e w1 ⟨rfl, hb1⟩
  have hf1 : Fr [] w w1 := Fr.ofBelow hb1
  have HLL : Hid ((leafD leaf).length = 16) := Lib.hid (dlist_len _)
  clear hb1
  obtain ⟨a0, ea0⟩ : ∃ a0, a0 = leafD leaf := ⟨_, rfl⟩
  rw [← ea0] at HLL ⊢
  have HA0 := Lib.hid ea0
  clear ea0
  go_wp2_with fail
  go_loopg [1, 2, 11, 12] n0 (fun gh nv iv av uv wr => ∃ (m i u : Nat) (at' : List UInt8), i < m ∧ m ≤ n0 ∧ gh = m ∧ nv = .int .i64 (m : Int) ∧ iv = .int .i64 (i : Int) ∧ uv = .int .i64 (u : Int) ∧ av = .string ⟨at'.toArray⟩ ∧ u ≤ p.length ∧ at'.length ≤ 1000000 ∧ ckL m i at' (p.drop u) = ckL n0 i0 a0 p ∧ Fr [] w wr)
  case atStart => exact ⟨n0, i0, 0, a0, hin, Nat.le_refl _, rfl, rfl, rfl, rfl, rfl, by omega, by rw [HLL.out]; decide, rfl, hf1⟩
  case round =>
    clear t0 t1 t2 hf1 hin
    obtain ⟨m, i, u, at', him, hmn, hgm, rfl, rfl, rfl, rfl, hup, hal, hck, hfr⟩ := hrel
    have HGM := Lib.hid hgm
    have HAL := Lib.hid hal
    have HCK0 := Lib.hid hck
    clear hgm hal hck
    by_cases h1 : 1 < m
    · have t1 : decide ((1 : Int) < (m : Int)) = true := by simp; omega
      obtain ⟨m2, em2, em3⟩ : ∃ m2 : Nat, m2 = m - m / 2 ∧ (m : Int) - (m : Int) / 2 = (m2 : Int) := ⟨_, rfl, by omega⟩
      obtain ⟨i2, ei2, ei3⟩ : ∃ i2 : Nat, i2 = i / 2 ∧ (i : Int) / 2 = (i2 : Int) := ⟨_, rfl, by omega⟩
      obtain ⟨r, er, er2⟩ : ∃ r : Nat, r = i % 2 ∧ (i : Int).tmod 2 = (r : Int) := ⟨_, rfl, by rw [Int.tmod_eq_emod_of_nonneg (by omega)]; omega⟩
      have er3 : (i : Int) % 2 = (r : Int) := by omega
      obtain ⟨bq, ebq⟩ : ∃ bq, bq = bes i := ⟨_, rfl⟩
      have hbj : (i : Int) + 1 - 2 * (r : Int) = (bq : Int) := by rw [ebq]; unfold bes; split <;> omega
      have hgt : i % 2 = 0 ↔ i < bq := by rw [ebq]; unfold bes; split <;> omega
      have hr2 : r < 2 := by omega
      have hb9 : bq ≤ i + 1 := by rw [ebq]; exact bes_le i
      have x1 : IntKind.i64.wrap ((i : Int) + 1) = (i : Int) + 1 := IntWalk.i64_in _ (by omega)
      have x2 : IntKind.i64.wrap (2 * (r : Int)) = 2 * (r : Int) := IntWalk.i64_in _ (by omega)
      have x3 : IntKind.i64.wrap (bq : Int) = (bq : Int) := IntWalk.i64_in _ (by omega)
      have w1 : IntKind.i64.wrap (m2 : Int) = (m2 : Int) := IntWalk.i64_in _ (by omega)
      have hm2 : m2 < m := by omega
      have hi2 : i2 < m2 := by omega
      have HSK := Lib.hid (fun h => ck_skip (a := at') (p := p.drop u) h1 (i := i) h)
      have HNI := Lib.hid (fun h => ck_nil (a := at') h1 (i := i) h)
      have HCO := Lib.hid (fun x q h => ck_cons (a := at') (x := x) (p := q) h1 (i := i) h)
      have HGT := Lib.hid hgt
      rw [← em2, ← ei2, ← ebq] at HSK
      rw [← ebq] at HNI
      simp only [← em2, ← ei2, ← ebq] at HCO
      clear em2 ei2 ebq er hgt
      by_cases hb : bq < m
      · have t2 : decide ((bq : Int) < (m : Int)) = true := by simp; omega
        by_cases hu : u = p.length
        · subst hu
          have t3 : ((p.length : Int) == (p.length : Int)) = true := by simp
          have HR : Hid (ckL n0 i0 a0 p = none) := Lib.hid (by rw [← HCK0.out, List.drop_length]; exact HNI.out hb)
          go_wp2_with fail
          go_ret
          exact ⟨by rw [← HA0.out, HR.out]; rfl, hfr.toBelow (by simp)⟩
        · have hul : u < p.length := by omega
          have t3 : ((u : Int) == (p.length : Int)) = false := by rw [beq_eq_false_iff_ne]; omega
          obtain ⟨b, off, rfl⟩ := hpa u hul
          have c0 := hfr.cell (HP.out.cell u hul) (by simp)
          have HX := Lib.hid (HPS.out _ (getD_mem p u [] hul))
          have HCK := HCK0
          have HDR : Hid (p.drop u = p.getD u [] :: p.drop (u + 1)) := Lib.hid (by rw [List.drop_eq_getElem_cons hul, List.getD_eq_getElem?_getD, List.getElem?_eq_getElem hul]; rfl)
          rw [HDR.out, HCO.out _ _ hb] at HCK
          generalize p.getD u [] = x at c0 HX HCK HDR
          have g0 : (0 : Int) ≤ (u : Int) := by omega
          have g1 : (u : Int) < (p.length : Int) := by omega
          clear HCK0 HSK HNI HCO HDR
          by_cases he : i % 2 = 0
          · have t4 : decide ((i : Int) < (bq : Int)) = true := by have := HGT.out.1 he; simp; omega
            rw [if_pos he] at HCK
            go_wp2_with fail
            refine (rnode_any at' x _ HAL.out HX.out).mono ?_
            rintro e w2 ⟨rfl, hb2⟩
            have hf2 : Fr [] w w2 := hfr.below hb2 hfr.size
            have HL2 : Hid ((nodeD at' x).length ≤ 1000000) := Lib.hid (by unfold nodeD; rw [dlist_len]; decide)
            generalize nodeD at' x = at2 at HCK HL2 ⊢
            clear hb2 hfr c0
            go_wp2_with fail
            go_roundg m2
            case measure => have := HGM.out; omega
            case rel => exact ⟨m2, i2, u + 1, at2, by omega, by omega, rfl, rfl, rfl, by go_num, rfl, by omega, HL2.out, HCK.out, hf2⟩
          · have t4 : decide ((i : Int) < (bq : Int)) = false := by
              have h5 : ¬ i < bq := fun h => he (HGT.out.2 h)
              simp; omega
            rw [if_neg he] at HCK
            go_wp2_with fail
            refine (rnode_any x at' _ HX.out HAL.out).mono ?_
            rintro e w2 ⟨rfl, hb2⟩
            have hf2 : Fr [] w w2 := hfr.below hb2 hfr.size
            have HL2 : Hid ((nodeD x at').length ≤ 1000000) := Lib.hid (by unfold nodeD; rw [dlist_len]; decide)
            generalize nodeD x at' = at2 at HCK HL2 ⊢
            clear hb2 hfr c0
            go_wp2_with fail
            go_roundg m2
            case measure => have := HGM.out; omega
            case rel => exact ⟨m2, i2, u + 1, at2, by omega, by omega, rfl, rfl, rfl, by go_num, rfl, by omega, HL2.out, HCK.out, hf2⟩
      · have t2 : decide ((bq : Int) < (m : Int)) = false := by simp; omega
        have HCK := HCK0
        rw [HSK.out hb] at HCK
        go_wp2_with fail
        go_roundg m2
        case measure => have := HGM.out; omega
        case rel => exact ⟨m2, i2, u, at', by omega, by omega, rfl, rfl, rfl, rfl, rfl, hup, HAL.out, HCK.out, hfr⟩
    · have t1 : decide ((1 : Int) < (m : Int)) = false := by simp; omega
      have HCK := HCK0
      rw [ck_end h1] at HCK
      by_cases hu : u = p.length
      · subst hu
        have t3 : ((p.length : Int) == (p.length : Int)) = true := by simp
        rw [List.drop_length, if_pos rfl] at HCK
        have HE : Hid ((ckL n0 i0 a0 p == some root) = (at' == root)) := Lib.hid (by rw [← HCK.out]; rfl)
        cases hr : (at' == root) with
        | true =>
          rw [hr] at HE
          go_wp2_with fail
          go_ret
          exact ⟨by rw [← HA0.out, HE.out]; rfl, hfr.toBelow (by simp)⟩
        | false =>
          rw [hr] at HE
          go_wp2_with fail
          go_ret
          exact ⟨by rw [← HA0.out, HE.out]; rfl, hfr.toBelow (by simp)⟩
      · have t3 : ((u : Int) == (p.length : Int)) = false := by rw [beq_eq_false_iff_ne]; omega
        rw [if_neg (fun h => hu (by have := congrArg List.length h; rw [List.length_drop, List.length_nil] at this; omega))] at HCK
        go_wp2_with fail
        go_ret
        exact ⟨by rw [← HA0.out, ← HCK.out]; rfl, hfr.toBelow (by simp)⟩
end Go.Proofs.YtjddngbgbbbefaaGreatDoor
