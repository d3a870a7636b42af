/-
  foyerlaw19: DrawCommits.
-/
import Derived.Test.YtnbpajcecjpfpaaDoorDrD
namespace Go.Proofs.YtnbpajcecjpfpaaDoor
open Go.RowKit

set_option maxRecDepth 100000 in
set_option maxHeartbeats 1000000 in
theorem collide_any (av bv : Value) (la lb : List (List UInt8)) (w : World) (ha : Strs w av la) (hb : Strs w bv lb) (hla : (joinL la).length ≤ 140737488355328) (hlb : (joinL lb).length ≤ 140737488355328) (hT : Tabs w) :
    Calls Tryd.prog 18 #[av, bv] w fun e w' => e = .returned (.bool (!decide (la = lb) && (dlist la == dlist lb))) ∧ Below w.heap.size w w' := by
  have HA := Lib.hid ha
  have HB := Lib.hid hb
  have HT := Lib.hid hT
  clear ha hb hT
  cases hs : decide (la = lb) with
  | true =>
    have HS := Lib.hid hs
    clear hs
    go_enter Tryd.func18, Tryd.ntmps18
    go_wp2_with fail
    refine (rsame2_any av bv la lb w HA.out HB.out).mono ?_
    rintro e w1 ⟨rfl, hb1⟩
    rw [HS.out]
    go_wp2_with fail
    go_ret
    exact ⟨rfl, hb1⟩
  | false =>
    have HS := Lib.hid hs
    clear hs
    go_enter Tryd.func18, Tryd.ntmps18
    go_wp2_with fail
    refine (rsame2_any av bv la lb w HA.out HB.out).mono ?_
    rintro e w1 ⟨rfl, hb1⟩
    rw [HS.out]
    have hf1 : Fr [] w w1 := Fr.ofBelow hb1
    go_wp2_with fail
    refine (list_any av la w1 (HA.out.fr0 hf1) hla (HT.out.fr hf1)).mono ?_
    rintro e w2 ⟨rfl, hb2⟩
    have hf2 : Fr [] w w2 := hf1.below hb2 hf1.size
    go_wp2_with fail
    refine (list_any bv lb w2 (HB.out.fr0 hf2) hlb (HT.out.fr hf2)).mono ?_
    rintro e w3 ⟨rfl, hb3⟩
    have hf3 : Fr [] w w3 := hf2.below hb3 hf2.size
    go_wp2_with fail
    go_ret
    exact ⟨rfl, hf3.toBelow (by simp)⟩

set_option maxRecDepth 100000 in
set_option maxHeartbeats 2000000 in
theorem drawCommits_any (n r o : List UInt8) (w : World) (hT : Tabs w) :
    Calls Tryd.prog 6 #[.string ⟨n.toArray⟩, .string ⟨r.toArray⟩, .string ⟨o.toArray⟩] w fun e w' => e = .returned (.bool true) ∧ Below w.heap.size w w' := by
  have hmx : Tryd.prog.follows .mixedOrders = true := by kernel_rfl
  have HT := Lib.hid hT
  clear hT
  go_enter Tryd.func6, Tryd.ntmps6
  go_wp2_with fail
  refine (head19_any w HT.out).mono ?_
  rintro e w1 ⟨rfl, hb1⟩
  have hf1 : Fr [] w w1 := (Fr.refl [] w).below hb1 (Nat.le_refl _)
  by_cases hsh : n.length ≤ 200 ∧ r.length ≤ 200 ∧ o.length ≤ 200
  · obtain ⟨hn, hr, ho⟩ := hsh
    have t1 : decide ((200 : Int) < (n.length : Int)) = false := by simp; omega
    have t2 : decide ((200 : Int) < (r.length : Int)) = false := by simp; omega
    have t3 : decide ((200 : Int) < (o.length : Int)) = false := by simp; omega
    have J1 := Lib.hid (two_join n r (by omega) (by omega))
    have J2 := Lib.hid (two_join n o (by omega) (by omega))
    have J3 := Lib.hid (two_join o r (by omega) (by omega))
    go_wp2_with fail
    refine (list_any _ [n, r] _ (strs_two (heap_new rfl)) J1.out (HT.out.fr (hf1.alloc _))).mono ?_
    rintro e w2 ⟨rfl, hb2⟩
    have hf2 : Fr [] w w2 := (hf1.alloc _).below hb2 (hf1.alloc _).size
    obtain ⟨C, hC⟩ : ∃ C, C = dlist [n, r] := ⟨_, rfl⟩
    rw [← hC]
    have HC := Lib.hid hC
    clear hC hb1 hb2 hf1
    go_wp2_with fail
    have r2 : (((w2.alloc (.cells #[.string ⟨n.toArray⟩, .string ⟨C.toArray⟩, .string ⟨r.toArray⟩] 27)).alloc (.cells #[.string ⟨n.toArray⟩, .string ⟨C.toArray⟩, .string ⟨o.toArray⟩] 27)).alloc (.cells #[.string ⟨o.toArray⟩, .string ⟨C.toArray⟩, .string ⟨r.toArray⟩] 27)).heap[w2.heap.size + 1]? = _ := heap_past _ (heap_new (by simp))
    have r3 : (((w2.alloc (.cells #[.string ⟨n.toArray⟩, .string ⟨C.toArray⟩, .string ⟨r.toArray⟩] 27)).alloc (.cells #[.string ⟨n.toArray⟩, .string ⟨C.toArray⟩, .string ⟨o.toArray⟩] 27)).alloc (.cells #[.string ⟨o.toArray⟩, .string ⟨C.toArray⟩, .string ⟨r.toArray⟩] 27)).heap[w2.heap.size + 1 + 1]? = _ := heap_new (by simp)
    have hfu : Fr [] w (((w2.alloc (.cells #[.string ⟨n.toArray⟩, .string ⟨C.toArray⟩, .string ⟨r.toArray⟩] 27)).alloc (.cells #[.string ⟨n.toArray⟩, .string ⟨C.toArray⟩, .string ⟨o.toArray⟩] 27)).alloc (.cells #[.string ⟨o.toArray⟩, .string ⟨C.toArray⟩, .string ⟨r.toArray⟩] 27)) := ((hf2.alloc _).alloc _).alloc _
    generalize ((w2.alloc (.cells #[.string ⟨n.toArray⟩, .string ⟨C.toArray⟩, .string ⟨r.toArray⟩] 27)).alloc (.cells #[.string ⟨n.toArray⟩, .string ⟨C.toArray⟩, .string ⟨o.toArray⟩] 27)).alloc (.cells #[.string ⟨o.toArray⟩, .string ⟨C.toArray⟩, .string ⟨r.toArray⟩] 27) = u at r2 r3 hfu ⊢
    generalize w2.heap.size + 1 + 1 = b3 at r3 ⊢
    generalize w2.heap.size + 1 = b2 at r2 ⊢
    have kb0 : u.cell? ⟨b2, 0, none⟩ = some (.string ⟨n.toArray⟩) := by rw [row_cell r2 0]; rfl
    have kb1 : u.cell? ⟨b2, 1, none⟩ = some (.string ⟨C.toArray⟩) := by rw [row_cell r2 1]; rfl
    have kb2 : u.cell? ⟨b2, 2, none⟩ = some (.string ⟨o.toArray⟩) := by rw [row_cell r2 2]; rfl
    have kc0 : u.cell? ⟨b3, 0, none⟩ = some (.string ⟨o.toArray⟩) := by rw [row_cell r3 0]; rfl
    have kc1 : u.cell? ⟨b3, 1, none⟩ = some (.string ⟨C.toArray⟩) := by rw [row_cell r3 1]; rfl
    have kc2 : u.cell? ⟨b3, 2, none⟩ = some (.string ⟨r.toArray⟩) := by rw [row_cell r3 2]; rfl
    clear r2 r3 hf2
    have HRA : Hid (rightB ⟨n, C, r⟩ = true) := Lib.hid (by rw [HC.out]; simp [rightB])
    refine (right_any ⟨n, C, r⟩ u (by show n.length ≤ _; omega) (by show r.length ≤ _; omega) (HT.out.fr hfu)).mono ?_
    rintro e w3 ⟨rfl, hb3⟩
    rw [HRA.out]
    have hu3 : Fr [] u w3 := Fr.ofBelow hb3
    replace kb0 := hu3.cell kb0 (by simp)
    replace kb1 := hu3.cell kb1 (by simp)
    replace kb2 := hu3.cell kb2 (by simp)
    replace kc0 := hu3.cell kc0 (by simp)
    replace kc1 := hu3.cell kc1 (by simp)
    replace kc2 := hu3.cell kc2 (by simp)
    have hf3 : Fr [] w w3 := hfu.trans hu3 (by simp)
    clear hu3 hfu hb3
    go_wp2_with fail
    refine (right_any ⟨n, C, o⟩ w3 (by show n.length ≤ _; omega) (by show o.length ≤ _; omega) (HT.out.fr hf3)).mono ?_
    rintro e w4 ⟨rfl, hb4⟩
    have hu4 : Fr [] w3 w4 := Fr.ofBelow hb4
    replace kc0 := hu4.cell kc0 (by simp)
    replace kc1 := hu4.cell kc1 (by simp)
    replace kc2 := hu4.cell kc2 (by simp)
    have hf4 : Fr [] w w4 := hf3.trans hu4 (by simp)
    clear hu4 hf3 hb4 kb0 kb1 kb2
    cases hq : rightB ⟨n, C, o⟩ with
    | false =>
      have hfz := hf4
      clear hq hf4
      go_wp2_with fail
      refine (right_any ⟨o, C, r⟩ w4 (by show o.length ≤ _; omega) (by show r.length ≤ _; omega) (HT.out.fr hfz)).mono ?_
      rintro e wa ⟨rfl, hba⟩
      have hfa : Fr [] w wa := hfz.below hba hfz.size
      clear hba hfz kc0 kc1 kc2
      cases hs : rightB ⟨o, C, r⟩ with
      | false =>
        clear hs
        go_wp2_with fail
        go_ret
        exact ⟨rfl, hfa.toBelow (by simp)⟩
      | true =>
        have hs2 : C = dlist [o, r] := by simpa [rightB] using hs
        by_cases hon : o = n
        · have t5 : (o == n) = true := by simp [hon]
          have t5' : (o != n) = false := by simp [hon]
          clear hs hs2 hon
          go_wp2_with fail
          go_ret
          exact ⟨rfl, hfa.toBelow (by simp)⟩
        · have t5 : (o == n) = false := by simpa using hon
          have t5' : (o != n) = true := by simpa using hon
          have HV : Hid ((!decide ([n, r] = [o, r]) && (dlist [n, r] == dlist [o, r])) = true) := Lib.hid (by
            rw [← HC.out, ← hs2]; simp; exact fun h => hon h.symm)
          clear hs hs2 hon
          go_wp2_with fail
          have z1 : Strs ((wa.alloc (.cells #[.string ⟨n.toArray⟩, .string ⟨r.toArray⟩] 9)).alloc (.cells #[.string ⟨o.toArray⟩, .string ⟨r.toArray⟩] 9)) (.slice (some ⟨wa.heap.size, 0, none⟩) 2 2) [n, r] := strs_two (heap_past _ (heap_new rfl))
          have z2 : Strs ((wa.alloc (.cells #[.string ⟨n.toArray⟩, .string ⟨r.toArray⟩] 9)).alloc (.cells #[.string ⟨o.toArray⟩, .string ⟨r.toArray⟩] 9)) (.slice (some ⟨wa.heap.size + 1, 0, none⟩) 2 2) [o, r] := strs_two (heap_new (by simp))
          have z3 : Fr [] wa ((wa.alloc (.cells #[.string ⟨n.toArray⟩, .string ⟨r.toArray⟩] 9)).alloc (.cells #[.string ⟨o.toArray⟩, .string ⟨r.toArray⟩] 9)) := ((Fr.refl [] wa).alloc _).alloc _
          generalize (wa.alloc (.cells #[.string ⟨n.toArray⟩, .string ⟨r.toArray⟩] 9)).alloc (.cells #[.string ⟨o.toArray⟩, .string ⟨r.toArray⟩] 9) = uu at z1 z2 z3 ⊢
          refine (collide_any _ _ [n, r] [o, r] uu z1 z2 J1.out J3.out (HT.out.fr (hfa.trans z3 (by simp)))).mono ?_
          rintro e wb ⟨rfl, hbb⟩
          rw [HV.out]
          have hfb : Fr [] w wb := (hfa.trans z3 (by simp)).below hbb (hfa.trans z3 (by simp)).size
          go_wp2_with fail
          go_ret
          exact ⟨rfl, hfb.toBelow (by simp)⟩
    | true =>
      have hq2 : C = dlist [n, o] := by simpa [rightB] using hq
      by_cases hor : o = r
      · have t4 : (o == r) = true := by simp [hor]
        have t4' : (o != r) = false := by simp [hor]
        have hfz := hf4
        clear hq hq2 hor hf4
        go_wp2_with fail
        refine (right_any ⟨o, C, r⟩ w4 (by show o.length ≤ _; omega) (by show r.length ≤ _; omega) (HT.out.fr hfz)).mono ?_
        rintro e wa ⟨rfl, hba⟩
        have hfa : Fr [] w wa := hfz.below hba hfz.size
        clear hba hfz kc0 kc1 kc2
        cases hs : rightB ⟨o, C, r⟩ with
        | false =>
          clear hs
          go_wp2_with fail
          go_ret
          exact ⟨rfl, hfa.toBelow (by simp)⟩
        | true =>
          have hs2 : C = dlist [o, r] := by simpa [rightB] using hs
          by_cases hon : o = n
          · have t5 : (o == n) = true := by simp [hon]
            have t5' : (o != n) = false := by simp [hon]
            clear hs hs2 hon
            go_wp2_with fail
            go_ret
            exact ⟨rfl, hfa.toBelow (by simp)⟩
          · have t5 : (o == n) = false := by simpa using hon
            have t5' : (o != n) = true := by simpa using hon
            have HV : Hid ((!decide ([n, r] = [o, r]) && (dlist [n, r] == dlist [o, r])) = true) := Lib.hid (by
              rw [← HC.out, ← hs2]; simp; exact fun h => hon h.symm)
            clear hs hs2 hon
            go_wp2_with fail
            have z1 : Strs ((wa.alloc (.cells #[.string ⟨n.toArray⟩, .string ⟨r.toArray⟩] 9)).alloc (.cells #[.string ⟨o.toArray⟩, .string ⟨r.toArray⟩] 9)) (.slice (some ⟨wa.heap.size, 0, none⟩) 2 2) [n, r] := strs_two (heap_past _ (heap_new rfl))
            have z2 : Strs ((wa.alloc (.cells #[.string ⟨n.toArray⟩, .string ⟨r.toArray⟩] 9)).alloc (.cells #[.string ⟨o.toArray⟩, .string ⟨r.toArray⟩] 9)) (.slice (some ⟨wa.heap.size + 1, 0, none⟩) 2 2) [o, r] := strs_two (heap_new (by simp))
            have z3 : Fr [] wa ((wa.alloc (.cells #[.string ⟨n.toArray⟩, .string ⟨r.toArray⟩] 9)).alloc (.cells #[.string ⟨o.toArray⟩, .string ⟨r.toArray⟩] 9)) := ((Fr.refl [] wa).alloc _).alloc _
            generalize (wa.alloc (.cells #[.string ⟨n.toArray⟩, .string ⟨r.toArray⟩] 9)).alloc (.cells #[.string ⟨o.toArray⟩, .string ⟨r.toArray⟩] 9) = uu at z1 z2 z3 ⊢
            refine (collide_any _ _ [n, r] [o, r] uu z1 z2 J1.out J3.out (HT.out.fr (hfa.trans z3 (by simp)))).mono ?_
            rintro e wb ⟨rfl, hbb⟩
            rw [HV.out]
            have hfb : Fr [] w wb := (hfa.trans z3 (by simp)).below hbb (hfa.trans z3 (by simp)).size
            go_wp2_with fail
            go_ret
            exact ⟨rfl, hfb.toBelow (by simp)⟩
      · have t4 : (o == r) = false := by simpa using hor
        have t4' : (o != r) = true := by simpa using hor
        have HV1 : Hid ((!decide ([n, r] = [n, o]) && (dlist [n, r] == dlist [n, o])) = true) := Lib.hid (by
          rw [← HC.out, ← hq2]; simp; exact fun h => hor h.symm)
        clear hq hq2 hor
        go_wp2_with fail
        have z1 : Strs ((w4.alloc (.cells #[.string ⟨n.toArray⟩, .string ⟨r.toArray⟩] 9)).alloc (.cells #[.string ⟨n.toArray⟩, .string ⟨o.toArray⟩] 9)) (.slice (some ⟨w4.heap.size, 0, none⟩) 2 2) [n, r] := strs_two (heap_past _ (heap_new rfl))
        have z2 : Strs ((w4.alloc (.cells #[.string ⟨n.toArray⟩, .string ⟨r.toArray⟩] 9)).alloc (.cells #[.string ⟨n.toArray⟩, .string ⟨o.toArray⟩] 9)) (.slice (some ⟨w4.heap.size + 1, 0, none⟩) 2 2) [n, o] := strs_two (heap_new (by simp))
        have z3 : Fr [] w4 ((w4.alloc (.cells #[.string ⟨n.toArray⟩, .string ⟨r.toArray⟩] 9)).alloc (.cells #[.string ⟨n.toArray⟩, .string ⟨o.toArray⟩] 9)) := ((Fr.refl [] w4).alloc _).alloc _
        generalize (w4.alloc (.cells #[.string ⟨n.toArray⟩, .string ⟨r.toArray⟩] 9)).alloc (.cells #[.string ⟨n.toArray⟩, .string ⟨o.toArray⟩] 9) = uu at z1 z2 z3 ⊢
        refine (collide_any _ _ [n, r] [n, o] uu z1 z2 J1.out J2.out (HT.out.fr (hf4.trans z3 (by simp)))).mono ?_
        rintro e w5 ⟨rfl, hb5⟩
        rw [HV1.out]
        have hu5 : Fr [] w4 w5 := z3.below hb5 z3.size
        clear z1 z2 z3
        replace kc0 := hu5.cell kc0 (by simp)
        replace kc1 := hu5.cell kc1 (by simp)
        replace kc2 := hu5.cell kc2 (by simp)
        have hfz : Fr [] w w5 := hf4.trans hu5 (by simp)
        clear hu5 hf4 hb5
        go_wp2_with fail
        refine (right_any ⟨o, C, r⟩ w5 (by show o.length ≤ _; omega) (by show r.length ≤ _; omega) (HT.out.fr hfz)).mono ?_
        rintro e wa ⟨rfl, hba⟩
        have hfa : Fr [] w wa := hfz.below hba hfz.size
        clear hba hfz kc0 kc1 kc2
        cases hs : rightB ⟨o, C, r⟩ with
        | false =>
          clear hs
          go_wp2_with fail
          go_ret
          exact ⟨rfl, hfa.toBelow (by simp)⟩
        | true =>
          have hs2 : C = dlist [o, r] := by simpa [rightB] using hs
          by_cases hon : o = n
          · have t5 : (o == n) = true := by simp [hon]
            have t5' : (o != n) = false := by simp [hon]
            clear hs hs2 hon
            go_wp2_with fail
            go_ret
            exact ⟨rfl, hfa.toBelow (by simp)⟩
          · have t5 : (o == n) = false := by simpa using hon
            have t5' : (o != n) = true := by simpa using hon
            have HV : Hid ((!decide ([n, r] = [o, r]) && (dlist [n, r] == dlist [o, r])) = true) := Lib.hid (by
              rw [← HC.out, ← hs2]; simp; exact fun h => hon h.symm)
            clear hs hs2 hon
            go_wp2_with fail
            have z1 : Strs ((wa.alloc (.cells #[.string ⟨n.toArray⟩, .string ⟨r.toArray⟩] 9)).alloc (.cells #[.string ⟨o.toArray⟩, .string ⟨r.toArray⟩] 9)) (.slice (some ⟨wa.heap.size, 0, none⟩) 2 2) [n, r] := strs_two (heap_past _ (heap_new rfl))
            have z2 : Strs ((wa.alloc (.cells #[.string ⟨n.toArray⟩, .string ⟨r.toArray⟩] 9)).alloc (.cells #[.string ⟨o.toArray⟩, .string ⟨r.toArray⟩] 9)) (.slice (some ⟨wa.heap.size + 1, 0, none⟩) 2 2) [o, r] := strs_two (heap_new (by simp))
            have z3 : Fr [] wa ((wa.alloc (.cells #[.string ⟨n.toArray⟩, .string ⟨r.toArray⟩] 9)).alloc (.cells #[.string ⟨o.toArray⟩, .string ⟨r.toArray⟩] 9)) := ((Fr.refl [] wa).alloc _).alloc _
            generalize (wa.alloc (.cells #[.string ⟨n.toArray⟩, .string ⟨r.toArray⟩] 9)).alloc (.cells #[.string ⟨o.toArray⟩, .string ⟨r.toArray⟩] 9) = uu at z1 z2 z3 ⊢
            refine (collide_any _ _ [n, r] [o, r] uu z1 z2 J1.out J3.out (HT.out.fr (hfa.trans z3 (by simp)))).mono ?_
            rintro e wb ⟨rfl, hbb⟩
            rw [HV.out]
            have hfb : Fr [] w wb := (hfa.trans z3 (by simp)).below hbb (hfa.trans z3 (by simp)).size
            go_wp2_with fail
            go_ret
            exact ⟨rfl, hfb.toBelow (by simp)⟩
  · have t0 : (decide ((200 : Int) < (n.length : Int)) || decide ((200 : Int) < (r.length : Int)) || decide ((200 : Int) < (o.length : Int))) = true := by
      simp only [Bool.or_eq_true, decide_eq_true_eq]; omega
    go_wp2_with fail
    all_goals go_ret
    all_goals exact ⟨rfl, hf1.toBelow (by simp)⟩
end Go.Proofs.YtnbpajcecjpfpaaDoor
