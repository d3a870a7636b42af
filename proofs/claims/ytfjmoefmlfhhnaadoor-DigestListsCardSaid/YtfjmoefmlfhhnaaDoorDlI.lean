/-
  foyerlaw02: DigestLists.
-/
import Derived.Test.YtfjmoefmlfhhnaaDoorDlF
namespace Go.Proofs.YtfjmoefmlfhhnaaDoor
open Go.RowKit
theorem joinL_bound (l : List (List UInt8)) (B : Nat) (hB : B ≤ 1000000) (h : ∀ s ∈ l, s.length ≤ B) : (joinL l).length ≤ l.length * (B + 21) :=
  Nat.le_trans (joinL_capN l (fun s hs => by have := h s hs; omega)) (capN_le l B h)
theorem list_one_inj {X Y : List UInt8} {n : Nat} (hX : X.length = n) (hn : n ≤ 9) (hY : Y.length = n) (k : Nat) (hk : k = min n 6) (hag : ∀ j, j < k → Y[j]? = X[j]?) (h : dlist [X] = dlist [Y]) : X = Y := by
  have hj : ∀ Z : List UInt8, Z.length = n → joinL [Z] = [UInt8.ofNat (48 + n), 58] ++ Z := by
    intro Z hZ
    simp [joinL, joinE, hZ, Lib.decDigits_one (show n < 10 by omega)]
  by_cases h6 : n ≤ 6
  · apply List.ext_getElem?
    intro j
    by_cases hj6 : j < n
    · exact (hag j (by omega)).symm
    · rw [List.getElem?_eq_none (by omega), List.getElem?_eq_none (by omega)]
  · have h1 := dsum_block (l := joinL [X]) (m := joinL [Y]) 1 (by rw [hj X hX, hj Y hY]; simp [hX, hY]) (by rw [hj X hX]; simp [hX]; omega) (fun j hjj => by
      rw [hj X hX, hj Y hY, List.getD_eq_getElem?_getD, List.getD_eq_getElem?_getD]
      congr 1
      by_cases h2 : j < 2
      · rw [List.getElem?_append_left (by simpa using h2), List.getElem?_append_left (by simpa using h2)]
      · rw [List.getElem?_append_right (by simp; omega), List.getElem?_append_right (by simp; omega)]
        simp only [List.length_cons, List.length_nil]
        by_cases h8 : j < 8
        · exact (hag (j - 2) (by omega)).symm
        · rw [List.getElem?_eq_none (by omega), List.getElem?_eq_none (by omega)]) h
    rw [hj X hX, hj Y hY] at h1
    exact List.append_cancel_left h1
set_option maxRecDepth 100000 in
set_option maxHeartbeats 2000000 in
theorem digestLists_any (lv : Value) (l : List (List UInt8)) (mv : Value) (m : List (List UInt8)) (a : List UInt8) (b : List UInt8) (w : World) (hT : Tabs w) (hl : Strs w lv l) (hm : Strs w mv m) :
    Calls Tryd.prog 9 #[lv, mv, .string ⟨a.toArray⟩, .string ⟨b.toArray⟩] w fun e w' => e = .returned (.bool true) ∧ Below w.heap.size w w' := by
  have hmx : Tryd.prog.follows .mixedOrders = true := by kernel_rfl
  have HT := Lib.hid hT
  clear hT
  have HL := Lib.hid hl
  clear hl
  have HM := Lib.hid hm
  clear hm
  go_enter Tryd.func9, Tryd.ntmps9
  go_wp2_with fail
  refine (head2_any w HT.out).mono ?_
  rintro e w1 ⟨rfl, hb1⟩
  have hf1 : Fr [] w w1 := (Fr.refl [] w).below hb1 (Nat.le_refl _)
  go_wp2_with fail
  refine (few_any lv l 200 w1 (HL.out.fr0 hf1)).mono ?_
  rintro e w2 ⟨rfl, hb2⟩
  have hf2 : Fr [] w w2 := hf1.below hb2 hf1.size
  cases hfw : fewB l 200 with
  | false => go_wp2_with fail; go_ret; exact ⟨rfl, hf2.toBelow (by simp)⟩
  | true => ?_
  have HFL := Lib.hid (few_join hfw (by decide))
  clear hfw
  go_wp2_with fail
  refine (few_any mv m 200 w2 (HM.out.fr0 hf2)).mono ?_
  rintro e w3 ⟨rfl, hb3⟩
  have hf3 : Fr [] w w3 := hf2.below hb3 hf2.size
  cases hfw : fewB m 200 with
  | false => go_wp2_with fail; go_ret; exact ⟨rfl, hf3.toBelow (by simp)⟩
  | true => ?_
  have HFM := Lib.hid (few_join hfw (by decide))
  clear hfw
  go_wp2_with fail
  refine (rjoined_any lv l w3 (HL.out.fr0 hf3) HFL.out.1).mono ?_
  rintro e w4 ⟨rfl, hb4⟩
  have hf4 : Fr [] w w4 := hf3.below hb4 hf3.size
  go_wp2_with fail
  refine (rjoined_any mv m w4 (HM.out.fr0 hf4) HFM.out.1).mono ?_
  rintro e w5 ⟨rfl, hb5⟩
  have hf5 : Fr [] w w5 := hf4.below hb5 hf4.size
  have HJI : Hid (joinL l = joinL m → l = m) := Lib.hid joinL_inj
  have HJE : Hid (l = m → joinL l = joinL m) := Lib.hid (fun h => by rw [h])
  have HDL : Hid (dlist l = dsum (joinL l)) := rfl
  have HDM : Hid (dlist m = dsum (joinL m)) := rfl
  have hA := HFL.out.2
  have hB := HFM.out.2
  generalize joinL l = A at HJI HJE HDL hA ⊢
  generalize joinL m = B at HJI HJE HDM hB ⊢
  clear hb2 hb3 hb4 hb5 hf2 hf3 hf4
  obtain ⟨BB, q2⟩ : ∃ BB : Bool, (A == B) = BB := ⟨_, rfl⟩
  have QS : Hid (decide (l = m) = BB) := Lib.hid (by
    rw [← q2, Bool.eq_iff_iff, beq_iff_eq, decide_eq_true_iff]; exact ⟨HJE.out, HJI.out⟩)
  have q3 : (BB == BB) = true := by simp
  have q4 : (BB != BB) = false := by simp
  have q5 : (dsum A == dsum A) = true := by simp
  have q6 : (dsum A != dsum A) = false := by simp
  go_wp2_with fail
  refine (list_any lv l w5 (HL.out.fr0 hf5) HFL.out.2 (HT.out.fr hf5)).mono ?_
  rintro e w6 ⟨rfl, hb6⟩
  have hf6 : Fr [] w w6 := hf5.below hb6 hf5.size
  rw [HDL.out]
  go_wp2_with fail
  refine (suml_any A w6 (by omega) (HT.out.fr hf6)).mono ?_
  rintro e w7 ⟨rfl, hb7⟩
  have hf7 : Fr [] w w7 := hf6.below hb7 hf6.size
  go_wp2_with fail
  refine (rsame2_any lv mv l m w7 (HL.out.fr0 hf7) (HM.out.fr0 hf7)).mono ?_
  rintro e w8 ⟨rfl, hb8⟩
  have hf8 : Fr [] w w8 := hf7.below hb8 hf7.size
  rw [QS.out]
  clear hb6 hb7 hb8 hf5 hf6 hf7
  obtain ⟨n, hn⟩ : ∃ n : Nat, n = min (min a.length b.length) 9 := ⟨_, rfl⟩
  obtain ⟨kk, hk, ek⟩ : ∃ k : Nat, k = min n 6 ∧ min (n : Int) 6 = (k : Int) := ⟨min n 6, rfl, by omega⟩
  have hx := ba_take a n
  have hX : (a.take n).length = n := by rw [List.length_take]; omega
  have hu := ba_take (a.take n) kk
  have hv := ba_cut b kk n
  have hkn : kk ≤ n := by omega
  have hU : ((a.take n).take kk).length = kk := by rw [List.length_take, hX]; omega
  have hV : ((b.drop kk).take (n - kk)).length = n - kk := by rw [List.length_take, List.length_drop]; omega
  have HD : Hid (dlist [a.take n] = dlist [(a.take n).take kk ++ (b.drop kk).take (n - kk)] → a.take n = (a.take n).take kk ++ (b.drop kk).take (n - kk)) :=
    Lib.hid (list_one_inj hX (by omega) (by rw [List.length_append, hU, hV]; omega) kk hk (fun j hj => by rw [List.getElem?_append_left (by omega), List.getElem?_take, if_pos hj]))
  have h3 : (n = a.length ∧ a.length ≤ b.length ∧ a.length ≤ 9) ∨ (n = b.length ∧ b.length < a.length ∧ b.length ≤ 9) ∨ (n = 9 ∧ kk = 6 ∧ 9 < a.length ∧ 9 < b.length) := by omega
  have kc := ba_append ((a.take n).take kk) ((b.drop kk).take (n - kk))
  have nn1 : ¬ (9223372036854775807 < ((a.take n).take kk).length + ((b.drop kk).take (n - kk)).length) := by omega
  generalize (b.drop kk).take (n - kk) = V at hv hV HD kc nn1
  generalize a.take n = X at hx hX hu hU HD kc nn1
  have hY : (X.take kk ++ V).length ≤ 9 := by rw [List.length_append, hU, hV]; omega
  have hX9 : X.length ≤ 9 := by omega
  generalize X.take kk = U at hu hU HD kc nn1 hY
  generalize U ++ V = Y at HD kc hY
  obtain ⟨CC, q7⟩ : ∃ C : Bool, (X == Y) = C := ⟨_, rfl⟩
  have q8 : (CC == CC) = true := by simp
  have QD : (dlist [X] == dlist [Y]) = CC := by
    rw [← q7, Bool.eq_iff_iff, beq_iff_eq, beq_iff_eq]; exact ⟨HD.out, fun h => by rw [h]⟩
  have HQD := Lib.hid QD
  have HL1 : Hid ((joinL [X]).length ≤ 140737488355328) := Lib.hid (by have := joinL_bound [X] 9 (by decide) (fun s hs => by rw [List.mem_singleton.1 hs]; exact hX9); simp at this; omega)
  have HL2 : Hid ((joinL [Y]).length ≤ 140737488355328) := Lib.hid (by have := joinL_bound [Y] 9 (by decide) (fun s hs => by rw [List.mem_singleton.1 hs]; exact hY); simp at this; omega)
  have m96 : min (9 : Int) 6 = 6 := by decide
  clear hk hn HD QD
  by_cases h7 : A.length ≤ 7 ∧ B.length ≤ 7
  · obtain ⟨h7a, h7b⟩ := h7
    have t7 : decide ((A.length : Int) ≤ 7) = true := by simp; omega
    have t8 : decide ((B.length : Int) ≤ 7) = true := by simp; omega
    have QS2 : Hid ((dsum A == dsum B) = BB) := Lib.hid (by
      rw [← q2, Bool.eq_iff_iff, beq_iff_eq, beq_iff_eq]; exact ⟨dsum_short h7a h7b, fun h => by rw [h]⟩)
    go_wp2_with fail
    refine (list_any lv l w8 (HL.out.fr0 hf8) HFL.out.2 (HT.out.fr hf8)).mono ?_
    rintro e w9 ⟨rfl, hb9⟩
    have hf9 : Fr [] w w9 := hf8.below hb9 hf8.size
    rw [HDL.out]
    go_wp2_with fail
    refine (list_any mv m w9 (HM.out.fr0 hf9) HFM.out.2 (HT.out.fr hf9)).mono ?_
    rintro e w10 ⟨rfl, hb10⟩
    have hf10 : Fr [] w w10 := hf9.below hb10 hf9.size
    rw [HDM.out]
    have q9 := QS2.out
    go_wp2_with fail
    refine (rsame2_any lv mv l m w10 (HL.out.fr0 hf10) (HM.out.fr0 hf10)).mono ?_
    rintro e w11 ⟨rfl, hb11⟩
    have hfz : Fr [] w w11 := hf10.below hb11 hf10.size
    rw [QS.out]
    clear hb9 hb10 hb11 hf8 hf9 hf10
    rcases h3 with ⟨rfl, h31, h32⟩ | ⟨rfl, h31, h32⟩ | ⟨rfl, rfl, h31, h32⟩
    all_goals go_wp2_with fail
    all_goals go_quiet (fail)
    all_goals go_wp2_with fail
    all_goals
      refine (list_any _ [X] _ (strs_one (heap_new rfl)) HL1.out (HT.out.fr ((hfz.drewN _).alloc _))).mono ?_
      rintro e wa ⟨rfl, hba⟩
      have hfa : Fr [] w wa := ((hfz.drewN _).alloc _).below hba ((hfz.drewN _).alloc _).size
      clear hba hfz
      go_wp2_with fail
      refine (list_any _ [Y] _ (strs_one (heap_new rfl)) HL2.out (HT.out.fr (hfa.alloc _))).mono ?_
      rintro e wb ⟨rfl, hbb⟩
      have hfb : Fr [] w wb := (hfa.alloc _).below hbb (hfa.alloc _).size
      have q10 := HQD.out
      clear hbb hfa
      go_wp2_with fail
      go_ret
      exact ⟨rfl, hfb.toBelow (by simp)⟩
  · by_cases h7a : A.length ≤ 7
    · have h7b : ¬ B.length ≤ 7 := fun h => h7 ⟨h7a, h⟩
      have t7 : decide ((A.length : Int) ≤ 7) = true := by simp; omega
      have t8 : decide ((B.length : Int) ≤ 7) = false := by simp; omega
      have hfz := hf8
      clear hf8 h7
      rcases h3 with ⟨rfl, h31, h32⟩ | ⟨rfl, h31, h32⟩ | ⟨rfl, rfl, h31, h32⟩
      all_goals go_wp2_with fail
      all_goals go_quiet (fail)
      all_goals go_wp2_with fail
      all_goals
        refine (list_any _ [X] _ (strs_one (heap_new rfl)) HL1.out (HT.out.fr ((hfz.drewN _).alloc _))).mono ?_
        rintro e wa ⟨rfl, hba⟩
        have hfa : Fr [] w wa := ((hfz.drewN _).alloc _).below hba ((hfz.drewN _).alloc _).size
        clear hba hfz
        go_wp2_with fail
        refine (list_any _ [Y] _ (strs_one (heap_new rfl)) HL2.out (HT.out.fr (hfa.alloc _))).mono ?_
        rintro e wb ⟨rfl, hbb⟩
        have hfb : Fr [] w wb := (hfa.alloc _).below hbb (hfa.alloc _).size
        have q10 := HQD.out
        clear hbb hfa
        go_wp2_with fail
        go_ret
        exact ⟨rfl, hfb.toBelow (by simp)⟩
    · have t7 : decide ((A.length : Int) ≤ 7) = false := by simp; omega
      have hfz := hf8
      clear hf8 h7
      rcases h3 with ⟨rfl, h31, h32⟩ | ⟨rfl, h31, h32⟩ | ⟨rfl, rfl, h31, h32⟩
      all_goals go_wp2_with fail
      all_goals go_quiet (fail)
      all_goals go_wp2_with fail
      all_goals
        refine (list_any _ [X] _ (strs_one (heap_new rfl)) HL1.out (HT.out.fr ((hfz.drewN _).alloc _))).mono ?_
        rintro e wa ⟨rfl, hba⟩
        have hfa : Fr [] w wa := ((hfz.drewN _).alloc _).below hba ((hfz.drewN _).alloc _).size
        clear hba hfz
        go_wp2_with fail
        refine (list_any _ [Y] _ (strs_one (heap_new rfl)) HL2.out (HT.out.fr (hfa.alloc _))).mono ?_
        rintro e wb ⟨rfl, hbb⟩
        have hfb : Fr [] w wb := (hfa.alloc _).below hbb (hfa.alloc _).size
        have q10 := HQD.out
        clear hbb hfa
        go_wp2_with fail
        go_ret
        exact ⟨rfl, hfb.toBelow (by simp)⟩
end Go.Proofs.YtfjmoefmlfhhnaaDoor
