/-
  foyerlaw02: DigestBlock.
-/
import Derived.Test.YtfjmoefmlfhhnaaDoorDlA
import Derived.Test.YtfjmoefmlfhhnaaDoorRound
namespace Go.Proofs.YtfjmoefmlfhhnaaDoor
open Go.RowKit
set_option maxRecDepth 100000 in
set_option maxHeartbeats 2000000 in
theorem digestBlock_any (t : List UInt8) (p : Nat) (a : List UInt8) (b : List UInt8) (w : World) (hp : p < 256) (hT : Tabs w) :
    Calls Tryd.prog 7 #[.string ⟨t.toArray⟩, .int .u8 (p : Int), .string ⟨a.toArray⟩, .string ⟨b.toArray⟩] w fun e w' => e = .returned (.bool true) ∧ Below w.heap.size w w' := by
  have hmx : Tryd.prog.follows .mixedOrders = true := by kernel_rfl
  have HT := Lib.hid hT
  clear hT
  go_enter Tryd.func7, Tryd.ntmps7
  go_wp2_with fail
  refine (head2_any w HT.out).mono ?_
  rintro e w1 ⟨rfl, hb1⟩
  have hf1 : Fr [] w w1 := (Fr.refl [] w).below hb1 (Nat.le_refl _)
  obtain ⟨n1, hn1, en1⟩ : ∃ n : Nat, n = min a.length b.length ∧ min (a.length : Int) (b.length : Int) = (n : Int) := ⟨min a.length b.length, rfl, by omega⟩
  obtain ⟨n, hn, en⟩ : ∃ n : Nat, n = min n1 8 ∧ min (n1 : Int) 8 = (n : Int) := ⟨min n1 8, rfl, by omega⟩
  have hx := ba_take a n
  have hy := ba_take b n
  have hA : (a.take n).length = n := by rw [List.length_take]; omega
  have hB : (b.take n).length = n := by rw [List.length_take]; omega
  have hna : n ≤ a.length := by omega
  have hnb : n ≤ b.length := by omega
  have hn8 : n ≤ 8 := by omega
  generalize a.take n = A at hx hA
  generalize b.take n = B at hy hB
  have h3 : (n = a.length ∧ a.length ≤ b.length ∧ a.length ≤ 8) ∨ (n = b.length ∧ b.length < a.length ∧ b.length ≤ 8) ∨ (n = 8 ∧ 8 < a.length ∧ 8 < b.length) := by omega
  clear hn hn1 en en1 hna hnb
  by_cases hl : t.length ≤ 2000
  · have t1 : decide ((2000 : Int) < (t.length : Int)) = false := by simp; omega
    by_cases hp8 : 8 * p ≤ t.length
    · have t2 : decide ((t.length : Int) < 8 * (p : Int)) = false := by simp; omega
      obtain ⟨r, hr, er⟩ : ∃ r : Nat, r = min (8 * p + n) t.length ∧ min (8 * (p : Int) + (n : Int)) (t.length : Int) = (r : Int) := ⟨min (8 * p + n) t.length, rfl, by omega⟩
      have hrt : r ≤ t.length := by omega
      have ec : (8 * (p : Int)).toNat = 8 * p := by omega
      have c1 := ba_take t (8 * p)
      have c2 := ba_cut t r t.length
      have hP : (t.take (8 * p)).length = 8 * p := by rw [List.length_take]; omega
      have hR : ((t.drop r).take (t.length - r)).length ≤ 2000 := by rw [List.length_take, List.length_drop]; omega
      generalize t.take (8 * p) = X at c1 hP
      generalize (t.drop r).take (t.length - r) = R at c2 hR
      have HD : Hid (dsum (X ++ A ++ R) = dsum (X ++ B ++ R) → A = B) := Lib.hid (fun h => by
        have h2 := dsum_block (l := X ++ A ++ R) (m := X ++ B ++ R) p (by simp [hA, hB]) (by simp [hP]) (fun j hj => by
          have e : ∀ Y : List UInt8, Y.length = n → (X ++ Y ++ R).getD j 0 = if j < 8 * p then X.getD j 0 else R.getD (j - (8 * p + n)) 0 := by
            intro Y hY
            rw [List.getD_eq_getElem?_getD]
            by_cases h1 : j < 8 * p
            · rw [if_pos h1, List.append_assoc, List.getElem?_append_left (by omega), List.getD_eq_getElem?_getD]
            · rw [if_neg h1, List.getElem?_append_right (by simp; omega), List.getD_eq_getElem?_getD]
              simp [hP, hY]
          rw [e A hA, e B hB]) h
        rw [List.append_assoc, List.append_assoc] at h2
        exact (List.append_inj (List.append_cancel_left h2) (by omega)).1)
      have HE : Hid (A = B → X ++ A ++ R = X ++ B ++ R) := Lib.hid (fun h => by rw [h])
      have k1 : (⟨X.toArray⟩ : ByteArray) ++ ⟨A.toArray⟩ = ⟨(X ++ A).toArray⟩ := ba_append X A
      have k2 : (⟨X.toArray⟩ : ByteArray) ++ ⟨B.toArray⟩ = ⟨(X ++ B).toArray⟩ := ba_append X B
      have k3 : (⟨(X ++ A).toArray⟩ : ByteArray) ++ ⟨R.toArray⟩ = ⟨(X ++ A ++ R).toArray⟩ := ba_append (X ++ A) R
      have k4 : (⟨(X ++ B).toArray⟩ : ByteArray) ++ ⟨R.toArray⟩ = ⟨(X ++ B ++ R).toArray⟩ := ba_append (X ++ B) R
      have l1 : (X ++ A).length ≤ 3000 := by rw [List.length_append]; omega
      have l2 : (X ++ B).length ≤ 3000 := by rw [List.length_append]; omega
      have l3 : (X ++ A ++ R).length ≤ 6000 := by rw [List.length_append]; omega
      have l4 : (X ++ B ++ R).length ≤ 6000 := by rw [List.length_append]; omega
      generalize X ++ A = XA at k1 k3 l1 l3 HD HE
      generalize X ++ B = XB at k2 k4 l2 l4 HD HE
      generalize XA ++ R = XAR at k3 l3 HD HE
      generalize XB ++ R = XBR at k4 l4 HD HE
      obtain ⟨BB, q2⟩ : ∃ BB, (A == B) = BB := ⟨_, rfl⟩
      have q1 : (dsum XAR == dsum XBR) = BB := by
        rw [← q2, Bool.eq_iff_iff, beq_iff_eq, beq_iff_eq]
        exact ⟨HD.out, fun h => by rw [HE.out h]⟩
      have q3 : (BB == BB) = true := by simp
      have nn1 : ¬ (9223372036854775807 < X.length + A.length) := by omega
      have nn2 : ¬ (9223372036854775807 < XA.length + R.length) := by omega
      have nn3 : ¬ (9223372036854775807 < X.length + B.length) := by omega
      have nn4 : ¬ (9223372036854775807 < XB.length + R.length) := by omega
      clear hr
      rcases h3 with ⟨rfl, h31, h32⟩ | ⟨rfl, h31, h32⟩ | ⟨rfl, h31, h32⟩
      rotate_left 2
      have er : min (8 * (p : Int) + 8) (t.length : Int) = (r : Int) := er
      rotate_left 1
      all_goals go_wp2_with fail
      all_goals
        have hh0 : Fr [] w1 w1.drew := (Fr.refl [] w1).drew
        have hS0 : True := trivial
        refine region_held 24 (fun W' => True) hmx ?_
        change Held _ _ _ _ _ _ 25 (Array.replicate 25 false) _ _
        refine held_take 0 (v := .bool true) rfl (by kernel_rfl) (by kernel_rfl) (by kernel_rfl) rfl hS0 (fun W' hS => by go_simp) rfl ?_
        simp only [Act.put]
        refine held_take 1 (v := .bool true) rfl (by kernel_rfl) (by kernel_rfl) (by kernel_rfl) rfl hS0 (fun W' hS => by go_simp) rfl ?_
        simp only [Act.put]
        refine held_take_g 2 (v := .string ⟨t.toArray⟩) rfl (by kernel_rfl) (by kernel_rfl) (by kernel_rfl) rfl hS0 (fun W' hS => by go_simp) rfl ?_
        refine held_take_g 3 (v := .int .i64 (8 * (p : Int))) rfl (by kernel_rfl) (by kernel_rfl) (by kernel_rfl) rfl hS0 (fun W' hS => by go_simp) rfl ?_
        refine held_take_g 5 (v := .string ⟨A.toArray⟩) rfl (by kernel_rfl) (by kernel_rfl) (by kernel_rfl) rfl hS0 (fun W' hS => by go_simp) rfl ?_
        refine held_take_g 7 (v := .string ⟨R.toArray⟩) rfl (by kernel_rfl) (by kernel_rfl) (by kernel_rfl) rfl hS0 (fun W' hS => by go_simp) rfl ?_
        refine held_take_g 10 (v := .string ⟨t.toArray⟩) rfl (by kernel_rfl) (by kernel_rfl) (by kernel_rfl) rfl hS0 (fun W' hS => by go_simp) rfl ?_
        refine held_take_g 11 (v := .int .i64 (8 * (p : Int))) rfl (by kernel_rfl) (by kernel_rfl) (by kernel_rfl) rfl hS0 (fun W' hS => by go_simp) rfl ?_
        refine held_take_g 13 (v := .string ⟨B.toArray⟩) rfl (by kernel_rfl) (by kernel_rfl) (by kernel_rfl) rfl hS0 (fun W' hS => by go_simp) rfl ?_
        refine held_take_g 15 (v := .string ⟨R.toArray⟩) rfl (by kernel_rfl) (by kernel_rfl) (by kernel_rfl) rfl hS0 (fun W' hS => by go_simp) rfl ?_
        refine held_take_g 19 (v := .string ⟨A.toArray⟩) rfl (by kernel_rfl) (by kernel_rfl) (by kernel_rfl) rfl hS0 (fun W' hS => by go_simp) rfl ?_
        refine held_take_g 20 (v := .string ⟨B.toArray⟩) rfl (by kernel_rfl) (by kernel_rfl) (by kernel_rfl) rfl hS0 (fun W' hS => by go_simp) rfl ?_
        simp only [Act.put]
        refine held_take_g 4 (v := .string ⟨X.toArray⟩) rfl (by kernel_rfl) (by kernel_rfl) (by kernel_rfl) rfl hS0 (fun W' hS => by first | (go_simp; done) | (go_simp; intro hix; omega)) rfl ?_
        refine held_take_g 12 (v := .string ⟨X.toArray⟩) rfl (by kernel_rfl) (by kernel_rfl) (by kernel_rfl) rfl hS0 (fun W' hS => by first | (go_simp; done) | (go_simp; intro hix; omega)) rfl ?_
        refine held_take_g 21 (v := .bool BB) rfl (by kernel_rfl) (by kernel_rfl) (by kernel_rfl) rfl hS0 (fun W' hS => by go_simp) rfl ?_
        simp only [Act.put]
        refine held_take_g 6 (v := .string ⟨XA.toArray⟩) rfl (by kernel_rfl) (by kernel_rfl) (by kernel_rfl) rfl hS0 (fun W' hS => by first | (go_simp; done) | (go_simp; omega)) rfl ?_
        refine held_take_g 14 (v := .string ⟨XB.toArray⟩) rfl (by kernel_rfl) (by kernel_rfl) (by kernel_rfl) rfl hS0 (fun W' hS => by first | (go_simp; done) | (go_simp; omega)) rfl ?_
        simp only [Act.put]
        refine held_take_g 8 (v := .string ⟨XAR.toArray⟩) rfl (by kernel_rfl) (by kernel_rfl) (by kernel_rfl) rfl hS0 (fun W' hS => by first | (go_simp; done) | (go_simp; omega)) rfl ?_
        refine held_take_g 16 (v := .string ⟨XBR.toArray⟩) rfl (by kernel_rfl) (by kernel_rfl) (by kernel_rfl) rfl hS0 (fun W' hS => by first | (go_simp; done) | (go_simp; omega)) rfl ?_
        simp only [Act.put]
        refine held_one_g 9 (by kernel_rfl) rfl (by kernel_rfl) rfl (fun K' hK => ?_)
        go_simp
        refine (suml_any XAR w1.drew (by omega) (HT.out.fr (hf1.trans hh0 (by simp)))).mono ?_
        rintro e wq1 ⟨rfl, hb⟩
        have hh1 : Fr [] w1 wq1 := hh0.below hb hh0.size
        clear hb
        have hS1 : True := trivial
        refine hK.out _ _ (fun _ => hS1) ?_
        clear hK K'
        try simp only [Act.put]
        refine held_one_g 17 (by kernel_rfl) rfl (by kernel_rfl) rfl (fun K' hK => ?_)
        go_simp
        refine (suml_any XBR wq1 (by omega) (HT.out.fr (hf1.trans hh1 (by simp)))).mono ?_
        rintro e wq2 ⟨rfl, hb⟩
        have hh2 : Fr [] w1 wq2 := hh1.below hb hh1.size
        clear hb
        have hS2 : True := trivial
        refine hK.out _ _ (fun _ => hS2) ?_
        clear hK K'
        try simp only [Act.put]
        refine held_take_g 18 (v := .bool BB) rfl (by kernel_rfl) (by kernel_rfl) (by kernel_rfl) rfl hS2 (fun W' hS => by go_simp) rfl ?_
        simp only [Act.put]
        refine held_take_g 22 (v := .bool true) rfl (by kernel_rfl) (by kernel_rfl) (by kernel_rfl) rfl hS2 (fun W' hS => by go_simp) rfl ?_
        simp only [Act.put]
        refine held_take 23 (v := .bool true) rfl (by kernel_rfl) (by kernel_rfl) (by kernel_rfl) rfl hS2 (fun W' hS => by go_simp) rfl ?_
        simp only [Act.put]
        refine held_one 24 (by kernel_rfl) rfl rfl rfl (fun K' hK => ?_)
        go_simp
        refine hK.out _ _ (fun h => absurd rfl h) ?_
        clear hK K'
        refine held_done (by kernel_rfl) ?_
        go_wp2_with fail
        go_ret
        exact ⟨rfl, (hf1.trans hh2 (by simp)).toBelow (by simp)⟩
    · have t2 : decide ((t.length : Int) < 8 * (p : Int)) = true := by simp; omega
      go_wp2_with fail
      all_goals go_ret
      all_goals exact ⟨rfl, hf1.toBelow (by simp)⟩
  · have t1 : decide ((2000 : Int) < (t.length : Int)) = true := by simp; omega
    go_wp2_with fail
    all_goals go_ret
    all_goals exact ⟨rfl, hf1.toBelow (by simp)⟩
end Go.Proofs.YtfjmoefmlfhhnaaDoor
