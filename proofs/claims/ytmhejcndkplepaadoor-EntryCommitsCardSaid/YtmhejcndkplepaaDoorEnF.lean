/-
  foyerlaw18: EntryCommits.
-/
import Derived.Test.YtmhejcndkplepaaDoorEnE
import Derived.Test.YtmhejcndkplepaaDoorPlnX
import Derived.Test.YtmhejcndkplepaaDoorRefX
namespace Go.Proofs.YtmhejcndkplepaaDoor
open Go.RowKit

theorem capN_two (x y : List UInt8) (hx : x.length ≤ 1000000) (hy : y.length ≤ 1000000) : capN [x, y] ≤ 140737488355328 := by
  have := capN_le [x, y] 1000000 (fun s hs => by simp only [List.mem_cons, List.not_mem_nil, or_false] at hs; rcases hs with rfl | rfl <;> assumption)
  simp at this; omega

set_option maxRecDepth 100000 in
set_option maxHeartbeats 4000000 in
theorem entryCommits_any (p s o t : List UInt8) (w : World) (hT : TabsM w) :
    Calls Tryd.prog 15 #[.string ⟨p.toArray⟩, .string ⟨s.toArray⟩, .string ⟨o.toArray⟩, .string ⟨t.toArray⟩] w fun e w' => e = .returned (.bool true) ∧ Below w.heap.size w w' := by
  have HT := Lib.hid hT
  clear hT
  go_enter Tryd.func15, Tryd.ntmps15
  go_wp2_with fail
  refine (head18_any w HT.out).mono ?_
  rintro e w1 ⟨rfl, hb1⟩
  have hf1 : Fr [] w w1 := (Fr.refl [] w).below hb1 (Nat.le_refl _)
  clear hb1
  by_cases hlen : p.length ≤ 300 ∧ s.length ≤ 300 ∧ o.length ≤ 300 ∧ t.length ≤ 300
  · obtain ⟨h1, h2, h3, h4⟩ := hlen
    have t1 : decide ((300 : Int) < (p.length : Int)) = false := by simp; omega
    have t2 : decide ((300 : Int) < (s.length : Int)) = false := by simp; omega
    have t3 : decide ((300 : Int) < (o.length : Int)) = false := by simp; omega
    have t4 : decide ((300 : Int) < (t.length : Int)) = false := by simp; omega
    have HEA : Hid (dlist [p, s] = dsum (joinL [p, s])) := Lib.hid rfl
    have HEB : Hid (dlist [o, t] = dsum (joinL [o, t])) := Lib.hid rfl
    have HIA : Hid (isD (dlist [p, s]) = true) := Lib.hid (dsum_isD _)
    have HIB : Hid (isD (dlist [o, t]) = true) := Lib.hid (dsum_isD _)
    have HLA : Hid ((dlist [p, s]).length ≤ 9223372036854775807 ∧ (dlist [o, t]).length ≤ 9223372036854775807) := Lib.hid (by
      rw [show (dlist [p, s]).length = 16 from dsum_length _, show (dlist [o, t]).length = 16 from dsum_length _]; decide)
    have HNE : Hid (¬ (p = o ∧ s = t) → joinL [p, s] ≠ joinL [o, t]) := Lib.hid (fun h he => h (by
      have := joinL_inj he
      simpa using this))
    have HJ : Hid ((joinL [p, s]).length ≤ 140737488355328 ∧ (joinL [o, t]).length ≤ 140737488355328) := Lib.hid ⟨two_joinE p s (by omega) (by omega), two_joinE o t (by omega) (by omega)⟩
    go_wp2_with fail
    refine (commit_any p s w1 (by omega) (by omega) (HT.out.fr hf1).t).mono ?_
    rintro e w2 ⟨rfl, hb2⟩
    have hf2 : Fr [] w w2 := hf1.below hb2 hf1.size
    clear hb2 hf1
    go_wp2_with fail
    refine (commit_any o t w2 (by omega) (by omega) (HT.out.fr hf2).t).mono ?_
    rintro e w3 ⟨rfl, hb3⟩
    have hf3 : Fr [] w w3 := hf2.below hb3 hf2.size
    clear hb3 hf2
    have HJ1 : Hid (∀ w, TabsM w → Calls Tryd.prog 48 #[.string ⟨(joinL [p, s]).toArray⟩] w fun e w' => e = .returned (.string ⟨(dlist [p, s]).toArray⟩) ∧ Below w.heap.size w w') :=
      Lib.hid (fun w h => (sum_any ⟨(joinL [p, s]).toArray⟩ w (by rw [ba_size]; have := HJ.out.1; omega) h.t.hex).mono fun e w' ⟨he, hb⟩ => ⟨by rw [he]; simp [dlist], hb⟩)
    have HJ2 : Hid (∀ w, TabsM w → Calls Tryd.prog 48 #[.string ⟨(joinL [o, t]).toArray⟩] w fun e w' => e = .returned (.string ⟨(dlist [o, t]).toArray⟩) ∧ Below w.heap.size w w') :=
      Lib.hid (fun w h => (sum_any ⟨(joinL [o, t]).toArray⟩ w (by rw [ba_size]; have := HJ.out.2; omega) h.t.hex).mono fun e w' ⟨he, hb⟩ => ⟨by rw [he]; simp [dlist], hb⟩)
    have HEQ : Hid (p = o → s = t → dlist [p, s] = dlist [o, t]) := Lib.hid (fun h1 h2 => by rw [h1, h2])
    generalize dlist [p, s] = A at HEA HIA HLA HJ1 HEQ ⊢
    generalize dlist [o, t] = B at HEB HIB HLA HJ2 HEQ ⊢
    go_wp2_with fail
    refine (is_any A w3 HLA.out.1).mono ?_
    rintro e w4 ⟨rfl, hb4⟩
    rw [HIA.out]
    have hf4 : Fr [] w w4 := hf3.below hb4 hf3.size
    clear hb4 hf3
    go_wp2_with fail
    refine (is_any B w4 HLA.out.2).mono ?_
    rintro e w5 ⟨rfl, hb5⟩
    rw [HIB.out]
    have hf5 : Fr [] w w5 := hf4.below hb5 hf4.size
    clear hb5 hf4
    by_cases hpo : p = o
    · have u1 : (p == o) = true := by simpa using hpo
      have u1' : (p != o) = false := by simpa using hpo
      by_cases hst : s = t
      · have u2 : (s == t) = true := by simpa using hst
        have u2' : (s != t) = false := by simpa using hst
        have hab := HEQ.out hpo hst
        have u3 : (A == B) = true := by simpa using hab
        have u3' : (A != B) = false := by simpa using hab
        clear hpo hst hab
        go_wp2_with fail
        go_ret
        exact ⟨rfl, hf5.toBelow (by simp)⟩
      · have u2 : (s == t) = false := by simpa using hst
        have u2' : (s != t) = true := by simpa using hst
        have hne := HNE.out (fun h => hst h.2)
        have u4 : (joinL [p, s] == joinL [o, t]) = false := by simpa using hne
        have u4' : (joinL [p, s] != joinL [o, t]) = true := by simpa using hne
        clear hpo hst hne
        go_wp2_with fail
        refine (rjoined_any _ [p, s] _ (strs_two (heap_new rfl)) (capN_two p s (by omega) (by omega))).mono ?_
        rintro e w6 ⟨rfl, hb6⟩
        have hf6 : Fr [] w w6 := (hf5.alloc _).below hb6 (hf5.alloc _).size
        clear hb6 hf5
        go_wp2_with fail
        refine (rjoined_any _ [o, t] _ (strs_two (heap_new rfl)) (capN_two o t (by omega) (by omega))).mono ?_
        rintro e w7 ⟨rfl, hb7⟩
        have hf7 : Fr [] w w7 := (hf6.alloc _).below hb7 (hf6.alloc _).size
        clear hb7 hf6
        by_cases hab : A = B
        · have u3 : (A == B) = true := by simpa using hab
          have u3' : (A != B) = false := by simpa using hab
          have HAB := Lib.hid hab
          clear hab
          generalize joinL [p, s] = x at u4 u4' HJ1 ⊢
          generalize joinL [o, t] = y at u4 u4' HJ2 ⊢
          go_wp2_with fail
          refine (HJ1.out _ (HT.out.fr hf7)).mono ?_
          rintro e w8 ⟨rfl, hb8⟩
          have hf8 : Fr [] w w8 := hf7.below hb8 hf7.size
          clear hb8 hf7
          go_wp2_with fail
          refine (HJ2.out _ (HT.out.fr hf8)).mono ?_
          rintro e w9 ⟨rfl, hb9⟩
          have hf9 : Fr [] w w9 := hf8.below hb9 hf8.size
          clear hb9 hf8
          go_wp2_with fail
          go_ret
          exact ⟨rfl, hf9.toBelow (by simp)⟩
        · have u3 : (A == B) = false := by simpa using hab
          have u3' : (A != B) = true := by simpa using hab
          clear hab
          generalize joinL [p, s] = x at u4 u4' ⊢
          generalize joinL [o, t] = y at u4 u4' ⊢
          go_wp2_with fail
          go_ret
          exact ⟨rfl, hf7.toBelow (by simp)⟩
    · have u1 : (p == o) = false := by simpa using hpo
      have u1' : (p != o) = true := by simpa using hpo
      have hne := HNE.out (fun h => hpo h.1)
      have u4 : (joinL [p, s] == joinL [o, t]) = false := by simpa using hne
      have u4' : (joinL [p, s] != joinL [o, t]) = true := by simpa using hne
      clear hpo hne
      go_wp2_with fail
      refine (rjoined_any _ [p, s] _ (strs_two (heap_new rfl)) (capN_two p s (by omega) (by omega))).mono ?_
      rintro e w6 ⟨rfl, hb6⟩
      have hf6 : Fr [] w w6 := (hf5.alloc _).below hb6 (hf5.alloc _).size
      clear hb6 hf5
      go_wp2_with fail
      refine (rjoined_any _ [o, t] _ (strs_two (heap_new rfl)) (capN_two o t (by omega) (by omega))).mono ?_
      rintro e w7 ⟨rfl, hb7⟩
      have hf7 : Fr [] w w7 := (hf6.alloc _).below hb7 (hf6.alloc _).size
      clear hb7 hf6
      by_cases hab : A = B
      · have u3 : (A == B) = true := by simpa using hab
        have u3' : (A != B) = false := by simpa using hab
        have HAB := Lib.hid hab
        clear hab
        generalize joinL [p, s] = x at u4 u4' HJ1 ⊢
        generalize joinL [o, t] = y at u4 u4' HJ2 ⊢
        go_wp2_with fail
        refine (HJ1.out _ (HT.out.fr hf7)).mono ?_
        rintro e w8 ⟨rfl, hb8⟩
        have hf8 : Fr [] w w8 := hf7.below hb8 hf7.size
        clear hb8 hf7
        go_wp2_with fail
        refine (HJ2.out _ (HT.out.fr hf8)).mono ?_
        rintro e w9 ⟨rfl, hb9⟩
        have hf9 : Fr [] w w9 := hf8.below hb9 hf8.size
        clear hb9 hf8
        go_wp2_with fail
        go_ret
        exact ⟨rfl, hf9.toBelow (by simp)⟩
      · have u3 : (A == B) = false := by simpa using hab
        have u3' : (A != B) = true := by simpa using hab
        clear hab
        generalize joinL [p, s] = x at u4 u4' ⊢
        generalize joinL [o, t] = y at u4 u4' ⊢
        go_wp2_with fail
        go_ret
        exact ⟨rfl, hf7.toBelow (by simp)⟩
  · go_wp2_with fail
    all_goals go_ret
    all_goals exact ⟨rfl, hf1.toBelow (by simp)⟩
end Go.Proofs.YtmhejcndkplepaaDoor
