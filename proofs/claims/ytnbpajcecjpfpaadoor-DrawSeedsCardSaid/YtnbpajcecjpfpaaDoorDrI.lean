/-
  foyerlaw19: DrawSeeds.
-/
import Derived.Test.YtnbpajcecjpfpaaDoorDrG
import Derived.Test.YtnbpajcecjpfpaaDoorDrH
namespace Go.Proofs.YtnbpajcecjpfpaaDoor
open Go.RowKit

theorem few19_all {l : List Pty} {n : Nat} (h : few19B l n = true) : (∀ p ∈ l, p.name.length ≤ 1000000 ∧ p.rev.length ≤ 1000000) ∧ l.length ≤ n := by
  simp only [few19B, Bool.and_eq_true, decide_eq_true_eq, List.all_eq_true] at h
  refine ⟨fun p hp => ?_, h.2⟩
  have := h.1 p hp
  simp only [smallP, Bool.and_eq_true, decide_eq_true_eq] at this
  omega
theorem texts_step (A B : List (List UInt8)) (x y x' y' : List UInt8) : decide (A ++ [x, y] = B ++ [x', y']) = (decide (A = B) && x == x' && y == y') := by
  rw [Bool.eq_iff_iff]
  simp only [decide_eq_true_eq, Bool.and_eq_true, beq_iff_eq]
  constructor
  · intro h
    have := List.append_inj' h rfl
    simp only [List.cons.injEq, and_true] at this
    exact ⟨⟨this.1, this.2.1⟩, this.2.2⟩
  · rintro ⟨⟨rfl, rfl⟩, rfl⟩; rfl
theorem seedS_ok {l : List Pty} {root : List UInt8} (h : (seedS l root).2 = 0) : (seedS l root).1 = dlist (textsS root l) := by
  unfold seedS at h ⊢
  split at h <;> rename_i h1
  · cases h
  · rw [if_neg h1]
    split at h <;> rename_i h2
    · cases h
    · rw [if_neg h2]
      split at h <;> rename_i h3
      · cases h
      · rw [if_neg h3]

set_option maxRecDepth 100000 in
set_option maxHeartbeats 4000000 in
theorem drawSeeds_any (lv : Value) (l : List Pty) (mv : Value) (m : List Pty) (a b : List UInt8) (w : World) (hsa : a.length ≤ 140737488355328) (hsb : b.length ≤ 140737488355328) (hT : Tabs w) (hl : Pts w lv l) (hm : Pts w mv m) :
    Calls Tryd.prog 5 #[lv, mv, .string ⟨a.toArray⟩, .string ⟨b.toArray⟩] w fun e w' => e = .returned (.bool true) ∧ Below w.heap.size w w' := by
  have hmx : Tryd.prog.follows .mixedOrders = true := by kernel_rfl
  have HT := Lib.hid hT
  have HL := Lib.hid hl
  have HM := Lib.hid hm
  obtain ⟨la, lcap, rfl, _, _, hla⟩ := hl.form
  obtain ⟨ma, mcap, rfl, _, _, hma⟩ := hm.form
  clear hT hl hm
  go_enter Tryd.func5, Tryd.ntmps5
  go_wp2_with fail
  refine (head19_any w HT.out).mono ?_
  rintro e w1 ⟨rfl, hb1⟩
  have hf1 : Fr [] w w1 := (Fr.refl [] w).below hb1 (Nat.le_refl _)
  go_wp2_with fail
  refine (few19_any _ l 16 w1 (HL.out.fr hf1)).mono ?_
  rintro e w2 ⟨rfl, hb2⟩
  have hf2 : Fr [] w w2 := hf1.below hb2 hf1.size
  cases hfl : few19B l 16 with
  | false => go_wp2_with fail; go_ret; exact ⟨rfl, hf2.toBelow (by simp)⟩
  | true => ?_
  have HFL := Lib.hid (few19_all hfl)
  clear hfl
  go_wp2_with fail
  refine (few19_any _ m 16 w2 (HM.out.fr hf2)).mono ?_
  rintro e w3 ⟨rfl, hb3⟩
  have hf3 : Fr [] w w3 := hf2.below hb3 hf2.size
  cases hfm : few19B m 16 with
  | false => go_wp2_with fail; go_ret; exact ⟨rfl, hf3.toBelow (by simp)⟩
  | true => ?_
  have HFM := Lib.hid (few19_all hfm)
  clear hfm hb1 hb2 hb3 hf1 hf2
  by_cases hlen : l.length = m.length
  · have t1 : ((l.length : Int) != (m.length : Int)) = false := by rw [hlen]; simp
    have HLEN := Lib.hid hlen
    by_cases h300 : a.length + b.length ≤ 300
    · have t2 : decide ((300 : Int) < (a.length : Int) + (b.length : Int)) = false := by simp; omega
      clear hlen
      go_wp2_with fail
      refine (seed_any _ l a w3 (HL.out.fr hf3) HFL.out.1 (by omega) (HT.out.fr hf3)).mono ?_
      rintro e w4 ⟨rfl, hb4⟩
      have hf4 : Fr [] w w4 := hf3.below hb4 hf3.size
      have HSL := Lib.hid (seedS_ok (l := l) (root := a))
      have HSM := Lib.hid (seedS_ok (l := m) (root := b))
      generalize (seedS l a).1 = sa at HSL ⊢
      generalize (seedS l a).2 = ea at HSL ⊢
      clear hb4 hf3
      go_wp2_with fail
      refine (seed_any _ m b w4 (HM.out.fr hf4) HFM.out.1 (by omega) (HT.out.fr hf4)).mono ?_
      rintro e w5 ⟨rfl, hb5⟩
      have hf5 : Fr [] w w5 := hf4.below hb5 hf4.size
      generalize (seedS m b).1 = sb at HSM ⊢
      generalize (seedS m b).2 = eb at HSM ⊢
      clear hb5 hf4
      by_cases hok : ea = 0 ∧ eb = 0 ∧ sa = sb
      · obtain ⟨h1, h2, h3⟩ := hok
        have HD : Hid (dlist (textsS a l) = dlist (textsS b m)) := Lib.hid (by rw [← HSL.out h1, ← HSM.out h2, h3])
        subst h1 h2 h3
        have t3 : (sa != sa) = false := by simp
        have t3' : (sa == sa) = true := by simp
        clear HSL HSM
        go_wp2_with fail
        go_loopg [14, 15] (l.length + 1) (fun g sv i wr => ∃ (k : Nat) (sk : Bool), k ≤ l.length ∧ g = l.length + 1 - k ∧ i = .int .i64 (k : Int) ∧ sv = .bool sk ∧ sk = decide (textsS a (l.take k) = textsS b (m.take k)) ∧ Fr [] w5 wr)
        case atStart =>
          refine ⟨0, _, by omega, by omega, rfl, rfl, ?_, Fr.refl _ _⟩
          rw [Bool.eq_iff_iff]
          simp [textsS]
        case round =>
          obtain ⟨k, sk, hk, hg, rfl, rfl, hsk, hfr⟩ := hrel
          have HG := Lib.hid hg
          have HSK := Lib.hid hsk
          clear hg hsk
          by_cases hlt : k < l.length
          · obtain ⟨b1, o1, rfl⟩ := hla k hlt
            obtain ⟨b2, o2, rfl⟩ := hma k (by have := HLEN.out; omega)
            have hkm : k < m.length := by have := HLEN.out; omega
            have t4 : decide ((k : Int) < (l.length : Int)) = true := by simp; omega
            obtain ⟨p, hp⟩ : ∃ p, l[k]? = some p := ⟨l[k], List.getElem?_eq_getElem hlt⟩
            obtain ⟨q, hq⟩ : ∃ q, m[k]? = some q := ⟨m[k], List.getElem?_eq_getElem hkm⟩
            obtain ⟨c0, c1, c2⟩ := ((HL.out.fr hf5).fr hfr).cells k p hp
            obtain ⟨d0, d1, d2⟩ := ((HM.out.fr hf5).fr hfr).cells k q hq
            have HST : Hid (decide (textsS a (l.take (k + 1)) = textsS b (m.take (k + 1))) = (sk && p.name == q.name && p.rev == q.rev)) := Lib.hid (by
              rw [texts_snoc a l k p hp, texts_snoc b m k q hq, texts_step, HSK.out])
            clear hp hq
            obtain ⟨pn, pc, pr⟩ := p
            obtain ⟨qn, qc, qr⟩ := q
            simp only at c0 c1 c2 d0 d1 d2 HST
            have fin : ∀ r : Bool, (sk && pn == qn && pr == qr) = r → r = decide (textsS a (l.take (k + 1)) = textsS b (m.take (k + 1))) := fun r h => by rw [HST.out, h]
            have FIN := Lib.hid fin
            clear fin
            cases sk with
            | false =>
              go_wp2_with fail
              go_quiet (fail)
              go_wp2_with fail
              go_roundg (l.length + 1 - (k + 1))
              case measure => have := HG.out; omega
              case rel => exact ⟨k + 1, false, by omega, rfl, by go_num, rfl, FIN.out false (by simp), hfr.drewN _⟩
            | true =>
              by_cases h1 : pn = qn
              · have u1 : (pn == qn) = true := by simp [h1]
                have u1' : (pn != qn) = false := by simp [h1]
                by_cases h2 : pr = qr
                · have u2 : (pr == qr) = true := by simp [h2]
                  have u2' : (pr != qr) = false := by simp [h2]
                  clear h1 h2
                  go_wp2_with fail
                  go_quiet (fail)
                  go_wp2_with fail
                  go_roundg (l.length + 1 - (k + 1))
                  case measure => have := HG.out; omega
                  case rel => exact ⟨k + 1, true, by omega, rfl, by go_num, rfl, FIN.out true (by rw [u1, u2]; rfl), hfr.drewN _⟩
                · have u2 : (pr == qr) = false := by simpa using h2
                  have u2' : (pr != qr) = true := by simpa using h2
                  clear h1 h2
                  go_wp2_with fail
                  go_quiet (fail)
                  go_wp2_with fail
                  go_roundg (l.length + 1 - (k + 1))
                  case measure => have := HG.out; omega
                  case rel => exact ⟨k + 1, false, by omega, rfl, by go_num, rfl, FIN.out false (by rw [u1, u2]; rfl), hfr.drewN _⟩
              · have u1 : (pn == qn) = false := by simpa using h1
                have u1' : (pn != qn) = true := by simpa using h1
                clear h1
                go_wp2_with fail
                go_quiet (fail)
                go_wp2_with fail
                go_roundg (l.length + 1 - (k + 1))
                case measure => have := HG.out; omega
                case rel => exact ⟨k + 1, false, by omega, rfl, by go_num, rfl, FIN.out false (by rw [u1]; rfl), hfr.drewN _⟩
          · obtain rfl : k = l.length := by omega
            have t4 : decide ((l.length : Int) < (l.length : Int)) = false := by simp
            have HFULL : Hid (sk = decide (textsS a l = textsS b m)) := Lib.hid (by
              have h := HSK.out
              rw [List.take_length, HLEN.out, List.take_length] at h
              exact h)
            cases sk with
            | true =>
              go_wp2_with fail
              go_ret
              exact ⟨rfl, (hf5.trans hfr (by simp)).toBelow (by simp)⟩
            | false =>
              have hfw := hf5.trans hfr (by simp)
              go_wp2_with fail
              refine (texts_any _ l a wr (HL.out.fr hfw) (by have := HFL.out.2; omega)).mono ?_
              rintro e w6 ⟨v1, rfl, ho1, hb6⟩
              have hf6 : Fr [] w w6 := hfw.below hb6 hfw.size
              have HS1 := Lib.hid ho1.strs
              clear ho1 hb6
              go_wp2_with fail
              refine (texts_any _ m b w6 (HM.out.fr hf6) (by have := HFM.out.2; omega)).mono ?_
              rintro e w7 ⟨v2, rfl, ho2, hb7⟩
              have hf67 : Fr [] w6 w7 := Fr.ofBelow hb7
              have hf7 : Fr [] w w7 := hf6.trans hf67 (by simp)
              have HS2 := Lib.hid ho2.strs
              have HS3 := Lib.hid (HS1.out.fr0 hf67)
              have HV : Hid ((!decide (textsS a l = textsS b m) && (dlist (textsS a l) == dlist (textsS b m))) = true) := Lib.hid (by
                rw [← HFULL.out, HD.out]; simp)
              clear ho2 hb7 hf67 HS1
              go_wp2_with fail
              refine (collide_any v1 v2 (textsS a l) (textsS b m) w7 HS3.out HS2.out (texts_join (by omega) HFL.out.1 HFL.out.2) (texts_join (by omega) HFM.out.1 HFM.out.2) (HT.out.fr hf7)).mono ?_
              rintro e w8 ⟨rfl, hb8⟩
              rw [HV.out]
              go_wp2_with fail
              go_ret
              exact ⟨rfl, (hf7.below hb8 hf7.size).toBelow (by simp)⟩
      · clear HSL HSM
        by_cases h1 : ea = 0
        · by_cases h2 : eb = 0
          · have h3 : sa ≠ sb := fun h => hok ⟨h1, h2, h⟩
            subst h1 h2
            have t3 : (sa != sb) = true := by simpa using h3
            have t3' : (sa == sb) = false := by simpa using h3
            clear hok h3
            go_wp2_with fail
            go_ret
            exact ⟨rfl, hf5.toBelow (by simp)⟩
          · subst h1
            have t3 : (eb != 0) = true := by simpa using h2
            have t3' : (eb == 0) = false := by simpa using h2
            clear hok h2
            go_wp2_with fail
            go_ret
            exact ⟨rfl, hf5.toBelow (by simp)⟩
        · have t3 : (ea != 0) = true := by simpa using h1
          have t3' : (ea == 0) = false := by simpa using h1
          clear hok h1
          go_wp2_with fail
          go_ret
          exact ⟨rfl, hf5.toBelow (by simp)⟩
    · have t2 : decide ((300 : Int) < (a.length : Int) + (b.length : Int)) = true := by simp; omega
      clear hlen
      go_wp2_with fail
      go_ret
      exact ⟨rfl, hf3.toBelow (by simp)⟩
  · have t1 : ((l.length : Int) != (m.length : Int)) = true := by simp; omega
    clear hlen
    go_wp2_with fail
    go_ret
    exact ⟨rfl, hf3.toBelow (by simp)⟩
end Go.Proofs.YtnbpajcecjpfpaaDoor
