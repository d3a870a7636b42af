/-
  foyerlaw19: DrawMatchesReference.
-/
import Derived.Test.YtnbpajcecjpfpaaDoorDrK
import Derived.Deep.RegionHeld3
namespace Go.Proofs.YtnbpajcecjpfpaaDoor
open Go.RowKit

theorem shuffle_no (seed : ByteArray) (n : Int) (w : World) (hn : n < 0 ∨ 4000 < n) :
    Calls Tryd.prog 16 #[.string seed, .int .i64 n] w fun e w' => e = .returned (.slice none 0 0) ∧ w = w' := by
  rcases hn with hn | hn
  · have t1 : decide (n < 0) = true := by simpa using hn
    go_enter Tryd.func16, Tryd.ntmps16
    go_wp2_with fail
    go_ret
    exact ⟨rfl, rfl⟩
  · have t1 : decide (n < 0) = false := by simp; omega
    have t2 : decide (4000 < n) = true := by simpa using hn
    go_enter Tryd.func16, Tryd.ntmps16
    go_wp2_with fail
    go_ret
    exact ⟨rfl, rfl⟩
theorem rshuffle_no (seed : ByteArray) (n : Int) (w : World) (hn : n < 0 ∨ 4000 < n) :
    Calls Tryd.prog 17 #[.string seed, .int .i64 n] w fun e w' => e = .returned (.slice none 0 0) ∧ w = w' := by
  rcases hn with hn | hn
  · have t1 : decide (n < 0) = true := by simpa using hn
    go_enter Tryd.func17, Tryd.ntmps17
    go_wp2_with fail
    go_ret
    exact ⟨rfl, rfl⟩
  · have t1 : decide (n < 0) = false := by simp; omega
    have t2 : decide (4000 < n) = true := by simpa using hn
    go_enter Tryd.func17, Tryd.ntmps17
    go_wp2_with fail
    go_ret
    exact ⟨rfl, rfl⟩
/-- Both shuffles, compared. -/
def ShufT (n : Int) : Prop := (n < 0 ∨ 4000 < n) ∨ (0 ≤ n ∧ n ≤ 300)

set_option maxRecDepth 100000 in
set_option maxHeartbeats 4000000 in
theorem drawMatchesReference_any (lv : Value) (l : List Pty) (root seed : List UInt8) (n : Int) (w : World) (hsr : root.length ≤ 140737488355328) (hss : seed.length ≤ 140737488355328) (hn : -9223372036854775808 ≤ n ∧ n < 9223372036854775808) (hT : Tabs w) (hl : Pts w lv l) :
    Calls Tryd.prog 3 #[lv, .string ⟨root.toArray⟩, .string ⟨seed.toArray⟩, .int .i64 n] w fun e w' => e = .returned (.bool true) ∧ Below w.heap.size w w' := by
  have hmx : Tryd.prog.follows .mixedOrders = true := by kernel_rfl
  have HT := Lib.hid hT
  have HL := Lib.hid hl
  obtain ⟨la, lcap, rfl, _, _, hla⟩ := hl.form
  clear hT hl
  go_enter Tryd.func3, Tryd.ntmps3
  go_wp2_with fail
  refine (head19_any w HT.out).mono ?_
  rintro e w1 ⟨rfl, hb1⟩
  have hf1 : Fr [] w w1 := (Fr.refl [] w).below hb1 (Nat.le_refl _)
  go_wp2_with fail
  refine (few19_any _ l 20 w1 (HL.out.fr hf1)).mono ?_
  rintro e w2 ⟨rfl, hb2⟩
  have hf2 : Fr [] w w2 := hf1.below hb2 hf1.size
  cases hfl : few19B l 20 with
  | false => go_wp2_with fail; go_ret; exact ⟨rfl, hf2.toBelow (by simp)⟩
  | true => ?_
  have HFL := Lib.hid (few19_all hfl)
  clear hfl hb1 hb2 hf1
  by_cases h300 : root.length + seed.length ≤ 300
  · have t2 : decide ((300 : Int) < (root.length : Int) + (seed.length : Int)) = false := by simp; omega
    by_cases hsh : ShufT n
    · have t3 : decide ((300 : Int) < n) = decide ((4000 : Int) < n) := by
        unfold ShufT at hsh
        rw [Bool.eq_iff_iff]; simp; omega
      obtain ⟨cc, hcc⟩ : ∃ c : Bool, decide ((4000 : Int) < n) = c := ⟨_, rfl⟩
      have t4 : decide (n ≤ (4000 : Int)) = !cc := by
        rw [← hcc, Bool.eq_iff_iff]; simp
      rw [hcc] at t3
      have HSH := Lib.hid hsh
      clear hsh hcc
      cases cc <;> simp only [Bool.not_true, Bool.not_false] at t4
      all_goals
        go_wp2_with fail
        go_loopg [10] (l.length + 1) (fun g i wr => ∃ k : Nat, k ≤ l.length ∧ g = l.length + 1 - k ∧ i = .int .i64 (k : Int) ∧ Fr [] w wr)
        case atStart => exact ⟨0, by omega, by omega, rfl, hf2⟩
        case round =>
          clear hf2
          obtain ⟨k, hk, hg, rfl, hfr⟩ := hrel
          have HG := Lib.hid hg
          clear hg
          by_cases hlt : k < l.length
          · obtain ⟨b, off, rfl⟩ := hla k hlt
            have t5 : decide ((k : Int) < (l.length : Int)) = true := by simp; omega
            obtain ⟨p, hp⟩ : ∃ p, l[k]? = some p := ⟨l[k], List.getElem?_eq_getElem hlt⟩
            have HM := Lib.hid (List.mem_of_getElem? hp)
            obtain ⟨c0, c1, c2⟩ := (HL.out.fr hfr).cells k p hp
            have HPB := Lib.hid (HFL.out.1 p HM.out)
            have HC := Lib.hid (fun W (hW : Tabs W) => right_any p W HPB.out.1 HPB.out.2 hW)
            have HC2 := Lib.hid (fun W => rright_any p W HPB.out.1 HPB.out.2)
            unfold ptyV at HC HC2
            clear hp
            have u1 : (rightB p != rightB p) = false := by simp
            generalize rightB p = rb at HC HC2 u1
            have ik0 : (0 : Int) ≤ (k : Int) := by omega
            have ik1 : (k : Int) < (l.length : Int) := by omega
            go_wp2_with fail
            go_region_held3 (fun w' => w'.cell? ⟨b, off + k * 3, none⟩ = some (.string ⟨p.name.toArray⟩) ∧ w'.cell? ⟨b, off + k * 3 + 1, none⟩ = some (.string ⟨p.com.toArray⟩) ∧ w'.cell? ⟨b, off + k * 3 + 2, none⟩ = some (.string ⟨p.rev.toArray⟩))
              (first
                | exact ⟨hf6.cell c0 (by simp), hf6.cell c1 (by simp), hf6.cell c2 (by simp)⟩
                | exact ⟨hf5.cell c0 (by simp), hf5.cell c1 (by simp), hf5.cell c2 (by simp)⟩
                | go_keep)
              ((first
                | (refine (HC.out _ (HT.out.fr (hfr.drew))).mono ?_; rintro e w5 ⟨rfl, hb5⟩; have hf5 : Fr [] wr w5 := ((Fr.refl [] wr).drew).below hb5 (Nat.le_refl _))
                | (refine (HC2.out _).mono ?_; rintro e w6 ⟨rfl, hb6⟩; have hf6 : Fr [] wr w6 := hf5.below hb6 hf5.size)))
            go_wp2_with fail
            go_roundg (l.length + 1 - (k + 1))
            case measure => have := HG.out; omega
            case rel => exact ⟨k + 1, by omega, rfl, by go_num, hfr.trans hf6 (by simp)⟩
          · obtain rfl : k = l.length := by omega
            have t5 : decide ((l.length : Int) < (l.length : Int)) = false := by simp
            go_wp2_with fail
            refine (seed_any _ l root wr (HL.out.fr hfr) HFL.out.1 (by omega) (HT.out.fr hfr)).mono ?_
            rintro e w5 ⟨rfl, hb5⟩
            have hf5 : Fr [] w w5 := hfr.below hb5 hfr.size
            go_wp2_with fail
            refine (rseed_any _ l root w5 (HL.out.fr hf5) HFL.out.1 (by omega)).mono ?_
            rintro e w6 ⟨rfl, hb6⟩
            have hf6 : Fr [] w w6 := hf5.below hb6 hf5.size
            generalize (seedS l root).1 = sa
            generalize (seedS l root).2 = ea
            have u1 : (sa == sa) = true := by simp
            have u2 : (ea == ea) = true := by simp
            clear hb5 hb6 hf5 hfr
            go_wp2_with fail
            rcases HSH.out with h | ⟨h0, h1⟩
            · refine (shuffle_no _ n w6 h).mono ?_
              rintro e w7 ⟨rfl, rfl⟩
              have HH := Lib.hid h
              clear h
              go_wp2_with fail
              refine (rshuffle_no _ n w6 HH.out).mono ?_
              rintro e w7 ⟨rfl, rfl⟩
              go_wp2_with fail
              refine (ints_any _ _ [] [] w6 (Or.inl ⟨rfl, rfl⟩) (Or.inl ⟨rfl, rfl⟩)).mono ?_
              rintro e w7 ⟨rfl, hb7⟩
              rw [decide_eq_true (rfl : ([] : List Nat) = [])]
              go_wp2_with fail
              go_ret
              exact ⟨rfl, (hf6.below hb7 hf6.size).toBelow (by simp)⟩
            · obtain ⟨m, rfl⟩ := Int.eq_ofNat_of_zero_le h0
              refine (shuffle_any seed m w6 (by omega) (by omega) (HT.out.fr hf6)).mono ?_
              rintro e w7 ⟨g, rfl, _, ha, hb7⟩
              have hf7 : Fr [] w w7 := hf6.below hb7 hf6.size
              have HN := Lib.hid (ha.nums (shufS_length seed m) (by omega))
              clear ha hb7
              go_wp2_with fail
              refine (rshuffle_any seed m w7 (by omega) (by omega)).mono ?_
              rintro e w8 ⟨v8, rfl, hn8, hb8⟩
              have hf8 : Fr [] w w8 := hf7.below hb8 hf7.size
              have HN8 := Lib.hid hn8
              have HN7 := Lib.hid (HN.out.fr0 (Fr.ofBelow hb8))
              clear hn8 hb8
              go_wp2_with fail
              refine (ints_any _ _ (shufS seed m) (shufS seed m) w8 HN7.out HN8.out).mono ?_
              rintro e w9 ⟨rfl, hb9⟩
              rw [decide_eq_true (rfl : shufS seed m = shufS seed m)]
              go_wp2_with fail
              go_ret
              exact ⟨rfl, (hf8.below hb9 hf8.size).toBelow (by simp)⟩
    · have t3 : decide ((300 : Int) < n) = true := by unfold ShufT at hsh; simp; omega
      have t4 : decide (n ≤ (4000 : Int)) = true := by unfold ShufT at hsh; simp; omega
      clear hsh
      go_wp2_with fail
      go_ret
      exact ⟨rfl, hf2.toBelow (by simp)⟩
  · have t2 : decide ((300 : Int) < (root.length : Int) + (seed.length : Int)) = true := by simp; omega
    go_wp2_with fail
    go_ret
    exact ⟨rfl, hf2.toBelow (by simp)⟩
end Go.Proofs.YtnbpajcecjpfpaaDoor
