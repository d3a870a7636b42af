/-
  foyerlaw19: DrawErrors.
-/
import Derived.Test.YtnbpajcecjpfpaaDoorDrK
import Derived.Test.YtnbpajcecjpfpaaDoorMapB
namespace Go.Proofs.YtnbpajcecjpfpaaDoor
open Go.RowKit

/-- What the law has gathered behind k parties. -/
def goodT (l : List Pty) (k : Nat) : Bool := decide (l.length ≤ 16) && (l.take k).all rightB && (List.range k).all (fun j => !dupAt l j)
def namesT (l : List Pty) (k : Nat) (s : List UInt8) : Bool := (l.take k).any fun q => q.name == s
theorem namesT_step (l : List Pty) (k : Nat) (p : Pty) (hp : l[k]? = some p) : namesT l (k + 1) = putB (namesT l k) p.name true := by
  funext s
  unfold namesT putB
  rw [List.take_add_one, hp, List.any_append]
  by_cases h : s = p.name
  · simp [h]
  · have : (p.name == s) = false := by simpa using fun h' => h (Eq.symm h')
    simp [h, this]
theorem goodT_step (l : List Pty) (k : Nat) (p : Pty) (hp : l[k]? = some p) : goodT l (k + 1) = (goodT l k && rightB p && !namesT l k p.name) := by
  have h1 : dupAt l k = namesT l k p.name := by unfold dupAt namesT; rw [hp]
  unfold goodT
  rw [List.take_add_one, hp, List.all_append, List.range_succ, List.all_append, ← h1]
  simp only [Option.toList_some, List.all_cons, List.all_nil, Bool.and_true]
  cases decide (l.length ≤ 16) <;> cases (l.take k).all rightB <;> cases rightB p <;> cases (List.range k).all (fun j => !dupAt l j) <;> rfl
theorem goodT_end (l : List Pty) (root : List UInt8) : ((seedS l root).1.length ≤ 16) ∧ (goodT l l.length = true → (seedS l root).2 = 0 ∧ isD (seedS l root).1 = true) ∧
    (goodT l l.length = false → (seedS l root).2 ≠ 0 ∧ (seedS l root).1 = []) := by
  unfold goodT seedS
  rw [List.take_length]
  by_cases h1 : 16 < l.length
  · rw [if_pos h1]
    have : ¬ l.length ≤ 16 := by omega
    simp [this]
  · rw [if_neg h1]
    have h1' : l.length ≤ 16 := by omega
    have e : (List.range l.length).all (fun j => !dupAt l j) = !(List.range l.length).any (dupAt l) := by
      rw [List.not_any_eq_all_not]
    rw [e]
    cases h2 : (List.range l.length).any (dupAt l) with
    | true => simp
    | false =>
      have e2 : l.all rightB = !l.any (fun p => !rightB p) := by rw [List.not_any_eq_all_not]; simp
      rw [e2]
      cases h3 : l.any (fun p => !rightB p) with
      | true => simp
      | false =>
        refine ⟨?_, fun _ => ⟨rfl, dsum_isD _⟩, fun h => ?_⟩
        · exact Nat.le_of_eq (dsum_length _)
        · simp [h1'] at h

set_option maxRecDepth 100000 in
set_option maxHeartbeats 4000000 in
theorem drawErrors_any (lv : Value) (l : List Pty) (root : List UInt8) (w : World) (hT : Tabs w) (hl : Pts w lv l) :
    Calls Tryd.prog 8 #[lv, .string ⟨root.toArray⟩] w fun e w' => e = .returned (.bool true) ∧ Below w.heap.size w w' := by
  have hmx : Tryd.prog.follows .mixedOrders = true := by kernel_rfl
  have HT := Lib.hid hT
  have HL := Lib.hid hl
  obtain ⟨la, lcap, rfl, _, _, hla⟩ := hl.form
  clear hT hl
  have hmm := @run_makeMap Tryd.prog
  go_enter Tryd.func8, Tryd.ntmps8
  go_wp2_with fail
  refine (head19_any w HT.out).mono ?_
  rintro e w1 ⟨rfl, hb1⟩
  have hf1 : Fr [] w w1 := (Fr.refl [] w).below hb1 (Nat.le_refl _)
  go_wp2_with fail
  refine (few19_any _ l 20 w1 (HL.out.fr hf1)).mono ?_
  rintro e w2 ⟨rfl, hb2⟩
  have hf2 : Fr [] w w2 := hf1.below hb2 hf1.size
  cases hfl : few19B l 20 with
  | false => go_wp2_with fail; go_ret; exact ⟨rfl, hf2.toBelow (by simp)⟩
  | true => ?_
  have HFL := Lib.hid (few19_all hfl)
  clear hfl hb1 hb2 hf1
  by_cases h200 : root.length ≤ 200
  · have t2 : decide ((200 : Int) < (root.length : Int)) = false := by simp; omega
    go_wp2_with fail
    refine (seed_any _ l root w2 (HL.out.fr hf2) HFL.out.1 (by omega) (HT.out.fr hf2)).mono ?_
    rintro e w3 ⟨rfl, hb3⟩
    have hf3 : Fr [] w w3 := hf2.below hb3 hf2.size
    have HE := Lib.hid (goodT_end l root)
    generalize (seedS l root).1 = sa at HE ⊢
    generalize (seedS l root).2 = ea at HE ⊢
    clear hb3 hf2
    obtain ⟨g0, hg0, eg0⟩ : ∃ g0 : Bool, g0 = goodT l 0 ∧ decide ((l.length : Int) ≤ 16) = g0 := ⟨_, rfl, by
      unfold goodT
      rw [Bool.eq_iff_iff]; simp; omega⟩
    have HG0 := Lib.hid hg0
    have HM0 := Lib.hid (MapB.made w3)
    have hfm : Fr [] w (w3.alloc (.map #[] 0)) := hf3.alloc _
    have HMB := Lib.hid hf3.size
    clear hg0 hf3
    go_wp2_with fail
    generalize w3.heap.size = mb at HM0 HMB ⊢
    generalize w3.alloc (.map #[] 0) = w4 at HM0 hfm ⊢
    go_loopg [8, 10] (l.length + 1) (fun g gv i wr => ∃ (k : Nat) (gk : Bool), k ≤ l.length ∧ g = l.length + 1 - k ∧ i = .int .i64 (k : Int) ∧ gv = .bool gk ∧ gk = goodT l k ∧ MapB wr mb k (namesT l k) ∧ Fr [] w wr)
    case atStart => exact ⟨0, g0, by omega, by omega, rfl, rfl, HG0.out, HM0.out, hfm⟩
    case round =>
      clear hfm HM0 eg0
      obtain ⟨k, gk, hk, hg, rfl, rfl, hgk, hmb, hfr⟩ := hrel
      have HG := Lib.hid hg
      have HGK := Lib.hid hgk
      have HMP := Lib.hid hmb
      clear hg hgk hmb
      by_cases hlt : k < l.length
      · obtain ⟨b, off, rfl⟩ := hla k hlt
        have t4 : decide ((k : Int) < (l.length : Int)) = true := by simp; omega
        obtain ⟨p, hp⟩ : ∃ p, l[k]? = some p := ⟨l[k], List.getElem?_eq_getElem hlt⟩
        have HM := Lib.hid (List.mem_of_getElem? hp)
        have HPC := Lib.hid (fun W (hW : Fr [] w W) => (HL.out.fr hW).cells k p hp)
        obtain ⟨c0, c1, c2⟩ := HPC.out wr hfr
        have HS1 := Lib.hid (namesT_step l k p hp)
        have HS2 := Lib.hid (goodT_step l k p hp)
        have HPB := Lib.hid (HFL.out.1 p HM.out)
        have hkl : k < 1000000 := by have := HFL.out.2; omega
        have hpl : p.name.length ≤ 9223372036854775807 := by have := HPB.out.1; omega
        have hbm : b ≠ mb := by
          rintro rfl
          have h0 := World.block_lt_of_cell? w _ ((HL.out.cells k p hp).1)
          have := HMB.out
          simp at h0; omega
        clear hp
        cases gk with
        | false =>
          have HN : Hid (false = goodT l (k + 1)) := Lib.hid (by rw [HS2.out, ← HGK.out]; rfl)
          go_wp2_with (at_mapUpdate; go_loud (refine wpList_putB rfl (.tmp 55) (.tmp 60) (.const (.bool true)) rfl mb k (namesT l k) rfl HMP.out hkl p.name true rfl rfl hpl ?_))
          intro w5 hm5 hf5
          have HM5 : Hid (MapB w5 mb (k + 1) (namesT l (k + 1))) := Lib.hid (by rw [HS1.out]; exact hm5)
          have hf6 : Fr [] w w5 := hfr.trans hf5 (fun y hy => by rw [List.mem_singleton.1 hy]; exact Or.inr HMB.out)
          clear hm5 hf5
          go_wp2_with fail
          go_roundg (l.length + 1 - (k + 1))
          case measure => have := HG.out; omega
          case rel => exact ⟨k + 1, false, by omega, rfl, by go_num, rfl, HN.out, HM5.out, hf6⟩
        | true =>
          have HC := Lib.hid (right_any p wr HPB.out.1 HPB.out.2 (HT.out.fr hfr))
          unfold ptyV at HC
          go_wp2_with fail
          refine HC.out.mono ?_
          rintro e w5 ⟨rfl, hb5⟩
          have hf45 : Fr [] wr w5 := Fr.ofBelow hb5
          have hf5 : Fr [] w w5 := hfr.below hb5 hfr.size
          have HMP5 := Lib.hid (HMP.out.fr hf45 (by simp))
          obtain ⟨d0, d1, d2⟩ := HPC.out w5 hf5
          clear c0 c1 c2 hb5 hf45 HMP hfr
          cases hrp : rightB p with
          | false =>
            have HN : Hid (false = goodT l (k + 1)) := Lib.hid (by rw [HS2.out, hrp]; simp)
            clear hrp
            go_wp2_with (at_mapUpdate; go_loud (refine wpList_putB rfl (.tmp 55) (.tmp 60) (.const (.bool true)) rfl mb k (namesT l k) rfl HMP5.out hkl p.name true rfl rfl hpl ?_))
            intro w6 hm6 hf6
            have HM6 : Hid (MapB w6 mb (k + 1) (namesT l (k + 1))) := Lib.hid (by rw [HS1.out]; exact hm6)
            have hf7 : Fr [] w w6 := hf5.trans hf6 (fun y hy => by rw [List.mem_singleton.1 hy]; exact Or.inr HMB.out)
            clear hm6 hf6
            go_wp2_with fail
            go_roundg (l.length + 1 - (k + 1))
            case measure => have := HG.out; omega
            case rel => exact ⟨k + 1, false, by omega, rfl, by go_num, rfl, HN.out, HM6.out, hf7⟩
          | true =>
            have hlook := HMP5.out.look p.name hpl
            have HN : Hid (∀ r : Bool, (!namesT l k p.name) = r → r = goodT l (k + 1)) := Lib.hid (fun r h => by rw [HS2.out, hrp, ← HGK.out, ← h]; rfl)
            clear hrp
            cases hnm : namesT l k p.name <;> rw [hnm] at hlook <;> have HNM := Lib.hid hnm <;> clear hnm
            all_goals
              go_wp2_with (at_mapUpdate; go_loud (refine wpList_putB rfl (.tmp 55) (.tmp 60) (.const (.bool true)) rfl mb k (namesT l k) rfl HMP5.out hkl p.name true rfl rfl hpl ?_))
              intro w6 hm6 hf6
              have HM6 : Hid (MapB w6 mb (k + 1) (namesT l (k + 1))) := Lib.hid (by rw [HS1.out]; exact hm6)
              have hf7 : Fr [] w w6 := hf5.trans hf6 (fun y hy => by rw [List.mem_singleton.1 hy]; exact Or.inr HMB.out)
              clear hm6 hf6 hlook
              go_wp2_with fail
              go_roundg (l.length + 1 - (k + 1))
              case measure => have := HG.out; omega
              case rel => exact ⟨k + 1, _, by omega, rfl, by go_num, rfl, HN.out _ (by rw [HNM.out]; rfl), HM6.out, hf7⟩
      · obtain rfl : k = l.length := by omega
        have t4 : decide ((l.length : Int) < (l.length : Int)) = false := by simp
        have hsl : sa.length ≤ 9223372036854775807 := by have := HE.out.1; omega
        cases gk with
        | true =>
          obtain ⟨rfl, hid⟩ := HE.out.2.1 HGK.out.symm
          have HID := Lib.hid hid
          clear hid
          go_wp2_with fail
          refine (is_any sa wr hsl).mono ?_
          rintro e w5 ⟨rfl, hb5⟩
          rw [HID.out]
          go_wp2_with fail
          go_ret
          exact ⟨rfl, (hfr.below hb5 hfr.size).toBelow (by simp)⟩
        | false =>
          obtain ⟨hne, rfl⟩ := HE.out.2.2 HGK.out.symm
          have u1 : (ea == 0) = false := by simpa using hne
          have u2 : (ea != 0) = true := by simpa using hne
          clear hne
          go_wp2_with fail
          refine (is_any [] wr (by simp)).mono ?_
          rintro e w5 ⟨rfl, hb5⟩
          rw [show isD [] = false by decide]
          go_wp2_with fail
          go_ret
          exact ⟨rfl, (hfr.below hb5 hfr.size).toBelow (by simp)⟩
  · have t2 : decide ((200 : Int) < (root.length : Int)) = true := by simp; omega
    go_wp2_with fail
    go_ret
    exact ⟨rfl, hf2.toBelow (by simp)⟩
end Go.Proofs.YtnbpajcecjpfpaaDoor
