/-
  The reference of layer 19: Few.
-/
import Derived.Test.YtcohghaanakiiaaGreatDoorPty
namespace Go.Proofs.YtcohghaanakiiaaGreatDoor
open Go.RowKit

def smallP (p : Pty) : Bool := decide (p.name.length ≤ 200) && decide (p.com.length ≤ 200) && decide (p.rev.length ≤ 200)
def few19B (l : List Pty) (n : Nat) : Bool := l.all smallP && decide (l.length ≤ n)

theorem few19_all {l : List Pty} {n : Nat} (h : few19B l n = true) : (∀ p ∈ l, p.name.length ≤ 1000000 ∧ p.rev.length ≤ 1000000) ∧ l.length ≤ n := by
  simp only [few19B, Bool.and_eq_true, decide_eq_true_eq, List.all_eq_true] at h
  refine ⟨fun p hp => ?_, h.2⟩
  have := h.1 p hp
  simp only [smallP, Bool.and_eq_true, decide_eq_true_eq] at this
  omega

set_option maxRecDepth 100000 in
set_option maxHeartbeats 1000000 in
theorem few19_any (v : Value) (l : List Pty) (n : Nat) (w : World) (hv : Pts w v l) :
    Calls Tryz.prog 36 #[v, .int .i64 (n : Int)] w fun e w' => e = .returned (.bool (few19B l n)) ∧ Below w.heap.size w w' := by
  have hmx : Tryz.prog.follows .mixedOrders = true := by kernel_rfl
  have HV := Lib.hid hv
  obtain ⟨a, cap, rfl, hlc, hcap, ha⟩ := hv.form
  clear hv
  by_cases hn : l.length ≤ n
  · have t0 : decide ((l.length : Int) ≤ (n : Int)) = true := by simp; omega
    go_enter Tryz.func36, Tryz.ntmps36
    go_wp2_with fail
    go_loopg [5] (l.length + 1) (fun g i wr => ∃ k : Nat, k ≤ l.length ∧ g = l.length + 1 - k ∧ i = .int .i64 (k : Int) ∧ (l.take k).all smallP = true ∧ Fr [] w wr)
    case atStart => exact ⟨0, by omega, by omega, rfl, by simp, Fr.refl _ _⟩
    case round =>
      obtain ⟨k, hk, hg, rfl, hall, hfr⟩ := hrel
      have HG := Lib.hid hg
      have HALL := Lib.hid hall
      clear hg hall
      by_cases hlt : k < l.length
      · obtain ⟨b, off, rfl⟩ := ha k hlt
        have t1 : decide ((k : Int) < (l.length : Int)) = true := by simp; omega
        obtain ⟨p, hp⟩ : ∃ p, l[k]? = some p := ⟨l[k], List.getElem?_eq_getElem hlt⟩
        obtain ⟨c0, c1, c2⟩ := (HV.out.fr hfr).cells k p hp
        have HM := Lib.hid (List.mem_of_getElem? hp)
        have HS : Hid ((l.take (k + 1)).all smallP = ((l.take k).all smallP && smallP p)) := Lib.hid (by
          rw [List.take_add_one, hp, List.all_append]; simp)
        clear hp
        by_cases hs : p.name.length ≤ 200 ∧ p.com.length ≤ 200 ∧ p.rev.length ≤ 200
        · have HSP : Hid (smallP p = true) := Lib.hid (by simp [smallP, hs])
          obtain ⟨h1, h2, h3⟩ := hs
          have t2 : decide ((200 : Int) < (p.name.length : Int)) = false := by simp; omega
          have t3 : decide ((200 : Int) < (p.com.length : Int)) = false := by simp; omega
          have t4 : decide ((200 : Int) < (p.rev.length : Int)) = false := by simp; omega
          go_wp2_with fail
          go_roundg (l.length + 1 - (k + 1))
          case measure => have := HG.out; omega
          case rel => exact ⟨k + 1, by omega, rfl, by go_num, by rw [HS.out, HALL.out, HSP.out]; rfl, hfr⟩
        · have HF : Hid (few19B l n = false) := Lib.hid (by
            have h : smallP p = false := by
              cases h : smallP p with
              | false => rfl
              | true => exact absurd (by simpa [smallP, and_assoc] using h) hs
            unfold few19B
            rw [Bool.and_eq_false_iff]
            left
            rw [List.all_eq_false]
            exact ⟨p, HM.out, by rw [h]; decide⟩)
          go_wp2_with fail
          all_goals go_ret
          all_goals exact ⟨by rw [HF.out]; rfl, hfr.toBelow (by simp)⟩
      · obtain rfl : k = l.length := by omega
        have t1 : decide ((l.length : Int) < (l.length : Int)) = false := by simp
        have HR : Hid (few19B l n = true) := Lib.hid (by have h := HALL.out; rw [List.take_length] at h; simp [few19B, h, hn])
        go_wp2_with fail
        go_ret
        exact ⟨by rw [HR.out]; rfl, hfr.toBelow (by simp)⟩
  · have t0 : decide ((l.length : Int) ≤ (n : Int)) = false := by simp; omega
    have HR : Hid (few19B l n = false) := Lib.hid (by simp [few19B, hn])
    have t1 : decide ((0 : Int) < (l.length : Int)) = true := by simp; omega
    go_enter Tryz.func36, Tryz.ntmps36
    go_wp2_with fail
    refine wp_loop_rounds 1 ?_; rw [rounds_succ]
    go_wp2_with fail
    go_ret
    exact ⟨by rw [HR.out]; rfl, Below.refl _ _⟩
end Go.Proofs.YtcohghaanakiiaaGreatDoor
