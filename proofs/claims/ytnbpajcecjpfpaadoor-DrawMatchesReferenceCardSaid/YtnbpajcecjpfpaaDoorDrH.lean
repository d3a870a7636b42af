/-
  The reference of layer 19: Few, Texts.
-/
import Derived.Test.YtnbpajcecjpfpaaDoorDrD
namespace Go.Proofs.YtnbpajcecjpfpaaDoor
open Go.RowKit

def smallP (p : Pty) : Bool := decide (p.name.length ≤ 200) && decide (p.com.length ≤ 200) && decide (p.rev.length ≤ 200)
def few19B (l : List Pty) (n : Nat) : Bool := l.all smallP && decide (l.length ≤ n)

theorem few19_all {l : List Pty} {n : Nat} (h : few19B l n = true) : (∀ p ∈ l, p.name.length ≤ 1000000 ∧ p.rev.length ≤ 1000000) ∧ l.length ≤ n := by
  simp only [few19B, Bool.and_eq_true, decide_eq_true_eq, List.all_eq_true] at h
  refine ⟨fun p hp => ?_, h.2⟩
  have := h.1 p hp
  simp only [smallP, Bool.and_eq_true, decide_eq_true_eq] at this
  omega

set_option maxRecDepth 100000 in
set_option maxHeartbeats 1000000 in
theorem few19_any (v : Value) (l : List Pty) (n : Nat) (w : World) (hv : Pts w v l) :
    Calls Tryd.prog 10 #[v, .int .i64 (n : Int)] w fun e w' => e = .returned (.bool (few19B l n)) ∧ Below w.heap.size w w' := by
  have hmx : Tryd.prog.follows .mixedOrders = true := by kernel_rfl
  have HV := Lib.hid hv
  obtain ⟨a, cap, rfl, hlc, hcap, ha⟩ := hv.form
  clear hv
  by_cases hn : l.length ≤ n
  · have t0 : decide ((l.length : Int) ≤ (n : Int)) = true := by simp; omega
    go_enter Tryd.func10, Tryd.ntmps10
    go_wp2_with fail
    go_loopg [5] (l.length + 1) (fun g i wr => ∃ k : Nat, k ≤ l.length ∧ g = l.length + 1 - k ∧ i = .int .i64 (k : Int) ∧ (l.take k).all smallP = true ∧ Fr [] w wr)
    case atStart => exact ⟨0, by omega, by omega, rfl, by simp, Fr.refl _ _⟩
    case round =>
      obtain ⟨k, hk, hg, rfl, hall, hfr⟩ := hrel
      have HG := Lib.hid hg
      have HALL := Lib.hid hall
      clear hg hall
      by_cases hlt : k < l.length
      · obtain ⟨b, off, rfl⟩ := ha k hlt
        have t1 : decide ((k : Int) < (l.length : Int)) = true := by simp; omega
        obtain ⟨p, hp⟩ : ∃ p, l[k]? = some p := ⟨l[k], List.getElem?_eq_getElem hlt⟩
        obtain ⟨c0, c1, c2⟩ := (HV.out.fr hfr).cells k p hp
        have HM := Lib.hid (List.mem_of_getElem? hp)
        have HS : Hid ((l.take (k + 1)).all smallP = ((l.take k).all smallP && smallP p)) := Lib.hid (by
          rw [List.take_add_one, hp, List.all_append]; simp)
        clear hp
        by_cases hs : p.name.length ≤ 200 ∧ p.com.length ≤ 200 ∧ p.rev.length ≤ 200
        · have HSP : Hid (smallP p = true) := Lib.hid (by simp [smallP, hs])
          obtain ⟨h1, h2, h3⟩ := hs
          have t2 : decide ((200 : Int) < (p.name.length : Int)) = false := by simp; omega
          have t3 : decide ((200 : Int) < (p.com.length : Int)) = false := by simp; omega
          have t4 : decide ((200 : Int) < (p.rev.length : Int)) = false := by simp; omega
          go_wp2_with fail
          go_roundg (l.length + 1 - (k + 1))
          case measure => have := HG.out; omega
          case rel => exact ⟨k + 1, by omega, rfl, by go_num, by rw [HS.out, HALL.out, HSP.out]; rfl, hfr⟩
        · have HF : Hid (few19B l n = false) := Lib.hid (by
            have h : smallP p = false := by
              cases h : smallP p with
              | false => rfl
              | true => exact absurd (by simpa [smallP, and_assoc] using h) hs
            unfold few19B
            rw [Bool.and_eq_false_iff]
            left
            rw [List.all_eq_false]
            exact ⟨p, HM.out, by rw [h]; decide⟩)
          go_wp2_with fail
          all_goals go_ret
          all_goals exact ⟨by rw [HF.out]; rfl, hfr.toBelow (by simp)⟩
      · obtain rfl : k = l.length := by omega
        have t1 : decide ((l.length : Int) < (l.length : Int)) = false := by simp
        have HR : Hid (few19B l n = true) := Lib.hid (by have h := HALL.out; rw [List.take_length] at h; simp [few19B, h, hn])
        go_wp2_with fail
        go_ret
        exact ⟨by rw [HR.out]; rfl, hfr.toBelow (by simp)⟩
  · have t0 : decide ((l.length : Int) ≤ (n : Int)) = false := by simp; omega
    have HR : Hid (few19B l n = false) := Lib.hid (by simp [few19B, hn])
    have t1 : decide ((0 : Int) < (l.length : Int)) = true := by simp; omega
    go_enter Tryd.func10, Tryd.ntmps10
    go_wp2_with fail
    refine wp_loop_rounds 1 ?_; rw [rounds_succ]
    go_wp2_with fail
    go_ret
    exact ⟨by rw [HR.out]; rfl, Below.refl _ _⟩

set_option maxRecDepth 100000 in
set_option maxHeartbeats 1000000 in
theorem texts_any (v : Value) (l : List Pty) (root : List UInt8) (w : World) (hv : Pts w v l) (hl : l.length ≤ 1000) :
    Calls Tryd.prog 19 #[v, .string ⟨root.toArray⟩] w fun e w' => ∃ v', e = .returned v' ∧ OwnS w.heap.size w' v' (textsS root l) ∧ Below w.heap.size w w' := by
  have hmx : Tryd.prog.follows .mixedOrders = true := by kernel_rfl
  have HV := Lib.hid hv
  obtain ⟨a, cap, rfl, hlc, hcap, ha⟩ := hv.form
  clear hv
  go_enter Tryd.func19, Tryd.ntmps19
  go_wp2_with fail
  go_loopg [5, 6] (l.length + 1) (fun g ev i wr => ∃ k : Nat, k ≤ l.length ∧ g = l.length + 1 - k ∧ i = .int .i64 (k : Int) ∧ OwnS w.heap.size wr ev (textsS root (l.take k)) ∧ Fr [] w wr)
  case atStart => exact ⟨0, by omega, by omega, rfl, OwnS.one (Nat.le_refl _), (Fr.refl [] w).alloc _⟩
  case round =>
    obtain ⟨k, hk, hg, rfl, ho, hfr⟩ := hrel
    have HG := Lib.hid hg
    have HO := Lib.hid ho
    clear hg ho
    by_cases hlt : k < l.length
    · obtain ⟨b, off, rfl⟩ := ha k hlt
      have t2 : decide ((k : Int) < (l.length : Int)) = true := by simp; omega
      obtain ⟨p, hp⟩ : ∃ p, l[k]? = some p := ⟨l[k], List.getElem?_eq_getElem hlt⟩
      obtain ⟨c0, c1, c2⟩ := (HV.out.fr hfr).cells k p hp
      obtain ⟨e0, _, e2⟩ := HV.out.cells k p hp
      have HS := Lib.hid (texts_snoc root l k p hp)
      have hlen : (textsS root (l.take k)).length ≤ 100000 := by rw [texts_length, List.length_take]; omega
      clear hp
      generalize textsS root (l.take k) = L at HO HS hlen
      go_wp2_with fail
      have hc0 := c0
      have hc1 := c2
      have hh0 : Fr [] wr wr.drew := (Fr.refl [] wr).drew
      have hS0 : wr.drew.cell? ⟨b, off + k * 3, none⟩ = some (.string ⟨p.name.toArray⟩) ∧ wr.drew.cell? ⟨b, off + k * 3 + 2, none⟩ = some (.string ⟨p.rev.toArray⟩) := ⟨hh0.cell hc0 (by simp), hh0.cell hc1 (by simp)⟩
      refine region_held 13 (fun W' => W'.cell? ⟨b, off + k * 3, none⟩ = some (.string ⟨p.name.toArray⟩) ∧ W'.cell? ⟨b, off + k * 3 + 2, none⟩ = some (.string ⟨p.rev.toArray⟩)) hmx ?_
      change Held _ _ _ _ _ _ 14 (Array.replicate 14 false) _ _
      refine held_take 0 (v := u5) rfl (by kernel_rfl) (by kernel_rfl) (by kernel_rfl) rfl hS0 (fun W' hS => by go_simp) rfl ?_
      refine held_take 1 (v := .slice (some ⟨b, off, none⟩) l.length cap) rfl (by kernel_rfl) (by kernel_rfl) (by kernel_rfl) rfl hS0 (fun W' hS => by go_simp) rfl ?_
      refine held_take 2 (v := .int .i64 (k : Int)) rfl (by kernel_rfl) (by kernel_rfl) (by kernel_rfl) rfl hS0 (fun W' hS => by go_simp) rfl ?_
      refine held_take 6 (v := .slice (some ⟨b, off, none⟩) l.length cap) rfl (by kernel_rfl) (by kernel_rfl) (by kernel_rfl) rfl hS0 (fun W' hS => by go_simp) rfl ?_
      refine held_take 7 (v := .int .i64 (k : Int)) rfl (by kernel_rfl) (by kernel_rfl) (by kernel_rfl) rfl hS0 (fun W' hS => by go_simp) rfl ?_
      simp only [Act.put]
      refine held_take 3 (v := .pointer (some ⟨b, off + k * 3, none⟩)) rfl (by kernel_rfl) (by kernel_rfl) (by kernel_rfl) rfl hS0 (fun W' hS => by first | (go_simp; done) | (go_simp; intro hix; omega)) rfl ?_
      refine held_take 8 (v := .pointer (some ⟨b, off + k * 3, none⟩)) rfl (by kernel_rfl) (by kernel_rfl) (by kernel_rfl) rfl hS0 (fun W' hS => by first | (go_simp; done) | (go_simp; intro hix; omega)) rfl ?_
      simp only [Act.put]
      refine held_take 4 (v := .pointer (some ⟨b, off + k * 3, none⟩)) rfl (by kernel_rfl) (by kernel_rfl) (by kernel_rfl) rfl hS0 (fun W' hS => by go_simp) rfl ?_
      refine held_take 9 (v := .pointer (some ⟨b, off + k * 3 + 2, none⟩)) rfl (by kernel_rfl) (by kernel_rfl) (by kernel_rfl) rfl hS0 (fun W' hS => by go_simp) rfl ?_
      simp only [Act.put]
      refine held_take 5 (v := .string ⟨p.name.toArray⟩) rfl (by kernel_rfl) (by kernel_rfl) (by kernel_rfl) rfl hS0 (fun W' hS => by obtain ⟨h0, h1⟩ := hS; go_simp) rfl ?_
      refine held_take 10 (v := .string ⟨p.rev.toArray⟩) rfl (by kernel_rfl) (by kernel_rfl) (by kernel_rfl) rfl hS0 (fun W' hS => by obtain ⟨h0, h1⟩ := hS; go_simp) rfl ?_
      simp only [Act.put]
      refine held_one 11 (by kernel_rfl) rfl rfl rfl (fun K' hK => ?_)
      go_simp
      have hh1 := hh0.alloc (.cells #[.string ⟨p.name.toArray⟩, .string ⟨p.rev.toArray⟩] 9)
      have hS1 : (wr.drew.alloc (.cells #[.string ⟨p.name.toArray⟩, .string ⟨p.rev.toArray⟩] 9)).cell? ⟨b, off + k * 3, none⟩ = some (.string ⟨p.name.toArray⟩) ∧ (wr.drew.alloc (.cells #[.string ⟨p.name.toArray⟩, .string ⟨p.rev.toArray⟩] 9)).cell? ⟨b, off + k * 3 + 2, none⟩ = some (.string ⟨p.rev.toArray⟩) := ⟨hh1.cell hc0 (by simp), hh1.cell hc1 (by simp)⟩
      refine hK.out _ _ (fun _ => hS1) ?_
      clear hK K'
      try simp only [Act.put]
      refine held_one 12 (by kernel_rfl) rfl rfl rfl (fun K' hK => ?_)
      have hfx := hfr.trans hh1 (by simp)
      have HO4 := Lib.hid ((HO.out.fr ((Fr.refl [] wr).drew) (by simp)).fr ((Fr.refl [] wr.drew).alloc (.cells #[.string ⟨p.name.toArray⟩, .string ⟨p.rev.toArray⟩] 9)) (by simp))
      refine wp_appM (.tmp 15) (.tmp 26) rfl w.heap.size u5 L [p.name, p.rev] wr.heap.size 0 2 2 w (by kernel_rfl) (by kernel_rfl) rfl (strs_two (heap_new rfl)) HO4.out hfx (Nat.le_refl _) hfx.size (by omega) ?_
      intro yv w5 hoy hfr5 hfo
      have HOY := Lib.hid hoy
      have hc0 := e0
      have hc1 := e2
      clear hoy HO4 HO
      have hS2 : w5.cell? ⟨b, off + k * 3, none⟩ = some (.string ⟨p.name.toArray⟩) ∧ w5.cell? ⟨b, off + k * 3 + 2, none⟩ = some (.string ⟨p.rev.toArray⟩) := ⟨hfr5.cell hc0 (by simp), hfr5.cell hc1 (by simp)⟩
      refine hK.out _ _ (fun _ => hS2) ?_
      clear hK K'
      try simp only [Act.put]
      refine held_one 13 (by kernel_rfl) rfl rfl rfl (fun K' hK => ?_)
      go_simp
      refine hK.out _ _ (fun h => absurd rfl h) ?_
      clear hK K'
      refine held_done (by kernel_rfl) ?_
      go_wp2_with fail
      go_roundg (l.length + 1 - (k + 1))
      case measure => have := HG.out; omega
      case rel => exact ⟨k + 1, by omega, rfl, by go_num, by rw [HS.out]; exact HOY.out, hfr5⟩
    · obtain rfl : k = l.length := by omega
      have t2 : decide ((l.length : Int) < (l.length : Int)) = false := by simp
      have HO2 : Hid (OwnS w.heap.size wr u5 (textsS root l)) := Lib.hid (by have := HO.out; rwa [List.take_length] at this)
      clear HO
      go_wp2_with fail
      go_ret
      exact ⟨_, rfl, HO2.out, hfr.toBelow (by simp)⟩
end Go.Proofs.YtnbpajcecjpfpaaDoor
