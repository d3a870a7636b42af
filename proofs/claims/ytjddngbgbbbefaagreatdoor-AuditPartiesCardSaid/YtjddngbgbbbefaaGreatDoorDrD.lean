/-
  foyerref01.Ints; foyerlaw19: head.
  The reference of layer 19: Few.
  The reference of layer 19: Few, Texts.
  The reference of layer 19: Right.
  The reference of layer 19: Seed, Shuffle.
-/
import Derived.Test.YtjddngbgbbbefaaGreatDoorDrA
import Derived.Test.YtjddngbgbbbefaaGreatDoorTwo
import Derived.Test.YtjddngbgbbbefaaGreatDoorRefW
import Derived.Test.YtjddngbgbbbefaaGreatDoorArr
import Derived.Test.YtjddngbgbbbefaaGreatDoorPty
namespace Go.Proofs.YtjddngbgbbbefaaGreatDoor
open Go.RowKit

theorem pInfoD : (Tryz.prog.info? 46).map (fun i => (i.zero, i.size, i.bytes)) = some (some (.agg #[.string ⟨#[]⟩, .string ⟨#[]⟩, .string ⟨#[]⟩]), 3, 48) := by kernel_rfl
theorem seed_big (a : Option Addr) (n cap : Nat) (root : List UInt8) (w : World) (hn : 16 < n) :
    Calls Tryz.prog 35 #[.slice a n cap, .string ⟨root.toArray⟩] w fun e w' => e = .returned (.tuple #[.string ⟨#[]⟩, .int .i64 3]) ∧ Below w.heap.size w w' := by
  have t1 : decide ((16 : Int) < (n : Int)) = true := by simp; omega
  go_enter Tryz.func35, Tryz.ntmps35
  go_wp2_with fail
  go_ret2
  exact ⟨rfl, Below.refl _ _⟩
def tAnn : List UInt8 := [97, 110, 110]
def tRed : List UInt8 := [114, 101, 100]
def tBlue : List UInt8 := [98, 108, 117, 101]
def tRoot : List UInt8 := [114, 111, 111, 116]
end Go.Proofs.YtjddngbgbbbefaaGreatDoor
namespace Go.Proofs.YtjddngbgbbbefaaGreatDoor
open Go.RowKit

def smallP (p : Pty) : Bool := decide (p.name.length ≤ 200) && decide (p.com.length ≤ 200) && decide (p.rev.length ≤ 200)
def few19B (l : List Pty) (n : Nat) : Bool := l.all smallP && decide (l.length ≤ n)

theorem few19_all {l : List Pty} {n : Nat} (h : few19B l n = true) : (∀ p ∈ l, p.name.length ≤ 1000000 ∧ p.rev.length ≤ 1000000) ∧ l.length ≤ n := by
  simp only [few19B, Bool.and_eq_true, decide_eq_true_eq, List.all_eq_true] at h
  refine ⟨fun p hp => ?_, h.2⟩
  have := h.1 p hp
  simp only [smallP, Bool.and_eq_true, decide_eq_true_eq] at this
  omega

set_option maxRecDepth 100000 in
set_option maxHeartbeats 1000000 in
theorem few19_any (v : Value) (l : List Pty) (n : Nat) (w : World) (hv : Pts w v l) :
    Calls Tryz.prog 27 #[v, .int .i64 (n : Int)] w fun e w' => e = .returned (.bool (few19B l n)) ∧ Below w.heap.size w w' := by
  have hmx : Tryz.prog.follows .mixedOrders = true := by kernel_rfl
  have HV := Lib.hid hv
  obtain ⟨a, cap, rfl, hlc, hcap, ha⟩ := hv.form
  clear hv
  by_cases hn : l.length ≤ n
  · have t0 : decide ((l.length : Int) ≤ (n : Int)) = true := by simp; omega
    go_enter Tryz.func27, Tryz.ntmps27
    go_wp2_with fail
    go_loopg [5] (l.length + 1) (fun g i wr => ∃ k : Nat, k ≤ l.length ∧ g = l.length + 1 - k ∧ i = .int .i64 (k : Int) ∧ (l.take k).all smallP = true ∧ Fr [] w wr)
    case atStart => exact ⟨0, by omega, by omega, rfl, by simp, Fr.refl _ _⟩
    case round =>
      obtain ⟨k, hk, hg, rfl, hall, hfr⟩ := hrel
      have HG := Lib.hid hg
      have HALL := Lib.hid hall
      clear hg hall
      by_cases hlt : k < l.length
      · obtain ⟨b, off, rfl⟩ := ha k hlt
        have t1 : decide ((k : Int) < (l.length : Int)) = true := by simp; omega
        obtain ⟨p, hp⟩ : ∃ p, l[k]? = some p := ⟨l[k], List.getElem?_eq_getElem hlt⟩
        obtain ⟨c0, c1, c2⟩ := (HV.out.fr hfr).cells k p hp
        have HM := Lib.hid (List.mem_of_getElem? hp)
        have HS : Hid ((l.take (k + 1)).all smallP = ((l.take k).all smallP && smallP p)) := Lib.hid (by
          rw [List.take_add_one, hp, List.all_append]; simp)
        clear hp
        by_cases hs : p.name.length ≤ 200 ∧ p.com.length ≤ 200 ∧ p.rev.length ≤ 200
        · have HSP : Hid (smallP p = true) := Lib.hid (by simp [smallP, hs])
          obtain ⟨h1, h2, h3⟩ := hs
          have t2 : decide ((200 : Int) < (p.name.length : Int)) = false := by simp; omega
          have t3 : decide ((200 : Int) < (p.com.length : Int)) = false := by simp; omega
          have t4 : decide ((200 : Int) < (p.rev.length : Int)) = false := by simp; omega
          go_wp2_with fail
          go_roundg (l.length + 1 - (k + 1))
          case measure => have := HG.out; omega
          case rel => exact ⟨k + 1, by omega, rfl, by go_num, by rw [HS.out, HALL.out, HSP.out]; rfl, hfr⟩
        · have HF : Hid (few19B l n = false) := Lib.hid (by
            have h : smallP p = false := by
              cases h : smallP p with
              | false => rfl
              | true => exact absurd (by simpa [smallP, and_assoc] using h) hs
            unfold few19B
            rw [Bool.and_eq_false_iff]
            left
            rw [List.all_eq_false]
            exact ⟨p, HM.out, by rw [h]; decide⟩)
          go_wp2_with fail
          all_goals go_ret
          all_goals exact ⟨by rw [HF.out]; rfl, hfr.toBelow (by simp)⟩
      · obtain rfl : k = l.length := by omega
        have t1 : decide ((l.length : Int) < (l.length : Int)) = false := by simp
        have HR : Hid (few19B l n = true) := Lib.hid (by have h := HALL.out; rw [List.take_length] at h; simp [few19B, h, hn])
        go_wp2_with fail
        go_ret
        exact ⟨by rw [HR.out]; rfl, hfr.toBelow (by simp)⟩
  · have t0 : decide ((l.length : Int) ≤ (n : Int)) = false := by simp; omega
    have HR : Hid (few19B l n = false) := Lib.hid (by simp [few19B, hn])
    have t1 : decide ((0 : Int) < (l.length : Int)) = true := by simp; omega
    go_enter Tryz.func27, Tryz.ntmps27
    go_wp2_with fail
    refine wp_loop_rounds 1 ?_; rw [rounds_succ]
    go_wp2_with fail
    go_ret
    exact ⟨by rw [HR.out]; rfl, Below.refl _ _⟩
end Go.Proofs.YtjddngbgbbbefaaGreatDoor
namespace Go.Proofs.YtjddngbgbbbefaaGreatDoor
open Go.RowKit


set_option maxRecDepth 100000 in
set_option maxHeartbeats 1000000 in
theorem texts_any (v : Value) (l : List Pty) (root : List UInt8) (w : World) (hv : Pts w v l) (hl : l.length ≤ 1000) :
    Calls Tryz.prog 83 #[v, .string ⟨root.toArray⟩] w fun e w' => ∃ v', e = .returned v' ∧ OwnS w.heap.size w' v' (textsS root l) ∧ Below w.heap.size w w' := by
  have hmx : Tryz.prog.follows .mixedOrders = true := by kernel_rfl
  have HV := Lib.hid hv
  obtain ⟨a, cap, rfl, hlc, hcap, ha⟩ := hv.form
  clear hv
  go_enter Tryz.func83, Tryz.ntmps83
  go_wp2_with fail
  go_loopg [5, 6] (l.length + 1) (fun g ev i wr => ∃ k : Nat, k ≤ l.length ∧ g = l.length + 1 - k ∧ i = .int .i64 (k : Int) ∧ OwnS w.heap.size wr ev (textsS root (l.take k)) ∧ Fr [] w wr)
  case atStart => exact ⟨0, by omega, by omega, rfl, OwnS.one (Nat.le_refl _), (Fr.refl [] w).alloc _⟩
  case round =>
    obtain ⟨k, hk, hg, rfl, ho, hfr⟩ := hrel
    have HG := Lib.hid hg
    have HO := Lib.hid ho
    clear hg ho
    by_cases hlt : k < l.length
    · obtain ⟨b, off, rfl⟩ := ha k hlt
      have t2 : decide ((k : Int) < (l.length : Int)) = true := by simp; omega
      obtain ⟨p, hp⟩ : ∃ p, l[k]? = some p := ⟨l[k], List.getElem?_eq_getElem hlt⟩
      obtain ⟨c0, c1, c2⟩ := (HV.out.fr hfr).cells k p hp
      obtain ⟨e0, _, e2⟩ := HV.out.cells k p hp
      have HS := Lib.hid (texts_snoc root l k p hp)
      have hlen : (textsS root (l.take k)).length ≤ 100000 := by rw [texts_length, List.length_take]; omega
      clear hp
      generalize textsS root (l.take k) = L at HO HS hlen
      go_wp2_with fail
      have hc0 := c0
      have hc1 := c2
      have hh0 : Fr [] wr wr.drew := (Fr.refl [] wr).drew
      have hS0 : wr.drew.cell? ⟨b, off + k * 3, none⟩ = some (.string ⟨p.name.toArray⟩) ∧ wr.drew.cell? ⟨b, off + k * 3 + 2, none⟩ = some (.string ⟨p.rev.toArray⟩) := ⟨hh0.cell hc0 (by simp), hh0.cell hc1 (by simp)⟩
      refine region_held 13 (fun W' => W'.cell? ⟨b, off + k * 3, none⟩ = some (.string ⟨p.name.toArray⟩) ∧ W'.cell? ⟨b, off + k * 3 + 2, none⟩ = some (.string ⟨p.rev.toArray⟩)) hmx ?_
      change Held _ _ _ _ _ _ 14 (Array.replicate 14 false) _ _
      refine held_take 0 (v := u5) rfl (by kernel_rfl) (by kernel_rfl) (by kernel_rfl) rfl hS0 (fun W' hS => by go_simp) rfl ?_
      refine held_take 1 (v := .slice (some ⟨b, off, none⟩) l.length cap) rfl (by kernel_rfl) (by kernel_rfl) (by kernel_rfl) rfl hS0 (fun W' hS => by go_simp) rfl ?_
      refine held_take 2 (v := .int .i64 (k : Int)) rfl (by kernel_rfl) (by kernel_rfl) (by kernel_rfl) rfl hS0 (fun W' hS => by go_simp) rfl ?_
      refine held_take 6 (v := .slice (some ⟨b, off, none⟩) l.length cap) rfl (by kernel_rfl) (by kernel_rfl) (by kernel_rfl) rfl hS0 (fun W' hS => by go_simp) rfl ?_
      refine held_take 7 (v := .int .i64 (k : Int)) rfl (by kernel_rfl) (by kernel_rfl) (by kernel_rfl) rfl hS0 (fun W' hS => by go_simp) rfl ?_
      simp only [Act.put]
      refine held_take 3 (v := .pointer (some ⟨b, off + k * 3, none⟩)) rfl (by kernel_rfl) (by kernel_rfl) (by kernel_rfl) rfl hS0 (fun W' hS => by first | (go_simp; done) | (go_simp; intro hix; omega)) rfl ?_
      refine held_take 8 (v := .pointer (some ⟨b, off + k * 3, none⟩)) rfl (by kernel_rfl) (by kernel_rfl) (by kernel_rfl) rfl hS0 (fun W' hS => by first | (go_simp; done) | (go_simp; intro hix; omega)) rfl ?_
      simp only [Act.put]
      refine held_take 4 (v := .pointer (some ⟨b, off + k * 3, none⟩)) rfl (by kernel_rfl) (by kernel_rfl) (by kernel_rfl) rfl hS0 (fun W' hS => by go_simp) rfl ?_
      refine held_take 9 (v := .pointer (some ⟨b, off + k * 3 + 2, none⟩)) rfl (by kernel_rfl) (by kernel_rfl) (by kernel_rfl) rfl hS0 (fun W' hS => by go_simp) rfl ?_
      simp only [Act.put]
      refine held_take 5 (v := .string ⟨p.name.toArray⟩) rfl (by kernel_rfl) (by kernel_rfl) (by kernel_rfl) rfl hS0 (fun W' hS => by obtain ⟨h0, h1⟩ := hS; go_simp) rfl ?_
      refine held_take 10 (v := .string ⟨p.rev.toArray⟩) rfl (by kernel_rfl) (by kernel_rfl) (by kernel_rfl) rfl hS0 (fun W' hS => by obtain ⟨h0, h1⟩ := hS; go_simp) rfl ?_
      simp only [Act.put]
      refine held_one 11 (by kernel_rfl) rfl rfl rfl (fun K' hK => ?_)
      go_simp
      have hh1 := hh0.alloc (.cells #[.string ⟨p.name.toArray⟩, .string ⟨p.rev.toArray⟩] 9)
      have hS1 : (wr.drew.alloc (.cells #[.string ⟨p.name.toArray⟩, .string ⟨p.rev.toArray⟩] 9)).cell? ⟨b, off + k * 3, none⟩ = some (.string ⟨p.name.toArray⟩) ∧ (wr.drew.alloc (.cells #[.string ⟨p.name.toArray⟩, .string ⟨p.rev.toArray⟩] 9)).cell? ⟨b, off + k * 3 + 2, none⟩ = some (.string ⟨p.rev.toArray⟩) := ⟨hh1.cell hc0 (by simp), hh1.cell hc1 (by simp)⟩
      refine hK.out _ _ (fun _ => hS1) ?_
      clear hK K'
      try simp only [Act.put]
      refine held_one 12 (by kernel_rfl) rfl rfl rfl (fun K' hK => ?_)
      have hfx := hfr.trans hh1 (by simp)
      have HO4 := Lib.hid ((HO.out.fr ((Fr.refl [] wr).drew) (by simp)).fr ((Fr.refl [] wr.drew).alloc (.cells #[.string ⟨p.name.toArray⟩, .string ⟨p.rev.toArray⟩] 9)) (by simp))
      refine wp_appM (.tmp 15) (.tmp 26) rfl w.heap.size u5 L [p.name, p.rev] wr.heap.size 0 2 2 w (by kernel_rfl) (by kernel_rfl) rfl (strs_two (heap_new rfl)) HO4.out hfx (Nat.le_refl _) hfx.size (by omega) ?_
      intro yv w5 hoy hfr5 hfo
      have HOY := Lib.hid hoy
      have hc0 := e0
      have hc1 := e2
      clear hoy HO4 HO
      have hS2 : w5.cell? ⟨b, off + k * 3, none⟩ = some (.string ⟨p.name.toArray⟩) ∧ w5.cell? ⟨b, off + k * 3 + 2, none⟩ = some (.string ⟨p.rev.toArray⟩) := ⟨hfr5.cell hc0 (by simp), hfr5.cell hc1 (by simp)⟩
      refine hK.out _ _ (fun _ => hS2) ?_
      clear hK K'
      try simp only [Act.put]
      refine held_one 13 (by kernel_rfl) rfl rfl rfl (fun K' hK => ?_)
      go_simp
      refine hK.out _ _ (fun h => absurd rfl h) ?_
      clear hK K'
      refine held_done (by kernel_rfl) ?_
      go_wp2_with fail
      go_roundg (l.length + 1 - (k + 1))
      case measure => have := HG.out; omega
      case rel => exact ⟨k + 1, by omega, rfl, by go_num, by rw [HS.out]; exact HOY.out, hfr5⟩
    · obtain rfl : k = l.length := by omega
      have t2 : decide ((l.length : Int) < (l.length : Int)) = false := by simp
      have HO2 : Hid (OwnS w.heap.size wr u5 (textsS root l)) := Lib.hid (by have := HO.out; rwa [List.take_length] at this)
      clear HO
      go_wp2_with fail
      go_ret
      exact ⟨_, rfl, HO2.out, hfr.toBelow (by simp)⟩
end Go.Proofs.YtjddngbgbbbefaaGreatDoor
namespace Go.Proofs.YtjddngbgbbbefaaGreatDoor
open Go.RowKit
set_option maxRecDepth 100000 in
set_option maxHeartbeats 1000000 in
theorem rright_any (p : Pty) (w : World) (hn : p.name.length ≤ 1000000) (hr : p.rev.length ≤ 1000000) :
    Calls Tryz.prog 82 #[ptyV p] w fun e w' => e = .returned (.bool (rightB p)) ∧ Below w.heap.size w w' := by
  obtain ⟨a, c, r⟩ := p
  unfold ptyV rightB
  simp only at hn hr ⊢
  go_enter Tryz.func82, Tryz.ntmps82
  go_wp2_with fail
  have hf0 : Fr [] w (w.alloc (.cells #[.string ⟨a.toArray⟩, .string ⟨c.toArray⟩, .string ⟨r.toArray⟩] 46)) := (Fr.refl [] w).alloc _
  have k0 : (w.alloc (.cells #[.string ⟨a.toArray⟩, .string ⟨c.toArray⟩, .string ⟨r.toArray⟩] 46)).cell? ⟨w.heap.size, 0, none⟩ = some (.string ⟨a.toArray⟩) := by rw [row_cell (heap_new rfl) 0]; rfl
  have k1 : (w.alloc (.cells #[.string ⟨a.toArray⟩, .string ⟨c.toArray⟩, .string ⟨r.toArray⟩] 46)).cell? ⟨w.heap.size, 1, none⟩ = some (.string ⟨c.toArray⟩) := by rw [row_cell (heap_new rfl) 1]; rfl
  have k2 : (w.alloc (.cells #[.string ⟨a.toArray⟩, .string ⟨c.toArray⟩, .string ⟨r.toArray⟩] 46)).cell? ⟨w.heap.size, 2, none⟩ = some (.string ⟨r.toArray⟩) := by rw [row_cell (heap_new rfl) 2]; rfl
  generalize w.heap.size = b at k0 k1 k2 ⊢
  generalize w.alloc (.cells #[.string ⟨a.toArray⟩, .string ⟨c.toArray⟩, .string ⟨r.toArray⟩] 46) = w0 at hf0 k0 k1 k2 ⊢
  have hmx : Tryz.prog.follows .mixedOrders = true := by kernel_rfl
  have HJ : Hid (capN [a, r] ≤ 140737488355328) := Lib.hid (by have := capN_le [a, r] 1000000 (fun s hs => by simp only [List.mem_cons, List.not_mem_nil, or_false] at hs; rcases hs with rfl | rfl <;> assumption); simp at this; omega)
  have hc0 := k0
  have hc1 := k1
  have hc2 := k2
  have hh0 : Fr [] w0 w0.drew := (Fr.refl [] w0).drew
  have hS0 : w0.drew.cell? ⟨b, 0, none⟩ = some (.string ⟨a.toArray⟩) ∧ w0.drew.cell? ⟨b, 1, none⟩ = some (.string ⟨c.toArray⟩) ∧ w0.drew.cell? ⟨b, 2, none⟩ = some (.string ⟨r.toArray⟩) := ⟨hh0.cell hc0 (by simp), hh0.cell hc1 (by simp), hh0.cell hc2 (by simp)⟩
  refine region_held 9 (fun W' => W'.cell? ⟨b, 0, none⟩ = some (.string ⟨a.toArray⟩) ∧ W'.cell? ⟨b, 1, none⟩ = some (.string ⟨c.toArray⟩) ∧ W'.cell? ⟨b, 2, none⟩ = some (.string ⟨r.toArray⟩)) hmx ?_
  change Held _ _ _ _ _ _ 10 (Array.replicate 10 false) _ _
  refine held_take 0 (v := .pointer (some ⟨b, 1, none⟩)) rfl (by kernel_rfl) (by kernel_rfl) (by kernel_rfl) rfl hS0 (fun W' hS => by go_simp) rfl ?_
  refine held_take 2 (v := .pointer (some ⟨b, 0, none⟩)) rfl (by kernel_rfl) (by kernel_rfl) (by kernel_rfl) rfl hS0 (fun W' hS => by go_simp) rfl ?_
  refine held_take 4 (v := .pointer (some ⟨b, 2, none⟩)) rfl (by kernel_rfl) (by kernel_rfl) (by kernel_rfl) rfl hS0 (fun W' hS => by go_simp) rfl ?_
  simp only [Act.put]
  refine held_take 1 (v := .string ⟨c.toArray⟩) rfl (by kernel_rfl) (by kernel_rfl) (by kernel_rfl) rfl hS0 (fun W' hS => by obtain ⟨h0, h1, h2⟩ := hS; go_simp) rfl ?_
  refine held_take 3 (v := .string ⟨a.toArray⟩) rfl (by kernel_rfl) (by kernel_rfl) (by kernel_rfl) rfl hS0 (fun W' hS => by obtain ⟨h0, h1, h2⟩ := hS; go_simp) rfl ?_
  refine held_take 5 (v := .string ⟨r.toArray⟩) rfl (by kernel_rfl) (by kernel_rfl) (by kernel_rfl) rfl hS0 (fun W' hS => by obtain ⟨h0, h1, h2⟩ := hS; go_simp) rfl ?_
  simp only [Act.put]
  refine held_one 6 (by kernel_rfl) rfl rfl rfl (fun K' hK => ?_)
  go_simp
  have hh1 := hh0.alloc (.cells #[.string ⟨a.toArray⟩, .string ⟨r.toArray⟩] 9)
  have hS1 : (w0.drew.alloc (.cells #[.string ⟨a.toArray⟩, .string ⟨r.toArray⟩] 9)).cell? ⟨b, 0, none⟩ = some (.string ⟨a.toArray⟩) ∧ (w0.drew.alloc (.cells #[.string ⟨a.toArray⟩, .string ⟨r.toArray⟩] 9)).cell? ⟨b, 1, none⟩ = some (.string ⟨c.toArray⟩) ∧ (w0.drew.alloc (.cells #[.string ⟨a.toArray⟩, .string ⟨r.toArray⟩] 9)).cell? ⟨b, 2, none⟩ = some (.string ⟨r.toArray⟩) := ⟨hh1.cell hc0 (by simp), hh1.cell hc1 (by simp), hh1.cell hc2 (by simp)⟩
  refine hK.out _ _ (fun _ => hS1) ?_
  clear hK K'
  try simp only [Act.put]
  refine held_one 7 (by kernel_rfl) rfl rfl rfl (fun K' hK => ?_)
  go_simp
  refine (rlist_any _ [a, r] _ (strs_two (W := (w0.alloc (.cells #[.string ⟨a.toArray⟩, .string ⟨r.toArray⟩] 9)).drew) (heap_drew (heap_new rfl))) HJ.out).mono ?_
  rintro e wq2 ⟨rfl, hb⟩
  have hh2 : Fr [] w0 wq2 := hh1.below hb hh1.size
  clear hb
  have hS2 : wq2.cell? ⟨b, 0, none⟩ = some (.string ⟨a.toArray⟩) ∧ wq2.cell? ⟨b, 1, none⟩ = some (.string ⟨c.toArray⟩) ∧ wq2.cell? ⟨b, 2, none⟩ = some (.string ⟨r.toArray⟩) := ⟨hh2.cell hc0 (by simp), hh2.cell hc1 (by simp), hh2.cell hc2 (by simp)⟩
  refine hK.out _ _ (fun _ => hS2) ?_
  clear hK K'
  try simp only [Act.put]
  refine held_take 8 (v := .bool (c == dlist [a, r])) rfl (by kernel_rfl) (by kernel_rfl) (by kernel_rfl) rfl hS2 (fun W' hS => by go_simp) rfl ?_
  simp only [Act.put]
  refine held_one 9 (by kernel_rfl) rfl rfl rfl (fun K' hK => ?_)
  go_simp
  refine hK.out _ _ (fun h => absurd rfl h) ?_
  clear hK K'
  refine held_done (by kernel_rfl) ?_
  go_wp2_with fail
  go_ret
  exact ⟨rfl, (hf0.trans hh2 (by simp)).toBelow (by simp)⟩
end Go.Proofs.YtjddngbgbbbefaaGreatDoor
namespace Go.Proofs.YtjddngbgbbbefaaGreatDoor
open Go.RowKit

theorem dup_false (l : List Pty) (i : Nat) (p : Pty) (hp : l[i]? = some p) : dupAt l i = (l.take i).any fun q => q.name == p.name := by unfold dupAt; rw [hp]

set_option maxRecDepth 100000 in
set_option maxHeartbeats 2000000 in
theorem rseed_any (v : Value) (l : List Pty) (root : List UInt8) (w : World) (hv : Pts w v l) (hl : ∀ p ∈ l, p.name.length ≤ 1000000 ∧ p.rev.length ≤ 1000000) (hr : root.length ≤ 1000000) :
    Calls Tryz.prog 38 #[v, .string ⟨root.toArray⟩] w fun e w' => e = .returned (.tuple #[.string ⟨(seedS l root).1.toArray⟩, .int .i64 (seedS l root).2]) ∧ Below w.heap.size w w' := by
  have hmx : Tryz.prog.follows .mixedOrders = true := by kernel_rfl
  have HV := Lib.hid hv
  obtain ⟨a, cap, rfl, hlc, hcap, ha⟩ := hv.form
  have HLL := Lib.hid hl
  clear hv hl
  by_cases h16 : l.length ≤ 16
  · have t1 : decide ((16 : Int) < (l.length : Int)) = false := by simp; omega
    go_enter Tryz.func38, Tryz.ntmps38
    go_wp2_with fail
    go_loopg [6] (l.length + 1) (fun g i wr => ∃ k : Nat, k ≤ l.length ∧ g = l.length + 1 - k ∧ i = .int .i64 (k : Int) ∧ (∀ j, j < k → dupAt l j = false) ∧ Fr [] w wr)
    case atStart => exact ⟨0, by omega, by omega, rfl, fun j hj => absurd hj (Nat.not_lt_zero _), Fr.refl _ _⟩
    case round =>
      obtain ⟨k, hk, hg, rfl, hdup, hfr⟩ := hrel
      have HG := Lib.hid hg
      have HDUP := Lib.hid hdup
      clear hg hdup
      by_cases hlt : k < l.length
      · obtain ⟨b, off, rfl⟩ := ha k hlt
        have t2 : decide ((k : Int) < (l.length : Int)) = true := by simp; omega
        obtain ⟨p, hp⟩ : ∃ p, l[k]? = some p := ⟨l[k], List.getElem?_eq_getElem hlt⟩
        have HP := Lib.hid hp
        have HD := Lib.hid (dup_false l k p hp)
        clear hp
        go_wp2_with fail
        go_loopg [7] (k + 1) (fun g i wr => ∃ j : Nat, j ≤ k ∧ g = k + 1 - j ∧ i = .int .i64 (j : Int) ∧ ((l.take j).any fun q => q.name == p.name) = false ∧ Fr [] w wr)
        case atStart => exact ⟨0, by omega, by omega, rfl, rfl, hfr⟩
        case round =>
          clear hfr
          obtain ⟨j, hj, hg, rfl, hany, hfr⟩ := hrel
          have HG2 := Lib.hid hg
          have HANY := Lib.hid hany
          clear hg hany
          obtain ⟨c0, _, _⟩ := (HV.out.fr hfr).cells k p HP.out
          by_cases hjk : j < k
          · have t3 : decide ((j : Int) < (k : Int)) = true := by simp; omega
            obtain ⟨q, hq⟩ : ∃ q, l[j]? = some q := ⟨l[j]'(by omega), List.getElem?_eq_getElem (by omega)⟩
            obtain ⟨d0, _, _⟩ := (HV.out.fr hfr).cells j q hq
            have HS : Hid (((l.take (j + 1)).any fun q => q.name == p.name) = (((l.take j).any fun q => q.name == p.name) || (q.name == p.name))) := Lib.hid (by
              rw [List.take_add_one, hq, List.any_append]; simp)
            have HQ := Lib.hid hq
            have t4 : decide ((j : Int) < (l.length : Int)) = true := by simp; omega
            clear hq
            by_cases hpq : p.name = q.name
            · have t5 : (p.name == q.name) = true := by simpa using hpq
              have t5' : (p.name != q.name) = false := by simpa using hpq
              have HR : Hid (seedS l root = ([], 9)) := Lib.hid (by
                have hd : dupAt l k = true := by
                  rw [HD.out, List.any_eq_true]
                  exact ⟨q, List.mem_of_getElem? (show (l.take k)[j]? = some q by rw [List.getElem?_take, if_pos hjk]; exact HQ.out), by simp [hpq]⟩
                unfold seedS
                rw [if_neg (by omega), if_pos (List.any_eq_true.2 ⟨k, List.mem_range.2 hlt, hd⟩)])
              clear hpq
              go_wp2_with fail
              go_quiet (fail)
              go_wp2_with fail
              go_ret2
              exact ⟨by rw [HR.out]; rfl, (hfr.drewN _).toBelow (by simp)⟩
            · have t5 : (p.name == q.name) = false := by simpa using hpq
              have t5' : (p.name != q.name) = true := by simpa using hpq
              have HNE : Hid ((q.name == p.name) = false) := Lib.hid (by simpa using fun h => hpq (Eq.symm h))
              clear hpq
              go_wp2_with fail
              go_quiet (fail)
              go_wp2_with fail
              go_roundg (k + 1 - (j + 1))
              case measure => have := HG2.out; omega
              case rel => exact ⟨j + 1, by omega, rfl, by go_num, by rw [HS.out, HANY.out, HNE.out]; rfl, hfr.drewN _⟩
          · obtain rfl : j = k := by omega
            have t3 : decide ((j : Int) < (j : Int)) = false := by simp
            have HDK : Hid (dupAt l j = false) := Lib.hid (by rw [HD.out, HANY.out])
            go_wp2_with fail
            go_roundg (l.length + 1 - (j + 1))
            case measure => have := HG.out; omega
            case rel =>
              refine ⟨j + 1, by omega, rfl, by go_num, fun i hi => ?_, hfr⟩
              rcases Nat.lt_or_ge i j with h | h
              · exact HDUP.out i h
              · obtain rfl : i = j := by omega
                exact HDK.out
      · obtain rfl : k = l.length := by omega
        have t2 : decide ((l.length : Int) < (l.length : Int)) = false := by simp
        have HND : Hid ((List.range l.length).any (dupAt l) = false) := Lib.hid (by
          rw [List.any_eq_false]
          intro i hi
          rw [HDUP.out i (List.mem_range.1 hi)]; simp)
        go_wp2_with fail
        go_loopg [8] (l.length + 1) (fun g i wr => ∃ j : Nat, j ≤ l.length ∧ g = l.length + 1 - j ∧ i = .int .i64 (j : Int) ∧ ((l.take j).any fun p => !rightB p) = false ∧ Fr [] w wr)
        case atStart => exact ⟨0, by omega, by omega, rfl, rfl, hfr⟩
        case round =>
          clear hfr
          obtain ⟨j, hj, hg, rfl, hany, hfr⟩ := hrel
          have HG2 := Lib.hid hg
          have HANY := Lib.hid hany
          clear hg hany
          by_cases hlt : j < l.length
          · obtain ⟨b, off, rfl⟩ := ha j hlt
            have t3 : decide ((j : Int) < (l.length : Int)) = true := by simp; omega
            obtain ⟨p, hp⟩ : ∃ p, l[j]? = some p := ⟨l[j], List.getElem?_eq_getElem hlt⟩
            obtain ⟨c0, c1, c2⟩ := (HV.out.fr hfr).cells j p hp
            have HM := Lib.hid (List.mem_of_getElem? hp)
            have HC := Lib.hid (rright_any p wr (HLL.out p HM.out).1 (HLL.out p HM.out).2)
            have HS : Hid (((l.take (j + 1)).any fun p => !rightB p) = (((l.take j).any fun p => !rightB p) || !rightB p)) := Lib.hid (by
              rw [List.take_add_one, hp, List.any_append]; simp)
            clear hp
            unfold ptyV at HC
            go_wp2_with fail
            refine HC.out.mono ?_
            rintro e w1 ⟨rfl, hb1⟩
            have hf1 : Fr [] w w1 := hfr.below hb1 hfr.size
            cases hrp : rightB p with
            | true =>
              have HRP := Lib.hid hrp
              clear hrp
              go_wp2_with fail
              go_roundg (l.length + 1 - (j + 1))
              case measure => have := HG2.out; omega
              case rel => exact ⟨j + 1, by omega, rfl, by go_num, by rw [HS.out, HANY.out, HRP.out]; rfl, hf1⟩
            | false =>
              have HR : Hid (seedS l root = ([], 20)) := Lib.hid (by
                unfold seedS
                rw [if_neg (by omega), if_neg (by rw [HND.out]; simp), if_pos (List.any_eq_true.2 ⟨p, HM.out, by simp [hrp]⟩)])
              clear hrp
              go_wp2_with fail
              go_ret2
              exact ⟨by rw [HR.out]; rfl, hf1.toBelow (by simp)⟩
          · obtain rfl : j = l.length := by omega
            have t3 : decide ((l.length : Int) < (l.length : Int)) = false := by simp
            have HR : Hid (seedS l root = (dlist (textsS root l), 0)) := Lib.hid (by
              have h := HANY.out
              rw [List.take_length] at h
              unfold seedS
              rw [if_neg (by omega), if_neg (by rw [HND.out]; simp), if_neg (by rw [h]; simp)])
            go_wp2_with fail
            refine (texts_any _ l root wr (HV.out.fr hfr) (by omega)).mono ?_
            rintro e w1 ⟨v1, rfl, ho1, hb1⟩
            have hf1 : Fr [] w w1 := hfr.below hb1 hfr.size
            go_wp2_with fail
            have HCN : Hid (capN (textsS root l) ≤ 140737488355328) := Lib.hid (by
              have h1 : ∀ s ∈ textsS root l, s.length ≤ 1000000 := by
                intro s hs
                rcases List.mem_cons.1 hs with rfl | hs
                · exact hr
                · obtain ⟨p, hp, hs⟩ := List.mem_flatMap.1 hs
                  simp only [List.mem_cons, List.not_mem_nil, or_false] at hs
                  rcases hs with rfl | rfl
                  · exact (HLL.out p hp).1
                  · exact (HLL.out p hp).2
              have h3 := capN_le (textsS root l) 1000000 h1
              have h4 := texts_length root l
              have h5 : (textsS root l).length * (1000000 + 21) ≤ 33 * (1000000 + 21) := Nat.mul_le_mul_right _ (by omega)
              omega)
            refine (rlist_any v1 (textsS root l) w1 ho1.strs HCN.out).mono ?_
            rintro e w2 ⟨rfl, hb2⟩
            have hf2 : Fr [] w w2 := hf1.below hb2 hf1.size
            go_wp2_with fail
            go_ret2
            exact ⟨by rw [HR.out]; rfl, hf2.toBelow (by simp)⟩
  · have t1 : decide ((16 : Int) < (l.length : Int)) = true := by simp; omega
    have HR : Hid (seedS l root = ([], 3)) := Lib.hid (by unfold seedS; rw [if_pos (by omega)])
    go_enter Tryz.func38, Tryz.ntmps38
    go_wp2_with fail
    go_ret2
    exact ⟨by rw [HR.out]; rfl, Below.refl _ _⟩

/-- The numbers below n. -/
theorem range_snoc (k : Nat) : List.range (k + 1) = List.range k ++ [k] := List.range_succ

set_option maxRecDepth 100000 in
set_option maxHeartbeats 2000000 in
theorem rshuffle_any (seed : List UInt8) (n : Nat) (w : World) (hn : n ≤ 4000) (hs : seed.length ≤ 1000000) :
    Calls Tryz.prog 85 #[.string ⟨seed.toArray⟩, .int .i64 (n : Int)] w fun e w' => ∃ v, e = .returned v ∧ Nums w' v (shufS seed n) ∧ Below w.heap.size w w' := by
  have hmx : Tryz.prog.follows .mixedOrders = true := by kernel_rfl
  have t1 : decide ((n : Int) < 0) = false := by simp
  have t2 : decide ((4000 : Int) < (n : Int)) = false := by simp; omega
  go_enter Tryz.func85, Tryz.ntmps85
  go_wp2_with fail
  go_loopg [5, 6] (n + 1) (fun gh ov i wr => ∃ k : Nat, k ≤ n ∧ gh = n + 1 - k ∧ i = .int .i64 (k : Int) ∧ OwnI w.heap.size wr ov (List.range k) ∧ Fr [] w wr)
  case atStart => exact ⟨0, by omega, by omega, rfl, OwnI.nil, Fr.refl _ _⟩
  case round =>
    obtain ⟨k, hk, hg, rfl, ho, hfr⟩ := hrel
    have HG := Lib.hid hg
    have HO := Lib.hid ho
    clear hg ho
    by_cases hlt : k < n
    · have t3 : decide ((k : Int) < (n : Int)) = true := by simp; omega
      go_wp2_with (at_builtin; go_loud (refine wpList_appI rfl (.tmp 21) (.tmp 23) rfl w.heap.size _ (List.range k) k w rfl rfl HO.out hfr (Nat.le_refl _) hfr.size (by rw [List.length_range]; omega) ?_))
      intro v3 w3 ho3 hf3 _
      have HO3 := Lib.hid ho3
      clear ho3 HO hfr
      go_wp2_with fail
      go_roundg (n + 1 - (k + 1))
      case measure => have := HG.out; omega
      case rel => exact ⟨k + 1, by omega, rfl, by go_num, by rw [range_snoc]; exact HO3.out, hf3⟩
    · obtain rfl : n = k := by omega
      have t3 : decide ((n : Int) < (n : Int)) = false := by simp
      by_cases hn0 : 0 < n
      · rcases HO.out.form with ⟨_, hl0⟩ | ⟨g, cap, cur, rfl, hb, hgc, h3, h4, h5, h6⟩
        · have := congrArg List.length hl0
          simp at this; omega
        · rw [List.length_range] at h3 h6 ⊢
          have HH : Hid (OwnI w.heap.size wr (.slice (some ⟨g, 0, none⟩) n cap) (List.range n)) := Lib.hid (by have := HO.out; rwa [List.length_range] at this)
          clear HO hb hgc h3 h4 h5 h6
          obtain ⟨m, hm, em⟩ : ∃ m : Nat, n = m + 1 ∧ (n : Int) - 1 = (m : Int) := ⟨n - 1, by omega, by omega⟩
          have HM := Lib.hid hm
          clear hm
          go_wp2_with fail
          go_loopg [7, 8, 9] (m + 1) (fun gh i x8 x9 wr => ∃ (k : Nat) (cl : List Nat), k ≤ m ∧ gh = k + 1 ∧ i = .int .i64 (k : Int) ∧ cl.length = n ∧ shufT seed cl k = shufS seed n ∧ OwnI w.heap.size wr (.slice (some ⟨g, 0, none⟩) n cap) cl ∧ Fr [] w wr)
          case atStart => exact ⟨m, _, by omega, rfl, rfl, List.length_range, by rw [show m = n - 1 by have := HM.out; omega]; rfl, HH.out, hfr⟩
          case round =>
            clear HH hfr cur
            obtain ⟨k, cl, hk, hgh, rfl, hcl, hsh, ho, hfr⟩ := hrel
            have HGH := Lib.hid hgh
            have HSH := Lib.hid hsh
            have HO := Lib.hid ho
            clear hgh hsh ho
            by_cases hk0 : 1 ≤ k
            · have t4 : decide ((1 : Int) ≤ (k : Int)) = true := by simp; omega
              have hkn : k < n := by have := HM.out; omega
              have hj := jS_le seed k
              have HJ := Lib.hid (jS_below seed k)
              obtain ⟨k', ek, hk'⟩ : ∃ k' : Nat, (k : Int) - 1 = (k' : Int) ∧ k = k' + 1 := ⟨k - 1, by omega, by omega⟩
              have HK' := Lib.hid hk'
              have HST : Hid (shufT seed (swapL cl k (jS seed k)) k' = shufS seed n) := Lib.hid (by
                rw [← HSH.out]
                conv => rhs; rw [hk']
                rw [hk']
                rfl)
              have HCN : Hid (capN [seed, Lib.decDigits k] ≤ 140737488355328) := Lib.hid (by
                have := capN_le [seed, Lib.decDigits k] 1000000 (fun s hs => by
                  simp only [List.mem_cons, List.not_mem_nil, or_false] at hs
                  rcases hs with rfl | rfl
                  · assumption
                  · have := dec_len k (by omega); omega)
                simp at this; omega)
              clear hk'
              go_wp2_with fail
              refine (rdecimal_any k _ (by omega)).mono ?_
              rintro e w2 ⟨rfl, rfl⟩
              go_wp2_with fail
              refine (rlist_any _ [seed, Lib.decDigits k] _ (strs_two (heap_new rfl)) HCN.out).mono ?_
              rintro e w3 ⟨rfl, hb3⟩
              have hw3 : Fr [] wr w3 := ((Fr.refl [] wr).alloc _).below hb3 ((Fr.refl [] wr).alloc _).size
              go_wp2_with fail
              refine (rbelow_any _ ((k : Int) + 1) w3 (by rw [show (dlist [seed, Lib.decDigits k]).length = 16 from dsum_length _]; decide) (by omega)).mono ?_
              rintro e w4 ⟨rfl, hb4⟩
              have hw4 : Fr [] wr w4 := hw3.below hb4 hw3.size
              rw [HJ.out]
              generalize jS seed k = j at hj HST ⊢
              have ho4 := HO.out.fr hw4 (by simp)
              have hf4 := hfr.trans hw4 (by simp)
              obtain ⟨cur, hb, hgc, h3, h4, h5, h6⟩ := ho4.formN hcl
              have c1 : w4.cell? ⟨g, k, none⟩ = some (.int .i64 (cl.getD k 0 : Nat)) := by rw [row_cell hgc k, natV_at h6 hcl k (by omega)]
              have c2 : w4.cell? ⟨g, j, none⟩ = some (.int .i64 (cl.getD j 0 : Nat)) := by rw [row_cell hgc j, natV_at h6 hcl j (by omega)]
              have f1 := row_free hgc k
              have g2 := row_set hgc k (.int .i64 (cl.getD j 0 : Nat))
              have f2 := row_free g2 j
              have ho5 := ownI_set (i := k) hb hgc hcl h3 h4 h5 h6 (cl.getD j 0)
              have h6' : (cur.setIfInBounds k (.int .i64 (cl.getD j 0 : Nat))).toList.take n = (cl.set k (cl.getD j 0)).map natV := by
                rw [Array.toList_setIfInBounds, List.take_set, h6, List.map_set]; rfl
              have c3 : (w4.setCell ⟨g, k, none⟩ (.int .i64 (cl.getD j 0 : Nat))).cell? ⟨g, j, none⟩ = some (.int .i64 ((cl.set k (cl.getD j 0)).getD j 0 : Nat)) := by rw [row_cell g2 j, natV_at h6' (by rw [List.length_set, hcl]) j (by omega)]
              have ho6 := ownI_set (i := j) hb g2 (by rw [List.length_set, hcl]) h3 h4 (by simp [h5]) h6' (cl.getD k 0)
              have HO6 := Lib.hid ho6
              have hbg : w.heap.size ≤ g := hb
              have hg6 : Fr [] w ((w4.setCell ⟨g, k, none⟩ (.int .i64 (cl.getD j 0 : Nat))).setCell ⟨g, j, none⟩ (.int .i64 (cl.getD k 0 : Nat))) :=
                (hf4.setCell _ _ (Or.inr hbg)).setCell _ _ (Or.inr hbg)
              have HG6 := Lib.hid hg6
              have HCL := Lib.hid hcl
              have HO7 : Hid (OwnI w.heap.size ((w4.setCell ⟨g, k, none⟩ (.int .i64 (cl.getD j 0 : Nat))).setCell ⟨g, j, none⟩ (.int .i64 (cl.getD k 0 : Nat))) (.slice (some ⟨g, 0, none⟩) n cap) (swapL cl k j)) := Lib.hid ho6
              have hjn : j < n := by omega
              have HSL := Lib.hid (swapL_length cl k j)
              generalize swapL cl k j = cl2 at HO7 HST HSL
              generalize ((cl.set k (cl.getD j 0)).getD j 0) = z at c3
              generalize cl.getD k 0 = x at c1 HO7 HG6
              generalize cl.getD j 0 = y at c2 c3 f2 HO7 HG6
              clear ho5 ho6 hg6 hb3 hb4 hw3 hw4 hf4 HO6 HO hfr HJ hcl hgc g2 h3 h4 h5 h6 h6' hb ho4
              go_wp2_with fail
              go_roundg (k' + 1)
              case measure => have := HGH.out; have := HK'.out; omega
              case rel => exact ⟨k', cl2, by have := HK'.out; omega, rfl, rfl, by rw [HSL.out, HCL.out], HST.out, HO7.out, HG6.out⟩
            · obtain rfl : k = 0 := by omega
              have HSE : Hid (cl = shufS seed n) := Lib.hid (by rw [← HSH.out]; rfl)
              go_wp2_with fail
              go_ret
              exact ⟨_, rfl, by rw [← HSE.out]; exact HO.out.nums, hfr.toBelow (by simp)⟩
      · obtain rfl : n = 0 := by omega
        go_wp2_with fail
        refine wp_loop_rounds 1 ?_; rw [rounds_succ]
        go_wp2_with fail
        go_ret
        exact ⟨_, rfl, HO.out.nums, hfr.toBelow (by simp)⟩
end Go.Proofs.YtjddngbgbbbefaaGreatDoor
