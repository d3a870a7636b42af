/-
  slices.ContainsFunc over parties; draw.Seed.
-/
import Derived.Test.YtnbpajcecjpfpaaDoorDrB
import Derived.Test.YtnbpajcecjpfpaaDoorRefX
namespace Go.Proofs.YtnbpajcecjpfpaaDoor
open Go.RowKit

/-- A slice of parties. -/
def Pts (w : World) (v : Value) (l : List Pty) : Prop :=
  (v = .slice none 0 0 ∧ l = []) ∨ ∃ b off cap, v = .slice (some ⟨b, off, none⟩) l.length cap ∧ l.length ≤ cap ∧ cap ≤ 9223372036854775807 ∧ b < w.heap.size ∧
    ∀ (i : Nat) (p : Pty), l[i]? = some p → w.cell? ⟨b, off + i * 3, none⟩ = some (.string ⟨p.name.toArray⟩) ∧ w.cell? ⟨b, off + i * 3 + 1, none⟩ = some (.string ⟨p.com.toArray⟩) ∧ w.cell? ⟨b, off + i * 3 + 2, none⟩ = some (.string ⟨p.rev.toArray⟩)
theorem Pts.fr {w w' : World} {v : Value} {l : List Pty} (h : Pts w v l) (hf : Fr [] w w') : Pts w' v l := by
  rcases h with h | ⟨b, off, cap, hv, h1, h2, h3, h4⟩
  · exact Or.inl h
  · exact Or.inr ⟨b, off, cap, hv, h1, h2, Nat.lt_of_lt_of_le h3 hf.size, fun i p hp => ⟨hf.cell (h4 i p hp).1 (by simp), hf.cell (h4 i p hp).2.1 (by simp), hf.cell (h4 i p hp).2.2 (by simp)⟩⟩
theorem Pts.form {w : World} {v : Value} {l : List Pty} (h : Pts w v l) : ∃ a cap, v = .slice a l.length cap ∧ l.length ≤ cap ∧ cap ≤ 9223372036854775807 ∧ (∀ i, i < l.length → ∃ b off, a = some ⟨b, off, none⟩) := by
  rcases h with ⟨rfl, rfl⟩ | ⟨b, off, cap, hv, h1, h2, h3, h4⟩
  · exact ⟨none, 0, rfl, by simp, by simp, fun i hi => by simp at hi⟩
  · exact ⟨_, cap, hv, h1, h2, fun i _ => ⟨b, off, rfl⟩⟩
theorem Pts.cells {w : World} {b off n cap : Nat} {l : List Pty} (h : Pts w (.slice (some ⟨b, off, none⟩) n cap) l) (i : Nat) (p : Pty) (hp : l[i]? = some p) :
    w.cell? ⟨b, off + i * 3, none⟩ = some (.string ⟨p.name.toArray⟩) ∧ w.cell? ⟨b, off + i * 3 + 1, none⟩ = some (.string ⟨p.com.toArray⟩) ∧ w.cell? ⟨b, off + i * 3 + 2, none⟩ = some (.string ⟨p.rev.toArray⟩) := by
  rcases h with ⟨h, _⟩ | ⟨b', off', cap', hv, _, _, _, h4⟩
  · cases h
  · cases hv; exact h4 i p hp

set_option maxRecDepth 100000 in
set_option maxHeartbeats 1000000 in
theorem index_any (v : Value) (l : List Pty) (lf : Nat) (lc : Array Value) (pr : Pty → Bool) (w : World) (hv : Pts w v l)
    (he : ∀ args w, (callFunc lf args).run Tryd.prog w = .ok (.enter lf args) w)
    (hcall : ∀ (p : Pty) (W : World), p ∈ l → Fr [] w W → Calls Tryd.prog lf (#[ptyV p] ++ lc) W fun e W' => e = .returned (.bool (pr p)) ∧ Below W.heap.size W W') :
    Calls Tryd.prog 38 #[v, .func (.func lf) #[] lc] w fun e w' => ∃ k : Int, e = .returned (.int .i64 k) ∧ decide (0 ≤ k) = l.any pr ∧ Below w.heap.size w w' := by
  have HV := Lib.hid hv
  obtain ⟨a, cap, rfl, hlc, hcap, ha⟩ := hv.form
  clear hv
  have HCALL := Lib.hid hcall
  clear hcall
  go_enter Tryd.func38, Tryd.ntmps38
  go_wp2_with fail
  go_loopg [8] (l.length + 1) (fun g i wr => ∃ k : Nat, k ≤ l.length ∧ g = l.length + 1 - k ∧ i = .int .i64 (k : Int) ∧ (l.take k).any pr = false ∧ Fr [] w wr)
  case atStart => exact ⟨0, by omega, by omega, rfl, by simp, Fr.refl _ _⟩
  case round =>
    obtain ⟨k, hk, hg, rfl, hany, hfr⟩ := hrel
    have HG := Lib.hid hg
    have HANY := Lib.hid hany
    clear hg hany
    by_cases hlt : k < l.length
    · obtain ⟨b, off, rfl⟩ := ha k hlt
      have t1 : decide ((k : Int) < (l.length : Int)) = true := by simp; omega
      obtain ⟨p, hp⟩ : ∃ p, l[k]? = some p := ⟨l[k], List.getElem?_eq_getElem hlt⟩
      have hc := (HV.out.fr hfr).cells k p hp
      obtain ⟨c0, c1, c2⟩ := hc
      have HM := Lib.hid (List.mem_of_getElem? hp)
      have HP := Lib.hid hp
      have HC := Lib.hid (HCALL.out p wr HM.out hfr)
      clear hp
      unfold ptyV at HC
      go_wp2_with fail
      refine HC.out.mono ?_
      rintro e w1 ⟨rfl, hb1⟩
      have hf1 : Fr [] w w1 := hfr.below hb1 hfr.size
      have HS : Hid ((l.take (k + 1)).any pr = ((l.take k).any pr || pr p)) := Lib.hid (by
        rw [List.take_add_one, HP.out, List.any_append]; simp)
      cases hpr : pr p with
      | true =>
        have HR : Hid (l.any pr = true) := Lib.hid (List.any_eq_true.2 ⟨p, HM.out, hpr⟩)
        clear hpr
        go_wp2_with fail
        go_ret
        exact ⟨k, rfl, by rw [HR.out]; simp, hf1.toBelow (by simp)⟩
      | false =>
        have HQ := Lib.hid hpr
        clear hpr
        go_wp2_with fail
        go_roundg (l.length + 1 - (k + 1))
        case measure => have := HG.out; omega
        case rel => exact ⟨k + 1, by omega, rfl, by go_num, by rw [HS.out, HANY.out, HQ.out]; rfl, hf1⟩
    · obtain rfl : k = l.length := by omega
      have t1 : decide ((l.length : Int) < (l.length : Int)) = false := by simp
      have HR : Hid (l.any pr = false) := Lib.hid (by have := HANY.out; rwa [List.take_length] at this)
      go_wp2_with fail
      go_ret
      exact ⟨-1, rfl, by rw [HR.out]; rfl, hfr.toBelow (by simp)⟩

set_option maxRecDepth 100000 in
theorem contains_any (v : Value) (l : List Pty) (lf : Nat) (lc : Array Value) (pr : Pty → Bool) (w : World) (hv : Pts w v l)
    (he : ∀ args w, (callFunc lf args).run Tryd.prog w = .ok (.enter lf args) w)
    (hcall : ∀ (p : Pty) (W : World), p ∈ l → Fr [] w W → Calls Tryd.prog lf (#[ptyV p] ++ lc) W fun e W' => e = .returned (.bool (pr p)) ∧ Below W.heap.size W W') :
    Calls Tryd.prog 24 #[v, .func (.func lf) #[] lc] w fun e w' => e = .returned (.bool (l.any pr)) ∧ Below w.heap.size w w' := by
  go_enter Tryd.func24, Tryd.ntmps24
  go_wp2_with fail
  refine (index_any v l lf lc pr w hv he hcall).mono ?_
  rintro e w1 ⟨k, rfl, hk, hb1⟩
  go_wp2_with fail
  go_ret
  exact ⟨by rw [← hk]; rfl, hb1⟩

set_option maxRecDepth 100000 in
theorem seed1_any (q p : Pty) (b : Nat) (w : World) (hb : w.cell? ⟨b, 0, none⟩ = some (.string ⟨p.name.toArray⟩)) :
    Calls Tryd.prog 25 #[ptyV q, .pointer (some ⟨b, 0, none⟩)] w fun e w' => e = .returned (.bool (q.name == p.name)) ∧ Below w.heap.size w w' := by
  obtain ⟨a, c, r⟩ := q
  unfold ptyV
  simp only
  have hb2 := ((Fr.refl [] w).alloc (.cells #[.string ⟨a.toArray⟩, .string ⟨c.toArray⟩, .string ⟨r.toArray⟩] 27)).cell hb (by simp)
  go_enter Tryd.func25, Tryd.ntmps25
  go_wp2_with fail
  go_ret
  exact ⟨rfl, (Below.refl _ w).alloc (Nat.le_refl _) _⟩

set_option maxRecDepth 100000 in
theorem seed2_any (p : Pty) (w : World) (hn : p.name.length ≤ 1000000) (hr : p.rev.length ≤ 1000000) (hT : Tabs w) :
    Calls Tryd.prog 26 #[ptyV p] w fun e w' => e = .returned (.bool (!rightB p)) ∧ Below w.heap.size w w' := by
  go_enter Tryd.func26, Tryd.ntmps26
  unfold ptyV
  go_wp2_with fail
  have hf0 : Fr [] w (w.alloc (.cells #[.string ⟨p.name.toArray⟩, .string ⟨p.com.toArray⟩, .string ⟨p.rev.toArray⟩] 27)) := (Fr.refl [] w).alloc _
  refine (right_any p _ hn hr (hT.fr hf0)).mono ?_
  rintro e w1 ⟨rfl, hb1⟩
  go_wp2_with fail
  go_ret
  exact ⟨rfl, (hf0.below hb1 hf0.size).toBelow (by simp)⟩

def dupAt (l : List Pty) (i : Nat) : Bool := match l[i]? with
  | some p => (l.take i).any fun q => q.name == p.name
  | none => false
def textsS (root : List UInt8) (l : List Pty) : List (List UInt8) := root :: l.flatMap fun p => [p.name, p.rev]
def seedS (l : List Pty) (root : List UInt8) : List UInt8 × Int :=
  if 16 < l.length then ([], 3) else if (List.range l.length).any (dupAt l) then ([], 9) else if l.any (fun p => !rightB p) then ([], 20) else (dlist (textsS root l), 0)
theorem Pts.take {w : World} {b off cap : Nat} {l : List Pty} (h : Pts w (.slice (some ⟨b, off, none⟩) l.length cap) l) (k : Nat) (hk : k ≤ l.length) : Pts w (.slice (some ⟨b, off, none⟩) k cap) (l.take k) := by
  rcases h with ⟨h, _⟩ | ⟨b', off', cap', hv, h1, h2, h3, h4⟩
  · cases h
  · cases hv
    refine Or.inr ⟨b, off, cap, by rw [List.length_take, Nat.min_eq_left hk], by rw [List.length_take]; omega, h2, h3, fun i p hp => h4 i p ?_⟩
    rw [List.getElem?_take] at hp
    split at hp
    · exact hp
    · cases hp
theorem texts_snoc (root : List UInt8) (l : List Pty) (k : Nat) (p : Pty) (hp : l[k]? = some p) : textsS root (l.take (k + 1)) = textsS root (l.take k) ++ [p.name, p.rev] := by
  simp only [textsS, List.take_add_one, hp, List.flatMap_append]
  simp
theorem texts_length (root : List UInt8) (l : List Pty) : (textsS root l).length = 1 + 2 * l.length := by
  induction l with
  | nil => rfl
  | cons p l ih =>
    simp only [textsS, List.flatMap_cons, List.length_cons, List.length_append, List.length_nil] at ih ⊢
    omega

theorem enters1 : ∀ args w, (callFunc 25 args).run Tryd.prog w = .ok (.enter 25 args) w := enters_of Tryd.func25 (by kernel_rfl) rfl
theorem enters2 : ∀ args w, (callFunc 26 args).run Tryd.prog w = .ok (.enter 26 args) w := enters_of Tryd.func26 (by kernel_rfl) rfl
theorem texts_join {root : List UInt8} {l : List Pty} (hr : root.length ≤ 1000000) (hl : ∀ p ∈ l, p.name.length ≤ 1000000 ∧ p.rev.length ≤ 1000000) (h16 : l.length ≤ 16) : (joinL (textsS root l)).length ≤ 140737488355328 := by
  have h1 : ∀ s ∈ textsS root l, s.length ≤ 1000000 := by
    intro s hs
    rcases List.mem_cons.1 hs with rfl | hs
    · exact hr
    · obtain ⟨p, hp, hs⟩ := List.mem_flatMap.1 hs
      simp only [List.mem_cons, List.not_mem_nil, or_false] at hs
      rcases hs with rfl | rfl
      · exact (hl p hp).1
      · exact (hl p hp).2
  have h2 := joinL_capN (textsS root l) (fun s hs => by have := h1 s hs; omega)
  have h3 := capN_le (textsS root l) 1000000 h1
  have h4 := texts_length root l
  have h5 : (textsS root l).length * (1000000 + 21) ≤ 33 * (1000000 + 21) := Nat.mul_le_mul_right _ (by omega)
  omega
set_option maxRecDepth 100000 in
set_option maxHeartbeats 1000000 in
theorem seed_any (v : Value) (l : List Pty) (root : List UInt8) (w : World) (hv : Pts w v l) (hl : ∀ p ∈ l, p.name.length ≤ 1000000 ∧ p.rev.length ≤ 1000000) (hr : root.length ≤ 1000000) (hT : Tabs w) :
    Calls Tryd.prog 13 #[v, .string ⟨root.toArray⟩] w fun e w' => e = .returned (.tuple #[.string ⟨(seedS l root).1.toArray⟩, .int .i64 (seedS l root).2]) ∧ Below w.heap.size w w' := by
  have HV := Lib.hid hv
  obtain ⟨a, cap, rfl, hlc, hcap, ha⟩ := hv.form
  have HT := Lib.hid hT
  have HLL := Lib.hid hl
  clear hv hT hl
  by_cases h16 : l.length ≤ 16
  · have t1 : decide ((16 : Int) < (l.length : Int)) = false := by simp; omega
    go_enter Tryd.func13, Tryd.ntmps13
    go_wp2_with fail
    go_loopg [6, 16] (l.length + 1) (fun g ev i wr => ∃ k : Nat, k ≤ l.length ∧ g = l.length + 1 - k ∧ i = .int .i64 (k : Int) ∧ (∀ j, j < k → dupAt l j = false) ∧ OwnS w.heap.size wr ev (textsS root (l.take k)) ∧ Fr [] w wr)
    case atStart => exact ⟨0, by omega, by omega, rfl, fun j hj => absurd hj (Nat.not_lt_zero _), OwnS.one (Nat.le_refl _), (Fr.refl [] w).alloc _⟩
    case round =>
      obtain ⟨k, hk, hg, rfl, hdup, ho, hfr⟩ := hrel
      have HG := Lib.hid hg
      have HDUP := Lib.hid hdup
      have HO := Lib.hid ho
      clear hg hdup ho
      by_cases hlt : k < l.length
      · obtain ⟨b, off, rfl⟩ := ha k hlt
        have t2 : decide ((k : Int) < (l.length : Int)) = true := by simp; omega
        obtain ⟨p, hp⟩ : ∃ p, l[k]? = some p := ⟨l[k], List.getElem?_eq_getElem hlt⟩
        have HV2 := Lib.hid (HV.out.fr hfr)
        obtain ⟨c0, c1, c2⟩ := HV2.out.cells k p hp
        have HM := Lib.hid (List.mem_of_getElem? hp)
        have HD : Hid (dupAt l k = (l.take k).any fun q => q.name == p.name) := Lib.hid (by unfold dupAt; rw [hp])
        have HS := Lib.hid (texts_snoc root l k p hp)
        have HTL := Lib.hid (texts_length root (l.take k))
        clear hp
        go_wp2_with fail
        have hw1 : Fr [] wr (wr.alloc (.cells #[.string ⟨p.name.toArray⟩, .string ⟨p.com.toArray⟩, .string ⟨p.rev.toArray⟩] 27)) := (Fr.refl [] wr).alloc _
        have k0 : (wr.alloc (.cells #[.string ⟨p.name.toArray⟩, .string ⟨p.com.toArray⟩, .string ⟨p.rev.toArray⟩] 27)).cell? ⟨wr.heap.size, 0, none⟩ = some (.string ⟨p.name.toArray⟩) := by rw [row_cell (heap_new rfl) 0]; rfl
        have k2 : (wr.alloc (.cells #[.string ⟨p.name.toArray⟩, .string ⟨p.com.toArray⟩, .string ⟨p.rev.toArray⟩] 27)).cell? ⟨wr.heap.size, 2, none⟩ = some (.string ⟨p.rev.toArray⟩) := by rw [row_cell (heap_new rfl) 2]; rfl
        generalize wr.heap.size = bx at k0 k2 ⊢
        generalize wr.alloc (.cells #[.string ⟨p.name.toArray⟩, .string ⟨p.com.toArray⟩, .string ⟨p.rev.toArray⟩] 27) = w1 at hw1 k0 k2 ⊢
        refine (contains_any _ (l.take k) 25 #[.pointer (some ⟨bx, 0, none⟩)] (fun q => q.name == p.name) w1 ((HV2.out.fr hw1).take k (Nat.le_of_lt hlt)) enters1
          (fun q W _ hW => seed1_any q p bx W (hW.cell k0 (by simp)))).mono ?_
        rintro e w2 ⟨rfl, hb2⟩
        rw [← HD.out]
        have hw12 : Fr [] w1 w2 := Fr.ofBelow hb2
        have hw2 : Fr [] wr w2 := hw1.trans hw12 (by simp)
        have hfr2 : Fr [] w w2 := hfr.trans hw2 (by simp)
        have d0 := hw12.cell k0 (by simp)
        have d2 := hw12.cell k2 (by simp)
        have HO2 := Lib.hid (HO.out.fr hw2 (by simp))
        clear hb2 hw1 k0 k2 c0 c1 c2 hw12 hw2 HO hfr
        cases hdk : dupAt l k with
        | true =>
          have HR : Hid (seedS l root = ([], 9)) := Lib.hid (by
            unfold seedS
            rw [if_neg (by omega), if_pos (List.any_eq_true.2 ⟨k, List.mem_range.2 hlt, hdk⟩)])
          clear hdk
          go_wp2_with fail
          go_ret2
          exact ⟨by rw [HR.out]; rfl, hfr2.toBelow (by simp)⟩
        | false =>
          have HDK := Lib.hid hdk
          clear hdk
          have hlen : (textsS root (l.take k)).length ≤ 1000 := by rw [HTL.out, List.length_take]; omega
          generalize textsS root (l.take k) = L at HO2 HS hlen
          go_wp2_with (at_builtin; go_loud (refine wpList_appM rfl (.tmp 26) (.tmp 31) rfl w.heap.size _ L [p.name, p.rev] w2.heap.size 0 2 2 w rfl rfl rfl (strs_two (heap_new rfl)) (HO2.out.fr ((Fr.refl [] w2).alloc _) (by simp)) (hfr2.alloc _) (Nat.le_refl _) (hfr2.alloc _).size (by omega) ?_))
          intro v3 w3 ho3 hf3 _
          have HO3 := Lib.hid ho3
          clear ho3 HO2 hfr2
          go_wp2_with fail
          go_roundg (l.length + 1 - (k + 1))
          case measure => have := HG.out; omega
          case rel =>
            refine ⟨k + 1, by omega, rfl, by go_num, fun j hj => ?_, by rw [HS.out]; exact HO3.out, hf3⟩
            rcases Nat.lt_or_ge j k with h | h
            · exact HDUP.out j h
            · obtain rfl : j = k := by omega
              exact HDK.out
      · obtain rfl : k = l.length := by omega
        have t2 : decide ((l.length : Int) < (l.length : Int)) = false := by simp
        have HO2 : Hid (OwnS w.heap.size wr u6 (textsS root l)) := Lib.hid (by have := HO.out; rwa [List.take_length] at this)
        have HND : Hid ((List.range l.length).any (dupAt l) = false) := Lib.hid (by
          rw [List.any_eq_false]; intro j hj; rw [HDUP.out j (List.mem_range.1 hj)]; decide)
        clear HO HDUP
        go_wp2_with fail
        refine (contains_any _ l 26 #[] (fun p => !rightB p) wr (HV.out.fr hfr) enters2
          (fun q W hq hW => seed2_any q W (HLL.out q hq).1 (HLL.out q hq).2 (HT.out.fr (hfr.trans hW (by simp))))).mono ?_
        rintro e w2 ⟨rfl, hb2⟩
        have hw2 : Fr [] wr w2 := Fr.ofBelow hb2
        have hfr2 : Fr [] w w2 := hfr.trans hw2 (by simp)
        have HO3 := Lib.hid (HO2.out.fr hw2 (by simp))
        cases hrt : l.any (fun p => !rightB p) with
        | true =>
          have HR : Hid (seedS l root = ([], 20)) := Lib.hid (by
            unfold seedS
            rw [if_neg (by omega), if_neg (by rw [HND.out]; decide), if_pos hrt])
          clear hrt
          go_wp2_with fail
          go_ret2
          exact ⟨by rw [HR.out]; rfl, hfr2.toBelow (by simp)⟩
        | false =>
          have HR : Hid (seedS l root = (dlist (textsS root l), 0)) := Lib.hid (by
            unfold seedS
            rw [if_neg (by omega), if_neg (by rw [HND.out]; decide), if_neg (by rw [hrt]; decide)])
          have HJ : Hid ((joinL (textsS root l)).length ≤ 140737488355328) := Lib.hid (texts_join hr HLL.out h16)
          clear hrt
          go_wp2_with fail
          refine (of_any _ (textsS root l) w2 HO3.out.strs HJ.out (HT.out.fr hfr2)).mono ?_
          rintro e w4 ⟨rfl, hb4⟩
          go_wp2_with fail
          go_ret2
          exact ⟨by rw [HR.out]; rfl, (hfr2.below hb4 hfr2.size).toBelow (by simp)⟩
  · have t1 : decide ((16 : Int) < (l.length : Int)) = true := by simp; omega
    have HR : Hid (seedS l root = ([], 3)) := Lib.hid (by unfold seedS; rw [if_pos (by omega)])
    go_enter Tryd.func13, Tryd.ntmps13
    go_wp2_with fail
    go_ret2
    exact ⟨by rw [HR.out]; rfl, Below.refl _ _⟩
end Go.Proofs.YtnbpajcecjpfpaaDoor
