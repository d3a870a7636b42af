/-
  entry: name, Valid, Text, Commit.
-/
import Derived.Test.YtjddngbgbbbefaaGreatDoorJoin
import Derived.Test.YtjddngbgbbbefaaGreatDoorPty
import Derived.Test.YtjddngbgbbbefaaGreatDoorRefA
namespace Go.Proofs.YtjddngbgbbbefaaGreatDoor
open Go.RowKit

def nameC (i c : Nat) : Bool := decide ((97 ≤ c ∧ c ≤ 122) ∨ (65 ≤ c ∧ c ≤ 90) ∨ (0 < i ∧ ((48 ≤ c ∧ c ≤ 57) ∨ c = 95)))
def nameB (l : List UInt8) : Bool := decide ((∀ i, i < l.length → nameC i (l.getD i 0).toNat = true) ∧ l ≠ [] ∧ l.length ≤ 24)
theorem nameB_bad {l : List UInt8} {i : Nat} (hi : i < l.length) (h : nameC i (l.getD i 0).toNat = false) : nameB l = false := by
  unfold nameB
  rw [decide_eq_false_iff_not]
  rintro ⟨h1, _⟩
  rw [h1 i hi] at h; cases h

set_option maxRecDepth 100000 in
set_option maxHeartbeats 4000000 in
theorem name_any (l : List UInt8) (w : World) (hl : l.length ≤ 1000000) :
    Calls Tryz.prog 70 #[.string ⟨l.toArray⟩] w fun e w' => e = .returned (.bool (nameB l)) ∧ w = w' := by
  go_enter Tryz.func70, Tryz.ntmps70
  go_wp2_with fail
  go_loopg [7] (l.length + 1) (fun g i wr => ∃ k : Nat, k ≤ l.length ∧ g = l.length + 1 - k ∧ i = .int .i64 (k : Int) ∧ (∀ i, i < k → nameC i (l.getD i 0).toNat = true) ∧ wr = w)
  case atStart => exact ⟨0, by omega, by omega, rfl, fun i hi => absurd hi (Nat.not_lt_zero _), rfl⟩
  case round =>
    obtain ⟨k, hk, hg, rfl, hall, rfl⟩ := hrel
    have HG := Lib.hid hg
    have HALL := Lib.hid hall
    clear hg hall
    by_cases h1 : k < l.length
    · have t1 : decide ((k : Int) < (l.length : Int)) = true := by simp; omega
      have HBA := Lib.hid (ba_get l k h1)
      obtain ⟨c, hc⟩ : ∃ c, c = (l.getD k 0).toNat := ⟨_, rfl⟩
      have hb : (l.getD k 0).toNat = c := hc.symm
      have HC := Lib.hid hc
      have hc256 : c < 256 := by rw [hc]; exact UInt8.toNat_lt _
      clear hc hb
      have HCC : Hid (((⟨l.toArray⟩ : ByteArray)[k]'(by rw [ba_size]; exact h1)).toNat = c) := Lib.hid (by rw [HBA.out, ← HC.out])
      go_wp2_with fail
      all_goals
        have hcc := HCC.out
        try simp only [beq_iff_eq, beq_eq_false_iff_ne, ne_eq] at *
        first
        | (have hn : nameC k c = true := by unfold nameC; rw [decide_eq_true_eq]; omega
           go_roundg (l.length + 1 - (k + 1))
           case measure => have := HG.out; omega
           case rel =>
             refine ⟨k + 1, by omega, rfl, by go_num, fun i hi => ?_, rfl⟩
             rcases Nat.lt_or_ge i k with h | h
             · exact HALL.out i h
             · obtain rfl : i = k := by omega
               rw [← HC.out]; exact hn)
        | (have hn : nameC k c = false := by unfold nameC; rw [decide_eq_false_iff_not]; omega
           have HF : Hid (nameB l = false) := Lib.hid (nameB_bad h1 (by rw [← HC.out]; exact hn))
           go_ret
           exact ⟨by rw [HF.out]; rfl, rfl⟩)
    · obtain rfl : k = l.length := by omega
      have t1 : decide ((l.length : Int) < (l.length : Int)) = false := by simp
      by_cases h0 : l = []
      · subst h0
        have HF : Hid (nameB [] = false) := Lib.hid (by decide)
        go_wp2_with fail
        go_ret
        exact ⟨by rw [HF.out]; rfl, rfl⟩
      · have t2 : l.isEmpty = false := by simpa using h0
        have t3 : (!l.isEmpty) = true := by rw [t2]; rfl
        have t4 : ¬ l = [] := h0
        have HF : Hid (nameB l = decide ((l.length : Int) ≤ 24)) := Lib.hid (by
          unfold nameB
          rw [Bool.eq_iff_iff]
          simp only [decide_eq_true_eq]
          exact ⟨fun h => by omega, fun h => ⟨HALL.out, h0, by omega⟩⟩)
        go_wp2_with fail
        go_ret
        exact ⟨by rw [HF.out]; rfl, rfl⟩

def validB (p : Pty) : Bool := nameB p.name && isD p.com && isD p.rev
def textS (p : Pty) : List UInt8 := if validB p then p.name ++ 32 :: p.com ++ 32 :: p.rev else []
theorem three_cells {W : World} {x y z : List UInt8} {t : TypeId} {b : Nat} (h : W.heap[b]? = some (.cells #[.string ⟨x.toArray⟩, .string ⟨y.toArray⟩, .string ⟨z.toArray⟩] t (0, 0))) :
    W.cell? ⟨b, 0, none⟩ = some (.string ⟨x.toArray⟩) ∧ W.cell? ⟨b, 1, none⟩ = some (.string ⟨y.toArray⟩) ∧ W.cell? ⟨b, 2, none⟩ = some (.string ⟨z.toArray⟩) :=
  ⟨by rw [row_cell h]; rfl, by rw [row_cell h]; rfl, by rw [row_cell h]; rfl⟩

set_option maxRecDepth 100000 in
set_option maxHeartbeats 4000000 in
theorem validE_any (p : Pty) (w : World) (h0 : p.name.length ≤ 1000000) (h1 : p.com.length ≤ 1000000) (h2 : p.rev.length ≤ 1000000) :
    Calls Tryz.prog 30 #[ptyV p] w fun e w' => e = .returned (.bool (validB p)) ∧ Below w.heap.size w w' := by
  obtain ⟨x, y, z⟩ := p
  unfold ptyV validB
  simp only at h0 h1 h2 ⊢
  go_enter Tryz.func30, Tryz.ntmps30
  go_wp2_with fail
  obtain ⟨k0, k1, k2⟩ := three_cells (W := w.alloc (.cells #[.string ⟨x.toArray⟩, .string ⟨y.toArray⟩, .string ⟨z.toArray⟩] 43)) (heap_new rfl)
  have hf0 : Fr [] w (w.alloc (.cells #[.string ⟨x.toArray⟩, .string ⟨y.toArray⟩, .string ⟨z.toArray⟩] 43)) := (Fr.refl [] w).alloc _
  generalize w.heap.size = b at k0 k1 k2 ⊢
  generalize w.alloc (.cells #[.string ⟨x.toArray⟩, .string ⟨y.toArray⟩, .string ⟨z.toArray⟩] 43) = w0 at hf0 k0 k1 k2 ⊢
  refine (name_any x w0 h0).mono ?_
  rintro e w1 ⟨rfl, rfl⟩
  cases hx : nameB x with
  | false =>
    have HX := Lib.hid hx
    clear hx
    go_wp2_with fail
    go_ret
    exact ⟨by rw [HX.out]; rfl, hf0.toBelow (by simp)⟩
  | true =>
    have HX := Lib.hid hx
    clear hx
    go_wp2_with fail
    refine (is_any y w0 (by omega)).mono ?_
    rintro e w1 ⟨rfl, hb1⟩
    have hf1 : Fr [] w w1 := hf0.below hb1 hf0.size
    have k2' := (Fr.ofBelow (X := []) hb1).cell k2 (by simp)
    clear k0 k1 k2 hb1 hf0
    cases hy : isD y with
    | false =>
      have HY := Lib.hid hy
      clear hy
      go_wp2_with fail
      go_ret
      exact ⟨by rw [HX.out, HY.out]; rfl, hf1.toBelow (by simp)⟩
    | true =>
      have HY := Lib.hid hy
      clear hy
      go_wp2_with fail
      refine (is_any z w1 (by omega)).mono ?_
      rintro e w2 ⟨rfl, hb2⟩
      go_wp2_with fail
      go_ret
      exact ⟨by rw [HX.out, HY.out]; rfl, (hf1.below hb2 hf1.size).toBelow (by simp)⟩

set_option maxRecDepth 100000 in
set_option maxHeartbeats 4000000 in
theorem textE_any (p : Pty) (w : World) (h0 : p.name.length ≤ 1000000) (h1 : p.com.length ≤ 1000000) (h2 : p.rev.length ≤ 1000000) :
    Calls Tryz.prog 57 #[ptyV p] w fun e w' => e = .returned (.string ⟨(textS p).toArray⟩) ∧ Below w.heap.size w w' := by
  have HC := Lib.hid (fun w => validE_any p w h0 h1 h2)
  have HTX : Hid (textS p = if validB p then p.name ++ 32 :: p.com ++ 32 :: p.rev else []) := Lib.hid rfl
  obtain ⟨x, y, z⟩ := p
  unfold ptyV at HC ⊢
  simp only at h0 h1 h2 HC HTX ⊢
  generalize validB ⟨x, y, z⟩ = vb at HC HTX
  generalize textS ⟨x, y, z⟩ = tx at HTX ⊢
  go_enter Tryz.func57, Tryz.ntmps57
  go_wp2_with fail
  obtain ⟨k0, k1, k2⟩ := three_cells (W := w.alloc (.cells #[.string ⟨x.toArray⟩, .string ⟨y.toArray⟩, .string ⟨z.toArray⟩] 43)) (heap_new rfl)
  have hf0 : Fr [] w (w.alloc (.cells #[.string ⟨x.toArray⟩, .string ⟨y.toArray⟩, .string ⟨z.toArray⟩] 43)) := (Fr.refl [] w).alloc _
  generalize w.heap.size = b at k0 k1 k2 ⊢
  generalize w.alloc (.cells #[.string ⟨x.toArray⟩, .string ⟨y.toArray⟩, .string ⟨z.toArray⟩] 43) = w0 at hf0 k0 k1 k2 ⊢
  refine (HC.out w0).mono ?_
  rintro e w1 ⟨rfl, hb1⟩
  have hf1 : Fr [] w w1 := hf0.below hb1 hf0.size
  have k0' := (Fr.ofBelow (X := []) hb1).cell k0 (by simp)
  have k1' := (Fr.ofBelow (X := []) hb1).cell k1 (by simp)
  have k2' := (Fr.ofBelow (X := []) hb1).cell k2 (by simp)
  clear k0 k1 k2 hb1 hf0
  cases vb with
  | false =>
    go_wp2_with fail
    go_ret
    exact ⟨by rw [HTX.out]; rfl, hf1.toBelow (by simp)⟩
  | true =>
    go_wp2_with fail
    refine (join3_any w1.heap.size x y z _ h0 h1 h2 (strs_three (heap_new rfl))).mono ?_
    rintro e w2 ⟨rfl, hb2⟩
    go_wp2_with fail
    go_ret
    exact ⟨by rw [HTX.out]; simp, ((hf1.alloc _).below hb2 (hf1.alloc _).size).toBelow (by simp)⟩

theorem two_joinE (x y : List UInt8) (hx : x.length ≤ 1000000) (hy : y.length ≤ 1000000) : (joinL [x, y]).length ≤ 140737488355328 := by
  have := dec_len x.length (by omega)
  have := dec_len y.length (by omega)
  simp [joinL, joinE]
  omega
set_option maxRecDepth 100000 in
theorem commit_any (x y : List UInt8) (w : World) (h0 : x.length ≤ 1000000) (h1 : y.length ≤ 1000000) (hT : Tabs w) :
    Calls Tryz.prog 68 #[.string ⟨x.toArray⟩, .string ⟨y.toArray⟩] w fun e w' => e = .returned (.string ⟨(dlist [x, y]).toArray⟩) ∧ Below w.heap.size w w' := by
  have HT := Lib.hid hT
  clear hT
  go_enter Tryz.func68, Tryz.ntmps68
  go_wp2_with fail
  refine (list_any _ [x, y] _ (strs_two (heap_new rfl)) (two_joinE x y h0 h1) (HT.out.fr ((Fr.refl [] w).alloc _))).mono ?_
  rintro e w1 ⟨rfl, hb1⟩
  go_wp2_with fail
  go_ret
  exact ⟨rfl, (((Fr.refl [] w).alloc _).below hb1 ((Fr.refl [] w).alloc _).size).toBelow (by simp)⟩

def smallE (p : Pty) : Bool := decide (p.name.length ≤ 100) && decide (p.com.length ≤ 100) && decide (p.rev.length ≤ 100)
def few18B (l : List Pty) (n : Nat) : Bool := l.all smallE && decide (l.length ≤ n)
set_option maxRecDepth 100000 in
set_option maxHeartbeats 2000000 in
theorem few18_any (v : Value) (l : List Pty) (n : Nat) (w : World) (hv : Pts w v l) :
    Calls Tryz.prog 26 #[v, .int .i64 (n : Int)] w fun e w' => e = .returned (.bool (few18B l n)) ∧ Below w.heap.size w w' := by
  have hmx : Tryz.prog.follows .mixedOrders = true := by kernel_rfl
  have HV := Lib.hid hv
  obtain ⟨a, cap, rfl, hlc, hcap, ha⟩ := hv.form
  clear hv
  go_enter Tryz.func26, Tryz.ntmps26
  go_wp2_with fail
  go_loopg [5] (l.length + 1) (fun g i wr => ∃ k : Nat, k ≤ l.length ∧ k ≤ n ∧ g = l.length + 1 - k ∧ i = .int .i64 (k : Int) ∧ (l.take k).all smallE = true ∧ Fr [] w wr)
  case atStart => exact ⟨0, by omega, by omega, by omega, rfl, by simp, Fr.refl _ _⟩
  case round =>
    obtain ⟨k, hk, hkn, hg, rfl, hall, hfr⟩ := hrel
    have HG := Lib.hid hg
    have HALL := Lib.hid hall
    clear hg hall
    by_cases hlt : k < l.length
    · obtain ⟨b, off, rfl⟩ := ha k hlt
      have t1 : decide ((k : Int) < (l.length : Int)) = true := by simp; omega
      obtain ⟨p, hp⟩ : ∃ p, l[k]? = some p := ⟨l[k], List.getElem?_eq_getElem hlt⟩
      obtain ⟨c0, c1, c2⟩ := (HV.out.fr hfr).cells k p hp
      have HM := Lib.hid (List.mem_of_getElem? hp)
      have HS : Hid ((l.take (k + 1)).all smallE = ((l.take k).all smallE && smallE p)) := Lib.hid (by
        rw [List.take_add_one, hp, List.all_append]; simp)
      clear hp
      by_cases hn2 : k < n
      · have t0 : decide ((k : Int) < (n : Int)) = true := by simp; omega
        by_cases hs : p.name.length ≤ 100 ∧ p.com.length ≤ 100 ∧ p.rev.length ≤ 100
        · have HSP : Hid (smallE p = true) := Lib.hid (by simp [smallE, hs])
          obtain ⟨h1, h2, h3⟩ := hs
          have t2 : decide ((100 : Int) < (p.name.length : Int)) = false := by simp; omega
          have t3 : decide ((100 : Int) < (p.com.length : Int)) = false := by simp; omega
          have t4 : decide ((100 : Int) < (p.rev.length : Int)) = false := by simp; omega
          go_wp2_with fail
          go_roundg (l.length + 1 - (k + 1))
          case measure => have := HG.out; omega
          case rel => exact ⟨k + 1, by omega, by omega, rfl, by go_num, by rw [HS.out, HALL.out, HSP.out]; rfl, hfr⟩
        · have HF : Hid (few18B l n = false) := Lib.hid (by
            have h : smallE p = false := by
              cases h : smallE p with
              | false => rfl
              | true => exact absurd (by simpa [smallE, and_assoc] using h) hs
            unfold few18B
            rw [Bool.and_eq_false_iff]
            left
            rw [List.all_eq_false]
            exact ⟨p, HM.out, by rw [h]; decide⟩)
          go_wp2_with fail
          all_goals go_ret
          all_goals exact ⟨by rw [HF.out]; rfl, hfr.toBelow (by simp)⟩
      · obtain rfl : k = n := by omega
        have t0 : decide ((k : Int) < (k : Int)) = false := by simp
        have t5 : decide ((l.length : Int) ≤ (k : Int)) = false := by simp; omega
        have HF : Hid (few18B l k = decide (l.length ≤ k)) := Lib.hid (by
          have h : ¬ l.length ≤ k := by omega
          simp [few18B, h])
        go_wp2_with fail
        go_ret
        exact ⟨by rw [HF.out]; rfl, hfr.toBelow (by simp)⟩
    · obtain rfl : k = l.length := by omega
      have t1 : decide ((l.length : Int) < (l.length : Int)) = false := by simp
      have t5 : decide ((l.length : Int) ≤ (n : Int)) = true := by simp; omega
      have HR : Hid (few18B l n = true) := Lib.hid (by have h := HALL.out; rw [List.take_length] at h; simp [few18B, h, hkn])
      go_wp2_with fail
      go_ret
      exact ⟨by rw [HR.out]; rfl, hfr.toBelow (by simp)⟩
theorem few18_all {l : List Pty} {n : Nat} (h : few18B l n = true) : (∀ p ∈ l, p.name.length ≤ 100 ∧ p.com.length ≤ 100 ∧ p.rev.length ≤ 100) ∧ l.length ≤ n := by
  simp only [few18B, Bool.and_eq_true, decide_eq_true_eq, List.all_eq_true] at h
  refine ⟨fun p hp => ?_, h.2⟩
  have := h.1 p hp
  simp only [smallE, Bool.and_eq_true, decide_eq_true_eq] at this
  omega
end Go.Proofs.YtjddngbgbbbefaaGreatDoor
