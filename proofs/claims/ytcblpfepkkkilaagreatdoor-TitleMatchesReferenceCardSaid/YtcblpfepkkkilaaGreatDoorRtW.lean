/-
  foyerref30.words.
-/
import Derived.Test.YtcblpfepkkkilaaGreatDoorPlnSp
import Derived.Test.YtcblpfepkkkilaaGreatDoorPlnSq
import Derived.Test.YtcblpfepkkkilaaGreatDoorOwn
import Derived.Test.YtcblpfepkkkilaaGreatDoorDigE
import Derived.Test.YtcblpfepkkkilaaGreatDoorRefB
namespace Go.Proofs.YtcblpfepkkkilaaGreatDoor
open Go.RowKit

theorem ba_cutW (l : List UInt8) (i j : Nat) : (⟨l.toArray⟩ : ByteArray).extract i j = ⟨((l.drop i).take (j - i)).toArray⟩ := by
  apply ByteArray.ext
  simp [ByteArray.data_extract]
/-- The words so far, and no space since the last one began. -/
structure WSt (l : List UInt8) (out : List (List UInt8)) (s i : Nat) : Prop where
  si : s ≤ i
  sp : splitS l = out ++ splitS (l.drop s)
  no : (32 : UInt8) ∉ (l.drop s).take (i - s)
theorem WSt.step {l : List UInt8} {out : List (List UInt8)} {s i : Nat} (h : WSt l out s i) (hi : i < l.length) (hc : l.getD i 0 ≠ 32) : WSt l out s (i + 1) := by
  obtain ⟨h1, h2, h3⟩ := h
  refine ⟨by omega, h2, fun hm => ?_⟩
  rw [show i + 1 - s = (i - s) + 1 by omega, take_snoc' _ (i - s) 0 (by rw [List.length_drop]; omega)] at hm
  rcases List.mem_append.1 hm with hm | hm
  · exact h3 hm
  · rw [List.mem_singleton, List.getD_eq_getElem?_getD, List.getElem?_drop, show s + (i - s) = i by omega, ← List.getD_eq_getElem?_getD] at hm
    exact hc hm.symm
theorem WSt.cut {l : List UInt8} {out : List (List UInt8)} {s i : Nat} (h : WSt l out s i) (hi : i < l.length) (hc : l.getD i 0 = 32) : WSt l (out ++ [(l.drop s).take (i - s)]) (i + 1) (i + 1) := by
  obtain ⟨h1, h2, h3⟩ := h
  refine ⟨Nat.le_refl _, ?_, by simp⟩
  have e : l.drop s = (l.drop s).take (i - s) ++ 32 :: l.drop (i + 1) := by
    have h4 : l.drop i = 32 :: l.drop (i + 1) := by
      rw [List.drop_eq_getElem_cons hi]
      congr 1
      rw [List.getD_eq_getElem?_getD, List.getElem?_eq_getElem hi] at hc
      exact hc
    rw [← h4]
    have h5 : l.drop i = (l.drop s).drop (i - s) := by rw [List.drop_drop]; congr 1; omega
    rw [h5, List.take_append_drop]
  rw [h2]
  conv => lhs; rw [e]
  rw [split_app _ h3, List.append_assoc]; rfl
theorem WSt.last {l : List UInt8} {out : List (List UInt8)} {s : Nat} (h : WSt l out s l.length) : splitS l = out ++ [(l.drop s).take (l.length - s)] := by
  obtain ⟨h1, h2, h3⟩ := h
  have e : (l.drop s).take (l.length - s) = l.drop s := List.take_of_length_le (by rw [List.length_drop]; exact Nat.le_refl _)
  rw [e] at h3 ⊢
  rw [h2, split_one _ h3]
set_option maxRecDepth 100000 in
set_option maxHeartbeats 2000000 in
theorem rwords30_any (l : List UInt8) (w : World) (hl : l.length ≤ 100000) :
    Calls Tryz.prog 44 #[.string ⟨l.toArray⟩] w fun e w' => ∃ v, e = .returned v ∧ OwnS w.heap.size w' v (splitS l) ∧ Below w.heap.size w w' := by
  go_enter Tryz.func44, Tryz.ntmps44
  go_wp2_with fail
  go_loopg [3, 4, 5] (l.length + 1) (fun g out st i wr => ∃ (k s : Nat) (L : List (List UInt8)), k ≤ l.length + 1 ∧ g = l.length + 1 - k ∧ i = .int .i64 (k : Int) ∧ st = .int .i64 (s : Int) ∧ OwnS w.heap.size wr out L ∧ L.length ≤ k ∧ Fr [] w wr ∧ (k ≤ l.length → WSt l L s k) ∧ (k = l.length + 1 → L = splitS l))
  case atStart => exact ⟨0, 0, [], by omega, by omega, rfl, rfl, ⟨by simp, Or.inl ⟨rfl, by simp⟩⟩, by simp, Fr.refl _ _, fun _ => ⟨Nat.le_refl _, by simp, by simp⟩, fun h => by omega⟩
  case round =>
    obtain ⟨k, s, L, hk, hg, rfl, rfl, ho, hll, hfr, hst, hen⟩ := hrel
    have HG := Lib.hid hg
    have HO := Lib.hid ho
    have HST := Lib.hid hst
    have HEN := Lib.hid hen
    clear hg ho hst hen
    by_cases hlt : k ≤ l.length
    · have t1 : decide ((k : Int) ≤ (l.length : Int)) = true := by simp; omega
      have t2 : k ≤ l.length := hlt
      have HSI := Lib.hid (HST.out hlt).si
      have hsi := HSI.out
      have hL : L.length < 1000000 := by omega
      have hcut := ba_cutW l s k
      have i0 : (0 : Int) ≤ (s : Int) := by omega
      have i1 : (s : Int) ≤ (k : Int) := by omega
      have i2 : (k : Int) ≤ (l.length : Int) := by omega
      by_cases hend : k = l.length
      · have HW : Hid (splitS l = L ++ [(l.drop s).take (k - s)]) := Lib.hid (by
          have h := HST.out hlt
          rw [hend] at h ⊢
          exact h.last)
        have HE := Lib.hid hend
        have u1 : ((k : Int) == (l.length : Int)) = true := by rw [hend]; simp
        clear hlt hend
        generalize (l.drop s).take (k - s) = cw at hcut HW
        go_wp2_with (at_builtin; go_loud (refine wpList_appS rfl (.tmp 22) (.tmp 27) rfl w.heap.size _ L cw w rfl rfl HO.out hfr (Nat.le_refl _) hfr.size hL ?_))
        intro v7 w7 g7 c7 hv7 ho7 hf7 hg7
        subst hv7
        have HO7 := Lib.hid ho7
        clear ho7 hg7
        go_wp2_with fail
        go_roundg (l.length + 1 - (k + 1))
        case measure => have := HG.out; omega
        case rel => exact ⟨k + 1, k + 1, L ++ [cw], by omega, rfl, by go_num, by go_num, HO7.out, by rw [List.length_append, List.length_singleton]; omega, hf7, fun h => by have := HE.out; omega, fun _ => HW.out.symm⟩
      · have hkl : k < l.length := by omega
        have u1 : ((k : Int) == (l.length : Int)) = false := by rw [beq_eq_false_iff_ne]; omega
        have hba := ba_get l k hkl
        have HCU : Hid (l.getD k 0 = 32 → WSt l (L ++ [(l.drop s).take (k - s)]) (k + 1) (k + 1)) := Lib.hid (fun h => (HST.out hlt).cut hkl h)
        have HSTP : Hid (l.getD k 0 ≠ 32 → WSt l L s (k + 1)) := Lib.hid (fun h => (HST.out hlt).step hkl h)
        have i3 : (k : Int) < (l.length : Int) := by omega
        generalize l.getD k 0 = c at hba HCU HSTP
        generalize (l.drop s).take (k - s) = cw at hcut HCU
        have HKL := Lib.hid hkl
        by_cases hc : c = 32
        · have u2 : ((c.toNat : Int) == 32) = true := by rw [hc]; rfl
          have HW := Lib.hid (HCU.out hc)
          clear hlt hend hc HCU HSTP
          go_wp2_with (at_builtin; go_loud (refine wpList_appS rfl (.tmp 22) (.tmp 27) rfl w.heap.size _ L cw w rfl rfl HO.out hfr (Nat.le_refl _) hfr.size hL ?_))
          intro v7 w7 g7 c7 hv7 ho7 hf7 hg7
          subst hv7
          have HO7 := Lib.hid ho7
          clear ho7 hg7
          go_wp2_with fail
          go_roundg (l.length + 1 - (k + 1))
          case measure => have := HG.out; omega
          case rel => exact ⟨k + 1, k + 1, L ++ [cw], by omega, rfl, by go_num, by go_num, HO7.out, by rw [List.length_append, List.length_singleton]; omega, hf7, fun _ => HW.out, fun h => by have := HKL.out; omega⟩
        · have u2 : ((c.toNat : Int) == 32) = false := by
            rw [beq_eq_false_iff_ne]
            intro h
            apply hc
            apply UInt8.toNat_inj.1
            have : (32 : UInt8).toNat = 32 := rfl
            omega
          have HW := Lib.hid (HSTP.out hc)
          clear hlt hend hc HCU HSTP
          go_wp2_with fail
          go_roundg (l.length + 1 - (k + 1))
          case measure => have := HG.out; omega
          case rel => exact ⟨k + 1, s, L, by omega, rfl, by go_num, rfl, HO.out, by omega, hfr, fun _ => HW.out, fun h => by have := HKL.out; omega⟩
    · obtain rfl : k = l.length + 1 := by omega
      have t1 : decide (((l.length + 1 : Nat) : Int) ≤ (l.length : Int)) = false := by simp; omega
      obtain rfl := HEN.out rfl
      go_wp2_with fail
      go_ret
      exact ⟨_, rfl, HO.out, hfr.toBelow (by simp)⟩
end Go.Proofs.YtcblpfepkkkilaaGreatDoor
