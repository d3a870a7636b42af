/-
  foyerref18.head: the least index of a class.
-/
import Derived.Test.YtmhejcndkplepaaDoorPlnEn
import Derived.Test.YtmhejcndkplepaaDoorOwnI
import Derived.Deep.RegionHeld3
import Derived.BigRegion
namespace Go.Proofs.YtmhejcndkplepaaDoor
open Go.RowKit

theorem OwnI.cells {base : Nat} {w : World} {g n cap : Nat} {p : List Nat} (h : OwnI base w (.slice (some ⟨g, 0, none⟩) n cap) p) (hn : p.length = n) (j : Nat) (hj : j < n) : w.cell? ⟨g, j, none⟩ = some (.int .i64 (p.getD j 0 : Nat)) := by
  obtain ⟨cur, _, hgc, _, _, _, h6⟩ := h.formN hn
  rw [row_cell hgc j, natV_at h6 hn j hj]
theorem OwnI.free {base : Nat} {w : World} {g n cap : Nat} {p : List Nat} (h : OwnI base w (.slice (some ⟨g, 0, none⟩) n cap) p) (hn : p.length = n) (j : Nat) : w.frozen? ⟨g, j, none⟩ = false := by
  obtain ⟨cur, _, hgc, _⟩ := h.formN hn
  exact row_free hgc j
theorem OwnI.put {base : Nat} {w : World} {g n cap : Nat} {p : List Nat} (h : OwnI base w (.slice (some ⟨g, 0, none⟩) n cap) p) (hn : p.length = n) (i x : Nat) : OwnI base (w.setCell ⟨g, i, none⟩ (.int .i64 (x : Int))) (.slice (some ⟨g, 0, none⟩) n cap) (p.set i x) := by
  obtain ⟨cur, hb, hgc, h3, h4, h5, h6⟩ := h.formN hn
  exact ownI_set hb hgc hn h3 h4 h5 h6 x

set_option maxRecDepth 100000 in
set_option maxHeartbeats 4000000 in
theorem rhead_any (base g n cap k i : Nat) (R : Nat → Nat) (p : List Nat) (w : World) (hi : i < k) (hO : OwnI base w (.slice (some ⟨g, 0, none⟩) n cap) p) (hn : p.length = n) (hU : UF k p R) :
    Calls Tryd.prog 76 #[.slice (some ⟨g, 0, none⟩) n cap, .int .i64 (i : Int)] w fun e w' => e = .returned (.int .i64 (R i : Nat)) ∧ ∃ p', OwnI base w' (.slice (some ⟨g, 0, none⟩) n cap) p' ∧ p'.length = n ∧ Shrt k p p' R ∧ Fr [g] w w' := by
  have hkn : k ≤ n := by have := hU.len; omega
  have HO := Lib.hid hO
  have HU := Lib.hid hU
  have HN := Lib.hid hn
  clear hO hU hn
  go_enter Tryd.func76, Tryd.ntmps76
  go_wp2_with fail
  go_loopg [5] (i + 1) (fun gh r wr => ∃ j : Nat, j < k ∧ gh = j + 1 ∧ r = .int .i64 (j : Int) ∧ R j = R i ∧ wr = w)
  case atStart => exact ⟨i, hi, rfl, rfl, rfl, rfl⟩
  case round =>
    obtain ⟨j, hj, hgh, rfl, hrj, rfl⟩ := hrel
    have HGH := Lib.hid hgh
    have HRJ := Lib.hid hrj
    have c0 := HO.out.cells HN.out j (by omega)
    have hle := HU.out.le j hj
    have HFX := Lib.hid (HU.out.fx j hj)
    have HRT := Lib.hid (HU.out.rt j hj)
    have i0 : (0 : Int) ≤ (j : Int) := by omega
    have i1 : (j : Int) < (n : Int) := by omega
    clear hgh hrj
    generalize p.getD j 0 = x at c0 hle HFX HRT
    by_cases hx : x = j
    · subst hx
      have t1 : ((x : Int) != (x : Int)) = false := by simp
      have HR : Hid (R i = x) := Lib.hid (by rw [← HRJ.out]; exact HFX.out.1 rfl)
      go_wp2_with fail
      clear i0 i1 t1 c0 hle HFX HRT HRJ HGH
      go_loopg [1] (i + 1) (fun gh r wr' => ∃ (j : Nat) (q : List Nat), j < k ∧ gh = j + 1 ∧ r = .int .i64 (j : Int) ∧ R j = x ∧ OwnI base wr' (.slice (some ⟨g, 0, none⟩) n cap) q ∧ q.length = n ∧ Shrt k p q R ∧ Fr [g] wr wr')
      case atStart => exact ⟨i, p, hi, rfl, rfl, HR.out, HO.out, HN.out, .refl _ _ _, .refl _ _⟩
      case round =>
        obtain ⟨j, q, hj', hgh, rfl, hrj, ho, hqn, hsh, hfr⟩ := hrel
        have HGH := Lib.hid hgh
        have HRJ := Lib.hid hrj
        have HOQ := Lib.hid ho
        have HQN := Lib.hid hqn
        have HSH := Lib.hid hsh
        have HUQ := Lib.hid (HU.out.shrt hsh)
        have c0 := ho.cells hqn j (by omega)
        have c1 := ho.free hqn j
        have hle := HUQ.out.le j hj'
        have HFX := Lib.hid (HUQ.out.fx j hj')
        have HRT := Lib.hid (HUQ.out.rt j hj')
        have i0 : (0 : Int) ≤ (j : Int) := by omega
        have i1 : (j : Int) < (n : Int) := by omega
        clear hgh hrj ho hqn hsh
        generalize q.getD j 0 = y at c0 hle HFX HRT
        by_cases hy : y = x
        · have t1 : ((y : Int) != (x : Int)) = false := by rw [hy]; simp
          clear hy
          go_wp2_with fail
          go_ret
          exact ⟨by rw [HR.out]; rfl, q, HOQ.out, HQN.out, HSH.out, hfr⟩
        · have t1 : ((y : Int) != (x : Int)) = true := by simp; omega
          have hyj : y ≠ j := fun e => hy (by rw [← HRJ.out, HFX.out.1 e]; exact e)
          have HO2 := Lib.hid (HOQ.out.put HQN.out j x)
          have HSH2 : Hid (Shrt k p (q.set j x) R) := Lib.hid (HSH.out.trans (by have := Shrt.set (k := k) (R := R) (p := q) (i := j) (by have := HQN.out; omega); rwa [HRJ.out] at this))
          have HF2 := Lib.hid (hfr.setCell ⟨g, j, none⟩ (.int .i64 (x : Int)) (by simp))
          have HQ2 : Hid ((q.set j x).length = n) := Lib.hid (by rw [List.length_set]; exact HQN.out)
          clear hy
          go_wp2_with fail
          go_roundg (y + 1)
          case measure => have := HGH.out; omega
          case rel => exact ⟨y, _, by omega, rfl, rfl, by rw [HRT.out, HRJ.out], HO2.out, HQ2.out, HSH2.out, HF2.out⟩
    · have t1 : ((x : Int) != (j : Int)) = true := by simp; omega
      clear HFX
      go_wp2_with fail
      go_roundg (x + 1)
      case measure => have := HGH.out; omega
      case rel => exact ⟨x, by omega, rfl, rfl, by rw [HRT.out, HRJ.out], rfl⟩
end Go.Proofs.YtmhejcndkplepaaDoor
