/-
  Titles of the reference: Same of package foyerref03 over slices that may have any address; Few, Extends, Same of package foyerref30.
-/
import Derived.Test.YtglgkdbhdjkeaaaGreatDoorTtD
import Derived.Test.YtglgkdbhdjkeaaaGreatDoorSt3
import Derived.Test.YtglgkdbhdjkeaaaGreatDoorPlnTt
namespace Go.Proofs.YtglgkdbhdjkeaaaGreatDoor
open Go.RowKit

/-- Few: at most some transfers, at most 20 strings of at most 40 bytes. -/
def fewX (x : Trf) : Bool := decide (x.sig.length ≤ 20) && decide (x.nk.length ≤ 40) && x.sig.all fun s => decide (s.length ≤ 40)
def fewT (t : Ttl) (most : Nat) : Bool := decide (t.chain.length ≤ most) && decide (t.first.length ≤ 40) && t.chain.all fewX
theorem fewT_no1 {t : Ttl} {m : Nat} (h : m < t.chain.length) : fewT t m = false := by unfold fewT; rw [decide_eq_false (by omega)]; rfl
theorem fewT_no2 {t : Ttl} {m : Nat} (h : 40 < t.first.length) : fewT t m = false := by unfold fewT; rw [decide_eq_false (p := t.first.length ≤ 40) (by omega)]; simp
theorem fewT_no3 {t : Ttl} {m : Nat} {x : Trf} (hx : x ∈ t.chain) (h : fewX x = false) : fewT t m = false := by
  unfold fewT
  rw [List.all_eq_false.2 ⟨x, hx, by rw [h]; decide⟩, Bool.and_false]
theorem fewX_no1 {x : Trf} (h : 20 < x.sig.length) : fewX x = false := by unfold fewX; rw [decide_eq_false (by omega)]; rfl
theorem fewX_no2 {x : Trf} (h : 40 < x.nk.length) : fewX x = false := by unfold fewX; rw [decide_eq_false (p := x.nk.length ≤ 40) (by omega)]; simp
theorem fewX_no3 {x : Trf} {s : List UInt8} (hs : s ∈ x.sig) (h : 40 < s.length) : fewX x = false := by
  unfold fewX
  rw [List.all_eq_false.2 ⟨s, hs, by simpa using h⟩, Bool.and_false]
theorem fewX_ok {x : Trf} (h1 : x.sig.length ≤ 20) (h2 : x.nk.length ≤ 40) (h3 : ∀ s ∈ x.sig, s.length ≤ 40) : fewX x = true := by
  unfold fewX
  simp only [Bool.and_eq_true, decide_eq_true_eq, List.all_eq_true]
  exact ⟨⟨h1, h2⟩, h3⟩
theorem fewT_ok {t : Ttl} {m : Nat} (h1 : t.chain.length ≤ m) (h2 : t.first.length ≤ 40) (h3 : ∀ x ∈ t.chain, fewX x = true) : fewT t m = true := by
  unfold fewT
  simp only [Bool.and_eq_true, decide_eq_true_eq, List.all_eq_true]
  exact ⟨⟨h1, h2⟩, h3⟩
theorem fewT_small {t : Ttl} {m : Nat} (h : fewT t m = true) (hm : m ≤ 1000) (hN : TNum t) : TSmall t := by
  unfold fewT at h
  simp only [Bool.and_eq_true, decide_eq_true_eq, List.all_eq_true] at h
  refine ⟨hN, by omega, by omega, fun x hx => ?_⟩
  have h3 := h.2 x hx
  unfold fewX at h3
  simp only [Bool.and_eq_true, decide_eq_true_eq, List.all_eq_true] at h3
  exact ⟨by omega, by omega, fun s hs => Nat.le_trans (h3.2 s hs) (by decide)⟩
theorem mem_getD_lt {l : List (List UInt8)} {p : List UInt8 → Prop} (h : ∀ j, j < l.length → p (l.getD j [])) : ∀ s ∈ l, p s := fun s hs => by
  obtain ⟨j, hj, rfl⟩ := List.getElem_of_mem hs
  have := h j hj
  rwa [List.getD_eq_getElem?_getD, List.getElem?_eq_getElem hj] at this

set_option maxRecDepth 100000 in
set_option maxHeartbeats 2000000 in
theorem few30_any (v : Value) (t : Ttl) (most : Nat) (w : World) (hv : TtlR w v t) :
    Calls Tryz.prog 29 #[v, .int .i64 (most : Nat)] w fun e w' => e = .returned (.bool (fewT t most)) ∧ Below w.heap.size w w' := by
  obtain ⟨cv, rfl, hc⟩ := hv
  obtain ⟨a, cap, rfl, hl, hc9, ha⟩ := hc.form
  obtain ⟨W0, hW0⟩ : ∃ W0, W0 = w.alloc (.cells #[.int .i64 t.serial, .int .i64 t.shw, .int .i64 t.place, .string ⟨t.first.toArray⟩, .slice a t.chain.length cap] 34) := ⟨_, rfl⟩
  obtain ⟨p, ep⟩ : ∃ p, p = w.heap.size := ⟨_, rfl⟩
  have h0 : Fr [] w W0 := by rw [hW0]; exact (Fr.refl [] w).alloc _
  have hp0 : W0.heap[p]? = some (.cells #[.int .i64 t.serial, .int .i64 t.shw, .int .i64 t.place, .string ⟨t.first.toArray⟩, .slice a t.chain.length cap] 34 (0, 0)) := by rw [hW0, ep]; exact heap_new rfl
  have c3 := row_cell hp0 3
  have c4 := row_cell hp0 4
  simp at c3 c4
  rw [hW0, ep] at c3 c4
  obtain ⟨r, er⟩ : ∃ r, r = fewT t most := ⟨_, rfl⟩
  rw [← er]
  have ER := Lib.hid er
  have HC := Lib.hid (hc.fr h0)
  clear hc er
  by_cases h1 : most < t.chain.length
  · have t1 : decide (most < t.chain.length) = true := by simp; omega
    have HR : Hid (r = false) := Lib.hid (by rw [ER.out]; exact fewT_no1 h1)
    have HF := Lib.hid h0
    rw [hW0] at HF
    clear hW0 hp0 h0 ep
    go_enter Tryz.func29, Tryz.ntmps29
    go_wp2_with fail
    go_ret
    exact ⟨by rw [HR.out]; rfl, HF.out.toBelow (by simp)⟩
  have t1 : decide (most < t.chain.length) = false := by simp; omega
  have t1' : t.chain.length ≤ most := by omega
  by_cases h2 : 40 < t.first.length
  · have t2 : decide ((40 : Int) < (t.first.length : Int)) = true := by simp; omega
    have HR : Hid (r = false) := Lib.hid (by rw [ER.out]; exact fewT_no2 h2)
    have HF := Lib.hid h0
    rw [hW0] at HF
    clear h1 h2 hW0 hp0 h0 ep
    go_enter Tryz.func29, Tryz.ntmps29
    go_wp2_with fail
    go_ret
    exact ⟨by rw [HR.out]; rfl, HF.out.toBelow (by simp)⟩
  have t2 : decide ((40 : Int) < (t.first.length : Int)) = false := by simp; omega
  have H12 : Hid (t.chain.length ≤ most ∧ t.first.length ≤ 40) := Lib.hid ⟨by omega, by omega⟩
  clear h1 h2
  go_enter Tryz.func29, Tryz.ntmps29
  go_wp2_with fail
  rw [← hW0, ← ep]
  rw [← hW0, ← ep] at c3 c4
  clear hW0 ep
  go_loopg [5] t.chain.length (fun gh i wr => ∃ k : Nat, k ≤ t.chain.length ∧ gh = t.chain.length - k ∧ i = .int .i64 (k : Int) ∧ (∀ x ∈ t.chain.take k, fewX x = true) ∧ W0 = wr)
  case atStart => exact ⟨0, by omega, by omega, rfl, fun x hx => by simp at hx, rfl⟩
  case round =>
    obtain ⟨k, hk, hgh, rfl, hall, rfl⟩ := hrel
    have HG := Lib.hid hgh
    have HA := Lib.hid hall
    clear hgh hall
    by_cases hlt : k < t.chain.length
    · have t3 : decide ((k : Int) < (t.chain.length : Int)) = true := by simp; omega
      obtain ⟨b, off, rfl⟩ := ha k hlt
      obtain ⟨x, hx⟩ : ∃ x, t.chain[k]? = some x := ⟨_, List.getElem?_eq_getElem hlt⟩
      obtain ⟨e0, u, e1, hu⟩ := HC.out.cells k x hx
      obtain ⟨sa, sc, rfl, _, _, hsa⟩ := hu.form
      have HU := Lib.hid hu
      have HXM : Hid (x ∈ t.chain) := Lib.hid (List.mem_of_getElem? hx)
      have HNX : Hid (fewX x = true → ∀ y ∈ t.chain.take (k + 1), fewX y = true) := Lib.hid (fun h y hy => by
        rw [List.take_add_one, hx, List.mem_append] at hy
        rcases hy with hy | hy
        · exact HA.out y hy
        · obtain rfl : y = x := by simpa using hy
          exact h)
      have i0 : (0 : Int) ≤ (k : Int) := by omega
      have i1 : (k : Int) < (t.chain.length : Int) := by omega
      clear hx hu
      by_cases h3 : 20 < x.sig.length
      · have t4 : decide ((20 : Int) < (x.sig.length : Int)) = true := by simp; omega
        have HR : Hid (r = false) := Lib.hid (by rw [ER.out]; exact fewT_no3 HXM.out (fewX_no1 h3))
        clear h3
        go_wp2_with fail
        go_ret
        exact ⟨by rw [HR.out]; rfl, h0.toBelow (by simp)⟩
      have t4 : decide ((20 : Int) < (x.sig.length : Int)) = false := by simp; omega
      by_cases h4 : 40 < x.nk.length
      · have t5 : decide ((40 : Int) < (x.nk.length : Int)) = true := by simp; omega
        have HR : Hid (r = false) := Lib.hid (by rw [ER.out]; exact fewT_no3 HXM.out (fewX_no2 h4))
        clear h3 h4
        go_wp2_with fail
        go_ret
        exact ⟨by rw [HR.out]; rfl, h0.toBelow (by simp)⟩
      have t5 : decide ((40 : Int) < (x.nk.length : Int)) = false := by simp; omega
      have H34 : Hid (x.sig.length ≤ 20 ∧ x.nk.length ≤ 40) := Lib.hid ⟨by omega, by omega⟩
      clear h3 h4
      go_wp2_with fail
      go_loopg [6] x.sig.length (fun gi i wi => ∃ m : Nat, m ≤ x.sig.length ∧ gi = x.sig.length - m ∧ i = .int .i64 (m : Int) ∧ (∀ j, j < m → (x.sig.getD j []).length ≤ 40) ∧ W0 = wi)
      case atStart => exact ⟨0, by omega, by omega, rfl, fun j hj => absurd hj (by omega), rfl⟩
      case round =>
        obtain ⟨m, hm, hgi, rfl, hal, rfl⟩ := hrel
        have HG2 := Lib.hid hgi
        have HB := Lib.hid hal
        clear hgi hal
        by_cases hlm : m < x.sig.length
        · have t6 : decide ((m : Int) < (x.sig.length : Int)) = true := by simp; omega
          obtain ⟨sb, so, rfl⟩ := hsa m hlm
          have hcs := HU.out.cell m hlm
          have HSM : Hid (x.sig.getD m [] ∈ x.sig) := Lib.hid (getD_mem x.sig m [] hlm)
          have HOK : Hid ((x.sig.getD m []).length ≤ 40 → ∀ j, j < m + 1 → (x.sig.getD j []).length ≤ 40) := Lib.hid (fun h j hj => by
            by_cases hjm : j < m
            · exact HB.out j hjm
            · obtain rfl : j = m := by omega
              exact h)
          generalize x.sig.getD m [] = s at hcs HSM HOK
          have i2 : (0 : Int) ≤ (m : Int) := by omega
          have i3 : (m : Int) < (x.sig.length : Int) := by omega
          by_cases h5 : 40 < s.length
          · have t7 : decide ((40 : Int) < (s.length : Int)) = true := by simp; omega
            have HR : Hid (r = false) := Lib.hid (by rw [ER.out]; exact fewT_no3 HXM.out (fewX_no3 HSM.out h5))
            clear h5
            go_wp2_with fail
            go_ret
            exact ⟨by rw [HR.out]; rfl, h0.toBelow (by simp)⟩
          · have t7 : decide ((40 : Int) < (s.length : Int)) = false := by simp; omega
            have HR := Lib.hid (HOK.out (by omega))
            clear h5
            go_wp2_with fail
            go_roundg (x.sig.length - (m + 1))
            case measure => have := HG2.out; omega
            case rel => exact ⟨m + 1, by omega, rfl, by go_num, HR.out, rfl⟩
        · obtain rfl : m = x.sig.length := by omega
          have t6 : decide ((x.sig.length : Int) < (x.sig.length : Int)) = false := by simp
          have HX := Lib.hid (HNX.out (fewX_ok H34.out.1 H34.out.2 (mem_getD_lt HB.out)))
          go_wp2_with fail
          go_roundg (t.chain.length - (k + 1))
          case measure => have := HG.out; omega
          case rel => exact ⟨k + 1, by omega, rfl, by go_num, HX.out, rfl⟩
    · obtain rfl : k = t.chain.length := by omega
      have t3 : decide ((t.chain.length : Int) < (t.chain.length : Int)) = false := by simp
      have HR : Hid (r = true) := Lib.hid (by
        rw [ER.out]
        have := HA.out
        rw [List.take_length] at this
        exact fewT_ok H12.out.1 H12.out.2 this)
      go_wp2_with fail
      go_ret
      exact ⟨by rw [HR.out]; rfl, h0.toBelow (by simp)⟩

end Go.Proofs.YtglgkdbhdjkeaaaGreatDoor
