/-
  Titles of the reference: Same of package foyerref03 over slices that may have any address; Few, Extends, Same of package foyerref30.
-/
import Derived.Test.YtcblpfepkkkilaaGreatDoorTtF
import Derived.Test.YtcblpfepkkkilaaGreatDoorPlnTt
namespace Go.Proofs.YtcblpfepkkkilaaGreatDoor
open Go.RowKit

set_option maxRecDepth 100000 in
set_option maxHeartbeats 1000000 in
theorem rsameW_any (av bv : Value) (la lb : List (List UInt8)) (w : World) (ha : StrsW w av la) (hb : StrsW w bv lb) :
    Calls Tryz.prog 59 #[av, bv] w fun e w' => e = .returned (.bool (decide (la = lb))) ∧ Below w.heap.size w w' := by
  have hmx : Tryz.prog.follows .mixedOrders = true := by kernel_rfl
  have HA := Lib.hid ha
  have HB := Lib.hid hb
  obtain ⟨aa, acap, rfl, hla, _, hfa⟩ := ha.form
  obtain ⟨ab, bcap, rfl, hlb, _, hfb⟩ := hb.form
  clear ha hb
  by_cases hlen : la.length = lb.length
  · have t1 : ((la.length : Int) != (lb.length : Int)) = false := by rw [hlen]; simp
    have HLEN := Lib.hid hlen
    clear hlen
    go_enter Tryz.func59, Tryz.ntmps59
    go_wp2_with fail
    go_loopg [5] (la.length + 1) (fun g i wr => ∃ k : Nat, k ≤ la.length ∧ g = la.length + 1 - k ∧ i = .int .i64 (k : Int) ∧ la.take k = lb.take k ∧ Fr [] w wr)
    case atStart => exact ⟨0, by omega, by omega, rfl, by simp, Fr.refl _ _⟩
    case round =>
      obtain ⟨k, hk, hg, rfl, heq, hfr⟩ := hrel
      have HG := Lib.hid hg
      have HEQ := Lib.hid heq
      clear hg heq
      by_cases hlt : k < la.length
      · have hltb : k < lb.length := by have := HLEN.out; omega
        obtain ⟨ba, offa, rfl⟩ := hfa k hlt
        obtain ⟨bb, offb, rfl⟩ := hfb k hltb
        have hca := (HA.out.fr hfr).cell k hlt
        have hcb := (HB.out.fr hfr).cell k hltb
        have HSA := Lib.hid (take_snoc' la k [] hlt)
        have HSB := Lib.hid (take_snoc' lb k [] hltb)
        have t2 : decide ((k : Int) < (la.length : Int)) = true := by simp; omega
        have HGA : Hid (la.getD k [] ≠ lb.getD k [] → la ≠ lb) := fun h h' => h (by rw [h'])
        generalize la.getD k [] = x at hca HSA HGA
        generalize lb.getD k [] = y at hcb HSB HGA
        by_cases hxy : x = y
        · have t3 : (x != y) = false := by rw [hxy]; simp
          have t4 : (x == y) = true := by rw [hxy]; simp
          have HXY := Lib.hid hxy
          clear hxy
          go_wp2_with fail
          go_quiet (fail)
          go_wp2_with fail
          go_roundg (la.length + 1 - (k + 1))
          case measure => have := HG.out; omega
          case rel => exact ⟨k + 1, by omega, rfl, by go_num, by rw [HSA.out, HSB.out, HEQ.out, HXY.out], hfr.drewN _⟩
        · have t3 : (x != y) = true := by simpa using hxy
          have t4 : (x == y) = false := by simpa using hxy
          have HXY := Lib.hid hxy
          clear hxy
          go_wp2_with fail
          go_quiet (fail)
          go_wp2_with fail
          go_ret
          have hne : decide (la = lb) = false := decide_eq_false (HGA.out HXY.out)
          exact ⟨by rw [hne]; rfl, (hfr.drewN _).toBelow (by simp)⟩
      · obtain rfl : k = la.length := by omega
        have t2 : decide ((la.length : Int) < (la.length : Int)) = false := by simp
        have HE : Hid (la = lb) := by
          have := HEQ.out
          rw [List.take_length, List.take_of_length_le (by have := HLEN.out; omega)] at this
          exact this
        go_wp2_with fail
        go_ret
        exact ⟨by rw [decide_eq_true HE.out]; rfl, hfr.toBelow (by simp)⟩
  · have t1 : ((la.length : Int) != (lb.length : Int)) = true := by simp; omega
    have HLEN := Lib.hid hlen
    clear hlen
    go_enter Tryz.func59, Tryz.ntmps59
    go_wp2_with fail
    go_ret
    have hne : decide (la = lb) = false := decide_eq_false (fun h => HLEN.out (by rw [h]))
    exact ⟨by rw [hne]; rfl, Below.refl _ _⟩

/-- Few: at most some transfers, at most 20 strings of at most 40 bytes. -/
def fewX (x : Trf) : Bool := decide (x.sig.length ≤ 20) && decide (x.nk.length ≤ 40) && x.sig.all fun s => decide (s.length ≤ 40)
def fewT (t : Ttl) (most : Nat) : Bool := decide (t.chain.length ≤ most) && decide (t.first.length ≤ 40) && t.chain.all fewX
theorem fewT_no1 {t : Ttl} {m : Nat} (h : m < t.chain.length) : fewT t m = false := by unfold fewT; rw [decide_eq_false (by omega)]; rfl
theorem fewT_no2 {t : Ttl} {m : Nat} (h : 40 < t.first.length) : fewT t m = false := by unfold fewT; rw [decide_eq_false (p := t.first.length ≤ 40) (by omega)]; simp
theorem fewT_no3 {t : Ttl} {m : Nat} {x : Trf} (hx : x ∈ t.chain) (h : fewX x = false) : fewT t m = false := by
  unfold fewT
  rw [List.all_eq_false.2 ⟨x, hx, by rw [h]; decide⟩, Bool.and_false]
theorem fewX_no1 {x : Trf} (h : 20 < x.sig.length) : fewX x = false := by unfold fewX; rw [decide_eq_false (by omega)]; rfl
theorem fewX_no2 {x : Trf} (h : 40 < x.nk.length) : fewX x = false := by unfold fewX; rw [decide_eq_false (p := x.nk.length ≤ 40) (by omega)]; simp
theorem fewX_no3 {x : Trf} {s : List UInt8} (hs : s ∈ x.sig) (h : 40 < s.length) : fewX x = false := by
  unfold fewX
  rw [List.all_eq_false.2 ⟨s, hs, by simpa using h⟩, Bool.and_false]
theorem fewX_ok {x : Trf} (h1 : x.sig.length ≤ 20) (h2 : x.nk.length ≤ 40) (h3 : ∀ s ∈ x.sig, s.length ≤ 40) : fewX x = true := by
  unfold fewX
  simp only [Bool.and_eq_true, decide_eq_true_eq, List.all_eq_true]
  exact ⟨⟨h1, h2⟩, h3⟩
theorem fewT_ok {t : Ttl} {m : Nat} (h1 : t.chain.length ≤ m) (h2 : t.first.length ≤ 40) (h3 : ∀ x ∈ t.chain, fewX x = true) : fewT t m = true := by
  unfold fewT
  simp only [Bool.and_eq_true, decide_eq_true_eq, List.all_eq_true]
  exact ⟨⟨h1, h2⟩, h3⟩
theorem fewT_small {t : Ttl} {m : Nat} (h : fewT t m = true) (hm : m ≤ 1000) (hN : TNum t) : TSmall t := by
  unfold fewT at h
  simp only [Bool.and_eq_true, decide_eq_true_eq, List.all_eq_true] at h
  refine ⟨hN, by omega, by omega, fun x hx => ?_⟩
  have h3 := h.2 x hx
  unfold fewX at h3
  simp only [Bool.and_eq_true, decide_eq_true_eq, List.all_eq_true] at h3
  exact ⟨by omega, by omega, fun s hs => Nat.le_trans (h3.2 s hs) (by decide)⟩
theorem mem_getD_lt {l : List (List UInt8)} {p : List UInt8 → Prop} (h : ∀ j, j < l.length → p (l.getD j [])) : ∀ s ∈ l, p s := fun s hs => by
  obtain ⟨j, hj, rfl⟩ := List.getElem_of_mem hs
  have := h j hj
  rwa [List.getD_eq_getElem?_getD, List.getElem?_eq_getElem hj] at this

set_option maxRecDepth 100000 in
set_option maxHeartbeats 2000000 in
theorem few30_any (v : Value) (t : Ttl) (most : Nat) (w : World) (hv : TtlR w v t) :
    Calls Tryz.prog 33 #[v, .int .i64 (most : Nat)] w fun e w' => e = .returned (.bool (fewT t most)) ∧ Below w.heap.size w w' := by
  obtain ⟨cv, rfl, hc⟩ := hv
  obtain ⟨a, cap, rfl, hl, hc9, ha⟩ := hc.form
  obtain ⟨W0, hW0⟩ : ∃ W0, W0 = w.alloc (.cells #[.int .i64 t.serial, .int .i64 t.shw, .int .i64 t.place, .string ⟨t.first.toArray⟩, .slice a t.chain.length cap] 24) := ⟨_, rfl⟩
  obtain ⟨p, ep⟩ : ∃ p, p = w.heap.size := ⟨_, rfl⟩
  have h0 : Fr [] w W0 := by rw [hW0]; exact (Fr.refl [] w).alloc _
  have hp0 : W0.heap[p]? = some (.cells #[.int .i64 t.serial, .int .i64 t.shw, .int .i64 t.place, .string ⟨t.first.toArray⟩, .slice a t.chain.length cap] 24 (0, 0)) := by rw [hW0, ep]; exact heap_new rfl
  have c3 := row_cell hp0 3
  have c4 := row_cell hp0 4
  simp at c3 c4
  rw [hW0, ep] at c3 c4
  obtain ⟨r, er⟩ : ∃ r, r = fewT t most := ⟨_, rfl⟩
  rw [← er]
  have ER := Lib.hid er
  have HC := Lib.hid (hc.fr h0)
  clear hc er
  by_cases h1 : most < t.chain.length
  · have t1 : decide (most < t.chain.length) = true := by simp; omega
    have HR : Hid (r = false) := Lib.hid (by rw [ER.out]; exact fewT_no1 h1)
    have HF := Lib.hid h0
    rw [hW0] at HF
    clear hW0 hp0 h0 ep
    go_enter Tryz.func33, Tryz.ntmps33
    go_wp2_with fail
    go_ret
    exact ⟨by rw [HR.out]; rfl, HF.out.toBelow (by simp)⟩
  have t1 : decide (most < t.chain.length) = false := by simp; omega
  have t1' : t.chain.length ≤ most := by omega
  by_cases h2 : 40 < t.first.length
  · have t2 : decide ((40 : Int) < (t.first.length : Int)) = true := by simp; omega
    have HR : Hid (r = false) := Lib.hid (by rw [ER.out]; exact fewT_no2 h2)
    have HF := Lib.hid h0
    rw [hW0] at HF
    clear h1 h2 hW0 hp0 h0 ep
    go_enter Tryz.func33, Tryz.ntmps33
    go_wp2_with fail
    go_ret
    exact ⟨by rw [HR.out]; rfl, HF.out.toBelow (by simp)⟩
  have t2 : decide ((40 : Int) < (t.first.length : Int)) = false := by simp; omega
  have H12 : Hid (t.chain.length ≤ most ∧ t.first.length ≤ 40) := Lib.hid ⟨by omega, by omega⟩
  clear h1 h2
  go_enter Tryz.func33, Tryz.ntmps33
  go_wp2_with fail
  rw [← hW0, ← ep]
  rw [← hW0, ← ep] at c3 c4
  clear hW0 ep
  go_loopg [5] t.chain.length (fun gh i wr => ∃ k : Nat, k ≤ t.chain.length ∧ gh = t.chain.length - k ∧ i = .int .i64 (k : Int) ∧ (∀ x ∈ t.chain.take k, fewX x = true) ∧ W0 = wr)
  case atStart => exact ⟨0, by omega, by omega, rfl, fun x hx => by simp at hx, rfl⟩
  case round =>
    obtain ⟨k, hk, hgh, rfl, hall, rfl⟩ := hrel
    have HG := Lib.hid hgh
    have HA := Lib.hid hall
    clear hgh hall
    by_cases hlt : k < t.chain.length
    · have t3 : decide ((k : Int) < (t.chain.length : Int)) = true := by simp; omega
      obtain ⟨b, off, rfl⟩ := ha k hlt
      obtain ⟨x, hx⟩ : ∃ x, t.chain[k]? = some x := ⟨_, List.getElem?_eq_getElem hlt⟩
      obtain ⟨e0, u, e1, hu⟩ := HC.out.cells k x hx
      obtain ⟨sa, sc, rfl, _, _, hsa⟩ := hu.form
      have HU := Lib.hid hu
      have HXM : Hid (x ∈ t.chain) := Lib.hid (List.mem_of_getElem? hx)
      have HNX : Hid (fewX x = true → ∀ y ∈ t.chain.take (k + 1), fewX y = true) := Lib.hid (fun h y hy => by
        rw [List.take_add_one, hx, List.mem_append] at hy
        rcases hy with hy | hy
        · exact HA.out y hy
        · obtain rfl : y = x := by simpa using hy
          exact h)
      have i0 : (0 : Int) ≤ (k : Int) := by omega
      have i1 : (k : Int) < (t.chain.length : Int) := by omega
      clear hx hu
      by_cases h3 : 20 < x.sig.length
      · have t4 : decide ((20 : Int) < (x.sig.length : Int)) = true := by simp; omega
        have HR : Hid (r = false) := Lib.hid (by rw [ER.out]; exact fewT_no3 HXM.out (fewX_no1 h3))
        clear h3
        go_wp2_with fail
        go_ret
        exact ⟨by rw [HR.out]; rfl, h0.toBelow (by simp)⟩
      have t4 : decide ((20 : Int) < (x.sig.length : Int)) = false := by simp; omega
      by_cases h4 : 40 < x.nk.length
      · have t5 : decide ((40 : Int) < (x.nk.length : Int)) = true := by simp; omega
        have HR : Hid (r = false) := Lib.hid (by rw [ER.out]; exact fewT_no3 HXM.out (fewX_no2 h4))
        clear h3 h4
        go_wp2_with fail
        go_ret
        exact ⟨by rw [HR.out]; rfl, h0.toBelow (by simp)⟩
      have t5 : decide ((40 : Int) < (x.nk.length : Int)) = false := by simp; omega
      have H34 : Hid (x.sig.length ≤ 20 ∧ x.nk.length ≤ 40) := Lib.hid ⟨by omega, by omega⟩
      clear h3 h4
      go_wp2_with fail
      go_loopg [6] x.sig.length (fun gi i wi => ∃ m : Nat, m ≤ x.sig.length ∧ gi = x.sig.length - m ∧ i = .int .i64 (m : Int) ∧ (∀ j, j < m → (x.sig.getD j []).length ≤ 40) ∧ W0 = wi)
      case atStart => exact ⟨0, by omega, by omega, rfl, fun j hj => absurd hj (by omega), rfl⟩
      case round =>
        obtain ⟨m, hm, hgi, rfl, hal, rfl⟩ := hrel
        have HG2 := Lib.hid hgi
        have HB := Lib.hid hal
        clear hgi hal
        by_cases hlm : m < x.sig.length
        · have t6 : decide ((m : Int) < (x.sig.length : Int)) = true := by simp; omega
          obtain ⟨sb, so, rfl⟩ := hsa m hlm
          have hcs := HU.out.cell m hlm
          have HSM : Hid (x.sig.getD m [] ∈ x.sig) := Lib.hid (getD_mem x.sig m [] hlm)
          have HOK : Hid ((x.sig.getD m []).length ≤ 40 → ∀ j, j < m + 1 → (x.sig.getD j []).length ≤ 40) := Lib.hid (fun h j hj => by
            by_cases hjm : j < m
            · exact HB.out j hjm
            · obtain rfl : j = m := by omega
              exact h)
          generalize x.sig.getD m [] = s at hcs HSM HOK
          have i2 : (0 : Int) ≤ (m : Int) := by omega
          have i3 : (m : Int) < (x.sig.length : Int) := by omega
          by_cases h5 : 40 < s.length
          · have t7 : decide ((40 : Int) < (s.length : Int)) = true := by simp; omega
            have HR : Hid (r = false) := Lib.hid (by rw [ER.out]; exact fewT_no3 HXM.out (fewX_no3 HSM.out h5))
            clear h5
            go_wp2_with fail
            go_ret
            exact ⟨by rw [HR.out]; rfl, h0.toBelow (by simp)⟩
          · have t7 : decide ((40 : Int) < (s.length : Int)) = false := by simp; omega
            have HR := Lib.hid (HOK.out (by omega))
            clear h5
            go_wp2_with fail
            go_roundg (x.sig.length - (m + 1))
            case measure => have := HG2.out; omega
            case rel => exact ⟨m + 1, by omega, rfl, by go_num, HR.out, rfl⟩
        · obtain rfl : m = x.sig.length := by omega
          have t6 : decide ((x.sig.length : Int) < (x.sig.length : Int)) = false := by simp
          have HX := Lib.hid (HNX.out (fewX_ok H34.out.1 H34.out.2 (mem_getD_lt HB.out)))
          go_wp2_with fail
          go_roundg (t.chain.length - (k + 1))
          case measure => have := HG.out; omega
          case rel => exact ⟨k + 1, by omega, rfl, by go_num, HX.out, rfl⟩
    · obtain rfl : k = t.chain.length := by omega
      have t3 : decide ((t.chain.length : Int) < (t.chain.length : Int)) = false := by simp
      have HR : Hid (r = true) := Lib.hid (by
        rw [ER.out]
        have := HA.out
        rw [List.take_length] at this
        exact fewT_ok H12.out.1 H12.out.2 this)
      go_wp2_with fail
      go_ret
      exact ⟨by rw [HR.out]; rfl, h0.toBelow (by simp)⟩

set_option maxRecDepth 100000 in
set_option maxHeartbeats 4000000 in
theorem rext30_any (av bv : Value) (a b : Ttl) (w : World) (ha : TtlR w av a) (hb : TtlR w bv b) :
    Calls Tryz.prog 19 #[av, bv] w fun e w' => e = .returned (.bool (extT a b)) ∧ Below w.heap.size w w' := by
  have hmx : Tryz.prog.follows .mixedOrders = true := by kernel_rfl
  obtain ⟨v1, rfl, hc1⟩ := ha
  obtain ⟨v2, rfl, hc2⟩ := hb
  obtain ⟨a1, cap1, rfl, hl1, hk1, hf1⟩ := hc1.form
  obtain ⟨a2, cap2, rfl, hl2, hk2, hf2⟩ := hc2.form
  obtain ⟨r, er⟩ : ∃ r, r = extT a b := ⟨_, rfl⟩
  rw [← er]
  have ER := Lib.hid er
  obtain ⟨W0, hW0⟩ : ∃ W0, W0 = (w.alloc (.cells #[.int .i64 a.serial, .int .i64 a.shw, .int .i64 a.place, .string ⟨a.first.toArray⟩, .slice a1 a.chain.length cap1] 24)).alloc (.cells #[.int .i64 b.serial, .int .i64 b.shw, .int .i64 b.place, .string ⟨b.first.toArray⟩, .slice a2 b.chain.length cap2] 24) := ⟨_, rfl⟩
  obtain ⟨p, ep⟩ : ∃ p, p = w.heap.size := ⟨_, rfl⟩
  have h0 : Fr [] w W0 := by rw [hW0]; exact ((Fr.refl [] w).alloc _).alloc _
  have hp0 : W0.heap[p]? = some (.cells #[.int .i64 a.serial, .int .i64 a.shw, .int .i64 a.place, .string ⟨a.first.toArray⟩, .slice a1 a.chain.length cap1] 24 (0, 0)) := by rw [hW0, ep]; exact heap_past _ (heap_new rfl)
  have hp1 : W0.heap[p + 1]? = some (.cells #[.int .i64 b.serial, .int .i64 b.shw, .int .i64 b.place, .string ⟨b.first.toArray⟩, .slice a2 b.chain.length cap2] 24 (0, 0)) := by rw [hW0, ep]; exact heap_new (by simp)
  have HC1 := Lib.hid (hc1.fr h0)
  have HC2 := Lib.hid (hc2.fr h0)
  clear hc1 hc2 er
  have c0 := row_cell hp0 0
  have c1 := row_cell hp0 1
  have c3 := row_cell hp0 3
  have c4 := row_cell hp0 4
  have d0 := row_cell hp1 0
  have d1 := row_cell hp1 1
  have d3 := row_cell hp1 3
  have d4 := row_cell hp1 4
  simp at c0 c1 c3 c4 d0 d1 d3 d4
  rw [hW0, ep] at c0 c1 c3 c4 d0 d1 d3 d4
  by_cases h1 : a.serial = b.serial
  case neg =>
    have u1 : (a.serial != b.serial) = true := by simpa using h1
    have HR : Hid (r = false) := Lib.hid (by rw [ER.out, Bool.eq_false_iff]; intro he; obtain ⟨e1, e2, e3, e4⟩ := (extT_iff a b).1 he; exact h1 e1)
    have HF := Lib.hid h0
    rw [hW0] at HF
    clear h1 hW0 hp0 hp1 h0 ep
    go_enter Tryz.func19, Tryz.ntmps19
    go_wp2_with fail
    go_ret
    exact ⟨by rw [HR.out]; rfl, HF.out.toBelow (by simp)⟩
  have u1 : (a.serial != b.serial) = false := by simpa using h1
  by_cases h2 : a.shw = b.shw
  case neg =>
    have u2 : (a.shw != b.shw) = true := by simpa using h2
    have HR : Hid (r = false) := Lib.hid (by rw [ER.out, Bool.eq_false_iff]; intro he; obtain ⟨e1, e2, e3, e4⟩ := (extT_iff a b).1 he; exact h2 e2)
    have HF := Lib.hid h0
    rw [hW0] at HF
    clear h1 h2 hW0 hp0 hp1 h0 ep
    go_enter Tryz.func19, Tryz.ntmps19
    go_wp2_with fail
    go_ret
    exact ⟨by rw [HR.out]; rfl, HF.out.toBelow (by simp)⟩
  have u2 : (a.shw != b.shw) = false := by simpa using h2
  by_cases h3 : a.first = b.first
  case neg =>
    have u3 : (a.first != b.first) = true := by rw [bne_iff_ne]; exact h3
    have u9 : (a.first == b.first) = false := by rw [beq_eq_false_iff_ne]; exact h3
    have HR : Hid (r = false) := Lib.hid (by rw [ER.out, Bool.eq_false_iff]; intro he; obtain ⟨e1, e2, e3, e4⟩ := (extT_iff a b).1 he; exact h3 e3)
    have HF := Lib.hid h0
    rw [hW0] at HF
    clear h1 h2 hW0 hp0 hp1 h0 ep
    go_enter Tryz.func19, Tryz.ntmps19
    go_wp2_with fail
    go_ret
    exact ⟨by rw [HR.out]; rfl, HF.out.toBelow (by simp)⟩
  have u3 : (b.first != b.first) = false := by simp
  rw [h3] at hW0 hp0 c3 ⊢
  by_cases h4 : b.chain.length ≤ a.chain.length
  case neg =>
    have u4 : decide (a.chain.length < b.chain.length) = true := by simp; omega
    have HR : Hid (r = false) := Lib.hid (by rw [ER.out, Bool.eq_false_iff]; intro he; obtain ⟨e1, e2, e3, e4⟩ := (extT_iff a b).1 he; exact h4 (extT_len he))
    have HF := Lib.hid h0
    rw [hW0] at HF
    clear h1 h2 h3 hW0 hp0 hp1 h0 ep
    go_enter Tryz.func19, Tryz.ntmps19
    go_wp2_with fail
    go_ret
    exact ⟨by rw [HR.out]; rfl, HF.out.toBelow (by simp)⟩
  have u4 : decide (a.chain.length < b.chain.length) = false := by simp; omega
  have HR : Hid (r = decide (a.chain.take b.chain.length = b.chain)) := Lib.hid (by
    rw [ER.out]
    unfold extT
    rw [decide_eq_true h1, decide_eq_true h2, decide_eq_true h3]; rfl)
  have HN := Lib.hid h4
  clear h1 h2 h3
  go_enter Tryz.func19, Tryz.ntmps19
  go_wp2_with fail
  rw [← hW0, ← ep]
  clear hW0 ep c0 c1 c3 c4 d0 d1 d3 d4
  have H0 := Lib.hid h0
  clear h0
  go_loopg [5] b.chain.length (fun gh i wr => ∃ k : Nat, k ≤ b.chain.length ∧ gh = b.chain.length - k ∧ i = .int .i64 (k : Int) ∧ a.chain.take k = b.chain.take k ∧ Fr [] W0 wr)
  case atStart => exact ⟨0, by omega, by omega, rfl, by simp, Fr.refl _ _⟩
  case round =>
    obtain ⟨k, hk, hgh, rfl, heq, hfr⟩ := hrel
    have HG := Lib.hid hgh
    have HEQ := Lib.hid heq
    have c4 := row_cell (hfr.at hp0 (by simp)) 4
    have d4 := row_cell (hfr.at hp1 (by simp)) 4
    simp at c4 d4
    clear hgh heq
    by_cases hlt : k < b.chain.length
    · have t1 : decide ((k : Int) < (b.chain.length : Int)) = true := by simp; omega
      have hnn := HN.out
      obtain ⟨b1, o1, rfl⟩ := hf1 k (by omega)
      obtain ⟨b2, o2, rfl⟩ := hf2 k hlt
      obtain ⟨x, hx⟩ : ∃ x, a.chain[k]? = some x := ⟨_, List.getElem?_eq_getElem (by omega)⟩
      obtain ⟨y, hy⟩ : ∃ y, b.chain[k]? = some y := ⟨_, List.getElem?_eq_getElem hlt⟩
      obtain ⟨e0, u, e1, hu⟩ := (HC1.out.fr hfr).cells k x hx
      obtain ⟨f0, v, f1, hv⟩ := (HC2.out.fr hfr).cells k y hy
      obtain ⟨sa, sc, rfl, _, _, _⟩ := hu.form
      obtain ⟨ta, tc, rfl, _, _, _⟩ := hv.form
      have HU := Lib.hid hu
      have HV := Lib.hid hv
      have HNX : Hid (x = y → a.chain.take (k + 1) = b.chain.take (k + 1)) := Lib.hid (fun e => by
        rw [List.take_add_one, List.take_add_one, HEQ.out, hx, hy, e])
      have HNE : Hid (x ≠ y → r = false) := Lib.hid (fun e => by
        rw [HR.out]
        refine decide_eq_false (fun e2 => e ?_)
        have h1 : (a.chain.take b.chain.length)[k]? = b.chain[k]? := by rw [e2]
        rw [List.getElem?_take, if_pos hlt, hx, hy] at h1
        exact Option.some.inj h1)
      have i0 : (0 : Int) ≤ (k : Int) := by omega
      have i1 : (k : Int) < (a.chain.length : Int) := by omega
      have i2 : (k : Int) < (b.chain.length : Int) := by omega
      have HFR := Lib.hid hfr
      clear hnn hx hy hu hv
      by_cases hnk : x.nk = y.nk
      · have u6 : (x.nk != y.nk) = false := by rw [hnk]; simp
        have u7 : (x.nk == y.nk) = true := by rw [hnk]; simp
        have HNK := Lib.hid hnk
        clear hnk hfr
        go_wp2_with fail
        have g0 : Fr [] wr wr.drew := (Fr.refl [] wr).drew
        have hS0 : wr.drew.cell? ⟨p, 4, none⟩ = some (.slice (some ⟨b1, o1, none⟩) a.chain.length cap1) ∧ wr.drew.cell? ⟨p + 1, 4, none⟩ = some (.slice (some ⟨b2, o2, none⟩) b.chain.length cap2) ∧ wr.drew.cell? ⟨b1, o1 + k * 2, none⟩ = some (.string ⟨x.nk.toArray⟩) ∧ wr.drew.cell? ⟨b1, o1 + k * 2 + 1, none⟩ = some (.slice sa x.sig.length sc) ∧ wr.drew.cell? ⟨b2, o2 + k * 2, none⟩ = some (.string ⟨y.nk.toArray⟩) ∧ wr.drew.cell? ⟨b2, o2 + k * 2 + 1, none⟩ = some (.slice ta y.sig.length tc) := ⟨g0.cell c4 (by simp), g0.cell d4 (by simp), g0.cell e0 (by simp), g0.cell e1 (by simp), g0.cell f0 (by simp), g0.cell f1 (by simp)⟩
        refine region_held 100 (fun W' => W'.cell? ⟨p, 4, none⟩ = some (.slice (some ⟨b1, o1, none⟩) a.chain.length cap1) ∧ W'.cell? ⟨p + 1, 4, none⟩ = some (.slice (some ⟨b2, o2, none⟩) b.chain.length cap2) ∧ W'.cell? ⟨b1, o1 + k * 2, none⟩ = some (.string ⟨x.nk.toArray⟩) ∧ W'.cell? ⟨b1, o1 + k * 2 + 1, none⟩ = some (.slice sa x.sig.length sc) ∧ W'.cell? ⟨b2, o2 + k * 2, none⟩ = some (.string ⟨y.nk.toArray⟩) ∧ W'.cell? ⟨b2, o2 + k * 2 + 1, none⟩ = some (.slice ta y.sig.length tc)) hmx ?_
        change Held _ _ _ _ _ _ 29 (Array.replicate 29 false) _ _
        refine hd_take 0 (v := .pointer (some ⟨p, 4, none⟩)) rfl (by kernel_rfl) (by kernel_rfl) (by kernel_rfl) rfl hS0 (fun W' hS => by go_simp) rfl ?_
        refine hd_take 2 (v := .int .i64 (k : Int)) rfl (by kernel_rfl) (by kernel_rfl) (by kernel_rfl) rfl hS0 (fun W' hS => by go_simp) rfl ?_
        refine hd_take 6 (v := .pointer (some ⟨p + 1, 4, none⟩)) rfl (by kernel_rfl) (by kernel_rfl) (by kernel_rfl) rfl hS0 (fun W' hS => by go_simp) rfl ?_
        refine hd_take 8 (v := .int .i64 (k : Int)) rfl (by kernel_rfl) (by kernel_rfl) (by kernel_rfl) rfl hS0 (fun W' hS => by go_simp) rfl ?_
        try simp only [Act.put, List.setIfInBounds_toArray, List.set_cons_zero, List.set_cons_succ]
        refine hd_take 1 (v := .slice (some ⟨b1, o1, none⟩) a.chain.length cap1) rfl (by kernel_rfl) (by kernel_rfl) (by kernel_rfl) rfl hS0 (fun W' hS => by obtain ⟨s0, s1, s2, s3, s4, s5⟩ := hS; go_simp) rfl ?_
        refine hd_take 7 (v := .slice (some ⟨b2, o2, none⟩) b.chain.length cap2) rfl (by kernel_rfl) (by kernel_rfl) (by kernel_rfl) rfl hS0 (fun W' hS => by obtain ⟨s0, s1, s2, s3, s4, s5⟩ := hS; go_simp) rfl ?_
        try simp only [Act.put, List.setIfInBounds_toArray, List.set_cons_zero, List.set_cons_succ]
        refine hd_take 3 (v := .pointer (some ⟨b1, o1 + k * 2, none⟩)) rfl (by kernel_rfl) (by kernel_rfl) (by kernel_rfl) rfl hS0 (fun W' hS => by go_simp) rfl ?_
        refine hd_take 9 (v := .pointer (some ⟨b2, o2 + k * 2, none⟩)) rfl (by kernel_rfl) (by kernel_rfl) (by kernel_rfl) rfl hS0 (fun W' hS => by go_simp) rfl ?_
        try simp only [Act.put, List.setIfInBounds_toArray, List.set_cons_zero, List.set_cons_succ]
        refine hd_take 4 (v := .pointer (some ⟨b1, o1 + k * 2, none⟩)) rfl (by kernel_rfl) (by kernel_rfl) (by kernel_rfl) rfl hS0 (fun W' hS => by go_simp) rfl ?_
        refine hd_take 10 (v := .pointer (some ⟨b2, o2 + k * 2, none⟩)) rfl (by kernel_rfl) (by kernel_rfl) (by kernel_rfl) rfl hS0 (fun W' hS => by go_simp) rfl ?_
        try simp only [Act.put, List.setIfInBounds_toArray, List.set_cons_zero, List.set_cons_succ]
        refine hd_take 5 (v := .string ⟨x.nk.toArray⟩) rfl (by kernel_rfl) (by kernel_rfl) (by kernel_rfl) rfl hS0 (fun W' hS => by obtain ⟨s0, s1, s2, s3, s4, s5⟩ := hS; go_simp) rfl ?_
        refine hd_take 11 (v := .string ⟨y.nk.toArray⟩) rfl (by kernel_rfl) (by kernel_rfl) (by kernel_rfl) rfl hS0 (fun W' hS => by obtain ⟨s0, s1, s2, s3, s4, s5⟩ := hS; go_simp) rfl ?_
        try simp only [Act.put, List.setIfInBounds_toArray, List.set_cons_zero, List.set_cons_succ]
        refine hd_take 12 (v := .bool false) rfl (by kernel_rfl) (by kernel_rfl) (by kernel_rfl) rfl hS0 (fun W' hS => by go_simp) rfl ?_
        try simp only [Act.put, List.setIfInBounds_toArray, List.set_cons_zero, List.set_cons_succ]
        refine hd_take 13 (v := .bool false) rfl (by kernel_rfl) (by kernel_rfl) (by kernel_rfl) rfl hS0 (fun W' hS => by go_simp) rfl ?_
        try simp only [Act.put, List.setIfInBounds_toArray, List.set_cons_zero, List.set_cons_succ]
        refine hd_take 14 (v := .pointer (some ⟨p, 4, none⟩)) rfl (by kernel_rfl) (by kernel_rfl) (by kernel_rfl) rfl hS0 (fun W' hS => by go_simp) rfl ?_
        refine hd_take 16 (v := .int .i64 (k : Int)) rfl (by kernel_rfl) (by kernel_rfl) (by kernel_rfl) rfl hS0 (fun W' hS => by go_simp) rfl ?_
        refine hd_take 20 (v := .pointer (some ⟨p + 1, 4, none⟩)) rfl (by kernel_rfl) (by kernel_rfl) (by kernel_rfl) rfl hS0 (fun W' hS => by go_simp) rfl ?_
        refine hd_take 22 (v := .int .i64 (k : Int)) rfl (by kernel_rfl) (by kernel_rfl) (by kernel_rfl) rfl hS0 (fun W' hS => by go_simp) rfl ?_
        try simp only [Act.put, List.setIfInBounds_toArray, List.set_cons_zero, List.set_cons_succ]
        refine hd_take 15 (v := .slice (some ⟨b1, o1, none⟩) a.chain.length cap1) rfl (by kernel_rfl) (by kernel_rfl) (by kernel_rfl) rfl hS0 (fun W' hS => by obtain ⟨s0, s1, s2, s3, s4, s5⟩ := hS; go_simp) rfl ?_
        refine hd_take 21 (v := .slice (some ⟨b2, o2, none⟩) b.chain.length cap2) rfl (by kernel_rfl) (by kernel_rfl) (by kernel_rfl) rfl hS0 (fun W' hS => by obtain ⟨s0, s1, s2, s3, s4, s5⟩ := hS; go_simp) rfl ?_
        try simp only [Act.put, List.setIfInBounds_toArray, List.set_cons_zero, List.set_cons_succ]
        refine hd_take 17 (v := .pointer (some ⟨b1, o1 + k * 2, none⟩)) rfl (by kernel_rfl) (by kernel_rfl) (by kernel_rfl) rfl hS0 (fun W' hS => by go_simp) rfl ?_
        refine hd_take 23 (v := .pointer (some ⟨b2, o2 + k * 2, none⟩)) rfl (by kernel_rfl) (by kernel_rfl) (by kernel_rfl) rfl hS0 (fun W' hS => by go_simp) rfl ?_
        try simp only [Act.put, List.setIfInBounds_toArray, List.set_cons_zero, List.set_cons_succ]
        refine hd_take 18 (v := .pointer (some ⟨b1, o1 + k * 2 + 1, none⟩)) rfl (by kernel_rfl) (by kernel_rfl) (by kernel_rfl) rfl hS0 (fun W' hS => by go_simp) rfl ?_
        refine hd_take 24 (v := .pointer (some ⟨b2, o2 + k * 2 + 1, none⟩)) rfl (by kernel_rfl) (by kernel_rfl) (by kernel_rfl) rfl hS0 (fun W' hS => by go_simp) rfl ?_
        try simp only [Act.put, List.setIfInBounds_toArray, List.set_cons_zero, List.set_cons_succ]
        refine hd_take 19 (v := .slice sa x.sig.length sc) rfl (by kernel_rfl) (by kernel_rfl) (by kernel_rfl) rfl hS0 (fun W' hS => by obtain ⟨s0, s1, s2, s3, s4, s5⟩ := hS; go_simp) rfl ?_
        refine hd_take 25 (v := .slice ta y.sig.length tc) rfl (by kernel_rfl) (by kernel_rfl) (by kernel_rfl) rfl hS0 (fun W' hS => by obtain ⟨s0, s1, s2, s3, s4, s5⟩ := hS; go_simp) rfl ?_
        try simp only [Act.put, List.setIfInBounds_toArray, List.set_cons_zero, List.set_cons_succ]
        refine hd_one 26 (by kernel_rfl) rfl (by kernel_rfl) rfl (fun K' hK => ?_)
        go_simp
        refine (rsameW_any _ _ x.sig y.sig wr.drew (HU.out.fr g0) (HV.out.fr g0)).mono ?_
        rintro e y1 ⟨rfl, hbb⟩
        have g1 : Fr [] wr y1 := g0.below hbb g0.size
        clear hbb
        have hS1 : y1.cell? ⟨p, 4, none⟩ = some (.slice (some ⟨b1, o1, none⟩) a.chain.length cap1) ∧ y1.cell? ⟨p + 1, 4, none⟩ = some (.slice (some ⟨b2, o2, none⟩) b.chain.length cap2) ∧ y1.cell? ⟨b1, o1 + k * 2, none⟩ = some (.string ⟨x.nk.toArray⟩) ∧ y1.cell? ⟨b1, o1 + k * 2 + 1, none⟩ = some (.slice sa x.sig.length sc) ∧ y1.cell? ⟨b2, o2 + k * 2, none⟩ = some (.string ⟨y.nk.toArray⟩) ∧ y1.cell? ⟨b2, o2 + k * 2 + 1, none⟩ = some (.slice ta y.sig.length tc) := ⟨g1.cell c4 (by simp), g1.cell d4 (by simp), g1.cell e0 (by simp), g1.cell e1 (by simp), g1.cell f0 (by simp), g1.cell f1 (by simp)⟩
        refine hK.out _ _ (fun _ => hS1) ?_
        clear hK K'
        try simp only [Act.put, List.setIfInBounds_toArray, List.set_cons_zero, List.set_cons_succ]
        obtain ⟨q, hq⟩ : ∃ q, q = decide (x.sig = y.sig) := ⟨_, rfl⟩
        rw [← hq]
        refine hd_take 27 (v := .bool (!q)) rfl (by kernel_rfl) (by kernel_rfl) (by kernel_rfl) rfl hS1 (fun W' hS => by go_simp) rfl ?_
        try simp only [Act.put, List.setIfInBounds_toArray, List.set_cons_zero, List.set_cons_succ]
        refine hd_take 28 (v := .bool (!q)) rfl (by kernel_rfl) (by kernel_rfl) (by kernel_rfl) rfl hS1 (fun W' hS => by go_simp) rfl ?_
        try simp only [Act.put, List.setIfInBounds_toArray, List.set_cons_zero, List.set_cons_succ]
        refine held_done (by kernel_rfl) ?_
        have hfy := HFR.out.trans g1 (by simp)
        cases q with
        | true =>
          have HTK := Lib.hid (HNX.out (by
            have hs := of_decide_eq_true hq.symm
            have hk := HNK.out
            cases x; cases y
            simp only at hs hk
            rw [hs, hk]))
          clear hq
          simp only [Bool.not_true]
          go_wp2_with fail
          go_roundg (b.chain.length - (k + 1))
          case measure => have := HG.out; omega
          case rel => exact ⟨k + 1, by omega, rfl, by go_num, HTK.out, hfy⟩
        | false =>
          have HRF := Lib.hid (HNE.out (fun e => by rw [e] at hq; simp at hq))
          clear hq
          simp only [Bool.not_false]
          go_wp2_with fail
          go_ret
          exact ⟨by rw [HRF.out]; rfl, (H0.out.trans hfy (by simp)).toBelow (by simp)⟩
      · have u6 : (x.nk != y.nk) = true := by rw [bne_iff_ne]; exact hnk
        have u7 : (x.nk == y.nk) = false := by rw [beq_eq_false_iff_ne]; exact hnk
        have HRF := Lib.hid (HNE.out (fun e => hnk (by rw [e])))
        clear hnk hfr
        go_wp2_with fail
        have g0 : Fr [] wr wr.drew := (Fr.refl [] wr).drew
        have hS0 : wr.drew.cell? ⟨p, 4, none⟩ = some (.slice (some ⟨b1, o1, none⟩) a.chain.length cap1) ∧ wr.drew.cell? ⟨p + 1, 4, none⟩ = some (.slice (some ⟨b2, o2, none⟩) b.chain.length cap2) ∧ wr.drew.cell? ⟨b1, o1 + k * 2, none⟩ = some (.string ⟨x.nk.toArray⟩) ∧ wr.drew.cell? ⟨b1, o1 + k * 2 + 1, none⟩ = some (.slice sa x.sig.length sc) ∧ wr.drew.cell? ⟨b2, o2 + k * 2, none⟩ = some (.string ⟨y.nk.toArray⟩) ∧ wr.drew.cell? ⟨b2, o2 + k * 2 + 1, none⟩ = some (.slice ta y.sig.length tc) := ⟨g0.cell c4 (by simp), g0.cell d4 (by simp), g0.cell e0 (by simp), g0.cell e1 (by simp), g0.cell f0 (by simp), g0.cell f1 (by simp)⟩
        refine region_held 100 (fun W' => W'.cell? ⟨p, 4, none⟩ = some (.slice (some ⟨b1, o1, none⟩) a.chain.length cap1) ∧ W'.cell? ⟨p + 1, 4, none⟩ = some (.slice (some ⟨b2, o2, none⟩) b.chain.length cap2) ∧ W'.cell? ⟨b1, o1 + k * 2, none⟩ = some (.string ⟨x.nk.toArray⟩) ∧ W'.cell? ⟨b1, o1 + k * 2 + 1, none⟩ = some (.slice sa x.sig.length sc) ∧ W'.cell? ⟨b2, o2 + k * 2, none⟩ = some (.string ⟨y.nk.toArray⟩) ∧ W'.cell? ⟨b2, o2 + k * 2 + 1, none⟩ = some (.slice ta y.sig.length tc)) hmx ?_
        change Held _ _ _ _ _ _ 29 (Array.replicate 29 false) _ _
        refine hd_take 0 (v := .pointer (some ⟨p, 4, none⟩)) rfl (by kernel_rfl) (by kernel_rfl) (by kernel_rfl) rfl hS0 (fun W' hS => by go_simp) rfl ?_
        refine hd_take 2 (v := .int .i64 (k : Int)) rfl (by kernel_rfl) (by kernel_rfl) (by kernel_rfl) rfl hS0 (fun W' hS => by go_simp) rfl ?_
        refine hd_take 6 (v := .pointer (some ⟨p + 1, 4, none⟩)) rfl (by kernel_rfl) (by kernel_rfl) (by kernel_rfl) rfl hS0 (fun W' hS => by go_simp) rfl ?_
        refine hd_take 8 (v := .int .i64 (k : Int)) rfl (by kernel_rfl) (by kernel_rfl) (by kernel_rfl) rfl hS0 (fun W' hS => by go_simp) rfl ?_
        try simp only [Act.put, List.setIfInBounds_toArray, List.set_cons_zero, List.set_cons_succ]
        refine hd_take 1 (v := .slice (some ⟨b1, o1, none⟩) a.chain.length cap1) rfl (by kernel_rfl) (by kernel_rfl) (by kernel_rfl) rfl hS0 (fun W' hS => by obtain ⟨s0, s1, s2, s3, s4, s5⟩ := hS; go_simp) rfl ?_
        refine hd_take 7 (v := .slice (some ⟨b2, o2, none⟩) b.chain.length cap2) rfl (by kernel_rfl) (by kernel_rfl) (by kernel_rfl) rfl hS0 (fun W' hS => by obtain ⟨s0, s1, s2, s3, s4, s5⟩ := hS; go_simp) rfl ?_
        try simp only [Act.put, List.setIfInBounds_toArray, List.set_cons_zero, List.set_cons_succ]
        refine hd_take 3 (v := .pointer (some ⟨b1, o1 + k * 2, none⟩)) rfl (by kernel_rfl) (by kernel_rfl) (by kernel_rfl) rfl hS0 (fun W' hS => by go_simp) rfl ?_
        refine hd_take 9 (v := .pointer (some ⟨b2, o2 + k * 2, none⟩)) rfl (by kernel_rfl) (by kernel_rfl) (by kernel_rfl) rfl hS0 (fun W' hS => by go_simp) rfl ?_
        try simp only [Act.put, List.setIfInBounds_toArray, List.set_cons_zero, List.set_cons_succ]
        refine hd_take 4 (v := .pointer (some ⟨b1, o1 + k * 2, none⟩)) rfl (by kernel_rfl) (by kernel_rfl) (by kernel_rfl) rfl hS0 (fun W' hS => by go_simp) rfl ?_
        refine hd_take 10 (v := .pointer (some ⟨b2, o2 + k * 2, none⟩)) rfl (by kernel_rfl) (by kernel_rfl) (by kernel_rfl) rfl hS0 (fun W' hS => by go_simp) rfl ?_
        try simp only [Act.put, List.setIfInBounds_toArray, List.set_cons_zero, List.set_cons_succ]
        refine hd_take 5 (v := .string ⟨x.nk.toArray⟩) rfl (by kernel_rfl) (by kernel_rfl) (by kernel_rfl) rfl hS0 (fun W' hS => by obtain ⟨s0, s1, s2, s3, s4, s5⟩ := hS; go_simp) rfl ?_
        refine hd_take 11 (v := .string ⟨y.nk.toArray⟩) rfl (by kernel_rfl) (by kernel_rfl) (by kernel_rfl) rfl hS0 (fun W' hS => by obtain ⟨s0, s1, s2, s3, s4, s5⟩ := hS; go_simp) rfl ?_
        try simp only [Act.put, List.setIfInBounds_toArray, List.set_cons_zero, List.set_cons_succ]
        refine hd_take 12 (v := .bool true) rfl (by kernel_rfl) (by kernel_rfl) (by kernel_rfl) rfl hS0 (fun W' hS => by go_simp) rfl ?_
        try simp only [Act.put, List.setIfInBounds_toArray, List.set_cons_zero, List.set_cons_succ]
        refine hd_take 13 (v := .bool true) rfl (by kernel_rfl) (by kernel_rfl) (by kernel_rfl) rfl hS0 (fun W' hS => by go_simp) rfl ?_
        try simp only [Act.put, List.setIfInBounds_toArray, List.set_cons_zero, List.set_cons_succ]
        refine hd_skip 14 rfl (by kernel_rfl) (by kernel_rfl) (by kernel_rfl) rfl hS0 rfl ?_
        refine hd_skip 15 rfl (by kernel_rfl) (by kernel_rfl) (by kernel_rfl) rfl hS0 rfl ?_
        refine hd_skip 16 rfl (by kernel_rfl) (by kernel_rfl) (by kernel_rfl) rfl hS0 rfl ?_
        refine hd_skip 17 rfl (by kernel_rfl) (by kernel_rfl) (by kernel_rfl) rfl hS0 rfl ?_
        refine hd_skip 18 rfl (by kernel_rfl) (by kernel_rfl) (by kernel_rfl) rfl hS0 rfl ?_
        refine hd_skip 19 rfl (by kernel_rfl) (by kernel_rfl) (by kernel_rfl) rfl hS0 rfl ?_
        refine hd_skip 20 rfl (by kernel_rfl) (by kernel_rfl) (by kernel_rfl) rfl hS0 rfl ?_
        refine hd_skip 21 rfl (by kernel_rfl) (by kernel_rfl) (by kernel_rfl) rfl hS0 rfl ?_
        refine hd_skip 22 rfl (by kernel_rfl) (by kernel_rfl) (by kernel_rfl) rfl hS0 rfl ?_
        refine hd_skip 23 rfl (by kernel_rfl) (by kernel_rfl) (by kernel_rfl) rfl hS0 rfl ?_
        refine hd_skip 24 rfl (by kernel_rfl) (by kernel_rfl) (by kernel_rfl) rfl hS0 rfl ?_
        refine hd_skip 25 rfl (by kernel_rfl) (by kernel_rfl) (by kernel_rfl) rfl hS0 rfl ?_
        refine hd_skip 26 rfl (by kernel_rfl) (by kernel_rfl) (by kernel_rfl) rfl hS0 rfl ?_
        refine hd_skip 27 rfl (by kernel_rfl) (by kernel_rfl) (by kernel_rfl) rfl hS0 rfl ?_
        refine hd_take 28 (v := .bool true) rfl (by kernel_rfl) (by kernel_rfl) (by kernel_rfl) rfl hS0 (fun W' hS => by go_simp) rfl ?_
        try simp only [Act.put, List.setIfInBounds_toArray, List.set_cons_zero, List.set_cons_succ]
        refine held_done (by kernel_rfl) ?_
        have hfy := HFR.out.trans g0 (by simp)
        go_wp2_with fail
        go_ret
        exact ⟨by rw [HRF.out]; rfl, (H0.out.trans hfy (by simp)).toBelow (by simp)⟩
    · obtain rfl : k = b.chain.length := by omega
      have t1 : decide ((b.chain.length : Int) < (b.chain.length : Int)) = false := by simp
      have HRT : Hid (r = true) := Lib.hid (by
        rw [HR.out]
        have := HEQ.out
        rw [List.take_length] at this
        exact decide_eq_true this)
      go_wp2_with fail
      go_ret
      exact ⟨by rw [HRT.out]; rfl, (H0.out.trans hfr (by simp)).toBelow (by simp)⟩

set_option maxRecDepth 100000 in
set_option maxHeartbeats 2000000 in
theorem rsame30_any (av bv : Value) (a b : Ttl) (w : World) (ha : TtlR w av a) (hb : TtlR w bv b) :
    Calls Tryz.prog 11 #[av, bv] w fun e w' => e = .returned (.bool (sameT a b)) ∧ Below w.heap.size w w' := by
  have HA := Lib.hid ha
  have HB := Lib.hid hb
  obtain ⟨v1, rfl, hc1⟩ := ha
  obtain ⟨v2, rfl, hc2⟩ := hb
  obtain ⟨a1, cap1, rfl, hl1, hk1, hf1⟩ := hc1.form
  obtain ⟨a2, cap2, rfl, hl2, hk2, hf2⟩ := hc2.form
  clear hc1 hc2
  obtain ⟨r, er⟩ : ∃ r, r = sameT a b := ⟨_, rfl⟩
  rw [← er]
  have ER := Lib.hid er
  obtain ⟨W0, hW0⟩ : ∃ W0, W0 = (w.alloc (.cells #[.int .i64 a.serial, .int .i64 a.shw, .int .i64 a.place, .string ⟨a.first.toArray⟩, .slice a1 a.chain.length cap1] 24)).alloc (.cells #[.int .i64 b.serial, .int .i64 b.shw, .int .i64 b.place, .string ⟨b.first.toArray⟩, .slice a2 b.chain.length cap2] 24) := ⟨_, rfl⟩
  obtain ⟨p, ep⟩ : ∃ p, p = w.heap.size := ⟨_, rfl⟩
  have h0 : Fr [] w W0 := by rw [hW0]; exact ((Fr.refl [] w).alloc _).alloc _
  have hp0 : W0.heap[p]? = some (.cells #[.int .i64 a.serial, .int .i64 a.shw, .int .i64 a.place, .string ⟨a.first.toArray⟩, .slice a1 a.chain.length cap1] 24 (0, 0)) := by rw [hW0, ep]; exact heap_past _ (heap_new rfl)
  have hp1 : W0.heap[p + 1]? = some (.cells #[.int .i64 b.serial, .int .i64 b.shw, .int .i64 b.place, .string ⟨b.first.toArray⟩, .slice a2 b.chain.length cap2] 24 (0, 0)) := by rw [hW0, ep]; exact heap_new (by simp)
  have c0 := row_cell hp0 0
  have c1 := row_cell hp0 1
  have c2 := row_cell hp0 2
  have c3 := row_cell hp0 3
  have c4 := row_cell hp0 4
  have d0 := row_cell hp1 0
  have d1 := row_cell hp1 1
  have d2 := row_cell hp1 2
  have d3 := row_cell hp1 3
  have d4 := row_cell hp1 4
  simp at c0 c1 c2 c3 c4 d0 d1 d2 d3 d4
  rw [hW0, ep] at c0 c1 c2 c3 c4 d0 d1 d2 d3 d4
  go_enter Tryz.func11, Tryz.ntmps11
  go_wp2_with fail
  rw [← hW0]
  rw [← hW0, ← ep] at c0 c1 c2 c3 c4 d0 d1 d2 d3 d4
  refine (rext30_any _ _ a b W0 (HA.out.fr h0) (HB.out.fr h0)).mono ?_
  rintro e y1 ⟨rfl, hb1⟩
  have g1 : Fr [] W0 y1 := Fr.ofBelow hb1
  rw [← ep]
  clear hW0 ep hb1
  have x0 := g1.cell c0 (by simp)
  have x1 := g1.cell c1 (by simp)
  have x2 := g1.cell c2 (by simp)
  have x3 := g1.cell c3 (by simp)
  have x4 := g1.cell c4 (by simp)
  have y0 := g1.cell d0 (by simp)
  have y1' := g1.cell d1 (by simp)
  have y2 := g1.cell d2 (by simp)
  have y3 := g1.cell d3 (by simp)
  have y4 := g1.cell d4 (by simp)
  clear er c0 c1 c3 c4 d0 d1 d3 d4
  obtain ⟨q, hq⟩ : ∃ q, q = extT a b := ⟨_, rfl⟩
  rw [← hq]
  cases q with
  | false =>
    have HR : Hid (r = false) := Lib.hid (by rw [ER.out]; unfold sameT; rw [← hq]; rfl)
    clear hq
    go_wp2_with fail
    go_ret
    exact ⟨by rw [HR.out]; rfl, (h0.trans g1 (by simp)).toBelow (by simp)⟩
  | true =>
    have HQ := Lib.hid hq
    clear hq
    go_wp2_with fail
    refine (rext30_any _ _ b a y1 ((HB.out.fr h0).fr g1) ((HA.out.fr h0).fr g1)).mono ?_
    rintro e z1 ⟨rfl, hb2⟩
    have g2 : Fr [] y1 z1 := Fr.ofBelow hb2
    have z2 := g2.cell x2 (by simp)
    have z3 := g2.cell y2 (by simp)
    clear hb2 x0 x1 x2 x3 x4 y0 y1' y2 y3 y4 c2 d2
    obtain ⟨q2, hq2⟩ : ∃ q, q = extT b a := ⟨_, rfl⟩
    rw [← hq2]
    have HQ2 := Lib.hid hq2
    clear hq2
    cases q2 with
    | false =>
      have HR : Hid (r = false) := Lib.hid (by rw [ER.out]; unfold sameT; rw [← HQ2.out, Bool.and_false]; rfl)
      go_wp2_with fail
      go_ret
      exact ⟨by rw [HR.out]; rfl, ((h0.trans g1 (by simp)).trans g2 (by simp)).toBelow (by simp)⟩
    | true =>
      have HR : Hid (r = decide (a.place = b.place)) := Lib.hid (by rw [ER.out]; unfold sameT; rw [← HQ2.out, ← HQ.out]; rfl)
      by_cases hp : a.place = b.place
      · have u1 : (a.place == b.place) = true := by simpa using hp
        have HR2 : Hid (r = true) := Lib.hid (by rw [HR.out]; exact decide_eq_true hp)
        clear hp
        go_wp2_with fail
        go_ret
        exact ⟨by rw [HR2.out]; rfl, ((h0.trans g1 (by simp)).trans g2 (by simp)).toBelow (by simp)⟩
      · have u1 : (a.place == b.place) = false := by simpa using hp
        have HR2 : Hid (r = false) := Lib.hid (by rw [HR.out]; exact decide_eq_false hp)
        clear hp
        go_wp2_with fail
        go_ret
        exact ⟨by rw [HR2.out]; rfl, ((h0.trans g1 (by simp)).trans g2 (by simp)).toBelow (by simp)⟩
end Go.Proofs.YtcblpfepkkkilaaGreatDoor
