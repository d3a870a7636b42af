/-
  foyerlaw30.small.
-/
import Derived.Test.YtennhdgnpodkaaaGreatDoorHeT
namespace Go.Proofs.YtennhdgnpodkaaaGreatDoor
open Go.RowKit

/-- A slice of titles. -/
def Tts (w : World) (v : Value) (l : List Ttl) : Prop := ∃ b off cap, v = .slice (some ⟨b, off, none⟩) l.length cap ∧ l.length ≤ cap ∧ cap ≤ 9223372036854775807 ∧
  ∀ (i : Nat) (t : Ttl), l[i]? = some t → w.cell? ⟨b, off + i * 5, none⟩ = some (.int .i64 t.serial) ∧ w.cell? ⟨b, off + i * 5 + 1, none⟩ = some (.int .i64 t.shw) ∧ w.cell? ⟨b, off + i * 5 + 2, none⟩ = some (.int .i64 t.place) ∧ w.cell? ⟨b, off + i * 5 + 3, none⟩ = some (.string ⟨t.first.toArray⟩) ∧
    ∃ a n, w.cell? ⟨b, off + i * 5 + 4, none⟩ = some (.slice a t.chain.length n) ∧ Trs w (.slice a t.chain.length n) t.chain
def smallT (l : List Ttl) (s : List (List UInt8)) : Bool := l.all (fun t => fewT t 6) && s.all fun x => decide (x.length ≤ 300)
theorem smallT_parts {l : List Ttl} {s : List (List UInt8)} (h : smallT l s = true) : (∀ t ∈ l, fewT t 6 = true) ∧ ∀ x ∈ s, x.length ≤ 300 := by
  unfold smallT at h
  simp only [Bool.and_eq_true, List.all_eq_true, decide_eq_true_eq] at h
  exact h
theorem Tts.fr {w w' : World} {v : Value} {l : List Ttl} (h : Tts w v l) (hf : Fr [] w w') : Tts w' v l := by
  obtain ⟨b, off, cap, hv, h1, h2, h3⟩ := h
  exact ⟨b, off, cap, hv, h1, h2, fun i t ht => let ⟨a0, a1, a2, a3, a, n, a4, a5⟩ := h3 i t ht
    ⟨hf.cell a0 (by simp), hf.cell a1 (by simp), hf.cell a2 (by simp), hf.cell a3 (by simp), a, n, hf.cell a4 (by simp), a5.fr hf⟩⟩
set_option maxRecDepth 100000 in
set_option maxHeartbeats 2000000 in
theorem small30_any (v sv : Value) (l : List Ttl) (ss : List (List UInt8)) (w : World) (hv : Tts w v l) (hs : Strs w sv ss) :
    Calls Tryz.prog 10 #[v, sv] w fun e w' => e = .returned (.bool (smallT l ss)) ∧ Below w.heap.size w w' := by
  have HV := Lib.hid hv
  have HS := Lib.hid hs
  obtain ⟨b, off, cap, rfl, hlc, hcap, _⟩ := hv
  obtain ⟨sa, sc, rfl, hsl, hsa⟩ := hs.form
  clear hs
  obtain ⟨r, er⟩ : ∃ r, r = smallT l ss := ⟨_, rfl⟩
  rw [← er]
  have ER := Lib.hid er
  clear er
  go_enter Tryz.func10, Tryz.ntmps10
  go_wp2_with fail
  go_loopg [5] l.length (fun gh i wr => ∃ k : Nat, k ≤ l.length ∧ gh = l.length - k ∧ i = .int .i64 (k : Int) ∧ (∀ t ∈ l.take k, fewT t 6 = true) ∧ Fr [] w wr)
  case atStart => exact ⟨0, by omega, by omega, rfl, fun x hx => by simp at hx, Fr.refl _ _⟩
  case round =>
    obtain ⟨k, hk, hgh, rfl, hall, hfr⟩ := hrel
    have HG := Lib.hid hgh
    have HA := Lib.hid hall
    clear hgh hall
    by_cases hlt : k < l.length
    · have t1 : decide ((k : Int) < (l.length : Int)) = true := by simp; omega
      obtain ⟨t, ht⟩ : ∃ t, l[k]? = some t := ⟨_, List.getElem?_eq_getElem hlt⟩
      obtain ⟨b', off', cap', hb', _, _, h3⟩ := HV.out.fr hfr
      cases hb'
      obtain ⟨e0, e1, e2, e3, a, n, e4, htr⟩ := h3 k t ht
      have HTR := Lib.hid htr
      have HM : Hid (t ∈ l) := Lib.hid (List.mem_of_getElem? ht)
      have HNX : Hid (fewT t 6 = true → ∀ y ∈ l.take (k + 1), fewT y 6 = true) := Lib.hid (fun h y hy => by
        rw [List.take_add_one, ht, List.mem_append] at hy
        rcases hy with hy | hy
        · exact HA.out y hy
        · obtain rfl : y = t := by simpa using hy
          exact h)
      have i0 : (0 : Int) ≤ (k : Int) := by omega
      have i1 : (k : Int) < (l.length : Int) := by omega
      clear ht htr h3
      go_wp2_with fail
      refine (few30_any _ t 6 wr ⟨_, rfl, HTR.out⟩).mono ?_
      rintro e w1 ⟨rfl, hbb⟩
      have hf1 : Fr [] w w1 := hfr.trans (Y := []) (Fr.ofBelow hbb) (by simp)
      clear hbb e0 e1 e2 e3 e4
      obtain ⟨q, hq⟩ : ∃ q, q = fewT t 6 := ⟨_, rfl⟩
      rw [← hq]
      cases q with
      | true =>
        have HX := Lib.hid (HNX.out hq.symm)
        clear hq
        go_wp2_with fail
        go_roundg (l.length - (k + 1))
        case measure => have := HG.out; omega
        case rel => exact ⟨k + 1, by omega, rfl, by go_num, HX.out, hf1⟩
      | false =>
        have HR : Hid (r = false) := Lib.hid (by
          rw [ER.out]; unfold smallT
          rw [List.all_eq_false.2 ⟨t, HM.out, by rw [← hq]; decide⟩]; rfl)
        clear hq
        go_wp2_with fail
        go_ret
        exact ⟨by rw [HR.out]; rfl, hf1.toBelow (by simp)⟩
    · obtain rfl : k = l.length := by omega
      have t1 : decide ((l.length : Int) < (l.length : Int)) = false := by simp
      have HLA : Hid (l.all (fun t => fewT t 6) = true) := Lib.hid (by
        have := HA.out
        rw [List.take_length] at this
        exact List.all_eq_true.2 this)
      have HFR := Lib.hid hfr
      obtain ⟨wo, rfl⟩ : ∃ wo : World, wo = wr := ⟨_, rfl⟩
      go_wp2_with fail
      go_loopg [6] ss.length (fun gh i wr => ∃ k : Nat, k ≤ ss.length ∧ gh = ss.length - k ∧ i = .int .i64 (k : Int) ∧ (∀ j, j < k → (ss.getD j []).length ≤ 300) ∧ wo = wr)
      case atStart => exact ⟨0, by omega, by omega, rfl, fun j hj => absurd hj (by omega), rfl⟩
      case round =>
        obtain ⟨m, hm, hgi, rfl, hal, rfl⟩ := hrel
        have HG2 := Lib.hid hgi
        have HB := Lib.hid hal
        clear hgi hal
        by_cases hlm : m < ss.length
        · have t2 : decide ((m : Int) < (ss.length : Int)) = true := by simp; omega
          obtain ⟨sb, so, rfl⟩ := hsa m hlm
          have hcs := (HS.out.fr0 HFR.out).cell m hlm
          have HSM : Hid (ss.getD m [] ∈ ss) := Lib.hid (getD_mem ss m [] hlm)
          have HOK : Hid ((ss.getD m []).length ≤ 300 → ∀ j, j < m + 1 → (ss.getD j []).length ≤ 300) := Lib.hid (fun h j hj => by
            by_cases hjm : j < m
            · exact HB.out j hjm
            · obtain rfl : j = m := by omega
              exact h)
          generalize ss.getD m [] = s at hcs HSM HOK
          have i2 : (0 : Int) ≤ (m : Int) := by omega
          have i3 : (m : Int) < (ss.length : Int) := by omega
          by_cases h5 : 300 < s.length
          · have t7 : decide ((300 : Int) < (s.length : Int)) = true := by simp; omega
            have HR : Hid (r = false) := Lib.hid (by
              rw [ER.out]; unfold smallT
              rw [List.all_eq_false.2 ⟨s, HSM.out, by simpa using h5⟩, Bool.and_false])
            clear h5
            go_wp2_with fail
            go_ret
            exact ⟨by rw [HR.out]; rfl, HFR.out.toBelow (by simp)⟩
          · have t7 : decide ((300 : Int) < (s.length : Int)) = false := by simp; omega
            have HR := Lib.hid (HOK.out (by omega))
            clear h5
            go_wp2_with fail
            go_roundg (ss.length - (m + 1))
            case measure => have := HG2.out; omega
            case rel => exact ⟨m + 1, by omega, rfl, by go_num, HR.out, rfl⟩
        · obtain rfl : m = ss.length := by omega
          have t2 : decide ((ss.length : Int) < (ss.length : Int)) = false := by simp
          have HR : Hid (r = true) := Lib.hid (by
            rw [ER.out]; unfold smallT
            rw [HLA.out, Bool.true_and, List.all_eq_true]
            exact fun s hs => decide_eq_true (mem_getD_lt (p := fun s => s.length ≤ 300) HB.out s hs))
          go_wp2_with fail
          go_ret
          exact ⟨by rw [HR.out]; rfl, HFR.out.toBelow (by simp)⟩
end Go.Proofs.YtennhdgnpodkaaaGreatDoor
