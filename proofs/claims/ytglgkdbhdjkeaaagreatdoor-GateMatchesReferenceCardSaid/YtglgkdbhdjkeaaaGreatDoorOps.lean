/-
  Slices of operations of a gate.
-/
import Derived.Test.YtglgkdbhdjkeaaaGreatDoorGtL
import Derived.Test.YtglgkdbhdjkeaaaGreatDoorRtA
namespace Go.Proofs.YtglgkdbhdjkeaaaGreatDoor
open Go.RowKit

/-- The cells from ⟨b, p⟩ on are an operation. -/
def OpAt (w : World) (b p : Nat) (o : GOp) : Prop := ∃ (ta wa sa : Option Addr) (tc wc sc : Nat),
  (w.cell? ⟨b, p, none⟩ = some (.int .u8 (o.kind : Int)) ∧ w.cell? ⟨b, p + 1, none⟩ = some (.int .i64 o.t.serial) ∧ w.cell? ⟨b, p + 2, none⟩ = some (.int .i64 o.t.shw) ∧ w.cell? ⟨b, p + 3, none⟩ = some (.int .i64 o.t.place) ∧
    w.cell? ⟨b, p + 4, none⟩ = some (.string ⟨o.t.first.toArray⟩) ∧ w.cell? ⟨b, p + 5, none⟩ = some (.slice ta o.t.chain.length tc) ∧ w.cell? ⟨b, p + 6, none⟩ = some (.int .i64 o.serial) ∧ w.cell? ⟨b, p + 7, none⟩ = some (.int .i64 o.f.bits) ∧
    w.cell? ⟨b, p + 8, none⟩ = some (.int .i64 o.f.hashes) ∧ w.cell? ⟨b, p + 9, none⟩ = some (.slice wa o.f.words.length wc) ∧ w.cell? ⟨b, p + 10, none⟩ = some (.slice sa o.serials.length sc) ∧ w.cell? ⟨b, p + 11, none⟩ = some (.int .i64 o.now)) ∧
  Trs w (.slice ta o.t.chain.length tc) o.t.chain ∧ Ws w (.slice wa o.f.words.length wc) o.f.words ∧ Zs w (.slice sa o.serials.length sc) o.serials
theorem OpAt.fr {w w' : World} {b p : Nat} {o : GOp} (h : OpAt w b p o) (hf : Fr [] w w') : OpAt w' b p o := by
  obtain ⟨ta, wa, sa, tc, wc, sc, ⟨h0, h1, h2, h3, h4, h5, h6, h7, h8, h9, h10, h11⟩, t1, t2, t3⟩ := h
  have n : b ∉ ([] : List Nat) := by simp
  exact ⟨ta, wa, sa, tc, wc, sc, ⟨hf.cell h0 n, hf.cell h1 n, hf.cell h2 n, hf.cell h3 n, hf.cell h4 n, hf.cell h5 n, hf.cell h6 n, hf.cell h7 n, hf.cell h8 n, hf.cell h9 n, hf.cell h10 n, hf.cell h11 n⟩, t1.fr hf, t2.fr0 hf, t3.fr0 hf⟩
/-- A slice of operations. -/
def Ops (w : World) (v : Value) (l : List GOp) : Prop :=
  (l = [] ∧ ∃ a, v = .slice a 0 0) ∨ ∃ b off cap, v = .slice (some ⟨b, off, none⟩) l.length cap ∧ l.length ≤ cap ∧ cap ≤ 9223372036854775807 ∧ b < w.heap.size ∧
    ∀ (i : Nat) (o : GOp), l[i]? = some o → OpAt w b (off + i * 12) o
theorem Ops.fr {w w' : World} {v : Value} {l : List GOp} (h : Ops w v l) (hf : Fr [] w w') : Ops w' v l := by
  rcases h with h | ⟨b, off, cap, hv, h1, h2, h3, h4⟩
  · exact Or.inl h
  · exact Or.inr ⟨b, off, cap, hv, h1, h2, Nat.lt_of_lt_of_le h3 hf.size, fun i o hi => (h4 i o hi).fr hf⟩
theorem Ops.form {w : World} {v : Value} {l : List GOp} (h : Ops w v l) : ∃ a cap, v = .slice a l.length cap ∧ l.length ≤ cap ∧ cap ≤ 9223372036854775807 ∧ (∀ i, i < l.length → ∃ b off, a = some ⟨b, off, none⟩) := by
  rcases h with ⟨rfl, a, rfl⟩ | ⟨b, off, cap, rfl, h1, h2, _, _⟩
  · exact ⟨a, 0, rfl, by simp, by simp, fun i hi => absurd hi (by simp)⟩
  · exact ⟨_, cap, rfl, h1, h2, fun i hi => ⟨b, off, rfl⟩⟩
theorem Ops.cells {w : World} {b off n cap : Nat} {l : List GOp} (h : Ops w (.slice (some ⟨b, off, none⟩) n cap) l) (i : Nat) (o : GOp) (hx : l[i]? = some o) : OpAt w b (off + i * 12) o := by
  rcases h with ⟨rfl, _⟩ | ⟨b', off', cap', hv, _, _, _, h4⟩
  · simp at hx
  · cases hv
    exact h4 i o hx

def fewO (o : GOp) : Bool := fewT o.t 4 && decide (o.f.words.length ≤ 70) && decide (o.serials.length ≤ 20)
def fewG (l : List GOp) : Bool := decide (l.length ≤ 14) && l.all fewO
theorem fewG_ok {l : List GOp} (h : fewG l = true) (hN : ∀ o ∈ l, OpN o) : l.length ≤ 14 ∧ (∀ o ∈ l, OpS o) ∧ ∀ o ∈ l, o.serials.length ≤ 20 := by
  unfold fewG at h
  simp only [Bool.and_eq_true, decide_eq_true_eq, List.all_eq_true] at h
  refine ⟨h.1, fun o ho => ?_, fun o ho => ?_⟩
  · have := h.2 o ho
    unfold fewO at this
    simp only [Bool.and_eq_true, decide_eq_true_eq] at this
    exact ⟨hN o ho, fewT_small this.1.1 (by decide) (hN o ho).t, by omega, by omega⟩
  · have := h.2 o ho
    unfold fewO at this
    simp only [Bool.and_eq_true, decide_eq_true_eq] at this
    exact this.2
theorem fewG_no {l : List GOp} {o : GOp} (ho : o ∈ l) (h : fewO o = false) : fewG l = false := by
  unfold fewG
  rw [List.all_eq_false.2 ⟨o, ho, by rw [h]; decide⟩, Bool.and_false]
theorem fewO_no1 {o : GOp} (h : fewT o.t 4 = false) : fewO o = false := by unfold fewO; rw [h]; rfl
theorem fewO_no2 {o : GOp} (h : 70 < o.f.words.length) : fewO o = false := by unfold fewO; rw [decide_eq_false (p := o.f.words.length ≤ 70) (by omega)]; simp
theorem fewO_no3 {o : GOp} (h : 20 < o.serials.length) : fewO o = false := by unfold fewO; rw [decide_eq_false (p := o.serials.length ≤ 20) (by omega)]; simp
theorem fewO_yes {o : GOp} (h1 : fewT o.t 4 = true) (h2 : o.f.words.length ≤ 70) (h3 : o.serials.length ≤ 20) : fewO o = true := by
  unfold fewO
  rw [h1, decide_eq_true h2, decide_eq_true h3]
  rfl

set_option maxRecDepth 100000 in
set_option maxHeartbeats 4000000 in
/-- few: at most 14 operations, all of them small. -/
theorem fewG_any (v : Value) (l : List GOp) (w : World) (hv : Ops w v l) :
    Calls Tryz.prog 11 #[v, .int .i64 14] w fun e w' => e = .returned (.bool (fewG l)) ∧ Below w.heap.size w w' := by
  obtain ⟨a, cap, rfl, hl, hc9, ha⟩ := hv.form
  have HV := Lib.hid hv
  clear hv
  obtain ⟨r, er⟩ : ∃ r, r = fewG l := ⟨_, rfl⟩
  rw [← er]
  have ER := Lib.hid er
  clear er
  by_cases h1 : 14 < l.length
  · have t1 : decide (14 < (l.length : Int)) = true := by simp; omega
    have HR : Hid (r = false) := Lib.hid (by rw [ER.out]; unfold fewG; rw [decide_eq_false (by omega)]; rfl)
    clear h1
    go_enter Tryz.func11, Tryz.ntmps11
    go_wp2_with fail
    go_ret
    exact ⟨by rw [HR.out]; rfl, Below.refl _ _⟩
  have t1 : decide (14 < (l.length : Int)) = false := by simp; omega
  have H1 : Hid (l.length ≤ 14) := Lib.hid (by omega)
  clear h1
  go_enter Tryz.func11, Tryz.ntmps11
  go_wp2_with fail
  go_loopg [5] l.length (fun gh i wr => ∃ k : Nat, k ≤ l.length ∧ gh = l.length - k ∧ i = .int .i64 (k : Int) ∧ (∀ x ∈ l.take k, fewO x = true) ∧ Fr [] w wr)
  case atStart => exact ⟨0, by omega, by omega, rfl, fun x hx => by simp at hx, Fr.refl _ _⟩
  case round =>
    obtain ⟨k, hk, hgh, rfl, hall, hfr⟩ := hrel
    have HG := Lib.hid hgh
    have HA := Lib.hid hall
    have HF := Lib.hid hfr
    clear hgh hall hfr
    by_cases hlt : k < l.length
    · have t3 : decide ((k : Int) < (l.length : Int)) = true := by simp; omega
      obtain ⟨b, off, rfl⟩ := ha k hlt
      obtain ⟨x, hx⟩ : ∃ x, l[k]? = some x := ⟨_, List.getElem?_eq_getElem hlt⟩
      have hat := (HV.out.fr HF.out).cells k x hx
      have HXM : Hid (x ∈ l) := Lib.hid (List.mem_of_getElem? hx)
      have HNX : Hid (fewO x = true → ∀ y ∈ l.take (k + 1), fewO y = true) := Lib.hid (fun h y hy => by
        rw [List.take_add_one, hx, List.mem_append] at hy
        rcases hy with hy | hy
        · exact HA.out y hy
        · obtain rfl : y = x := by simpa using hy
          exact h)
      clear hx
      have HAT := Lib.hid hat
      obtain ⟨ta, wa, sa, tc, wc, sc, ⟨c0, c1, c2, c3, c4, c5, c6, c7, c8, c9, c10, c11⟩, hT, _, _⟩ := hat
      have HT := Lib.hid hT
      clear hT c0 c6 c7 c8 c11
      have i0 : (0 : Int) ≤ (k : Int) := by omega
      have i1 : (k : Int) < (l.length : Int) := by omega
      go_wp2_with fail
      refine (few30_any _ x.t 4 wr ⟨_, rfl, HT.out⟩).mono ?_
      rintro e w2 ⟨rfl, hb⟩
      have hfb : Fr [] wr w2 := Fr.ofBelow hb
      have HF2 := Lib.hid (HF.out.trans hfb (by simp))
      have d9 := hfb.cell c9 (by simp)
      have d10 := hfb.cell c10 (by simp)
      clear hb hfb c1 c2 c3 c4 c5 c9 c10
      obtain ⟨fb, hfb⟩ : ∃ q, q = fewT x.t 4 := ⟨_, rfl⟩
      have HFB := Lib.hid hfb
      rw [← hfb]
      clear hfb
      cases fb with
      | false =>
        have HR : Hid (r = false) := Lib.hid (by rw [ER.out]; exact fewG_no HXM.out (fewO_no1 HFB.out.symm))
        go_wp2_with fail
        go_ret
        exact ⟨by rw [HR.out]; rfl, HF2.out.toBelow (by simp)⟩
      | true =>
        by_cases h2 : 70 < x.f.words.length
        case pos =>
          have t4 : decide ((70 : Int) < (x.f.words.length : Int)) = true := by simp; omega
          have HR : Hid (r = false) := Lib.hid (by rw [ER.out]; exact fewG_no HXM.out (fewO_no2 h2))
          clear h2
          go_wp2_with fail
          go_ret
          exact ⟨by rw [HR.out]; rfl, HF2.out.toBelow (by simp)⟩
        have t4 : decide ((70 : Int) < (x.f.words.length : Int)) = false := by simp; omega
        by_cases h3 : 20 < x.serials.length
        case pos =>
          have t5 : decide ((20 : Int) < (x.serials.length : Int)) = true := by simp; omega
          have HR : Hid (r = false) := Lib.hid (by rw [ER.out]; exact fewG_no HXM.out (fewO_no3 h3))
          clear h2 h3
          go_wp2_with fail
          go_ret
          exact ⟨by rw [HR.out]; rfl, HF2.out.toBelow (by simp)⟩
        have t5 : decide ((20 : Int) < (x.serials.length : Int)) = false := by simp; omega
        have HX := Lib.hid (HNX.out (fewO_yes HFB.out.symm (by omega) (by omega)))
        clear h2 h3
        go_wp2_with fail
        go_roundg (l.length - (k + 1))
        case measure => have := HG.out; omega
        case rel => exact ⟨k + 1, by omega, rfl, by go_num, HX.out, HF2.out⟩
    · obtain rfl : k = l.length := by omega
      have t3 : decide ((l.length : Int) < (l.length : Int)) = false := by simp
      have HR : Hid (r = true) := Lib.hid (by
        rw [ER.out]
        have := HA.out
        rw [List.take_length] at this
        unfold fewG
        rw [decide_eq_true H1.out, Bool.true_and, List.all_eq_true]
        exact this)
      go_wp2_with fail
      go_ret
      exact ⟨by rw [HR.out]; rfl, HF.out.toBelow (by simp)⟩
end Go.Proofs.YtglgkdbhdjkeaaaGreatDoor
