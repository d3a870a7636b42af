/-
  foyerlaw37.GateRefuses.
-/
import Derived.Test.YtglgkdbhdjkeaaaGreatDoorOps
import Derived.Test.YtglgkdbhdjkeaaaGreatDoorPlnGa
namespace Go.Proofs.YtglgkdbhdjkeaaaGreatDoor
open Go.RowKit

theorem GateQ.fr0 {B : Nat} {w0 w w' : World} {gp : Nat} {g : Gst} {F : List Nat} (hf : Fr [] w0 w) (hb : ∀ k ∈ F, w0.heap.size ≤ k) (q : GateQ B w gp g F w') : Fr [] w0 w' := by
  obtain ⟨F', q1, q2, q3⟩ := q
  exact hf.trans q2 (fun y hy => Or.inr (hb y hy))
/-- Two gates with no block in common. -/
structure Duo2 (B1 B2 : Nat) (w : World) (gp hp : Nat) (g h : Gst) (F1 F2 : List Nat) : Prop where
  a : GateR B1 w gp g F1
  b : GateR B2 w hp h F2
  d : ∀ k ∈ F1, k ∉ F2
theorem Duo2.fr {B1 B2 : Nat} {w w' : World} {gp hp : Nat} {g h : Gst} {F1 F2 : List Nat} (d : Duo2 B1 B2 w gp hp g h F1 F2) (hf : Fr [] w w') : Duo2 B1 B2 w' gp hp g h F1 F2 :=
  ⟨d.a.fr hf (by simp), d.b.fr hf (by simp), d.d⟩
theorem Duo2.left {B1 B2 : Nat} {w w' : World} {gp hp : Nat} {g g' h : Gst} {F1 F2 : List Nat} (d : Duo2 B1 B2 w gp hp g h F1 F2) (q : GateQ B1 w gp g' F1 w') : ∃ F1', Duo2 B1 B2 w' gp hp g' h F1' F2 := by
  obtain ⟨F', q1, q2, q3⟩ := q
  refine ⟨F', q1, d.b.fr q2 d.d, fun k hk h2 => ?_⟩
  rcases q3 k hk with h3 | h3
  · exact d.d k h3 h2
  · have := (d.b.blocks k h2).2
    omega
theorem Duo2.right {B1 B2 : Nat} {w w' : World} {gp hp : Nat} {g h h' : Gst} {F1 F2 : List Nat} (d : Duo2 B1 B2 w gp hp g h F1 F2) (q : GateQ B2 w hp h' F2 w') : ∃ F2', Duo2 B1 B2 w' gp hp g h' F1 F2' := by
  obtain ⟨F', q1, q2, q3⟩ := q
  refine ⟨F', d.a.fr q2 (fun k hk h2 => d.d k h2 hk), q1, fun k hk h2 => ?_⟩
  rcases q3 k h2 with h3 | h3
  · exact d.d k hk h3
  · have := (d.a.blocks k hk).2
    omega
theorem OpAt.opR {w : World} {b p : Nat} {o : GOp} (h : OpAt w b p o) : ∃ (ta wa sa : Option Addr) (tc wc sc : Nat),
    (w.cell? ⟨b, p, none⟩ = some (.int .u8 (o.kind : Int)) ∧ w.cell? ⟨b, p + 1, none⟩ = some (.int .i64 o.t.serial) ∧ w.cell? ⟨b, p + 2, none⟩ = some (.int .i64 o.t.shw) ∧ w.cell? ⟨b, p + 3, none⟩ = some (.int .i64 o.t.place) ∧
      w.cell? ⟨b, p + 4, none⟩ = some (.string ⟨o.t.first.toArray⟩) ∧ w.cell? ⟨b, p + 5, none⟩ = some (.slice ta o.t.chain.length tc) ∧ w.cell? ⟨b, p + 6, none⟩ = some (.int .i64 o.serial) ∧ w.cell? ⟨b, p + 7, none⟩ = some (.int .i64 o.f.bits) ∧
      w.cell? ⟨b, p + 8, none⟩ = some (.int .i64 o.f.hashes) ∧ w.cell? ⟨b, p + 9, none⟩ = some (.slice wa o.f.words.length wc) ∧ w.cell? ⟨b, p + 10, none⟩ = some (.slice sa o.serials.length sc) ∧ w.cell? ⟨b, p + 11, none⟩ = some (.int .i64 o.now)) ∧
    OpR w (.agg #[.int .u8 (o.kind : Int), .int .i64 o.t.serial, .int .i64 o.t.shw, .int .i64 o.t.place, .string ⟨o.t.first.toArray⟩, .slice ta o.t.chain.length tc, .int .i64 o.serial, .int .i64 o.f.bits, .int .i64 o.f.hashes, .slice wa o.f.words.length wc, .slice sa o.serials.length sc, .int .i64 o.now]) o := by
  obtain ⟨ta, wa, sa, tc, wc, sc, hc, h1, h2, h3⟩ := h
  exact ⟨ta, wa, sa, tc, wc, sc, hc, ⟨ta, wa, sa, tc, wc, sc, rfl, h1, h2, h3⟩⟩

set_option maxRecDepth 100000 in
set_option maxHeartbeats 4000000 in
theorem gateRefuses_any (n0 : Nat) (v : Value) (l : List GOp) (w : World) (hn0 : n0 < 65536) (hT : TabsF w) (hv : Ops w v l) (hN : ∀ o ∈ l, OpN o) :
    Calls Tryz.prog 8 #[.int .u16 (n0 : Int), v] w fun e w' => e = .returned (.bool true) ∧ Below w.heap.size w w' := by
  obtain ⟨a, cap, rfl, hl, hc9, ha⟩ := hv.form
  have HV := Lib.hid hv
  have HT := Lib.hid hT
  have HN := Lib.hid hN
  clear hv hT hN
  obtain ⟨r, er, e4⟩ : ∃ r : Nat, r = n0 % 300 ∧ ((n0 : Nat) : Int).tmod 300 = (r : Int) := ⟨_, rfl, by rw [Int.tmod_eq_emod_of_nonneg (by omega)]; omega⟩
  have hr4 : r < 300 := by omega
  have HGD : Hid (goodG 1 0 (r : Int) = true) := Lib.hid (by unfold goodG; rw [Bool.and_eq_true, decide_eq_true_eq, timeB_iff]; omega)
  clear er
  go_enter Tryz.func8, Tryz.ntmps8
  go_wp2_with fail
  refine (head37_any w HT.out).mono ?_
  rintro e w1 ⟨rfl, hb⟩
  have f1 : Fr [] w w1 := Fr.ofBelow hb
  clear hb
  go_wp2_with fail
  refine (gnew_any 1 0 (r : Int) w1).mono ?_
  rintro e w2 ⟨hy, _, hb⟩
  obtain ⟨rfl, hG1⟩ := hy HGD.out
  have f2 := f1.below hb f1.size
  have hs1 := f1.size
  clear hy
  unfold gateP
  go_wp2_with fail
  refine (gnew_any 1 0 (r : Int) w2).mono ?_
  rintro e w3 ⟨hy, _, hb3⟩
  obtain ⟨rfl, hG2⟩ := hy HGD.out
  have f3 := f2.below hb3 f2.size
  have hs2 := f2.size
  have hD : Duo2 w1.heap.size w2.heap.size w3 (w1.heap.size + 1) (w2.heap.size + 1) (newG 1 0 r) (newG 1 0 r) [w1.heap.size + 1, w1.heap.size] [w2.heap.size + 1, w2.heap.size] := ⟨hG1.fr (Fr.ofBelow (X := []) hb3) (by simp), hG2, fun k hk h2 => by
    have h4 := (hG1.blocks k hk).2
    simp at h2
    omega⟩
  obtain ⟨gp, egp⟩ : ∃ q, q = w1.heap.size + 1 := ⟨_, rfl⟩
  obtain ⟨hp, ehp⟩ : ∃ q, q = w2.heap.size + 1 := ⟨_, rfl⟩
  rw [← egp, ← ehp] at hD
  rw [← egp, ← ehp]
  clear hb hb3 hy hG1 hG2
  have HD := Lib.hid hD
  have HF3 := Lib.hid f3
  have HB : Hid (w.heap.size ≤ w1.heap.size ∧ w.heap.size ≤ w2.heap.size) := Lib.hid ⟨hs1, hs2⟩
  obtain ⟨B1, eB1⟩ : ∃ q, q = w1.heap.size := ⟨_, rfl⟩
  obtain ⟨B2, eB2⟩ : ∃ q, q = w2.heap.size := ⟨_, rfl⟩
  rw [← eB1, ← eB2] at HD HB
  clear hD f1 f2 f3 hs1 hs2 egp ehp eB1 eB2
  unfold gateP
  go_wp2_with fail
  refine (fewG_any (.slice a l.length cap) l w3 (HV.out.fr HF3.out)).mono ?_
  rintro e w4 ⟨rfl, hb⟩
  have hfb : Fr [] w3 w4 := Fr.ofBelow hb
  have f4 := HF3.out.trans hfb (by simp)
  have HD4 := Lib.hid (HD.out.fr hfb)
  have HF4 := Lib.hid f4
  clear hb hfb f4
  obtain ⟨x, hx⟩ : ∃ x, x = fewG l := ⟨_, rfl⟩
  rw [← hx]
  cases x with
  | false =>
    clear hx
    go_wp2_with fail
    go_ret
    exact ⟨rfl, HF4.out.toBelow (by simp)⟩
  | true =>
    have HFE := Lib.hid (fewG_ok hx.symm HN.out)
    clear hx
    go_wp2_with fail
    go_loopg [10] l.length (fun gh i wr => ∃ (k : Nat) (g h : Gst) (F1 F2 : List Nat), k ≤ l.length ∧ gh = l.length - k ∧ i = .int .i64 (k : Int) ∧ Duo2 B1 B2 wr gp hp g h F1 F2 ∧ Sim g h ∧ (∀ k ∈ F1, B1 ≤ k) ∧ (∀ k ∈ F2, B2 ≤ k) ∧ Fr [] w wr)
    case atStart => exact ⟨0, _, _, _, _, by omega, by omega, rfl, HD4.out, Sim.refl _, fun k hk => (HD4.out.a.blocks k hk).1, fun k hk => (HD4.out.b.blocks k hk).1, HF4.out⟩
    case round =>
      obtain ⟨k, g, h, F1, F2, hk, hgh, rfl, hD, hS, hF1, hF2, hfr⟩ := hrel
      have HG := Lib.hid hgh
      have HD5 := Lib.hid hD
      have HS := Lib.hid hS
      have HK1 := Lib.hid hF1
      have HK2 := Lib.hid hF2
      have HF := Lib.hid hfr
      clear hgh hD hS hF1 hF2 hfr
      by_cases hlt : k < l.length
      · have t3 : decide ((k : Int) < (l.length : Int)) = true := by simp; omega
        obtain ⟨b, off, rfl⟩ := ha k hlt
        obtain ⟨o, ho⟩ : ∃ x, l[k]? = some x := ⟨_, List.getElem?_eq_getElem hlt⟩
        obtain ⟨ta, wa, sa, tc, wc, sc, ⟨c0, c1, c2, c3, c4, c5, c6, c7, c8, c9, c10, c11⟩, hR⟩ := ((HV.out.fr HF.out).cells k o ho).opR
        have HR := Lib.hid hR
        have HOS := Lib.hid (HFE.out.2.1 o (List.mem_of_getElem? ho))
        have HO := Lib.hid ho
        have i0 : (0 : Int) ≤ (k : Int) := by omega
        have i1 : (k : Int) < (l.length : Int) := by omega
        clear hR ho
        go_wp2_with fail
        refine (do_any B1 gp g F1 _ o wr HD5.out.a HR.out HOS.out (HT.out.fr HF.out)).mono ?_
        rintro e w5 ⟨rfl, hq⟩
        have HF5 := Lib.hid (hq.fr0 HF.out (fun k hk => Nat.le_trans HB.out.1 (HK1.out k hk)))
        obtain ⟨F1', hD5⟩ := HD5.out.left hq
        have HD6 := Lib.hid hD5
        clear hq hD5
        obtain ⟨m, em⟩ : ∃ m, m = (doG g o).2.1 := ⟨_, rfl⟩
        obtain ⟨er, eer⟩ : ∃ m, m = (doG g o).2.2 := ⟨_, rfl⟩
        have EM := Lib.hid em
        have EER := Lib.hid eer
        rw [← em, ← eer]
        clear em eer c0 c1 c2 c3 c4 c5 c6 c7 c8 c9 c10 c11
        by_cases he : er = 0
        case neg =>
          have t5 : (er != 0) = true := by simpa using he
          have HX := Lib.hid (HS.out.skip (o := o) (Or.inl (by rw [← EER.out]; exact he)))
          clear he
          go_wp2_with fail
          go_roundg (l.length - (k + 1))
          case measure => have := HG.out; omega
          case rel => exact ⟨k + 1, _, _, _, _, by omega, rfl, by go_num, HD6.out, HX.out, fun k hk => (HD6.out.a.blocks k hk).1, HK2.out, HF5.out⟩
        by_cases hm : m = 3
        case pos =>
          have t5 : (er != 0) = false := by simpa using he
          have t6 : (m == 3) = true := by simpa using hm
          have HX := Lib.hid (HS.out.skip (o := o) (Or.inr (by rw [← EM.out]; exact hm)))
          clear he hm
          go_wp2_with fail
          go_roundg (l.length - (k + 1))
          case measure => have := HG.out; omega
          case rel => exact ⟨k + 1, _, _, _, _, by omega, rfl, by go_num, HD6.out, HX.out, fun k hk => (HD6.out.a.blocks k hk).1, HK2.out, HF5.out⟩
        have t5 : (er != 0) = false := by simpa using he
        have t6 : (m == 3) = false := by simpa using hm
        obtain ⟨hX1, hX2⟩ := HS.out.both (o := o) (by rw [← EER.out]; exact he)
        have hX3 : (doG h o).2.1 = m ∧ (doG h o).2.2 = 0 := by rw [hX1]; exact ⟨EM.out.symm, by rw [← EER.out]; exact he⟩
        have HX := Lib.hid hX2
        have HX3 := Lib.hid hX3
        have HE := Lib.hid he
        clear hX1 hX2 hX3 he hm
        obtain ⟨wo, hwo⟩ : ∃ q, q = w5 := ⟨_, rfl⟩
        obtain ⟨ta, wa, sa, tc, wc, sc, ⟨c0, c1, c2, c3, c4, c5, c6, c7, c8, c9, c10, c11⟩, hR⟩ := ((HV.out.fr HF5.out).cells k o HO.out).opR
        have HR5 := Lib.hid hR
        clear hR hwo wo
        go_wp2_with fail
        refine (do_any B2 hp h F2 _ o w5 HD6.out.b HR5.out HOS.out (HT.out.fr HF5.out)).mono ?_
        rintro e w6 ⟨rfl, hq⟩
        have HF6 := Lib.hid (hq.fr0 HF5.out (fun k hk => Nat.le_trans HB.out.2 (HK2.out k hk)))
        obtain ⟨F2', hD5⟩ := HD6.out.right hq
        have HD7 := Lib.hid hD5
        clear hq hD5 c0 c1 c2 c3 c4 c5 c6 c7 c8 c9 c10 c11
        rw [HX3.out.1, HX3.out.2]
        go_wp2_with fail
        go_roundg (l.length - (k + 1))
        case measure => have := HG.out; omega
        case rel => exact ⟨k + 1, _, _, _, _, by omega, rfl, by go_num, HD7.out, HX.out, fun k hk => (HD7.out.a.blocks k hk).1, fun k hk => (HD7.out.b.blocks k hk).1, HF6.out⟩
      · obtain rfl : k = l.length := by omega
        have t3 : decide ((l.length : Int) < (l.length : Int)) = false := by simp
        go_wp2_with fail
        go_ret
        exact ⟨rfl, HF.out.toBelow (by simp)⟩
end Go.Proofs.YtglgkdbhdjkeaaaGreatDoor
