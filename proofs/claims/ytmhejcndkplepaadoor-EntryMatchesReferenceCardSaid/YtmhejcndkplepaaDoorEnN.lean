/-
  foyerref18.link: neighbours with equal strings come to one class.
-/
import Derived.Test.YtmhejcndkplepaaDoorEnM
import Derived.Test.YtmhejcndkplepaaDoorNums
import Derived.BigQuiet
namespace Go.Proofs.YtmhejcndkplepaaDoor
open Go.RowKit

/-- What 'link' has done to the roots. -/
structure Linked (l : List Ent) (n : Nat) (R R' : Nat → Nat) (bys : List (List UInt8)) (order : List Nat) (m : Nat) : Prop where
  so : Sound l n R'
  old : ∀ x y, R x = R y → R' x = R' y
  adj : ∀ i, i + 1 < m → bys.getD (order.getD (i + 1) 0) [] = bys.getD (order.getD i 0) [] → R' (order.getD (i + 1) 0) = R' (order.getD i 0)
theorem Linked.unite {l : List Ent} {n : Nat} {R R' : Nat → Nat} {bys : List (List UInt8)} {order : List Nat} {m a b : Nat} (h : Linked l n R R' bys order (m + 1)) (ha : a < n) (hb : b < n) (ea : order.getD (m + 1) 0 = a) (eb : order.getD m 0 = b) (hc : Conn l a b) :
    Linked l n R (uniR R' (R' a) (R' b)) bys order (m + 2) where
  so := h.so.unite ha hb hc
  old x y hxy := uniR_eq (h.old x y hxy)
  adj i hi he := by
    by_cases h1 : i = m
    · subst h1; rw [ea, eb]; exact uniR_ab rfl rfl
    · exact uniR_eq (h.adj i (by omega) he)
theorem Linked.skip {l : List Ent} {n : Nat} {R R' : Nat → Nat} {bys : List (List UInt8)} {order : List Nat} {m : Nat} (h : Linked l n R R' bys order (m + 1)) (hne : bys.getD (order.getD (m + 1) 0) [] ≠ bys.getD (order.getD m 0) []) : Linked l n R R' bys order (m + 2) where
  so := h.so
  old := h.old
  adj i hi he := by
    by_cases h1 : i = m
    · subst h1; exact absurd he hne
    · exact h.adj i (by omega) he

set_option maxRecDepth 100000 in
set_option maxHeartbeats 4000000 in
theorem link_any (l : List Ent) (base g n cap bo : Nat) (R : Nat → Nat) (p : List Nat) (ov bv : Value) (order : List Nat) (bys : List (List UInt8)) (w : World) (hO : OwnI base w (.slice (some ⟨g, 0, none⟩) n cap) p) (hn : p.length = n)
    (hU : UF n p R) (hS : Sound l n R) (hov : OwnI bo w ov order) (hord : ∀ i, i < order.length → order.getD i 0 < n) (hbv : Strs w bv bys) (hbn : bys.length = n) (ho1 : ∀ k, ov.ownBlock = some k → k ≠ g) (ho2 : ∀ k, bv.ownBlock = some k → k ≠ g)
    (hsel : ∀ x y, x < n → y < n → bys.getD x [] = bys.getD y [] → Conn l x y) (hol : order.length ≤ 1000000) :
    Calls Tryd.prog 74 #[.slice (some ⟨g, 0, none⟩) n cap, ov, bv] w fun e w' => e = .returned (.tuple #[]) ∧ ∃ p' R', OwnI base w' (.slice (some ⟨g, 0, none⟩) n cap) p' ∧ p'.length = n ∧ UF n p' R' ∧ Linked l n R R' bys order order.length ∧ Fr [g] w w' := by
  have hmx : Tryd.prog.follows .mixedOrders = true := by kernel_rfl
  have HOV := Lib.hid hov.nums
  have HBV := Lib.hid hbv
  obtain ⟨oa, ocap, rfl, holn, hof⟩ := hov.nums.form
  obtain ⟨ba, bcap, rfl, hbln, hbf⟩ := hbv.form
  have HO := Lib.hid hO
  have HU := Lib.hid hU
  have HN := Lib.hid hn
  have HSE := Lib.hid hsel
  have HORD := Lib.hid hord
  have HBN := Lib.hid hbn
  have H1 := Lib.hid ho1
  have H2 := Lib.hid ho2
  have HL0 : Hid (Linked l n R R bys order 1) := Lib.hid ⟨hS, fun _ _ h => h, fun i hi => absurd hi (by omega)⟩
  clear hO hU hn hsel hord hbn ho1 ho2 hS hov hbv
  go_enter Tryd.func74, Tryd.ntmps74
  go_wp2_with fail
  go_loopg [6] (order.length + 2) (fun gh i wr => ∃ (m : Nat) (q : List Nat) (R' : Nat → Nat), (m < order.length ∨ m = 0) ∧ gh = order.length + 2 - m ∧ i = .int .i64 ((m : Int) + 1) ∧ OwnI base wr (.slice (some ⟨g, 0, none⟩) n cap) q ∧ q.length = n ∧ UF n q R' ∧ Linked l n R R' bys order (m + 1) ∧ Fr [g] w wr)
  case atStart => exact ⟨0, p, R, Or.inr rfl, rfl, rfl, HO.out, HN.out, HU.out, HL0.out, .refl _ _⟩
  case round =>
    obtain ⟨m, q, R', hm, hgh, rfl, ho, hqn, hu, hl, hfr⟩ := hrel
    have HGH := Lib.hid hgh
    have HOQ := Lib.hid ho
    have HQN := Lib.hid hqn
    have HUQ := Lib.hid hu
    have HL := Lib.hid hl
    clear hgh ho hqn hu hl
    by_cases hlt : m + 1 < order.length
    · have t1 : decide ((m : Int) + 1 < (order.length : Int)) = true := by simp; omega
      obtain ⟨go, oo, rfl⟩ := hof m (by omega)
      have hb0 : order.getD m 0 < n := HORD.out m (by omega)
      have ha0 : order.getD (m + 1) 0 < n := HORD.out (m + 1) hlt
      obtain ⟨gb, ob, rfl⟩ := hbf 0 (by have := HBN.out; omega)
      have hgo : go ≠ g := H1.out go rfl
      have hgb : gb ≠ g := H2.out gb rfl
      have HCA := Lib.hid (HOV.out.cell (m + 1) hlt)
      have HCB := Lib.hid (HOV.out.cell m (by omega))
      have HSA := Lib.hid (HBV.out.cell (order.getD (m + 1) 0) (by have := HBN.out; omega))
      have HSB := Lib.hid (HBV.out.cell (order.getD m 0) (by have := HBN.out; omega))
      have HUN := Lib.hid (fun (h1 : Conn l (order.getD (m + 1) 0) (order.getD m 0)) => HL.out.unite ha0 hb0 rfl rfl h1)
      have HSK := Lib.hid (HL.out.skip (m := m))
      have HCO := Lib.hid (HSE.out _ _ ha0 hb0)
      generalize order.getD (m + 1) 0 = a at ha0 HCA HSA HUN HSK HCO
      generalize order.getD m 0 = b at hb0 HCB HSB HUN HSK HCO
      generalize bys.getD a [] = sa at HSA HSK HCO
      generalize bys.getD b [] = sb at HSB HSK HCO
      have c1 := hfr.cell HCA.out (by simpa using hgo)
      have c2 := hfr.cell HCB.out (by simpa using hgo)
      have c3 := hfr.cell HSA.out (by simpa using hgb)
      have c4 := hfr.cell HSB.out (by simpa using hgb)
      have i0 : (0 : Int) ≤ (m : Int) + 1 := by omega
      have i1 : (m : Int) + 1 < (order.length : Int) := by omega
      have i2 : (0 : Int) ≤ (m : Int) := by omega
      have i3 : (m : Int) < (order.length : Int) := by omega
      have i4 : (m : Int) + 1 - 1 = (m : Int) := by omega
      have i5 : (a : Int) < (bys.length : Int) := by have := HBN.out; omega
      have i6 : (b : Int) < (bys.length : Int) := by have := HBN.out; omega
      have hml : m < 1000000 := by omega
      by_cases hs : sa = sb
      · subst hs
        have HL3 := Lib.hid (HUN.out (HCO.out rfl))
        clear HUN HCO HSK
        go_wp2_with fail
        go_quiet (fail)
        go_wp2_with fail
        have hf0 : Fr [g] w (wr.drewN nq) := hfr.drewN _
        refine (rhead_any base g n cap n a R' q _ ha0 (HOQ.out.fr ((Fr.refl [] wr).drewN _) (by simp)) HQN.out HUQ.out).mono ?_
        rintro e w1 ⟨rfl, q1, ho1, hn1, hs1, hf1⟩
        have hfr1 : Fr [g] w w1 := hf0.trans hf1 (by simp)
        have HO1 := Lib.hid ho1
        have HN1 := Lib.hid hn1
        have HU1 := Lib.hid (HUQ.out.shrt hs1)
        clear c1 c2 c3 c4 ho1 hn1 hs1 hf1 hf0 hfr
        have c2 := hfr1.cell HCB.out (by simpa using hgo)
        go_wp2_with fail
        refine (rhead_any base g n cap n b R' q1 w1 hb0 HO1.out HN1.out HU1.out).mono ?_
        rintro e w2 ⟨rfl, q2, ho2, hn2, hs2, hf2⟩
        have hfr2 : Fr [g] w w2 := hfr1.trans hf2 (by simp)
        have HU2 := Lib.hid (HU1.out.shrt hs2)
        have hra := HUQ.out.rle a ha0
        have hrb := HUQ.out.rle b hb0
        have HUF : Hid (UF n (q2.set (max (R' a) (R' b)) (min (R' a) (R' b))) (uniR R' (R' a) (R' b))) := Lib.hid (HU2.out.unite (by omega) (by omega) (HUQ.out.rr a ha0) (HUQ.out.rr b hb0))
        generalize R' a = ra at hra HUF HL3 ⊢
        generalize R' b = rb at hrb HUF HL3 ⊢
        generalize uniR R' ra rb = R3 at HUF HL3
        obtain ⟨mx, hmx1, hmx2⟩ : ∃ mx : Nat, mx = max ra rb ∧ max (ra : Int) (rb : Int) = (mx : Int) := ⟨_, rfl, by omega⟩
        obtain ⟨mn, hmn1, hmn2⟩ : ∃ mn : Nat, mn = min ra rb ∧ min (ra : Int) (rb : Int) = (mn : Int) := ⟨_, rfl, by omega⟩
        have hmxn : mx < n := by omega
        rw [← hmx1, ← hmn1] at HUF
        have d3 := ho2.cells hn2 mx hmxn
        have d4 := ho2.free hn2 mx
        have HO3 := Lib.hid (ho2.put hn2 mx mn)
        have HN3 : Hid ((q2.set mx mn).length = n) := Lib.hid (by rw [List.length_set]; exact hn2)
        have HF3 := Lib.hid (hfr2.setCell ⟨g, mx, none⟩ (.int .i64 (mn : Int)) (by simp))
        generalize q2.set mx mn = q3 at HUF HO3 HN3
        have j0 : (0 : Int) ≤ (mx : Int) := by omega
        have j1 : (mx : Int) < (n : Int) := by omega
        clear hmx1 hmn1 ho2 hn2 hs2 hf2 hfr1 hfr2 c2
        go_wp2_with fail
        go_roundg (order.length + 2 - (m + 1))
        case measure => have := HGH.out; omega
        case rel => exact ⟨m + 1, q3, R3, by omega, rfl, by go_num, HO3.out, HN3.out, HUF.out, HL3.out, HF3.out⟩
      · have HSK2 := Lib.hid (HSK.out hs)
        have t3 : (sa == sb) = false := by simpa using hs
        clear hs
        go_wp2_with fail
        go_quiet (fail)
        go_wp2_with fail
        go_roundg (order.length + 2 - (m + 1))
        case measure => have := HGH.out; omega
        case rel => exact ⟨m + 1, q, R', by omega, rfl, by go_num, (HOQ.out.fr ((Fr.refl [] wr).drewN _) (by simp)), HQN.out, HUQ.out, HSK2.out, hfr.drewN _⟩
    · have t1 : decide ((m : Int) + 1 < (order.length : Int)) = false := by simp; omega
      have HE : Hid (Linked l n R R' bys order order.length) := Lib.hid ⟨HL.out.so, HL.out.old, fun i hi => HL.out.adj i (by omega)⟩
      go_wp2_with fail
      go_end0
      exact ⟨rfl, q, R', HOQ.out, HQN.out, HUQ.out, HE.out, hfr⟩
set_option maxRecDepth 100000 in
set_option maxHeartbeats 1000000 in
theorem link_none (bo : Nat) (fv ov bv : Value) (w : World) (hov : OwnI bo w ov []) :
    Calls Tryd.prog 74 #[fv, ov, bv] w fun e w' => e = .returned (.tuple #[]) ∧ w = w' := by
  obtain ⟨oa, ocap, rfl, holn, hof⟩ := hov.nums.form
  clear hov
  go_enter Tryd.func74, Tryd.ntmps74
  go_wp2_with fail
  go_loopg [6] 1 (fun gh i wr => i = .int .i64 1 ∧ wr = w)
  case atStart => exact ⟨rfl, rfl⟩
  case round =>
    obtain ⟨rfl, rfl⟩ := hrel
    go_wp2_with fail
    go_end0
    exact ⟨rfl, rfl⟩
end Go.Proofs.YtmhejcndkplepaaDoor
