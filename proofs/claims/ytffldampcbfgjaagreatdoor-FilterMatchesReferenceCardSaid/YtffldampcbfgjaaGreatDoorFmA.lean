/-
  foyerlaw36.FilterMatchesReference.
-/
import Derived.Test.YtffldampcbfgjaaGreatDoorFrC
import Derived.Test.YtffldampcbfgjaaGreatDoorFrL
import Derived.Test.YtffldampcbfgjaaGreatDoorErV
namespace Go.Proofs.YtffldampcbfgjaaGreatDoor
open Go.RowKit

/-- An ending with a filter and an error. -/
def FR (w w' : World) (f : Flt) (er : Int) (e : Ending) : Prop :=
  ∃ ad cp, e = .returned (.tuple #[.agg #[.int .i64 f.bits, .int .i64 f.hashes, .slice ad f.words.length cp], .int .i64 er]) ∧ Ws w' (.slice ad f.words.length cp) f.words ∧ Below w.heap.size w w'
theorem FR.own {w w' : World} {b h : Int} {l : List Nat} {wv : Value} {er : Int} (ho : OwnW w.heap.size w' wv l) (hb : Below w.heap.size w w') : FR w w' ⟨b, h, l⟩ er (.returned (.tuple #[.agg #[.int .i64 b, .int .i64 h, wv], .int .i64 er])) := by
  have hw := ho.ws
  obtain ⟨ad, cp, rfl, _⟩ := hw.form
  exact ⟨ad, cp, rfl, hw, hb⟩
theorem FR.zero {w w' : World} {er : Int} (hb : Below w.heap.size w w') : FR w w' ⟨0, 0, []⟩ er (.returned (.tuple #[zeroF, .int .i64 er])) :=
  ⟨none, 0, rfl, Or.inl ⟨rfl, none, rfl⟩, hb⟩
def mkF (l : List Int) (bits hashes : Int) : Flt := if formF bits hashes then ⟨bits, hashes, makeF l bits hashes⟩ else ⟨0, 0, []⟩
def mkE (bits hashes : Int) : Int := if formF bits hashes then 0 else 1
theorem make_fr {w w' : World} {l : List Int} {bits hashes : Int} {e : Ending} (h : MakePost w l bits hashes e w') : FR w w' (mkF l bits hashes) (mkE bits hashes) e := by
  obtain ⟨h1, h2, h3⟩ := h
  unfold mkF mkE
  cases hf : formF bits hashes with
  | true => obtain ⟨wv, rfl, ho⟩ := h1 hf; exact FR.own ho h3
  | false => rw [h2 hf]; exact FR.zero h3
theorem join_fr {w w' : World} {a b : Flt} {e : Ending} (h : JoinPost w a b e w') : FR w w' (joinF a b) (joinEr a b) e := by
  obtain ⟨h1, h2, h3⟩ := h
  cases hk : okJ a b with
  | true => obtain ⟨wv, rfl, ho⟩ := h1 hk; rw [joinEr_ok hk, joinF_ok hk]; exact FR.own ho h3
  | false => rw [h2 hk, joinEr_no hk]; unfold joinF; rw [hk]; exact FR.zero h3
def optF (o : Option Flt) : Flt := o.getD ⟨0, 0, []⟩
def optE (o : Option Flt) : Int := if o.isSome then 0 else 4
theorem parse_fr {w w' : World} {o : Option Flt} {e : Ending} (h : ParsePost w o e w') : FR w w' (optF o) (optE o) e := by
  cases o with
  | some f => obtain ⟨⟨wv, rfl, ho⟩, hb⟩ := h; exact FR.own ho hb
  | none => obtain ⟨h1, hb⟩ := h; simp only at h1; rw [h1]; exact FR.zero hb
theorem sameF_self (a : Flt) : sameF a a = true := (sameF_iff a a).2 rfl
theorem Rows.one {w : World} {b n : Nat} {x : Value} {a1 : Option Addr} {c1 : Nat} (hx : x = .slice a1 n c1) (h : w.heap[b]? = some (.cells #[x] 22 (0, 0))) : Rows w (.slice (some ⟨b, 0, none⟩) 1 1) [n] := by
  refine Or.inr ⟨b, 0, 1, rfl, Nat.le_refl _, by decide, fun i hi => ?_⟩
  rw [row_cell h]
  match i, hi with
  | 0, _ => exact ⟨a1, c1, by rw [hx]; rfl⟩
set_option maxRecDepth 100000 in
set_option maxHeartbeats 16000000 in
theorem filterMatchesReference_any (v0 : Value) (l0 : List Int) (bits hashes : Int) (va : Value) (a : Flt) (vb : Value) (b : Flt) (serial : Int) (text : List UInt8) (w : World)
    (_hn1 : -9223372036854775808 ≤ bits ∧ bits < 9223372036854775808) (_hn2 : -9223372036854775808 ≤ hashes ∧ hashes < 9223372036854775808) (hn5 : -9223372036854775808 ≤ serial ∧ serial < 9223372036854775808) (hT : TabsG w)
    (hz : Zs w v0 l0) (hr : ∀ z ∈ l0, -9223372036854775808 ≤ z ∧ z < 9223372036854775808) (ha : FltR w va a) (wa : W64 a.words) (hb : FltR w vb b) (wb : W64 b.words) :
    Calls Tryz.prog 3 #[v0, .int .i64 bits, .int .i64 hashes, va, vb, .int .i64 serial, .string ⟨text.toArray⟩] w fun e w' => e = .returned (.bool true) ∧ Below w.heap.size w w' := by
  have hmx : Tryz.prog.follows .mixedOrders = true := by kernel_rfl
  obtain ⟨a0, c0, rfl, hc0, hcc0, ha0⟩ := hz.form
  obtain ⟨wva, rfl, hwa⟩ := ha
  obtain ⟨a1, k1, rfl, _, _, _⟩ := hwa.form
  obtain ⟨wvb, rfl, hwb⟩ := hb
  obtain ⟨a2, k2, rfl, _, _, _⟩ := hwb.form
  have HZ := Lib.hid hz
  have HT := Lib.hid hT
  have HR : Hid (∀ z ∈ l0, -9223372036854775808 ≤ z ∧ z ≤ 9223372036854775807) := Lib.hid (fun z hz => by have := hr z hz; omega)
  have VA := Lib.hid hwa
  have VB := Lib.hid hwb
  have WA := Lib.hid wa
  have WB := Lib.hid wb
  have HN5 : Hid (-9223372036854775808 ≤ serial ∧ serial ≤ 9223372036854775807) := Lib.hid (by omega)
  clear hz hT hr hwa hwb wa wb _hn1 _hn2 hn5 ha0
  obtain ⟨y0, ey0⟩ : ∃ y, y = (w.alloc (.cells #[.int .i64 a.bits, .int .i64 a.hashes, .slice a1 a.words.length k1] 25)).alloc (.cells #[.int .i64 b.bits, .int .i64 b.hashes, .slice a2 b.words.length k2] 25) := ⟨_, rfl⟩
  obtain ⟨pA, epA⟩ : ∃ p, p = w.heap.size := ⟨_, rfl⟩
  obtain ⟨pB, epB⟩ : ∃ p, p = w.heap.size + 1 := ⟨_, rfl⟩
  have hy0 : Fr [] w y0 := by rw [ey0]; exact ((Fr.refl [] w).alloc _).alloc _
  have qA : y0.heap[pA]? = some (.cells #[.int .i64 a.bits, .int .i64 a.hashes, .slice a1 a.words.length k1] 25 (0, 0)) := by rw [ey0, epA]; exact heap_past _ (heap_new rfl)
  have qB : y0.heap[pB]? = some (.cells #[.int .i64 b.bits, .int .i64 b.hashes, .slice a2 b.words.length k2] 25 (0, 0)) := by rw [ey0]; exact heap_new (by rw [epB]; simp)
  go_enter Tryz.func3, Tryz.ntmps3
  go_wp2_with fail
  rw [← ey0, ← epB, ← epA]
  clear ey0 epB epA
  refine (head36_any y0 (HT.out.fr hy0).f).mono ?_
  rintro e x1 ⟨rfl, hb⟩
  have gx1 : Fr [] y0 x1 := Fr.ofBelow hb
  have hx1 : Fr [] w x1 := hy0.trans gx1 (by simp)
  have qA := gx1.at qA (by simp)
  have qB := gx1.at qB (by simp)
  clear hb gx1
  have A0 := row_cell qA 0
  have A1 := row_cell qA 1
  have A2 := row_cell qA 2
  simp at A0 A1 A2
  go_wp2_with fail
  obtain ⟨y1, ey1⟩ : ∃ y, y = x1.alloc (.cells #[.slice a0 l0.length c0] 22) := ⟨_, rfl⟩
  have hq1 : y1.heap[x1.heap.size]? = some (.cells #[.slice a0 l0.length c0] 22 (0, 0)) := by rw [ey1]; exact heap_new rfl
  have hy1 : Fr [] w y1 := by rw [ey1]; exact hx1.alloc _
  have gy1 : Fr [] x1 y1 := by rw [ey1]; exact (Fr.refl [] x1).alloc _
  rw [← ey1]
  have qA := gy1.at qA (by simp)
  have qB := gy1.at qB (by simp)
  clear ey1 gy1
  clear A0 A1 A2
  refine (small_any (.agg #[.int .i64 a.bits, .int .i64 a.hashes, .slice a1 a.words.length k1]) (.slice (some ⟨x1.heap.size, 0, none⟩) 1 1) a [l0.length] y1 ⟨_, rfl, VA.out.fr0 hy1⟩ (Rows.one rfl hq1)).mono ?_
  rintro e x2 ⟨rfl, hb⟩
  have gx2 : Fr [] y1 x2 := Fr.ofBelow hb
  have hx2 : Fr [] w x2 := hy1.trans gx2 (by simp)
  have qA := gx2.at qA (by simp)
  have qB := gx2.at qB (by simp)
  clear hb gx2
  have B0 := row_cell qB 0
  have B1 := row_cell qB 1
  have B2 := row_cell qB 2
  simp at B0 B1 B2
  obtain ⟨sm, esm⟩ : ∃ sm, sm = smallF a [l0.length] := ⟨_, rfl⟩
  rw [← esm]
  have ESM := Lib.hid esm
  clear esm hq1
  cases sm with
  | false =>
    go_wp2_with fail
    go_ret
    exact ⟨rfl, hx2.toBelow (by simp)⟩
  | true =>
    go_wp2_with fail
    refine (small_any (.agg #[.int .i64 b.bits, .int .i64 b.hashes, .slice a2 b.words.length k2]) (.slice none 0 0) b [] x2 ⟨_, rfl, VB.out.fr0 hx2⟩ (Or.inl ⟨rfl, rfl⟩)).mono ?_
    rintro e x3 ⟨rfl, hb⟩
    have gx3 : Fr [] x2 x3 := Fr.ofBelow hb
    have hx3 : Fr [] w x3 := hx2.trans gx3 (by simp)
    clear B0 B1 B2
    have qA := gx3.at qA (by simp)
    have qB := gx3.at qB (by simp)
    clear hb gx3
    obtain ⟨sn, esn⟩ : ∃ sm, sm = smallF b [] := ⟨_, rfl⟩
    rw [← esn]
    clear esn
    cases sn with
    | false =>
      go_wp2_with fail
      go_ret
      exact ⟨rfl, hx3.toBelow (by simp)⟩
    | true =>
      by_cases htx : 2000 < text.length
      · have u1 : decide ((2000 : Int) < (text.length : Int)) = true := by simp; omega
        clear htx
        go_wp2_with fail
        go_ret
        exact ⟨rfl, hx3.toBelow (by simp)⟩
      have u1 : decide ((2000 : Int) < (text.length : Int)) = false := by simp; omega
      have HTX := Lib.hid htx
      clear htx
      go_wp2_with fail
      obtain ⟨mf, emf⟩ : ∃ f, f = mkF l0 bits hashes := ⟨_, rfl⟩
      obtain ⟨me, eme⟩ : ∃ e, e = mkE bits hashes := ⟨_, rfl⟩
      obtain ⟨jf, ejf⟩ : ∃ f, f = joinF a b := ⟨_, rfl⟩
      obtain ⟨je, eje⟩ : ∃ e, e = joinEr a b := ⟨_, rfl⟩
      have EM := Lib.hid (And.intro emf eme)
      have EJ := Lib.hid (And.intro ejf eje)
      clear emf eme ejf eje
      refine (make_any (.slice a0 l0.length c0) l0 bits hashes x3 (HZ.out.fr0 hx3) HR.out (HT.out.fr hx3).f.t).mono ?_
      rintro e x4 hq
      have hq := make_fr hq
      rw [← EM.out.1, ← EM.out.2] at hq
      obtain ⟨adM, cpM, rfl, hvM, hb⟩ := hq
      have gx4 : Fr [] x3 x4 := Fr.ofBelow hb
      have hx4 : Fr [] w x4 := hx3.trans gx4 (by simp)
      have qA := gx4.at qA (by simp)
      have qB := gx4.at qB (by simp)
      clear hb gx4
      have VM := Lib.hid hvM
      clear hvM
      have fM : Fr [] x4 x4 := Fr.refl _ _
      obtain ⟨x5, ex5⟩ : ∃ W, W = x4.alloc (.cells #[.int .i64 mf.bits, .int .i64 mf.hashes, .slice adM mf.words.length cpM] 25) := ⟨_, rfl⟩
      obtain ⟨pM, epM⟩ : ∃ p, p = x4.heap.size := ⟨_, rfl⟩
      have gx5 : Fr [] x4 x5 := by rw [ex5]; exact (Fr.refl [] x4).alloc _
      have hx5 : Fr [] w x5 := hx4.trans gx5 (by simp)
      have fM := fM.trans gx5 (by simp)
      have qA := gx5.at qA (by simp)
      have qB := gx5.at qB (by simp)
      have qM : x5.heap[pM]? = some (.cells #[.int .i64 mf.bits, .int .i64 mf.hashes, .slice adM mf.words.length cpM] 25 (0, 0)) := by rw [ex5, epM]; exact heap_new rfl
      go_wp2_with fail
      rw [← ex5, ← epM]
      clear ex5 epM gx5
      refine (rmake36_any (.slice a0 l0.length c0) l0 bits hashes x5 (HZ.out.fr0 hx5) HR.out).mono ?_
      rintro e x6 hq
      have hq := make_fr hq
      rw [← EM.out.1, ← EM.out.2] at hq
      obtain ⟨adN, cpN, rfl, hvN, hb⟩ := hq
      have gx6 : Fr [] x5 x6 := Fr.ofBelow hb
      have hx6 : Fr [] w x6 := hx5.trans gx6 (by simp)
      have fM := fM.trans gx6 (by simp)
      have qA := gx6.at qA (by simp)
      have qB := gx6.at qB (by simp)
      have qM := gx6.at qM (by simp)
      clear hb gx6
      have VN := Lib.hid hvN
      clear hvN
      have fN : Fr [] x6 x6 := Fr.refl _ _
      obtain ⟨x7, ex7⟩ : ∃ W, W = x6.alloc (.cells #[.int .i64 mf.bits, .int .i64 mf.hashes, .slice adN mf.words.length cpN] 25) := ⟨_, rfl⟩
      obtain ⟨pN, epN⟩ : ∃ p, p = x6.heap.size := ⟨_, rfl⟩
      have gx7 : Fr [] x6 x7 := by rw [ex7]; exact (Fr.refl [] x6).alloc _
      have hx7 : Fr [] w x7 := hx6.trans gx7 (by simp)
      have fM := fM.trans gx7 (by simp)
      have fN := fN.trans gx7 (by simp)
      have qA := gx7.at qA (by simp)
      have qB := gx7.at qB (by simp)
      have qM := gx7.at qM (by simp)
      have qN : x7.heap[pN]? = some (.cells #[.int .i64 mf.bits, .int .i64 mf.hashes, .slice adN mf.words.length cpN] 25 (0, 0)) := by rw [ex7, epN]; exact heap_new rfl
      have A0 := row_cell qA 0
      have A1 := row_cell qA 1
      have A2 := row_cell qA 2
      have B0 := row_cell qB 0
      have B1 := row_cell qB 1
      have B2 := row_cell qB 2
      simp at A0 A1 A2 B0 B1 B2
      rw [ex7] at A0 A1 A2 B0 B1 B2
      go_wp2_with fail
      rw [← ex7, ← epN]
      rw [← ex7] at A0 A1 A2 B0 B1 B2
      clear ex7 epN gx7
      refine (join_any (.agg #[.int .i64 a.bits, .int .i64 a.hashes, .slice a1 a.words.length k1]) (.agg #[.int .i64 b.bits, .int .i64 b.hashes, .slice a2 b.words.length k2]) a b x7 ⟨_, rfl, VA.out.fr0 hx7⟩ ⟨_, rfl, VB.out.fr0 hx7⟩ WA.out WB.out).mono ?_
      rintro e x8 hq
      have hq := join_fr hq
      rw [← EJ.out.1, ← EJ.out.2] at hq
      obtain ⟨adJ, cpJ, rfl, hvJ, hb⟩ := hq
      have gx8 : Fr [] x7 x8 := Fr.ofBelow hb
      have hx8 : Fr [] w x8 := hx7.trans gx8 (by simp)
      have fM := fM.trans gx8 (by simp)
      have fN := fN.trans gx8 (by simp)
      clear A0 A1 A2 B0 B1 B2
      have qA := gx8.at qA (by simp)
      have qB := gx8.at qB (by simp)
      have qM := gx8.at qM (by simp)
      have qN := gx8.at qN (by simp)
      clear hb gx8
      have VJ := Lib.hid hvJ
      clear hvJ
      have fJ : Fr [] x8 x8 := Fr.refl _ _
      obtain ⟨x9, ex9⟩ : ∃ W, W = x8.alloc (.cells #[.int .i64 jf.bits, .int .i64 jf.hashes, .slice adJ jf.words.length cpJ] 25) := ⟨_, rfl⟩
      obtain ⟨pJ, epJ⟩ : ∃ p, p = x8.heap.size := ⟨_, rfl⟩
      have gx9 : Fr [] x8 x9 := by rw [ex9]; exact (Fr.refl [] x8).alloc _
      have hx9 : Fr [] w x9 := hx8.trans gx9 (by simp)
      have fM := fM.trans gx9 (by simp)
      have fN := fN.trans gx9 (by simp)
      have fJ := fJ.trans gx9 (by simp)
      have qA := gx9.at qA (by simp)
      have qB := gx9.at qB (by simp)
      have qM := gx9.at qM (by simp)
      have qN := gx9.at qN (by simp)
      have qJ : x9.heap[pJ]? = some (.cells #[.int .i64 jf.bits, .int .i64 jf.hashes, .slice adJ jf.words.length cpJ] 25 (0, 0)) := by rw [ex9, epJ]; exact heap_new rfl
      have A0 := row_cell qA 0
      have A1 := row_cell qA 1
      have A2 := row_cell qA 2
      have B0 := row_cell qB 0
      have B1 := row_cell qB 1
      have B2 := row_cell qB 2
      simp at A0 A1 A2 B0 B1 B2
      rw [ex9] at A0 A1 A2 B0 B1 B2
      go_wp2_with fail
      rw [← ex9, ← epJ]
      rw [← ex9] at A0 A1 A2 B0 B1 B2
      clear ex9 epJ gx9
      refine (rjoin36_any (.agg #[.int .i64 a.bits, .int .i64 a.hashes, .slice a1 a.words.length k1]) (.agg #[.int .i64 b.bits, .int .i64 b.hashes, .slice a2 b.words.length k2]) a b x9 ⟨_, rfl, VA.out.fr0 hx9⟩ ⟨_, rfl, VB.out.fr0 hx9⟩ WA.out WB.out).mono ?_
      rintro e x10 hq
      have hq := join_fr hq
      rw [← EJ.out.1, ← EJ.out.2] at hq
      obtain ⟨adK, cpK, rfl, hvK, hb⟩ := hq
      have gx10 : Fr [] x9 x10 := Fr.ofBelow hb
      have hx10 : Fr [] w x10 := hx9.trans gx10 (by simp)
      have fM := fM.trans gx10 (by simp)
      have fN := fN.trans gx10 (by simp)
      have fJ := fJ.trans gx10 (by simp)
      clear A0 A1 A2 B0 B1 B2
      have qA := gx10.at qA (by simp)
      have qB := gx10.at qB (by simp)
      have qM := gx10.at qM (by simp)
      have qN := gx10.at qN (by simp)
      have qJ := gx10.at qJ (by simp)
      clear hb gx10
      have VK := Lib.hid hvK
      clear hvK
      have fK : Fr [] x10 x10 := Fr.refl _ _
      obtain ⟨x11, ex11⟩ : ∃ W, W = x10.alloc (.cells #[.int .i64 jf.bits, .int .i64 jf.hashes, .slice adK jf.words.length cpK] 25) := ⟨_, rfl⟩
      obtain ⟨pK, epK⟩ : ∃ p, p = x10.heap.size := ⟨_, rfl⟩
      have gx11 : Fr [] x10 x11 := by rw [ex11]; exact (Fr.refl [] x10).alloc _
      have hx11 : Fr [] w x11 := hx10.trans gx11 (by simp)
      have fM := fM.trans gx11 (by simp)
      have fN := fN.trans gx11 (by simp)
      have fJ := fJ.trans gx11 (by simp)
      have fK := fK.trans gx11 (by simp)
      have qA := gx11.at qA (by simp)
      have qB := gx11.at qB (by simp)
      have qM := gx11.at qM (by simp)
      have qN := gx11.at qN (by simp)
      have qJ := gx11.at qJ (by simp)
      have qK : x11.heap[pK]? = some (.cells #[.int .i64 jf.bits, .int .i64 jf.hashes, .slice adK jf.words.length cpK] 25 (0, 0)) := by rw [ex11, epK]; exact heap_new rfl
      go_wp2_with fail
      rw [← ex11, ← epK]
      clear ex11 epK gx11
      refine (parseX_any text x11 (by have := HTX.out; omega) (HT.out.fr hx11)).mono ?_
      rintro e x12 hq
      obtain ⟨o1, hpa, hp⟩ := hq
      have HPA := Lib.hid hpa
      have hq := parse_fr hp
      clear hp
      obtain ⟨pf, epf⟩ : ∃ f, f = optF o1 := ⟨_, rfl⟩
      obtain ⟨pe, epe⟩ : ∃ e, e = optE o1 := ⟨_, rfl⟩
      have EP := Lib.hid (And.intro epf epe)
      rw [← epf, ← epe] at hq
      clear hpa epf epe
      obtain ⟨adP, cpP, rfl, hvP, hb⟩ := hq
      have gx12 : Fr [] x11 x12 := Fr.ofBelow hb
      have hx12 : Fr [] w x12 := hx11.trans gx12 (by simp)
      have fM := fM.trans gx12 (by simp)
      have fN := fN.trans gx12 (by simp)
      have fJ := fJ.trans gx12 (by simp)
      have fK := fK.trans gx12 (by simp)
      have qA := gx12.at qA (by simp)
      have qB := gx12.at qB (by simp)
      have qM := gx12.at qM (by simp)
      have qN := gx12.at qN (by simp)
      have qJ := gx12.at qJ (by simp)
      have qK := gx12.at qK (by simp)
      clear hb gx12
      have VP := Lib.hid hvP
      clear hvP
      have fP : Fr [] x12 x12 := Fr.refl _ _
      obtain ⟨x13, ex13⟩ : ∃ W, W = x12.alloc (.cells #[.int .i64 pf.bits, .int .i64 pf.hashes, .slice adP pf.words.length cpP] 25) := ⟨_, rfl⟩
      obtain ⟨pP, epP⟩ : ∃ p, p = x12.heap.size := ⟨_, rfl⟩
      have gx13 : Fr [] x12 x13 := by rw [ex13]; exact (Fr.refl [] x12).alloc _
      have hx13 : Fr [] w x13 := hx12.trans gx13 (by simp)
      have fM := fM.trans gx13 (by simp)
      have fN := fN.trans gx13 (by simp)
      have fJ := fJ.trans gx13 (by simp)
      have fK := fK.trans gx13 (by simp)
      have fP := fP.trans gx13 (by simp)
      have qA := gx13.at qA (by simp)
      have qB := gx13.at qB (by simp)
      have qM := gx13.at qM (by simp)
      have qN := gx13.at qN (by simp)
      have qJ := gx13.at qJ (by simp)
      have qK := gx13.at qK (by simp)
      have qP : x13.heap[pP]? = some (.cells #[.int .i64 pf.bits, .int .i64 pf.hashes, .slice adP pf.words.length cpP] 25 (0, 0)) := by rw [ex13, epP]; exact heap_new rfl
      go_wp2_with fail
      rw [← ex13, ← epP]
      clear ex13 epP gx13
      refine (rparse36_any text x13 (by have := HTX.out; omega)).mono ?_
      rintro e x14 hq
      obtain ⟨o2, hpb, hp⟩ := hq
      obtain rfl : o2 = o1 := hpb.eq HPA.out
      have hq := parse_fr hp
      clear hp
      rw [← EP.out.1, ← EP.out.2] at hq
      clear hpb
      obtain ⟨adQ, cpQ, rfl, hvQ, hb⟩ := hq
      have gx14 : Fr [] x13 x14 := Fr.ofBelow hb
      have hx14 : Fr [] w x14 := hx13.trans gx14 (by simp)
      have fM := fM.trans gx14 (by simp)
      have fN := fN.trans gx14 (by simp)
      have fJ := fJ.trans gx14 (by simp)
      have fK := fK.trans gx14 (by simp)
      have fP := fP.trans gx14 (by simp)
      have qA := gx14.at qA (by simp)
      have qB := gx14.at qB (by simp)
      have qM := gx14.at qM (by simp)
      have qN := gx14.at qN (by simp)
      have qJ := gx14.at qJ (by simp)
      have qK := gx14.at qK (by simp)
      have qP := gx14.at qP (by simp)
      clear hb gx14
      have VQ := Lib.hid hvQ
      clear hvQ
      have fQ : Fr [] x14 x14 := Fr.refl _ _
      obtain ⟨x15, ex15⟩ : ∃ W, W = x14.alloc (.cells #[.int .i64 pf.bits, .int .i64 pf.hashes, .slice adQ pf.words.length cpQ] 25) := ⟨_, rfl⟩
      obtain ⟨pQ, epQ⟩ : ∃ p, p = x14.heap.size := ⟨_, rfl⟩
      have gx15 : Fr [] x14 x15 := by rw [ex15]; exact (Fr.refl [] x14).alloc _
      have hx15 : Fr [] w x15 := hx14.trans gx15 (by simp)
      have fM := fM.trans gx15 (by simp)
      have fN := fN.trans gx15 (by simp)
      have fJ := fJ.trans gx15 (by simp)
      have fK := fK.trans gx15 (by simp)
      have fP := fP.trans gx15 (by simp)
      have fQ := fQ.trans gx15 (by simp)
      have qA := gx15.at qA (by simp)
      have qB := gx15.at qB (by simp)
      have qM := gx15.at qM (by simp)
      have qN := gx15.at qN (by simp)
      have qJ := gx15.at qJ (by simp)
      have qK := gx15.at qK (by simp)
      have qP := gx15.at qP (by simp)
      have qQ : x15.heap[pQ]? = some (.cells #[.int .i64 pf.bits, .int .i64 pf.hashes, .slice adQ pf.words.length cpQ] 25 (0, 0)) := by rw [ex15, epQ]; exact heap_new rfl
      have M0 := row_cell qM 0
      have M1 := row_cell qM 1
      have M2 := row_cell qM 2
      have N0 := row_cell qN 0
      have N1 := row_cell qN 1
      have N2 := row_cell qN 2
      simp at M0 M1 M2 N0 N1 N2
      rw [ex15] at M0 M1 M2 N0 N1 N2
      go_wp2_with fail
      rw [← ex15, ← epQ]
      rw [← ex15] at M0 M1 M2 N0 N1 N2
      clear ex15 epQ gx15
      refine (rsame36_any (.agg #[.int .i64 mf.bits, .int .i64 mf.hashes, .slice adM mf.words.length cpM]) (.agg #[.int .i64 mf.bits, .int .i64 mf.hashes, .slice adN mf.words.length cpN]) mf mf x15 ⟨_, rfl, VM.out.fr0 fM⟩ ⟨_, rfl, VN.out.fr0 fN⟩).mono ?_
      rintro e x16 ⟨rfl, hb⟩
      have gx16 : Fr [] x15 x16 := Fr.ofBelow hb
      have hx16 : Fr [] w x16 := hx15.trans gx16 (by simp)
      have fM := fM.trans gx16 (by simp)
      have fN := fN.trans gx16 (by simp)
      have fJ := fJ.trans gx16 (by simp)
      have fK := fK.trans gx16 (by simp)
      have fP := fP.trans gx16 (by simp)
      have fQ := fQ.trans gx16 (by simp)
      clear M0 M1 M2 N0 N1 N2
      have qA := gx16.at qA (by simp)
      have qB := gx16.at qB (by simp)
      have qM := gx16.at qM (by simp)
      have qN := gx16.at qN (by simp)
      have qJ := gx16.at qJ (by simp)
      have qK := gx16.at qK (by simp)
      have qP := gx16.at qP (by simp)
      have qQ := gx16.at qQ (by simp)
      clear hb gx16
      have J0 := row_cell qJ 0
      have J1 := row_cell qJ 1
      have J2 := row_cell qJ 2
      have K0 := row_cell qK 0
      have K1 := row_cell qK 1
      have K2 := row_cell qK 2
      simp at J0 J1 J2 K0 K1 K2
      rw [sameF_self]
      go_wp2_with fail
      refine (rsame36_any (.agg #[.int .i64 jf.bits, .int .i64 jf.hashes, .slice adJ jf.words.length cpJ]) (.agg #[.int .i64 jf.bits, .int .i64 jf.hashes, .slice adK jf.words.length cpK]) jf jf x16 ⟨_, rfl, VJ.out.fr0 fJ⟩ ⟨_, rfl, VK.out.fr0 fK⟩).mono ?_
      rintro e x17 ⟨rfl, hb⟩
      have gx17 : Fr [] x16 x17 := Fr.ofBelow hb
      have hx17 : Fr [] w x17 := hx16.trans gx17 (by simp)
      have fM := fM.trans gx17 (by simp)
      have fN := fN.trans gx17 (by simp)
      have fJ := fJ.trans gx17 (by simp)
      have fK := fK.trans gx17 (by simp)
      have fP := fP.trans gx17 (by simp)
      have fQ := fQ.trans gx17 (by simp)
      clear J0 J1 J2 K0 K1 K2
      have qA := gx17.at qA (by simp)
      have qB := gx17.at qB (by simp)
      have qM := gx17.at qM (by simp)
      have qN := gx17.at qN (by simp)
      have qJ := gx17.at qJ (by simp)
      have qK := gx17.at qK (by simp)
      have qP := gx17.at qP (by simp)
      have qQ := gx17.at qQ (by simp)
      clear hb gx17
      have P0 := row_cell qP 0
      have P1 := row_cell qP 1
      have P2 := row_cell qP 2
      have Q0 := row_cell qQ 0
      have Q1 := row_cell qQ 1
      have Q2 := row_cell qQ 2
      simp at P0 P1 P2 Q0 Q1 Q2
      rw [sameF_self]
      go_wp2_with fail
      refine (rsame36_any (.agg #[.int .i64 pf.bits, .int .i64 pf.hashes, .slice adP pf.words.length cpP]) (.agg #[.int .i64 pf.bits, .int .i64 pf.hashes, .slice adQ pf.words.length cpQ]) pf pf x17 ⟨_, rfl, VP.out.fr0 fP⟩ ⟨_, rfl, VQ.out.fr0 fQ⟩).mono ?_
      rintro e x18 ⟨rfl, hb⟩
      have gx18 : Fr [] x17 x18 := Fr.ofBelow hb
      have hx18 : Fr [] w x18 := hx17.trans gx18 (by simp)
      have fM := fM.trans gx18 (by simp)
      have fN := fN.trans gx18 (by simp)
      have fJ := fJ.trans gx18 (by simp)
      have fK := fK.trans gx18 (by simp)
      have fP := fP.trans gx18 (by simp)
      have fQ := fQ.trans gx18 (by simp)
      clear P0 P1 P2 Q0 Q1 Q2
      have qA := gx18.at qA (by simp)
      have qB := gx18.at qB (by simp)
      have qM := gx18.at qM (by simp)
      have qN := gx18.at qN (by simp)
      have qJ := gx18.at qJ (by simp)
      have qK := gx18.at qK (by simp)
      have qP := gx18.at qP (by simp)
      have qQ := gx18.at qQ (by simp)
      clear hb gx18
      have A0 := row_cell qA 0
      have A1 := row_cell qA 1
      have A2 := row_cell qA 2
      simp at A0 A1 A2
      rw [sameF_self]
      go_wp2_with fail
      have gr0 : Fr [] x18 x18.drew := (Fr.refl [] x18).drew
      have hSr0 : x18.drew.cell? ⟨pA, 0, none⟩ = some (.int .i64 a.bits) ∧ x18.drew.cell? ⟨pA, 1, none⟩ = some (.int .i64 a.hashes) ∧ x18.drew.cell? ⟨pA, 2, none⟩ = some (.slice a1 a.words.length k1) := ⟨gr0.cell A0 (by simp), gr0.cell A1 (by simp), gr0.cell A2 (by simp)⟩
      refine region_held 100 (fun W' => W'.cell? ⟨pA, 0, none⟩ = some (.int .i64 a.bits) ∧ W'.cell? ⟨pA, 1, none⟩ = some (.int .i64 a.hashes) ∧ W'.cell? ⟨pA, 2, none⟩ = some (.slice a1 a.words.length k1)) hmx ?_
      change Held _ _ _ _ _ _ 21 (Array.replicate 21 false) _ _
      refine hd_take 0 (v := .bool true) rfl (by kernel_rfl) (by kernel_rfl) (by kernel_rfl) rfl hSr0 (fun W' hS => by go_simp) rfl ?_
      try simp only [Act.put, List.setIfInBounds_toArray, List.set_cons_zero, List.set_cons_succ]
      refine hd_take 1 (v := .bool true) rfl (by kernel_rfl) (by kernel_rfl) (by kernel_rfl) rfl hSr0 (fun W' hS => by go_simp) rfl ?_
      try simp only [Act.put, List.setIfInBounds_toArray, List.set_cons_zero, List.set_cons_succ]
      refine hd_take 2 (v := .bool true) rfl (by kernel_rfl) (by kernel_rfl) (by kernel_rfl) rfl hSr0 (fun W' hS => by go_simp) rfl ?_
      try simp only [Act.put, List.setIfInBounds_toArray, List.set_cons_zero, List.set_cons_succ]
      refine hd_take 3 (v := .bool true) rfl (by kernel_rfl) (by kernel_rfl) (by kernel_rfl) rfl hSr0 (fun W' hS => by go_simp) rfl ?_
      try simp only [Act.put, List.setIfInBounds_toArray, List.set_cons_zero, List.set_cons_succ]
      refine hd_take 4 (v := .bool true) rfl (by kernel_rfl) (by kernel_rfl) (by kernel_rfl) rfl hSr0 (fun W' hS => by go_simp) rfl ?_
      try simp only [Act.put, List.setIfInBounds_toArray, List.set_cons_zero, List.set_cons_succ]
      refine hd_take 5 (v := .agg #[.int .i64 a.bits, .int .i64 a.hashes, .slice a1 a.words.length k1]) rfl (by kernel_rfl) (by kernel_rfl) (by kernel_rfl) rfl hSr0 (fun W' hS => by obtain ⟨s0, s1, s2⟩ := hS; go_simp) rfl ?_
      refine hd_take 6 (v := .int .i64 serial) rfl (by kernel_rfl) (by kernel_rfl) (by kernel_rfl) rfl hSr0 (fun W' hS => by go_simp) rfl ?_
      refine hd_take 8 (v := .agg #[.int .i64 a.bits, .int .i64 a.hashes, .slice a1 a.words.length k1]) rfl (by kernel_rfl) (by kernel_rfl) (by kernel_rfl) rfl hSr0 (fun W' hS => by obtain ⟨s0, s1, s2⟩ := hS; go_simp) rfl ?_
      refine hd_take 9 (v := .int .i64 serial) rfl (by kernel_rfl) (by kernel_rfl) (by kernel_rfl) rfl hSr0 (fun W' hS => by go_simp) rfl ?_
      try simp only [Act.put, List.setIfInBounds_toArray, List.set_cons_zero, List.set_cons_succ]
      refine hd_one 7 (by kernel_rfl) rfl (by kernel_rfl) rfl (fun K' hK => ?_)
      go_simp
      refine (has_any _ a serial x18.drew ⟨_, rfl, VA.out.fr0 (hx18.trans gr0 (by simp))⟩ WA.out HN5.out (HT.out.fr (hx18.trans gr0 (by simp))).f.t).mono ?_
      rintro e yr1 ⟨rfl, hbb⟩
      have gr1 : Fr [] x18 yr1 := gr0.below hbb gr0.size
      clear hbb
      have hSr1 : yr1.cell? ⟨pA, 0, none⟩ = some (.int .i64 a.bits) ∧ yr1.cell? ⟨pA, 1, none⟩ = some (.int .i64 a.hashes) ∧ yr1.cell? ⟨pA, 2, none⟩ = some (.slice a1 a.words.length k1) := ⟨gr1.cell A0 (by simp), gr1.cell A1 (by simp), gr1.cell A2 (by simp)⟩
      refine hK.out _ _ (fun _ => hSr1) ?_
      clear hK K'
      try simp only [Act.put, List.setIfInBounds_toArray, List.set_cons_zero, List.set_cons_succ]
      obtain ⟨hv, ehv⟩ : ∃ q, q = hasF a serial := ⟨_, rfl⟩
      rw [← ehv]
      refine hd_one 10 (by kernel_rfl) rfl (by kernel_rfl) rfl (fun K' hK => ?_)
      go_simp
      refine (rhas36_any _ a serial yr1 ⟨_, rfl, VA.out.fr0 (hx18.trans gr1 (by simp))⟩ WA.out HN5.out).mono ?_
      rintro e yr2 ⟨rfl, hbb⟩
      have gr2 : Fr [] x18 yr2 := gr1.below hbb gr1.size
      clear hbb
      have hSr2 : yr2.cell? ⟨pA, 0, none⟩ = some (.int .i64 a.bits) ∧ yr2.cell? ⟨pA, 1, none⟩ = some (.int .i64 a.hashes) ∧ yr2.cell? ⟨pA, 2, none⟩ = some (.slice a1 a.words.length k1) := ⟨gr2.cell A0 (by simp), gr2.cell A1 (by simp), gr2.cell A2 (by simp)⟩
      refine hK.out _ _ (fun _ => hSr2) ?_
      clear hK K'
      try simp only [Act.put, List.setIfInBounds_toArray, List.set_cons_zero, List.set_cons_succ]
      rw [← ehv]
      clear ehv
      refine hd_take 11 (v := .bool true) rfl (by kernel_rfl) (by kernel_rfl) (by kernel_rfl) rfl hSr2 (fun W' hS => by go_simp) rfl ?_
      try simp only [Act.put, List.setIfInBounds_toArray, List.set_cons_zero, List.set_cons_succ]
      refine hd_take 12 (v := .bool true) rfl (by kernel_rfl) (by kernel_rfl) (by kernel_rfl) rfl hSr2 (fun W' hS => by go_simp) rfl ?_
      try simp only [Act.put, List.setIfInBounds_toArray, List.set_cons_zero, List.set_cons_succ]
      refine hd_take 13 (v := .bool true) rfl (by kernel_rfl) (by kernel_rfl) (by kernel_rfl) rfl hSr2 (fun W' hS => by go_simp) rfl ?_
      try simp only [Act.put, List.setIfInBounds_toArray, List.set_cons_zero, List.set_cons_succ]
      refine hd_take 14 (v := .agg #[.int .i64 a.bits, .int .i64 a.hashes, .slice a1 a.words.length k1]) rfl (by kernel_rfl) (by kernel_rfl) (by kernel_rfl) rfl hSr2 (fun W' hS => by obtain ⟨s0, s1, s2⟩ := hS; go_simp) rfl ?_
      refine hd_take 16 (v := .agg #[.int .i64 a.bits, .int .i64 a.hashes, .slice a1 a.words.length k1]) rfl (by kernel_rfl) (by kernel_rfl) (by kernel_rfl) rfl hSr2 (fun W' hS => by obtain ⟨s0, s1, s2⟩ := hS; go_simp) rfl ?_
      try simp only [Act.put, List.setIfInBounds_toArray, List.set_cons_zero, List.set_cons_succ]
      refine hd_one 15 (by kernel_rfl) rfl (by kernel_rfl) rfl (fun K' hK => ?_)
      go_simp
      refine (ftext_any _ a yr2 ⟨_, rfl, VA.out.fr0 (hx18.trans gr2 (by simp))⟩ WA.out (HT.out.fr (hx18.trans gr2 (by simp))).f).mono ?_
      rintro e yr3 ⟨rfl, hbb⟩
      have gr3 : Fr [] x18 yr3 := gr2.below hbb gr2.size
      clear hbb
      have hSr3 : yr3.cell? ⟨pA, 0, none⟩ = some (.int .i64 a.bits) ∧ yr3.cell? ⟨pA, 1, none⟩ = some (.int .i64 a.hashes) ∧ yr3.cell? ⟨pA, 2, none⟩ = some (.slice a1 a.words.length k1) := ⟨gr3.cell A0 (by simp), gr3.cell A1 (by simp), gr3.cell A2 (by simp)⟩
      refine hK.out _ _ (fun _ => hSr3) ?_
      clear hK K'
      try simp only [Act.put, List.setIfInBounds_toArray, List.set_cons_zero, List.set_cons_succ]
      obtain ⟨tv, etv⟩ : ∃ q, q = textF a := ⟨_, rfl⟩
      rw [← etv]
      refine hd_one 17 (by kernel_rfl) rfl (by kernel_rfl) rfl (fun K' hK => ?_)
      go_simp
      refine (rtext36_any _ a yr3 ⟨_, rfl, VA.out.fr0 (hx18.trans gr3 (by simp))⟩ WA.out).mono ?_
      rintro e yr4 ⟨rfl, hbb⟩
      have gr4 : Fr [] x18 yr4 := gr3.below hbb gr3.size
      clear hbb
      have hSr4 : yr4.cell? ⟨pA, 0, none⟩ = some (.int .i64 a.bits) ∧ yr4.cell? ⟨pA, 1, none⟩ = some (.int .i64 a.hashes) ∧ yr4.cell? ⟨pA, 2, none⟩ = some (.slice a1 a.words.length k1) := ⟨gr4.cell A0 (by simp), gr4.cell A1 (by simp), gr4.cell A2 (by simp)⟩
      refine hK.out _ _ (fun _ => hSr4) ?_
      clear hK K'
      try simp only [Act.put, List.setIfInBounds_toArray, List.set_cons_zero, List.set_cons_succ]
      rw [← etv]
      clear etv
      refine hd_take 18 (v := .bool true) rfl (by kernel_rfl) (by kernel_rfl) (by kernel_rfl) rfl hSr4 (fun W' hS => by go_simp) rfl ?_
      try simp only [Act.put, List.setIfInBounds_toArray, List.set_cons_zero, List.set_cons_succ]
      refine hd_take 19 (v := .bool true) rfl (by kernel_rfl) (by kernel_rfl) (by kernel_rfl) rfl hSr4 (fun W' hS => by go_simp) rfl ?_
      try simp only [Act.put, List.setIfInBounds_toArray, List.set_cons_zero, List.set_cons_succ]
      refine hd_take 20 (v := .bool true) rfl (by kernel_rfl) (by kernel_rfl) (by kernel_rfl) rfl hSr4 (fun W' hS => by go_simp) rfl ?_
      try simp only [Act.put, List.setIfInBounds_toArray, List.set_cons_zero, List.set_cons_succ]
      refine held_done (by kernel_rfl) ?_
      have fe := hx18.trans gr4 (by simp)
      go_wp2_with fail
      go_ret
      exact ⟨rfl, fe.toBelow (by simp)⟩
end Go.Proofs.YtffldampcbfgjaaGreatDoor
