/-
  A []Op that a statement hands in.
-/
import Derived.Test.YtglgkdbhdjkeaaaGreatDoorTabZ
import Derived.Test.YtglgkdbhdjkeaaaGreatDoorTabT
import Derived.Test.YtglgkdbhdjkeaaaGreatDoorOps
namespace Go.Proofs.YtglgkdbhdjkeaaaGreatDoor
open Go.RowKit Go.ChangeShapes Go.WideShapes Go.ChangeAt Go.ChangeMaps Go.Deep
set_option maxRecDepth 100000

theorem spot_none {W : World} {a : Addr} {v : Value} (h : W.cell? (a.add 0) = some v) : a.spot = none := by simpa [Addr.add] using World.cell?_spot h
theorem zsW_of_trod {H : Type} {enc : TypeId × Value → H} {W : World} {fuel : Nat} {u : Value} {x : DataW H × List MemPlace}
    (hf : DataW.trod enc Tryz.prog W 0 (fun _ => true) true fuel 38 [u] = some x) : ∃ l, Zs W u l ∧ ∀ z ∈ l, -9223372036854775808 ≤ z ∧ z ≤ 9223372036854775807 := by
  rcases open_ints Tryz.underlying38 Tryz.underlying3 (by kernel_rfl) hf with ⟨hc, _⟩ | ⟨a, len, cap, zs, hc, _, hlc, hcm, hss, _, hcell, hwf⟩
  · exact ⟨[], Or.inl ⟨rfl, none, (List.cons.inj hc).1⟩, fun z hz => by cases hz⟩
  · obtain rfl := (List.cons.inj hc).1
    rw [if_pos rfl] at hss
    by_cases h0 : cap = 0
    · subst h0
      obtain rfl : len = 0 := by omega
      exact ⟨[], Or.inl ⟨rfl, a, rfl⟩, fun z hz => by cases hz⟩
    have h1 := hcell 0 (by omega)
    obtain ⟨b, off, spot⟩ := a
    obtain rfl : spot = none := spot_none h1
    have hb : b < W.heap.size := World.block_lt_of_cell? _ _ h1
    refine ⟨zs.take len, Or.inr ⟨b, off, cap, ?_, ?_, ?_, hb, ?_⟩, fun z hz => ?_⟩
    · rw [List.length_take, hss, Nat.min_eq_left hlc]
    · rw [List.length_take]; omega
    · unfold maxLen at hcm; omega
    · intro i hi
      rw [List.length_take] at hi
      have := hcell i (by omega)
      rw [show ({ block := b, off := off } : Addr).add i = ⟨b, off + i, none⟩ by cases i <;> simp [Addr.add]] at this
      rw [this]
      have h1 : i < zs.length := by omega
      have h2 : i < len := by omega
      simp [List.getD_eq_getElem?_getD, h1, h2]
    · have := hwf z (List.mem_of_mem_take hz)
      simp [Lit.wf, IntKind.min, IntKind.max, IntKind.signed, IntKind.bits] at this
      omega
theorem wsW_of_trod {H : Type} {enc : TypeId × Value → H} {W : World} {fuel : Nat} {u : Value} {x : DataW H × List MemPlace}
    (hf : DataW.trod enc Tryz.prog W 0 (fun _ => true) true fuel 35 [u] = some x) : ∃ l, Ws W u l ∧ W64 l := by
  rcases open_ints Tryz.underlying35 Tryz.underlying89 (by kernel_rfl) hf with ⟨hc, _⟩ | ⟨a, len, cap, zs, hc, _, hlc, hcm, hss, _, hcell, hwf⟩
  · exact ⟨[], Or.inl ⟨rfl, none, (List.cons.inj hc).1⟩, fun z hz => by cases hz⟩
  · obtain rfl := (List.cons.inj hc).1
    rw [if_pos rfl] at hss
    by_cases h0 : cap = 0
    · subst h0
      obtain rfl : len = 0 := by omega
      exact ⟨[], Or.inl ⟨rfl, a, rfl⟩, fun z hz => by cases hz⟩
    have h1 := hcell 0 (by omega)
    obtain ⟨b, off, spot⟩ := a
    obtain rfl : spot = none := spot_none h1
    have hb : b < W.heap.size := World.block_lt_of_cell? _ _ h1
    have hnn : ∀ z ∈ zs, 0 ≤ z ∧ z < 18446744073709551616 := fun z hz => by
      have := hwf z hz
      simp [Lit.wf, IntKind.min, IntKind.max, IntKind.signed, IntKind.bits] at this
      omega
    refine ⟨(zs.take len).map Int.toNat, Or.inr ⟨b, off, cap, ?_, ?_, ?_, hb, ?_⟩, fun x hx => ?_⟩
    · rw [List.length_map, List.length_take, hss, Nat.min_eq_left hlc]
    · rw [List.length_map, List.length_take]; omega
    · unfold maxLen at hcm; omega
    · intro i hi
      rw [List.length_map, List.length_take] at hi
      have := hcell i (by omega)
      rw [show ({ block := b, off := off } : Addr).add i = ⟨b, off + i, none⟩ by cases i <;> simp [Addr.add]] at this
      rw [this]
      have h1 : i < zs.length := by omega
      have h2 : i < len := by omega
      have h3 := hnn zs[i] (List.getElem_mem h1)
      simp [List.getD_eq_getElem?_getD, h1, h2]
      omega
    · obtain ⟨z, hz, rfl⟩ := List.mem_map.1 hx
      have := hnn z (List.mem_of_mem_take hz)
      omega
theorem flt_cells {H : Type} {enc : TypeId × Value → H} {W : World} {fuel : Nat} {c0 c1 c2 : Value} {x : DataW H × List MemPlace}
    (hf : DataW.trod enc Tryz.prog W 0 (fun _ => true) true fuel 37 [c0, c1, c2] = some x) : ∃ f : Flt, FltR W (.agg #[c0, c1, c2]) f ∧ W64 f.words := by
  obtain ⟨xs, n, _, _, _, hlen, h⟩ := DataW.trod_struct Tryz.underlying37 hf
  match xs, hlen with
  | [y0, y1, y2], _ =>
    have g0 := h 0 _ rfl
    have g1 := h 1 _ rfl
    have g2 := h 2 _ rfl
    have k1 : Tryz.prog.cellsOf 3 = 1 := by kernel_rfl
    have k3 : Tryz.prog.cellsOf 35 = 1 := by kernel_rfl
    simp [k1, k3] at g0 g1 g2
    obtain ⟨z0, e0, _, _⟩ := DataW.trod_int Tryz.underlying3 g0
    obtain ⟨z1, e1, _, _⟩ := DataW.trod_int Tryz.underlying3 g1
    obtain ⟨l, hl, hw⟩ := wsW_of_trod g2
    obtain rfl := (List.cons.inj e0).1
    obtain rfl := (List.cons.inj e1).1
    exact ⟨⟨z0, z1, l⟩, ⟨c2, rfl, hl⟩, hw⟩
theorem op_cells {H : Type} {enc : TypeId × Value → H} {W : World} {fuel : Nat} {c0 c1 c2 c3 c4 c5 c6 c7 c8 c9 c10 c11 : Value} {x : DataW H × List MemPlace}
    (hf : DataW.trod enc Tryz.prog W 0 (fun _ => true) true fuel 40 [c0, c1, c2, c3, c4, c5, c6, c7, c8, c9, c10, c11] = some x) :
    ∃ o : GOp, OpR W (.agg #[c0, c1, c2, c3, c4, c5, c6, c7, c8, c9, c10, c11]) o ∧ OpN o := by
  obtain ⟨xs, n, _, _, _, hlen, h⟩ := DataW.trod_struct Tryz.underlying40 hf
  match xs, hlen with
  | [y0, y1, y2, y3, y4, y5], _ =>
    have g0 := h 0 _ rfl
    have g1 := h 1 _ rfl
    have g2 := h 2 _ rfl
    have g3 := h 3 _ rfl
    have g4 := h 4 _ rfl
    have g5 := h 5 _ rfl
    have k0 : Tryz.prog.cellsOf 5 = 1 := by kernel_rfl
    have k1 : Tryz.prog.cellsOf 3 = 1 := by kernel_rfl
    have k2 : Tryz.prog.cellsOf 34 = 5 := by kernel_rfl
    have k3 : Tryz.prog.cellsOf 37 = 3 := by kernel_rfl
    have k4 : Tryz.prog.cellsOf 38 = 1 := by kernel_rfl
    simp [k0, k1, k2, k3, k4] at g0 g1 g2 g3 g4 g5
    obtain ⟨z0, e0, _, w0⟩ := DataW.trod_int Tryz.underlying5 g0
    obtain ⟨t, ⟨tv, ht, hT⟩, hTN⟩ := ttl_cells g1
    obtain ⟨z2, e2, _, w2⟩ := DataW.trod_int Tryz.underlying3 g2
    obtain ⟨f, ⟨fv, hf3, hW⟩, hWN⟩ := flt_cells g3
    obtain ⟨zl, hz, hzn⟩ := zsW_of_trod g4
    obtain ⟨z5, e5, _, w5⟩ := DataW.trod_int Tryz.underlying3 g5
    obtain rfl := (List.cons.inj e0).1
    obtain rfl := (List.cons.inj e2).1
    obtain rfl := (List.cons.inj e5).1
    simp [Lit.wf, IntKind.min, IntKind.max, IntKind.signed, IntKind.bits] at w0 w2 w5
    simp only [Value.agg.injEq, Array.mk.injEq, List.cons.injEq, and_true] at ht hf3
    obtain ⟨rfl, rfl, rfl, rfl, rfl⟩ := ht
    obtain ⟨rfl, rfl, rfl⟩ := hf3
    obtain ⟨ta, tc, rfl, _⟩ := hT.form
    obtain ⟨wa, wc, rfl, _⟩ := hW.form
    obtain ⟨sa, sc, rfl, _⟩ := hz.form
    exact ⟨⟨z0.toNat, t, z2, f, zl, z5⟩, ⟨ta, wa, sa, tc, wc, sc, by simp only [Int.toNat_of_nonneg (show (0 : Int) ≤ z0 by omega)], hT, hW, hz⟩, ⟨by show z0.toNat < 256; omega, hTN, by show isI z2; unfold isI; omega, hWN, hzn, by show isI z5; unfold isI; omega⟩⟩
theorem list12 {cs : List Value} (h : cs.length = 12) : ∃ c0 c1 c2 c3 c4 c5 c6 c7 c8 c9 c10 c11, cs = [c0, c1, c2, c3, c4, c5, c6, c7, c8, c9, c10, c11] := by
  match cs, h with
  | [c0, c1, c2, c3, c4, c5, c6, c7, c8, c9, c10, c11], _ => exact ⟨c0, c1, c2, c3, c4, c5, c6, c7, c8, c9, c10, c11, rfl⟩
theorem ops_of_trod {H : Type} {enc : TypeId × Value → H} {W : World} {base : Nat} {v : Value} {d : DataW H} {p : List MemPlace} (hval : Value.okWide Tryz.prog W .any base 22 v)
    (h : DataW.Trod enc Tryz.prog W 0 (fun _ => true) true 22 v d p) : ∃ l, Ops W v l ∧ ∀ o ∈ l, OpN o := by
  obtain ⟨fuel, hf⟩ := h
  rcases DataW.trod_slice Tryz.underlying22 hf with ⟨hc, _⟩ | ⟨a, len, cap, elems, rest, n, _, hc, _, _, hlc, _, hlen, hel, _, _⟩
  · obtain ⟨a0, len0, cap0, rfl⟩ := okWide_slice Tryz.underlying22 hval
    have hc' : ([Value.slice a0 len0 cap0] : List Value) = [.slice none 0 0] := hc
    exact ⟨[], Or.inl ⟨rfl, none, (List.cons.inj hc').1⟩, fun o ho => by cases ho⟩
  · obtain ⟨a0, len0, cap0, rfl⟩ := okWide_slice Tryz.underlying22 hval
    have hc' : ([Value.slice a0 len0 cap0] : List Value) = [.slice (some a) len cap] := hc
    rw [(List.cons.inj hc').1] at hval ⊢
    clear hc hc' hf
    have hok := hval
    simp only [Value.okWide, Tryz.underlying22, Cell.okWide, Cell.ok] at hok
    obtain ⟨_, hcap, _, hspot, row, cells, hsh, _⟩ := hok
    obtain ⟨b, off, spot⟩ := a
    simp only at hspot
    subst hspot
    have hb : b < W.heap.size := by
      rcases Nat.lt_or_ge b W.heap.size with h | h
      · exact h
      · simp [World.shape?, Array.getElem?_eq_none h] at hsh
    have hadd : ∀ k j, ((⟨b, off, none⟩ : Addr).add k).add j = ⟨b, off + k + j, none⟩ := fun k j => by cases k <;> cases j <;> simp [Addr.add]
    haveI : Inhabited GOp := ⟨⟨0, ⟨0, 0, 0, [], []⟩, 0, ⟨0, 0, []⟩, [], 0⟩⟩
    obtain ⟨R, hR⟩ := choose_lt (α := GOp) (p := fun i o => OpAt W b (off + i * 12) o ∧ OpN o) (n := len) (fun i hi => by
      have h1 := hel i hi
      rw [List.getElem?_eq_getElem (by omega), show Tryz.prog.cellsOf 40 = 12 by kernel_rfl, Option.bind_eq_some_iff] at h1
      obtain ⟨cs, hcs, hy⟩ := h1
      obtain ⟨_, hl, hcc⟩ := World.cells?_some hcs
      obtain ⟨c0, c1, c2, c3, c4, c5, c6, c7, c8, c9, c10, c11, rfl⟩ := list12 hl
      obtain ⟨o, ⟨ta, wa, sa, tc, wc, sc, hv, h5, h6, h7⟩, hN⟩ := op_cells hy
      simp only [Value.agg.injEq, Array.mk.injEq, List.cons.injEq, and_true] at hv
      obtain ⟨rfl, rfl, rfl, rfl, rfl, rfl, rfl, rfl, rfl, rfl, rfl, rfl⟩ := hv
      have q := fun j hj => (hadd (i * 12) j) ▸ hcc j hj
      exact ⟨o, ⟨ta, wa, sa, tc, wc, sc, ⟨q 0 (by decide), q 1 (by decide), q 2 (by decide), q 3 (by decide), q 4 (by decide), q 5 (by decide), q 6 (by decide), q 7 (by decide), q 8 (by decide), q 9 (by decide), q 10 (by decide), q 11 (by decide)⟩, h5, h6, h7⟩, hN⟩)
    refine ⟨(List.range len).map R, Or.inr ⟨b, off, cap, by simp, by simpa using hlc, ?_, hb, ?_⟩, fun o ho => ?_⟩
    · have : (IntKind.i64.max : Int) = 9223372036854775807 := by decide
      omega
    · intro i q hq
      have hi : i < len := by
        rcases Nat.lt_or_ge i len with h | h
        · exact h
        · rw [List.getElem?_eq_none (by simpa using h)] at hq; cases hq
      rw [List.getElem?_map, List.getElem?_range hi] at hq
      simp only [Option.map_some, Option.some.injEq] at hq
      subst hq
      exact (hR i hi).1
    · obtain ⟨i, hi, rfl⟩ := List.mem_map.1 ho
      exact (hR i (List.mem_range.1 hi)).2
end Go.Proofs.YtglgkdbhdjkeaaaGreatDoor
