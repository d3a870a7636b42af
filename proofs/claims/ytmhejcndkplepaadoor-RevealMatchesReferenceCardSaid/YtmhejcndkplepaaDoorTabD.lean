/-
  A disclosure that a statement hands in.
-/
import Derived.Test.YtmhejcndkplepaaDoorTab
import Derived.Test.YtmhejcndkplepaaDoorRvW
import Derived.Deep.Slices
import Derived.Lib.SmallJoins
namespace Go.Proofs.YtmhejcndkplepaaDoor
open Go.RowKit Go.ChangeShapes Go.WideShapes Go.ChangeAt Go.ChangeMaps Go.Deep
set_option maxRecDepth 100000

theorem has_block {W : World} {P : Program} {r : Reach} {base b n : Nat} {off : Nat} {e : TypeId} (h : W.has P r base ⟨b, off, none⟩ e n) : b < W.heap.size := by
  obtain ⟨_, _, row, cells, hsh, _⟩ := h
  rcases Nat.lt_or_ge b W.heap.size with h | h
  · exact h
  · simp [World.shape?, Array.getElem?_eq_none h] at hsh

theorem strsW_of_trod {H : Type} {enc : TypeId × Value → H} {W : World} {fuel : Nat} {u : Value} {x : DataW H × List MemPlace}
    (hf : DataW.trod enc Tryd.prog W 0 (fun _ => true) true fuel 22 [u] = some x) : ∃ l, StrsW W u l := by
  rcases open_strings Tryd.underlying22 Tryd.underlying9 (by kernel_rfl) hf with ⟨hc, _⟩ | ⟨a, len, cap, ss, hc, _, hlc, hcm, hss, _, hcell, _⟩
  · exact ⟨[], Or.inl (Or.inl ⟨(List.cons.inj hc).1, rfl⟩)⟩
  · obtain rfl := (List.cons.inj hc).1
    rw [if_pos rfl] at hss
    by_cases h0 : cap = 0
    · subst h0
      obtain rfl : len = 0 := by omega
      exact ⟨[], Or.inr ⟨rfl, a, rfl⟩⟩
    have h1 := hcell 0 (by omega)
    obtain ⟨b, off, spot⟩ := a
    have hsp : spot = none := by
      cases spot with
      | none => rfl
      | some s =>
        simp only [World.cell?, Addr.add] at h1
        split at h1 <;> simp at h1
    subst hsp
    have hb : b < W.heap.size := World.block_lt_of_cell? _ _ h1
    refine ⟨(ss.take len).map (·.data.toList), Or.inl (Or.inr ⟨b, off, cap, ?_, ?_, ?_, hb, ?_⟩)⟩
    · rw [List.length_map, List.length_take, hss, Nat.min_eq_left hlc]
    · rw [List.length_map, List.length_take]; omega
    · unfold maxLen at hcm; omega
    · intro i hi
      rw [List.length_map, List.length_take] at hi
      have := hcell i (by omega)
      rw [show ({ block := b, off := off } : Addr).add i = ⟨b, off + i, none⟩ by cases i <;> simp [Addr.add]] at this
      rw [this]
      have h1 : i < ss.length := by omega
      have h2 : i < len := by omega
      simp [List.getD_eq_getElem?_getD, h1, h2]

theorem strs_of_ok {H : Type} {enc : TypeId × Value → H} {W : World} {base fuel : Nat} {u : Value} {x : DataW H × List MemPlace} (hok : Cell.ok Tryd.prog W .any base 22 u)
    (hf : DataW.trod enc Tryd.prog W 0 (fun _ => true) true fuel 22 [u] = some x) : ∃ l, Strs W u l := by
  obtain ⟨l, h | ⟨rfl, a, rfl⟩⟩ := strsW_of_trod hf
  · exact ⟨l, h⟩
  · cases a with
    | none => exact ⟨[], Or.inl ⟨rfl, rfl⟩⟩
    | some a =>
      simp only [Cell.ok, Tryd.underlying22] at hok
      obtain ⟨_, hcap, hhas⟩ := hok
      obtain ⟨b, off, spot⟩ := a
      have hsp : spot = none := hhas.2.1
      subst hsp
      exact ⟨[], Or.inr ⟨b, off, 0, rfl, by simp, by decide, has_block hhas, fun i hi => absurd hi (by simp)⟩⟩

theorem zs_of_ok {H : Type} {enc : TypeId × Value → H} {W : World} {base fuel : Nat} {u : Value} {x : DataW H × List MemPlace} (hok : Cell.ok Tryd.prog W .any base 23 u)
    (hf : DataW.trod enc Tryd.prog W 0 (fun _ => true) true fuel 23 [u] = some x) : ∃ l, Zs W u l ∧ ∀ z ∈ l, -9223372036854775808 ≤ z ∧ z < 9223372036854775808 := by
  rcases open_ints Tryd.underlying23 Tryd.underlying3 (by kernel_rfl) hf with ⟨hc, _⟩ | ⟨a, len, cap, zs, hc, _, hlc, hcm, hss, _, hcell, hwf⟩
  · exact ⟨[], Or.inl ⟨(List.cons.inj hc).1, rfl⟩, fun z hz => by cases hz⟩
  · obtain rfl := (List.cons.inj hc).1
    rw [if_pos rfl] at hss
    simp only [Cell.ok, Tryd.underlying23] at hok
    obtain ⟨_, _, hhas⟩ := hok
    obtain ⟨b, off, spot⟩ := a
    have hsp : spot = none := hhas.2.1
    subst hsp
    refine ⟨zs.take len, Or.inr ⟨b, off, cap, ?_, ?_, ?_, has_block hhas, ?_⟩, fun z hz => ?_⟩
    · rw [List.length_take, hss, Nat.min_eq_left hlc]
    · rw [List.length_take]; omega
    · unfold maxLen at hcm; omega
    · intro i hi
      rw [List.length_take] at hi
      have := hcell i (by omega)
      rw [show ({ block := b, off := off } : Addr).add i = ⟨b, off + i, none⟩ by cases i <;> simp [Addr.add]] at this
      rw [this]
      have h1 : i < zs.length := by omega
      have h2 : i < len := by omega
      simp [List.getD_eq_getElem?_getD, h1, h2]
    · have := hwf z (List.mem_of_mem_take hz)
      simp [Lit.wf, IntKind.min, IntKind.max, IntKind.signed, IntKind.bits] at this
      omega

theorem zs_of_trod {H : Type} {enc : TypeId × Value → H} {W : World} {base : Nat} {v : Value} {d : DataW H} {p : List MemPlace} (hval : Value.okWide Tryd.prog W .any base 23 v)
    (h : DataW.Trod enc Tryd.prog W 0 (fun _ => true) true 23 v d p) : ∃ l, Zs W v l := by
  obtain ⟨fuel, hf⟩ := h
  obtain ⟨a0, len0, cap0, rfl⟩ := okWide_slice Tryd.underlying23 hval
  have k : Cell.ok Tryd.prog W .any base 23 (.slice a0 len0 cap0) := by
    simpa only [Value.okWide, Cell.okWide, Tryd.underlying23] using hval
  obtain ⟨l, hl, _⟩ := zs_of_ok k hf
  exact ⟨l, hl⟩

theorem ssw_of_ok {H : Type} {enc : TypeId × Value → H} {W : World} {base fuel : Nat} {u : Value} {x : DataW H × List MemPlace} (hok : Cell.ok Tryd.prog W .any base 24 u)
    (hf : DataW.trod enc Tryd.prog W 0 (fun _ => true) true fuel 24 [u] = some x) : ∃ l, SSW W u l := by
  rcases open_slice1 Tryd.underlying24 (by kernel_rfl) hf with ⟨hc, _⟩ | ⟨a, len, cap, m, n, V, D, Pl, hc, _, hlc, hcm, hm, _, hx⟩
  · exact ⟨[], Or.inl ⟨(List.cons.inj hc).1, rfl⟩⟩
  · obtain rfl := (List.cons.inj hc).1
    rw [if_pos rfl] at hm
    subst hm
    simp only [Cell.ok, Tryd.underlying24] at hok
    obtain ⟨_, _, hhas⟩ := hok
    obtain ⟨b, off, spot⟩ := a
    have hsp : spot = none := hhas.2.1
    subst hsp
    obtain ⟨R, hR⟩ := choose_lt (α := List (List UInt8)) (p := fun i l => StrsW W (V i) l) (n := m) (fun i hi => strsW_of_trod (hx i hi).2)
    refine ⟨(List.range len).map R, Or.inr ⟨b, off, m, ?_, ?_, ?_, has_block hhas, ?_⟩⟩
    · simp
    · simpa using hlc
    · unfold maxLen at hcm; omega
    · intro i hi
      rw [List.length_map, List.length_range] at hi
      have h1 := (hx i (by omega)).1
      rw [show ({ block := b, off := off } : Addr).add i = ⟨b, off + i, none⟩ by cases i <;> simp [Addr.add]] at h1
      refine ⟨_, h1, ?_⟩
      rw [show ((List.range len).map R).getD i [] = R i by simp [List.getD_eq_getElem?_getD, hi]]
      exact hR i (by omega)

theorem discCells : Tryd.prog.cellTypes Tryd.prog.depth 26 = some [3, 23, 22, 24] := by kernel_rfl
theorem disc_of_trod {H : Type} {enc : TypeId × Value → H} {W : World} {base : Nat} {v : Value} {d : DataW H} {p : List MemPlace} (hval : Value.okWide Tryd.prog W .any base 26 v)
    (h : DataW.Trod enc Tryd.prog W 0 (fun _ => true) true 26 v d p) :
    ∃ e : Disc, DiscW W v e ∧ (-9223372036854775808 ≤ e.count ∧ e.count < 9223372036854775808) ∧ ∀ z ∈ e.which, -9223372036854775808 ≤ z ∧ z < 9223372036854775808 := by
  have hval0 := hval
  obtain ⟨v0, v1, v2, v3, y0, y1, y2, y3, n, rfl, _, _, g0, g1, g2, g3⟩ := Go.Joins.open_agg4 Tryd.underlying26 (by kernel_rfl) (by kernel_rfl) hval h
  unfold Value.okWide at hval0
  rw [Tryd.underlying26] at hval0
  obtain ⟨cs, hcs, _, ts, hts, _, hall⟩ := hval0
  rw [discCells] at hts
  cases hts
  cases hcs
  have k1 : Cell.ok Tryd.prog W .any base 23 v1 := by
    obtain ⟨u, hu, h1⟩ := hall 1 v1 rfl
    cases hu
    simpa only [Cell.okWide, Tryd.underlying23] using h1
  have k2 : Cell.ok Tryd.prog W .any base 22 v2 := by
    obtain ⟨u, hu, h1⟩ := hall 2 v2 rfl
    cases hu
    simpa only [Cell.okWide, Tryd.underlying22] using h1
  have k3 : Cell.ok Tryd.prog W .any base 24 v3 := by
    obtain ⟨u, hu, h1⟩ := hall 3 v3 rfl
    cases hu
    simpa only [Cell.okWide, Tryd.underlying24] using h1
  obtain ⟨z, k0, _, hwf⟩ := DataW.trod_int Tryd.underlying3 g0
  obtain rfl := (List.cons.inj k0).1
  obtain ⟨lw, hw, hwr⟩ := zs_of_ok k1 g1
  obtain ⟨lf, hlf⟩ := strs_of_ok k2 g2
  obtain ⟨lp, hlp⟩ := ssw_of_ok k3 g3
  refine ⟨⟨z, lw, lf, lp⟩, ⟨_, _, _, rfl, hw, hlf, hlp⟩, ?_, hwr⟩
  simp [Lit.wf, IntKind.min, IntKind.max, IntKind.signed, IntKind.bits] at hwf
  show -9223372036854775808 ≤ z ∧ z < 9223372036854775808
  omega
end Go.Proofs.YtmhejcndkplepaaDoor
