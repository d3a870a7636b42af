/-
  A []int that a statement hands in.
  A filter that a statement hands in; the tables of the chapter.
-/
import Derived.Test.YtglgkdbhdjkeaaaGreatDoorTab
import Derived.Test.YtglgkdbhdjkeaaaGreatDoorPlnFl
import Derived.Deep.Slices
import Derived.Lib.SmallJoins
import Derived.Test.YtglgkdbhdjkeaaaGreatDoorFrC
namespace Go.Proofs.YtglgkdbhdjkeaaaGreatDoor
open Go.RowKit Go.ChangeShapes Go.WideShapes Go.ChangeAt Go.ChangeMaps Go.Deep
set_option maxRecDepth 100000

theorem has_block {W : World} {P : Program} {r : Reach} {base b n : Nat} {off : Nat} {e : TypeId} (h : W.has P r base ⟨b, off, none⟩ e n) : b < W.heap.size := by
  obtain ⟨_, _, row, cells, hsh, _⟩ := h
  rcases Nat.lt_or_ge b W.heap.size with h | h
  · exact h
  · simp [World.shape?, Array.getElem?_eq_none h] at hsh

theorem zs_of_ok {H : Type} {enc : TypeId × Value → H} {W : World} {base fuel : Nat} {u : Value} {x : DataW H × List MemPlace} (hok : Cell.ok Tryz.prog W .any base 38 u)
    (hf : DataW.trod enc Tryz.prog W 0 (fun _ => true) true fuel 38 [u] = some x) : ∃ l, Zs W u l ∧ ∀ z ∈ l, -9223372036854775808 ≤ z ∧ z < 9223372036854775808 := by
  rcases open_ints Tryz.underlying38 Tryz.underlying3 (by kernel_rfl) hf with ⟨hc, _⟩ | ⟨a, len, cap, zs, hc, _, hlc, hcm, hss, _, hcell, hwf⟩
  · exact ⟨[], Or.inl ⟨rfl, none, (List.cons.inj hc).1⟩, fun z hz => by cases hz⟩
  · obtain rfl := (List.cons.inj hc).1
    rw [if_pos rfl] at hss
    simp only [Cell.ok, Tryz.underlying38] at hok
    obtain ⟨_, _, hhas⟩ := hok
    obtain ⟨b, off, spot⟩ := a
    have hsp : spot = none := hhas.2.1
    subst hsp
    refine ⟨zs.take len, Or.inr ⟨b, off, cap, ?_, ?_, ?_, has_block hhas, ?_⟩, fun z hz => ?_⟩
    · rw [List.length_take, hss, Nat.min_eq_left hlc]
    · rw [List.length_take]; omega
    · unfold maxLen at hcm; omega
    · intro i hi
      rw [List.length_take] at hi
      have := hcell i (by omega)
      rw [show ({ block := b, off := off } : Addr).add i = ⟨b, off + i, none⟩ by cases i <;> simp [Addr.add]] at this
      rw [this]
      have h1 : i < zs.length := by omega
      have h2 : i < len := by omega
      simp [List.getD_eq_getElem?_getD, h1, h2]
    · have := hwf z (List.mem_of_mem_take hz)
      simp [Lit.wf, IntKind.min, IntKind.max, IntKind.signed, IntKind.bits] at this
      omega

theorem zs_of_trod {H : Type} {enc : TypeId × Value → H} {W : World} {base : Nat} {v : Value} {d : DataW H} {p : List MemPlace} (hval : Value.okWide Tryz.prog W .any base 38 v)
    (h : DataW.Trod enc Tryz.prog W 0 (fun _ => true) true 38 v d p) : ∃ l, Zs W v l := by
  obtain ⟨fuel, hf⟩ := h
  obtain ⟨a0, len0, cap0, rfl⟩ := okWide_slice Tryz.underlying38 hval
  have k : Cell.ok Tryz.prog W .any base 38 (.slice a0 len0 cap0) := by
    simpa only [Value.okWide, Cell.okWide, Tryz.underlying38] using hval
  obtain ⟨l, hl, _⟩ := zs_of_ok k hf
  exact ⟨l, hl⟩

end Go.Proofs.YtglgkdbhdjkeaaaGreatDoor
namespace Go.Proofs.YtglgkdbhdjkeaaaGreatDoor
open Go.RowKit Go.ChangeShapes Go.WideShapes Go.ChangeAt Go.ChangeMaps Go.Deep
set_option maxRecDepth 100000

theorem gTz : Tryz.prog.globalNamed "math/bits.deBruijn64tab" = some 8 := by kernel_rfl
def tzTab : List Int := [0, 1, 56, 2, 57, 49, 28, 3, 61, 58, 42, 50, 38, 29, 17, 4, 62, 47, 59, 36, 45, 43, 51, 22, 53, 39, 33, 30, 24, 18, 12, 5, 63, 55, 48, 27, 60, 41, 37, 16, 46, 35, 44, 21, 52, 32, 23, 11, 54, 26, 40, 15, 34, 20, 31, 10, 25, 14, 19, 9, 13, 8, 7, 6]
theorem tabsF_of {w : World} (hT : Tabs w) (h : w.ShapedOpen Tryz.prog) (hz : Lib.VarReads Tryz.prog w "math/bits.deBruijn64tab" (Lib.tabData .u8 tzTab)) : TabsF w := by
  have h1 : Lib.TabIs Tryz.prog w "math/bits.deBruijn64tab" .u8 tzTab := tabIs_of_reads gTz (n := 64) (by kernel_rfl) (by kernel_rfl) Tryz.underlying5 (by kernel_rfl) hz
  exact ⟨hT, Go.Proofs.cell_of_shapedOpen_int (zero := #[.int .i64 0]) (t := 3) h (of_decide_eq_true (by kernel_rfl)) (by kernel_rfl) rfl (by kernel_rfl) (by kernel_rfl) Tryz.underlying3, h1.cell gTz 15 (by decide)⟩
theorem zsr_of_trod {H : Type} {enc : TypeId × Value → H} {W : World} {base : Nat} {v : Value} {d : DataW H} {p : List MemPlace} (hval : Value.okWide Tryz.prog W .any base 38 v)
    (h : DataW.Trod enc Tryz.prog W 0 (fun _ => true) true 38 v d p) : ∃ l, Zs W v l ∧ ∀ z ∈ l, -9223372036854775808 ≤ z ∧ z < 9223372036854775808 := by
  obtain ⟨fuel, hf⟩ := h
  obtain ⟨a0, len0, cap0, rfl⟩ := okWide_slice Tryz.underlying38 hval
  have k : Cell.ok Tryz.prog W .any base 38 (.slice a0 len0 cap0) := by
    simpa only [Value.okWide, Cell.okWide, Tryz.underlying38] using hval
  exact zs_of_ok k hf
theorem ws_of_ok {H : Type} {enc : TypeId × Value → H} {W : World} {base fuel : Nat} {u : Value} {x : DataW H × List MemPlace} (hok : Cell.ok Tryz.prog W .any base 35 u)
    (hf : DataW.trod enc Tryz.prog W 0 (fun _ => true) true fuel 35 [u] = some x) : ∃ l, Ws W u l ∧ W64 l := by
  rcases open_ints Tryz.underlying35 Tryz.underlying89 (by kernel_rfl) hf with ⟨hc, _⟩ | ⟨a, len, cap, zs, hc, _, hlc, hcm, hss, _, hcell, hwf⟩
  · exact ⟨[], Or.inl ⟨rfl, none, (List.cons.inj hc).1⟩, fun z hz => by cases hz⟩
  · obtain rfl := (List.cons.inj hc).1
    rw [if_pos rfl] at hss
    simp only [Cell.ok, Tryz.underlying35] at hok
    obtain ⟨_, _, hhas⟩ := hok
    obtain ⟨b, off, spot⟩ := a
    have hsp : spot = none := hhas.2.1
    subst hsp
    have hnn : ∀ z ∈ zs, 0 ≤ z ∧ z < 18446744073709551616 := fun z hz => by
      have := hwf z hz
      simp [Lit.wf, IntKind.min, IntKind.max, IntKind.signed, IntKind.bits] at this
      omega
    refine ⟨(zs.take len).map Int.toNat, Or.inr ⟨b, off, cap, ?_, ?_, ?_, has_block hhas, ?_⟩, fun x hx => ?_⟩
    · rw [List.length_map, List.length_take, hss, Nat.min_eq_left hlc]
    · rw [List.length_map, List.length_take]; omega
    · unfold maxLen at hcm; omega
    · intro i hi
      rw [List.length_map, List.length_take] at hi
      have := hcell i (by omega)
      rw [show ({ block := b, off := off } : Addr).add i = ⟨b, off + i, none⟩ by cases i <;> simp [Addr.add]] at this
      rw [this]
      have h1 : i < zs.length := by omega
      have h2 : i < len := by omega
      have h3 := hnn zs[i] (List.getElem_mem h1)
      simp [List.getD_eq_getElem?_getD, h1, h2]
      omega
    · obtain ⟨z, hz, rfl⟩ := List.mem_map.1 hx
      have := hnn z (List.mem_of_mem_take hz)
      omega

theorem fltCells : Tryz.prog.cellTypes Tryz.prog.depth 37 = some [3, 3, 35] := by kernel_rfl
theorem flt_of_trod {H : Type} {enc : TypeId × Value → H} {W : World} {base : Nat} {v : Value} {d : DataW H} {p : List MemPlace} (hval : Value.okWide Tryz.prog W .any base 37 v)
    (h : DataW.Trod enc Tryz.prog W 0 (fun _ => true) true 37 v d p) : ∃ f : Flt, FltR W v f ∧ W64 f.words := by
  have hval0 := hval
  obtain ⟨v0, v1, v2, y0, y1, y2, n, rfl, _, _, g0, g1, g2⟩ := Go.Joins.open_agg3 Tryz.underlying37 (by kernel_rfl) (by kernel_rfl) hval h
  unfold Value.okWide at hval0
  rw [Tryz.underlying37] at hval0
  obtain ⟨cs, hcs, _, ts, hts, _, hall⟩ := hval0
  rw [fltCells] at hts
  cases hts
  cases hcs
  have k2 : Cell.ok Tryz.prog W .any base 35 v2 := by
    obtain ⟨u, hu, h1⟩ := hall 2 v2 rfl
    cases hu
    simpa only [Cell.okWide, Tryz.underlying35] using h1
  obtain ⟨z, k0, _, _⟩ := DataW.trod_int Tryz.underlying3 g0
  obtain rfl := (List.cons.inj k0).1
  obtain ⟨z', k1, _, _⟩ := DataW.trod_int Tryz.underlying3 g1
  obtain rfl := (List.cons.inj k1).1
  obtain ⟨lw, hw, hwr⟩ := ws_of_ok k2 g2
  exact ⟨⟨z, z', lw⟩, ⟨_, rfl, hw⟩, hwr⟩
end Go.Proofs.YtglgkdbhdjkeaaaGreatDoor
