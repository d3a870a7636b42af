/-
  A []int that a statement hands in.
-/
import Derived.Test.YtcohghaanakiiaaGreatDoorTab
import Derived.Test.YtcohghaanakiiaaGreatDoorPlnFl
import Derived.Deep.Slices
import Derived.Lib.SmallJoins
namespace Go.Proofs.YtcohghaanakiiaaGreatDoor
open Go.RowKit Go.ChangeShapes Go.WideShapes Go.ChangeAt Go.ChangeMaps Go.Deep
set_option maxRecDepth 100000

theorem has_block {W : World} {P : Program} {r : Reach} {base b n : Nat} {off : Nat} {e : TypeId} (h : W.has P r base ⟨b, off, none⟩ e n) : b < W.heap.size := by
  obtain ⟨_, _, row, cells, hsh, _⟩ := h
  rcases Nat.lt_or_ge b W.heap.size with h | h
  · exact h
  · simp [World.shape?, Array.getElem?_eq_none h] at hsh

theorem zs_of_ok {H : Type} {enc : TypeId × Value → H} {W : World} {base fuel : Nat} {u : Value} {x : DataW H × List MemPlace} (hok : Cell.ok Tryz.prog W .any base 24 u)
    (hf : DataW.trod enc Tryz.prog W 0 (fun _ => true) true fuel 24 [u] = some x) : ∃ l, Zs W u l ∧ ∀ z ∈ l, -9223372036854775808 ≤ z ∧ z < 9223372036854775808 := by
  rcases open_ints Tryz.underlying24 Tryz.underlying3 (by kernel_rfl) hf with ⟨hc, _⟩ | ⟨a, len, cap, zs, hc, _, hlc, hcm, hss, _, hcell, hwf⟩
  · exact ⟨[], Or.inl ⟨rfl, none, (List.cons.inj hc).1⟩, fun z hz => by cases hz⟩
  · obtain rfl := (List.cons.inj hc).1
    rw [if_pos rfl] at hss
    simp only [Cell.ok, Tryz.underlying24] at hok
    obtain ⟨_, _, hhas⟩ := hok
    obtain ⟨b, off, spot⟩ := a
    have hsp : spot = none := hhas.2.1
    subst hsp
    refine ⟨zs.take len, Or.inr ⟨b, off, cap, ?_, ?_, ?_, has_block hhas, ?_⟩, fun z hz => ?_⟩
    · rw [List.length_take, hss, Nat.min_eq_left hlc]
    · rw [List.length_take]; omega
    · unfold maxLen at hcm; omega
    · intro i hi
      rw [List.length_take] at hi
      have := hcell i (by omega)
      rw [show ({ block := b, off := off } : Addr).add i = ⟨b, off + i, none⟩ by cases i <;> simp [Addr.add]] at this
      rw [this]
      have h1 : i < zs.length := by omega
      have h2 : i < len := by omega
      simp [List.getD_eq_getElem?_getD, h1, h2]
    · have := hwf z (List.mem_of_mem_take hz)
      simp [Lit.wf, IntKind.min, IntKind.max, IntKind.signed, IntKind.bits] at this
      omega

theorem zs_of_trod {H : Type} {enc : TypeId × Value → H} {W : World} {base : Nat} {v : Value} {d : DataW H} {p : List MemPlace} (hval : Value.okWide Tryz.prog W .any base 24 v)
    (h : DataW.Trod enc Tryz.prog W 0 (fun _ => true) true 24 v d p) : ∃ l, Zs W v l := by
  obtain ⟨fuel, hf⟩ := h
  obtain ⟨a0, len0, cap0, rfl⟩ := okWide_slice Tryz.underlying24 hval
  have k : Cell.ok Tryz.prog W .any base 24 (.slice a0 len0 cap0) := by
    simpa only [Value.okWide, Cell.okWide, Tryz.underlying24] using hval
  obtain ⟨l, hl, _⟩ := zs_of_ok k hf
  exact ⟨l, hl⟩

theorem zsr_of_trod {H : Type} {enc : TypeId × Value → H} {W : World} {base : Nat} {v : Value} {d : DataW H} {p : List MemPlace} (hval : Value.okWide Tryz.prog W .any base 24 v)
    (h : DataW.Trod enc Tryz.prog W 0 (fun _ => true) true 24 v d p) : ∃ l, Zs W v l ∧ ∀ z ∈ l, -9223372036854775808 ≤ z ∧ z < 9223372036854775808 := by
  obtain ⟨fuel, hf⟩ := h
  obtain ⟨a0, len0, cap0, rfl⟩ := okWide_slice Tryz.underlying24 hval
  have k : Cell.ok Tryz.prog W .any base 24 (.slice a0 len0 cap0) := by
    simpa only [Value.okWide, Cell.okWide, Tryz.underlying24] using hval
  exact zs_of_ok k hf
end Go.Proofs.YtcohghaanakiiaaGreatDoor
