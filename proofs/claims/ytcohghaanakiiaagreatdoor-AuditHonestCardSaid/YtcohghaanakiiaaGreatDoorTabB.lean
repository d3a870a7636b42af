/-
  A []bool that a statement hands in.
-/
import Derived.Test.YtcohghaanakiiaaGreatDoorTab
import Derived.Test.YtcohghaanakiiaaGreatDoorOwn
import Derived.Deep.Grids
namespace Go.Proofs.YtcohghaanakiiaaGreatDoor
open Go.RowKit Go.ChangeShapes Go.WideShapes Go.ChangeAt Go.ChangeMaps Go.Deep

/-- A slice of truth values. -/
def Bools (w : World) (v : Value) (l : List Bool) : Prop :=
  (v = .slice none 0 0 ∧ l = []) ∨ ∃ b off cap, v = .slice (some ⟨b, off, none⟩) l.length cap ∧ l.length ≤ cap ∧ cap ≤ 9223372036854775807 ∧ b < w.heap.size ∧
    ∀ i, i < l.length → w.cell? ⟨b, off + i, none⟩ = some (.bool (l.getD i false))
theorem Bools.fr {w w' : World} {v : Value} {l : List Bool} (h : Bools w v l) (hf : Fr [] w w') : Bools w' v l := by
  rcases h with h | ⟨b, off, cap, hv, h1, h2, h3, h4⟩
  · exact Or.inl h
  · exact Or.inr ⟨b, off, cap, hv, h1, h2, Nat.lt_of_lt_of_le h3 hf.size, fun i hi => hf.cell (h4 i hi) (by simp)⟩
theorem Bools.form {w : World} {v : Value} {l : List Bool} (h : Bools w v l) : ∃ a cap, v = .slice a l.length cap ∧ l.length ≤ 9223372036854775807 ∧ (∀ i, i < l.length → ∃ b off, a = some ⟨b, off, none⟩) := by
  rcases h with ⟨rfl, rfl⟩ | ⟨b, off, cap, hv, h1, h2, h3, h4⟩
  · exact ⟨none, 0, rfl, by simp, fun i hi => by simp at hi⟩
  · exact ⟨_, cap, hv, by omega, fun i _ => ⟨b, off, rfl⟩⟩
theorem Bools.cell {w : World} {b off n cap : Nat} {l : List Bool} (h : Bools w (.slice (some ⟨b, off, none⟩) n cap) l) (k : Nat) (hk : k < l.length) : w.cell? ⟨b, off + k, none⟩ = some (.bool (l.getD k false)) := by
  rcases h with ⟨h, _⟩ | ⟨b', off', cap', hv, _, _, _, h4⟩
  · cases h
  · cases hv; exact h4 k hk

set_option maxRecDepth 100000 in
theorem bools_of_trod {H : Type} {enc : TypeId × Value → H} {W : World} {base : Nat} {v : Value} {d : DataW H} {p : List MemPlace} (hval : Value.okWide Tryz.prog W .any base 45 v)
    (h : DataW.Trod enc Tryz.prog W 0 (fun _ => true) true 45 v d p) : ∃ l, Bools W v l := by
  obtain ⟨fuel, hf⟩ := h
  rcases open_bools Tryz.underlying45 Tryz.underlying4 (by kernel_rfl) hf with ⟨hc, _⟩ | ⟨a, len, cap, B, hc, _, hlc, _, _, hcell⟩
  · obtain ⟨a0, len0, cap0, rfl⟩ := okWide_slice Tryz.underlying45 hval
    have hc' : ([Value.slice a0 len0 cap0] : List Value) = [.slice none 0 0] := hc
    exact ⟨[], Or.inl ⟨(List.cons.inj hc').1, rfl⟩⟩
  · obtain ⟨a0, len0, cap0, rfl⟩ := okWide_slice Tryz.underlying45 hval
    have hc' : ([Value.slice a0 len0 cap0] : List Value) = [.slice (some a) len cap] := hc
    rw [(List.cons.inj hc').1] at hval ⊢
    clear hc hc' hf
    have hok := hval
    simp only [Value.okWide, Tryz.underlying45, Cell.okWide, Cell.ok] at hok
    obtain ⟨_, hcap, _, hspot, row, cells, hsh, _⟩ := hok
    obtain ⟨b, off, spot⟩ := a
    simp only at hspot
    subst hspot
    have hb : b < W.heap.size := by
      rcases Nat.lt_or_ge b W.heap.size with h | h
      · exact h
      · simp [World.shape?, Array.getElem?_eq_none h] at hsh
    refine ⟨(List.range len).map B, Or.inr ⟨b, off, cap, ?_, ?_, ?_, hb, ?_⟩⟩
    · simp
    · simpa using hlc
    · have : (IntKind.i64.max : Int) = 9223372036854775807 := by decide
      omega
    · intro i hi
      rw [List.length_map, List.length_range] at hi
      have := hcell i (by omega)
      rw [show ({ block := b, off := off } : Addr).add i = ⟨b, off + i, none⟩ by cases i <;> simp [Addr.add]] at this
      rw [this]
      simp [List.getD_eq_getElem?_getD, hi]
end Go.Proofs.YtcohghaanakiiaaGreatDoor
