/-
  A []api.Party that a statement hands in, as Pts.
  A []api.Entry that a statement hands in, as Pts.
-/
import Derived.Test.YtcohghaanakiiaaGreatDoorTab
import Derived.Test.YtcohghaanakiiaaGreatDoorPty
import Derived.Deep.Strs
import Derived.Lib.SmallJoins
namespace Go.Proofs.YtcohghaanakiiaaGreatDoor
open Go.RowKit Go.ChangeShapes Go.WideShapes Go.ChangeAt Go.ChangeMaps Go.Deep

def bytesAt (w : World) (b o : Nat) : List UInt8 := match w.cell? ⟨b, o, none⟩ with
  | some (.string s) => s.data.toList
  | _ => []
theorem bytesAt_of {w : World} {b o : Nat} {s : ByteArray} (h : w.cell? ⟨b, o, none⟩ = some (.string s)) : w.cell? ⟨b, o, none⟩ = some (.string ⟨(bytesAt w b o).toArray⟩) := by
  unfold bytesAt
  rw [h]
theorem cells3 {w : World} {base : Nat} {a : Addr} {cs : List Value} (h : w.cells? base a 3 = some cs) : ∃ x y z, cs = [x, y, z] ∧ w.cell? (a.add 0) = some x ∧ w.cell? (a.add 1) = some y ∧ w.cell? (a.add 2) = some z := by
  unfold World.cells? at h
  split at h
  · simp only [List.range_succ, List.range_zero, List.nil_append, List.cons_append, List.mapM_cons, List.mapM_nil] at h
    cases h0 : w.cell? (a.add 0) with
    | none => simp [h0] at h
    | some x =>
      cases h1 : w.cell? (a.add 1) with
      | none => simp [h0, h1] at h
      | some y =>
        cases h2 : w.cell? (a.add 2) with
        | none => simp [h0, h1, h2] at h
        | some z =>
          simp [h0, h1, h2] at h
          exact ⟨x, y, z, h.symm, rfl, rfl, rfl⟩
  · cases h

set_option maxRecDepth 100000 in
theorem pts_of_trod {H : Type} {enc : TypeId × Value → H} {W : World} {base : Nat} {v : Value} {d : DataW H} {p : List MemPlace} (hval : Value.okWide Tryz.prog W .any base 23 v)
    (h : DataW.Trod enc Tryz.prog W 0 (fun _ => true) true 23 v d p) : ∃ l, Pts W v l := by
  obtain ⟨fuel, hf⟩ := h
  rcases DataW.trod_slice Tryz.underlying23 hf with ⟨hc, _⟩ | ⟨a, len, cap, elems, rest, n, _, hc, _, _, hlc, _, hlen, hel, _, _⟩
  · obtain ⟨a0, len0, cap0, rfl⟩ := okWide_slice Tryz.underlying23 hval
    have hc' : ([Value.slice a0 len0 cap0] : List Value) = [.slice none 0 0] := hc
    exact ⟨[], Or.inl ⟨(List.cons.inj hc').1, rfl⟩⟩
  · obtain ⟨a0, len0, cap0, rfl⟩ := okWide_slice Tryz.underlying23 hval
    have hc' : ([Value.slice a0 len0 cap0] : List Value) = [.slice (some a) len cap] := hc
    rw [(List.cons.inj hc').1] at hval ⊢
    clear hc hc' hf
    have hok := hval
    simp only [Value.okWide, Tryz.underlying23, Cell.okWide, Cell.ok] at hok
    obtain ⟨_, hcap, _, hspot, row, cells, hsh, _⟩ := hok
    obtain ⟨b, off, spot⟩ := a
    simp only at hspot
    subst hspot
    have hb : b < W.heap.size := by
      rcases Nat.lt_or_ge b W.heap.size with h | h
      · exact h
      · simp [World.shape?, Array.getElem?_eq_none h] at hsh
    have hadd : ∀ k j, ((⟨b, off, none⟩ : Addr).add k).add j = ⟨b, off + k + j, none⟩ := fun k j => by cases k <;> cases j <;> simp [Addr.add]
    have key : ∀ i, i < len → ∃ s0 s1 s2 : ByteArray, W.cell? ⟨b, off + i * 3, none⟩ = some (.string s0) ∧ W.cell? ⟨b, off + i * 3 + 1, none⟩ = some (.string s1) ∧ W.cell? ⟨b, off + i * 3 + 2, none⟩ = some (.string s2) := by
      intro i hi
      have h1 := hel i hi
      rw [List.getElem?_eq_getElem (by omega), show Tryz.prog.cellsOf 58 = 3 by kernel_rfl, Option.bind_eq_some_iff] at h1
      obtain ⟨cs, hcs, hy⟩ := h1
      obtain ⟨x, y, z, rfl, e0, e1, e2⟩ := cells3 hcs
      rw [hadd] at e0 e1 e2
      obtain ⟨y0, y1, y2, n', _, _, g0, g1, g2⟩ := trod_struct3 Tryz.underlying58 hy
      obtain ⟨s0, k0, _⟩ := DataW.trod_string Tryz.underlying9 g0
      obtain ⟨s1, k1, _⟩ := DataW.trod_string Tryz.underlying9 g1
      obtain ⟨s2, k2, _⟩ := DataW.trod_string Tryz.underlying9 g2
      rw [show Tryz.prog.cellsOf 9 = 1 by kernel_rfl] at k0 k1 k2
      simp at k0 k1 k2
      subst k0 k1 k2
      exact ⟨s0, s1, s2, e0, e1, e2⟩
    refine ⟨(List.range len).map fun i => ⟨bytesAt W b (off + i * 3), bytesAt W b (off + i * 3 + 1), bytesAt W b (off + i * 3 + 2)⟩, Or.inr ⟨b, off, cap, by simp, by simpa using hlc, ?_, hb, ?_⟩⟩
    · have : (IntKind.i64.max : Int) = 9223372036854775807 := by decide
      omega
    · intro i q hq
      have hi : i < len := by
        rcases Nat.lt_or_ge i len with h | h
        · exact h
        · rw [List.getElem?_eq_none (by simpa using h)] at hq; cases hq
      rw [List.getElem?_map, List.getElem?_range hi] at hq
      simp only [Option.map_some, Option.some.injEq] at hq
      subst hq
      obtain ⟨s0, s1, s2, h0, h1, h2⟩ := key i hi
      exact ⟨bytesAt_of h0, bytesAt_of h1, bytesAt_of h2⟩
end Go.Proofs.YtcohghaanakiiaaGreatDoor
namespace Go.Proofs.YtcohghaanakiiaaGreatDoor
open Go.RowKit Go.ChangeShapes Go.WideShapes Go.ChangeAt Go.ChangeMaps Go.Deep

def bytesAtE (w : World) (b o : Nat) : List UInt8 := match w.cell? ⟨b, o, none⟩ with
  | some (.string s) => s.data.toList
  | _ => []
theorem bytesAtE_of {w : World} {b o : Nat} {s : ByteArray} (h : w.cell? ⟨b, o, none⟩ = some (.string s)) : w.cell? ⟨b, o, none⟩ = some (.string ⟨(bytesAtE w b o).toArray⟩) := by
  unfold bytesAtE
  rw [h]
theorem cells3E {w : World} {base : Nat} {a : Addr} {cs : List Value} (h : w.cells? base a 3 = some cs) : ∃ x y z, cs = [x, y, z] ∧ w.cell? (a.add 0) = some x ∧ w.cell? (a.add 1) = some y ∧ w.cell? (a.add 2) = some z := by
  unfold World.cells? at h
  split at h
  · simp only [List.range_succ, List.range_zero, List.nil_append, List.cons_append, List.mapM_cons, List.mapM_nil] at h
    cases h0 : w.cell? (a.add 0) with
    | none => simp [h0] at h
    | some x =>
      cases h1 : w.cell? (a.add 1) with
      | none => simp [h0, h1] at h
      | some y =>
        cases h2 : w.cell? (a.add 2) with
        | none => simp [h0, h1, h2] at h
        | some z =>
          simp [h0, h1, h2] at h
          exact ⟨x, y, z, h.symm, rfl, rfl, rfl⟩
  · cases h

set_option maxRecDepth 100000 in
theorem ens_of_trod {H : Type} {enc : TypeId × Value → H} {W : World} {base : Nat} {v : Value} {d : DataW H} {p : List MemPlace} (hval : Value.okWide Tryz.prog W .any base 22 v)
    (h : DataW.Trod enc Tryz.prog W 0 (fun _ => true) true 22 v d p) : ∃ l, Pts W v l := by
  obtain ⟨fuel, hf⟩ := h
  rcases DataW.trod_slice Tryz.underlying22 hf with ⟨hc, _⟩ | ⟨a, len, cap, elems, rest, n, _, hc, _, _, hlc, _, hlen, hel, _, _⟩
  · obtain ⟨a0, len0, cap0, rfl⟩ := okWide_slice Tryz.underlying22 hval
    have hc' : ([Value.slice a0 len0 cap0] : List Value) = [.slice none 0 0] := hc
    exact ⟨[], Or.inl ⟨(List.cons.inj hc').1, rfl⟩⟩
  · obtain ⟨a0, len0, cap0, rfl⟩ := okWide_slice Tryz.underlying22 hval
    have hc' : ([Value.slice a0 len0 cap0] : List Value) = [.slice (some a) len cap] := hc
    rw [(List.cons.inj hc').1] at hval ⊢
    clear hc hc' hf
    have hok := hval
    simp only [Value.okWide, Tryz.underlying22, Cell.okWide, Cell.ok] at hok
    obtain ⟨_, hcap, _, hspot, row, cells, hsh, _⟩ := hok
    obtain ⟨b, off, spot⟩ := a
    simp only at hspot
    subst hspot
    have hb : b < W.heap.size := by
      rcases Nat.lt_or_ge b W.heap.size with h | h
      · exact h
      · simp [World.shape?, Array.getElem?_eq_none h] at hsh
    have hadd : ∀ k j, ((⟨b, off, none⟩ : Addr).add k).add j = ⟨b, off + k + j, none⟩ := fun k j => by cases k <;> cases j <;> simp [Addr.add]
    have key : ∀ i, i < len → ∃ s0 s1 s2 : ByteArray, W.cell? ⟨b, off + i * 3, none⟩ = some (.string s0) ∧ W.cell? ⟨b, off + i * 3 + 1, none⟩ = some (.string s1) ∧ W.cell? ⟨b, off + i * 3 + 2, none⟩ = some (.string s2) := by
      intro i hi
      have h1 := hel i hi
      rw [List.getElem?_eq_getElem (by omega), show Tryz.prog.cellsOf 43 = 3 by kernel_rfl, Option.bind_eq_some_iff] at h1
      obtain ⟨cs, hcs, hy⟩ := h1
      obtain ⟨x, y, z, rfl, e0, e1, e2⟩ := cells3E hcs
      rw [hadd] at e0 e1 e2
      obtain ⟨y0, y1, y2, n', _, _, g0, g1, g2⟩ := trod_struct3 Tryz.underlying43 hy
      obtain ⟨s0, k0, _⟩ := DataW.trod_string Tryz.underlying9 g0
      obtain ⟨s1, k1, _⟩ := DataW.trod_string Tryz.underlying9 g1
      obtain ⟨s2, k2, _⟩ := DataW.trod_string Tryz.underlying9 g2
      rw [show Tryz.prog.cellsOf 9 = 1 by kernel_rfl] at k0 k1 k2
      simp at k0 k1 k2
      subst k0 k1 k2
      exact ⟨s0, s1, s2, e0, e1, e2⟩
    refine ⟨(List.range len).map fun i => ⟨bytesAtE W b (off + i * 3), bytesAtE W b (off + i * 3 + 1), bytesAtE W b (off + i * 3 + 2)⟩, Or.inr ⟨b, off, cap, by simp, by simpa using hlc, ?_, hb, ?_⟩⟩
    · have : (IntKind.i64.max : Int) = 9223372036854775807 := by decide
      omega
    · intro i q hq
      have hi : i < len := by
        rcases Nat.lt_or_ge i len with h | h
        · exact h
        · rw [List.getElem?_eq_none (by simpa using h)] at hq; cases hq
      rw [List.getElem?_map, List.getElem?_range hi] at hq
      simp only [Option.map_some, Option.some.injEq] at hq
      subst hq
      obtain ⟨s0, s1, s2, h0, h1, h2⟩ := key i hi
      exact ⟨bytesAtE_of h0, bytesAtE_of h1, bytesAtE_of h2⟩
theorem str_mk (s : ByteArray) : (Value.string s) = .string ⟨s.data.toList.toArray⟩ := by cases s; simp
set_option maxRecDepth 100000 in
theorem ent_of_trod {H : Type} {enc : TypeId × Value → H} {W : World} {base : Nat} {v : Value} {d : DataW H} {p : List MemPlace} (hval : Value.okWide Tryz.prog W .any base 43 v)
    (h : DataW.Trod enc Tryz.prog W 0 (fun _ => true) true 43 v d p) : ∃ e : Pty, v = ptyV e := by
  obtain ⟨v0, v1, v2, y0, y1, y2, n, rfl, _, _, g0, g1, g2⟩ := Go.Joins.open_agg3 Tryz.underlying43 (by kernel_rfl) (by kernel_rfl) hval h
  obtain ⟨s0, k0, _⟩ := DataW.trod_string Tryz.underlying9 g0
  obtain ⟨s1, k1, _⟩ := DataW.trod_string Tryz.underlying9 g1
  obtain ⟨s2, k2, _⟩ := DataW.trod_string Tryz.underlying9 g2
  obtain rfl := (List.cons.inj k0).1
  obtain rfl := (List.cons.inj k1).1
  obtain rfl := (List.cons.inj k2).1
  exact ⟨⟨s0.data.toList, s1.data.toList, s2.data.toList⟩, by unfold ptyV; rw [str_mk s0, str_mk s1, str_mk s2]⟩
end Go.Proofs.YtcohghaanakiiaaGreatDoor
