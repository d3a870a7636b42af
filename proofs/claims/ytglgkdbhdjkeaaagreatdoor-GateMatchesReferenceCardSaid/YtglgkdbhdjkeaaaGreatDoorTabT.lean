/-
  A title that a statement hands in.
-/
import Derived.Test.YtglgkdbhdjkeaaaGreatDoorTab
import Derived.Test.YtglgkdbhdjkeaaaGreatDoorTtA
import Derived.Deep.Slices
import Derived.Deep.SlicePairs
import Derived.Lib.SmallJoins
namespace Go.Proofs.YtglgkdbhdjkeaaaGreatDoor
open Go.RowKit Go.ChangeShapes Go.WideShapes Go.ChangeAt Go.ChangeMaps Go.Deep
set_option maxRecDepth 100000

theorem strsW_of_trod {H : Type} {enc : TypeId × Value → H} {W : World} {fuel : Nat} {u : Value} {x : DataW H × List MemPlace}
    (hf : DataW.trod enc Tryz.prog W 0 (fun _ => true) true fuel 80 [u] = some x) : ∃ l, StrsW W u l := by
  rcases open_strings Tryz.underlying80 Tryz.underlying9 (by kernel_rfl) hf with ⟨hc, _⟩ | ⟨a, len, cap, ss, hc, _, hlc, hcm, hss, _, hcell, _⟩
  · exact ⟨[], Or.inl (Or.inl ⟨(List.cons.inj hc).1, rfl⟩)⟩
  · obtain rfl := (List.cons.inj hc).1
    rw [if_pos rfl] at hss
    by_cases h0 : cap = 0
    · subst h0
      obtain rfl : len = 0 := by omega
      exact ⟨[], Or.inr ⟨rfl, a, rfl⟩⟩
    have h1 := hcell 0 (by omega)
    obtain ⟨b, off, spot⟩ := a
    have hsp : spot = none := by
      cases spot with
      | none => rfl
      | some s =>
        simp only [World.cell?, Addr.add] at h1
        split at h1 <;> simp at h1
    subst hsp
    have hb : b < W.heap.size := World.block_lt_of_cell? _ _ h1
    refine ⟨(ss.take len).map (·.data.toList), Or.inl (Or.inr ⟨b, off, cap, ?_, ?_, ?_, hb, ?_⟩)⟩
    · rw [List.length_map, List.length_take, hss, Nat.min_eq_left hlc]
    · rw [List.length_map, List.length_take]; omega
    · unfold maxLen at hcm; omega
    · intro i hi
      rw [List.length_map, List.length_take] at hi
      have := hcell i (by omega)
      rw [show ({ block := b, off := off } : Addr).add i = ⟨b, off + i, none⟩ by cases i <;> simp [Addr.add]] at this
      rw [this]
      have h1 : i < ss.length := by omega
      have h2 : i < len := by omega
      simp [List.getD_eq_getElem?_getD, h1, h2]

theorem trs_of_trod {H : Type} {enc : TypeId × Value → H} {W : World} {fuel : Nat} {u : Value} {x : DataW H × List MemPlace}
    (hf : DataW.trod enc Tryz.prog W 0 (fun _ => true) true fuel 32 [u] = some x) : ∃ l, Trs W u l := by
  rcases open_slice_pairs Tryz.underlying32 Tryz.underlying82 (by kernel_rfl) rfl rfl (by kernel_rfl) (by kernel_rfl) hf with ⟨hc, _⟩ | ⟨a, len, cap, m, n, V0, V1, D0, D1, P0, P1, hc, _, hlc, hcm, hm, _, hx⟩
  · exact ⟨[], Or.inl ⟨rfl, none, (List.cons.inj hc).1⟩⟩
  · obtain rfl := (List.cons.inj hc).1
    rw [if_pos rfl] at hm
    subst hm
    by_cases h0 : m = 0
    · subst h0
      obtain rfl : len = 0 := by omega
      exact ⟨[], Or.inl ⟨rfl, a, rfl⟩⟩
    obtain ⟨b, off, spot⟩ := a
    have h1 := (hx 0 (by omega)).1
    have hsp : spot = none := by
      cases spot with
      | none => rfl
      | some s =>
        simp only [World.cell?, Addr.add] at h1
        split at h1 <;> simp at h1
    subst hsp
    have hb : b < W.heap.size := World.block_lt_of_cell? _ _ h1
    have hadd : ∀ k, ({ block := b, off := off } : Addr).add k = ⟨b, off + k, none⟩ := fun k => by cases k <;> simp [Addr.add]
    obtain ⟨R, hR⟩ := choose_lt (α := Trf) (p := fun i x => V0 i = .string ⟨x.nk.toArray⟩ ∧ StrsW W (V1 i) x.sig) (n := m) (fun i hi => by
      obtain ⟨_, _, g0, g1⟩ := hx i hi
      obtain ⟨s, k0, _⟩ := DataW.trod_string Tryz.underlying9 g0
      obtain ⟨l, hl⟩ := strsW_of_trod g1
      exact ⟨⟨s.data.toList, l⟩, (List.cons.inj k0).1, hl⟩)
    refine ⟨(List.range len).map R, Or.inr ⟨b, off, m, by simp, by simpa using hlc, by unfold maxLen at hcm; omega, hb, fun i x hxi => ?_⟩⟩
    have hi : i < len := by
      have := (List.getElem?_eq_some_iff.1 hxi).1
      simpa using this
    have hxe : x = R i := by
      rw [List.getElem?_map, List.getElem?_range hi] at hxi
      exact (Option.some.inj hxi).symm
    subst hxe
    obtain ⟨c0, c1, _, _⟩ := hx i (by omega)
    obtain ⟨r0, r1⟩ := hR i (by omega)
    rw [hadd] at c0 c1
    rw [r0] at c0
    exact ⟨c0, V1 i, c1, r1⟩
theorem array5 {α : Type} {cs : Array α} (h : cs.size = 5) : ∃ c0 c1 c2 c3 c4, cs = #[c0, c1, c2, c3, c4] := by
  obtain ⟨l⟩ := cs
  match l, h with
  | [c0, c1, c2, c3, c4], _ => exact ⟨c0, c1, c2, c3, c4, rfl⟩
theorem ttl_cells {H : Type} {enc : TypeId × Value → H} {W : World} {fuel : Nat} {c0 c1 c2 c3 c4 : Value} {x : DataW H × List MemPlace}
    (hf : DataW.trod enc Tryz.prog W 0 (fun _ => true) true fuel 34 [c0, c1, c2, c3, c4] = some x) : ∃ t : Ttl, TtlR W (.agg #[c0, c1, c2, c3, c4]) t ∧ TNum t := by
  obtain ⟨xs, n, _, _, _, hlen, h⟩ := DataW.trod_struct Tryz.underlying34 hf
  match xs, hlen with
  | [y0, y1, y2, y3, y4], _ =>
    have g0 := h 0 _ rfl
    have g1 := h 1 _ rfl
    have g2 := h 2 _ rfl
    have g3 := h 3 _ rfl
    have g4 := h 4 _ rfl
    have k1 : Tryz.prog.cellsOf 3 = 1 := by kernel_rfl
    have k2 : Tryz.prog.cellsOf 9 = 1 := by kernel_rfl
    have k3 : Tryz.prog.cellsOf 32 = 1 := by kernel_rfl
    simp [k1, k2, k3] at g0 g1 g2 g3 g4
    obtain ⟨z0, e0, _, w0⟩ := DataW.trod_int Tryz.underlying3 g0
    obtain ⟨z1, e1, _, w1⟩ := DataW.trod_int Tryz.underlying3 g1
    obtain ⟨z2, e2, _, w2⟩ := DataW.trod_int Tryz.underlying3 g2
    obtain ⟨s3, e3, _⟩ := DataW.trod_string Tryz.underlying9 g3
    obtain ⟨l, hl⟩ := trs_of_trod g4
    obtain rfl := (List.cons.inj e0).1
    obtain rfl := (List.cons.inj e1).1
    obtain rfl := (List.cons.inj e2).1
    obtain rfl := (List.cons.inj e3).1
    simp [Lit.wf, IntKind.min, IntKind.max, IntKind.signed, IntKind.bits] at w0 w1 w2
    exact ⟨⟨z0, z1, z2, s3.data.toList, l⟩, ⟨c4, rfl, hl⟩, ⟨by show _ ≤ z0 ∧ z0 ≤ _; omega, by show _ ≤ z1 ∧ z1 ≤ _; omega, by show _ ≤ z2 ∧ z2 ≤ _; omega⟩⟩
theorem ttl_of_trod {H : Type} {enc : TypeId × Value → H} {W : World} {base : Nat} {v : Value} {d : DataW H} {p : List MemPlace} (hval : Value.okWide Tryz.prog W .any base 34 v)
    (h : DataW.Trod enc Tryz.prog W 0 (fun _ => true) true 34 v d p) : ∃ t : Ttl, TtlR W v t ∧ TNum t := by
  obtain ⟨cs, rfl, hsz⟩ := okWide_struct Tryz.underlying34 hval
  have hC : Tryz.prog.cellsOf 34 = 5 := by kernel_rfl
  obtain ⟨c0, c1, c2, c3, c4, rfl⟩ := array5 (hsz.trans hC)
  obtain ⟨fuel, hf⟩ := h
  exact ttl_cells hf
end Go.Proofs.YtglgkdbhdjkeaaaGreatDoor
