/-
  From the listed tables to what the walks ask; a slice of strings, opened.
  A []api.Party that a statement hands in, as Pts.
  A []api.Entry that a statement hands in, as Pts.
  A []int that a statement hands in.
  Published records that a statement hands in.
-/
import Derived.Test.YtjddngbgbbbefaaGreatDoorDigA
import Derived.WalkKit
import Derived.ProofKit
import Derived.OpenShut
import Derived.Deep.DeepHandedRow
import Derived.Lib.LaidU8
import Derived.Test.YtjddngbgbbbefaaGreatDoorPty
import Derived.Deep.Strs
import Derived.Lib.SmallJoins
import Derived.Test.YtjddngbgbbbefaaGreatDoorPlnFl
import Derived.Deep.Slices
import Derived.Test.YtjddngbgbbbefaaGreatDoorAuE
namespace Go.Proofs.YtjddngbgbbbefaaGreatDoor
open Go.ChangeShapes Go.WideShapes Go.ChangeAt Go.RowKit

theorem tabIs_of_reads {W : World} {name : String} {k : IntKind} {zs : List Int} {g : Nat} {e : TypeId} {n : Nat} (hg : Tryz.prog.globalNamed name = some g)
    (ht : ((Tryz.prog.globals[g]?).map (·.type)).bind Tryz.prog.underlying = some (.array n e)) (hct : ((Tryz.prog.globals[g]?).map (·.type)).map Tryz.prog.cellsOf = some n)
    (he : Tryz.prog.underlying e = some (.int k)) (hce : Tryz.prog.cellsOf e = 1) (h : Lib.VarReads Tryz.prog W name (Lib.tabData k zs)) : Lib.TabIs Tryz.prog W name k zs := by
  obtain ⟨g', t, cs, fuel, p, hg', ht', hvar, hd⟩ := h
  obtain rfl := Option.some.inj (hg.symm.trans hg')
  rw [ht', Option.bind_some] at ht
  rw [ht', Option.map_some, Option.some.injEq] at hct
  unfold Lib.TabIs
  rw [hvar, ← Lib.cells_of_tab ht he hce hct hd]

theorem gHex : Tryz.prog.globalNamed "foyer/digest.hex" = some 0 := by kernel_rfl
def hexTab : List Int := (List.range 16).map fun d => (hexd d : Int)
theorem tabs_of_reads {W : World} (hh : Lib.VarReads Tryz.prog W "foyer/digest.hex" (Lib.tabData .u8 hexTab)) (hp : Lib.VarReads Tryz.prog W "internal/strconv.uint64pow10" (Lib.tabData .u64 Lib.pow10Tab)) : Tabs W := by
  have h1 : Lib.TabIs Tryz.prog W "foyer/digest.hex" .u8 hexTab := tabIs_of_reads gHex (n := 16) (by kernel_rfl) (by kernel_rfl) Tryz.underlying5 (by kernel_rfl) hh
  have h2 : Lib.TabIs Tryz.prog W "internal/strconv.uint64pow10" .u64 Lib.pow10Tab := tabIs_of_reads gPow (n := 20) (by kernel_rfl) (by kernel_rfl) Tryz.underlying122 (by kernel_rfl) hp
  have hc : ∀ d, d < 16 → W.cell? ⟨0, d, none⟩ = some (.int .u8 (hexd d : Nat)) := by
    intro d hd
    have := h1.cell gHex d (by simpa [hexTab] using hd)
    rw [this]
    simp [hexTab, hd]
  exact ⟨⟨World.block_lt_of_cell? W _ (hc 0 (by decide)), hc⟩, h2⟩

set_option maxRecDepth 100000 in
theorem strs_of_trod {H : Type} {enc : TypeId × Value → H} {W : World} {base : Nat} {v : Value} {d : DataW H} {p : List MemPlace} (hval : Value.okWide Tryz.prog W .any base 27 v)
    (h : DataW.Trod enc Tryz.prog W 0 (fun _ => true) true 27 v d p) : ∃ l, Strs W v l := by
  obtain ⟨fuel, hf⟩ := h
  rcases open_strings Tryz.underlying27 Tryz.underlying9 (by kernel_rfl) hf with ⟨hc, _⟩ | ⟨a, len, cap, ss, hc, _, hlc, _, hss, _, hcell, _⟩
  · obtain ⟨a0, len0, cap0, rfl⟩ := okWide_slice Tryz.underlying27 hval
    have hc' : ([Value.slice a0 len0 cap0] : List Value) = [.slice none 0 0] := hc
    exact ⟨[], Or.inl ⟨(List.cons.inj hc').1, rfl⟩⟩
  · obtain ⟨a0, len0, cap0, rfl⟩ := okWide_slice Tryz.underlying27 hval
    have hc' : ([Value.slice a0 len0 cap0] : List Value) = [.slice (some a) len cap] := hc
    rw [(List.cons.inj hc').1] at hval ⊢
    clear hc hc' hf
    have hok := hval
    simp only [Value.okWide, Tryz.underlying27, Cell.okWide, Cell.ok] at hok
    obtain ⟨_, hcap, _, hspot, row, cells, hsh, _⟩ := hok
    obtain ⟨b, off, spot⟩ := a
    simp only at hspot
    subst hspot
    have hb : b < W.heap.size := by
      rcases Nat.lt_or_ge b W.heap.size with h | h
      · exact h
      · simp [World.shape?, Array.getElem?_eq_none h] at hsh
    rw [if_pos rfl] at hss
    refine ⟨(ss.take len).map (·.data.toList), Or.inr ⟨b, off, cap, ?_, ?_, ?_, hb, ?_⟩⟩
    · rw [List.length_map, List.length_take, hss, Nat.min_eq_left hlc]
    · rw [List.length_map, List.length_take]; omega
    · have : (IntKind.i64.max : Int) = 9223372036854775807 := by decide
      omega
    · intro i hi
      rw [List.length_map, List.length_take] at hi
      have := hcell i (by omega)
      rw [show ({ block := b, off := off } : Addr).add i = ⟨b, off + i, none⟩ by cases i <;> simp [Addr.add]] at this
      rw [this]
      have h1 : i < ss.length := by omega
      have h2 : i < len := by omega
      simp [List.getD_eq_getElem?_getD, h1, h2]
theorem laidOutP : laidOutB Tryz.prog = true := by kernel_rfl
/-- The cells of a table of numbers, or of pairs of numbers. -/
def lits1 : DataW Unit → List Value
  | .lit (.int k z) => [.int k z]
  | _ => []
def lits2 : DataW Unit → List Value
  | .agg ds => ds.flatMap lits1
  | d => lits1 d
def lits3 : DataW Unit → List Value
  | .agg ds => ds.flatMap lits2
  | d => lits1 d
def layD (d : DataW Unit) : Obj → Obj
  | .cells _ t frozen => .cells (lits3 d).toArray t frozen
  | o => o
end Go.Proofs.YtjddngbgbbbefaaGreatDoor
namespace Go.Proofs.YtjddngbgbbbefaaGreatDoor
open Go.RowKit Go.ChangeShapes Go.WideShapes Go.ChangeAt Go.ChangeMaps Go.Deep

def bytesAt (w : World) (b o : Nat) : List UInt8 := match w.cell? ⟨b, o, none⟩ with
  | some (.string s) => s.data.toList
  | _ => []
theorem bytesAt_of {w : World} {b o : Nat} {s : ByteArray} (h : w.cell? ⟨b, o, none⟩ = some (.string s)) : w.cell? ⟨b, o, none⟩ = some (.string ⟨(bytesAt w b o).toArray⟩) := by
  unfold bytesAt
  rw [h]
theorem cells3 {w : World} {base : Nat} {a : Addr} {cs : List Value} (h : w.cells? base a 3 = some cs) : ∃ x y z, cs = [x, y, z] ∧ w.cell? (a.add 0) = some x ∧ w.cell? (a.add 1) = some y ∧ w.cell? (a.add 2) = some z := by
  unfold World.cells? at h
  split at h
  · simp only [List.range_succ, List.range_zero, List.nil_append, List.cons_append, List.mapM_cons, List.mapM_nil] at h
    cases h0 : w.cell? (a.add 0) with
    | none => simp [h0] at h
    | some x =>
      cases h1 : w.cell? (a.add 1) with
      | none => simp [h0, h1] at h
      | some y =>
        cases h2 : w.cell? (a.add 2) with
        | none => simp [h0, h1, h2] at h
        | some z =>
          simp [h0, h1, h2] at h
          exact ⟨x, y, z, h.symm, rfl, rfl, rfl⟩
  · cases h

set_option maxRecDepth 100000 in
theorem pts_of_trod {H : Type} {enc : TypeId × Value → H} {W : World} {base : Nat} {v : Value} {d : DataW H} {p : List MemPlace} (hval : Value.okWide Tryz.prog W .any base 23 v)
    (h : DataW.Trod enc Tryz.prog W 0 (fun _ => true) true 23 v d p) : ∃ l, Pts W v l := by
  obtain ⟨fuel, hf⟩ := h
  rcases DataW.trod_slice Tryz.underlying23 hf with ⟨hc, _⟩ | ⟨a, len, cap, elems, rest, n, _, hc, _, _, hlc, _, hlen, hel, _, _⟩
  · obtain ⟨a0, len0, cap0, rfl⟩ := okWide_slice Tryz.underlying23 hval
    have hc' : ([Value.slice a0 len0 cap0] : List Value) = [.slice none 0 0] := hc
    exact ⟨[], Or.inl ⟨(List.cons.inj hc').1, rfl⟩⟩
  · obtain ⟨a0, len0, cap0, rfl⟩ := okWide_slice Tryz.underlying23 hval
    have hc' : ([Value.slice a0 len0 cap0] : List Value) = [.slice (some a) len cap] := hc
    rw [(List.cons.inj hc').1] at hval ⊢
    clear hc hc' hf
    have hok := hval
    simp only [Value.okWide, Tryz.underlying23, Cell.okWide, Cell.ok] at hok
    obtain ⟨_, hcap, _, hspot, row, cells, hsh, _⟩ := hok
    obtain ⟨b, off, spot⟩ := a
    simp only at hspot
    subst hspot
    have hb : b < W.heap.size := by
      rcases Nat.lt_or_ge b W.heap.size with h | h
      · exact h
      · simp [World.shape?, Array.getElem?_eq_none h] at hsh
    have hadd : ∀ k j, ((⟨b, off, none⟩ : Addr).add k).add j = ⟨b, off + k + j, none⟩ := fun k j => by cases k <;> cases j <;> simp [Addr.add]
    have key : ∀ i, i < len → ∃ s0 s1 s2 : ByteArray, W.cell? ⟨b, off + i * 3, none⟩ = some (.string s0) ∧ W.cell? ⟨b, off + i * 3 + 1, none⟩ = some (.string s1) ∧ W.cell? ⟨b, off + i * 3 + 2, none⟩ = some (.string s2) := by
      intro i hi
      have h1 := hel i hi
      rw [List.getElem?_eq_getElem (by omega), show Tryz.prog.cellsOf 46 = 3 by kernel_rfl, Option.bind_eq_some_iff] at h1
      obtain ⟨cs, hcs, hy⟩ := h1
      obtain ⟨x, y, z, rfl, e0, e1, e2⟩ := cells3 hcs
      rw [hadd] at e0 e1 e2
      obtain ⟨y0, y1, y2, n', _, _, g0, g1, g2⟩ := trod_struct3 Tryz.underlying46 hy
      obtain ⟨s0, k0, _⟩ := DataW.trod_string Tryz.underlying9 g0
      obtain ⟨s1, k1, _⟩ := DataW.trod_string Tryz.underlying9 g1
      obtain ⟨s2, k2, _⟩ := DataW.trod_string Tryz.underlying9 g2
      rw [show Tryz.prog.cellsOf 9 = 1 by kernel_rfl] at k0 k1 k2
      simp at k0 k1 k2
      subst k0 k1 k2
      exact ⟨s0, s1, s2, e0, e1, e2⟩
    refine ⟨(List.range len).map fun i => ⟨bytesAt W b (off + i * 3), bytesAt W b (off + i * 3 + 1), bytesAt W b (off + i * 3 + 2)⟩, Or.inr ⟨b, off, cap, by simp, by simpa using hlc, ?_, hb, ?_⟩⟩
    · have : (IntKind.i64.max : Int) = 9223372036854775807 := by decide
      omega
    · intro i q hq
      have hi : i < len := by
        rcases Nat.lt_or_ge i len with h | h
        · exact h
        · rw [List.getElem?_eq_none (by simpa using h)] at hq; cases hq
      rw [List.getElem?_map, List.getElem?_range hi] at hq
      simp only [Option.map_some, Option.some.injEq] at hq
      subst hq
      obtain ⟨s0, s1, s2, h0, h1, h2⟩ := key i hi
      exact ⟨bytesAt_of h0, bytesAt_of h1, bytesAt_of h2⟩
end Go.Proofs.YtjddngbgbbbefaaGreatDoor
namespace Go.Proofs.YtjddngbgbbbefaaGreatDoor
open Go.RowKit Go.ChangeShapes Go.WideShapes Go.ChangeAt Go.ChangeMaps Go.Deep

def bytesAtE (w : World) (b o : Nat) : List UInt8 := match w.cell? ⟨b, o, none⟩ with
  | some (.string s) => s.data.toList
  | _ => []
theorem bytesAtE_of {w : World} {b o : Nat} {s : ByteArray} (h : w.cell? ⟨b, o, none⟩ = some (.string s)) : w.cell? ⟨b, o, none⟩ = some (.string ⟨(bytesAtE w b o).toArray⟩) := by
  unfold bytesAtE
  rw [h]
theorem cells3E {w : World} {base : Nat} {a : Addr} {cs : List Value} (h : w.cells? base a 3 = some cs) : ∃ x y z, cs = [x, y, z] ∧ w.cell? (a.add 0) = some x ∧ w.cell? (a.add 1) = some y ∧ w.cell? (a.add 2) = some z := by
  unfold World.cells? at h
  split at h
  · simp only [List.range_succ, List.range_zero, List.nil_append, List.cons_append, List.mapM_cons, List.mapM_nil] at h
    cases h0 : w.cell? (a.add 0) with
    | none => simp [h0] at h
    | some x =>
      cases h1 : w.cell? (a.add 1) with
      | none => simp [h0, h1] at h
      | some y =>
        cases h2 : w.cell? (a.add 2) with
        | none => simp [h0, h1, h2] at h
        | some z =>
          simp [h0, h1, h2] at h
          exact ⟨x, y, z, h.symm, rfl, rfl, rfl⟩
  · cases h

set_option maxRecDepth 100000 in
theorem ens_of_trod {H : Type} {enc : TypeId × Value → H} {W : World} {base : Nat} {v : Value} {d : DataW H} {p : List MemPlace} (hval : Value.okWide Tryz.prog W .any base 22 v)
    (h : DataW.Trod enc Tryz.prog W 0 (fun _ => true) true 22 v d p) : ∃ l, Pts W v l := by
  obtain ⟨fuel, hf⟩ := h
  rcases DataW.trod_slice Tryz.underlying22 hf with ⟨hc, _⟩ | ⟨a, len, cap, elems, rest, n, _, hc, _, _, hlc, _, hlen, hel, _, _⟩
  · obtain ⟨a0, len0, cap0, rfl⟩ := okWide_slice Tryz.underlying22 hval
    have hc' : ([Value.slice a0 len0 cap0] : List Value) = [.slice none 0 0] := hc
    exact ⟨[], Or.inl ⟨(List.cons.inj hc').1, rfl⟩⟩
  · obtain ⟨a0, len0, cap0, rfl⟩ := okWide_slice Tryz.underlying22 hval
    have hc' : ([Value.slice a0 len0 cap0] : List Value) = [.slice (some a) len cap] := hc
    rw [(List.cons.inj hc').1] at hval ⊢
    clear hc hc' hf
    have hok := hval
    simp only [Value.okWide, Tryz.underlying22, Cell.okWide, Cell.ok] at hok
    obtain ⟨_, hcap, _, hspot, row, cells, hsh, _⟩ := hok
    obtain ⟨b, off, spot⟩ := a
    simp only at hspot
    subst hspot
    have hb : b < W.heap.size := by
      rcases Nat.lt_or_ge b W.heap.size with h | h
      · exact h
      · simp [World.shape?, Array.getElem?_eq_none h] at hsh
    have hadd : ∀ k j, ((⟨b, off, none⟩ : Addr).add k).add j = ⟨b, off + k + j, none⟩ := fun k j => by cases k <;> cases j <;> simp [Addr.add]
    have key : ∀ i, i < len → ∃ s0 s1 s2 : ByteArray, W.cell? ⟨b, off + i * 3, none⟩ = some (.string s0) ∧ W.cell? ⟨b, off + i * 3 + 1, none⟩ = some (.string s1) ∧ W.cell? ⟨b, off + i * 3 + 2, none⟩ = some (.string s2) := by
      intro i hi
      have h1 := hel i hi
      rw [List.getElem?_eq_getElem (by omega), show Tryz.prog.cellsOf 43 = 3 by kernel_rfl, Option.bind_eq_some_iff] at h1
      obtain ⟨cs, hcs, hy⟩ := h1
      obtain ⟨x, y, z, rfl, e0, e1, e2⟩ := cells3E hcs
      rw [hadd] at e0 e1 e2
      obtain ⟨y0, y1, y2, n', _, _, g0, g1, g2⟩ := trod_struct3 Tryz.underlying43 hy
      obtain ⟨s0, k0, _⟩ := DataW.trod_string Tryz.underlying9 g0
      obtain ⟨s1, k1, _⟩ := DataW.trod_string Tryz.underlying9 g1
      obtain ⟨s2, k2, _⟩ := DataW.trod_string Tryz.underlying9 g2
      rw [show Tryz.prog.cellsOf 9 = 1 by kernel_rfl] at k0 k1 k2
      simp at k0 k1 k2
      subst k0 k1 k2
      exact ⟨s0, s1, s2, e0, e1, e2⟩
    refine ⟨(List.range len).map fun i => ⟨bytesAtE W b (off + i * 3), bytesAtE W b (off + i * 3 + 1), bytesAtE W b (off + i * 3 + 2)⟩, Or.inr ⟨b, off, cap, by simp, by simpa using hlc, ?_, hb, ?_⟩⟩
    · have : (IntKind.i64.max : Int) = 9223372036854775807 := by decide
      omega
    · intro i q hq
      have hi : i < len := by
        rcases Nat.lt_or_ge i len with h | h
        · exact h
        · rw [List.getElem?_eq_none (by simpa using h)] at hq; cases hq
      rw [List.getElem?_map, List.getElem?_range hi] at hq
      simp only [Option.map_some, Option.some.injEq] at hq
      subst hq
      obtain ⟨s0, s1, s2, h0, h1, h2⟩ := key i hi
      exact ⟨bytesAtE_of h0, bytesAtE_of h1, bytesAtE_of h2⟩
theorem str_mk (s : ByteArray) : (Value.string s) = .string ⟨s.data.toList.toArray⟩ := by cases s; simp
set_option maxRecDepth 100000 in
theorem ent_of_trod {H : Type} {enc : TypeId × Value → H} {W : World} {base : Nat} {v : Value} {d : DataW H} {p : List MemPlace} (hval : Value.okWide Tryz.prog W .any base 43 v)
    (h : DataW.Trod enc Tryz.prog W 0 (fun _ => true) true 43 v d p) : ∃ e : Pty, v = ptyV e := by
  obtain ⟨v0, v1, v2, y0, y1, y2, n, rfl, _, _, g0, g1, g2⟩ := Go.Joins.open_agg3 Tryz.underlying43 (by kernel_rfl) (by kernel_rfl) hval h
  obtain ⟨s0, k0, _⟩ := DataW.trod_string Tryz.underlying9 g0
  obtain ⟨s1, k1, _⟩ := DataW.trod_string Tryz.underlying9 g1
  obtain ⟨s2, k2, _⟩ := DataW.trod_string Tryz.underlying9 g2
  obtain rfl := (List.cons.inj k0).1
  obtain rfl := (List.cons.inj k1).1
  obtain rfl := (List.cons.inj k2).1
  exact ⟨⟨s0.data.toList, s1.data.toList, s2.data.toList⟩, by unfold ptyV; rw [str_mk s0, str_mk s1, str_mk s2]⟩
end Go.Proofs.YtjddngbgbbbefaaGreatDoor
namespace Go.Proofs.YtjddngbgbbbefaaGreatDoor
open Go.RowKit Go.ChangeShapes Go.WideShapes Go.ChangeAt Go.ChangeMaps Go.Deep
set_option maxRecDepth 100000

theorem has_block {W : World} {P : Program} {r : Reach} {base b n : Nat} {off : Nat} {e : TypeId} (h : W.has P r base ⟨b, off, none⟩ e n) : b < W.heap.size := by
  obtain ⟨_, _, row, cells, hsh, _⟩ := h
  rcases Nat.lt_or_ge b W.heap.size with h | h
  · exact h
  · simp [World.shape?, Array.getElem?_eq_none h] at hsh

theorem zs_of_ok {H : Type} {enc : TypeId × Value → H} {W : World} {base fuel : Nat} {u : Value} {x : DataW H × List MemPlace} (hok : Cell.ok Tryz.prog W .any base 24 u)
    (hf : DataW.trod enc Tryz.prog W 0 (fun _ => true) true fuel 24 [u] = some x) : ∃ l, Zs W u l ∧ ∀ z ∈ l, -9223372036854775808 ≤ z ∧ z < 9223372036854775808 := by
  rcases open_ints Tryz.underlying24 Tryz.underlying3 (by kernel_rfl) hf with ⟨hc, _⟩ | ⟨a, len, cap, zs, hc, _, hlc, hcm, hss, _, hcell, hwf⟩
  · exact ⟨[], Or.inl ⟨rfl, none, (List.cons.inj hc).1⟩, fun z hz => by cases hz⟩
  · obtain rfl := (List.cons.inj hc).1
    rw [if_pos rfl] at hss
    simp only [Cell.ok, Tryz.underlying24] at hok
    obtain ⟨_, _, hhas⟩ := hok
    obtain ⟨b, off, spot⟩ := a
    have hsp : spot = none := hhas.2.1
    subst hsp
    refine ⟨zs.take len, Or.inr ⟨b, off, cap, ?_, ?_, ?_, has_block hhas, ?_⟩, fun z hz => ?_⟩
    · rw [List.length_take, hss, Nat.min_eq_left hlc]
    · rw [List.length_take]; omega
    · unfold maxLen at hcm; omega
    · intro i hi
      rw [List.length_take] at hi
      have := hcell i (by omega)
      rw [show ({ block := b, off := off } : Addr).add i = ⟨b, off + i, none⟩ by cases i <;> simp [Addr.add]] at this
      rw [this]
      have h1 : i < zs.length := by omega
      have h2 : i < len := by omega
      simp [List.getD_eq_getElem?_getD, h1, h2]
    · have := hwf z (List.mem_of_mem_take hz)
      simp [Lit.wf, IntKind.min, IntKind.max, IntKind.signed, IntKind.bits] at this
      omega

theorem zs_of_trod {H : Type} {enc : TypeId × Value → H} {W : World} {base : Nat} {v : Value} {d : DataW H} {p : List MemPlace} (hval : Value.okWide Tryz.prog W .any base 24 v)
    (h : DataW.Trod enc Tryz.prog W 0 (fun _ => true) true 24 v d p) : ∃ l, Zs W v l := by
  obtain ⟨fuel, hf⟩ := h
  obtain ⟨a0, len0, cap0, rfl⟩ := okWide_slice Tryz.underlying24 hval
  have k : Cell.ok Tryz.prog W .any base 24 (.slice a0 len0 cap0) := by
    simpa only [Value.okWide, Cell.okWide, Tryz.underlying24] using hval
  obtain ⟨l, hl, _⟩ := zs_of_ok k hf
  exact ⟨l, hl⟩

theorem zsr_of_trod {H : Type} {enc : TypeId × Value → H} {W : World} {base : Nat} {v : Value} {d : DataW H} {p : List MemPlace} (hval : Value.okWide Tryz.prog W .any base 24 v)
    (h : DataW.Trod enc Tryz.prog W 0 (fun _ => true) true 24 v d p) : ∃ l, Zs W v l ∧ ∀ z ∈ l, -9223372036854775808 ≤ z ∧ z < 9223372036854775808 := by
  obtain ⟨fuel, hf⟩ := h
  obtain ⟨a0, len0, cap0, rfl⟩ := okWide_slice Tryz.underlying24 hval
  have k : Cell.ok Tryz.prog W .any base 24 (.slice a0 len0 cap0) := by
    simpa only [Value.okWide, Cell.okWide, Tryz.underlying24] using hval
  exact zs_of_ok k hf
end Go.Proofs.YtjddngbgbbbefaaGreatDoor
namespace Go.Proofs.YtjddngbgbbbefaaGreatDoor
open Go.RowKit Go.ChangeShapes Go.WideShapes Go.ChangeAt Go.ChangeMaps Go.Deep
set_option maxRecDepth 100000

theorem array5P {α : Type} {cs : Array α} (h : cs.size = 5) : ∃ c0 c1 c2 c3 c4, cs = #[c0, c1, c2, c3, c4] := by
  obtain ⟨l⟩ := cs
  match l, h with
  | [c0, c1, c2, c3, c4], _ => exact ⟨c0, c1, c2, c3, c4, rfl⟩
theorem pblCells : Tryz.prog.cellTypes Tryz.prog.depth 26 = some [22, 9, 23, 24, 24] := by kernel_rfl
theorem pbl_of_trod {H : Type} {enc : TypeId × Value → H} {W : World} {base : Nat} {v : Value} {d : DataW H} {p : List MemPlace} (hval : Value.okWide Tryz.prog W .any base 26 v)
    (h : DataW.Trod enc Tryz.prog W 0 (fun _ => true) true 26 v d p) :
    ∃ x : Pbl, PblR W v x ∧ (∀ z ∈ x.order, inI z) ∧ ∀ z ∈ x.served, inI z := by
  have hval0 := hval
  obtain ⟨cs0, rfl, hsz⟩ := okWide_struct Tryz.underlying26 hval
  have hC : Tryz.prog.cellsOf 26 = 5 := by kernel_rfl
  obtain ⟨c0, c1, c2, c3, c4, rfl⟩ := array5P (hsz.trans hC)
  obtain ⟨fuel, hf⟩ := h
  obtain ⟨xs, n, _, _, _, hlen, h⟩ := DataW.trod_struct Tryz.underlying26 hf
  unfold Value.okWide at hval0
  rw [Tryz.underlying26] at hval0
  obtain ⟨cs, hcs, _, ts, hts, _, hall⟩ := hval0
  rw [pblCells] at hts
  cases hts
  cases hcs
  have e0 : Value.okWide Tryz.prog W .any base 22 c0 := by
    obtain ⟨u, hu, h1⟩ := hall 0 c0 rfl
    cases hu
    unfold Value.okWide
    rw [Tryz.underlying22]
    exact h1
  have e2 : Value.okWide Tryz.prog W .any base 23 c2 := by
    obtain ⟨u, hu, h1⟩ := hall 2 c2 rfl
    cases hu
    unfold Value.okWide
    rw [Tryz.underlying23]
    exact h1
  have k3 : Cell.ok Tryz.prog W .any base 24 c3 := by
    obtain ⟨u, hu, h1⟩ := hall 3 c3 rfl
    cases hu
    simpa only [Cell.okWide, Tryz.underlying24] using h1
  have k4 : Cell.ok Tryz.prog W .any base 24 c4 := by
    obtain ⟨u, hu, h1⟩ := hall 4 c4 rfl
    cases hu
    simpa only [Cell.okWide, Tryz.underlying24] using h1
  match xs, hlen with
  | [y0, y1, y2, y3, y4], _ =>
    have g0 := h 0 _ rfl
    have g1 := h 1 _ rfl
    have g2 := h 2 _ rfl
    have g3 := h 3 _ rfl
    have g4 := h 4 _ rfl
    have q1 : Tryz.prog.cellsOf 24 = 1 := by kernel_rfl
    have q2 : Tryz.prog.cellsOf 9 = 1 := by kernel_rfl
    have q3 : Tryz.prog.cellsOf 22 = 1 := by kernel_rfl
    have q4 : Tryz.prog.cellsOf 23 = 1 := by kernel_rfl
    simp [q1, q2, q3, q4] at g0 g1 g2 g3 g4
    obtain ⟨s1, e1, _⟩ := DataW.trod_string Tryz.underlying9 g1
    obtain rfl := (List.cons.inj e1).1
    obtain ⟨a0, n0, p0, rfl⟩ := okWide_slice Tryz.underlying22 e0
    obtain ⟨a2, n2, p2, rfl⟩ := okWide_slice Tryz.underlying23 e2
    obtain ⟨l0, h0⟩ := ens_of_trod e0 ⟨_, g0⟩
    obtain ⟨l2, h2⟩ := pts_of_trod e2 ⟨_, g2⟩
    obtain ⟨l3, h3, r3⟩ := zs_of_ok k3 g3
    obtain ⟨l4, h4, r4⟩ := zs_of_ok k4 g4
    exact ⟨⟨l0, s1.data.toList, l2, l3, l4⟩, ⟨_, _, _, _, by rw [str_mk s1], h0, h2, h3, h4⟩, fun z hz => by have := r3 z hz; unfold inI; omega, fun z hz => by have := r4 z hz; unfold inI; omega⟩
end Go.Proofs.YtjddngbgbbbefaaGreatDoor
