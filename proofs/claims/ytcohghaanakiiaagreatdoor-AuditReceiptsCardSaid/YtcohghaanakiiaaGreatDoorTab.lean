/-
  From the listed tables to what the walks ask; a slice of strings, opened.
-/
import Derived.Test.YtcohghaanakiiaaGreatDoorDigA
import Derived.WalkKit
import Derived.ProofKit
import Derived.OpenShut
import Derived.Deep.DeepHandedRow
import Derived.Lib.LaidU8
namespace Go.Proofs.YtcohghaanakiiaaGreatDoor
open Go.ChangeShapes Go.WideShapes Go.ChangeAt Go.RowKit

theorem tabIs_of_reads {W : World} {name : String} {k : IntKind} {zs : List Int} {g : Nat} {e : TypeId} {n : Nat} (hg : Tryz.prog.globalNamed name = some g)
    (ht : ((Tryz.prog.globals[g]?).map (·.type)).bind Tryz.prog.underlying = some (.array n e)) (hct : ((Tryz.prog.globals[g]?).map (·.type)).map Tryz.prog.cellsOf = some n)
    (he : Tryz.prog.underlying e = some (.int k)) (hce : Tryz.prog.cellsOf e = 1) (h : Lib.VarReads Tryz.prog W name (Lib.tabData k zs)) : Lib.TabIs Tryz.prog W name k zs := by
  obtain ⟨g', t, cs, fuel, p, hg', ht', hvar, hd⟩ := h
  obtain rfl := Option.some.inj (hg.symm.trans hg')
  rw [ht', Option.bind_some] at ht
  rw [ht', Option.map_some, Option.some.injEq] at hct
  unfold Lib.TabIs
  rw [hvar, ← Lib.cells_of_tab ht he hce hct hd]

theorem gHex : Tryz.prog.globalNamed "foyer/digest.hex" = some 0 := by kernel_rfl
def hexTab : List Int := (List.range 16).map fun d => (hexd d : Int)
theorem tabs_of_reads {W : World} (hh : Lib.VarReads Tryz.prog W "foyer/digest.hex" (Lib.tabData .u8 hexTab)) (hp : Lib.VarReads Tryz.prog W "internal/strconv.uint64pow10" (Lib.tabData .u64 Lib.pow10Tab)) : Tabs W := by
  have h1 : Lib.TabIs Tryz.prog W "foyer/digest.hex" .u8 hexTab := tabIs_of_reads gHex (n := 16) (by kernel_rfl) (by kernel_rfl) Tryz.underlying5 (by kernel_rfl) hh
  have h2 : Lib.TabIs Tryz.prog W "internal/strconv.uint64pow10" .u64 Lib.pow10Tab := tabIs_of_reads gPow (n := 20) (by kernel_rfl) (by kernel_rfl) Tryz.underlying129 (by kernel_rfl) hp
  have hc : ∀ d, d < 16 → W.cell? ⟨0, d, none⟩ = some (.int .u8 (hexd d : Nat)) := by
    intro d hd
    have := h1.cell gHex d (by simpa [hexTab] using hd)
    rw [this]
    simp [hexTab, hd]
  exact ⟨⟨World.block_lt_of_cell? W _ (hc 0 (by decide)), hc⟩, h2⟩

set_option maxRecDepth 100000 in
theorem strs_of_trod {H : Type} {enc : TypeId × Value → H} {W : World} {base : Nat} {v : Value} {d : DataW H} {p : List MemPlace} (hval : Value.okWide Tryz.prog W .any base 27 v)
    (h : DataW.Trod enc Tryz.prog W 0 (fun _ => true) true 27 v d p) : ∃ l, Strs W v l := by
  obtain ⟨fuel, hf⟩ := h
  rcases open_strings Tryz.underlying27 Tryz.underlying9 (by kernel_rfl) hf with ⟨hc, _⟩ | ⟨a, len, cap, ss, hc, _, hlc, _, hss, _, hcell, _⟩
  · obtain ⟨a0, len0, cap0, rfl⟩ := okWide_slice Tryz.underlying27 hval
    have hc' : ([Value.slice a0 len0 cap0] : List Value) = [.slice none 0 0] := hc
    exact ⟨[], Or.inl ⟨(List.cons.inj hc').1, rfl⟩⟩
  · obtain ⟨a0, len0, cap0, rfl⟩ := okWide_slice Tryz.underlying27 hval
    have hc' : ([Value.slice a0 len0 cap0] : List Value) = [.slice (some a) len cap] := hc
    rw [(List.cons.inj hc').1] at hval ⊢
    clear hc hc' hf
    have hok := hval
    simp only [Value.okWide, Tryz.underlying27, Cell.okWide, Cell.ok] at hok
    obtain ⟨_, hcap, _, hspot, row, cells, hsh, _⟩ := hok
    obtain ⟨b, off, spot⟩ := a
    simp only at hspot
    subst hspot
    have hb : b < W.heap.size := by
      rcases Nat.lt_or_ge b W.heap.size with h | h
      · exact h
      · simp [World.shape?, Array.getElem?_eq_none h] at hsh
    rw [if_pos rfl] at hss
    refine ⟨(ss.take len).map (·.data.toList), Or.inr ⟨b, off, cap, ?_, ?_, ?_, hb, ?_⟩⟩
    · rw [List.length_map, List.length_take, hss, Nat.min_eq_left hlc]
    · rw [List.length_map, List.length_take]; omega
    · have : (IntKind.i64.max : Int) = 9223372036854775807 := by decide
      omega
    · intro i hi
      rw [List.length_map, List.length_take] at hi
      have := hcell i (by omega)
      rw [show ({ block := b, off := off } : Addr).add i = ⟨b, off + i, none⟩ by cases i <;> simp [Addr.add]] at this
      rw [this]
      have h1 : i < ss.length := by omega
      have h2 : i < len := by omega
      simp [List.getD_eq_getElem?_getD, h1, h2]
theorem laidOutP : laidOutB Tryz.prog = true := by kernel_rfl
/-- The cells of a table of numbers, or of pairs of numbers. -/
def lits1 : DataW Unit → List Value
  | .lit (.int k z) => [.int k z]
  | _ => []
def lits2 : DataW Unit → List Value
  | .agg ds => ds.flatMap lits1
  | d => lits1 d
def lits3 : DataW Unit → List Value
  | .agg ds => ds.flatMap lits2
  | d => lits1 d
def layD (d : DataW Unit) : Obj → Obj
  | .cells _ t frozen => .cells (lits3 d).toArray t frozen
  | o => o
end Go.Proofs.YtcohghaanakiiaaGreatDoor
