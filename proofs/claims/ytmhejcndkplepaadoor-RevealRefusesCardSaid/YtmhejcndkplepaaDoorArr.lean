/-
  Rows of numbers at a block.
-/
import Derived.Test.YtmhejcndkplepaaDoorOwn
import Derived.Laws.OwnMore
namespace Go.Proofs.YtmhejcndkplepaaDoor
open Go.RowKit

/-- A row of numbers at a block. -/
def ArrN (w : World) (g : Nat) (l : List Nat) : Prop := w.heap[g]? = some (.cells (l.map fun n : Nat => Value.int .i64 (n : Int)).toArray 3 (0, 0))
theorem ArrN.cell {w : World} {g : Nat} {l : List Nat} (h : ArrN w g l) (i : Nat) (hi : i < l.length) : w.cell? ⟨g, i, none⟩ = some (.int .i64 (l.getD i 0 : Nat)) := by
  rw [row_cell h i]
  simp [List.getD_eq_getElem?_getD, hi]
theorem ArrN.set {w : World} {g : Nat} {l : List Nat} (h : ArrN w g l) (i x : Nat) : ArrN (w.setCell ⟨g, i, none⟩ (.int .i64 (x : Int))) g (l.set i x) := by
  unfold ArrN
  rw [row_set h i]
  simp [List.map_set]
theorem ArrN.fr {w w' : World} {X : List Nat} {g : Nat} {l : List Nat} (h : ArrN w g l) (hf : Fr X w w') (hx : g ∉ X) : ArrN w' g l := hf.at h hx
theorem arr_of_own {w : World} {base n g : Nat} {l : List Nat} (h : w.ownsRow base 3 1 (.slice (some ⟨g, 0, none⟩) n n) n (l.map fun n : Nat => Value.int .i64 (n : Int))) : base ≤ g ∧ ArrN w g l := by
  rcases h.2 with ⟨h1, _⟩ | ⟨g', cap, cur, hv, hb, hg, h3, h4, h5, h6⟩
  · cases h1
  · cases hv
    refine ⟨hb, ?_⟩
    rw [ArrN, hg]
    have : cur = (l.map fun n : Nat => Value.int .i64 (n : Int)).toArray := by
      apply Array.ext'
      rw [← h6, List.take_of_length_le (by rw [Array.length_toList]; omega)]
    rw [this]

theorem iInfoD : (Tryd.prog.info? 3).map (fun i => (i.zero, i.size, i.bytes)) = some (some (.int .i64 0), 1, 8) := by kernel_rfl
end Go.Proofs.YtmhejcndkplepaaDoor
