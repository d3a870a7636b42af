/-
  strconv.Itoa of any number.
-/
import Derived.Test.YtjddngbgbbbefaaGreatDoorDigA
namespace Go.Proofs.YtjddngbgbbbefaaGreatDoor
open Go.RowKit

theorem itoaI_any (n : Int) (w : World) (h0 : -9223372036854775808 ≤ n) (h1 : n ≤ 9223372036854775807) (hT : Tabs w) :
    Calls Tryz.prog 61 #[.int .i64 n] w fun e w' => e = .returned (.string ⟨(Lib.itoa n).toArray⟩) ∧ Below w.heap.size w w' := by
  refine (Tryz.strconv_Itoa n h0 h1 w hT.pow).mono ?_
  rintro e w' ⟨rfl, k, os, rfl⟩
  refine ⟨rfl, rfl, rfl, rfl, ?_, ?_⟩
  · simp [Go.Sort.grow, World.drewN]
  · intro i hi
    simp only [Go.Sort.grow, World.drewN] at hi ⊢
    rw [Array.getElem?_append_left (by simpa using hi)]
end Go.Proofs.YtjddngbgbbbefaaGreatDoor
