/-
  A string as a slice of bytes.
-/
import Derived.Test.YtglgkdbhdjkeaaaGreatDoorPlnA
import Derived.Laws.CopyOwn
namespace Go.Proofs.YtglgkdbhdjkeaaaGreatDoor
open Go.RowKit

/-- '[]byte(s)': a new row that holds the bytes. -/
theorem conv_bytes (w : World) (l : List UInt8) : ∃ c w', (convert 9 118 (.string ⟨l.toArray⟩)).run Tryz.prog w = .ok (.slice (some ⟨w.heap.size, 0, none⟩) l.length c) w' ∧ Fr [] w w' ∧
    w.heap.size < w'.heap.size ∧ ∀ i, i < l.length → w'.cell? ⟨w.heap.size, i, none⟩ = some (.int .u8 ((l.getD i 0).toNat : Int)) := by
  have h := run_bytes_of_string (P := Tryz.prog) w 9 118 5 ⟨l.toArray⟩ Tryz.underlying9 Tryz.underlying118 Tryz.underlying5
  rw [ba_size] at h
  refine ⟨_, _, h, ((Fr.refl [] w).drew).alloc _, by simp, fun i hi => ?_⟩
  refine (World.cell?_alloc_mark w.drew _ _ _ i).trans ?_
  unfold bytesRow
  rw [Array.getElem?_append_left (by simpa using hi)]
  simp [hi]
end Go.Proofs.YtglgkdbhdjkeaaaGreatDoor
