/-
  What filters are: forms, positions, the words of serial numbers.
-/
import Derived.Test.YtffldampcbfgjaaGreatDoorBel
import Derived.Test.YtffldampcbfgjaaGreatDoorPlnFl
import Derived.Lib.ItoaLen
namespace Go.Proofs.YtffldampcbfgjaaGreatDoor
open Go.RowKit

/-- Numbers of bits and hashes that are right. -/
def formF (bits hashes : Int) : Bool := decide (64 ≤ bits ∧ bits ≤ 65536 ∧ bits % 64 = 0 ∧ 1 ≤ hashes ∧ hashes ≤ 8)
/-- A filter. -/
structure Flt where
  bits : Int
  hashes : Int
  words : List Nat
def validF (f : Flt) : Bool := formF f.bits f.hashes && decide ((f.words.length : Int) = f.bits / 64)
/-- A position of a serial number. -/
def posF (serial : Int) (bits : Int) (k : Nat) : Nat := (belowS (dlist [Lib.itoa serial, Lib.decDigits k]) bits).toNat
theorem belowS_range (d : List UInt8) {n : Int} (h : 1 ≤ n) : 0 ≤ belowS d n ∧ belowS d n < n := by
  unfold belowS
  split
  · omega
  · exact ⟨Int.emod_nonneg _ (by omega), Int.emod_lt_of_pos _ (by omega)⟩
theorem posF_eq (serial : Int) {bits : Int} (h : 1 ≤ bits) (k : Nat) : belowS (dlist [Lib.itoa serial, Lib.decDigits k]) bits = (posF serial bits k : Int) := by
  have := belowS_range (dlist [Lib.itoa serial, Lib.decDigits k]) h
  unfold posF
  omega
theorem posF_lt (serial : Int) {bits : Int} (h : 1 ≤ bits) (k : Nat) : (posF serial bits k : Int) < bits := by
  rw [← posF_eq serial h k]
  exact (belowS_range _ h).2
/-- The positions of a serial number. -/
def posL (serial bits hashes : Int) : List Nat := (List.range hashes.toNat).map (posF serial bits)
/-- The positions of serial numbers. -/
def posA (serials : List Int) (bits hashes : Int) : List Nat := serials.flatMap fun s => posL s bits hashes
/-- The words of serial numbers. -/
def makeF (serials : List Int) (bits hashes : Int) : List Nat := setsW (List.replicate (bits / 64).toNat 0) (posA serials bits hashes)
theorem posL_len (serial bits hashes : Int) : (posL serial bits hashes).length = hashes.toNat := by simp [posL]
theorem formF_parts {bits hashes : Int} (h : formF bits hashes = true) : 64 ≤ bits ∧ bits ≤ 65536 ∧ bits % 64 = 0 ∧ 1 ≤ hashes ∧ hashes ≤ 8 := of_decide_eq_true h
theorem posL_lt {serial bits hashes : Int} (h : formF bits hashes = true) : ∀ n ∈ posL serial bits hashes, n / 64 < (bits / 64).toNat := by
  intro n hn
  have hf := formF_parts h
  obtain ⟨k, _, rfl⟩ := List.mem_map.1 hn
  have := posF_lt serial (show 1 ≤ bits by omega) k
  omega
theorem posA_lt {serials : List Int} {bits hashes : Int} (h : formF bits hashes = true) : ∀ n ∈ posA serials bits hashes, n / 64 < (bits / 64).toNat := by
  intro n hn
  obtain ⟨s, _, hs⟩ := List.mem_flatMap.1 hn
  exact posL_lt h n hs
theorem makeF_len (serials : List Int) (bits hashes : Int) : (makeF serials bits hashes).length = (bits / 64).toNat := by
  unfold makeF
  rw [setsW_len, List.length_replicate]
theorem makeF_lt (serials : List Int) (bits hashes : Int) : W64 (makeF serials bits hashes) := setsW_lt _ _ (zeros_lt _)
end Go.Proofs.YtffldampcbfgjaaGreatDoor
