/-
  General lemmas of this proof: frames between worlds, boxed variables, strings as lists of bytes, slices of strings. No program in sight.
-/
import Derived.WalkKit
import Derived.WalkLawsBesides
import Derived.WalkSpells
import Derived.OneCell
import Derived.LoopN
import Derived.Deep.QuietTactic
import Derived.BigQuiet
import Derived.Lib.Hide
import Derived.Laws.BitsAllLaws
import Derived.StillTailTactics
import Derived.IntWalk
import Derived.Outline
import Derived.Deep.LoopGhost
namespace Go.Proofs.YtjddngbgbbbefaaGreatDoor
open Go.RowKit

/-- What lay when `w` was, but for the blocks in `X`, lies in `w'` as it lay. -/
structure Fr (X : List Nat) (w w' : World) : Prop where
  os : w'.os = w.os
  tape : w'.tape = w.tape
  output : w'.output = w.output
  size : w.heap.size ≤ w'.heap.size
  block : ∀ k, k < w.heap.size → k ∉ X → w'.heap[k]? = w.heap[k]?

theorem Fr.refl (X : List Nat) (w : World) : Fr X w w := ⟨rfl, rfl, rfl, Nat.le_refl _, fun _ _ _ => rfl⟩
theorem Fr.trans {X Y : List Nat} {a b c : World} (h : Fr X a b) (k : Fr Y b c) (hy : ∀ y ∈ Y, y ∈ X ∨ a.heap.size ≤ y) : Fr X a c :=
  ⟨k.os.trans h.os, k.tape.trans h.tape, k.output.trans h.output, Nat.le_trans h.size k.size, fun i hi hx =>
    (k.block i (Nat.lt_of_lt_of_le hi h.size) (fun hm => by rcases hy i hm with h1 | h1; exact hx h1; omega)).trans (h.block i hi hx)⟩
theorem Fr.below {X : List Nat} {B : Nat} {a b c : World} (h : Fr X a b) (k : Below B b c) (hB : a.heap.size ≤ B) : Fr X a c :=
  ⟨k.os.trans h.os, k.tape.trans h.tape, k.output.trans h.output, Nat.le_trans h.size k.size, fun i hi hx =>
    (k.block i (by omega)).trans (h.block i hi hx)⟩
theorem Fr.grown {X : List Nat} {a b c : World} {row : Option Nat} (h : Fr X a b) (k : b.grownBy c row) (hB : ∀ r, row = some r → r ∈ X ∨ a.heap.size ≤ r) : Fr X a c :=
  ⟨k.os.trans h.os, k.tape.trans h.tape, k.output.trans h.output, Nat.le_trans h.size k.size, fun i hi hx =>
    (k.block i (Nat.lt_of_lt_of_le hi h.size) (fun e => by rcases hB i e.symm with h1 | h1; exact hx h1; omega)).trans (h.block i hi hx)⟩
theorem Fr.mono {X Y : List Nat} {a b : World} (h : Fr X a b) (hy : ∀ x ∈ X, x ∈ Y ∨ a.heap.size ≤ x) : Fr Y a b :=
  ⟨h.os, h.tape, h.output, h.size, fun i hi hx => h.block i hi (fun hm => by rcases hy i hm with h1 | h1; exact hx h1; omega)⟩
theorem Fr.toBelow {X : List Nat} {a b : World} (h : Fr X a b) (hx : ∀ x ∈ X, a.heap.size ≤ x) : Below a.heap.size a b :=
  ⟨h.os, h.tape, h.output, h.size, fun i hi => h.block i hi (fun hm => by have := hx i hm; omega)⟩
theorem Fr.ofBelow {X : List Nat} {a b : World} (h : Below a.heap.size a b) : Fr X a b := (Fr.refl X a).below h (Nat.le_refl _)
theorem Fr.alloc {X : List Nat} {a b : World} (h : Fr X a b) (o : Obj) : Fr X a (b.alloc o) :=
  h.below ((Below.refl b.heap.size b).alloc (Nat.le_refl _) o) h.size
theorem Fr.drew {X : List Nat} {a b : World} (h : Fr X a b) : Fr X a b.drew := ⟨h.os, h.tape, h.output, h.size, h.block⟩
theorem Fr.drewN {X : List Nat} {a b : World} (h : Fr X a b) (n : Nat) : Fr X a (b.drewN n) := ⟨h.os, h.tape, h.output, h.size, h.block⟩
theorem Fr.setCell {X : List Nat} {a b : World} (h : Fr X a b) (p : Addr) (v : Value) (hp : p.block ∈ X ∨ a.heap.size ≤ p.block) : Fr X a (b.setCell p v) := by
  have hs : (b.setCell p v).heap.size = b.heap.size := by simp [World.setCell]
  refine ⟨h.os, h.tape, h.output, by rw [hs]; exact h.size, fun i hi hx => ?_⟩
  rw [← h.block i hi hx]
  have hne : p.block ≠ i := fun e => by subst e; rcases hp with h1 | h1; exact hx h1; omega
  simp [World.setCell, Array.getElem?_modify, hne]
theorem Fr.at {X : List Nat} {w w' : World} (h : Fr X w w') {B : Nat} {o : Obj} (hB : w.heap[B]? = some o) (hx : B ∉ X) : w'.heap[B]? = some o :=
  (h.block B (lt_of_block hB) hx).trans hB
theorem Fr.cell {X : List Nat} {w w' : World} (h : Fr X w w') {a : Addr} {v : Value} (hc : w.cell? a = some v) (hx : a.block ∉ X) : w'.cell? a = some v := by
  have hl : a.block < w.heap.size := by
    rcases Nat.lt_or_ge a.block w.heap.size with h1 | h1
    · exact h1
    · simp [World.cell?, Array.getElem?_eq_none h1] at hc
  have := h.block a.block hl hx
  simp only [World.cell?] at hc ⊢
  rw [this]; exact hc
theorem Fr.frozen {X : List Nat} {w w' : World} (h : Fr X w w') {a : Addr} (hl : a.block < w.heap.size) (hx : a.block ∉ X) : w'.frozen? a = w.frozen? a := by
  have := h.block a.block hl hx
  simp only [World.frozen?]
  rw [this]

theorem heap_past {w : World} (o : Obj) {B : Nat} {x : Obj} (h : w.heap[B]? = some x) : (w.alloc o).heap[B]? = some x := ((Fr.refl [] w).alloc o).at h (by simp)
theorem heap_drew {w : World} {B : Nat} {x : Obj} (h : w.heap[B]? = some x) : w.drew.heap[B]? = some x := h
theorem heap_other {w : World} {B : Nat} {x : Obj} (h : w.heap[B]? = some x) (p : Addr) (v : Value) (hp : p.block ≠ B) : (w.setCell p v).heap[B]? = some x :=
  ((Fr.refl [p.block] w).setCell p v (by simp)).at h (by simp; exact fun e => hp e.symm)

theorem row_cell {w : World} {B : Nat} {cs : Array Value} {t : TypeId} {fr : Nat × Nat} (h : w.heap[B]? = some (.cells cs t fr)) (k : Nat) : w.cell? ⟨B, k, none⟩ = cs[k]? := by simp [World.cell?, h]
theorem row_free {w : World} {B : Nat} {cs : Array Value} {t : TypeId} (h : w.heap[B]? = some (.cells cs t (0, 0))) (k : Nat) : w.frozen? ⟨B, k, none⟩ = false := by simp [World.frozen?, h]
theorem row_set {w : World} {B : Nat} {cs : Array Value} {t : TypeId} {fr : Nat × Nat} (h : w.heap[B]? = some (.cells cs t fr)) (k : Nat) (v : Value) : (w.setCell ⟨B, k, none⟩ v).heap[B]? = some (.cells (cs.setIfInBounds k v) t fr) := by
  simp [World.setCell, Array.getElem?_modify, h]

theorem heap_new {w : World} {o : Obj} {n : Nat} (hn : n = w.heap.size) : (w.alloc o).heap[n]? = some o := by subst hn; exact heap_alloc_new _ _

theorem getD_mem {α : Type} (l : List α) (k : Nat) (d : α) (h : k < l.length) : l.getD k d ∈ l := by
  rw [List.getD_eq_getElem?_getD, List.getElem?_eq_getElem h]; exact List.getElem_mem _
theorem take_snoc' {α : Type} (l : List α) (k : Nat) (d : α) (h : k < l.length) : l.take (k + 1) = l.take k ++ [l.getD k d] := by
  rw [List.take_succ_eq_append_getElem h, List.getD_eq_getElem?_getD, List.getElem?_eq_getElem h]; rfl
theorem ba_append (a b : List UInt8) : (⟨a.toArray⟩ : ByteArray) ++ ⟨b.toArray⟩ = ⟨(a ++ b).toArray⟩ := by
  have h : ((⟨a.toArray⟩ : ByteArray) ++ ⟨b.toArray⟩).data = (a ++ b).toArray := by rw [ByteArray.data_append]; simp
  cases hx : (⟨a.toArray⟩ : ByteArray) ++ ⟨b.toArray⟩
  rw [hx] at h
  simp only at h
  rw [h]
theorem ba_size (a : List UInt8) : (⟨a.toArray⟩ : ByteArray).size = a.length := by simp [ByteArray.size]

/-- Facts on 64-bit numbers, laid ahead of a walk as equations on fresh names. -/
theorem xs64 (x k d : Nat) (hd : d = 2 ^ k) (hx : x < 18446744073709551616) : ∃ y : Nat, y < 18446744073709551616 ∧ y = x ^^^ (x >>> k) ∧ bits .xor .u64 (x : Int) ((x : Int) / (d : Int)) = (y : Int) := by
  have h1 : x / d < 18446744073709551616 := Nat.lt_of_le_of_lt (Nat.div_le_self _ _) hx
  refine ⟨_, ?_, rfl, ?_⟩
  · rw [Nat.shiftRight_eq_div_pow, ← hd]; exact Nat.xor_lt_two_pow (n := 64) hx h1
  · rw [← Int.natCast_ediv, bits_xor_u64_nat _ _ hx h1, Nat.shiftRight_eq_div_pow, hd]
theorem ml64 (x c : Nat) : ∃ y : Nat, y < 18446744073709551616 ∧ y = x * c % 18446744073709551616 ∧ (x : Int) * (c : Int) % 18446744073709551616 = (y : Int) :=
  ⟨_, Nat.mod_lt _ (by decide), rfl, by omega⟩
end Go.Proofs.YtjddngbgbbbefaaGreatDoor
