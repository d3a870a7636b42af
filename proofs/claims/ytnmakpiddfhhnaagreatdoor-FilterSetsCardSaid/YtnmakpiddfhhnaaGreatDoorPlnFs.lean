/-
  Plain law: filters of lists of serial numbers that are put together; Join and Same of such filters.
-/
import Derived.Test.YtnmakpiddfhhnaaGreatDoorPlnFj
import Derived.Test.YtnmakpiddfhhnaaGreatDoorOwnZ
import Derived.Test.YtnmakpiddfhhnaaGreatDoorFrD
namespace Go.Proofs.YtnmakpiddfhhnaaGreatDoor
open Go.RowKit

/-- In reverse order, each twice. -/
def backL (l : List Int) : List Int := l.reverse.flatMap fun s => [s, s]
theorem backL_drop (l : List Int) (j : Nat) (h : j < l.length) : backL (l.drop j) = backL (l.drop (j + 1)) ++ [l.getD j 0, l.getD j 0] := by
  unfold backL
  rw [List.drop_eq_getElem_cons h, List.reverse_cons, List.flatMap_append, List.getD_eq_getElem?_getD, List.getElem?_eq_getElem h]
  rfl
theorem backL_len (l : List Int) : (backL l).length = 2 * l.length := by
  unfold backL
  have h : ∀ m : List Int, (m.flatMap fun s => [s, s]).length = 2 * m.length := by
    intro m
    induction m with
    | nil => rfl
    | cons a t ih => rw [List.flatMap_cons, List.length_append, ih, List.length_cons]; simp; omega
  rw [h, List.length_reverse]
theorem mem_backL (l : List Int) (x : Int) : x ∈ backL l ↔ x ∈ l := by
  unfold backL
  simp
theorem mem_posA {l : List Int} {bits hashes : Int} {n : Nat} : n ∈ posA l bits hashes ↔ ∃ s ∈ l, n ∈ posL s bits hashes := by
  unfold posA
  rw [List.mem_flatMap]
theorem make_ext {l l' : List Int} {bits hashes : Int} (hf : formF bits hashes = true) (h : ∀ x, x ∈ l ↔ x ∈ l') : makeF l bits hashes = makeF l' bits hashes := by
  unfold makeF
  refine sets_ext (posA_lt hf) (posA_lt hf) (fun n => ?_)
  rw [mem_posA, mem_posA]
  constructor
  · rintro ⟨s, hs, hn⟩; exact ⟨s, (h s).1 hs, hn⟩
  · rintro ⟨s, hs, hn⟩; exact ⟨s, (h s).2 hs, hn⟩
theorem make_join {l l' : List Int} {bits hashes : Int} (hf : formF bits hashes = true) : joinW (makeF l bits hashes) (makeF l' bits hashes) = makeF (l ++ l') bits hashes := by
  unfold makeF
  rw [sets_join (posA_lt hf) (posA_lt hf)]
  unfold posA
  rw [List.flatMap_append]
theorem okJ_make {l l' : List Int} {bits hashes : Int} (hf : formF bits hashes = true) : okJ ⟨bits, hashes, makeF l bits hashes⟩ ⟨bits, hashes, makeF l' bits hashes⟩ = true :=
  okJ_of (valid_make hf) (valid_make hf) rfl rfl
theorem joinF_make {l l' m : List Int} {bits hashes : Int} (hf : formF bits hashes = true) (h : ∀ x, (x ∈ l ∨ x ∈ l') ↔ x ∈ m) :
    joinF ⟨bits, hashes, makeF l bits hashes⟩ ⟨bits, hashes, makeF l' bits hashes⟩ = ⟨bits, hashes, makeF m bits hashes⟩ := by
  rw [joinF_ok (okJ_make hf)]
  show Flt.mk bits hashes (joinW (makeF l bits hashes) (makeF l' bits hashes)) = _
  rw [make_join hf, make_ext hf (l' := m) (fun x => by rw [List.mem_append]; exact h x)]
theorem joinQ_any (bits hashes : Int) (A B C : List Nat) (av bv : Value) (w : World) (J : joinF ⟨bits, hashes, A⟩ ⟨bits, hashes, B⟩ = ⟨bits, hashes, C⟩) (E : okJ ⟨bits, hashes, A⟩ ⟨bits, hashes, B⟩ = true) (wa : W64 A) (wb : W64 B)
    (ha : FltR w av ⟨bits, hashes, A⟩) (hb : FltR w bv ⟨bits, hashes, B⟩) :
    Calls Tryz.prog 16 #[av, bv] w fun e w' => ∃ ad cp, e = .returned (.tuple #[.agg #[.int .i64 bits, .int .i64 hashes, .slice ad C.length cp], .int .i64 0]) ∧ Ws w' (.slice ad C.length cp) C ∧ Below w.heap.size w w' := by
  refine (joinU_any av bv _ _ w ha hb wa wb).mono ?_
  rw [J, joinEr_ok E]
  rintro e w' ⟨ad, cp, h1, h2, h3⟩
  exact ⟨ad, cp, h1, h2, h3⟩
theorem sameQ_any (f : Flt) (av bv : Value) (w : World) (ha : FltR w av f) (hb : FltR w bv f) :
    Calls Tryz.prog 13 #[av, bv] w fun e w' => e = .returned (.bool true) ∧ Below w.heap.size w w' := by
  refine (rsame36_any av bv f f w ha hb).mono ?_
  rw [(sameF_iff f f).2 rfl]
  exact fun _ _ h => h
end Go.Proofs.YtnmakpiddfhhnaaGreatDoor
