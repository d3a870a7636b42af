/-
  Plain law: a signature is valid for its message.
-/
import Derived.Test.YtglgkdbhdjkeaaaGreatDoorSgnC
import Derived.Test.YtglgkdbhdjkeaaaGreatDoorPlnA
namespace Go.Proofs.YtglgkdbhdjkeaaaGreatDoor

theorem sigS_length (s m : List UInt8) : (sigS s m).length = 18 := by simp [sigS]
theorem endsS_length (s : List UInt8) : (endsS s).length = 18 := by simp [endsS]
theorem sigS_isD (s m : List UInt8) : (sigS s m).all isD = true := by
  rw [List.all_eq_true]
  intro x hx
  obtain ⟨i, _, rfl⟩ := List.mem_map.1 hx
  exact isD_chain _ (dsum_isD _) _
theorem vends_sig (s m : List UInt8) : vends m (sigS s m) = endsS s := by
  apply List.ext_getElem
  · rw [vends_length, sigS_length, endsS_length]
  · intro i h1 h2
    have hi : i < 18 := by rw [endsS_length] at h2; exact h2
    have hd := digs_lt m i hi
    simp only [vends, sigS, endsS, List.getElem_map, List.getElem_zipIdx, Nat.zero_add, List.getElem_finRange]
    exact dchain_rest _ _ hd
theorem verify_sig (s m : List UInt8) : verifyS (publicS s) m (sigS s m) = true := by
  simp only [verifyS, sigS_length, sigS_isD, vends_sig, publicS, beq_self_eq_true, Bool.and_true]
theorem publicS_isD (s : List UInt8) : isD (publicS s) = true := dsum_isD _
end Go.Proofs.YtglgkdbhdjkeaaaGreatDoor
