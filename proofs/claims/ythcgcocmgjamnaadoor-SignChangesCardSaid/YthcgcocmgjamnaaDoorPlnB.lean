/-
  Plain law: a signature is valid for its message.
-/
import Derived.Test.YthcgcocmgjamnaaDoorSgnD
namespace Go.Proofs.YthcgcocmgjamnaaDoor

theorem chainN_add (a b : Nat) (l : List UInt8) : chainN a (chainN b l) = chainN (a + b) l := by
  induction b generalizing l with
  | zero => rfl
  | succ b ih => exact ih (dsum l)
theorem cnt_nat (n : Nat) (h : n ≤ 1000) : cnt (n : Int) = n := by unfold cnt; omega
theorem dchain_rest (l : List UInt8) (d : Nat) (h : d ≤ 15) : dchain (dchain l (d : Int)) (15 - (d : Int)) = dchain l 15 := by
  unfold dchain
  rw [show (15 : Int) - (d : Int) = ((15 - d : Nat) : Int) by omega, cnt_nat _ (by omega), cnt_nat _ (by omega), chainN_add, show (15 : Int) = ((15 : Nat) : Int) from rfl, cnt_nat 15 (by decide)]
  congr 1; omega
theorem isD_chain (l : List UInt8) (h : isD l = true) (n : Int) : isD (dchain l n) = true := by
  unfold dchain
  cases hc : cnt n with
  | zero => exact h
  | succ k => rw [chainN_succ]; exact dsum_isD _
theorem sigS_length (s m : List UInt8) : (sigS s m).length = 18 := by simp [sigS]
theorem endsS_length (s : List UInt8) : (endsS s).length = 18 := by simp [endsS]
theorem sigS_isD (s m : List UInt8) : (sigS s m).all isD = true := by
  rw [List.all_eq_true]
  intro x hx
  obtain ⟨i, _, rfl⟩ := List.mem_map.1 hx
  exact isD_chain _ (dsum_isD _) _
theorem vends_sig (s m : List UInt8) : vends m (sigS s m) = endsS s := by
  apply List.ext_getElem
  · rw [vends_length, sigS_length, endsS_length]
  · intro i h1 h2
    have hi : i < 18 := by rw [endsS_length] at h2; exact h2
    have hd := digs_lt m i hi
    simp only [vends, sigS, endsS, List.getElem_map, List.getElem_zipIdx, Nat.zero_add, List.getElem_finRange]
    exact dchain_rest _ _ hd
theorem verify_sig (s m : List UInt8) : verifyS (publicS s) m (sigS s m) = true := by
  simp only [verifyS, sigS_length, sigS_isD, vends_sig, publicS, beq_self_eq_true, Bool.and_true]
theorem publicS_isD (s : List UInt8) : isD (publicS s) = true := dsum_isD _
end Go.Proofs.YthcgcocmgjamnaaDoor
