/-
  Plain law: the digest block by block.
-/
import Derived.Test.YtmhejcndkplepaaDoorDigE
namespace Go.Proofs.YtmhejcndkplepaaDoor

/-- The number that a digit stands for. -/
def hexN (c : UInt8) : Nat := if c.toNat < 58 then c.toNat - 48 else c.toNat - 87
theorem index_hex (c : UInt8) (hc : hexC c = true) : Lib.indexByte cutset c = (hexN c : Int) ∧ hexN c < 16 := by
  have h : ∀ n : Fin 256, hexC (UInt8.ofNat n.val) = true → Lib.indexByte cutset (UInt8.ofNat n.val) = (hexN (UInt8.ofNat n.val) : Int) ∧ hexN (UInt8.ofNat n.val) < 16 := by decide +kernel
  have := h ⟨c.toNat, c.toNat_lt⟩
  simpa [hc] using this
theorem hexS_hex (s : Nat) : (hexS s).all hexC = true := by
  have h : ∀ d : Fin 16, hexC (UInt8.ofNat (hexd d.val)) = true := by decide
  simp only [hexS, List.all_map, List.all_eq_true]
  intro i _
  exact h ⟨s / 2 ^ (60 - 4 * i) % 16, Nat.mod_lt _ (by decide)⟩
theorem dsum_isD (l : List UInt8) : isD (dsum l) = true := by
  simp only [isD, Bool.and_eq_true, beq_iff_eq]
  exact ⟨dsum_length l, hexS_hex _⟩


/-- Byte j of a text with its end mark. -/
def extB (l : List UInt8) (j : Nat) : Nat := if j < l.length then (l.getD j 0).toNat else if j = l.length then 1 else 0
/-- The block that begins at a place, its last m bytes. -/
def blkT (l : List UInt8) (f : Nat) : Nat → Nat
  | 0 => 0
  | m + 1 => blkT l f m * 256 + extB l (f + (7 - m))
def blk (l : List UInt8) (f : Nat) : Nat := blkT l f 8
/-- The state after j blocks. -/
def stJ (l : List UInt8) : Nat → Nat
  | 0 => 7046029254386353131
  | j + 1 => mix (stJ l j ^^^ blk l (8 * j))
def stQ (l : List UInt8) : Nat → Nat × Nat × Nat
  | 0 => q0
  | n + 1 => addB (stQ l n) (extB l n)

theorem extB_lt (l : List UInt8) (j : Nat) : extB l j < 256 := by
  unfold extB; split
  · exact (l.getD j 0).toNat_lt
  · split <;> omega
theorem stQ_n (l : List UInt8) (n : Nat) : (stQ l n).2.2 = n % 8 := by
  induction n with
  | zero => rfl
  | succ n ih =>
    rw [stQ]; unfold addB
    split
    · simp only; omega
    · simp only; omega
theorem stQ_take (l : List UInt8) (n : Nat) (h : n ≤ l.length) : sumQ (l.take n) = stQ l n := by
  induction n with
  | zero => rfl
  | succ n ih =>
    rw [sumQ_snoc l n (by omega), ih (by omega), stQ]
    congr 1
    unfold extB
    rw [if_pos (by omega), List.getD_eq_getElem?_getD, List.getElem?_eq_getElem (by omega)]; rfl
theorem stQ_one (l : List UInt8) : addB (sumQ l) 1 = stQ l (l.length + 1) := by
  have := stQ_take l l.length (Nat.le_refl _)
  rw [List.take_length] at this
  rw [this, stQ]
  congr 1
  simp [extB]
theorem padQ_st (l : List UInt8) (f n : Nat) (hn : l.length < n) (hf : (8 - n % 8) % 8 ≤ f) : padQ f (stQ l n) = stQ l (8 * ((n + 7) / 8)) := by
  induction f generalizing n with
  | zero =>
    have : 8 * ((n + 7) / 8) = n := by omega
    rw [this]; rfl
  | succ f ih =>
    rw [padQ, stQ_n]
    split
    · have : 8 * ((n + 7) / 8) = n := by omega
      rw [this]
    · have h0 : addB (stQ l n) 0 = stQ l (n + 1) := by
        rw [stQ]; congr 1; unfold extB; rw [if_neg (by omega), if_neg (by omega)]
      rw [h0, ih (n + 1) (by omega) (by omega)]
      congr 2; omega
theorem blk_eq (l : List UInt8) (f : Nat) : blk l f = extB l f + extB l (f + 1) * 256 + extB l (f + 2) * 65536 + extB l (f + 3) * 16777216 + extB l (f + 4) * 4294967296 + extB l (f + 5) * 1099511627776 + extB l (f + 6) * 281474976710656 + extB l (f + 7) * 72057594037927936 := by
  simp only [blk, blkT, Nat.sub_self, Nat.add_zero, Nat.reduceSub]
  omega
theorem blkT_lt (l : List UInt8) (f m : Nat) : blkT l f m < 256 ^ m := by
  induction m with
  | zero => simp [blkT]
  | succ m ih =>
    have := extB_lt l (f + (7 - m))
    rw [blkT, Nat.pow_succ]; omega
theorem blk_lt (l : List UInt8) (f : Nat) : blk l f < 18446744073709551616 := blkT_lt l f 8
theorem stJ_lt (l : List UInt8) (j : Nat) : stJ l j < 18446744073709551616 := by
  cases j with
  | zero => show 7046029254386353131 < 18446744073709551616; decide
  | succ j => exact mix_lt _
theorem stQ_eight (l : List UInt8) (j : Nat) : stQ l (8 * j) = (stJ l j, 0, 0) := by
  induction j with
  | zero => rfl
  | succ j ih =>
    have h1 : stQ l (8 * j + 1) = (stJ l j, extB l (8 * j), 1) := by rw [stQ, ih]; simp [addB]
    have h2 : stQ l (8 * j + 2) = (stJ l j, extB l (8 * j) + extB l (8 * j + 1) * 256, 2) := by rw [stQ, h1]; simp [addB]
    have h3 : stQ l (8 * j + 3) = (stJ l j, extB l (8 * j) + extB l (8 * j + 1) * 256 + extB l (8 * j + 2) * 65536, 3) := by rw [stQ, h2]; simp [addB]
    have h4 : stQ l (8 * j + 4) = (stJ l j, extB l (8 * j) + extB l (8 * j + 1) * 256 + extB l (8 * j + 2) * 65536 + extB l (8 * j + 3) * 16777216, 4) := by rw [stQ, h3]; simp [addB]
    have h5 : stQ l (8 * j + 5) = (stJ l j, extB l (8 * j) + extB l (8 * j + 1) * 256 + extB l (8 * j + 2) * 65536 + extB l (8 * j + 3) * 16777216 + extB l (8 * j + 4) * 4294967296, 5) := by rw [stQ, h4]; simp [addB]
    have h6 : stQ l (8 * j + 6) = (stJ l j, extB l (8 * j) + extB l (8 * j + 1) * 256 + extB l (8 * j + 2) * 65536 + extB l (8 * j + 3) * 16777216 + extB l (8 * j + 4) * 4294967296 + extB l (8 * j + 5) * 1099511627776, 6) := by rw [stQ, h5]; simp [addB]
    have h7 : stQ l (8 * j + 7) = (stJ l j, extB l (8 * j) + extB l (8 * j + 1) * 256 + extB l (8 * j + 2) * 65536 + extB l (8 * j + 3) * 16777216 + extB l (8 * j + 4) * 4294967296 + extB l (8 * j + 5) * 1099511627776 + extB l (8 * j + 6) * 281474976710656, 7) := by rw [stQ, h6]; simp [addB]
    rw [show 8 * (j + 1) = 8 * j + 7 + 1 by omega, stQ, h7, stJ, blk_eq]
    simp [addB]
theorem dsum_blocks (l : List UInt8) : dsum l = hexS (stJ l (l.length / 8 + 1)) := by
  unfold dsum
  rw [stQ_one, padQ_st l 8 _ (by omega) (by omega), show (l.length + 1 + 7) / 8 = l.length / 8 + 1 by omega, stQ_eight]
end Go.Proofs.YtmhejcndkplepaaDoor
