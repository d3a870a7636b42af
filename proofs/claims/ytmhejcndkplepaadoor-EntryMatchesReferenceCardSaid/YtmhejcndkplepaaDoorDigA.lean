/-
  Contracts of package digest: take, Sum's closure and loop. The plain functions mix, addB, sumN.
-/
import Derived.Test.YtmhejcndkplepaaDoorBase
import Derived.Test.YtmhejcndkplepaaDoorShelf
import Derived.Test.YtmhejcndkplepaaDoorChecked
namespace Go.Proofs.YtmhejcndkplepaaDoor
open Go.RowKit

def m1 (x : Nat) : Nat := (x ^^^ (x >>> 32)) * 11400714819323198485 % 18446744073709551616
def m2 (x : Nat) : Nat := (x ^^^ (x >>> 29)) * 13787848793156543929 % 18446744073709551616
def mix (x : Nat) : Nat := m2 (m1 x) ^^^ (m2 (m1 x) >>> 32)
theorem mix_lt (x : Nat) : mix x < 18446744073709551616 := by
  have h1 : m2 (m1 x) < 18446744073709551616 := Nat.mod_lt _ (by decide)
  have h2 : m2 (m1 x) >>> 32 < 18446744073709551616 := Nat.lt_of_le_of_lt (Nat.shiftRight_le _ _) h1
  exact Nat.xor_lt_two_pow (n := 64) h1 h2

theorem mul_any (x y : Nat) (hx : x < 18446744073709551616) (hy : y < 18446744073709551616) (w : World) :
    Calls Tryd.prog 104 #[.int .u64 (x : Int), .int .u64 (y : Int)] w fun e w' => e = .returned (.tuple #[.int .u64 ((x : Int) * (y : Int) / 18446744073709551616), .int .u64 ((x : Int) * (y : Int) % 18446744073709551616)]) ∧ w = w' :=
  (Tryd.bits_Mul64 x y hx hy w).mono fun e w' ⟨he, hw⟩ => ⟨by rw [he, show ((x * y / 18446744073709551616 : Nat) : Int) = (x : Int) * (y : Int) / 18446744073709551616 by have := Int.natCast_mul x y; omega, show ((x * y % 18446744073709551616 : Nat) : Int) = (x : Int) * (y : Int) % 18446744073709551616 by have := Int.natCast_mul x y; omega], hw.symm⟩

set_option maxRecDepth 100000 in
set_option maxHeartbeats 400000 in
theorem take_any (B : Nat) (s b : Nat) (w : World) (hs : s < 18446744073709551616) (hb : b < 18446744073709551616) (hB : w.heap[B]? = some (.cells #[.int .u64 (s : Int)] 93 (0, 0))) :
    Calls Tryd.prog 79 #[.pointer (some ⟨B, 0, none⟩), .int .u64 (b : Int)] w fun e w' => e = .returned (.tuple #[]) ∧ w'.heap[B]? = some (.cells #[.int .u64 (mix (s ^^^ b) : Nat)] 93 (0, 0)) ∧ Fr [B] w w' := by
  have hc := cell_of_one hB
  have hf := free_of_one hB
  have l0 : B < w.heap.size := lt_of_block hB
  have l1 : B < w.heap.size + 1 := by omega
  have i0 : ∀ w, (Instr.index 122 (.agg #[.int .u64 32, .int .u64 11400714819323198485, .int .u64 29, .int .u64 13787848793156543929]) (.int .i64 0)).run Tryd.prog w = .ok (.agg #[.int .u64 32, .int .u64 11400714819323198485]) w := fun _ => by kernel_rfl
  have i1 : ∀ w, (Instr.index 122 (.agg #[.int .u64 32, .int .u64 11400714819323198485, .int .u64 29, .int .u64 13787848793156543929]) (.int .i64 1)).run Tryd.prog w = .ok (.agg #[.int .u64 29, .int .u64 13787848793156543929]) w := fun _ => by kernel_rfl
  obtain ⟨X, hX, eX, e0⟩ : ∃ X : Nat, X < 18446744073709551616 ∧ X = s ^^^ b ∧ bits .xor .u64 (s : Int) (b : Int) = (X : Int) := ⟨_, Nat.xor_lt_two_pow (n := 64) hs hb, rfl, bits_xor_u64_nat _ _ hs hb⟩
  obtain ⟨Y, hY, eY, e1⟩ := xs64 X 32 4294967296 rfl hX
  obtain ⟨Z, hZ, eZ, e2⟩ := ml64 Y 11400714819323198485
  obtain ⟨U, hU, eU, e3⟩ := xs64 Z 29 536870912 rfl hZ
  obtain ⟨V, hV, eV, e4⟩ := ml64 U 13787848793156543929
  obtain ⟨T, hT, eT, e5⟩ := xs64 V 32 4294967296 rfl hV
  have HT : Hid (T = mix (s ^^^ b)) := by show T = _; rw [eT, eV, eU, eZ, eY, eX]; rfl
  simp only [Int.cast_ofNat_Int] at e0 e1 e2 e3 e4 e5
  clear eX eY eZ eU eV eT
  have HB := Lib.hid hB
  clear hB
  go_enter Tryd.func79, Tryd.ntmps79
  go_wp2_with fail
  refine wp_loop_rounds 3 ?_; rw [rounds_succ]
  go_wp2_with fail
  refine (mul_any Y 11400714819323198485 (by omega) (by omega) _).mono ?_
  rintro e w' ⟨rfl, rfl⟩
  go_wp2_with fail
  rw [rounds_succ]
  go_wp2_with fail
  refine (mul_any U 13787848793156543929 (by omega) (by omega) _).mono ?_
  rintro e w' ⟨rfl, rfl⟩
  go_wp2_with fail
  rw [rounds_succ]
  go_wp2_with fail
  go_end0
  refine ⟨rfl, ?_, ?_⟩
  · rw [← HT.out]
    exact heap_past _ (heap_past _ (one_setCell HB.out))
  · exact ((((Fr.refl [B] w).setCell _ _ (by simp)).alloc _).alloc _)

theorem or_shl (b c n : Nat) (hb : b < 2 ^ (8 * n)) (hn : n < 8) (hc : c < 256) : ∃ sh : Nat, sh < 18446744073709551616 ∧ sh = c * 2 ^ (8 * n) ∧ IntKind.u64.wrap ((c : Int) * 2 ^ (8 * n)) = (sh : Int) ∧
    ∃ b' : Nat, b' < 2 ^ (8 * (n + 1)) ∧ b' = b + c * 2 ^ (8 * n) ∧ bits .or .u64 (b : Int) (sh : Int) = (b' : Int) := by
  have hp : 2 ^ (8 * (n + 1)) = 256 * 2 ^ (8 * n) := by rw [Nat.mul_add, Nat.pow_add, Nat.mul_comm]
  have hq : 2 ^ (8 * (n + 1)) ≤ 2 ^ 64 := Nat.pow_le_pow_right (by decide) (by omega)
  have hm : c * 2 ^ (8 * n) ≤ 255 * 2 ^ (8 * n) := Nat.mul_le_mul_right _ (by omega)
  have h64 : (2 : Nat) ^ 64 = 18446744073709551616 := by decide
  have hlt : c * 2 ^ (8 * n) < 18446744073709551616 := by omega
  have hb64 : b < 18446744073709551616 := by omega
  refine ⟨_, hlt, rfl, ?_, b + c * 2 ^ (8 * n), by omega, rfl, ?_⟩
  · rw [IntKind.wrap_u64, show ((c : Int) * 2 ^ (8 * n)) = ((c * 2 ^ (8 * n) : Nat) : Int) by simp]; omega
  · rw [u64_or_nat _ _ hb64 hlt, Nat.or_comm, nat_join (8 * n) _ _ (Nat.mul_mod_left _ _) hb, Nat.add_comm]

/-- One byte taken into the state (state, block, bytes in the block). -/
def addB (q : Nat × Nat × Nat) (c : Nat) : Nat × Nat × Nat :=
  if q.2.2 = 7 then (mix (q.1 ^^^ (q.2.1 + c * 2 ^ (8 * q.2.2))), 0, 0) else (q.1, q.2.1 + c * 2 ^ (8 * q.2.2), q.2.2 + 1)
def QOk (q : Nat × Nat × Nat) : Prop := q.1 < 18446744073709551616 ∧ q.2.1 < 2 ^ (8 * q.2.2) ∧ q.2.2 < 8
/-- The three boxes hold the state. -/
structure QBox (w : World) (Bb Bn Bs : Nat) (q : Nat × Nat × Nat) : Prop where
  b : w.heap[Bb]? = some (.cells #[.int .u64 (q.2.1 : Int)] 92 (0, 0))
  n : w.heap[Bn]? = some (.cells #[.int .i64 (q.2.2 : Int)] 3 (0, 0))
  s : w.heap[Bs]? = some (.cells #[.int .u64 (q.1 : Int)] 93 (0, 0))
  h1 : Bb ≠ Bn
  h2 : Bb ≠ Bs
  h3 : Bn ≠ Bs
  ok : QOk q

set_option maxRecDepth 100000 in
set_option maxHeartbeats 400000 in
theorem add_any (Bb Bn Bs : Nat) (c : Nat) (q : Nat × Nat × Nat) (w : World) (hc : c < 256) (hQ : QBox w Bb Bn Bs q) :
    Calls Tryd.prog 78 #[.int .u8 (c : Int), .pointer (some ⟨Bb, 0, none⟩), .pointer (some ⟨Bn, 0, none⟩), .pointer (some ⟨Bs, 0, none⟩)] w fun e w' => e = .returned (.tuple #[]) ∧ QBox w' Bb Bn Bs (addB q c) ∧ Fr [Bb, Bn, Bs] w w' := by
  obtain ⟨s, b, n⟩ := q
  obtain ⟨hBb, hBn, hBs, h1, h2, h3, hs, hb, hn⟩ := hQ
  simp only at hBb hBn hBs hs hb hn
  have hcb := cell_of_one hBb
  have hfb := free_of_one hBb
  have hcn := cell_of_one hBn
  have hfn := free_of_one hBn
  have hcs := cell_of_one hBs
  have hfs := free_of_one hBs
  have h1' := h1.symm
  have h2' := h2.symm
  have h3' := h3.symm
  have HBb := Lib.hid hBb
  have HBn := Lib.hid hBn
  have HBs := Lib.hid hBs
  clear hBb hBn hBs
  have w1 : IntKind.u64.wrap (c : Int) = (c : Int) := by rw [IntKind.wrap_u64]; omega
  have w2 : IntKind.i64.wrap (8 * (n : Int)) = 8 * (n : Int) := IntWalk.i64_in _ (by omega)
  have w3 : (0 : Int) ≤ 8 * (n : Int) := by omega
  have w4 : 8 * (n : Int) ≤ 64 := by omega
  have w5 : (8 * (n : Int)).toNat = 8 * n := by omega
  obtain ⟨sh, hsh, eh, w6, b', hb', eb, w7⟩ := or_shl b c n hb hn hc
  have EB := Lib.hid eb
  clear eh eb
  by_cases h7 : n = 7
  · have H7 := Lib.hid h7
    have t8 : ((n : Int) + 1 == 8) = true := by simp; omega
    have w8 : IntKind.i64.wrap ((n : Int) + 1) = (n : Int) + 1 := IntWalk.i64_in _ (by omega)
    have hb64 : b' < 18446744073709551616 := by rw [h7] at hb'; exact hb'
    clear h7
    go_enter Tryd.func78, Tryd.ntmps78
    go_wp2_with fail
    go_still_tail 7, (by kernel_rfl)
    change wpList _ _ _ _ _ w.drew
    go_wp2_with fail
    have hB3 : ((w.setCell ⟨Bb, 0, none⟩ (.int .u64 (b' : Int))).setCell ⟨Bn, 0, none⟩ (.int .i64 ((n : Int) + 1))).drew.heap[Bs]? = some (.cells #[.int .u64 (s : Int)] 93 (0, 0)) :=
      heap_drew (heap_other (heap_other HBs.out _ _ h2) _ _ h3)
    have hB1 : ((w.setCell ⟨Bb, 0, none⟩ (.int .u64 (b' : Int))).setCell ⟨Bn, 0, none⟩ (.int .i64 ((n : Int) + 1))).drew.heap[Bb]? = some (.cells #[.int .u64 (b' : Int)] 92 (0, 0)) :=
      heap_drew (heap_other (one_setCell HBb.out) _ _ h1')
    have hB2 : ((w.setCell ⟨Bb, 0, none⟩ (.int .u64 (b' : Int))).setCell ⟨Bn, 0, none⟩ (.int .i64 ((n : Int) + 1))).drew.heap[Bn]? = some (.cells #[.int .i64 ((n : Int) + 1)] 3 (0, 0)) :=
      heap_drew (one_setCell (heap_other HBn.out _ _ h1))
    refine (take_any Bs s b' _ hs hb64 hB3).mono ?_
    rintro e w' ⟨rfl, hs', hfr⟩
    have hB1' := hfr.at hB1 (by simp [h2])
    have hB2' := hfr.at hB2 (by simp [h3])
    have hcb' := cell_of_one hB1'
    have hfb' := free_of_one hB1'
    have hcn' := cell_of_one hB2'
    have hfn' := free_of_one hB2'
    have K1 := Lib.hid hB1'
    have K2 := Lib.hid hB2'
    have K3 := Lib.hid hs'
    clear hB1 hB2 hB3 hB1' hB2' hs'
    go_wp2_with fail
    go_end0
    have ha : addB (s, b, n) c = (mix (s ^^^ b'), 0, 0) := by rw [EB.out]; simp [addB, H7.out]
    refine ⟨rfl, ⟨?_, ?_, ?_, h1, h2, h3, ?_⟩, ?_⟩
    · rw [ha]; exact heap_other (one_setCell K1.out) _ _ h1'
    · rw [ha]; exact one_setCell (heap_other K2.out _ _ h1)
    · rw [ha]; exact heap_other (heap_other K3.out _ _ h2) _ _ h3
    · rw [ha]; exact ⟨mix_lt _, by show 0 < 2 ^ (8 * 0); decide, by show 0 < 8; decide⟩
    · have f0 : Fr [Bb, Bn, Bs] w ((w.setCell ⟨Bb, 0, none⟩ (.int .u64 (b' : Int))).setCell ⟨Bn, 0, none⟩ (.int .i64 ((n : Int) + 1))).drew :=
        (((Fr.refl _ w).setCell _ _ (by simp)).setCell _ _ (by simp)).drew
      exact ((f0.trans hfr (by simp)).setCell _ _ (by simp)).setCell _ _ (by simp)
  · have H7 := Lib.hid h7
    have t8 : ((n : Int) + 1 == 8) = false := by simp; omega
    have w8 : IntKind.i64.wrap ((n : Int) + 1) = (n : Int) + 1 := IntWalk.i64_in _ (by omega)
    clear h7
    go_enter Tryd.func78, Tryd.ntmps78
    go_wp2_with fail
    go_still_tail 7, (by kernel_rfl)
    change wpList _ _ _ _ _ w.drew
    go_wp2_with fail
    go_end0
    have ha : addB (s, b, n) c = (s, b', n + 1) := by rw [EB.out]; simp [addB, H7.out]
    refine ⟨rfl, ⟨?_, ?_, ?_, h1, h2, h3, ?_⟩, ?_⟩
    · rw [ha]; exact heap_drew (heap_other (one_setCell HBb.out) _ _ h1')
    · rw [ha]; exact heap_drew (one_setCell (heap_other HBn.out _ _ h1))
    · rw [ha]; exact heap_drew (heap_other (heap_other HBs.out _ _ h2) _ _ h3)
    · rw [ha]; exact ⟨hs, hb', by have := H7.out; show n + 1 < 8; omega⟩
    · exact (((Fr.refl _ w).setCell _ _ (by simp)).setCell _ _ (by simp)).drew
end Go.Proofs.YtmhejcndkplepaaDoor
