/-
  Contracts of package digest: take, Sum's closure and loop. The plain functions mix, addB, sumN.
  Contracts of package digest: text, Sum.
  Contracts of strings.Builder (a builder that the call has made) and of digest.List.
  The tables of the program; slices of strings; Itoa; digest.List.
-/
import Derived.Test.YtjddngbgbbbefaaGreatDoorBase
import Derived.Test.YtjddngbgbbbefaaGreatDoorShelf
import Derived.Test.YtjddngbgbbbefaaGreatDoorChecked
namespace Go.Proofs.YtjddngbgbbbefaaGreatDoor
open Go.RowKit

def m1 (x : Nat) : Nat := (x ^^^ (x >>> 32)) * 11400714819323198485 % 18446744073709551616
def m2 (x : Nat) : Nat := (x ^^^ (x >>> 29)) * 13787848793156543929 % 18446744073709551616
def mix (x : Nat) : Nat := m2 (m1 x) ^^^ (m2 (m1 x) >>> 32)
theorem mix_lt (x : Nat) : mix x < 18446744073709551616 := by
  have h1 : m2 (m1 x) < 18446744073709551616 := Nat.mod_lt _ (by decide)
  have h2 : m2 (m1 x) >>> 32 < 18446744073709551616 := Nat.lt_of_le_of_lt (Nat.shiftRight_le _ _) h1
  exact Nat.xor_lt_two_pow (n := 64) h1 h2

theorem mul_any (x y : Nat) (hx : x < 18446744073709551616) (hy : y < 18446744073709551616) (w : World) :
    Calls Tryz.prog 120 #[.int .u64 (x : Int), .int .u64 (y : Int)] w fun e w' => e = .returned (.tuple #[.int .u64 ((x : Int) * (y : Int) / 18446744073709551616), .int .u64 ((x : Int) * (y : Int) % 18446744073709551616)]) ∧ w = w' :=
  (Tryz.bits_Mul64 x y hx hy w).mono fun e w' ⟨he, hw⟩ => ⟨by rw [he, show ((x * y / 18446744073709551616 : Nat) : Int) = (x : Int) * (y : Int) / 18446744073709551616 by have := Int.natCast_mul x y; omega, show ((x * y % 18446744073709551616 : Nat) : Int) = (x : Int) * (y : Int) % 18446744073709551616 by have := Int.natCast_mul x y; omega], hw.symm⟩

set_option maxRecDepth 100000 in
set_option maxHeartbeats 400000 in
theorem take_any (B : Nat) (s b : Nat) (w : World) (hs : s < 18446744073709551616) (hb : b < 18446744073709551616) (hB : w.heap[B]? = some (.cells #[.int .u64 (s : Int)] 123 (0, 0))) :
    Calls Tryz.prog 103 #[.pointer (some ⟨B, 0, none⟩), .int .u64 (b : Int)] w fun e w' => e = .returned (.tuple #[]) ∧ w'.heap[B]? = some (.cells #[.int .u64 (mix (s ^^^ b) : Nat)] 123 (0, 0)) ∧ Fr [B] w w' := by
  have hc := cell_of_one hB
  have hf := free_of_one hB
  have l0 : B < w.heap.size := lt_of_block hB
  have l1 : B < w.heap.size + 1 := by omega
  have i0 : ∀ w, (Instr.index 143 (.agg #[.int .u64 32, .int .u64 11400714819323198485, .int .u64 29, .int .u64 13787848793156543929]) (.int .i64 0)).run Tryz.prog w = .ok (.agg #[.int .u64 32, .int .u64 11400714819323198485]) w := fun _ => by kernel_rfl
  have i1 : ∀ w, (Instr.index 143 (.agg #[.int .u64 32, .int .u64 11400714819323198485, .int .u64 29, .int .u64 13787848793156543929]) (.int .i64 1)).run Tryz.prog w = .ok (.agg #[.int .u64 29, .int .u64 13787848793156543929]) w := fun _ => by kernel_rfl
  obtain ⟨X, hX, eX, e0⟩ : ∃ X : Nat, X < 18446744073709551616 ∧ X = s ^^^ b ∧ bits .xor .u64 (s : Int) (b : Int) = (X : Int) := ⟨_, Nat.xor_lt_two_pow (n := 64) hs hb, rfl, bits_xor_u64_nat _ _ hs hb⟩
  obtain ⟨Y, hY, eY, e1⟩ := xs64 X 32 4294967296 rfl hX
  obtain ⟨Z, hZ, eZ, e2⟩ := ml64 Y 11400714819323198485
  obtain ⟨U, hU, eU, e3⟩ := xs64 Z 29 536870912 rfl hZ
  obtain ⟨V, hV, eV, e4⟩ := ml64 U 13787848793156543929
  obtain ⟨T, hT, eT, e5⟩ := xs64 V 32 4294967296 rfl hV
  have HT : Hid (T = mix (s ^^^ b)) := by show T = _; rw [eT, eV, eU, eZ, eY, eX]; rfl
  simp only [Int.cast_ofNat_Int] at e0 e1 e2 e3 e4 e5
  clear eX eY eZ eU eV eT
  have HB := Lib.hid hB
  clear hB
  go_enter Tryz.func103, Tryz.ntmps103
  go_wp2_with fail
  refine wp_loop_rounds 3 ?_; rw [rounds_succ]
  go_wp2_with fail
  refine (mul_any Y 11400714819323198485 (by omega) (by omega) _).mono ?_
  rintro e w' ⟨rfl, rfl⟩
  go_wp2_with fail
  rw [rounds_succ]
  go_wp2_with fail
  refine (mul_any U 13787848793156543929 (by omega) (by omega) _).mono ?_
  rintro e w' ⟨rfl, rfl⟩
  go_wp2_with fail
  rw [rounds_succ]
  go_wp2_with fail
  go_end0
  refine ⟨rfl, ?_, ?_⟩
  · rw [← HT.out]
    exact heap_past _ (heap_past _ (one_setCell HB.out))
  · exact ((((Fr.refl [B] w).setCell _ _ (by simp)).alloc _).alloc _)

theorem or_shl (b c n : Nat) (hb : b < 2 ^ (8 * n)) (hn : n < 8) (hc : c < 256) : ∃ sh : Nat, sh < 18446744073709551616 ∧ sh = c * 2 ^ (8 * n) ∧ IntKind.u64.wrap ((c : Int) * 2 ^ (8 * n)) = (sh : Int) ∧
    ∃ b' : Nat, b' < 2 ^ (8 * (n + 1)) ∧ b' = b + c * 2 ^ (8 * n) ∧ bits .or .u64 (b : Int) (sh : Int) = (b' : Int) := by
  have hp : 2 ^ (8 * (n + 1)) = 256 * 2 ^ (8 * n) := by rw [Nat.mul_add, Nat.pow_add, Nat.mul_comm]
  have hq : 2 ^ (8 * (n + 1)) ≤ 2 ^ 64 := Nat.pow_le_pow_right (by decide) (by omega)
  have hm : c * 2 ^ (8 * n) ≤ 255 * 2 ^ (8 * n) := Nat.mul_le_mul_right _ (by omega)
  have h64 : (2 : Nat) ^ 64 = 18446744073709551616 := by decide
  have hlt : c * 2 ^ (8 * n) < 18446744073709551616 := by omega
  have hb64 : b < 18446744073709551616 := by omega
  refine ⟨_, hlt, rfl, ?_, b + c * 2 ^ (8 * n), by omega, rfl, ?_⟩
  · rw [IntKind.wrap_u64, show ((c : Int) * 2 ^ (8 * n)) = ((c * 2 ^ (8 * n) : Nat) : Int) by simp]; omega
  · rw [u64_or_nat _ _ hb64 hlt, Nat.or_comm, nat_join (8 * n) _ _ (Nat.mul_mod_left _ _) hb, Nat.add_comm]

/-- One byte taken into the state (state, block, bytes in the block). -/
def addB (q : Nat × Nat × Nat) (c : Nat) : Nat × Nat × Nat :=
  if q.2.2 = 7 then (mix (q.1 ^^^ (q.2.1 + c * 2 ^ (8 * q.2.2))), 0, 0) else (q.1, q.2.1 + c * 2 ^ (8 * q.2.2), q.2.2 + 1)
def QOk (q : Nat × Nat × Nat) : Prop := q.1 < 18446744073709551616 ∧ q.2.1 < 2 ^ (8 * q.2.2) ∧ q.2.2 < 8
/-- The three boxes hold the state. -/
structure QBox (w : World) (Bb Bn Bs : Nat) (q : Nat × Nat × Nat) : Prop where
  b : w.heap[Bb]? = some (.cells #[.int .u64 (q.2.1 : Int)] 122 (0, 0))
  n : w.heap[Bn]? = some (.cells #[.int .i64 (q.2.2 : Int)] 3 (0, 0))
  s : w.heap[Bs]? = some (.cells #[.int .u64 (q.1 : Int)] 123 (0, 0))
  h1 : Bb ≠ Bn
  h2 : Bb ≠ Bs
  h3 : Bn ≠ Bs
  ok : QOk q

set_option maxRecDepth 100000 in
set_option maxHeartbeats 400000 in
theorem add_any (Bb Bn Bs : Nat) (c : Nat) (q : Nat × Nat × Nat) (w : World) (hc : c < 256) (hQ : QBox w Bb Bn Bs q) :
    Calls Tryz.prog 102 #[.int .u8 (c : Int), .pointer (some ⟨Bb, 0, none⟩), .pointer (some ⟨Bn, 0, none⟩), .pointer (some ⟨Bs, 0, none⟩)] w fun e w' => e = .returned (.tuple #[]) ∧ QBox w' Bb Bn Bs (addB q c) ∧ Fr [Bb, Bn, Bs] w w' := by
  obtain ⟨s, b, n⟩ := q
  obtain ⟨hBb, hBn, hBs, h1, h2, h3, hs, hb, hn⟩ := hQ
  simp only at hBb hBn hBs hs hb hn
  have hcb := cell_of_one hBb
  have hfb := free_of_one hBb
  have hcn := cell_of_one hBn
  have hfn := free_of_one hBn
  have hcs := cell_of_one hBs
  have hfs := free_of_one hBs
  have h1' := h1.symm
  have h2' := h2.symm
  have h3' := h3.symm
  have HBb := Lib.hid hBb
  have HBn := Lib.hid hBn
  have HBs := Lib.hid hBs
  clear hBb hBn hBs
  have w1 : IntKind.u64.wrap (c : Int) = (c : Int) := by rw [IntKind.wrap_u64]; omega
  have w2 : IntKind.i64.wrap (8 * (n : Int)) = 8 * (n : Int) := IntWalk.i64_in _ (by omega)
  have w3 : (0 : Int) ≤ 8 * (n : Int) := by omega
  have w4 : 8 * (n : Int) ≤ 64 := by omega
  have w5 : (8 * (n : Int)).toNat = 8 * n := by omega
  obtain ⟨sh, hsh, eh, w6, b', hb', eb, w7⟩ := or_shl b c n hb hn hc
  have EB := Lib.hid eb
  clear eh eb
  by_cases h7 : n = 7
  · have H7 := Lib.hid h7
    have t8 : ((n : Int) + 1 == 8) = true := by simp; omega
    have w8 : IntKind.i64.wrap ((n : Int) + 1) = (n : Int) + 1 := IntWalk.i64_in _ (by omega)
    have hb64 : b' < 18446744073709551616 := by rw [h7] at hb'; exact hb'
    clear h7
    go_enter Tryz.func102, Tryz.ntmps102
    go_wp2_with fail
    go_still_tail 7, (by kernel_rfl)
    change wpList _ _ _ _ _ w.drew
    go_wp2_with fail
    have hB3 : ((w.setCell ⟨Bb, 0, none⟩ (.int .u64 (b' : Int))).setCell ⟨Bn, 0, none⟩ (.int .i64 ((n : Int) + 1))).drew.heap[Bs]? = some (.cells #[.int .u64 (s : Int)] 123 (0, 0)) :=
      heap_drew (heap_other (heap_other HBs.out _ _ h2) _ _ h3)
    have hB1 : ((w.setCell ⟨Bb, 0, none⟩ (.int .u64 (b' : Int))).setCell ⟨Bn, 0, none⟩ (.int .i64 ((n : Int) + 1))).drew.heap[Bb]? = some (.cells #[.int .u64 (b' : Int)] 122 (0, 0)) :=
      heap_drew (heap_other (one_setCell HBb.out) _ _ h1')
    have hB2 : ((w.setCell ⟨Bb, 0, none⟩ (.int .u64 (b' : Int))).setCell ⟨Bn, 0, none⟩ (.int .i64 ((n : Int) + 1))).drew.heap[Bn]? = some (.cells #[.int .i64 ((n : Int) + 1)] 3 (0, 0)) :=
      heap_drew (one_setCell (heap_other HBn.out _ _ h1))
    refine (take_any Bs s b' _ hs hb64 hB3).mono ?_
    rintro e w' ⟨rfl, hs', hfr⟩
    have hB1' := hfr.at hB1 (by simp [h2])
    have hB2' := hfr.at hB2 (by simp [h3])
    have hcb' := cell_of_one hB1'
    have hfb' := free_of_one hB1'
    have hcn' := cell_of_one hB2'
    have hfn' := free_of_one hB2'
    have K1 := Lib.hid hB1'
    have K2 := Lib.hid hB2'
    have K3 := Lib.hid hs'
    clear hB1 hB2 hB3 hB1' hB2' hs'
    go_wp2_with fail
    go_end0
    have ha : addB (s, b, n) c = (mix (s ^^^ b'), 0, 0) := by rw [EB.out]; simp [addB, H7.out]
    refine ⟨rfl, ⟨?_, ?_, ?_, h1, h2, h3, ?_⟩, ?_⟩
    · rw [ha]; exact heap_other (one_setCell K1.out) _ _ h1'
    · rw [ha]; exact one_setCell (heap_other K2.out _ _ h1)
    · rw [ha]; exact heap_other (heap_other K3.out _ _ h2) _ _ h3
    · rw [ha]; exact ⟨mix_lt _, by show 0 < 2 ^ (8 * 0); decide, by show 0 < 8; decide⟩
    · have f0 : Fr [Bb, Bn, Bs] w ((w.setCell ⟨Bb, 0, none⟩ (.int .u64 (b' : Int))).setCell ⟨Bn, 0, none⟩ (.int .i64 ((n : Int) + 1))).drew :=
        (((Fr.refl _ w).setCell _ _ (by simp)).setCell _ _ (by simp)).drew
      exact ((f0.trans hfr (by simp)).setCell _ _ (by simp)).setCell _ _ (by simp)
  · have H7 := Lib.hid h7
    have t8 : ((n : Int) + 1 == 8) = false := by simp; omega
    have w8 : IntKind.i64.wrap ((n : Int) + 1) = (n : Int) + 1 := IntWalk.i64_in _ (by omega)
    clear h7
    go_enter Tryz.func102, Tryz.ntmps102
    go_wp2_with fail
    go_still_tail 7, (by kernel_rfl)
    change wpList _ _ _ _ _ w.drew
    go_wp2_with fail
    go_end0
    have ha : addB (s, b, n) c = (s, b', n + 1) := by rw [EB.out]; simp [addB, H7.out]
    refine ⟨rfl, ⟨?_, ?_, ?_, h1, h2, h3, ?_⟩, ?_⟩
    · rw [ha]; exact heap_drew (heap_other (one_setCell HBb.out) _ _ h1')
    · rw [ha]; exact heap_drew (one_setCell (heap_other HBn.out _ _ h1))
    · rw [ha]; exact heap_drew (heap_other (heap_other HBs.out _ _ h2) _ _ h3)
    · rw [ha]; exact ⟨hs, hb', by have := H7.out; show n + 1 < 8; omega⟩
    · exact (((Fr.refl _ w).setCell _ _ (by simp)).setCell _ _ (by simp)).drew
end Go.Proofs.YtjddngbgbbbefaaGreatDoor
namespace Go.Proofs.YtjddngbgbbbefaaGreatDoor
open Go.RowKit

def hexd (d : Nat) : Nat := if d < 10 then 48 + d else 87 + d
/-- The sixteen digits of a state. -/
def hexS (s : Nat) : List UInt8 := (List.range 16).map fun i => UInt8.ofNat (hexd (s / 2 ^ (60 - 4 * i) % 16))
/-- The program's table of digits lies where it was laid. -/
def HexTab (w : World) : Prop := 0 < w.heap.size ∧ ∀ d, d < 16 → w.cell? ⟨0, d, none⟩ = some (.int .u8 (hexd d : Nat))
theorem HexTab.fr {X : List Nat} {w w' : World} (h : HexTab w) (hf : Fr X w w') (hx : 0 ∉ X) : HexTab w' :=
  ⟨Nat.lt_of_lt_of_le h.1 hf.size, fun d hd => hf.cell (h.2 d hd) hx⟩

def textTab (s k : Nat) : Array Value := ((List.range 16).map fun i => Value.int .u8 (if i < k then (hexd (s / 2 ^ (60 - 4 * i) % 16) : Nat) else 0)).toArray

theorem textTab_get (s k i : Nat) (hi : i < 16) : (textTab s k)[i]? = some (.int .u8 (if i < k then (hexd (s / 2 ^ (60 - 4 * i) % 16) : Nat) else 0)) := by
  simp [textTab, hi]
theorem textTab_set (s k : Nat) (hk : k < 16) : (textTab s k).setIfInBounds k (.int .u8 (hexd (s / 2 ^ (60 - 4 * k) % 16) : Nat)) = textTab s (k + 1) := by
  apply Array.ext_getElem?
  intro i
  rw [Array.getElem?_setIfInBounds]
  by_cases hi : i < 16
  · rw [textTab_get s (k + 1) i hi]
    by_cases he : k = i
    · subst he
      simp [textTab, hk]
    · rw [if_neg he, textTab_get s k i hi]
      by_cases h1 : i < k
      · simp [h1, show i < k + 1 by omega]
      · simp [h1, show ¬ i < k + 1 by omega]
  · have h16 : ∀ j, (textTab s j).size = 16 := fun j => by simp [textTab]
    rw [if_neg (by omega), Array.getElem?_eq_none (by rw [h16]; omega), Array.getElem?_eq_none (by rw [h16]; omega)]
theorem textTab_zero (s : Nat) : textTab s 0 = #[.int .u8 0, .int .u8 0, .int .u8 0, .int .u8 0, .int .u8 0, .int .u8 0, .int .u8 0, .int .u8 0, .int .u8 0, .int .u8 0, .int .u8 0, .int .u8 0, .int .u8 0, .int .u8 0, .int .u8 0, .int .u8 0] := rfl

set_option maxRecDepth 100000 in
set_option maxHeartbeats 400000 in
theorem text_any (s : Nat) (w : World) (hs : s < 18446744073709551616) (hT : HexTab w) :
    Calls Tryz.prog 104 #[.int .u64 (s : Int)] w fun e w' => e = .returned (.string ⟨(hexS s).toArray⟩) ∧ Below w.heap.size w w' := by
  have HT := Lib.hid hT
  clear hT
  go_enter Tryz.func104, Tryz.ntmps104
  go_wp2_with fail
  go_loopw [5] (fun i wr => ∃ k : Nat, k ≤ 16 ∧ i = .int .i64 (k : Int) ∧ wr.heap[w.heap.size]? = some (.cells (textTab s k) 146 (0, 0)) ∧ Fr [] w wr) (fun i _ => 16 - (intOf i).toNat)
  case atStart => exact ⟨0, by omega, rfl, by rw [textTab_zero]; exact heap_alloc_new _ _, (Fr.refl _ w).alloc _⟩
  case round =>
    obtain ⟨k, hk, rfl, hb, hfr⟩ := hrel
    have hT' := HT.out.fr hfr (by simp)
    by_cases hlt : k < 16
    · have w1 : IntKind.i64.wrap (4 * (k : Int)) = 4 * (k : Int) := IntWalk.i64_in _ (by omega)
      have w2 : IntKind.i64.wrap (60 - 4 * (k : Int)) = 60 - 4 * (k : Int) := IntWalk.i64_in _ (by omega)
      have w3 : (0 : Int) ≤ 60 - 4 * (k : Int) := by omega
      have w4 : (60 - 4 * (k : Int)).toNat = 60 - 4 * k := by omega
      have hdiv : s / 2 ^ (60 - 4 * k) < 18446744073709551616 := Nat.lt_of_le_of_lt (Nat.div_le_self _ _) hs
      obtain ⟨d, hd, ed, w5⟩ : ∃ d : Nat, d < 16 ∧ d = s / 2 ^ (60 - 4 * k) % 16 ∧ bits .and .u64 ((s : Int) / 2 ^ (60 - 4 * k)) 15 = (d : Int) := by
        refine ⟨_, Nat.mod_lt _ (by decide), rfl, ?_⟩
        rw [show ((s : Int) / 2 ^ (60 - 4 * k)) = ((s / 2 ^ (60 - 4 * k) : Nat) : Int) by simp, show (15 : Int) = ((15 : Nat) : Int) by rfl, u64_and_nat _ _ hdiv (by decide), nat_mask4]
      have ED := Lib.hid ed
      have hc1 := hT'.2 d hd
      have hc2 := row_cell hb k
      rw [textTab_get s k k hlt, if_neg (Nat.lt_irrefl k)] at hc2
      have hf2 := row_free hb k
      have HB := Lib.hid hb
      clear hb ed hT'
      go_wp2_with fail
      go_roundw
      case rel => exact ⟨k + 1, by omega, by go_num, by rw [← textTab_set s k hlt, ← ED.out]; exact row_set HB.out k _, hfr.setCell _ _ (by simp)⟩
      case measure => simp [intOf]; omega
    · have hke : k = 16 := by omega
      subst hke
      have kc := run_convert_bytes_back (P := Tryz.prog) wr 88 9 5 ⟨w.heap.size, 0, none⟩ 16 (hexS s) Tryz.underlying88 Tryz.underlying5 Tryz.underlying9 (fun j hj => by
        have hj' : j < 16 := by simpa [hexS] using hj
        rw [show (⟨w.heap.size, 0, none⟩ : Addr).add j = ⟨w.heap.size, j, none⟩ by simp [Addr.add]; omega, row_cell hb j, textTab_get s 16 j hj', if_pos hj']
        have h2 : ∀ d, d < 16 → hexd d < 256 := by decide
        simp [hexS, Nat.mod_eq_of_lt (h2 _ (Nat.mod_lt _ (by decide)))])
      rw [show (hexS s).length = 16 by simp [hexS]] at kc
      have HB := Lib.hid hb
      clear hb hT'
      go_wp2_with fail
      go_ret
      exact ⟨rfl, hfr.toBelow (by simp)⟩

def q0 : Nat × Nat × Nat := (7046029254386353131, 0, 0)
def sumQ (l : List UInt8) : Nat × Nat × Nat := l.foldl (fun q c => addB q c.toNat) q0
def padQ : Nat → Nat × Nat × Nat → Nat × Nat × Nat
  | 0, q => q
  | f + 1, q => if q.2.2 = 0 then q else padQ f (addB q 0)
/-- The digest of a text, as the program computes it. -/
def dsum (l : List UInt8) : List UInt8 := hexS (padQ 8 (addB (sumQ l) 1)).1
theorem addB_ok {q : Nat × Nat × Nat} {c : Nat} (h : QOk q) (hc : c < 256) : QOk (addB q c) := by
  obtain ⟨s, b, n⟩ := q
  obtain ⟨h1, h2, h3⟩ := h
  simp only at h1 h2 h3
  unfold addB
  by_cases h7 : n = 7
  · simp only [h7, if_true]; exact ⟨mix_lt _, by show 0 < 2 ^ (8 * 0); decide, by show 0 < 8; decide⟩
  · simp only [h7, if_false]
    obtain ⟨_, _, _, _, b', hb', eb, _⟩ := or_shl b c n h2 h3 hc
    exact ⟨h1, by rw [← eb]; exact hb', by show n + 1 < 8; omega⟩
theorem sumQ_snoc (l : List UInt8) (k : Nat) (hk : k < l.length) : sumQ (l.take (k + 1)) = addB (sumQ (l.take k)) l[k].toNat := by
  unfold sumQ
  rw [List.take_succ_eq_append_getElem hk, List.foldl_append]
  rfl

set_option maxRecDepth 100000 in
set_option maxHeartbeats 400000 in
theorem sum_any (s : ByteArray) (w : World) (hs : s.size ≤ 9223372036854775807) (hT : HexTab w) :
    Calls Tryz.prog 62 #[.string s] w fun e w' => e = .returned (.string ⟨(dsum s.data.toList).toArray⟩) ∧ Below w.heap.size w w' := by
  have HT := Lib.hid hT
  clear hT
  go_enter Tryz.func62, Tryz.ntmps62
  go_wp2_with fail
  have hq0 : QBox (((w.alloc (.cells #[.int .u64 7046029254386353131] 123)).alloc (.cells #[.int .u64 0] 122)).alloc (.cells #[.int .i64 0] 3)) (w.heap.size + 1) (w.heap.size + 1 + 1) w.heap.size q0 :=
    ⟨heap_past _ (heap_new (by simp)), heap_new (by simp), heap_past _ (heap_past _ (heap_new rfl)), by omega, by omega, by omega, by decide, by decide, by decide⟩
  go_loopw [11] (fun i wr => ∃ k : Nat, k ≤ s.size ∧ i = .int .i64 (k : Int) ∧ QBox wr (w.heap.size + 1) (w.heap.size + 1 + 1) w.heap.size (sumQ (s.data.toList.take k)) ∧ Fr [] w wr) (fun i _ => s.size - (intOf i).toNat)
  case atStart => exact ⟨0, Nat.zero_le _, rfl, hq0, (((Fr.refl _ w).alloc _).alloc _).alloc _⟩
  case round =>
    obtain ⟨k, hk, rfl, hQ, hfr⟩ := hrel
    have HQ := Lib.hid hQ
    clear hQ
    by_cases hlt : k < s.size
    · have hl : k < s.data.toList.length := by simpa using hlt
      go_wp2_with fail
      refine (add_any _ _ _ s[k].toNat _ _ s[k].toNat_lt HQ.out).mono ?_
      rintro e w' ⟨rfl, hQ', hf'⟩
      have hfr' : Fr [] w w' := hfr.trans hf' (by have := hfr.size; simp; omega)
      have HQ' := Lib.hid hQ'
      clear hQ' hfr hf'
      go_wp2_with fail
      go_roundw
      case rel => exact ⟨k + 1, by omega, by go_num, by rw [sumQ_snoc _ _ hl]; exact HQ'.out, hfr'⟩
      case measure => simp [intOf]; omega
    · have hke : k = s.data.toList.length := by simp; omega
      have HQ2 : Hid (QBox wr (w.heap.size + 1) (w.heap.size + 1 + 1) w.heap.size (sumQ s.data.toList)) := by
        have := HQ.out; rw [hke, List.take_length] at this; exact this
      clear HQ hke
      go_wp2_with fail
      refine (add_any _ _ _ 1 _ _ (by decide) HQ2.out).mono ?_
      rintro e w1 ⟨rfl, hQ1, hf1⟩
      have hfr1 : Fr [] w w1 := hfr.trans hf1 (by have := hfr.size; simp; omega)
      have hcn1 := cell_of_one hQ1.n
      have HQ1 := Lib.hid hQ1
      clear hQ1 hfr hf1 HQ2
      go_wp2_with fail
      clear hcn1
      obtain ⟨q1, eq1⟩ : ∃ q1, q1 = addB (sumQ s.data.toList) 1 := ⟨_, rfl⟩
      have HQ1' : Hid (QBox w1 (w.heap.size + 1) (w.heap.size + 1 + 1) w.heap.size q1) := by have := HQ1.out; rw [← eq1] at this; exact this
      have EQ1 := Lib.hid eq1
      clear HQ1 eq1
      go_loopg [22] 8 (fun g _ wr => ∃ q, QBox wr (w.heap.size + 1) (w.heap.size + 1 + 1) w.heap.size q ∧ Fr [] w wr ∧ padQ g q = padQ 8 q1 ∧ (q.2.2 = 0 ∨ 8 - q.2.2 ≤ g))
      case atStart => exact ⟨q1, HQ1'.out, hfr1, rfl, by omega⟩
      case round =>
        obtain ⟨q, hQ, hfr2, hp, hg⟩ := hrel
        obtain ⟨qs, qb, qn⟩ := q
        have hok := hQ.ok
        simp only at hg
        have hcn2 := cell_of_one hQ.n
        have hcs2 := cell_of_one hQ.s
        simp only at hcn2 hcs2
        have HQ := Lib.hid hQ
        have HP := Lib.hid hp
        clear hQ hp
        by_cases hz : qn = 0
        · have t0 : decide (0 < qn) = false := by simp; omega
          have HZ := Lib.hid hz
          have hlt1 := hok.1
          simp only at hlt1
          clear hz hg hok
          go_wp2_with fail
          refine (text_any qs _ hlt1 (HT.out.fr hfr2 (by simp))).mono ?_
          rintro e w3 ⟨rfl, hb3⟩
          have hfin : dsum s.data.toList = hexS qs := by
            unfold dsum
            rw [← EQ1.out, ← HP.out]
            cases gk with
            | zero => rfl
            | succ f => rw [padQ, if_pos (by exact HZ.out)]
          have HF := Lib.hid hfin
          clear hfin
          go_wp2_with fail
          go_ret
          exact ⟨by rw [HF.out]; rfl, (hfr2.below hb3 hfr2.size).toBelow (by simp)⟩
        · have t0 : decide (0 < qn) = true := by simp; omega
          have HZ := Lib.hid hz
          have hlt8 := hok.2.2
          simp only at hlt8
          have hg1 : 8 - qn ≤ gk := by omega
          clear hz hg hok
          go_wp2_with fail
          refine (add_any _ _ _ 0 _ _ (by decide) HQ.out).mono ?_
          rintro e w3 ⟨rfl, hQ3, hf3⟩
          have hfr3 : Fr [] w w3 := hfr2.trans hf3 (by have := hfr2.size; simp; omega)
          have HQ3 := Lib.hid hQ3
          clear hQ3 hfr2 hf3
          go_wp2_with fail
          obtain ⟨f, rfl⟩ : ∃ f, gk = f + 1 := ⟨gk - 1, by omega⟩
          go_roundg f
          case measure => omega
          case rel =>
            refine ⟨_, HQ3.out, hfr3, ?_, ?_⟩
            · rw [← HP.out, padQ, if_neg (by exact HZ.out)]
            · simp only [addB]
              split
              · exact Or.inl rfl
              · right; show 8 - (qn + 1) ≤ f; omega
end Go.Proofs.YtjddngbgbbbefaaGreatDoor
namespace Go.Proofs.YtjddngbgbbbefaaGreatDoor
open Go.RowKit Go.Shelf

theorem bInfoByte : (Tryz.prog.info? 5).map (fun i => (i.zero, i.size, i.bytes)) = some (some (.int .u8 0), 1, 1) := by kernel_rfl
theorem bSize : (Tryz.prog.info? 90).map (·.size) = some 2 := by kernel_rfl
theorem bLies : liesAt Tryz.prog Tryz.prog.depth 90 (2 / Tryz.prog.cellsOf 90) 0 90 1 = true := by kernel_rfl

set_option maxHeartbeats 1000000 in
set_option maxRecDepth 100000 in
theorem copyCheck_used (b : Nat) (w : World) (h0 : w.cell? ⟨b, 0, none⟩ = some (.pointer (some ⟨b, 0, none⟩))) :
    Calls Tryz.prog 100 #[.pointer (some ⟨b, 0, none⟩)] w fun e w' => e = .returned (.tuple #[]) ∧ w' = w := by
  obtain ⟨j, hj, _⟩ := Option.map_eq_some_iff.1 bSize
  go_enter Tryz.func100, Tryz.ntmps100
  go_wp2
  rw [Lib.run_neq_ptr_same w _ Tryz.underlying87 hj]
  go_wp2
  go_end0
  exact ⟨rfl, rfl⟩

set_option maxHeartbeats 1000000 in
set_option maxRecDepth 100000 in
theorem copyCheck_fresh (b : Nat) (w : World) (h0 : w.cell? ⟨b, 0, none⟩ = some (.pointer none)) (hsh : w.shape? b = some (90, 2)) (hfz : w.frozen? ⟨b, 0, none⟩ = false) :
    Calls Tryz.prog 100 #[.pointer (some ⟨b, 0, none⟩)] w fun e w' => e = .returned (.tuple #[]) ∧ w' = w.setCell ⟨b, 0, none⟩ (.pointer (some ⟨b, 0, none⟩)) := by
  obtain ⟨j, hj, hjs⟩ := Option.map_eq_some_iff.1 bSize
  go_enter Tryz.func100, Tryz.ntmps100
  go_wp2
  rw [Lib.run_to_unsafe w ⟨b, 0, none⟩ Tryz.underlying87 Tryz.underlying138 hj (by rw [hjs]; decide) hsh (Nat.zero_lt_succ 1)]
  simp only [Result.andThen]
  rw [Oper.upon_value]
  go_wp2
  rw [run_callFunc_extern Tryz.func118 (by kernel_rfl) (by kernel_rfl) (by kernel_rfl) (e := Extern.AbiNoEscape.same) (by kernel_rfl)]
  rw [Lib.run_noEscape]
  simp only [Result.andThen]
  rw [Oper.upon_value]
  go_wp2
  rw [Lib.run_from_unsafe w ⟨b, 0, none⟩ Tryz.underlying138 Tryz.underlying87 hj hsh bLies]
  simp only [Result.andThen]
  rw [Oper.upon_value]
  go_wp2
  go_end0
  exact ⟨rfl, rfl⟩

theorem copyCheck_any (B b : Nat) (bs : List Value) (w : World) (h : Lib.IsBuilder 90 5 B b bs w) :
    Calls Tryz.prog 100 #[.pointer (some ⟨b, 0, none⟩)] w fun e w' => e = .returned (.tuple #[]) ∧ (Lib.BuilderAt 90 5 B b (.pointer (some ⟨b, 0, none⟩)) bs w' ∧ Below B w w') := by
  rcases h with h | h
  · refine (copyCheck_fresh b w h.cell0 h.shape h.frozen0).mono ?_
    rintro e w' ⟨rfl, rfl⟩
    exact ⟨rfl, h.used _, (Below.refl B w).setCell (p := ⟨b, 0, none⟩) h.1 _⟩
  · refine (copyCheck_used b w h.cell0).mono ?_
    rintro e w' ⟨rfl, rfl⟩
    exact ⟨rfl, h, Below.refl B _⟩

set_option maxHeartbeats 2000000 in
set_option maxRecDepth 100000 in
theorem writeString_any (B b : Nat) (bs : List Value) (s : ByteArray) (w : World) (h : Lib.IsBuilder 90 5 B b bs w) (hlen : bs.length + s.size ≤ 140737488355328) (hBw : B ≤ w.heap.size) :
    Calls Tryz.prog 60 #[.pointer (some ⟨b, 0, none⟩), .string s] w fun e w' => e = .returned (.tuple #[.int .i64 s.size, .nilIface]) ∧ (Lib.IsBuilder 90 5 B b (bs ++ Lib.strCells s) w' ∧ Below B w w') := by
  obtain ⟨i0, hi, hz0, hz1, hz2⟩ := info_parts bInfoByte
  go_enter Tryz.func60, Tryz.ntmps60
  go_wp2_with fail
  refine (copyCheck_any B b bs _ h).mono ?_
  rintro e w1 ⟨rfl, h1, hb1⟩
  obtain ⟨hB, v, hbk, hown, hne⟩ := h1
  have c0 : w1.cell? ⟨b, 0, none⟩ = some (.pointer (some ⟨b, 0, none⟩)) := by rw [Lib.cell_of_heap hbk]; rfl
  have c1 : w1.cell? ⟨b, 1, none⟩ = some v := by rw [Lib.cell_of_heap hbk]; rfl
  go_wp2_with (at_builtin; refine Lib.wpList_append_own_string _ rfl _ _ 88 9 rfl B 5 i0 Tryz.underlying88 Tryz.underlying9 hi hz0 hz1 hz2 _ _ _ rfl hown s rfl ?c3 ?c4 ?c5 ?_)
  case c3 => unfold maxLen; omega
  case c4 => omega
  case c5 => have := hb1.size; omega
  intro v' w2 hown' hgrow _
  have hlt : b < w1.heap.size := lt_of_block hbk
  have hb2 : w2.heap[b]? = some (.cells #[.pointer (some ⟨b, 0, none⟩), v] 90 (0, 0)) := by
    rw [hgrow.block b hlt (fun e => hne e.symm)]
    exact hbk
  have d0 : w2.cell? ⟨b, 0, none⟩ = some (.pointer (some ⟨b, 0, none⟩)) := by rw [Lib.cell_of_heap hb2]; rfl
  have d1 : w2.cell? ⟨b, 1, none⟩ = some v := by rw [Lib.cell_of_heap hb2]; rfl
  have f1 : w2.frozen? ⟨b, 1, none⟩ = false := Lib.frozen_of_heap hb2 1
  obtain ⟨ao, n', cap, rfl⟩ : ∃ ao n' cap, v' = .slice ao n' cap := by
    rcases hown'.2 with ⟨hv, _⟩ | ⟨g, cap, cur, hv, _⟩
    · exact ⟨_, _, _, hv⟩
    · exact ⟨_, _, _, hv⟩
  go_wp2
  go_ret2
  refine ⟨rfl, Or.inr ?_, ?_⟩
  · exact Lib.BuilderAt.put (T := 90) (e := 5) hB hb2 (bs' := bs ++ Lib.strCells s) (by simpa [Lib.strCells_length] using hown') (by decide)
  · exact (hb1.grown hgrow (by have := hb1.size; omega) (fun k hk => (hown.lt k hk).1)).setCell (p := ⟨b, 1, none⟩) hB _
end Go.Proofs.YtjddngbgbbbefaaGreatDoor
namespace Go.Proofs.YtjddngbgbbbefaaGreatDoor
open Go.RowKit Go.Shelf

theorem ownsRow_fr {X : List Nat} {w w' : World} {base : Nat} {e : TypeId} {size : Nat} {v : Value} {n : Nat} {xs : List Value} (h : w.ownsRow base e size v n xs) (hf : Fr X w w') (hx : ∀ k, v.ownBlock = some k → k ∉ X) : w'.ownsRow base e size v n xs := by
  obtain ⟨h1, h2⟩ := h
  refine ⟨h1, ?_⟩
  rcases h2 with h2 | ⟨g, cap, cur, hv, hb, hg, h3⟩
  · exact Or.inl h2
  · exact Or.inr ⟨g, cap, cur, hv, hb, hf.at hg (hx g (by rw [hv]; rfl)), h3⟩
theorem isBuilder_fr {w w' : World} {T e : TypeId} {B b : Nat} {bs : List Value} (h : Lib.IsBuilder T e B b bs w) (hf : Fr [] w w') : Lib.IsBuilder T e B b bs w' := by
  have key : ∀ p, Lib.BuilderAt T e B b p bs w → Lib.BuilderAt T e B b p bs w' := by
    rintro p ⟨h1, v, h2, h3, h4⟩
    exact ⟨h1, v, hf.at h2 (by simp), ownsRow_fr h3 hf (by simp), h4⟩
  exact h.elim (fun h => Or.inl (key _ h)) (fun h => Or.inr (key _ h))

/-- The package-level tables lie where they were laid. -/
structure Tabs (w : World) : Prop where
  hex : HexTab w
  pow : Lib.TabIs Tryz.prog w "internal/strconv.uint64pow10" .u64 Lib.pow10Tab
theorem gPow : Tryz.prog.globalNamed "internal/strconv.uint64pow10" = some 1 := by kernel_rfl
theorem tabIs_fr {w w' : World} {X : List Nat} {name : String} {k : IntKind} {zs : List Int} {g : Nat} (hg : Tryz.prog.globalNamed name = some g) (h : Lib.TabIs Tryz.prog w name k zs) (hf : Fr X w w') (hx : g ∉ X) : Lib.TabIs Tryz.prog w' name k zs := by
  unfold Lib.TabIs World.var? at *
  simp only [hg, Option.bind_some] at h ⊢
  have hlt : g < w.heap.size := by
    rcases Nat.lt_or_ge g w.heap.size with h' | h'
    · exact h'
    · rw [Array.getElem?_eq_none h'] at h; cases h
  rw [hf.block g hlt hx]
  exact h
theorem Tabs.fr {w w' : World} (h : Tabs w) (hf : Fr [] w w') : Tabs w' := ⟨h.hex.fr hf (by simp), tabIs_fr gPow h.pow hf (by simp)⟩
theorem Tabs.below {w w' : World} {B : Nat} (h : Tabs w) (hb : Below B w w') (hB : w.heap.size ≤ B) : Tabs w' := h.fr ((Fr.refl [] w).below hb hB)

theorem itoa_any (n : Nat) (w : World) (h : n ≤ 9223372036854775807) (hT : Tabs w) :
    Calls Tryz.prog 61 #[.int .i64 (n : Int)] w fun e w' => e = .returned (.string ⟨(Lib.decDigits n).toArray⟩) ∧ Below w.heap.size w w' := by
  refine (Tryz.strconv_Itoa n (by omega) (by omega) w hT.pow).mono ?_
  rintro e w' ⟨rfl, k, os, rfl⟩
  refine ⟨by rw [Lib.itoa_nonneg], rfl, rfl, rfl, ?_, ?_⟩
  · simp [Go.Sort.grow, World.drewN]
  · intro i hi
    simp only [Go.Sort.grow, World.drewN] at hi ⊢
    rw [Array.getElem?_append_left (by simpa using hi)]

/-- The value is a slice of strings: nil, or cells that hold them. -/
def Strs (w : World) (v : Value) (l : List (List UInt8)) : Prop :=
  (v = .slice none 0 0 ∧ l = []) ∨ ∃ b off cap, v = .slice (some ⟨b, off, none⟩) l.length cap ∧ l.length ≤ cap ∧ cap ≤ 9223372036854775807 ∧ b < w.heap.size ∧
    ∀ i, i < l.length → w.cell? ⟨b, off + i, none⟩ = some (.string ⟨(l.getD i []).toArray⟩)
theorem Strs.fr {X : List Nat} {w w' : World} {v : Value} {l : List (List UInt8)} (h : Strs w v l) (hf : Fr X w w') (hx : ∀ b, v.ownBlock = some b → b ∉ X) : Strs w' v l := by
  rcases h with h | ⟨b, off, cap, hv, h1, h2, h3, h4⟩
  · exact Or.inl h
  · exact Or.inr ⟨b, off, cap, hv, h1, h2, Nat.lt_of_lt_of_le h3 hf.size, fun i hi => hf.cell (h4 i hi) (hx b (by rw [hv]; rfl))⟩
theorem Strs.fr0 {w w' : World} {v : Value} {l : List (List UInt8)} (h : Strs w v l) (hf : Fr [] w w') : Strs w' v l := h.fr hf (by simp)
theorem Strs.form {w : World} {v : Value} {l : List (List UInt8)} (h : Strs w v l) : ∃ a cap, v = .slice a l.length cap ∧ l.length ≤ 9223372036854775807 ∧ (∀ i, i < l.length → ∃ b off, a = some ⟨b, off, none⟩) := by
  rcases h with ⟨rfl, rfl⟩ | ⟨b, off, cap, hv, h1, h2, h3, h4⟩
  · exact ⟨none, 0, rfl, by simp, fun i hi => by simp at hi⟩
  · exact ⟨_, cap, hv, by omega, fun i _ => ⟨b, off, rfl⟩⟩

/-- One element as digest.List writes it; a list of them. -/
def joinE (s : List UInt8) : List UInt8 := Lib.decDigits s.length ++ 58 :: s
def joinL (l : List (List UInt8)) : List UInt8 := l.flatMap joinE
def dlist (l : List (List UInt8)) : List UInt8 := dsum (joinL l)
theorem joinL_snoc (l : List (List UInt8)) (k : Nat) (hk : k < l.length) : joinL (l.take (k + 1)) = joinL (l.take k) ++ joinE (l.getD k []) := by
  unfold joinL
  rw [List.take_succ_eq_append_getElem hk, List.flatMap_append, List.flatMap_singleton, List.getD_eq_getElem?_getD, List.getElem?_eq_getElem hk]
  rfl
theorem joinE_le (l : List (List UInt8)) (k : Nat) (hk : k < l.length) : (joinL (l.take k)).length + (joinE (l.getD k [])).length ≤ (joinL l).length := by
  have h1 := joinL_snoc l k hk
  have h2 : (joinL (l.take (k + 1))).length ≤ (joinL l).length := by
    unfold joinL
    conv => rhs; rw [← List.take_append_drop (k + 1) l]
    rw [List.flatMap_append, List.length_append]
    omega
  rw [h1, List.length_append] at h2
  exact h2
theorem Strs.cell {w : World} {b off cap : Nat} {l : List (List UInt8)} (h : Strs w (.slice (some ⟨b, off, none⟩) l.length cap) l) (k : Nat) (hk : k < l.length) : w.cell? ⟨b, off + k, none⟩ = some (.string ⟨(l.getD k []).toArray⟩) := by
  rcases h with ⟨h, _⟩ | ⟨b', off', cap', hv, _, _, _, h4⟩
  · cases h
  · cases hv; exact h4 k hk
theorem joinL_le (l : List (List UInt8)) (k : Nat) : (joinL (l.take k)).length ≤ (joinL l).length := by
  unfold joinL
  conv => rhs; rw [← List.take_append_drop k l]
  rw [List.flatMap_append, List.length_append]
  omega

set_option maxRecDepth 100000 in
set_option maxHeartbeats 1000000 in
theorem list_any (v : Value) (l : List (List UInt8)) (w : World) (hv : Strs w v l) (hl : (joinL l).length ≤ 140737488355328) (hT : Tabs w) :
    Calls Tryz.prog 19 #[v] w fun e w' => e = .returned (.string ⟨(dlist l).toArray⟩) ∧ Below w.heap.size w w' := by
  have hv0 := hv
  obtain ⟨a, cap, rfl, hlen, ha⟩ := hv.form
  have HV := Lib.hid hv0
  have HT := Lib.hid hT
  clear hv hv0 hT
  go_enter Tryz.func19, Tryz.ntmps19
  go_wp2_with fail
  go_loopg [8] l.length (fun g i wr => ∃ k : Nat, k ≤ l.length ∧ g = l.length - k ∧ i = .int .i64 (k : Int) ∧ Lib.IsBuilder 90 5 w.heap.size w.heap.size (Lib.byteCells (joinL (l.take k))) wr ∧ Fr [] w wr)
  case atStart => exact ⟨0, Nat.zero_le _, by omega, rfl, Lib.fresh_isBuilder _ _ _, (Fr.refl _ w).alloc _⟩
  case round =>
    obtain ⟨k, hk, hg, rfl, hbu, hfr⟩ := hrel
    have HG := Lib.hid hg
    have HB := Lib.hid hbu
    clear hg hbu
    by_cases hlt : k < l.length
    · obtain ⟨b, off, rfl⟩ := ha k hlt
      have hcell := (HV.out.fr0 hfr).cell k hlt
      have hE := joinE_le l k hlt
      have HS := Lib.hid (joinL_snoc l k hlt)
      generalize l.getD k [] = s at hcell hE HS
      have hd : (Lib.decDigits s.length).length + (s.length + 1) ≤ 140737488355328 := by simp only [joinE, List.length_append, List.length_cons] at hE; omega
      have hsl : s.length ≤ 140737488355328 := by simp only [joinE, List.length_append, List.length_cons] at hE; omega
      have hsz : (ByteArray.mk s.toArray).size = s.length := by simp [ByteArray.size]
      go_wp2_with fail
      refine (itoa_any s.length wr (by omega) (HT.out.fr hfr)).mono ?_
      rintro e w1 ⟨rfl, hb1⟩
      have hfr1 : Fr [] w w1 := hfr.below hb1 hfr.size
      have HB1 := Lib.hid (isBuilder_fr HB.out (Fr.ofBelow hb1))
      clear hfr hb1 HB hcell
      go_wp2_with fail
      rw [show (⟨(Lib.decDigits s.length).toArray⟩ : ByteArray) ++ ⟨#[58]⟩ ++ ⟨s.toArray⟩ = ⟨(joinE s).toArray⟩ by
        rw [show (⟨#[58]⟩ : ByteArray) = ⟨[58].toArray⟩ by rfl, ba_append, ba_append]; simp [joinE]]
      refine (writeString_any w.heap.size w.heap.size _ ⟨(joinE s).toArray⟩ w1 HB1.out (by rw [Lib.byteCells_length, ba_size]; omega) hfr1.size).mono ?_
      rintro e w2 ⟨rfl, hB2, hb2⟩
      have hfr2 : Fr [] w w2 := hfr1.below hb2 (Nat.le_refl _)
      have HB2 : Hid (Lib.IsBuilder 90 5 w.heap.size w.heap.size (Lib.byteCells (joinL (l.take (k + 1)))) w2) := by
        rw [HS.out, Lib.byteCells_append]; exact hB2
      clear hB2 hfr1 hb2 HB1
      go_wp2_with fail
      go_roundg (l.length - (k + 1))
      case measure => have := HG.out; omega
      case rel => exact ⟨k + 1, by omega, rfl, by go_num, HB2.out, hfr2⟩
    · obtain rfl : k = l.length := by omega
      have HB1 : Hid (Lib.IsBuilder 90 5 w.heap.size w.heap.size (Lib.byteCells (joinL l)) wr) := by have := HB.out; rw [List.take_length] at this; exact this
      clear HB
      go_wp2_with fail
      refine (Tryz.Builder_String_any w.heap.size w.heap.size (joinL l) wr HB1.out hfr.size).mono ?_
      rintro e w1 ⟨rfl, hb1⟩
      have hfr1 : Fr [] w w1 := hfr.below hb1 (Nat.le_refl _)
      clear hfr hb1
      go_wp2_with fail
      refine (sum_any ⟨(joinL l).toArray⟩ w1 (by simp [ByteArray.size]; omega) (HT.out.hex.fr hfr1 (by simp))).mono ?_
      rintro e w2 ⟨rfl, hb2⟩
      go_wp2_with fail
      go_ret
      exact ⟨rfl, (hfr1.below hb2 hfr1.size).toBelow (by simp)⟩
end Go.Proofs.YtjddngbgbbbefaaGreatDoor
