/-
  The reference of layer 36: Count; foyerlaw36.size.
-/
import Derived.Test.YtnmakpiddfhhnaaGreatDoorPlnFj
namespace Go.Proofs.YtnmakpiddfhhnaaGreatDoor
open Go.RowKit

set_option maxRecDepth 100000 in
set_option maxHeartbeats 1000000 in
theorem size_any (rb rh : Nat) (w : World) (hb : rb < 256) (hh : rh < 256) :
    Calls Tryz.prog 22 #[.int .u8 (rb : Int), .int .u8 (rh : Int)] w fun e w' => e = .returned (.tuple #[.int .i64 ((64 * (1 + rb % 64) : Nat) : Int), .int .i64 ((1 + rh % 8 : Nat) : Int)]) ∧ w = w' := by
  obtain ⟨m, hm, hm64, em⟩ : ∃ m : Nat, rb % 64 = m ∧ m < 64 ∧ (rb : Int).tmod 64 = (m : Int) := ⟨_, rfl, by omega, by rw [Int.tmod_eq_emod_of_nonneg (by omega)]; omega⟩
  obtain ⟨n, hn, hn8, en⟩ : ∃ n : Nat, rh % 8 = n ∧ n < 8 ∧ (rh : Int).tmod 8 = (n : Int) := ⟨_, rfl, by omega, by rw [Int.tmod_eq_emod_of_nonneg (by omega)]; omega⟩
  rw [hm, hn]
  have w1 : IntKind.i64.wrap (rb : Int) = (rb : Int) := IntWalk.i64_in _ (by omega)
  have w2 : IntKind.i64.wrap (rh : Int) = (rh : Int) := IntWalk.i64_in _ (by omega)
  have w3 : IntKind.i64.wrap (m : Int) = (m : Int) := IntWalk.i64_in _ (by omega)
  have w4 : IntKind.i64.wrap (n : Int) = (n : Int) := IntWalk.i64_in _ (by omega)
  have w5 : IntKind.i64.wrap (1 + (m : Int)) = 1 + (m : Int) := IntWalk.i64_in _ (by omega)
  have w6 : IntKind.i64.wrap (1 + (n : Int)) = 1 + (n : Int) := IntWalk.i64_in _ (by omega)
  have w7 : IntKind.i64.wrap (64 * (1 + (m : Int))) = 64 * (1 + (m : Int)) := IntWalk.i64_in _ (by omega)
  clear hm hn
  go_enter Tryz.func22, Tryz.ntmps22
  go_wp2_with fail
  go_ret2
  exact ⟨by simp, rfl⟩
/-- How many of the first bits are set. -/
def cntP (W : List Nat) (m : Nat) : Nat := (List.range m).countP (bitW W)
theorem cntP_succ (W : List Nat) (m : Nat) : cntP W (m + 1) = cntP W m + (if bitW W m then 1 else 0) := by
  unfold cntP
  rw [List.range_succ, List.countP_append, List.countP_singleton]
theorem cntP_le (W : List Nat) (m : Nat) : cntP W m ≤ m := by
  unfold cntP
  have := List.countP_le_length (p := bitW W) (l := List.range m)
  rwa [List.length_range] at this
set_option maxRecDepth 100000 in
set_option maxHeartbeats 4000000 in
theorem rcount36_any (v : Value) (f : Flt) (w : World) (hv : FltR w v f) (hW : W64 f.words) (hl : f.words.length ≤ 1000000) :
    Calls Tryz.prog 23 #[v] w fun e w' => e = .returned (.int .i64 (cntW f.words : Nat)) ∧ Below w.heap.size w w' := by
  obtain ⟨v1, rfl, hw1⟩ := hv
  obtain ⟨a1, cap1, rfl, hl1, hc1, hf1⟩ := hw1.form
  have HW1 := Lib.hid hw1
  clear hw1
  obtain ⟨r, er⟩ : ∃ r, r = cntW f.words := ⟨_, rfl⟩
  rw [← er]
  have ER : Hid (r = cntP f.words (64 * f.words.length)) := Lib.hid er
  clear er
  obtain ⟨W0, hW0⟩ : ∃ W0, W0 = w.alloc (.cells #[.int .i64 f.bits, .int .i64 f.hashes, .slice a1 f.words.length cap1] 24) := ⟨_, rfl⟩
  obtain ⟨p, ep⟩ : ∃ p, p = w.heap.size := ⟨_, rfl⟩
  have h0 : Fr [] w W0 := by rw [hW0]; exact (Fr.refl [] w).alloc _
  have hp0 : W0.heap[p]? = some (.cells #[.int .i64 f.bits, .int .i64 f.hashes, .slice a1 f.words.length cap1] 24 (0, 0)) := by rw [hW0, ep]; exact heap_new rfl
  have c2 := row_cell hp0 2
  simp at c2
  have H0 := Lib.hid h0
  go_enter Tryz.func23, Tryz.ntmps23
  go_wp2_with fail
  rw [← hW0, ← ep]
  clear hW0 ep h0
  go_loopg [3, 4] f.words.length (fun gh n i wr => ∃ k : Nat, k ≤ f.words.length ∧ gh = f.words.length - k ∧ i = .int .i64 (k : Int) ∧ n = .int .i64 (cntP f.words (64 * k) : Nat) ∧ W0 = wr)
  case atStart => exact ⟨0, by omega, by omega, rfl, rfl, rfl⟩
  case round =>
    obtain ⟨k, hk, hgh, rfl, rfl, rfl⟩ := hrel
    have HG := Lib.hid hgh
    clear hgh
    by_cases hlt : k < f.words.length
    · have t1 : decide ((k : Int) < (f.words.length : Int)) = true := by simp; omega
      obtain ⟨b1, o1, rfl⟩ := hf1 k hlt
      have cx : W0.cell? ⟨b1, o1 + k, none⟩ = some (.int .u64 (f.words.getD k 0 : Nat)) := by
        rcases HW1.out with ⟨h0, _⟩ | ⟨b', off', cap', h0, _, _, _, h4⟩
        · cases h0
        · cases h0; exact H0.out.cell (h4 k hlt) (by simp)
      have hX := hW.at k
      rw [show (2 : Nat) ^ 64 = 18446744073709551616 by decide] at hX
      have HBIT : Hid (∀ j, j < 64 → bitW f.words (64 * k + j) = (f.words.getD k 0).testBit j) := Lib.hid (fun j hj => by
        unfold bitW
        rw [show (64 * k + j) / 64 = k by omega, show (64 * k + j) % 64 = j by omega])
      generalize f.words.getD k 0 = X at cx hX HBIT
      have i0 : (0 : Int) ≤ (k : Int) := by omega
      have i1 : (k : Int) < (f.words.length : Int) := by omega
      go_wp2_with fail
      go_loopg [3, 5] 64 (fun gh n i wr => ∃ j : Nat, j ≤ 64 ∧ gh = 64 - j ∧ i = .int .i64 (j : Int) ∧ n = .int .i64 (cntP f.words (64 * k + j) : Nat) ∧ W0 = wr)
      case atStart => exact ⟨0, by omega, by omega, rfl, rfl, rfl⟩
      case round =>
        obtain ⟨j, hj, hgh, rfl, rfl, rfl⟩ := hrel
        have HG2 := Lib.hid hgh
        clear hgh
        by_cases hj64 : j < 64
        · have t2 : decide ((j : Int) < 64) = true := by simp; omega
          have HSU := Lib.hid (cntP_succ f.words (64 * k + j))
          have hle := cntP_le f.words (64 * k + j)
          have hbt := HBIT.out j hj64
          have hba := bit_and X j hX
          rw [← hbt] at hba
          obtain ⟨d, hd, hd1⟩ : ∃ d : Nat, Go.bits .and .u64 ((X : Int) / 2 ^ j) 1 = (d : Int) ∧ d = (if bitW f.words (64 * k + j) then 1 else 0) := by
            have h1 : (X : Int) / 2 ^ j = ((X / 2 ^ j : Nat) : Int) := by rw [Int.natCast_ediv]; simp
            have h2 : X / 2 ^ j < 18446744073709551616 := Nat.lt_of_le_of_lt (Nat.div_le_self _ _) hX
            have h3 := u64_and_nat (X / 2 ^ j) 1 h2 (by decide)
            refine ⟨X / 2 ^ j % 2, by rw [h1, show (1 : Int) = ((1 : Nat) : Int) from rfl, h3, Nat.and_one_is_mod], ?_⟩
            rw [hbt, Nat.testBit_eq_decide_div_mod_eq]
            rcases Nat.mod_two_eq_zero_or_one (X / 2 ^ j) with h | h <;> simp [h]
          rw [← hd1] at HSU
          have hd2 : d ≤ 1 := by rw [hd1]; split <;> omega
          clear hd1 hba hbt
          generalize cntP f.words (64 * k + j) = N at HSU hle ⊢
          have w1 : IntKind.i64.wrap (d : Int) = (d : Int) := IntWalk.i64_in _ (by omega)
          have w2 : IntKind.i64.wrap ((N : Int) + (d : Int)) = (N : Int) + (d : Int) := IntWalk.i64_in _ (by omega)
          have j0 : (0 : Int) ≤ (j : Int) := by omega
          go_wp2_with fail
          go_roundg (64 - (j + 1))
          case measure => have := HG2.out; omega
          case rel => exact ⟨j + 1, by omega, rfl, by go_num, by rw [show 64 * k + (j + 1) = 64 * k + j + 1 by omega, HSU.out]; go_num, rfl⟩
        · obtain rfl : j = 64 := by omega
          have t2 : decide ((64 : Int) < 64) = false := by simp
          go_wp2_with fail
          go_roundg (f.words.length - (k + 1))
          case measure => have := HG.out; omega
          case rel => exact ⟨k + 1, by omega, rfl, by go_num, by rw [show 64 * (k + 1) = 64 * k + 64 by omega], rfl⟩
    · obtain rfl : k = f.words.length := by omega
      have t1 : decide ((f.words.length : Int) < (f.words.length : Int)) = false := by simp
      rw [← ER.out]
      go_wp2_with fail
      go_ret
      exact ⟨rfl, H0.out.toBelow (by simp)⟩
theorem form_size (n m : Nat) : formF ((64 * (1 + n % 64) : Nat) : Int) ((1 + m % 8 : Nat) : Int) = true := by
  unfold formF
  exact decide_eq_true ⟨by omega, by omega, by omega, by omega, by omega⟩
theorem Zs.val {w : World} {v : Value} {l : List Int} (h : Zs w v l) : ∃ a c, v = .slice a l.length c ∧ l.length ≤ c ∧ c ≤ 9223372036854775807 ∧ (∀ i, i < l.length → ∃ b off, a = some ⟨b, off, none⟩) := h.form
theorem Rows.two {w : World} {b n m : Nat} {x y : Value} {a1 a2 : Option Addr} {c1 c2 : Nat} (hx : x = .slice a1 n c1) (hy : y = .slice a2 m c2) (h : w.heap[b]? = some (.cells #[x, y] 34 (0, 0))) : Rows w (.slice (some ⟨b, 0, none⟩) 2 2) [n, m] := by
  refine Or.inr ⟨b, 0, 2, rfl, Nat.le_refl _, by decide, fun i hi => ?_⟩
  rw [row_cell h]
  match i, hi with
  | 0, _ => exact ⟨a1, c1, by rw [hx]; rfl⟩
  | 1, _ => exact ⟨a2, c2, by rw [hy]; rfl⟩
end Go.Proofs.YtnmakpiddfhhnaaGreatDoor
