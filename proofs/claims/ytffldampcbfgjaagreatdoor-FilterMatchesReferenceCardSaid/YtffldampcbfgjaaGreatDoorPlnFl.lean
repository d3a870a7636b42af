/-
  Plain law of filters (chapter 36): words as numbers, their bits, setting, joining, counting.
-/
import Derived.Test.YtffldampcbfgjaaGreatDoorBase
namespace Go.Proofs.YtffldampcbfgjaaGreatDoor
open Go.RowKit

def bitW (W : List Nat) (n : Nat) : Bool := (W.getD (n / 64) 0).testBit (n % 64)
def setW (W : List Nat) (n : Nat) : List Nat := W.set (n / 64) (W.getD (n / 64) 0 ||| 2 ^ (n % 64))
def W64 (W : List Nat) : Prop := ∀ x ∈ W, x < 2 ^ 64
theorem W64.at {W : List Nat} (h : W64 W) (i : Nat) : W.getD i 0 < 2 ^ 64 := by
  by_cases hi : i < W.length
  · exact h _ (getD_mem W i 0 hi)
  · rw [List.getD_eq_getElem?_getD, List.getElem?_eq_none (by omega)]; decide
theorem setW_len (W : List Nat) (n : Nat) : (setW W n).length = W.length := by simp [setW]
theorem setW_lt {W : List Nat} {n : Nat} (h : W64 W) : W64 (setW W n) := by
  intro x hx
  rcases List.mem_or_eq_of_mem_set hx with h1 | h1
  · exact h x h1
  · rw [h1]
    exact Nat.or_lt_two_pow (h.at _) (Nat.pow_lt_pow_right (by decide) (Nat.mod_lt _ (by decide)))
theorem setW_bit {W : List Nat} {n : Nat} (hn : n / 64 < W.length) (m : Nat) : bitW (setW W n) m = (bitW W m || decide (m = n)) := by
  unfold bitW setW
  rw [List.getD_eq_getElem?_getD, List.getElem?_set]
  by_cases h : n / 64 = m / 64
  · rw [if_pos h, if_pos (by omega), Option.getD_some, Nat.testBit_or, Nat.testBit_two_pow, h]
    congr 1
    rw [decide_eq_decide]
    omega
  · rw [if_neg h, ← List.getD_eq_getElem?_getD, decide_eq_false (by rintro rfl; exact h rfl), Bool.or_false]
theorem bits_ext {A B : List Nat} (ha : W64 A) (hb : W64 B) (hl : A.length = B.length) (h : ∀ n, n < 64 * A.length → bitW A n = bitW B n) : A = B := by
  refine List.ext_getElem hl (fun i h1 h2 => ?_)
  refine Nat.eq_of_testBit_eq (fun j => ?_)
  by_cases hj : j < 64
  · have := h (64 * i + j) (by omega)
    unfold bitW at this
    rw [show (64 * i + j) / 64 = i by omega, show (64 * i + j) % 64 = j by omega] at this
    simpa [List.getD_eq_getElem?_getD, h1, h2] using this
  · have e : ∀ x : Nat, x < 2 ^ 64 → x.testBit j = false := fun x hx => Nat.testBit_lt_two_pow (Nat.lt_of_lt_of_le hx (Nat.pow_le_pow_right (by decide) (by omega)))
    rw [e _ (ha _ (List.getElem_mem h1)), e _ (hb _ (List.getElem_mem h2))]
/-- Several bits are set. -/
def setsW (W : List Nat) (ns : List Nat) : List Nat := ns.foldl setW W
theorem setsW_len : ∀ (ns W : List Nat), (setsW W ns).length = W.length
  | [], _ => rfl
  | n :: ns, W => by rw [show setsW W (n :: ns) = setsW (setW W n) ns from rfl, setsW_len, setW_len]
theorem setsW_lt : ∀ (ns W : List Nat), W64 W → W64 (setsW W ns)
  | [], _, h => h
  | n :: ns, W, h => setsW_lt ns (setW W n) (setW_lt h)
theorem setsW_app (W a b : List Nat) : setsW W (a ++ b) = setsW (setsW W a) b := List.foldl_append
theorem setsW_bit : ∀ (ns W : List Nat), (∀ n ∈ ns, n / 64 < W.length) → ∀ m, bitW (setsW W ns) m = (bitW W m || ns.contains m)
  | [], W, _, m => by simp [setsW]
  | n :: ns, W, h, m => by
    rw [show setsW W (n :: ns) = setsW (setW W n) ns from rfl, setsW_bit ns (setW W n) (fun k hk => by rw [setW_len]; exact h k (by simp [hk])), setW_bit (h n (by simp)), List.contains_cons, Bool.or_assoc]
    congr 1
theorem zeros_bit (k m : Nat) : bitW (List.replicate k 0) m = false := by
  unfold bitW
  have : (List.replicate k 0).getD (m / 64) 0 = 0 := by
    rw [List.getD_eq_getElem?_getD]
    by_cases h : m / 64 < k
    · simp [h]
    · rw [List.getElem?_eq_none (by simpa using h)]; rfl
  rw [this, Nat.zero_testBit]
theorem zeros_lt (k : Nat) : W64 (List.replicate k 0) := by
  intro x hx
  rw [(List.mem_replicate.1 hx).2]; decide
/-- The words of both. -/
def joinW (A B : List Nat) : List Nat := List.zipWith (· ||| ·) A B
theorem joinW_len (A B : List Nat) (h : A.length = B.length) : (joinW A B).length = A.length := by simp [joinW, h]
theorem joinW_at {A B : List Nat} (h : A.length = B.length) (i : Nat) : (joinW A B).getD i 0 = A.getD i 0 ||| B.getD i 0 := by
  unfold joinW
  by_cases hi : i < A.length
  · simp [List.getD_eq_getElem?_getD, List.getElem?_zipWith, hi, h ▸ hi]
  · simp [List.getD_eq_getElem?_getD, List.getElem?_zipWith, List.getElem?_eq_none (show A.length ≤ i by omega), List.getElem?_eq_none (show B.length ≤ i by omega)]
theorem joinW_bit {A B : List Nat} (h : A.length = B.length) (m : Nat) : bitW (joinW A B) m = (bitW A m || bitW B m) := by
  unfold bitW
  rw [joinW_at h, Nat.testBit_or]
theorem joinW_lt {A B : List Nat} (ha : W64 A) (hb : W64 B) (h : A.length = B.length) : W64 (joinW A B) := by
  intro x hx
  obtain ⟨i, hi, rfl⟩ := List.getElem_of_mem hx
  have := joinW_at h i
  rw [List.getD_eq_getElem?_getD, List.getElem?_eq_getElem hi, Option.getD_some] at this
  rw [this]
  exact Nat.or_lt_two_pow (ha.at i) (hb.at i)
theorem sets_ext {k : Nat} {a b : List Nat} (ha : ∀ n ∈ a, n / 64 < k) (hb : ∀ n ∈ b, n / 64 < k) (h : ∀ n, n ∈ a ↔ n ∈ b) : setsW (List.replicate k 0) a = setsW (List.replicate k 0) b := by
  refine bits_ext (setsW_lt _ _ (zeros_lt k)) (setsW_lt _ _ (zeros_lt k)) (by rw [setsW_len, setsW_len]) (fun n _ => ?_)
  rw [setsW_bit _ _ (by simpa using ha), setsW_bit _ _ (by simpa using hb)]
  congr 1
  rw [Bool.eq_iff_iff]
  simpa using h n
theorem sets_join {k : Nat} {a b : List Nat} (ha : ∀ n ∈ a, n / 64 < k) (hb : ∀ n ∈ b, n / 64 < k) : joinW (setsW (List.replicate k 0) a) (setsW (List.replicate k 0) b) = setsW (List.replicate k 0) (a ++ b) := by
  have hl : (setsW (List.replicate k 0) a).length = (setsW (List.replicate k 0) b).length := by rw [setsW_len, setsW_len]
  refine bits_ext (joinW_lt (setsW_lt _ _ (zeros_lt k)) (setsW_lt _ _ (zeros_lt k)) hl) (setsW_lt _ _ (zeros_lt k)) (by rw [joinW_len _ _ hl, setsW_len, setsW_len]) (fun n _ => ?_)
  rw [joinW_bit hl, setsW_bit _ _ (by simpa using ha), setsW_bit _ _ (by simpa using hb), setsW_bit _ _ (by
    intro n hn
    rw [List.length_replicate]
    rcases List.mem_append.1 hn with h | h
    · exact ha n h
    · exact hb n h), zeros_bit]
  rw [Bool.eq_iff_iff]
  simp
theorem joinW_assoc {A B C : List Nat} (ha : W64 A) (hb : W64 B) (hc : W64 C) (h1 : A.length = B.length) (h2 : B.length = C.length) : joinW (joinW A B) C = joinW A (joinW B C) := by
  have e1 : (joinW A B).length = C.length := by rw [joinW_len _ _ h1]; omega
  have e2 : A.length = (joinW B C).length := by rw [joinW_len _ _ h2]; omega
  refine bits_ext (joinW_lt (joinW_lt ha hb h1) hc e1) (joinW_lt ha (joinW_lt hb hc h2) e2) (by rw [joinW_len _ _ e1, joinW_len _ _ e2, joinW_len _ _ h1]) (fun n _ => ?_)
  rw [joinW_bit e1, joinW_bit h1, joinW_bit e2, joinW_bit h2, Bool.or_assoc]
/-- How many bits are set. -/
def cntW (W : List Nat) : Nat := (List.range (64 * W.length)).countP (bitW W)
theorem count_one (n : Nat) : ∀ N, (List.range N).countP (fun m => decide (m = n)) ≤ 1 ∧ (N ≤ n → (List.range N).countP (fun m => decide (m = n)) = 0) := by
  intro N
  induction N with
  | zero => simp
  | succ N ih =>
    rw [List.range_succ, List.countP_append]
    by_cases h : N = n
    · have := ih.2 (by omega)
      rw [this]
      simp [h]
    · simp only [List.countP_cons, List.countP_nil, decide_eq_false h]
      exact ⟨by simpa using ih.1, fun h2 => by simpa using ih.2 (by omega)⟩
theorem count_or (p q : Nat → Bool) : ∀ l : List Nat, l.countP (fun m => p m || q m) ≤ l.countP p + l.countP q := by
  intro l
  induction l with
  | nil => simp
  | cons a l ih =>
    simp only [List.countP_cons]
    cases p a <;> cases q a <;> simp <;> omega
theorem count_sets (ns : List Nat) (N : Nat) : (List.range N).countP (fun m => ns.contains m) ≤ ns.length := by
  induction ns with
  | nil => simp
  | cons n ns ih =>
    have h1 := count_or (fun m => decide (m = n)) (fun m => ns.contains m) (List.range N)
    have h2 := (count_one n N).1
    have h3 : (List.range N).countP (fun m => (n :: ns).contains m) = (List.range N).countP (fun m => decide (m = n) || ns.contains m) := by
      congr 1
    rw [h3, List.length_cons]
    omega
theorem cnt_sets {k : Nat} {ns : List Nat} (h : ∀ n ∈ ns, n / 64 < k) : cntW (setsW (List.replicate k 0) ns) ≤ ns.length := by
  unfold cntW
  have : (bitW (setsW (List.replicate k 0) ns)) = fun m => ns.contains m := by
    funext m
    rw [setsW_bit _ _ (by simpa using h), zeros_bit, Bool.false_or]
  rw [this]
  exact count_sets ns _
theorem cnt_pos {k : Nat} {ns : List Nat} (h : ∀ n ∈ ns, n / 64 < k) : 0 < cntW (setsW (List.replicate k 0) ns) ↔ ns ≠ [] := by
  unfold cntW
  rw [List.countP_pos_iff]
  constructor
  · rintro ⟨m, _, hm⟩ rfl
    rw [show setsW (List.replicate k 0) [] = List.replicate k 0 from rfl, zeros_bit] at hm
    cases hm
  · intro hne
    obtain ⟨n, ns', rfl⟩ := List.exists_cons_of_ne_nil hne
    have hn := h n (by simp)
    refine ⟨n, by rw [List.mem_range, setsW_len, List.length_replicate]; omega, ?_⟩
    rw [setsW_bit _ _ (by simpa using h), zeros_bit]
    simp
/-- All of some bits are set. -/
def hasW (W ns : List Nat) : Bool := ns.all (bitW W)
end Go.Proofs.YtffldampcbfgjaaGreatDoor
