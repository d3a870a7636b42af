/-
  Plain laws of the shuffle: it permutes; one more element is one exchange more.
-/
import Derived.Test.YtjddngbgbbbefaaGreatDoorPlnHv
namespace Go.Proofs.YtjddngbgbbbefaaGreatDoor

theorem below_nat (d : List UInt8) (n : Nat) (h : isD d = true) (hn : 1 ≤ n) : belowS d (n : Int) = ((hexV (d.take 15) % n : Nat) : Int) := by
  unfold belowS
  have h1 : decide ((n : Int) < 1) = false := by simp; omega
  rw [h1, h]
  simp
/-- The place that is exchanged with place i. -/
def jS (seed : List UInt8) (i : Nat) : Nat := hexV ((dlist [seed, Lib.decDigits i]).take 15) % (i + 1)
theorem jS_le (seed : List UInt8) (i : Nat) : jS seed i ≤ i := by have := Nat.mod_lt (hexV ((dlist [seed, Lib.decDigits i]).take 15)) (show 0 < i + 1 by omega); unfold jS; omega
theorem jS_below (seed : List UInt8) (i : Nat) : belowS (dlist [seed, Lib.decDigits i]) ((i : Int) + 1) = (jS seed i : Int) := by
  have h := below_nat (dlist [seed, Lib.decDigits i]) (i + 1) (dsum_isD _) (by omega)
  rw [show ((i + 1 : Nat) : Int) = (i : Int) + 1 by omega] at h
  rw [h]; rfl
def swapL (l : List Nat) (i j : Nat) : List Nat := (l.set i (l.getD j 0)).set j (l.getD i 0)
theorem swapL_length (l : List Nat) (i j : Nat) : (swapL l i j).length = l.length := by simp [swapL]
theorem swapL_get (l : List Nat) (i j k : Nat) (hi : i < l.length) (hj : j < l.length) (hk : k < l.length) : (swapL l i j).getD k 0 = l.getD (if k = j then i else if k = i then j else k) 0 := by
  unfold swapL
  by_cases h1 : k = j
  · subst h1
    rw [if_pos rfl]
    simp [List.getD_eq_getElem?_getD, hk]
  · rw [if_neg h1]
    by_cases h2 : k = i
    · subst h2
      rw [if_pos rfl]
      simp [List.getD_eq_getElem?_getD, Ne.symm h1, hk]
    · rw [if_neg h2]
      simp [List.getD_eq_getElem?_getD, Ne.symm h1, Ne.symm h2]
/-- The exchanges of the places k, k - 1, .., 1. -/
def shufT (seed : List UInt8) (l : List Nat) : Nat → List Nat
  | 0 => l
  | k + 1 => shufT seed (swapL l (k + 1) (jS seed (k + 1))) k
def shufS (seed : List UInt8) (n : Nat) : List Nat := shufT seed (List.range n) (n - 1)
theorem shufT_length (seed : List UInt8) : ∀ (k : Nat) (l : List Nat), (shufT seed l k).length = l.length
  | 0, _ => rfl
  | k + 1, l => by rw [shufT, shufT_length seed k, swapL_length]
theorem shufS_length (seed : List UInt8) (n : Nat) : (shufS seed n).length = n := by rw [shufS, shufT_length, List.length_range]
/-- All places hold different numbers below n. -/
def Perm (l : List Nat) (n : Nat) : Prop := l.length = n ∧ (∀ i, i < n → l.getD i 0 < n) ∧ ∀ i j, i < n → j < n → l.getD i 0 = l.getD j 0 → i = j
theorem perm_swap {l : List Nat} {n i j : Nat} (h : Perm l n) (hi : i < n) (hj : j < n) : Perm (swapL l i j) n := by
  obtain ⟨h1, h2, h3⟩ := h
  have hs : ∀ k, k < n → (if k = j then i else if k = i then j else k) < n := by intro k hk; split; · exact hi
                                                                                 · split <;> omega
  refine ⟨by rw [swapL_length, h1], fun k hk => ?_, fun k m hk hm he => ?_⟩
  · rw [swapL_get l i j k (by omega) (by omega) (by omega)]; exact h2 _ (hs k hk)
  · rw [swapL_get l i j k (by omega) (by omega) (by omega), swapL_get l i j m (by omega) (by omega) (by omega)] at he
    have := h3 _ _ (hs k hk) (hs m hm) he
    split at this <;> split at this <;> (try split at this) <;> (try split at this) <;> omega
theorem perm_T (seed : List UInt8) {n : Nat} : ∀ (k : Nat) (l : List Nat), Perm l n → (k = 0 ∨ k < n) → Perm (shufT seed l k) n
  | 0, _, h, _ => h
  | k + 1, l, h, hk => by
    have hj := jS_le seed (k + 1)
    exact perm_T seed k _ (perm_swap h (by omega) (by omega)) (by omega)
theorem perm_S (seed : List UInt8) (n : Nat) : Perm (shufS seed n) n := by
  refine perm_T seed (n - 1) _ ⟨List.length_range, fun i hi => ?_, fun i j hi hj he => ?_⟩ (by omega)
  · simp [List.getD_eq_getElem?_getD, hi]
  · simpa [List.getD_eq_getElem?_getD, hi, hj] using he
/-- One more element: the places below n hold the same, but n stands for j, which stands at the end. -/
def More (l m : List Nat) (n j : Nat) : Prop := l.length = n ∧ m.length = n + 1 ∧ m.getD n 0 = j ∧ ∀ i, i < n → m.getD i 0 = if l.getD i 0 = j then n else l.getD i 0
theorem more_swap {l m : List Nat} {n j a b : Nat} (h : More l m n j) (ha : a < n) (hb : b < n) : More (swapL l a b) (swapL m a b) n j := by
  obtain ⟨h1, h2, h3, h4⟩ := h
  refine ⟨by rw [swapL_length, h1], by rw [swapL_length, h2], ?_, fun i hi => ?_⟩
  · rw [swapL_get m a b n (by omega) (by omega) (by omega), if_neg (by omega), if_neg (by omega), h3]
  · rw [swapL_get m a b i (by omega) (by omega) (by omega), swapL_get l a b i (by omega) (by omega) (by omega)]
    exact h4 _ (by split; · exact ha
                   · split <;> omega)
theorem more_T (seed : List UInt8) {n j : Nat} : ∀ (k : Nat) (l m : List Nat), More l m n j → (k = 0 ∨ k < n) → More (shufT seed l k) (shufT seed m k) n j
  | 0, _, _, h, _ => h
  | k + 1, l, m, h, hk => by
    have hj := jS_le seed (k + 1)
    exact more_T seed k _ _ (more_swap h (by omega) (by omega)) (by omega)
theorem more_S (seed : List UInt8) (n : Nat) : ∃ j, j ≤ n ∧ More (shufS seed n) (shufS seed (n + 1)) n j := by
  cases n with
  | zero => exact ⟨0, Nat.le_refl _, rfl, rfl, rfl, fun i hi => absurd hi (Nat.not_lt_zero _)⟩
  | succ n =>
    have hj := jS_le seed (n + 1)
    refine ⟨jS seed (n + 1), hj, ?_⟩
    have h : More (List.range (n + 1)) (swapL (List.range (n + 2)) (n + 1) (jS seed (n + 1))) (n + 1) (jS seed (n + 1)) := by
      refine ⟨List.length_range, by rw [swapL_length, List.length_range], ?_, fun i hi => ?_⟩
      · rw [swapL_get _ _ _ _ (by simp) (by simp; omega) (by simp)]
        by_cases h1 : n + 1 = jS seed (n + 1)
        · rw [if_pos h1]; simp [List.getD_eq_getElem?_getD]; omega
        · rw [if_neg h1, if_pos rfl]; simp [List.getD_eq_getElem?_getD, show jS seed (n + 1) < n + 2 by omega]
      · rw [swapL_get _ _ _ _ (by simp) (by simp; omega) (by simp; omega)]
        have e1 : (List.range (n + 1)).getD i 0 = i := by simp [List.getD_eq_getElem?_getD, hi]
        rw [e1]
        by_cases h1 : i = jS seed (n + 1)
        · rw [if_pos h1, if_pos h1]; simp [List.getD_eq_getElem?_getD]
        · rw [if_neg h1, if_neg h1, if_neg (by omega)]; simp [List.getD_eq_getElem?_getD, show i < n + 2 by omega]
    exact more_T seed n _ _ h (by omega)
end Go.Proofs.YtjddngbgbbbefaaGreatDoor
