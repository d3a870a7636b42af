/-
  Plain laws of trees of digests: levels, roots, paths, checks. No program in sight.
-/
import Derived.Test.YtjddngbgbbbefaaGreatDoorPlnA
namespace Go.Proofs.YtjddngbgbbbefaaGreatDoor

def leafB : List UInt8 := [108, 101, 97, 102]
def nodeB : List UInt8 := [110, 111, 100, 101]
def noneB : List UInt8 := [110, 111, 110, 101]
def leafD (s : List UInt8) : List UInt8 := dlist [leafB, s]
def nodeD (a b : List UInt8) : List UInt8 := dlist [nodeB, a, b]
/-- The next level. -/
def upL : List (List UInt8) → List (List UInt8)
  | a :: b :: t => nodeD a b :: upL t
  | l => l
theorem upL_length : ∀ l : List (List UInt8), (upL l).length = (l.length + 1) / 2
  | [] => by simp [upL]
  | [_] => by simp [upL]
  | a :: b :: t => by
    have := upL_length t
    simp only [upL, List.length_cons, this]; omega
theorem upL_at : ∀ (l : List (List UInt8)) (k : Nat), 2 * k < l.length →
    (upL l).getD k [] = if 2 * k + 1 < l.length then nodeD (l.getD (2 * k) []) (l.getD (2 * k + 1) []) else l.getD (2 * k) []
  | [], k, h => absurd h (by simp)
  | [a], k, h => by
    obtain rfl : k = 0 := by simp at h; omega
    simp [upL]
  | a :: b :: t, 0, h => by simp [upL]
  | a :: b :: t, k + 1, h => by
    have := upL_at t k (by simp only [List.length_cons] at h; omega)
    have e1 : (a :: b :: t).getD (2 * (k + 1)) [] = t.getD (2 * k) [] := by rw [show 2 * (k + 1) = 2 * k + 1 + 1 by omega]; rfl
    have e2 : (a :: b :: t).getD (2 * (k + 1) + 1) [] = t.getD (2 * k + 1) [] := by rw [show 2 * (k + 1) + 1 = 2 * k + 1 + 1 + 1 by omega]; rfl
    rw [e1, e2]
    have e3 : (upL (a :: b :: t)).getD (k + 1) [] = (upL t).getD k [] := rfl
    rw [e3, this]
    by_cases h2 : 2 * k + 1 < t.length
    · rw [if_pos h2, if_pos (by simp only [List.length_cons]; omega)]
    · rw [if_neg h2, if_neg (by simp only [List.length_cons]; omega)]
/-- The levels of a list. -/
def levelsL (l : List (List UInt8)) : List (List (List UInt8)) := if 1 < l.length then l :: levelsL (upL l) else [l]
termination_by l.length
decreasing_by rw [upL_length]; omega
def topL (l : List (List UInt8)) : List UInt8 := if 1 < l.length then topL (upL l) else l.getD 0 []
termination_by l.length
decreasing_by rw [upL_length]; omega
def rootL (l : List (List UInt8)) : List UInt8 := if l = [] then dlist [noneB] else topL (l.map leafD)
/-- The place beside a place. -/
def bes (i : Nat) : Nat := if i % 2 = 0 then i + 1 else i - 1
def pathL (l : List (List UInt8)) (i : Nat) : List (List UInt8) :=
  if 1 < l.length then (if bes i < l.length then [l.getD (bes i) []] else []) ++ pathL (upL l) (i / 2) else []
termination_by l.length
decreasing_by rw [upL_length]; omega
/-- Where the way of a path leads, if it has the right length. -/
def ckL (n i : Nat) (a : List UInt8) (p : List (List UInt8)) : Option (List UInt8) :=
  if 1 < n then
    if bes i < n then
      match p with
      | [] => none
      | x :: p' => ckL (n - n / 2) (i / 2) (if i % 2 = 0 then nodeD a x else nodeD x a) p'
    else ckL (n - n / 2) (i / 2) a p
  else if p = [] then some a else none
termination_by n
decreasing_by all_goals omega
def plen (n i : Nat) : Nat := if 1 < n then (if bes i < n then 1 else 0) + plen (n - n / 2) (i / 2) else 0
termination_by n
decreasing_by omega
theorem bes_lt_half {n i : Nat} (hi : i < n) (h : ¬ bes i < n) : i % 2 = 0 ∧ i + 1 = n := by
  unfold bes at h; split at h <;> omega
theorem plen_le (n i : Nat) : plen n i ≤ n := by
  induction n using Nat.strongRecOn generalizing i with
  | _ n ih =>
    rw [plen]
    split
    · have := ih (n - n / 2) (by omega) (i / 2)
      split <;> omega
    · omega
theorem pathL_length (l : List (List UInt8)) (i : Nat) : (pathL l i).length = plen l.length i := by
  generalize hn : l.length = n
  induction n using Nat.strongRecOn generalizing l i with
  | _ n ih =>
    rw [pathL, plen, hn]
    split
    · rw [List.length_append, ih (n - n / 2) (by omega) (upL l) (i / 2) (by rw [upL_length, hn]; omega)]
      split <;> rfl
    · rfl
/-- A path proves its leaf. -/
theorem ck_path (l : List (List UInt8)) (i : Nat) (hi : i < l.length) : ckL l.length i (l.getD i []) (pathL l i) = some (topL l) := by
  generalize hn : l.length = n
  induction n using Nat.strongRecOn generalizing l i with
  | _ n ih =>
    rw [ckL.eq_def, pathL, topL, hn]
    by_cases h1 : 1 < n
    · rw [if_pos h1, if_pos h1, if_pos h1]
      have hu : (upL l).length = n - n / 2 := by rw [upL_length, hn]; omega
      have hat := upL_at l (i / 2) (by omega)
      have hih := ih (n - n / 2) (by omega) (upL l) (i / 2) (by rw [hu]; omega) hu
      by_cases hb : bes i < n
      · rw [if_pos hb, if_pos hb]
        show ckL _ _ _ (pathL (upL l) (i / 2)) = _
        rw [← hih, hat]
        congr 1
        unfold bes at hb ⊢
        by_cases he : i % 2 = 0
        · rw [if_pos he] at hb
          rw [if_pos he, if_pos he, if_pos (by omega)]
          rw [show 2 * (i / 2) = i by omega]
        · rw [if_neg he, if_neg he, if_pos (by omega)]
          rw [show 2 * (i / 2) = i - 1 by omega, show i - 1 + 1 = i by omega]
      · rw [if_neg hb, if_neg hb, List.nil_append]
        have := bes_lt_half (by omega) hb
        rw [← hih, hat, if_neg (by omega), show 2 * (i / 2) = i by omega]
    · rw [if_neg h1, if_neg h1, if_neg h1, if_pos rfl]
      rw [show i = 0 by omega]
/-- A path of another length proves nothing. -/
theorem ck_len {n i : Nat} {a r : List UInt8} {p : List (List UInt8)} (h : ckL n i a p = some r) : p.length = plen n i := by
  induction n using Nat.strongRecOn generalizing i a p with
  | _ n ih =>
    rw [ckL.eq_def] at h
    rw [plen]
    split at h
    · rename_i h1
      rw [if_pos h1]
      split at h
      · rename_i hb
        rw [if_pos hb]
        cases p with
        | nil => cases h
        | cons x p' =>
          have := ih (n - n / 2) (by omega) h
          rw [List.length_cons, this, Nat.add_comm]
      · rename_i hb
        rw [if_neg hb, Nat.zero_add]
        exact ih (n - n / 2) (by omega) h
    · rename_i h1
      rw [if_neg h1]
      split at h
      · rename_i hp; rw [hp]; rfl
      · cases h
/-- Two different lists of texts with the same digest. -/
def collB (a b : List (List UInt8)) : Bool := !decide (a = b) && (dlist a == dlist b)
/-- The search of the law for two such lists beside the way of a path. -/
def findL (l : List (List UInt8)) (i : Nat) (a : List UInt8) (p : List (List UInt8)) : Bool :=
  if 1 < l.length then
    if bes i < l.length then
      match p with
      | [] => false
      | x :: p' =>
        let one := if bes i < i then [nodeB, x, a] else [nodeB, a, x]
        let two := if bes i < i then [nodeB, l.getD (bes i) [], l.getD i []] else [nodeB, l.getD i [], l.getD (bes i) []]
        if collB one two then true else findL (upL l) (i / 2) (dlist one) p'
    else findL (upL l) (i / 2) a p
  else false
termination_by l.length
decreasing_by all_goals (rw [upL_length]; omega)
theorem find_sound {l : List (List UInt8)} {i : Nat} {a : List UInt8} {p : List (List UInt8)} (hi : i < l.length) (h : ckL l.length i a p = some (topL l)) (hf : findL l i a p = false) : a = l.getD i [] := by
  generalize hn : l.length = n
  induction n using Nat.strongRecOn generalizing l i a p with
  | _ n ih =>
    rw [ckL.eq_def, topL, hn] at h
    rw [findL.eq_def, hn] at hf
    by_cases h1 : 1 < n
    · rw [if_pos h1] at h hf
      rw [if_pos h1] at h
      have hu : (upL l).length = n - n / 2 := by rw [upL_length, hn]; omega
      have hat := upL_at l (i / 2) (by omega)
      by_cases hb : bes i < n
      · rw [if_pos hb] at h hf
        cases p with
        | nil => cases h
        | cons x p' =>
          simp only at h hf
          by_cases he : i % 2 = 0
          · have eb : bes i = i + 1 := by unfold bes; rw [if_pos he]
            rw [eb] at hb hf
            rw [if_pos he] at h
            simp only [if_neg (show ¬ (i + 1 < i) by omega)] at hf
            by_cases hc : collB [nodeB, a, x] [nodeB, l.getD i [], l.getD (i + 1) []] = true
            · rw [if_pos hc] at hf; cases hf
            · rw [if_neg hc] at hf
              have hih := ih (n - n / 2) (by omega) (l := upL l) (i := i / 2) (by rw [hu]; omega) (by rw [hu]; exact h) hf hu
              rw [hat, if_pos (by omega), show 2 * (i / 2) = i by omega] at hih
              have h2 : [nodeB, a, x] = [nodeB, l.getD i [], l.getD (i + 1) []] := by
                by_cases h3 : [nodeB, a, x] = [nodeB, l.getD i [], l.getD (i + 1) []]
                · exact h3
                · refine absurd ?_ hc
                  unfold collB
                  rw [decide_eq_false h3, Bool.not_false, Bool.true_and, beq_iff_eq]
                  exact hih
              injection h2 with _ h2
              injection h2
          · have eb : bes i = i - 1 := by unfold bes; rw [if_neg he]
            rw [eb] at hb hf
            rw [if_neg he] at h
            simp only [if_pos (show i - 1 < i by omega)] at hf
            by_cases hc : collB [nodeB, x, a] [nodeB, l.getD (i - 1) [], l.getD i []] = true
            · rw [if_pos hc] at hf; cases hf
            · rw [if_neg hc] at hf
              have hih := ih (n - n / 2) (by omega) (l := upL l) (i := i / 2) (by rw [hu]; omega) (by rw [hu]; exact h) hf hu
              rw [hat, if_pos (by omega), show 2 * (i / 2) = i - 1 by omega, show i - 1 + 1 = i by omega] at hih
              have h2 : [nodeB, x, a] = [nodeB, l.getD (i - 1) [], l.getD i []] := by
                by_cases h3 : [nodeB, x, a] = [nodeB, l.getD (i - 1) [], l.getD i []]
                · exact h3
                · refine absurd ?_ hc
                  unfold collB
                  rw [decide_eq_false h3, Bool.not_false, Bool.true_and, beq_iff_eq]
                  exact hih
              injection h2 with _ h2
              injection h2 with _ h2
              injection h2
      · rw [if_neg hb] at h hf
        have := bes_lt_half (by omega) hb
        have hih := ih (n - n / 2) (by omega) (l := upL l) (i := i / 2) (by rw [hu]; omega) (by rw [hu]; exact h) hf hu
        rw [hih, hat, if_neg (by omega), show 2 * (i / 2) = i by omega]
    · rw [if_neg h1] at h
      rw [if_neg h1] at h
      split at h
      · cases h; rw [show i = 0 by omega]
      · cases h
/-- What the loop over the levels makes of the root, of the path. -/
theorem levelsL_top (l : List (List UInt8)) : ((levelsL l).getLast?.getD []).getD 0 [] = topL l := by
  generalize hn : l.length = n
  induction n using Nat.strongRecOn generalizing l with
  | _ n ih =>
    rw [levelsL, topL, hn]
    by_cases h1 : 1 < n
    · rw [if_pos h1, if_pos h1, ← ih (n - n / 2) (by omega) (upL l) (by rw [upL_length, hn]; omega)]
      have hne : levelsL (upL l) ≠ [] := by rw [levelsL]; split <;> simp
      rw [List.getLast?_cons, List.getLast?_eq_some_getLast hne]
      rfl
    · rw [if_neg h1, if_neg h1]; rfl
def pathV : List (List (List UInt8)) → Nat → List (List UInt8)
  | [], _ => []
  | l :: t, i => (if bes i < l.length then [l.getD (bes i) []] else []) ++ pathV t (i / 2)
theorem pathV_levels (l : List (List UInt8)) (i : Nat) (hi : i < l.length) : pathV (levelsL l) i = pathL l i := by
  generalize hn : l.length = n
  induction n using Nat.strongRecOn generalizing l i with
  | _ n ih =>
    rw [levelsL, pathL, hn]
    by_cases h1 : 1 < n
    · rw [if_pos h1, if_pos h1, pathV, hn, ih (n - n / 2) (by omega) (upL l) (i / 2) (by rw [upL_length, hn]; omega) (by rw [upL_length, hn]; omega)]
    · rw [if_neg h1, if_neg h1, pathV, hn]
      obtain rfl : i = 0 := by omega
      rw [if_neg (by unfold bes; simp; omega)]
      rfl
theorem pathV_snoc (t : List (List (List UInt8))) (l : List (List UInt8)) (i : Nat) : pathV (t ++ [l]) i = pathV t i ++ (if bes (i / 2 ^ t.length) < l.length then [l.getD (bes (i / 2 ^ t.length)) []] else []) := by
  induction t generalizing i with
  | nil => simp [pathV]
  | cons a t ih =>
    rw [List.cons_append, pathV, pathV, ih, List.append_assoc, List.length_cons]
    rw [show i / 2 / 2 ^ t.length = i / 2 ^ (t.length + 1) by rw [Nat.div_div_eq_div_mul, Nat.pow_succ, Nat.mul_comm]]
theorem levels_ne {l : List (List UInt8)} (hl : l ≠ []) : ∀ m ∈ levelsL l, m ≠ [] := by
  generalize hn : l.length = n
  induction n using Nat.strongRecOn generalizing l with
  | _ n ih =>
    intro m hm
    rw [levelsL, hn] at hm
    have h0 : 0 < l.length := List.length_pos_iff.2 hl
    split at hm
    · rcases List.mem_cons.1 hm with rfl | hm
      · exact hl
      · exact ih (n - n / 2) (by omega) (l := upL l) (fun h => by have := upL_length l; rw [h] at this; simp at this; omega) (by rw [upL_length, hn]; omega) m hm
    · obtain rfl : m = l := by simpa using hm
      exact hl
theorem levels_count (l : List (List UInt8)) : (levelsL l).length ≤ l.length + 1 := by
  generalize hn : l.length = n
  induction n using Nat.strongRecOn generalizing l with
  | _ n ih =>
    rw [levelsL, hn]
    split
    · have := ih (n - n / 2) (by omega) (upL l) (by rw [upL_length, hn]; omega)
      rw [List.length_cons]; omega
    · simp
end Go.Proofs.YtjddngbgbbbefaaGreatDoor
