/-
  Plain laws of findings: their order, a list in order without repeats, the first place of a number, what is served in turn.
-/
import Derived.Test.YtjddngbgbbbefaaGreatDoorBase
namespace Go.Proofs.YtjddngbgbbbefaaGreatDoor

/-- A finding. -/
structure Aud where
  kind : Int
  a : Int
  b : Int
deriving DecidableEq
def ltA (x y : Aud) : Bool := decide (x.kind < y.kind) || (decide (x.kind = y.kind) && (decide (x.a < y.a) || (decide (x.a = y.a) && decide (x.b < y.b))))
theorem ltA_iff (x y : Aud) : ltA x y = true ↔ x.kind < y.kind ∨ (x.kind = y.kind ∧ (x.a < y.a ∨ (x.a = y.a ∧ x.b < y.b))) := by simp [ltA]
theorem ltA_irrefl (x : Aud) : ltA x x = false := by
  cases h : ltA x x with
  | false => rfl
  | true => have := (ltA_iff x x).1 h; omega
theorem ltA_trans {x y z : Aud} (h : ltA x y = true) (k : ltA y z = true) : ltA x z = true := by rw [ltA_iff] at *; omega
theorem ltA_tri (x y : Aud) : ltA x y = true ∨ x = y ∨ ltA y x = true := by
  rw [ltA_iff, ltA_iff]
  have : x = y ↔ x.kind = y.kind ∧ x.a = y.a ∧ x.b = y.b := by
    cases x; cases y; simp
  rw [this]
  omega
/-- In order, each once. -/
def SortedA (l : List Aud) : Prop := l.Pairwise fun x y => ltA x y = true
theorem sorted_unique : ∀ {l m : List Aud}, SortedA l → SortedA m → (∀ x, x ∈ l ↔ x ∈ m) → l = m := by
  intro l
  induction l with
  | nil =>
    intro m _ _ h
    cases m with
    | nil => rfl
    | cons y m => exact absurd ((h y).2 (by simp)) (by simp)
  | cons x l ih =>
    intro m hl hm h
    cases m with
    | nil => exact absurd ((h x).1 (by simp)) (by simp)
    | cons y m =>
      have hl' := List.pairwise_cons.1 hl
      have hm' := List.pairwise_cons.1 hm
      have hxy : x = y := by
        rcases List.mem_cons.1 ((h x).1 (by simp)) with e | e
        · exact e
        · rcases List.mem_cons.1 ((h y).2 (by simp)) with e2 | e2
          · exact e2.symm
          · have h1 := hm'.1 x e
            have h2 := hl'.1 y e2
            have h3 := ltA_trans h1 h2
            rw [ltA_irrefl] at h3
            cases h3
      subst hxy
      have nx : ∀ {t : List Aud}, (∀ z ∈ t, ltA x z = true) → x ∉ t := fun ht hm => by
        have := ht x hm
        rw [ltA_irrefl] at this
        cases this
      rw [ih hl'.2 hm'.2 (fun z => ?_)]
      constructor
      · intro hz
        rcases List.mem_cons.1 ((h z).1 (List.mem_cons_of_mem _ hz)) with e | e
        · exact absurd (e ▸ hz) (nx hl'.1)
        · exact e
      · intro hz
        rcases List.mem_cons.1 ((h z).2 (List.mem_cons_of_mem _ hz)) with e | e
        · exact absurd (e ▸ hz) (nx hm'.1)
        · exact e

/-- The place at which a finding is added: behind the last one that does not come behind it. -/
def posAu (l : List Aud) (x : Aud) : Nat → Nat
  | 0 => 0
  | k + 1 => if ltA x (l.getD k ⟨0, 0, 0⟩) = true then posAu l x k else k + 1
theorem posAu_le (l : List Aud) (x : Aud) : ∀ k, posAu l x k ≤ k
  | 0 => Nat.le_refl _
  | k + 1 => by
    unfold posAu
    split
    · exact Nat.le_succ_of_le (posAu_le l x k)
    · exact Nat.le_refl _
theorem posAu_after (l : List Aud) (x : Aud) : ∀ k j, posAu l x k ≤ j → j < k → ltA x (l.getD j ⟨0, 0, 0⟩) = true
  | 0, j, _, h => absurd h (by omega)
  | k + 1, j, h1, h2 => by
    unfold posAu at h1
    split at h1
    · rename_i h3
      by_cases e : j = k
      · rw [e]; exact h3
      · exact posAu_after l x k j h1 (by omega)
    · omega
theorem posAu_at (l : List Aud) (x : Aud) : ∀ k, 0 < posAu l x k → ltA x (l.getD (posAu l x k - 1) ⟨0, 0, 0⟩) = false
  | 0, h => absurd h (by simp [posAu])
  | k + 1, h => by
    unfold posAu at h ⊢
    split
    · rename_i h3
      rw [if_pos h3] at h
      exact posAu_at l x k h
    · rename_i h3
      simpa using h3
/-- A finding is added. -/
def addA (l : List Aud) (x : Aud) : List Aud :=
  if 0 < posAu l x l.length ∧ l.getD (posAu l x l.length - 1) ⟨0, 0, 0⟩ = x then l else l.take (posAu l x l.length) ++ x :: l.drop (posAu l x l.length)
theorem mem_addA (l : List Aud) (x y : Aud) : y ∈ addA l x ↔ y ∈ l ∨ y = x := by
  unfold addA
  split
  · rename_i h
    refine ⟨Or.inl, fun h2 => h2.elim id (fun e => ?_)⟩
    subst e
    have hp := posAu_le l y l.length
    rw [← h.2, List.getD_eq_getElem?_getD, List.getElem?_eq_getElem (by omega)]
    exact List.getElem_mem _
  · rw [List.mem_append, List.mem_cons]
    have := List.take_append_drop (posAu l x l.length) l
    constructor
    · rintro (h | rfl | h)
      · exact Or.inl (List.mem_of_mem_take h)
      · exact Or.inr rfl
      · exact Or.inl (List.mem_of_mem_drop h)
    · rintro (h | rfl)
      · rw [← this, List.mem_append] at h
        exact h.imp id Or.inr
      · exact Or.inr (Or.inl rfl)
theorem sorted_at {l : List Aud} (h : SortedA l) {i j : Nat} (hij : i < j) (hj : j < l.length) : ltA (l.getD i ⟨0, 0, 0⟩) (l.getD j ⟨0, 0, 0⟩) = true := by
  have := List.pairwise_iff_getElem.1 h i j (by omega) hj hij
  simpa [List.getD_eq_getElem?_getD, List.getElem?_eq_getElem (show i < l.length by omega), List.getElem?_eq_getElem hj] using this
theorem addA_sorted {l : List Aud} (h : SortedA l) (x : Aud) : SortedA (addA l x) := by
  unfold addA
  split
  · exact h
  · rename_i hne
    have hp := posAu_le l x l.length
    have hmem : ∀ y ∈ l.take (posAu l x l.length), ltA y x = true := fun y hy => by
      obtain ⟨i, hi, rfl⟩ := List.getElem_of_mem hy
      rw [List.length_take] at hi
      have hgi : (l.take (posAu l x l.length))[i] = l.getD i ⟨0, 0, 0⟩ := by
        rw [List.getElem_take, List.getD_eq_getElem?_getD, List.getElem?_eq_getElem (by omega)]
        rfl
      rw [hgi]
      have h0 : 0 < posAu l x l.length := by omega
      have h1 := posAu_at l x l.length h0
      have h2 : ltA (l.getD (posAu l x l.length - 1) ⟨0, 0, 0⟩) x = true := by
        rcases ltA_tri (l.getD (posAu l x l.length - 1) ⟨0, 0, 0⟩) x with e | e | e
        · exact e
        · exact absurd ⟨h0, e⟩ hne
        · rw [h1] at e; cases e
      by_cases e : i = posAu l x l.length - 1
      · rw [e]; exact h2
      · exact ltA_trans (sorted_at h (by omega) (by omega)) h2
    have hmem2 : ∀ y ∈ l.drop (posAu l x l.length), ltA x y = true := fun y hy => by
      obtain ⟨i, hi, rfl⟩ := List.getElem_of_mem hy
      rw [List.length_drop] at hi
      rw [List.getElem_drop]
      have := posAu_after l x l.length (posAu l x l.length + i) (by omega) (by omega)
      rwa [List.getD_eq_getElem?_getD, List.getElem?_eq_getElem (by omega)] at this
    refine List.pairwise_append.2 ⟨h.sublist (List.take_sublist _ _), List.pairwise_cons.2 ⟨hmem2, h.sublist (List.drop_sublist _ _)⟩, fun y hy z hz => ?_⟩
    rcases List.mem_cons.1 hz with rfl | hz
    · exact hmem y hy
    · exact ltA_trans (hmem y hy) (hmem2 z hz)
/-- Findings in order, each once. -/
def sortA (l : List Aud) : List Aud := l.foldl addA []
theorem fold_sorted : ∀ (l m : List Aud), SortedA m → SortedA (l.foldl addA m)
  | [], _, h => h
  | x :: l, _, h => fold_sorted l _ (addA_sorted h x)
theorem fold_mem (y : Aud) : ∀ (l m : List Aud), y ∈ l.foldl addA m ↔ y ∈ m ∨ y ∈ l
  | [], _ => by simp
  | x :: l, _ => by
    rw [List.foldl_cons, fold_mem y l, mem_addA, List.mem_cons, or_assoc]
theorem sortA_sorted (l : List Aud) : SortedA (sortA l) := fold_sorted l [] List.Pairwise.nil
theorem mem_sortA (l : List Aud) (y : Aud) : y ∈ sortA l ↔ y ∈ l := by rw [sortA, fold_mem]; simp
theorem sortA_eq {l m : List Aud} (h : SortedA m) (hm : ∀ x, x ∈ m ↔ x ∈ l) : m = sortA l := sorted_unique h (sortA_sorted l) (fun x => by rw [hm, mem_sortA])
theorem sortA_snoc (l : List Aud) (x : Aud) : sortA (l ++ [x]) = addA (sortA l) x := by simp [sortA]
theorem sortA_nil : sortA [] = [] := rfl
theorem sortA_nil_iff (l : List Aud) : sortA l = [] ↔ l = [] := by
  constructor
  · intro h
    cases l with
    | nil => rfl
    | cons x l =>
      have := (mem_sortA (x :: l) x).2 (by simp)
      rw [h] at this
      cases this
  · rintro rfl
    rfl

/-- The first place of a number, or -1. -/
def placeN (n : Int) : List Int → Nat → Int
  | [], _ => -1
  | x :: l, k => if x = n then (k : Int) else placeN n l (k + 1)
def placeL (l : List Int) (n : Int) : Int := placeN n l 0
theorem placeN_none (n : Int) : ∀ (l : List Int) (k : Nat), n ∉ l → placeN n l k = -1
  | [], _, _ => rfl
  | x :: l, k, h => by
    unfold placeN
    rw [if_neg (fun e => h (by rw [e]; simp)), placeN_none n l (k + 1) (fun hm => h (by simp [hm]))]
theorem placeN_some (n : Int) : ∀ (l : List Int) (k i : Nat), l[i]? = some n → (∀ j, j < i → l[j]? ≠ some n) → placeN n l k = (k + i : Nat)
  | [], _, _, h, _ => by simp at h
  | x :: l, k, 0, h, _ => by
    unfold placeN
    simp at h
    rw [if_pos h]
    rfl
  | x :: l, k, i + 1, h, hj => by
    unfold placeN
    have h0 := hj 0 (by omega)
    simp at h0
    rw [if_neg h0, placeN_some n l (k + 1) i (by simpa using h) (fun j hlt => by have := hj (j + 1) (by omega); simpa using this)]
    omega
theorem placeL_none {l : List Int} {n : Int} (h : n ∉ l) : placeL l n = -1 := placeN_none n l 0 h
theorem placeL_some {l : List Int} {n : Int} {i : Nat} (h : l[i]? = some n) (hj : ∀ j, j < i → l[j]? ≠ some n) : placeL l n = (i : Int) := by
  have := placeN_some n l 0 i h hj
  simpa [placeL] using this
theorem placeL_cases (l : List Int) (n : Int) : (n ∉ l ∧ placeL l n = -1) ∨ ∃ i : Nat, i < l.length ∧ l[i]? = some n ∧ (∀ j, j < i → l[j]? ≠ some n) ∧ placeL l n = (i : Int) := by
  by_cases h : n ∈ l
  · right
    have hex : ∃ i : Nat, l[i]? = some n := List.getElem?_of_mem h
    have hmin : ∃ i : Nat, l[i]? = some n ∧ ∀ j, j < i → l[j]? ≠ some n := by
      obtain ⟨i, hi⟩ := hex
      induction i using Nat.strongRecOn with
      | ind i ih =>
        by_cases hq : ∃ j, j < i ∧ l[j]? = some n
        · obtain ⟨j, hj, hj2⟩ := hq
          exact ih j hj hj2
        · exact ⟨i, hi, fun j hj e => hq ⟨j, hj, e⟩⟩
    obtain ⟨i, hi, hj⟩ := hmin
    exact ⟨i, (List.getElem?_eq_some_iff.1 hi).1, hi, hj, placeL_some hi hj⟩
  · exact Or.inl ⟨h, placeL_none h⟩
/-- The places from the back: the one of the least index stays. -/
def backP (l : List Int) (k : Nat) (n : Int) : Option Nat := ((List.range' k (l.length - k)).find? fun i => l[i]? == some n)

/-- What is served in turn: the last place, and the findings. -/
def servedSt (order served : List Int) : Nat → Int × List Aud
  | 0 => (-1, [])
  | k + 1 =>
    if (servedSt order served k).1 < placeL order (served.getD k 0) then (placeL order (served.getD k 0), (servedSt order served k).2)
    else ((servedSt order served k).1, (servedSt order served k).2 ++ [⟨6, served.getD k 0, (k : Int)⟩])
end Go.Proofs.YtjddngbgbbbefaaGreatDoor
