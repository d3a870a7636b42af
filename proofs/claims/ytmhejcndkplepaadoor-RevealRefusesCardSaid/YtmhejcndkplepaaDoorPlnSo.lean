/-
  Plain laws: the order of strings; a sorted list of indices; neighbours with equal strings. No program in sight.
-/
import Derived.Test.YtmhejcndkplepaaDoorBase
import Derived.Laws.Cover1
namespace Go.Proofs.YtmhejcndkplepaaDoor

def leS (a b : List UInt8) : Bool := Op.bytesLess a b || a == b
theorem leS_nil (b : List UInt8) : leS [] b = true := by cases b <;> simp [leS, Op.bytesLess]
theorem leS_no (x : UInt8) (a : List UInt8) : leS (x :: a) [] = false := by simp [leS, Op.bytesLess]
theorem leS_cons (x y : UInt8) (a b : List UInt8) : leS (x :: a) (y :: b) = true ↔ x < y ∨ (x = y ∧ leS a b = true) := by
  simp only [leS, Op.bytesLess, Bool.or_eq_true, Bool.and_eq_true, decide_eq_true_eq, beq_iff_eq, List.cons.injEq]
  constructor
  · rintro ((h | ⟨h1, h2⟩) | ⟨h1, h2⟩)
    · exact Or.inl h
    · exact Or.inr ⟨h1, Or.inl h2⟩
    · exact Or.inr ⟨h1, Or.inr h2⟩
  · rintro (h | ⟨h1, h2 | h2⟩)
    · exact Or.inl (Or.inl h)
    · exact Or.inl (Or.inr ⟨h1, h2⟩)
    · exact Or.inr ⟨h1, h2⟩
theorem leS_total : ∀ a b, (leS a b || leS b a) = true
  | [], b => by rw [leS_nil]; rfl
  | x :: a, [] => by rw [leS_nil, Bool.or_true]
  | x :: a, y :: b => by
    have ih := leS_total a b
    simp only [Bool.or_eq_true] at ih ⊢
    rw [leS_cons, leS_cons]
    rcases Nat.lt_trichotomy x.toNat y.toNat with h | h | h
    · exact Or.inl (Or.inl (UInt8.lt_iff_toNat_lt.2 h))
    · have e : x = y := UInt8.toNat_inj.1 h
      rcases ih with h1 | h1
      · exact Or.inl (Or.inr ⟨e, h1⟩)
      · exact Or.inr (Or.inr ⟨e.symm, h1⟩)
    · exact Or.inr (Or.inl (UInt8.lt_iff_toNat_lt.2 h))
theorem leS_trans : ∀ a b c, leS a b = true → leS b c = true → leS a c = true
  | [], _, c => fun _ _ => leS_nil c
  | x :: a, [], c => fun h => by rw [leS_no] at h; cases h
  | x :: a, y :: b, [] => fun _ h => by rw [leS_no] at h; cases h
  | x :: a, y :: b, z :: c => fun h g => by
    rw [leS_cons] at h g ⊢
    simp only [UInt8.lt_iff_toNat_lt] at h g ⊢
    rcases h with h | ⟨rfl, h⟩
    · rcases g with g | ⟨rfl, g⟩
      · exact Or.inl (Nat.lt_trans h g)
      · exact Or.inl h
    · rcases g with g | ⟨rfl, g⟩
      · exact Or.inl g
      · exact Or.inr ⟨rfl, leS_trans a b c h g⟩
theorem leS_antisymm : ∀ a b, leS a b = true → leS b a = true → a = b
  | [], [] => fun _ _ => rfl
  | x :: a, [] => fun h => by rw [leS_no] at h; cases h
  | [], y :: b => fun _ h => by rw [leS_no] at h; cases h
  | x :: a, y :: b => fun h g => by
    rw [leS_cons] at h g
    simp only [UInt8.lt_iff_toNat_lt] at h g
    rcases h with h | ⟨rfl, h⟩
    · rcases g with g | ⟨rfl, g⟩ <;> omega
    · rcases g with g | ⟨_, g⟩
      · omega
      · rw [leS_antisymm a b h g]
def leI (bys : List (List UInt8)) (i j : Nat) : Bool := leS (bys.getD i []) (bys.getD j [])
/-- What 'sorted' answers. -/
structure Sorted (bys : List (List UInt8)) (l s : List Nat) : Prop where
  perm : s.Perm l
  pw : s.Pairwise (fun a b => leI bys a b = true)
theorem Sorted.few (bys : List (List UInt8)) (l : List Nat) (h : l.length < 2) : Sorted bys l l where
  perm := .refl _
  pw := by
    match l, h with
    | [], _ => exact .nil
    | [x], _ => simp
theorem Sorted.merge {bys : List (List UInt8)} {l m s t : List Nat} (h : Sorted bys l s) (g : Sorted bys m t) : Sorted bys (l ++ m) (s.merge t (leI bys)) where
  perm := (List.merge_perm_append _).trans (h.perm.append g.perm)
  pw := List.pairwise_merge (le := leI bys) (fun a b c => leS_trans (bys.getD a []) (bys.getD b []) (bys.getD c [])) (fun a b => leS_total (bys.getD a []) (bys.getD b [])) _ _ h.pw g.pw
theorem pw_at {bys : List (List UInt8)} {s : List Nat} (h : s.Pairwise (fun a b => leI bys a b = true)) {i j : Nat} (hij : i < j) (hj : j < s.length) : leI bys (s.getD i 0) (s.getD j 0) = true := by
  have := List.pairwise_iff_getElem.1 h i j (by omega) hj hij
  simpa [List.getD_eq_getElem?_getD, hj, show i < s.length by omega] using this
theorem adj_chain {bys : List (List UInt8)} {s : List Nat} (h : s.Pairwise (fun a b => leI bys a b = true)) {R : Nat → Nat}
    (ha : ∀ i, i + 1 < s.length → bys.getD (s.getD (i + 1) 0) [] = bys.getD (s.getD i 0) [] → R (s.getD (i + 1) 0) = R (s.getD i 0)) :
    ∀ d i, i + d < s.length → bys.getD (s.getD i 0) [] = bys.getD (s.getD (i + d) 0) [] → R (s.getD i 0) = R (s.getD (i + d) 0) := by
  intro d
  induction d with
  | zero => intro i _ _; rfl
  | succ d ih =>
    intro i hi he
    have e1 : bys.getD (s.getD (i + d) 0) [] = bys.getD (s.getD i 0) [] := by
      cases d with
      | zero => rfl
      | succ d =>
        apply leS_antisymm
        · have := pw_at h (i := i + (d + 1)) (j := i + (d + 1 + 1)) (by omega) hi
          unfold leI at this
          rwa [← he] at this
        · exact pw_at h (i := i) (j := i + (d + 1)) (by omega) (by omega)
    rw [ih i (by omega) e1.symm]
    exact (ha (i + d) (by omega) (by rw [e1]; exact he.symm)).symm
theorem Sorted.same {bys : List (List UInt8)} {l s : List Nat} (h : Sorted bys l s) {R : Nat → Nat}
    (ha : ∀ i, i + 1 < s.length → bys.getD (s.getD (i + 1) 0) [] = bys.getD (s.getD i 0) [] → R (s.getD (i + 1) 0) = R (s.getD i 0))
    {x y : Nat} (hx : x ∈ l) (hy : y ∈ l) (he : bys.getD x [] = bys.getD y []) : R x = R y := by
  have key : ∀ z, z ∈ l → ∃ i, i < s.length ∧ s.getD i 0 = z := by
    intro z hz
    obtain ⟨i, hi, e⟩ := List.getElem_of_mem (h.perm.mem_iff.2 hz)
    exact ⟨i, hi, by simp [List.getD_eq_getElem?_getD, hi, e]⟩
  obtain ⟨i, hi, rfl⟩ := key x hx
  obtain ⟨j, hj, rfl⟩ := key y hy
  rcases Nat.le_total i j with hij | hij
  · have := adj_chain h.pw ha (j - i) i (by omega) (by rw [show i + (j - i) = j by omega]; exact he)
    rwa [show i + (j - i) = j by omega] at this
  · have := adj_chain h.pw ha (i - j) j (by omega) (by rw [show j + (i - j) = i by omega]; exact he.symm)
    rw [show j + (i - j) = i by omega] at this
    exact this.symm
end Go.Proofs.YtmhejcndkplepaaDoor
