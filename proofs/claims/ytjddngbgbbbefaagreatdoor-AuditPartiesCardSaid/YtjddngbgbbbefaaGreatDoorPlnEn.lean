/-
  Plain laws of layer 18: classes of linked entries, and the union of classes by parents. No program in sight.
-/
import Derived.Test.YtjddngbgbbbefaaGreatDoorPty
namespace Go.Proofs.YtjddngbgbbbefaaGreatDoor

/-- An entry: person (name), means (com), commitment (rev). -/
abbrev Ent := Pty
def Lnk (l : List Ent) (i j : Nat) : Prop := ∃ a b, l[i]? = some a ∧ l[j]? = some b ∧ (a.name = b.name ∨ a.com = b.com)
theorem Lnk.symm {l : List Ent} {i j : Nat} (h : Lnk l i j) : Lnk l j i := by
  obtain ⟨a, b, ha, hb, h⟩ := h
  exact ⟨b, a, hb, ha, h.imp Eq.symm Eq.symm⟩
theorem Lnk.lt {l : List Ent} {i j : Nat} (h : Lnk l i j) : i < l.length ∧ j < l.length := by
  obtain ⟨a, b, ha, hb, _⟩ := h
  exact ⟨(List.getElem?_eq_some_iff.1 ha).1, (List.getElem?_eq_some_iff.1 hb).1⟩
/-- Connected by links. -/
inductive Conn (l : List Ent) : Nat → Nat → Prop
  | refl (i : Nat) : Conn l i i
  | step {i j k : Nat} : Lnk l i j → Conn l j k → Conn l i k
theorem Conn.trans {l : List Ent} {i j k : Nat} (h : Conn l i j) (g : Conn l j k) : Conn l i k := by
  induction h with
  | refl => exact g
  | step h1 _ ih => exact .step h1 (ih g)
theorem Conn.symm {l : List Ent} {i j : Nat} (h : Conn l i j) : Conn l j i := by
  induction h with
  | refl => exact .refl _
  | step h1 _ ih => exact ih.trans (.step h1.symm (.refl _))
theorem Conn.one {l : List Ent} {i j : Nat} (h : Lnk l i j) : Conn l i j := .step h (.refl _)

/-- The answer: for each entry the least index of its class. -/
structure Cls (l : List Ent) (o : List Nat) : Prop where
  len : o.length = l.length
  le : ∀ i, i < l.length → o.getD i 0 ≤ i
  conn : ∀ i, i < l.length → Conn l i (o.getD i 0)
  lnk : ∀ i j, Lnk l i j → o.getD i 0 = o.getD j 0
theorem Cls.same {l : List Ent} {o : List Nat} (h : Cls l o) {i j : Nat} (hc : Conn l i j) : o.getD i 0 = o.getD j 0 := by
  induction hc with
  | refl => rfl
  | step h1 _ ih => exact (h.lnk _ _ h1).trans ih
theorem Cls.iff {l : List Ent} {o : List Nat} (h : Cls l o) {i j : Nat} (hi : i < l.length) (hj : j < l.length) : o.getD i 0 = o.getD j 0 ↔ Conn l i j :=
  ⟨fun e => (h.conn i hi).trans (by rw [e]; exact (h.conn j hj).symm), h.same⟩
theorem Cls.fix {l : List Ent} {o : List Nat} (h : Cls l o) {i : Nat} (hi : i < l.length) : o.getD (o.getD i 0) 0 = o.getD i 0 := (h.same (h.conn i hi)).symm
theorem Cls.unique {l : List Ent} {o o' : List Nat} (h : Cls l o) (h' : Cls l o') : o = o' := by
  apply List.ext_getElem (h.len.trans h'.len.symm)
  intro i h1 h2
  have hi : i < l.length := by rw [← h.len]; exact h1
  have a := h.le i hi
  have a' := h'.le i hi
  have e1 : o.getD i 0 ≤ o'.getD i 0 := by
    rw [h.same (h'.conn i hi)]
    exact h.le _ (by omega)
  have e2 : o'.getD i 0 ≤ o.getD i 0 := by
    rw [h'.same (h.conn i hi)]
    exact h'.le _ (by omega)
  have := Nat.le_antisymm e1 e2
  simpa [List.getD_eq_getElem?_getD, h1, h2] using this
/-- An entry that is linked to no other one is alone. -/
theorem Cls.alone {l : List Ent} {o : List Nat} (h : Cls l o) {i k : Nat} (hi : i < l.length) (hk : k < l.length) (hno : ∀ j, j ≠ i → ¬ Lnk l i j) (hne : k ≠ i) : o.getD k 0 ≠ o.getD i 0 := by
  intro e
  have hc := (h.iff hi hk).1 e.symm
  have key : ∀ a b, Conn l a b → a = i → b = i := by
    intro a b hab
    induction hab with
    | refl => exact id
    | step h1 _ ih =>
      intro ha
      rename_i a' j b' _
      rw [ha] at h1
      by_cases hj : j = i
      · exact ih hj
      · exact absurd h1 (hno j hj)
  exact hne (key _ _ hc rfl)
/-- On the way from a chosen entry to another one there is a link between both. -/
theorem conn_flip {l : List Ent} (P : Nat → Prop) [DecidablePred P] {i j : Nat} (h : Conn l i j) (hi : P i) (hj : ¬ P j) : ∃ a b, Conn l i a ∧ P a ∧ ¬ P b ∧ Lnk l a b := by
  induction h with
  | refl => exact absurd hi hj
  | step h1 _ ih =>
    rename_i i j k _
    by_cases hpj : P j
    · obtain ⟨a, b, h2, h3⟩ := ih hpj hj
      exact ⟨a, b, .step h1 h2, h3⟩
    · exact ⟨i, j, .refl _, hi, hpj, h1⟩
theorem conn_map {l m : List Ent} (f : Nat → Nat) (hf : ∀ i j, Lnk l i j → Lnk m (f i) (f j)) {i j : Nat} (h : Conn l i j) : Conn m (f i) (f j) := by
  induction h with
  | refl => exact .refl _
  | step h1 _ ih => exact .step (hf _ _ h1) ih
theorem lnk_reverse {l : List Ent} {i j : Nat} (h : Lnk l i j) : Lnk l.reverse (l.length - 1 - i) (l.length - 1 - j) := by
  have hlt := h.lt
  obtain ⟨a, b, ha, hb, h⟩ := h
  refine ⟨a, b, ?_, ?_, h⟩
  · rw [List.getElem?_reverse (by omega), show l.length - 1 - (l.length - 1 - i) = i by omega]; exact ha
  · rw [List.getElem?_reverse (by omega), show l.length - 1 - (l.length - 1 - j) = j by omega]; exact hb
theorem lnk_behind {m l : List Ent} {i j : Nat} (h : Lnk l i j) : Lnk (m ++ l) (m.length + i) (m.length + j) := by
  obtain ⟨a, b, ha, hb, h⟩ := h
  refine ⟨a, b, ?_, ?_, h⟩
  · rw [List.getElem?_append_right (by omega), show m.length + i - m.length = i by omega]; exact ha
  · rw [List.getElem?_append_right (by omega), show m.length + j - m.length = j by omega]; exact hb
theorem Cls.back {l : List Ent} {o o' : List Nat} (h : Cls l o) (h' : Cls l.reverse o') {i k : Nat} (hi : i < l.length) (hk : k < l.length) :
    o.getD i 0 = o.getD k 0 ↔ o'.getD (l.length - 1 - i) 0 = o'.getD (l.length - 1 - k) 0 := by
  rw [h.iff hi hk, h'.iff (by rw [List.length_reverse]; omega) (by rw [List.length_reverse]; omega)]
  constructor
  · exact conn_map (fun x => l.length - 1 - x) (fun _ _ => lnk_reverse)
  · intro hc
    have := conn_map (l := l.reverse) (m := l) (fun x => l.length - 1 - x) (fun a b hab => by
      have := lnk_reverse hab
      rwa [List.reverse_reverse, List.length_reverse] at this) hc
    rwa [show l.length - 1 - (l.length - 1 - i) = i by omega, show l.length - 1 - (l.length - 1 - k) = k by omega] at this
theorem Cls.front {m l : List Ent} {o o' : List Nat} (h : Cls l o) (h' : Cls (m ++ l) o') {i k : Nat} (hi : i < l.length) (hk : k < l.length) (e : o.getD i 0 = o.getD k 0) : o'.getD (m.length + i) 0 = o'.getD (m.length + k) 0 :=
  h'.same (conn_map (fun x => m.length + x) (fun _ _ => lnk_behind) ((h.iff hi hk).1 e))

/-- A forest of parents over the first k places, with the roots R. -/
structure UF (k : Nat) (p : List Nat) (R : Nat → Nat) : Prop where
  len : k ≤ p.length
  le : ∀ i, i < k → p.getD i 0 ≤ i
  rt : ∀ i, i < k → R (p.getD i 0) = R i
  fx : ∀ i, i < k → (p.getD i 0 = i ↔ R i = i)
  rr : ∀ i, i < k → R (R i) = R i
  rle : ∀ i, i < k → R i ≤ i
theorem getD_set (p : List Nat) (i x j : Nat) (hi : i < p.length) : (p.set i x).getD j 0 = if j = i then x else p.getD j 0 := by
  rw [List.getD_eq_getElem?_getD, List.getD_eq_getElem?_getD, List.getElem?_set]
  by_cases h : j = i
  · subst h; simp [hi]
  · rw [if_neg (fun e => h e.symm), if_neg h]
/-- Some ways to the root are made shorter. -/
def Shrt (k : Nat) (p p' : List Nat) (R : Nat → Nat) : Prop := p'.length = p.length ∧ ∀ j, j < k → p'.getD j 0 = p.getD j 0 ∨ p'.getD j 0 = R j
theorem Shrt.refl (k : Nat) (p : List Nat) (R : Nat → Nat) : Shrt k p p R := ⟨rfl, fun _ _ => Or.inl rfl⟩
theorem Shrt.trans {k : Nat} {p q r : List Nat} {R : Nat → Nat} (h : Shrt k p q R) (g : Shrt k q r R) : Shrt k p r R :=
  ⟨g.1.trans h.1, fun j hj => by
    rcases g.2 j hj with e | e
    · rw [e]; exact h.2 j hj
    · exact Or.inr e⟩
theorem Shrt.set {k : Nat} {p : List Nat} {R : Nat → Nat} {i : Nat} (hi : i < p.length) : Shrt k p (p.set i (R i)) R :=
  ⟨by simp, fun j _ => by
    rw [getD_set p i (R i) j hi]
    by_cases h : j = i
    · subst h; simp
    · simp [h]⟩
theorem UF.shrt {k : Nat} {p p' : List Nat} {R : Nat → Nat} (h : UF k p R) (g : Shrt k p p' R) : UF k p' R where
  len := by rw [g.1]; exact h.len
  le i hi := by
    rcases g.2 i hi with e | e
    · rw [e]; exact h.le i hi
    · rw [e]; exact h.rle i hi
  rt i hi := by
    rcases g.2 i hi with e | e
    · rw [e]; exact h.rt i hi
    · rw [e]; exact h.rr i hi
  fx i hi := by
    rcases g.2 i hi with e | e
    · rw [e]; exact h.fx i hi
    · rw [e]
  rr := h.rr
  rle := h.rle
def uniR (R : Nat → Nat) (a b : Nat) : Nat → Nat := fun x => if R x = max a b then min a b else R x
theorem uniR_eq {R : Nat → Nat} {a b x y : Nat} (h : R x = R y) : uniR R a b x = uniR R a b y := by unfold uniR; rw [h]
theorem uniR_ab {R : Nat → Nat} {a b x y : Nat} (hx : R x = a) (hy : R y = b) : uniR R a b x = uniR R a b y := by
  unfold uniR
  rw [hx, hy]
  by_cases h : a ≤ b
  · by_cases h2 : a = b
    · subst h2; rfl
    · rw [if_neg (by omega), if_pos (by omega)]; omega
  · rw [if_pos (by omega), if_neg (by omega)]; omega
theorem UF.unite {k : Nat} {p : List Nat} {R : Nat → Nat} {a b : Nat} (h : UF k p R) (ha : a < k) (hb : b < k) (hra : R a = a) (hrb : R b = b) : UF k (p.set (max a b) (min a b)) (uniR R a b) where
  len := by rw [List.length_set]; exact h.len
  le i hi := by
    rw [getD_set _ _ _ _ (by have := h.len; omega)]
    split
    · omega
    · exact h.le i hi
  rt i hi := by
    rw [getD_set _ _ _ _ (by have := h.len; omega)]
    have hrm : R (max a b) = max a b := by
      rcases Nat.le_total a b with h1 | h1
      · rw [Nat.max_eq_right h1]; exact hrb
      · rw [Nat.max_eq_left h1]; exact hra
    have hrn : R (min a b) = min a b := by
      rcases Nat.le_total a b with h1 | h1
      · rw [Nat.min_eq_left h1]; exact hra
      · rw [Nat.min_eq_right h1]; exact hrb
    split
    · rename_i e
      subst e
      unfold uniR
      rw [hrn, hrm, if_pos rfl]
      split <;> rfl
    · exact uniR_eq (h.rt i hi)
  fx i hi := by
    rw [getD_set _ _ _ _ (by have := h.len; omega)]
    have hrm : R (max a b) = max a b := by
      rcases Nat.le_total a b with h1 | h1
      · rw [Nat.max_eq_right h1]; exact hrb
      · rw [Nat.max_eq_left h1]; exact hra
    have hrn : R (min a b) = min a b := by
      rcases Nat.le_total a b with h1 | h1
      · rw [Nat.min_eq_left h1]; exact hra
      · rw [Nat.min_eq_right h1]; exact hrb
    unfold uniR
    split
    · rename_i e
      subst e
      rw [hrm, if_pos rfl]
    · rename_i e
      rw [h.fx i hi]
      constructor
      · intro e1
        rw [e1, if_neg e]
      · intro e1
        split at e1
        · rename_i e2
          rw [← e1, hrn] at e2
          rw [← e1, hrn]
        · exact e1
  rr i hi := by
    have hrn : R (min a b) = min a b := by
      rcases Nat.le_total a b with h1 | h1
      · rw [Nat.min_eq_left h1]; exact hra
      · rw [Nat.min_eq_right h1]; exact hrb
    unfold uniR
    by_cases h1 : R i = max a b
    · simp only [h1, if_true, hrn]
      split <;> rfl
    · simp only [h1, if_false, h.rr i hi]
  rle i hi := by
    have := h.rle i hi
    unfold uniR
    split <;> omega
def extR (R : Nat → Nat) (k : Nat) : Nat → Nat := fun x => if x = k then k else R x
theorem extR_old {R : Nat → Nat} {k x : Nat} (h : x < k) : extR R k x = R x := by unfold extR; rw [if_neg (by omega)]
theorem extR_new (R : Nat → Nat) (k : Nat) : extR R k k = k := by unfold extR; rw [if_pos rfl]
theorem UF.ext {k : Nat} {p : List Nat} {R : Nat → Nat} (h : UF k p R) (hk : k < p.length) : UF (k + 1) (p.set k k) (extR R k) where
  len := by rw [List.length_set]; omega
  le i hi := by
    rw [getD_set _ _ _ _ hk]
    split
    · omega
    · exact h.le i (by omega)
  rt i hi := by
    rw [getD_set _ _ _ _ hk]
    split
    · rename_i e; rw [e]
    · have h1 : i < k := by omega
      rw [extR_old h1, extR_old (by have := h.le i h1; omega)]
      exact h.rt i h1
  fx i hi := by
    rw [getD_set _ _ _ _ hk]
    split
    · rename_i e; subst e; rw [extR_new]
    · have h1 : i < k := by omega
      rw [extR_old h1]
      exact h.fx i h1
  rr i hi := by
    by_cases h1 : i = k
    · subst h1; rw [extR_new, extR_new]
    · have h2 : i < k := by omega
      rw [extR_old h2, extR_old (by have := h.rle i h2; omega)]
      exact h.rr i h2
  rle i hi := by
    by_cases h1 : i = k
    · subst h1; rw [extR_new]; exact Nat.le_refl _
    · rw [extR_old (by omega)]; exact h.rle i (by omega)
/-- The roots are justified by links; links have one root. -/
def Sound (l : List Ent) (k : Nat) (R : Nat → Nat) : Prop := ∀ i, i < k → Conn l i (R i)
def Compl (l : List Ent) (k : Nat) (R : Nat → Nat) : Prop := ∀ i j, i < k → j < k → Lnk l i j → R i = R j
theorem Sound.ext {l : List Ent} {k : Nat} {R : Nat → Nat} (h : Sound l k R) : Sound l (k + 1) (extR R k) := by
  intro i hi
  by_cases h1 : i = k
  · subst h1; rw [extR_new]; exact .refl _
  · rw [extR_old (by omega)]; exact h i (by omega)
theorem Sound.unite {l : List Ent} {k : Nat} {R : Nat → Nat} {x y : Nat} (h : Sound l k R) (hx : x < k) (hy : y < k) (hl : Conn l x y) : Sound l k (uniR R (R x) (R y)) := by
  intro i hi
  have hxy : Conn l (R x) (R y) := (h x hx).symm.trans (hl.trans (h y hy))
  unfold uniR
  split
  · rename_i e
    have h1 := h i hi
    rw [e] at h1
    rcases Nat.le_total (R x) (R y) with h2 | h2
    · rw [Nat.max_eq_right h2] at h1; rw [Nat.min_eq_left h2]; exact h1.trans hxy.symm
    · rw [Nat.max_eq_left h2] at h1; rw [Nat.min_eq_right h2]; exact h1.trans hxy
  · exact h i hi
/-- The last place below k with a word. -/
def Last (l : List Ent) (sel : Ent → List UInt8) (k : Nat) (f : List UInt8 → Option Nat) : Prop :=
  ∀ s, match f s with
    | some j => j < k ∧ ∃ e, l[j]? = some e ∧ sel e = s
    | none => ∀ j e, j < k → l[j]? = some e → sel e ≠ s
theorem Last.zero (l : List Ent) (sel : Ent → List UInt8) : Last l sel 0 (fun _ => none) := fun _ _ _ hj => absurd hj (Nat.not_lt_zero _)
theorem Last.put {l : List Ent} {sel : Ent → List UInt8} {k : Nat} {f : List UInt8 → Option Nat} (h : Last l sel k f) {e : Ent} (he : l[k]? = some e) : Last l sel (k + 1) (fun s => if s = sel e then some k else f s) := by
  intro s
  by_cases hs : s = sel e
  · simp only [hs, if_true]
    exact ⟨Nat.lt_succ_self _, e, he, rfl⟩
  · simp only [hs, if_false]
    have := h s
    cases hf : f s with
    | some j =>
      rw [hf] at this
      exact ⟨by omega, this.2⟩
    | none =>
      rw [hf] at this
      intro j e' hj he'
      rcases Nat.lt_or_ge j k with h1 | h1
      · exact this j e' h1 he'
      · obtain rfl : j = k := by omega
        rw [he] at he'
        cases he'
        exact fun h => hs h.symm
def joinR (R : Nat → Nat) (k : Nat) : Option Nat → Nat → Nat
  | some j => uniR R (R k) (R j)
  | none => R
theorem joinR_eq {R : Nat → Nat} {k x y : Nat} (o : Option Nat) (h : R x = R y) : joinR R k o x = joinR R k o y := by
  cases o with
  | none => exact h
  | some j => exact uniR_eq h
theorem joinR_hit (R : Nat → Nat) (k j : Nat) : joinR R k (some j) k = joinR R k (some j) j := uniR_ab rfl rfl
/-- What the roots become at entry k. -/
def stepR (R : Nat → Nat) (k : Nat) (a b : Option Nat) : Nat → Nat := joinR (joinR (extR R k) k a) k b
theorem last_hit {l : List Ent} {sel : Ent → List UInt8} {k : Nat} {f : List UInt8 → Option Nat} (h : Last l sel k f) {e b : Ent} {j : Nat} (hj : j < k) (hb : l[j]? = some b) (he : sel e = sel b) : ∃ j0 e0, f (sel e) = some j0 ∧ j0 < k ∧ l[j0]? = some e0 ∧ sel e0 = sel e := by
  have := h (sel e)
  cases hf : f (sel e) with
  | none => rw [hf] at this; exact absurd he.symm (this j b hj hb)
  | some j0 => rw [hf] at this; exact ⟨j0, _, rfl, this.1, this.2.choose_spec.1, this.2.choose_spec.2⟩
theorem compl_one {l : List Ent} {k : Nat} {R : Nat → Nat} {fp fq : List UInt8 → Option Nat} (h : Compl l k R) (hp : Last l Pty.name k fp) (hq : Last l Pty.com k fq) {e : Ent} (he : l[k]? = some e) {j : Nat} (hj : j < k) (hl : Lnk l k j) :
    stepR R k (fp e.name) (fq e.com) k = stepR R k (fp e.name) (fq e.com) j := by
  obtain ⟨a, b, ha, hb, hab⟩ := hl
  rw [he] at ha
  cases ha
  rcases hab with h1 | h1
  · obtain ⟨j0, e0, hf, hj0, he0, hs⟩ := last_hit hp hj hb h1
    have h2 : R j = R j0 := h j j0 hj hj0 ⟨b, e0, hb, he0, Or.inl (by rw [hs, h1])⟩
    have h3 : extR R k j = extR R k j0 := by rw [extR_old hj, extR_old hj0]; exact h2
    unfold stepR
    rw [hf]
    exact joinR_eq _ ((joinR_hit _ _ _).trans (joinR_eq _ h3.symm))
  · obtain ⟨j0, e0, hf, hj0, he0, hs⟩ := last_hit hq hj hb h1
    have h2 : R j = R j0 := h j j0 hj hj0 ⟨b, e0, hb, he0, Or.inr (by rw [hs, h1])⟩
    have h3 : extR R k j = extR R k j0 := by rw [extR_old hj, extR_old hj0]; exact h2
    unfold stepR
    rw [hf]
    exact (joinR_hit _ _ _).trans (joinR_eq _ (joinR_eq _ h3.symm))
theorem compl_step {l : List Ent} {k : Nat} {R : Nat → Nat} {fp fq : List UInt8 → Option Nat} (h : Compl l k R) (hp : Last l Pty.name k fp) (hq : Last l Pty.com k fq) {e : Ent} (he : l[k]? = some e) :
    Compl l (k + 1) (stepR R k (fp e.name) (fq e.com)) := by
  intro i j hi hj hl
  rcases Nat.lt_or_ge i k with h1 | h1
  · rcases Nat.lt_or_ge j k with h2 | h2
    · exact joinR_eq _ (joinR_eq _ (by rw [extR_old h1, extR_old h2]; exact h i j h1 h2 hl))
    · obtain rfl : j = k := by omega
      exact (compl_one h hp hq he h1 hl.symm).symm
  · obtain rfl : i = k := by omega
    rcases Nat.lt_or_ge j i with h2 | h2
    · exact compl_one h hp hq he h2 hl
    · obtain rfl : j = i := by omega
      rfl
theorem sound_join {l : List Ent} {k : Nat} {R : Nat → Nat} {o : Option Nat} (h : Sound l (k + 1) R) (ho : ∀ j, o = some j → j < k ∧ Lnk l k j) : Sound l (k + 1) (joinR R k o) := by
  cases o with
  | none => exact h
  | some j =>
    obtain ⟨h1, h2⟩ := ho j rfl
    exact h.unite (by omega) (by omega) (.one h2)
theorem last_lnk {l : List Ent} {k : Nat} {fp fq : List UInt8 → Option Nat} (hp : Last l Pty.name k fp) (hq : Last l Pty.com k fq) {e : Ent} (he : l[k]? = some e) :
    (∀ j, fp e.name = some j → j < k ∧ Lnk l k j) ∧ (∀ j, fq e.com = some j → j < k ∧ Lnk l k j) := by
  constructor
  · intro j hj
    have := hp e.name
    rw [hj] at this
    obtain ⟨h1, e', he', h2⟩ := this
    exact ⟨h1, e, e', he, he', Or.inl h2.symm⟩
  · intro j hj
    have := hq e.com
    rw [hj] at this
    obtain ⟨h1, e', he', h2⟩ := this
    exact ⟨h1, e, e', he, he', Or.inr h2.symm⟩
theorem sound_step {l : List Ent} {k : Nat} {R : Nat → Nat} {fp fq : List UInt8 → Option Nat} (h : Sound l k R) (hp : Last l Pty.name k fp) (hq : Last l Pty.com k fq) {e : Ent} (he : l[k]? = some e) :
    Sound l (k + 1) (stepR R k (fp e.name) (fq e.com)) := by
  have := last_lnk hp hq he
  exact sound_join (sound_join h.ext this.1) this.2
theorem cls_of_uf {l : List Ent} {R : Nat → Nat} {o : List Nat} (ho : o.length = l.length) (hs : Sound l l.length R) (hc : Compl l l.length R) (hr : ∀ i, i < l.length → R i ≤ i) (h : ∀ i, i < l.length → o.getD i 0 = R i) : Cls l o where
  len := ho
  le i hi := by rw [h i hi]; exact hr i hi
  conn i hi := by rw [h i hi]; exact hs i hi
  lnk i j hl := by
    have := hl.lt
    rw [h i this.1, h j this.2]
    exact hc i j this.1 this.2 hl
end Go.Proofs.YtjddngbgbbbefaaGreatDoor
