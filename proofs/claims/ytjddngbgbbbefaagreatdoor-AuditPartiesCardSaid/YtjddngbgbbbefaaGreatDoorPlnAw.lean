/-
  Plain laws of published lotteries: what is published has no findings; another order has some; what is served.
  Plain laws of published lotteries: other orders, what is served out of turn, parties that reveal other texts.
  Plain laws of published lotteries: two lists of texts whose trees have one root, and two different texts with one digest; receipts.
  Plain laws of the example of published lotteries.
-/
import Derived.Test.YtjddngbgbbbefaaGreatDoorAuN
import Derived.Test.YtjddngbgbbbefaaGreatDoorPlnTr
namespace Go.Proofs.YtjddngbgbbbefaaGreatDoor

theorem seed_ok {l : List Pty} {r : List UInt8} (h : (seedS l r).2 = 0) : l.length ≤ 16 ∧ (∀ i, i < l.length → dupAt l i = false) ∧ (∀ p ∈ l, rightB p = true) ∧ (seedS l r).1 = dlist (textsS r l) := by
  unfold seedS at h ⊢
  split at h
  · simp at h
  · rename_i h1
    split at h
    · simp at h
    · rename_i h2
      split at h
      · simp at h
      · rename_i h3
        refine ⟨by omega, fun i hi => ?_, fun p hp => ?_, ?_⟩
        · simp only [Bool.not_eq_true] at h2
          have := List.any_eq_false.1 h2 i (List.mem_range.2 hi)
          simpa using this
        · simp only [Bool.not_eq_true] at h3
          have := List.any_eq_false.1 h3 p hp
          simpa using this
        · rw [if_neg h1, if_neg h2, if_neg h3]
theorem seed_mk {l : List Pty} (r : List UInt8) (h1 : l.length ≤ 16) (h2 : ∀ i, i < l.length → dupAt l i = false) (h3 : ∀ p ∈ l, rightB p = true) : seedS l r = (dlist (textsS r l), 0) := by
  unfold seedS
  rw [if_neg (by omega), if_neg, if_neg]
  · rw [Bool.not_eq_true, List.any_eq_false]
    intro p hp
    simp [h3 p hp]
  · rw [Bool.not_eq_true, List.any_eq_false]
    intro i hi
    simp [h2 i (List.mem_range.1 hi)]
theorem pub_ok {o : List Nat} {es ps : List Pty} (h : (pubS o es ps).2 = 0) : es.length ≤ 4000 ∧ (∀ e ∈ es, validB e = true) ∧ (seedS ps (rootL (textsE es))).2 = 0 ∧
    (pubS o es ps).1 = ⟨es, rootL (textsE es), ps, (orderO o (seedS ps (rootL (textsE es))).1).map Int.ofNat, []⟩ := by
  unfold pubS at h ⊢
  split at h
  · simp at h
  · rename_i h1
    split at h
    · simp at h
    · rename_i h2
      split at h
      · rename_i h3
        exact absurd h h3
      · rename_i h3
        refine ⟨by omega, fun e he => ?_, by simpa using h3, ?_⟩
        · simp only [Bool.not_eq_true] at h2
          have := List.any_eq_false.1 h2 e he
          simpa using this
        · rw [if_neg h1, if_neg h2, if_neg h3]
theorem pub_mk {o : List Nat} {es ps : List Pty} (h1 : es.length ≤ 4000) (h2 : ∀ e ∈ es, validB e = true) (h3 : (seedS ps (rootL (textsE es))).2 = 0) :
    pubS o es ps = (⟨es, rootL (textsE es), ps, (orderO o (seedS ps (rootL (textsE es))).1).map Int.ofNat, []⟩, 0) := by
  unfold pubS
  rw [if_neg (by omega), if_neg, if_neg (by simpa using h3)]
  rw [Bool.not_eq_true, List.any_eq_false]
  intro e he
  simp [h2 e he]
theorem pub_bad {o : List Nat} {es ps : List Pty} (h : (pubS o es ps).2 ≠ 0) : (pubS o es ps).1 = zeroPb := by
  unfold pubS at h ⊢
  split
  · rfl
  · split
    · rfl
    · split
      · rfl
      · rename_i h1 h2 h3
        rw [if_neg h1, if_neg h2, if_neg h3] at h
        simp at h

/-- Entries, root and parties that have no findings. -/
def GoodR (p : Pbl) : Prop := p.ents.length ≤ 4000 ∧ (∀ e ∈ p.ents, validB e = true) ∧ p.root = rootL (textsE p.ents) ∧ (seedS p.parts p.root).2 = 0
theorem recF_good {p : Pbl} (h : GoodR p) : recF p = [] := by
  obtain ⟨_, h1, h2, h3⟩ := h
  obtain ⟨g1, g2, g3, _⟩ := seed_ok h3
  have a1 : entF p.ents = [] := entF_nil.2 (fun i hi => h1 _ (getD_mem _ _ _ hi))
  have a2 : rootF p = [] := by unfold rootF; rw [if_pos h2]
  have a3 : partF p.parts = [] := by
    unfold partF
    rw [List.flatMap_eq_nil_iff]
    intro i hi
    have hi' := List.mem_range.1 hi
    have : wrongB p.parts i = false := by
      unfold wrongB
      rw [g2 i hi', g3 _ (getD_mem _ _ _ hi')]
      simp
      omega
    rw [this]
    rfl
  unfold recF
  rw [a1, a2, a3]
  rfl
theorem heads_order {o : List Nat} {seed : List UInt8} {i : Nat} (h : i ∈ orderO o seed) : i < o.length ∧ o.getD i 0 = i := by
  unfold orderO at h
  obtain ⟨k, hk, rfl⟩ := List.mem_map.1 h
  have hp := perm_S seed (headsO o).length
  have hkl : k < (headsO o).length := by
    obtain ⟨j, hj, rfl⟩ := List.getElem_of_mem hk
    have := hp.2.1 j (by rw [← hp.1]; exact hj)
    rwa [List.getD_eq_getElem?_getD, List.getElem?_eq_getElem hj] at this
  exact heads_lt (getD_mem _ _ _ hkl)
theorem twiceF_order (o : List Nat) (seed : List UInt8) : twiceF o ((orderO o seed).map Int.ofNat) = [] := by
  unfold twiceF
  rw [List.flatMap_eq_nil_iff]
  intro x hx
  obtain ⟨i, hi, rfl⟩ := List.mem_map.1 hx
  have h := heads_order hi
  unfold twiceA
  rw [if_neg]
  rintro ⟨_, _, h3⟩
  apply h3
  show ((o.getD (Int.toNat (i : Int)) 0 : Nat) : Int) = (i : Int)
  rw [Int.toNat_natCast, h.2]
theorem movedF_same (W : List Int) : movedF W W = [] := by
  unfold movedF
  rw [Nat.sub_self, List.range_zero, List.map_nil, List.append_nil, List.flatMap_eq_nil_iff]
  intro k hk
  unfold movedA
  rw [if_pos ⟨List.mem_range.1 hk, rfl⟩]
/-- Records whose order is the one of the entries and the seed. -/
theorem check_good {o : List Nat} {p : Pbl} (h : GoodR p) (ho : p.order = wantI o p) : checkF o p = (servedSt p.order p.served p.served.length).2 := by
  unfold checkF mvF
  rw [recF_good h, if_pos ⟨rfl, h.1⟩, ho, movedF_same]
  unfold wantI
  rw [twiceF_order]
  rfl
theorem pub_good {o : List Nat} {es ps : List Pty} (h : (pubS o es ps).2 = 0) (sv : List Int) : GoodR { (pubS o es ps).1 with served := sv } ∧ { (pubS o es ps).1 with served := sv }.order = wantI o { (pubS o es ps).1 with served := sv } := by
  obtain ⟨h1, h2, h3, h4⟩ := pub_ok h
  rw [h4]
  exact ⟨⟨h1, h2, rfl, h3⟩, rfl⟩

/-! ### what is served in turn -/
/-- Those of the order that are served, the first k. -/
def servB (order : List Int) (which : List Bool) (k : Nat) : List Int := (List.range k).flatMap fun j => if which.getD j false then [order.getD j 0] else []
theorem servB_succ (order : List Int) (which : List Bool) (k : Nat) : servB order which (k + 1) = servB order which k ++ if which.getD k false then [order.getD k 0] else [] := by
  unfold servB
  rw [flat_succ]
theorem servB_len (order : List Int) (which : List Bool) (k : Nat) : (servB order which k).length ≤ k := by
  have := flat_le (fun j => if which.getD j false then [order.getD j 0] else []) (List.range k) (fun x _ => by split <;> simp)
  simpa [servB] using this
theorem place_nodup {l : List Int} (h : l.Nodup) {k : Nat} (hk : k < l.length) : placeL l (l.getD k 0) = (k : Int) := by
  refine placeL_some ?_ (fun j hj e => ?_)
  · rw [List.getD_eq_getElem?_getD, List.getElem?_eq_getElem hk]; rfl
  · rw [List.getD_eq_getElem?_getD, List.getElem?_eq_getElem hk, List.getElem?_eq_getElem (by omega)] at e
    have := List.pairwise_iff_getElem.1 h j k (by omega) hk hj
    simp at e
    exact this e
theorem servedSt_append (order a b : List Int) : ∀ k, k ≤ a.length → servedSt order (a ++ b) k = servedSt order a k
  | 0, _ => rfl
  | k + 1, h => by
    have e : (a ++ b).getD k 0 = a.getD k 0 := by
      rw [List.getD_eq_getElem?_getD, List.getElem?_append_left (by omega), List.getD_eq_getElem?_getD]
    rw [servedSt, servedSt, servedSt_append order a b k (by omega), e]
theorem served_none {order : List Int} (h : order.Nodup) (which : List Bool) : ∀ k, k ≤ order.length →
    (servedSt order (servB order which k) (servB order which k).length).2 = [] ∧ (servedSt order (servB order which k) (servB order which k).length).1 < (k : Int)
  | 0, _ => by simp [servB, servedSt]
  | k + 1, hk => by
    obtain ⟨h1, h2⟩ := served_none h which k (by omega)
    rw [servB_succ]
    cases hw : which.getD k false with
    | false =>
      simp only [Bool.false_eq_true, if_false, List.append_nil]
      exact ⟨h1, by omega⟩
    | true =>
      simp only [if_true, List.length_append, List.length_cons, List.length_nil, Nat.zero_add]
      have e1 := servedSt_append order (servB order which k) [order.getD k 0] _ (Nat.le_refl _)
      have e2 : (servB order which k ++ [order.getD k 0]).getD (servB order which k).length 0 = order.getD k 0 := by
        rw [List.getD_eq_getElem?_getD, List.getElem?_append_right (Nat.le_refl _), Nat.sub_self]
        rfl
      rw [servedSt, e1, e2, place_nodup h (by omega), if_pos h2]
      exact ⟨h1, by simp only; omega⟩
theorem nodup_getD {l : List Nat} (h : l.Nodup) {i j : Nat} (hi : i < l.length) (hj : j < l.length) (e : l.getD i 0 = l.getD j 0) : i = j := by
  rw [List.getD_eq_getElem?_getD, List.getElem?_eq_getElem hi, List.getD_eq_getElem?_getD, List.getElem?_eq_getElem hj] at e
  simp only [Option.getD_some] at e
  rcases Nat.lt_trichotomy i j with h1 | h1 | h1
  · exact absurd e (List.pairwise_iff_getElem.1 h i j hi hj h1)
  · exact h1
  · exact absurd e.symm (List.pairwise_iff_getElem.1 h j i hj hi h1)
theorem order_nodup (o : List Nat) (seed : List UInt8) : ((orderO o seed).map Int.ofNat).Nodup := by
  have hp := perm_S seed (headsO o).length
  refine List.pairwise_iff_getElem.2 (fun i j hi hj hij e => ?_)
  have hi' : i < (orderO o seed).length := by simpa using hi
  have hj' : j < (orderO o seed).length := by simpa using hj
  rw [List.getElem_map, List.getElem_map] at e
  have e : (orderO o seed)[i] = (orderO o seed)[j] := Int.ofNat.inj e
  have g : ∀ k (hk : k < (orderO o seed).length), (orderO o seed)[k] = (headsO o).getD ((shufS seed (headsO o).length).getD k 0) 0 ∧ (shufS seed (headsO o).length).getD k 0 < (headsO o).length := fun k hk => by
    have := order_at o seed (by rw [← order_length o seed]; exact hk)
    refine ⟨?_, this.2⟩
    rw [← this.1, List.getD_eq_getElem?_getD, List.getElem?_eq_getElem hk]
    rfl
  obtain ⟨gi, bi⟩ := g i hi'
  obtain ⟨gj, bj⟩ := g j hj'
  rw [gi, gj] at e
  have hx := nodup_getD (heads_nodup o) bi bj e
  have hij2 := hp.2.2 i j (by rw [order_length] at hi'; exact hi') (by rw [order_length] at hj'; exact hj') hx
  omega
end Go.Proofs.YtjddngbgbbbefaaGreatDoor
namespace Go.Proofs.YtjddngbgbbbefaaGreatDoor

/-! ### other orders -/
def cntK (kind : Int) (l : List Aud) (k : Nat) : Nat := ((l.take k).filter fun x => x.kind == kind).length
theorem cntK_succ (kind : Int) (l : List Aud) {k : Nat} (hk : k < l.length) : cntK kind l (k + 1) = cntK kind l k + if (l.getD k ⟨0, 0, 0⟩).kind = kind then 1 else 0 := by
  unfold cntK
  rw [take_snoc' l k ⟨0, 0, 0⟩ hk, List.filter_append, List.length_append]
  congr 1
  by_cases h : (l.getD k ⟨0, 0, 0⟩).kind = kind <;> simp [h, -List.getD_eq_getElem?_getD]
theorem cntK_le (kind : Int) (l : List Aud) (k : Nat) : cntK kind l k ≤ k := Nat.le_trans (List.length_filter_le _ _) (by rw [List.length_take]; exact Nat.min_le_left _ _)
def difB (order W : List Int) (k : Nat) : Bool := decide (order.length ≤ k) || decide (W.length ≤ k) || !(order.getD k 0 == W.getD k 0)
def difN (order W : List Int) (k : Nat) : Nat := ((List.range k).filter (difB order W)).length
theorem difN_succ (order W : List Int) (k : Nat) : difN order W (k + 1) = difN order W k + if difB order W k = true then 1 else 0 := by
  unfold difN
  rw [List.range_succ, List.filter_append, List.length_append]
  congr 1
  by_cases h : difB order W k = true <;> simp [h]
theorem difN_le (order W : List Int) (k : Nat) : difN order W k ≤ k := Nat.le_trans (List.length_filter_le _ _) (by rw [List.length_range]; exact Nat.le_refl _)
theorem moved_len (order W : List Int) : ∀ k, k ≤ W.length → ((List.range k).flatMap (movedA W order)).length = difN order W k
  | 0, _ => rfl
  | k + 1, h => by
    rw [flat_succ, List.length_append, moved_len order W k (by omega), difN_succ]
    congr 1
    unfold movedA difB
    by_cases h1 : k < order.length ∧ order.getD k 0 = W.getD k 0
    · rw [if_pos h1, if_neg]
      · rfl
      · have a : ¬ order.length ≤ k := by omega
        have b : ¬ W.length ≤ k := by omega
        simp [a, b, h1.2, -List.getD_eq_getElem?_getD]
    · rw [if_neg h1, if_pos]
      · rfl
      · by_cases a : order.length ≤ k
        · simp [a]
        · have : order.getD k 0 ≠ W.getD k 0 := fun e => h1 ⟨by omega, e⟩
          simp [a, this, -List.getD_eq_getElem?_getD]
theorem tail_len (order W : List Int) : ∀ j, W.length + j ≤ max order.length W.length → difN order W (W.length + j) = difN order W W.length + j
  | 0, _ => rfl
  | j + 1, h => by
    rw [← Nat.add_assoc, difN_succ, tail_len order W j (by omega)]
    have : difB order W (W.length + j) = true := by
      unfold difB
      have : W.length ≤ W.length + j := by omega
      simp [this]
    rw [if_pos this]
    omega
theorem movedF_len (order W : List Int) : (movedF W order).length = difN order W (max order.length W.length) := by
  unfold movedF
  rw [List.length_append, List.length_map, List.length_range, moved_len order W W.length (Nat.le_refl _)]
  have h := tail_len order W (max order.length W.length - W.length) (by omega)
  rw [show W.length + (max order.length W.length - W.length) = max order.length W.length by omega] at h
  rw [h]
  omega
theorem movedF_nil {order W : List Int} (h : movedF W order = []) : order = W := by
  unfold movedF at h
  rw [List.append_eq_nil_iff] at h
  obtain ⟨h1, h2⟩ := h
  have hl : order.length ≤ W.length := by
    have := congrArg List.length h2
    simp at this
    omega
  rw [List.flatMap_eq_nil_iff] at h1
  have hk : ∀ k, k < W.length → k < order.length ∧ order.getD k 0 = W.getD k 0 := fun k hk => by
    have := h1 k (List.mem_range.2 hk)
    unfold movedA at this
    split at this
    · assumption
    · cases this
  have hl2 : W.length ≤ order.length := by
    rcases Nat.eq_zero_or_pos W.length with e | e
    · omega
    · have := (hk (W.length - 1) (by omega)).1
      omega
  refine List.ext_getElem (by omega) (fun i h3 h4 => ?_)
  have := (hk i h4).2
  rw [List.getD_eq_getElem?_getD, List.getElem?_eq_getElem h3, List.getD_eq_getElem?_getD, List.getElem?_eq_getElem h4] at this
  simpa using this
theorem movedF_kind {order W : List Int} {x : Aud} (h : x ∈ movedF W order) : x.kind = 5 := by
  unfold movedF at h
  rcases List.mem_append.1 h with h | h
  · obtain ⟨k, _, hk⟩ := List.mem_flatMap.1 h
    unfold movedA at hk
    split at hk
    · cases hk
    · rw [List.mem_singleton.1 hk]
  · obtain ⟨k, _, rfl⟩ := List.mem_map.1 h
    rfl
theorem twiceF_kind {o : List Nat} {order : List Int} {x : Aud} (h : x ∈ twiceF o order) : x.kind = 2 := by
  unfold twiceF at h
  obtain ⟨k, _, hk⟩ := List.mem_flatMap.1 h
  unfold twiceA at hk
  split at hk
  · rw [List.mem_singleton.1 hk]
  · cases hk
theorem sortA_nodup (l : List Aud) : (sortA l).Nodup := (sortA_sorted l).imp (fun {a b} h e => by subst e; rw [ltA_irrefl] at h; cases h)
/-- Another order than the one of the entries and the seed. -/
theorem orders_law {o : List Nat} {p : Pbl} (h : GoodR p) (hs : p.served = []) (hne : p.order ≠ wantI o p) :
    0 < cntK 5 (checkS o p) (checkS o p).length ∧ cntK 5 (checkS o p) (checkS o p).length ≤ difN p.order (wantI o p) (max p.order.length (wantI o p).length) := by
  have hF : checkF o p = movedF (wantI o p) p.order ++ twiceF o p.order := by
    unfold checkF mvF
    rw [recF_good h, if_pos ⟨rfl, h.1⟩, hs]
    simp [servedSt]
  unfold cntK
  rw [List.take_length]
  constructor
  · cases hm : movedF (wantI o p) p.order with
    | nil => exact absurd (movedF_nil hm) hne
    | cons x t =>
      have hx : x ∈ movedF (wantI o p) p.order := by rw [hm]; simp
      refine List.length_pos_of_mem (a := x) (List.mem_filter.2 ⟨?_, by rw [movedF_kind hx]; rfl⟩)
      unfold checkS
      rw [mem_sortA, hF]
      exact List.mem_append_left _ hx
  · rw [← movedF_len]
    refine nodup_len ((sortA_nodup (checkF o p)).sublist List.filter_sublist) (fun x hx => ?_)
    obtain ⟨h1, h2⟩ := List.mem_filter.1 hx
    unfold checkS at h1
    rw [mem_sortA, hF] at h1
    rcases List.mem_append.1 h1 with h3 | h3
    · exact h3
    · rw [twiceF_kind h3] at h2
      simp at h2

/-! ### what is served out of turn -/
theorem served_kind (order served : List Int) : ∀ (k : Nat) (x : Aud), x ∈ (servedSt order served k).2 → x.kind = 6
  | 0, x, h => by simp [servedSt] at h
  | k + 1, x, h => by
    unfold servedSt at h
    split at h
    · exact served_kind order served k x h
    · rcases List.mem_append.1 h with h | h
      · exact served_kind order served k x h
      · rw [List.mem_singleton.1 h]
/-- What the law finds of the first k that are served. -/
def fineS (order served : List Int) : Nat → Bool × Int
  | 0 => (true, -1)
  | k + 1 => ((fineS order served k).1 && decide ((fineS order served k).2 < placeL order (served.getD k 0)), max (fineS order served k).2 (placeL order (served.getD k 0)))
theorem fineS_eq (order served : List Int) : ∀ k, (fineS order served k).2 = (servedSt order served k).1 ∧ ((fineS order served k).1 = true ↔ (servedSt order served k).2 = [])
  | 0 => by simp [fineS, servedSt]
  | k + 1 => by
    obtain ⟨h1, h2⟩ := fineS_eq order served k
    unfold fineS servedSt
    rw [h1]
    by_cases h : (servedSt order served k).1 < placeL order (served.getD k 0)
    · rw [if_pos h]
      refine ⟨by simp only; omega, ?_⟩
      simp [h, h2, -List.getD_eq_getElem?_getD]
    · rw [if_neg h]
      refine ⟨by simp only; omega, ?_⟩
      simp [h, -List.getD_eq_getElem?_getD]
theorem recF_kind {p : Pbl} {x : Aud} (h : x ∈ recF p) : x.kind = 1 ∨ x.kind = 3 ∨ x.kind = 4 := by
  unfold recF at h
  rcases List.mem_append.1 h with h | h
  · rcases List.mem_append.1 h with h | h
    · unfold entF at h
      obtain ⟨k, _, hk⟩ := List.mem_flatMap.1 h
      split at hk
      · cases hk
      · rw [List.mem_singleton.1 hk]; exact Or.inl rfl
    · unfold rootF at h
      split at h
      · cases h
      · rw [List.mem_singleton.1 h]; exact Or.inr (Or.inl rfl)
  · unfold partF at h
    obtain ⟨k, _, hk⟩ := List.mem_flatMap.1 h
    split at hk
    · rw [List.mem_singleton.1 hk]; exact Or.inr (Or.inr rfl)
    · cases hk
theorem serves_law (o : List Nat) (p : Pbl) : (fineS p.order p.served p.served.length).1 = (checkS o p).all (fun x => !(x.kind == 6)) := by
  rw [Bool.eq_iff_iff, (fineS_eq p.order p.served p.served.length).2, List.all_eq_true]
  constructor
  · intro h x hx
    unfold checkS at hx
    rw [mem_sortA] at hx
    unfold checkF at hx
    rw [h, List.append_nil] at hx
    have hk : x.kind ≠ 6 := by
      rcases List.mem_append.1 hx with hx | hx
      · rcases List.mem_append.1 hx with hx | hx
        · rcases recF_kind hx with h | h | h <;> omega
        · unfold mvF at hx
          split at hx
          · rw [movedF_kind hx]; decide
          · cases hx
      · rw [twiceF_kind hx]; decide
    simpa using hk
  · intro h
    cases hs : (servedSt p.order p.served p.served.length).2 with
    | nil => rfl
    | cons x t =>
      have hx : x ∈ (servedSt p.order p.served p.served.length).2 := by rw [hs]; simp
      have h1 := h x (by unfold checkS checkF; rw [mem_sortA]; exact List.mem_append_right _ hx)
      rw [served_kind _ _ _ _ hx] at h1
      simp at h1

/-! ### parties that reveal other texts -/
theorem dup_congr {l m : List Pty} (h : l.map (fun p => p.name) = m.map (fun p => p.name)) (i : Nat) : dupAt l i = dupAt m i := by
  have hl : l.length = m.length := by have := congrArg List.length h; simpa using this
  have hn : ∀ k : Nat, (l[k]?).map (fun p : Pty => p.name) = (m[k]?).map (fun p : Pty => p.name) := fun k => by
    rw [← List.getElem?_map, ← List.getElem?_map, h]
  have ht : (l.take i).map (fun p => p.name) = (m.take i).map (fun p => p.name) := by rw [List.map_take, List.map_take, h]
  have hi := hn i
  unfold dupAt
  cases ha : l[i]? with
  | none =>
    rw [ha] at hi
    cases hb : m[i]? with
    | none => rfl
    | some q => rw [hb] at hi; simp at hi
  | some p =>
    rw [ha] at hi
    cases hb : m[i]? with
    | none => rw [hb] at hi; simp at hi
    | some q =>
      rw [hb] at hi
      have e : p.name = q.name := by simpa using hi
      simp only
      rw [e]
      have a1 : (l.take i).any (fun x => x.name == q.name) = ((l.take i).map (fun p => p.name)).any (fun x => x == q.name) := by rw [List.any_map]; rfl
      have a2 : (m.take i).any (fun x => x.name == q.name) = ((m.take i).map (fun p => p.name)).any (fun x => x == q.name) := by rw [List.any_map]; rfl
      rw [a1, a2, ht]
theorem map_set {l : List Pty} {i : Nat} {x : Pty} (hi : i < l.length) (h : x.name = (l.getD i zP).name) : (l.set i x).map (fun p => p.name) = l.map (fun p => p.name) := by
  rw [List.map_set, h, List.getD_eq_getElem?_getD, List.getElem?_eq_getElem hi]
  refine List.ext_getElem (by simp) (fun k h1 h2 => ?_)
  rw [List.getElem_set]
  split
  · rename_i e; subst e; simp
  · rfl
/-- The party i reveals another text. -/
def revP (l : List Pty) (i : Nat) (t : List UInt8) : List Pty := l.set i ⟨(l.getD i zP).name, (l.getD i zP).com, t⟩
/-- .. and its commitment is changed as well. -/
def newP (l : List Pty) (i : Nat) (t : List UInt8) : List Pty := l.set i ⟨(l.getD i zP).name, dlist [(l.getD i zP).name, t], t⟩
theorem right_at {l : List Pty} {r : List UInt8} (h : (seedS l r).2 = 0) {i : Nat} (hi : i < l.length) : (l.getD i zP).com = dlist [(l.getD i zP).name, (l.getD i zP).rev] := by
  have := (seed_ok h).2.2.1 _ (getD_mem l i zP hi)
  unfold rightB at this
  simpa using this
/-- The finding about the party, where no two texts with one digest are shown. -/
theorem party_found {o : List Nat} {p : Pbl} {l : List Pty} {i : Nat} {t : List UInt8} (h : (seedS l p.root).2 = 0) (hi : i < l.length) (hp : p.parts = revP l i t) (hc : dlist [(l.getD i zP).name, (l.getD i zP).rev] ≠ dlist [(l.getD i zP).name, t]) : (⟨4, (i : Int), -1⟩ : Aud) ∈ checkS o p := by
  unfold checkS
  rw [mem_sortA]
  unfold checkF recF
  refine List.mem_append_left _ (List.mem_append_left _ (List.mem_append_left _ (List.mem_append_right _ ?_)))
  unfold partF
  rw [hp]
  refine List.mem_flatMap.2 ⟨i, List.mem_range.2 (by unfold revP; rw [List.length_set]; exact hi), ?_⟩
  have hg : (revP l i t).getD i zP = ⟨(l.getD i zP).name, (l.getD i zP).com, t⟩ := by
    unfold revP
    rw [List.getD_eq_getElem?_getD, List.getElem?_set_self hi]
    rfl
  have : wrongB (revP l i t) i = true := by
    unfold wrongB rightB
    rw [hg, right_at h hi]
    simp [hc, -List.getD_eq_getElem?_getD]
  rw [if_pos this]
  simp
theorem party_new {l : List Pty} {r : List UInt8} (h : (seedS l r).2 = 0) {i : Nat} (hi : i < l.length) (t : List UInt8) : (seedS (newP l i t) r).2 = 0 := by
  obtain ⟨g1, g2, g3, _⟩ := seed_ok h
  rw [seed_mk]
  · unfold newP; rw [List.length_set]; exact g1
  · intro k hk
    unfold newP at hk ⊢
    rw [List.length_set] at hk
    rw [dup_congr (map_set (x := ⟨(l.getD i zP).name, dlist [(l.getD i zP).name, t], t⟩) hi rfl) k]
    exact g2 k hk
  · intro p hp
    unfold newP at hp
    rcases List.mem_or_eq_of_mem_set hp with h1 | h1
    · exact g3 p h1
    · rw [h1]
      unfold rightB
      simp
theorem texts_inj : ∀ {l m : List Pty} {r : List UInt8}, textsS r l = textsS r m → l.map (fun p => p.rev) = m.map (fun p => p.rev)
  | [], [], _, _ => rfl
  | [], y :: m, _, h => by simp [textsS] at h
  | x :: l, [], _, h => by simp [textsS] at h
  | x :: l, y :: m, r, h => by
    simp only [textsS, List.flatMap_cons, List.cons_append, List.nil_append, List.cons.injEq, true_and] at h
    obtain ⟨_, h2, h3⟩ := h
    have ih := texts_inj (l := l) (m := m) (r := r) (by unfold textsS; rw [h3])
    rw [List.map_cons, List.map_cons, h2, ih]
theorem texts_new {l : List Pty} {i : Nat} {r t : List UInt8} (hi : i < l.length) (ht : (l.getD i zP).rev ≠ t) : textsS r l ≠ textsS r (newP l i t) := fun e => by
  have h := texts_inj e
  have h2 := congrArg (fun x => x[i]?) h
  simp only [List.getElem?_map] at h2
  unfold newP at h2
  rw [List.getElem?_set_self hi, List.getElem?_eq_getElem hi] at h2
  rw [List.getD_eq_getElem?_getD, List.getElem?_eq_getElem hi] at ht
  simp at h2 ht
  exact ht h2
end Go.Proofs.YtjddngbgbbbefaaGreatDoor
namespace Go.Proofs.YtjddngbgbbbefaaGreatDoor

def leafC (a b : List (List UInt8)) : Bool := (List.range a.length).any fun i => !(a.getD i [] == b.getD i []) && ((a.map leafD).getD i [] == (b.map leafD).getD i [])
def pairC (x y : List (List UInt8)) (k : Nat) : Bool := (!(x.getD (2 * k) [] == y.getD (2 * k) []) || !(x.getD (2 * k + 1) [] == y.getD (2 * k + 1) [])) && ((upL x).getD k [] == (upL y).getD k [])
def nodeC (x y : List (List UInt8)) : Bool := (List.range (x.length / 2)).any (pairC x y)
/-- Two different nodes with one digest are shown. -/
def upC (x y : List (List UInt8)) : Bool := if 1 < x.length then nodeC x y || upC (upL x) (upL y) else false
termination_by x.length
decreasing_by rw [upL_length]; omega
/-- The trees show two different texts with one digest. -/
def collT (a b : List (List UInt8)) : Bool := decide (a.length = b.length) && (leafC a b || upC (a.map leafD) (b.map leafD))
theorem list_ne {a b : List (List UInt8)} (hl : a.length = b.length) (h : a ≠ b) : ∃ i, i < a.length ∧ a.getD i [] ≠ b.getD i [] := by
  by_cases hx : ∃ i, i < a.length ∧ a.getD i [] ≠ b.getD i []
  · exact hx
  · exfalso
    refine h (List.ext_getElem hl (fun i h1 h2 => ?_))
    by_cases e : a.getD i [] = b.getD i []
    · rw [List.getD_eq_getElem?_getD, List.getElem?_eq_getElem h1, List.getD_eq_getElem?_getD, List.getElem?_eq_getElem h2] at e
      simpa using e
    · exact absurd ⟨i, h1, e⟩ hx
theorem up_ne {x y : List (List UInt8)} (hl : x.length = y.length) (h : x ≠ y) (hn : nodeC x y = false) : upL x ≠ upL y := by
  obtain ⟨i, hi, hne⟩ := list_ne hl h
  intro e
  have hk : 2 * (i / 2) < x.length := by omega
  have h1 := upL_at x (i / 2) hk
  have h2 := upL_at y (i / 2) (by omega)
  by_cases hp : 2 * (i / 2) + 1 < x.length
  · have := List.any_eq_false.1 hn (i / 2) (List.mem_range.2 (by omega))
    unfold pairC at this
    rw [e] at this
    simp only [BEq.rfl, Bool.and_true, Bool.not_eq_true] at this
    rw [Bool.or_eq_false_iff] at this
    obtain ⟨g1, g2⟩ := this
    have g1 : x.getD (2 * (i / 2)) [] = y.getD (2 * (i / 2)) [] := by simpa [-List.getD_eq_getElem?_getD] using g1
    have g2 : x.getD (2 * (i / 2) + 1) [] = y.getD (2 * (i / 2) + 1) [] := by simpa [-List.getD_eq_getElem?_getD] using g2
    rcases (show i = 2 * (i / 2) ∨ i = 2 * (i / 2) + 1 by omega) with h3 | h3
    · rw [← h3] at g1; exact hne g1
    · rw [← h3] at g2; exact hne g2
  · rw [if_neg hp] at h1
    rw [if_neg (by omega)] at h2
    have h3 : i = 2 * (i / 2) := by omega
    rw [e, h2, ← h3] at h1
    exact hne h1.symm
theorem top_ne : ∀ (n : Nat) (x y : List (List UInt8)), x.length = n → x.length = y.length → x ≠ y → upC x y = false → topL x ≠ topL y := by
  intro n
  induction n using Nat.strongRecOn with
  | ind n ih =>
    intro x y hn hl hne hc
    unfold upC at hc
    by_cases h1 : 1 < x.length
    · rw [if_pos h1, Bool.or_eq_false_iff] at hc
      have hu := up_ne hl hne hc.1
      have l1 := upL_length x
      have l2 := upL_length y
      unfold topL
      rw [if_pos h1, if_pos (by omega)]
      exact ih (upL x).length (by omega) (upL x) (upL y) rfl (by omega) hu hc.2
    · obtain ⟨i, hi, hd⟩ := list_ne hl hne
      unfold topL
      rw [if_neg h1, if_neg (by omega)]
      obtain rfl : i = 0 := by omega
      exact hd
/-- One root, two lists: two different texts with one digest are shown. -/
theorem coll_of {a b : List (List UInt8)} (hl : a.length = b.length) (hne : a ≠ b) (hr : rootL a = rootL b) : collT a b = true := by
  cases hc : collT a b with
  | true => rfl
  | false =>
    exfalso
    unfold collT at hc
    rw [decide_eq_true hl, Bool.true_and, Bool.or_eq_false_iff] at hc
    obtain ⟨i, hi, hd⟩ := list_ne hl hne
    have h1 : a.map leafD ≠ b.map leafD := by
      intro e
      have := List.any_eq_false.1 hc.1 i (List.mem_range.2 hi)
      rw [e] at this
      simp only [BEq.rfl, Bool.and_true, Bool.not_eq_true] at this
      have g : a.getD i [] = b.getD i [] := by simpa [-List.getD_eq_getElem?_getD] using this
      exact hd g
    have h2 := top_ne _ (a.map leafD) (b.map leafD) rfl (by simp [hl]) h1 hc.2
    unfold rootL at hr
    rw [if_neg (fun e => by rw [e] at hi; simp at hi), if_neg (fun e => by rw [e] at hl; simp at hl; rw [hl] at hi; simp at hi)] at hr
    exact h2 hr

theorem up_set (l : List (List UInt8)) (i : Nat) (x : List UInt8) : ∃ y, upL (l.set i x) = (upL l).set (i / 2) y := by
  refine ⟨(upL (l.set i x)).getD (i / 2) [], List.ext_getElem (by simp [upL_length]) (fun k h1 h2 => ?_)⟩
  have hk : 2 * k < l.length := by rw [upL_length, List.length_set] at h1; omega
  have e1 : (upL (l.set i x))[k] = (upL (l.set i x)).getD k [] := by rw [List.getD_eq_getElem?_getD, List.getElem?_eq_getElem h1]; rfl
  rw [List.getElem_set]
  split
  · rename_i e
    subst e
    exact e1
  · rename_i e
    have h3 : k < (upL l).length := by rw [upL_length]; omega
    have e2 : (upL l)[k] = (upL l).getD k [] := by rw [List.getD_eq_getElem?_getD, List.getElem?_eq_getElem h3]; rfl
    rw [e1, e2, upL_at _ k (by rw [List.length_set]; exact hk), upL_at l k hk, List.length_set]
    have s : ∀ j, j ≠ i → (l.set i x).getD j [] = l.getD j [] := fun j hj => by
      rw [List.getD_eq_getElem?_getD, List.getElem?_set_ne (fun e => hj e.symm), List.getD_eq_getElem?_getD]
    rw [s (2 * k) (by omega), s (2 * k + 1) (by omega)]
theorem path_set : ∀ (n : Nat) (l : List (List UInt8)) (i : Nat) (x : List UInt8), l.length = n → i < l.length → pathL (l.set i x) i = pathL l i := by
  intro n
  induction n using Nat.strongRecOn with
  | ind n ih =>
    intro l i x hn hi
    unfold pathL
    rw [List.length_set]
    by_cases h : 1 < l.length
    · rw [if_pos h, if_pos h]
      obtain ⟨y, hy⟩ := up_set l i x
      have l1 := upL_length l
      rw [hy, ih (upL l).length (by omega) (upL l) (i / 2) y rfl (by omega)]
      congr 1
      have hb : bes i ≠ i := by unfold bes; split <;> omega
      rw [List.getD_eq_getElem?_getD, List.getElem?_set_ne (fun e => hb e.symm), List.getD_eq_getElem?_getD]
    · rw [if_neg h, if_neg h]
/-- A path that leads a text at a place to the root leads there from the list with this text at this place. -/
theorem root_set {l : List (List UInt8)} {i : Nat} (hi : i < l.length) {t r : List UInt8} (h : ckL l.length i (leafD t) (pathL (l.map leafD) i) = some r) : rootL (l.set i t) = r := by
  have h1 := ck_path ((l.set i t).map leafD) i (by simpa using hi)
  have e : (l.set i t).map leafD = (l.map leafD).set i (leafD t) := List.map_set
  rw [e, path_set _ _ _ _ rfl (by simpa using hi)] at h1
  have e2 : ((l.map leafD).set i (leafD t)).getD i [] = leafD t := by
    rw [List.getD_eq_getElem?_getD, List.getElem?_set_self (by simpa using hi)]
    rfl
  rw [e2, List.length_set, List.length_map, h] at h1
  unfold rootL
  rw [if_neg (fun e => by have := congrArg List.length e; simp at this; rw [this] at hi; simp at hi), e]
  exact (Option.some.inj h1).symm
end Go.Proofs.YtjddngbgbbbefaaGreatDoor
namespace Go.Proofs.YtjddngbgbbbefaaGreatDoor

theorem receipt_ok (t : List (List UInt8)) (i : Nat) (hi : i < t.length) : chkB (rootL t) (t.length : Int) (i : Int) (t.getD i []) (pathL (t.map leafD) i) = true := by
  have h1 := ck_path (t.map leafD) i (by simpa using hi)
  have e : (t.map leafD).getD i [] = leafD (t.getD i []) := by
    rw [List.getD_eq_getElem?_getD, List.getElem?_map, List.getElem?_eq_getElem hi, List.getD_eq_getElem?_getD, List.getElem?_eq_getElem hi]
    rfl
  rw [e, List.length_map] at h1
  unfold chkB
  rw [Int.toNat_natCast, Int.toNat_natCast, h1]
  have h2 : rootL t = topL (t.map leafD) := by unfold rootL; rw [if_neg (fun e => by rw [e] at hi; simp at hi)]
  rw [h2]
  simp
  omega
theorem receipt_set {t : List (List UInt8)} {i : Nat} (hi : i < t.length) {x : List UInt8} (h : chkB (rootL t) (t.length : Int) (i : Int) x (pathL (t.map leafD) i) = true) : rootL (t.set i x) = rootL t := by
  unfold chkB at h
  rw [Bool.and_eq_true, Int.toNat_natCast, Int.toNat_natCast] at h
  exact root_set hi (by simpa using h.2)
def hA : List UInt8 := [97, 110, 110]
def hB : List UInt8 := [98, 111, 98]
def hC : List UInt8 := [99, 97, 114, 108]
def hE0 : Pty := ⟨hA, dsum [112], dlist [hA, [49]]⟩
def hE1 : Pty := ⟨hB, dsum [113], dlist [hB, [50]]⟩
def hE2 : Pty := ⟨hC, dsum [112], dlist [hC, [51]]⟩
def hE : List Pty := [hE0, hE1, hE2]
def hP0 : Pty := ⟨[120], dlist [[120], [111, 110, 101]], [111, 110, 101]⟩
def hP1 : Pty := ⟨[121], dlist [[121], [116, 119, 111]], [116, 119, 111]⟩
def hP : List Pty := [hP0, hP1]
theorem hd_pq : dsum [112] ≠ dsum [113] := by decide +kernel
theorem hE_cls : Cls hE [0, 1, 0] := by
  have l02 : Lnk hE 0 2 := ⟨_, _, rfl, rfl, Or.inr rfl⟩
  have hAB : hA ≠ hB := by decide
  have hBC : hB ≠ hC := by decide
  have key : ∀ i, i ≠ 1 → i < 3 → ¬ Lnk hE 1 i := by
    rintro i h1 h2 ⟨a, b, ha, hb, h⟩
    have : i = 0 ∨ i = 2 := by omega
    rcases this with rfl | rfl
    · cases ha; cases hb; rcases h with h | h; exact absurd h.symm hAB; exact hd_pq h.symm
    · cases ha; cases hb; rcases h with h | h; exact absurd h hBC; exact hd_pq h.symm
  refine ⟨rfl, fun i hi => ?_, fun i hi => ?_, fun i j hl => ?_⟩
  · match i, hi with
    | 0, _ => decide
    | 1, _ => decide
    | 2, _ => decide
  · match i, hi with
    | 0, _ => exact .refl _
    | 1, _ => exact .refl _
    | 2, _ => exact Conn.one l02.symm
  · have hlt := hl.lt
    have hi : i < 3 := hlt.1
    have hj : j < 3 := hlt.2
    have z : ∀ k, k ≠ 1 → k < 3 → ([0, 1, 0] : List Nat).getD k 0 = 0 := by
      intro k h1 h2
      have : k = 0 ∨ k = 2 := by omega
      rcases this with rfl | rfl <;> rfl
    by_cases h1 : i = 1
    · subst h1
      by_cases h2 : j = 1
      · rw [h2]
      · exact absurd hl (key j h2 hj)
    · by_cases h2 : j = 1
      · subst h2; exact absurd hl.symm (key i h1 hi)
      · rw [z i h1 hi, z j h2 hj]
theorem hE_valid : ∀ e ∈ hE, validB e = true := by
  have hi : ∀ l, isD (dsum l) = true := dsum_isD
  have hn : nameB hA = true ∧ nameB hB = true ∧ nameB hC = true := by decide
  intro e he
  simp only [hE, List.mem_cons, List.not_mem_nil, or_false] at he
  unfold validB
  rcases he with rfl | rfl | rfl <;> simp [hE0, hE1, hE2, dlist, hi, hn.1, hn.2.1, hn.2.2]
theorem hP_ok (r : List UInt8) : (seedS hP r).2 = 0 := by
  rw [seed_mk r (by decide)]
  · intro i hi
    match i, hi with
    | 0, _ => decide
    | 1, _ => decide
  · intro p hp
    simp only [hP, List.mem_cons, List.not_mem_nil, or_false] at hp
    unfold rightB
    rcases hp with rfl | rfl <;> simp [hP0, hP1]
theorem two_perm (seed : List UInt8) : shufS seed 2 = [0, 1] ∨ shufS seed 2 = [1, 0] := by
  obtain ⟨h1, h2, h3⟩ := perm_S seed 2
  match hs : shufS seed 2, h1 with
  | [x, y], _ =>
    rw [hs] at h2 h3
    have a := h2 0 (by decide)
    have b := h2 1 (by decide)
    have c := h3 0 1 (by decide) (by decide)
    simp at a b c
    have : (x = 0 ∧ y = 1) ∨ (x = 1 ∧ y = 0) := by omega
    rcases this with ⟨rfl, rfl⟩ | ⟨rfl, rfl⟩
    · exact Or.inl rfl
    · exact Or.inr rfl
theorem hd_order (seed : List UInt8) : orderO [0, 1, 0] seed = [0, 1] ∨ orderO [0, 1, 0] seed = [1, 0] := by
  have hh : headsO [0, 1, 0] = [0, 1] := by decide
  unfold orderO
  rw [hh]
  rcases two_perm seed with h | h
  · exact Or.inl (by rw [show ([0, 1] : List Nat).length = 2 from rfl, h]; rfl)
  · exact Or.inr (by rw [show ([0, 1] : List Nat).length = 2 from rfl, h]; rfl)
theorem hd_far : nodeD (nodeD (leafD (textS hE0)) (leafD (textS hE1))) (leafD (textS hE1)) ≠ nodeD (nodeD (leafD (textS hE0)) (leafD (textS hE1))) (leafD (textS hE2)) := by decide +kernel
theorem root_three (a b c : List UInt8) : rootL [a, b, c] = nodeD (nodeD (leafD a) (leafD b)) (leafD c) := by
  unfold rootL
  rw [if_neg (by simp), List.map_cons, List.map_cons, List.map_cons, List.map_nil, topL, if_pos (by simp)]
  simp only [upL]
  rw [topL, if_pos (by simp)]
  simp only [upL]
  rw [topL, if_neg (by simp)]
  rfl
/-- The example. -/
structure HeadP (R : List UInt8) (a b : Nat) : Prop where
  ab : (a = 0 ∧ b = 1) ∨ (a = 1 ∧ b = 0)
  pub : pubS (clsL hE) hE hP = (⟨hE, R, hP, [(a : Int), (b : Int)], []⟩, 0)
  rl : R.length ≤ 16
  c0 : checkS (clsL hE) ⟨hE, R, hP, [(a : Int), (b : Int)], []⟩ = []
  c1 : checkS (clsL hE) ⟨hE, R, hP, [(b : Int), (a : Int)], []⟩ = [⟨5, 0, placeL [(b : Int), (a : Int)] 0⟩, ⟨5, 1, placeL [(b : Int), (a : Int)] 1⟩]
  c2 : checkS (clsL hE) ⟨hE, R, hP, [(a : Int), (b : Int), 2], []⟩ = [⟨2, 0, 2⟩, ⟨5, 2, 2⟩]
  c3 : checkS (clsL hE) ⟨hE, [120], hP, [(a : Int), (b : Int)], []⟩ = [⟨3, -1, -1⟩]
  c4 : checkS (clsL hE) ⟨hE, R, hP, [(a : Int), (b : Int)], [(b : Int), (a : Int)]⟩ = [⟨6, (a : Int), 1⟩]
  yes : chkB R 3 2 (textS hE2) (pathL ((textsE hE).map leafD) 2) = true
  no : chkB R 3 2 (textS hE1) (pathL ((textsE hE).map leafD) 2) = false
  bad : (pubS (clsL hE) hE [⟨[120], [], []⟩]).2 = 20
theorem head20_plain : ∃ (R : List UInt8) (a b : Nat), HeadP R a b := by
  have hc : clsL hE = [0, 1, 0] := clsL_eq hE_cls
  obtain ⟨R, eR⟩ : ∃ R, R = rootL (textsE hE) := ⟨_, rfl⟩
  have h0 := hP_ok (rootL (textsE hE))
  have hpub := pub_mk (o := [0, 1, 0]) (es := hE) (ps := hP) (by decide) hE_valid h0
  have hrl := rootL_len (textsE hE)
  rw [← eR] at hpub h0 hrl
  obtain ⟨a, b, hab, hor⟩ : ∃ a b : Nat, ((a = 0 ∧ b = 1) ∨ (a = 1 ∧ b = 0)) ∧ orderO [0, 1, 0] (seedS hP R).1 = [a, b] := by
    rcases hd_order (seedS hP R).1 with h | h
    · exact ⟨0, 1, Or.inl ⟨rfl, rfl⟩, h⟩
    · exact ⟨1, 0, Or.inr ⟨rfl, rfl⟩, h⟩
  have hgood : ∀ order served, GoodR ⟨hE, R, hP, order, served⟩ := fun order served => ⟨show hE.length ≤ 4000 from (by decide), hE_valid, eR, h0⟩
  have hw : ∀ order served, wantI [0, 1, 0] ⟨hE, R, hP, order, served⟩ = [(a : Int), (b : Int)] := fun order served => by
    unfold wantI
    simp only
    rw [hor]
    rfl
  have hF : ∀ order served, checkF [0, 1, 0] ⟨hE, R, hP, order, served⟩ = movedF [(a : Int), (b : Int)] order ++ twiceF [0, 1, 0] order ++ (servedSt order served served.length).2 := fun order served => by
    unfold checkF mvF
    rw [recF_good (hgood order served), if_pos ⟨rfl, show hE.length ≤ 4000 from (by decide)⟩, hw]
    simp
  have hR120 : R ≠ [120] := by
    rw [eR, show textsE hE = [textS hE0, textS hE1, textS hE2] from rfl, root_three]
    intro e
    have := congrArg List.length e
    unfold nodeD dlist at this
    rw [dsum_length] at this
    simp at this
  refine ⟨R, a, b, hab, ?_, hrl, ?_, ?_, ?_, ?_, ?_, ?_, ?_, ?_⟩
  · rw [hc, hpub, hor]; rfl
  · rw [hc]; unfold checkS; rw [hF]
    rcases hab with ⟨rfl, rfl⟩ | ⟨rfl, rfl⟩ <;> decide
  · rw [hc]; unfold checkS; rw [hF]
    rcases hab with ⟨rfl, rfl⟩ | ⟨rfl, rfl⟩ <;> decide
  · rw [hc]; unfold checkS; rw [hF]
    rcases hab with ⟨rfl, rfl⟩ | ⟨rfl, rfl⟩ <;> decide
  · rw [hc]; unfold checkS
    have hrec : recF ⟨hE, [120], hP, [(a : Int), (b : Int)], []⟩ = [⟨3, -1, -1⟩] := by
      have hg := recF_good (hgood [] [])
      unfold recF at hg ⊢
      rw [List.append_eq_nil_iff, List.append_eq_nil_iff] at hg
      simp only at hg ⊢
      rw [hg.1.1, hg.2]
      unfold rootF
      rw [if_neg (fun e => hR120 (by rw [eR]; exact e.symm))]
      rfl
    have : checkF [0, 1, 0] ⟨hE, [120], hP, [(a : Int), (b : Int)], []⟩ = [⟨3, -1, -1⟩] ++ twiceF [0, 1, 0] [(a : Int), (b : Int)] := by
      unfold checkF mvF
      rw [hrec, if_neg (by simp)]
      simp [servedSt]
    rw [this]
    rcases hab with ⟨rfl, rfl⟩ | ⟨rfl, rfl⟩ <;> decide
  · rw [hc]; unfold checkS; rw [hF]
    rcases hab with ⟨rfl, rfl⟩ | ⟨rfl, rfl⟩ <;> decide
  · have := receipt_ok (textsE hE) 2 (by decide)
    rw [← eR] at this
    exact this
  · cases hx : chkB R 3 2 (textS hE1) (pathL ((textsE hE).map leafD) 2) with
    | false => rfl
    | true =>
      exfalso
      rw [eR] at hx
      have := receipt_set (t := textsE hE) (i := 2) (by decide) (x := textS hE1) hx
      rw [show (textsE hE).set 2 (textS hE1) = [textS hE0, textS hE1, textS hE1] from rfl, show textsE hE = [textS hE0, textS hE1, textS hE2] from rfl, root_three, root_three] at this
      exact hd_far this
  · have h1 : (hE.any fun e => !validB e) = false := List.any_eq_false.2 (fun e he => by simp [hE_valid e he])
    have h2 : seedS [⟨[120], [], []⟩] (rootL (textsE hE)) = ([], 20) := by
      unfold seedS
      have : rightB ⟨[120], [], []⟩ = false := by
        unfold rightB dlist
        have : ([] : List UInt8) ≠ dsum (joinL [[120], []]) := fun e => by have := congrArg List.length e; rw [dsum_length] at this; simp at this
        simpa using this
      rw [if_neg (by decide), if_neg (by decide), if_pos (by simp [this])]
    unfold pubS
    rw [if_neg (by decide), h1, h2]
    rfl
end Go.Proofs.YtjddngbgbbbefaaGreatDoor
