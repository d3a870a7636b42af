/-
  Plain law: what Show answers, Check takes.
  Plain law: the chosen indices increase.
  Plain law: the lengths and forms of paths; disclosures that Check refuses; some of the shown fields.
  Plain law: two records with one root, and a disclosure that belongs to a root: equal, or the search finds two lists.
-/
import Derived.Test.YtmhejcndkplepaaDoorRvL
namespace Go.Proofs.YtmhejcndkplepaaDoor
open Go.RowKit

theorem map_getD' {α β : Type} (f : α → β) (l : List α) (k : Nat) (a : α) (b : β) (h : k < l.length) : (l.map f).getD k b = f (l.getD k a) := by
  simp [List.getD_eq_getElem?_getD, h]
theorem ck_show {fields : List (List UInt8)} {s : List UInt8} {z : Nat} (h : z < fields.length) :
    chkB (sealS fields s) (fields.length : Int) (z : Int) (eleS fields s z) (pathL ((elemsL fields s).map leafD) z) = true := by
  have h1 := ck_path ((elemsL fields s).map leafD) z (by rw [List.length_map, elemsL_length]; exact h)
  rw [List.length_map, elemsL_length, map_getD' leafD _ z [] [] (by rw [elemsL_length]; exact h), elemsL_at h] at h1
  have hr : sealS fields s = topL ((elemsL fields s).map leafD) := by
    unfold sealS rootL
    rw [if_neg (fun h0 => by have := elemsL_length fields s; rw [h0] at this; simp at this; omega)]
  unfold chkB
  rw [hr, Int.toNat_natCast, Int.toNat_natCast, h1, decide_eq_true (by omega)]
  simp
theorem step_show {fields : List (List UInt8)} {s : List UInt8} {which : List Int} {fs : List (List UInt8)} {k : Nat} (hk : k < which.length) (hz : 0 ≤ which.getD k 0 ∧ which.getD k 0 < fields.length)
    (hf : fs.getD k [] = fields.getD (which.getD k 0).toNat []) :
    stepB (sealS fields s) ⟨fields.length, which, fs, which.map (pathF fields s)⟩ k = true := by
  obtain ⟨z, ez⟩ : ∃ z : Nat, which.getD k 0 = (z : Int) := ⟨(which.getD k 0).toNat, by omega⟩
  have hp : (which.map (pathF fields s)).getD k [] = saltS s z :: pathL ((elemsL fields s).map leafD) z := by
    rw [map_getD' _ _ k 0 [] hk, ez]; rfl
  unfold stepB
  simp only [hp, hf, ez, Int.toNat_natCast]
  rw [show isD (saltS s z) = true from dsum_isD _, Bool.true_and]
  exact ck_show (by rw [ez] at hz; omega)
theorem chk_show {fields : List (List UInt8)} {s : List UInt8} {which : List Int} (h : incB (-1) which fields.length = true) : chkD (sealS fields s) (showD fields s which) = true := by
  unfold showD
  rw [if_pos h]
  unfold chkD
  simp only [List.length_map, decide_true, Bool.and_true]
  rw [h, Bool.true_and]
  refine all_done (fun k hk => step_show hk (incB_in h (by decide) _ (getD_mem which k 0 hk)) ?_)
  rw [map_getD' _ _ k 0 [] hk]
end Go.Proofs.YtmhejcndkplepaaDoor
namespace Go.Proofs.YtmhejcndkplepaaDoor
open Go.RowKit

theorem incB_snoc {x n : Int} (hx : 0 ≤ x ∧ x < n) : ∀ (L : List Int) (last : Int), last < x → (∀ z ∈ L, z < x) → (L = [] ∨ incB last L n = true) → incB last (L ++ [x]) n = true := by
  intro L
  induction L with
  | nil => intro last h _ _; simp [incB, h, hx.1, hx.2]
  | cons i t ih =>
    intro last h hz hi
    rcases hi with hi | hi
    · cases hi
    simp only [incB, Bool.and_eq_true, decide_eq_true_eq] at hi
    simp only [List.cons_append, incB, Bool.and_eq_true, decide_eq_true_eq]
    exact ⟨hi.1, ih i (hz i (by simp)) (fun z hm => hz z (by simp [hm])) (Or.inr hi.2)⟩
theorem pick_lt {k : Nat} {l : List Bool} : ∀ z ∈ pickL k l, 0 ≤ z ∧ z < (k : Int) := by
  intro z hz
  unfold pickL at hz
  obtain ⟨j, hj, rfl⟩ := List.mem_map.1 hz
  have := List.mem_range.1 (List.mem_filter.1 hj).1
  omega
theorem inc_pick {l : List Bool} {n : Nat} : ∀ k, k ≤ n → pickL k l = [] ∨ incB (-1) (pickL k l) n = true := by
  intro k
  induction k with
  | zero => intro _; exact Or.inl rfl
  | succ k ih =>
    intro hk
    cases h : l.getD k false with
    | false => rw [pickL_no h]; exact ih (by omega)
    | true =>
      rw [pickL_yes h]
      exact Or.inr (incB_snoc (by omega) _ _ (by omega) (fun z hz => (pick_lt z hz).2) (ih (by omega)))
theorem inc_chosen {n : Nat} (l : List Bool) (h : 0 < n) : incB (-1) (chosenL n l) n = true := by
  unfold chosenL
  split
  · simp [incB, h]
  · rename_i h0
    exact (inc_pick n (Nat.le_refl n)).resolve_left h0
end Go.Proofs.YtmhejcndkplepaaDoor
namespace Go.Proofs.YtmhejcndkplepaaDoor
open Go.RowKit

theorem show_ok {fields : List (List UInt8)} {s : List UInt8} {which : List Int} (h : incB (-1) which fields.length = true) :
    showD fields s which = ⟨fields.length, which, which.map fun i => fields.getD i.toNat [], which.map (pathF fields s)⟩ := if_pos h
theorem showE_ok {fields : List (List UInt8)} {which : List Int} (h : incB (-1) which fields.length = true) : showE fields which = 0 := if_pos h
theorem pathF_len (fields : List (List UInt8)) (s : List UInt8) (i : Int) : (pathF fields s i).length = plen fields.length i.toNat + 1 := by
  unfold pathF
  rw [List.length_cons, pathL_length, List.length_map, elemsL_length]
theorem upL_isD : ∀ (l : List (List UInt8)), (∀ x ∈ l, isD x = true) → ∀ x ∈ upL l, isD x = true
  | [], _, x, h => by simp [upL] at h
  | [a], hl, x, h => by simp [upL] at h; exact hl x (by simp [h])
  | a :: b :: t, hl, x, h => by
    simp only [upL, List.mem_cons] at h
    rcases h with rfl | h
    · exact dsum_isD _
    · exact upL_isD t (fun y hy => hl y (by simp [hy])) x h
theorem pathL_isD (l : List (List UInt8)) (i : Nat) (hl : ∀ x ∈ l, isD x = true) : ∀ x ∈ pathL l i, isD x = true := by
  generalize hn : l.length = n
  induction n using Nat.strongRecOn generalizing l i with
  | _ n ih =>
    intro x hx
    rw [pathL.eq_def] at hx
    split at hx
    · rename_i h1
      rcases List.mem_append.1 hx with hx | hx
      · split at hx
        · rename_i h2
          rw [List.mem_singleton.1 hx]
          exact hl _ (getD_mem l _ [] h2)
        · cases hx
      · exact ih (upL l).length (by rw [upL_length]; omega) (upL l) (i / 2) (upL_isD l hl) rfl x hx
    · cases hx
theorem pathF_isD (fields : List (List UInt8)) (s : List UInt8) (i : Int) : ∀ x ∈ pathF fields s i, isD x = true := by
  unfold pathF
  intro x hx
  rcases List.mem_cons.1 hx with rfl | hx
  · exact dsum_isD _
  · refine pathL_isD _ _ (fun y hy => ?_) x hx
    obtain ⟨z, _, rfl⟩ := List.mem_map.1 hy
    exact dsum_isD _
theorem chk_false_at {root : List UInt8} {d : Disc} {k : Nat} (hk : k < d.which.length) (h : stepB root d k = false) : chkD root d = false := by
  unfold chkD
  rw [all_false hk h, Bool.and_false]
theorem chk_false_inc {root : List UInt8} {d : Disc} (h : incB (-1) d.which d.count = false) : chkD root d = false := by
  unfold chkD
  rw [h]; rfl
theorem chk_false_f {root : List UInt8} {d : Disc} (h : d.fields.length ≠ d.which.length) : chkD root d = false := by
  unfold chkD
  rw [decide_eq_false h, Bool.and_false]; rfl
theorem chk_false_p {root : List UInt8} {d : Disc} (h : d.paths.length ≠ d.which.length) : chkD root d = false := by
  unfold chkD
  rw [decide_eq_false h, Bool.and_false]; rfl
theorem chkB_len {root leaf : List UInt8} {n i : Nat} {p : List (List UInt8)} (hl : p.length ≠ plen n i) : chkB root (n : Int) (i : Int) leaf p = false := by
  unfold chkB
  rw [Int.toNat_natCast, Int.toNat_natCast]
  have : (ckL n i (leafD leaf) p == some root) = false := by
    rw [beq_eq_false_iff_ne]; intro h; exact hl (ck_len h)
  rw [this, Bool.and_false]
theorem step_nil {root : List UInt8} {d : Disc} {k : Nat} (hp : d.paths.getD k [] = []) : stepB root d k = false := by
  unfold stepB; simp only [hp]
theorem step_len {root : List UInt8} {d : Disc} {k n i : Nat} {x : List UInt8} {p : List (List UInt8)} (hp : d.paths.getD k [] = x :: p) (hc : d.count = (n : Int)) (hi : d.which.getD k 0 = (i : Int)) (hl : p.length ≠ plen n i) : stepB root d k = false := by
  unfold stepB
  simp only [hp, hc, hi]
  rw [chkB_len hl, Bool.and_false]
theorem step_bad {root : List UInt8} {d : Disc} {k : Nat} {x : List UInt8} {p : List (List UInt8)} (hp : d.paths.getD k [] = x :: p) (h : isD x = false) : stepB root d k = false := by
  unfold stepB
  simp only [hp]
  rw [h]; rfl

theorem inc_gt : ∀ {L : List Int} {last n : Int}, incB last L n = true → ∀ z ∈ L, last < z
  | [], _, _, _, z, hz => by cases hz
  | x :: t, last, n, h, z, hz => by
    simp only [incB, Bool.and_eq_true, decide_eq_true_eq] at h
    rcases List.mem_cons.1 hz with rfl | hz
    · exact h.1.1
    · have := inc_gt h.2 z hz
      omega
theorem inc_lt : ∀ {L : List Int} {last n : Int}, incB last L n = true → ∀ i j, i < j → j < L.length → L.getD i 0 < L.getD j 0
  | [], _, _, _, _, _, _, hj => by simp at hj
  | x :: t, last, n, h, i, j, hij, hj => by
    simp only [incB, Bool.and_eq_true, decide_eq_true_eq] at h
    match j, hij, hj with
    | j + 1, hij, hj =>
      rw [List.length_cons] at hj
      match i, hij with
      | 0, _ => exact inc_gt h.2 _ (getD_mem t j 0 (by omega))
      | i + 1, hij => exact inc_lt h.2 i j (by omega) (by omega)
/-- The places that stay. -/
def keepB (drop : List Bool) (k : Nat) : Bool := decide (k = 0) || !drop.getD k false
def lessN (k : Nat) (drop : List Bool) : List Nat := (List.range k).filter (keepB drop)
theorem lessN_yes {k : Nat} {drop : List Bool} (h : keepB drop k = true) : lessN (k + 1) drop = lessN k drop ++ [k] := by
  unfold lessN
  rw [List.range_succ, List.filter_append, List.filter_cons_of_pos h, List.filter_nil]
theorem lessN_no {k : Nat} {drop : List Bool} (h : keepB drop k = false) : lessN (k + 1) drop = lessN k drop := by
  unfold lessN
  rw [List.range_succ, List.filter_append, List.filter_cons_of_neg (by rw [h]; decide), List.filter_nil, List.append_nil]
theorem lessN_lt {k : Nat} {drop : List Bool} : ∀ j ∈ lessN k drop, j < k := fun _ hj => List.mem_range.1 (List.mem_filter.1 hj).1
theorem lessN_len (k : Nat) (drop : List Bool) : (lessN k drop).length ≤ k := by
  unfold lessN
  exact Nat.le_trans (List.length_filter_le _ _) (by simp)
theorem inc_less {L : List Int} {n : Int} {drop : List Bool} (h : incB (-1) L n = true) : ∀ k, k ≤ L.length → (lessN k drop = [] ∧ k = 0) ∨ incB (-1) ((lessN k drop).map fun j => L.getD j 0) n = true := by
  intro k
  induction k with
  | zero => intro _; exact Or.inl ⟨rfl, rfl⟩
  | succ k ih =>
    intro hk
    cases hb : keepB drop k with
    | false =>
      rw [lessN_no hb]
      rcases ih (by omega) with ⟨h1, rfl⟩ | h1
      · simp [keepB] at hb
      · exact Or.inr h1
    | true =>
      rw [lessN_yes hb, List.map_append]
      have hz := incB_in h (by decide) _ (getD_mem L k 0 (by omega))
      refine Or.inr (incB_snoc hz _ _ (by omega) (fun z hm => ?_) ?_)
      · obtain ⟨j, hj, rfl⟩ := List.mem_map.1 hm
        exact inc_lt h j k (lessN_lt j hj) (by omega)
      · rcases ih (by omega) with ⟨h1, _⟩ | h1
        · left; rw [h1]; rfl
        · exact Or.inr h1
theorem inc_ne {L : List Int} {n : Int} (h : incB (-1) L n = true) : L ≠ [] := by
  rintro rfl
  simp [incB] at h
/-- The disclosure of the fields that stay. -/
def lessD (fields : List (List UInt8)) (s : List UInt8) (L : List Int) (drop : List Bool) (k : Nat) : Disc :=
  ⟨fields.length, (lessN k drop).map fun j => L.getD j 0, (lessN k drop).map fun j => fields.getD (L.getD j 0).toNat [], (lessN k drop).map fun j => pathF fields s (L.getD j 0)⟩
theorem inc_lessD {fields : List (List UInt8)} {L : List Int} (drop : List Bool) (h : incB (-1) L fields.length = true) : incB (-1) ((lessN L.length drop).map fun j => L.getD j 0) fields.length = true :=
  (inc_less h L.length (Nat.le_refl _)).resolve_left (fun h1 => inc_ne h (List.length_eq_zero_iff.1 h1.2))
theorem less_show {fields : List (List UInt8)} {s : List UInt8} {L : List Int} {drop : List Bool} (h : incB (-1) L fields.length = true) :
    showD fields s ((lessN L.length drop).map fun j => L.getD j 0) = lessD fields s L drop L.length := by
  rw [show_ok (inc_lessD drop h)]
  unfold lessD
  simp only [List.map_map]
  rfl
end Go.Proofs.YtmhejcndkplepaaDoor
namespace Go.Proofs.YtmhejcndkplepaaDoor
open Go.RowKit

theorem isD_l16 {l : List UInt8} (h : isD l = true) : l.length = 16 := by
  simp only [isD, Bool.and_eq_true, beq_iff_eq] at h
  exact h.1
/-- The search of the law foyerlaw31.found. -/
def foundL (l : List (List UInt8)) (i : Nat) (text : List UInt8) (p : List (List UInt8)) : Bool :=
  collB [leafB, text] [leafB, l.getD i []] || findL (l.map leafD) i (leafD text) p
theorem found_sound {l : List (List UInt8)} {i : Nat} {text : List UInt8} {p : List (List UInt8)} (hi : i < l.length)
    (h : ckL l.length i (leafD text) p = some (topL (l.map leafD))) (hf : foundL l i text p = false) : text = l.getD i [] := by
  unfold foundL at hf
  rw [Bool.or_eq_false_iff] at hf
  have h1 := find_sound (l := l.map leafD) (by rw [List.length_map]; exact hi) (by rw [List.length_map]; exact h) hf.2
  rw [map_getD' leafD _ i [] [] hi] at h1
  have h2 := hf.1
  unfold collB at h2
  by_cases he : [leafB, text] = [leafB, l.getD i []]
  · exact (List.cons.inj (List.cons.inj he).2).1
  · rw [decide_eq_false he, show dlist [leafB, text] = dlist [leafB, l.getD i []] from h1] at h2
    simp at h2
theorem sealS_top {fields : List (List UInt8)} {s : List UInt8} (h : 0 < fields.length) : sealS fields s = topL ((elemsL fields s).map leafD) := by
  unfold sealS rootL
  rw [if_neg (fun h0 => by have := elemsL_length fields s; rw [h0] at this; simp at this; omega)]
theorem salts_law {fields others : List (List UInt8)} {s t : List UInt8} (hl : fields.length = others.length) (hr : sealS fields s = sealS others t) {i : Nat} (hi : i < fields.length)
    (hf : foundL (elemsL fields s) i (eleS others t i) (pathL ((elemsL others t).map leafD) i) = false) : fields.getD i [] = others.getD i [] ∧ saltS s i = saltS t i := by
  have h1 := ck_path ((elemsL others t).map leafD) i (by rw [List.length_map, elemsL_length]; omega)
  rw [List.length_map, elemsL_length, map_getD' leafD _ i [] [] (by rw [elemsL_length]; omega), elemsL_at (by omega), ← hl, ← sealS_top (by omega), ← hr, sealS_top (by omega)] at h1
  have h2 := found_sound (by rw [elemsL_length]; exact hi) (by rw [elemsL_length]; exact h1) hf
  rw [elemsL_at hi] at h2
  have h3 := List.append_inj (h2 : saltS t i ++ others.getD i [] = saltS s i ++ fields.getD i []) (by rw [saltS_length, saltS_length])
  exact ⟨h3.2.symm, h3.1.symm⟩
theorem step_parts {root : List UInt8} {d : Disc} {k : Nat} (h : stepB root d k = true) : ∃ x p, d.paths.getD k [] = x :: p ∧ isD x = true ∧ chkB root d.count (d.which.getD k 0) (x ++ d.fields.getD k []) p = true := by
  unfold stepB at h
  split at h
  · cases h
  · rename_i x p hp
    rw [Bool.and_eq_true] at h
    exact ⟨x, p, hp, h.1, h.2⟩
theorem chk_parts {root : List UInt8} {d : Disc} (h : chkD root d = true) : incB (-1) d.which d.count = true ∧ d.fields.length = d.which.length ∧ d.paths.length = d.which.length ∧ ∀ k, k < d.which.length → stepB root d k = true := by
  unfold chkD at h
  simp only [Bool.and_eq_true, decide_eq_true_eq] at h
  exact ⟨h.1.1.1, h.1.1.2, h.1.2, fun k hk => (List.all_eq_true.1 h.2) k (List.mem_range.2 hk)⟩
theorem sound_law {fields : List (List UInt8)} {s : List UInt8} {d : Disc} {k i : Nat} {x : List UInt8} {p : List (List UInt8)} (hc : d.count = fields.length) (hi : i < fields.length) (hx : isD x = true)
    (h : chkB (sealS fields s) d.count (i : Int) (x ++ d.fields.getD k []) p = true) (hf : foundL (elemsL fields s) i (x ++ d.fields.getD k []) p = false) : d.fields.getD k [] = fields.getD i [] ∧ x = saltS s i := by
  unfold chkB at h
  rw [Bool.and_eq_true, hc, Int.toNat_natCast, Int.toNat_natCast, beq_iff_eq, sealS_top (by omega)] at h
  have h2 := found_sound (by rw [elemsL_length]; exact hi) (by rw [elemsL_length]; exact h.2) hf
  rw [elemsL_at hi] at h2
  have h3 := List.append_inj (h2 : x ++ d.fields.getD k [] = saltS s i ++ fields.getD i []) (by rw [saltS_length, isD_l16 hx])
  exact ⟨h3.2, h3.1⟩
end Go.Proofs.YtmhejcndkplepaaDoor
