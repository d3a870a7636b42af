/-
  foyerref18.head: the least index of a class.
  Plain laws: the order of strings; a sorted list of indices; neighbours with equal strings. No program in sight.
  foyerref18.sorted.
  foyerref18.link: neighbours with equal strings come to one class.
  Plain law: two rounds of 'link' give the classes. No program in sight.
  foyerref18.Classes.
-/
import Derived.Test.YtjddngbgbbbefaaGreatDoorPlnEn
import Derived.Test.YtjddngbgbbbefaaGreatDoorArr
import Derived.Deep.RegionHeld3
import Derived.BigRegion
import Derived.Test.YtjddngbgbbbefaaGreatDoorBase
import Derived.Laws.Cover1
import Derived.BigQuiet
import Derived.Test.YtjddngbgbbbefaaGreatDoorAppAt
namespace Go.Proofs.YtjddngbgbbbefaaGreatDoor
open Go.RowKit

theorem OwnI.cells {base : Nat} {w : World} {g n cap : Nat} {p : List Nat} (h : OwnI base w (.slice (some ⟨g, 0, none⟩) n cap) p) (hn : p.length = n) (j : Nat) (hj : j < n) : w.cell? ⟨g, j, none⟩ = some (.int .i64 (p.getD j 0 : Nat)) := by
  obtain ⟨cur, _, hgc, _, _, _, h6⟩ := h.formN hn
  rw [row_cell hgc j, natV_at h6 hn j hj]
theorem OwnI.free {base : Nat} {w : World} {g n cap : Nat} {p : List Nat} (h : OwnI base w (.slice (some ⟨g, 0, none⟩) n cap) p) (hn : p.length = n) (j : Nat) : w.frozen? ⟨g, j, none⟩ = false := by
  obtain ⟨cur, _, hgc, _⟩ := h.formN hn
  exact row_free hgc j
theorem OwnI.put {base : Nat} {w : World} {g n cap : Nat} {p : List Nat} (h : OwnI base w (.slice (some ⟨g, 0, none⟩) n cap) p) (hn : p.length = n) (i x : Nat) : OwnI base (w.setCell ⟨g, i, none⟩ (.int .i64 (x : Int))) (.slice (some ⟨g, 0, none⟩) n cap) (p.set i x) := by
  obtain ⟨cur, hb, hgc, h3, h4, h5, h6⟩ := h.formN hn
  exact ownI_set hb hgc hn h3 h4 h5 h6 x

set_option maxRecDepth 100000 in
set_option maxHeartbeats 4000000 in
theorem rhead_any (base g n cap k i : Nat) (R : Nat → Nat) (p : List Nat) (w : World) (hi : i < k) (hO : OwnI base w (.slice (some ⟨g, 0, none⟩) n cap) p) (hn : p.length = n) (hU : UF k p R) :
    Calls Tryz.prog 96 #[.slice (some ⟨g, 0, none⟩) n cap, .int .i64 (i : Int)] w fun e w' => e = .returned (.int .i64 (R i : Nat)) ∧ ∃ p', OwnI base w' (.slice (some ⟨g, 0, none⟩) n cap) p' ∧ p'.length = n ∧ Shrt k p p' R ∧ Fr [g] w w' := by
  have hkn : k ≤ n := by have := hU.len; omega
  have HO := Lib.hid hO
  have HU := Lib.hid hU
  have HN := Lib.hid hn
  clear hO hU hn
  go_enter Tryz.func96, Tryz.ntmps96
  go_wp2_with fail
  go_loopg [5] (i + 1) (fun gh r wr => ∃ j : Nat, j < k ∧ gh = j + 1 ∧ r = .int .i64 (j : Int) ∧ R j = R i ∧ wr = w)
  case atStart => exact ⟨i, hi, rfl, rfl, rfl, rfl⟩
  case round =>
    obtain ⟨j, hj, hgh, rfl, hrj, rfl⟩ := hrel
    have HGH := Lib.hid hgh
    have HRJ := Lib.hid hrj
    have c0 := HO.out.cells HN.out j (by omega)
    have hle := HU.out.le j hj
    have HFX := Lib.hid (HU.out.fx j hj)
    have HRT := Lib.hid (HU.out.rt j hj)
    have i0 : (0 : Int) ≤ (j : Int) := by omega
    have i1 : (j : Int) < (n : Int) := by omega
    clear hgh hrj
    generalize p.getD j 0 = x at c0 hle HFX HRT
    by_cases hx : x = j
    · subst hx
      have t1 : ((x : Int) != (x : Int)) = false := by simp
      have HR : Hid (R i = x) := Lib.hid (by rw [← HRJ.out]; exact HFX.out.1 rfl)
      go_wp2_with fail
      clear i0 i1 t1 c0 hle HFX HRT HRJ HGH
      go_loopg [1] (i + 1) (fun gh r wr' => ∃ (j : Nat) (q : List Nat), j < k ∧ gh = j + 1 ∧ r = .int .i64 (j : Int) ∧ R j = x ∧ OwnI base wr' (.slice (some ⟨g, 0, none⟩) n cap) q ∧ q.length = n ∧ Shrt k p q R ∧ Fr [g] wr wr')
      case atStart => exact ⟨i, p, hi, rfl, rfl, HR.out, HO.out, HN.out, .refl _ _ _, .refl _ _⟩
      case round =>
        obtain ⟨j, q, hj', hgh, rfl, hrj, ho, hqn, hsh, hfr⟩ := hrel
        have HGH := Lib.hid hgh
        have HRJ := Lib.hid hrj
        have HOQ := Lib.hid ho
        have HQN := Lib.hid hqn
        have HSH := Lib.hid hsh
        have HUQ := Lib.hid (HU.out.shrt hsh)
        have c0 := ho.cells hqn j (by omega)
        have c1 := ho.free hqn j
        have hle := HUQ.out.le j hj'
        have HFX := Lib.hid (HUQ.out.fx j hj')
        have HRT := Lib.hid (HUQ.out.rt j hj')
        have i0 : (0 : Int) ≤ (j : Int) := by omega
        have i1 : (j : Int) < (n : Int) := by omega
        clear hgh hrj ho hqn hsh
        generalize q.getD j 0 = y at c0 hle HFX HRT
        by_cases hy : y = x
        · have t1 : ((y : Int) != (x : Int)) = false := by rw [hy]; simp
          clear hy
          go_wp2_with fail
          go_ret
          exact ⟨by rw [HR.out]; rfl, q, HOQ.out, HQN.out, HSH.out, hfr⟩
        · have t1 : ((y : Int) != (x : Int)) = true := by simp; omega
          have hyj : y ≠ j := fun e => hy (by rw [← HRJ.out, HFX.out.1 e]; exact e)
          have HO2 := Lib.hid (HOQ.out.put HQN.out j x)
          have HSH2 : Hid (Shrt k p (q.set j x) R) := Lib.hid (HSH.out.trans (by have := Shrt.set (k := k) (R := R) (p := q) (i := j) (by have := HQN.out; omega); rwa [HRJ.out] at this))
          have HF2 := Lib.hid (hfr.setCell ⟨g, j, none⟩ (.int .i64 (x : Int)) (by simp))
          have HQ2 : Hid ((q.set j x).length = n) := Lib.hid (by rw [List.length_set]; exact HQN.out)
          clear hy
          go_wp2_with fail
          go_roundg (y + 1)
          case measure => have := HGH.out; omega
          case rel => exact ⟨y, _, by omega, rfl, rfl, by rw [HRT.out, HRJ.out], HO2.out, HQ2.out, HSH2.out, HF2.out⟩
    · have t1 : ((x : Int) != (j : Int)) = true := by simp; omega
      clear HFX
      go_wp2_with fail
      go_roundg (x + 1)
      case measure => have := HGH.out; omega
      case rel => exact ⟨x, by omega, rfl, rfl, by rw [HRT.out, HRJ.out], rfl⟩
end Go.Proofs.YtjddngbgbbbefaaGreatDoor
namespace Go.Proofs.YtjddngbgbbbefaaGreatDoor

def leS (a b : List UInt8) : Bool := Op.bytesLess a b || a == b
theorem leS_nil (b : List UInt8) : leS [] b = true := by cases b <;> simp [leS, Op.bytesLess]
theorem leS_no (x : UInt8) (a : List UInt8) : leS (x :: a) [] = false := by simp [leS, Op.bytesLess]
theorem leS_cons (x y : UInt8) (a b : List UInt8) : leS (x :: a) (y :: b) = true ↔ x < y ∨ (x = y ∧ leS a b = true) := by
  simp only [leS, Op.bytesLess, Bool.or_eq_true, Bool.and_eq_true, decide_eq_true_eq, beq_iff_eq, List.cons.injEq]
  constructor
  · rintro ((h | ⟨h1, h2⟩) | ⟨h1, h2⟩)
    · exact Or.inl h
    · exact Or.inr ⟨h1, Or.inl h2⟩
    · exact Or.inr ⟨h1, Or.inr h2⟩
  · rintro (h | ⟨h1, h2 | h2⟩)
    · exact Or.inl (Or.inl h)
    · exact Or.inl (Or.inr ⟨h1, h2⟩)
    · exact Or.inr ⟨h1, h2⟩
theorem leS_total : ∀ a b, (leS a b || leS b a) = true
  | [], b => by rw [leS_nil]; rfl
  | x :: a, [] => by rw [leS_nil, Bool.or_true]
  | x :: a, y :: b => by
    have ih := leS_total a b
    simp only [Bool.or_eq_true] at ih ⊢
    rw [leS_cons, leS_cons]
    rcases Nat.lt_trichotomy x.toNat y.toNat with h | h | h
    · exact Or.inl (Or.inl (UInt8.lt_iff_toNat_lt.2 h))
    · have e : x = y := UInt8.toNat_inj.1 h
      rcases ih with h1 | h1
      · exact Or.inl (Or.inr ⟨e, h1⟩)
      · exact Or.inr (Or.inr ⟨e.symm, h1⟩)
    · exact Or.inr (Or.inl (UInt8.lt_iff_toNat_lt.2 h))
theorem leS_trans : ∀ a b c, leS a b = true → leS b c = true → leS a c = true
  | [], _, c => fun _ _ => leS_nil c
  | x :: a, [], c => fun h => by rw [leS_no] at h; cases h
  | x :: a, y :: b, [] => fun _ h => by rw [leS_no] at h; cases h
  | x :: a, y :: b, z :: c => fun h g => by
    rw [leS_cons] at h g ⊢
    simp only [UInt8.lt_iff_toNat_lt] at h g ⊢
    rcases h with h | ⟨rfl, h⟩
    · rcases g with g | ⟨rfl, g⟩
      · exact Or.inl (Nat.lt_trans h g)
      · exact Or.inl h
    · rcases g with g | ⟨rfl, g⟩
      · exact Or.inl g
      · exact Or.inr ⟨rfl, leS_trans a b c h g⟩
theorem leS_antisymm : ∀ a b, leS a b = true → leS b a = true → a = b
  | [], [] => fun _ _ => rfl
  | x :: a, [] => fun h => by rw [leS_no] at h; cases h
  | [], y :: b => fun _ h => by rw [leS_no] at h; cases h
  | x :: a, y :: b => fun h g => by
    rw [leS_cons] at h g
    simp only [UInt8.lt_iff_toNat_lt] at h g
    rcases h with h | ⟨rfl, h⟩
    · rcases g with g | ⟨rfl, g⟩ <;> omega
    · rcases g with g | ⟨_, g⟩
      · omega
      · rw [leS_antisymm a b h g]
def leI (bys : List (List UInt8)) (i j : Nat) : Bool := leS (bys.getD i []) (bys.getD j [])
/-- What 'sorted' answers. -/
structure Sorted (bys : List (List UInt8)) (l s : List Nat) : Prop where
  perm : s.Perm l
  pw : s.Pairwise (fun a b => leI bys a b = true)
theorem Sorted.few (bys : List (List UInt8)) (l : List Nat) (h : l.length < 2) : Sorted bys l l where
  perm := .refl _
  pw := by
    match l, h with
    | [], _ => exact .nil
    | [x], _ => simp
theorem Sorted.merge {bys : List (List UInt8)} {l m s t : List Nat} (h : Sorted bys l s) (g : Sorted bys m t) : Sorted bys (l ++ m) (s.merge t (leI bys)) where
  perm := (List.merge_perm_append _).trans (h.perm.append g.perm)
  pw := List.pairwise_merge (le := leI bys) (fun a b c => leS_trans (bys.getD a []) (bys.getD b []) (bys.getD c [])) (fun a b => leS_total (bys.getD a []) (bys.getD b [])) _ _ h.pw g.pw
theorem pw_at {bys : List (List UInt8)} {s : List Nat} (h : s.Pairwise (fun a b => leI bys a b = true)) {i j : Nat} (hij : i < j) (hj : j < s.length) : leI bys (s.getD i 0) (s.getD j 0) = true := by
  have := List.pairwise_iff_getElem.1 h i j (by omega) hj hij
  simpa [List.getD_eq_getElem?_getD, hj, show i < s.length by omega] using this
theorem adj_chain {bys : List (List UInt8)} {s : List Nat} (h : s.Pairwise (fun a b => leI bys a b = true)) {R : Nat → Nat}
    (ha : ∀ i, i + 1 < s.length → bys.getD (s.getD (i + 1) 0) [] = bys.getD (s.getD i 0) [] → R (s.getD (i + 1) 0) = R (s.getD i 0)) :
    ∀ d i, i + d < s.length → bys.getD (s.getD i 0) [] = bys.getD (s.getD (i + d) 0) [] → R (s.getD i 0) = R (s.getD (i + d) 0) := by
  intro d
  induction d with
  | zero => intro i _ _; rfl
  | succ d ih =>
    intro i hi he
    have e1 : bys.getD (s.getD (i + d) 0) [] = bys.getD (s.getD i 0) [] := by
      cases d with
      | zero => rfl
      | succ d =>
        apply leS_antisymm
        · have := pw_at h (i := i + (d + 1)) (j := i + (d + 1 + 1)) (by omega) hi
          unfold leI at this
          rwa [← he] at this
        · exact pw_at h (i := i) (j := i + (d + 1)) (by omega) (by omega)
    rw [ih i (by omega) e1.symm]
    exact (ha (i + d) (by omega) (by rw [e1]; exact he.symm)).symm
theorem Sorted.same {bys : List (List UInt8)} {l s : List Nat} (h : Sorted bys l s) {R : Nat → Nat}
    (ha : ∀ i, i + 1 < s.length → bys.getD (s.getD (i + 1) 0) [] = bys.getD (s.getD i 0) [] → R (s.getD (i + 1) 0) = R (s.getD i 0))
    {x y : Nat} (hx : x ∈ l) (hy : y ∈ l) (he : bys.getD x [] = bys.getD y []) : R x = R y := by
  have key : ∀ z, z ∈ l → ∃ i, i < s.length ∧ s.getD i 0 = z := by
    intro z hz
    obtain ⟨i, hi, e⟩ := List.getElem_of_mem (h.perm.mem_iff.2 hz)
    exact ⟨i, hi, by simp [List.getD_eq_getElem?_getD, hi, e]⟩
  obtain ⟨i, hi, rfl⟩ := key x hx
  obtain ⟨j, hj, rfl⟩ := key y hy
  rcases Nat.le_total i j with hij | hij
  · have := adj_chain h.pw ha (j - i) i (by omega) (by rw [show i + (j - i) = j by omega]; exact he)
    rwa [show i + (j - i) = j by omega] at this
  · have := adj_chain h.pw ha (i - j) j (by omega) (by rw [show j + (i - j) = i by omega]; exact he.symm)
    rw [show j + (i - j) = i by omega] at this
    exact this.symm
end Go.Proofs.YtjddngbgbbbefaaGreatDoor
namespace Go.Proofs.YtjddngbgbbbefaaGreatDoor
open Go.RowKit

theorem run_appN_nil (w : World) (base : Nat) (ty : TypeId) (v : Value) (l : List Nat) (hown : OwnI base w v l) (c : Nat) : (Builtin.append_ #[24, 24] ty #[v, .slice none 0 c]).run Tryz.prog w = .ok v w := by
  obtain ⟨i0, hi, hz0, hz1, hz2⟩ := info_parts iInfo
  rcases hown.2 with ⟨rfl, _⟩ | ⟨g, cap, cur, rfl, _, _, hnc, _⟩
  · simp [Builtin.append_, run_underlying Tryz.underlying24, sizeOf, typeInfo, hi, Builtin.lenOf, Builtin.firstCells]
  · simp [Builtin.append_, run_underlying Tryz.underlying24, sizeOf, typeInfo, hi, Builtin.lenOf, Builtin.firstCells, hnc, storeCells]
theorem wp_appN {o : Oper} {a : Act} {K : Act → World → Prop} {Q : Exit → Act → World → Prop} {w : World} (s x : Operand)
    (ho : o.op = .call { callee := .builtin .append, args := #[s, x], argTypes := #[24, 24] }) (base : Nat) (ev xv : Value) (l xs : List Nat) (w0 : World)
    (hs : a.eval s = ev) (hx : a.eval x = xv) (hxs : Nums w xv xs) (hown : OwnI base w ev l) (hfr : Fr [] w0 w) (hb0 : w0.heap.size ≤ base) (hb : base ≤ w.heap.size) (hl : l.length + xs.length < 1000000)
    (h : ∀ v' w', OwnI base w' v' (l ++ xs) → Fr [] w0 w' → Fr ev.ownBlock.toList w w' → K (a.put o.dst v') w') :
    o.wp Tryz.prog a w K Q := by
  obtain ⟨i0, hi, hz0, hz1, hz2⟩ := info_parts iInfo
  rcases hxs with ⟨rfl, rfl⟩ | ⟨b, off, cap, rfl, h1, h2, h3, h4⟩
  · have hrun := run_appN_nil w base o.type ev l hown 0
    have := h ev w (by simpa using hown) hfr (Fr.refl _ _)
    unfold Oper.wp execOp
    simp only [ho, resolve, invoke, builtin, Sem.run_bind, Sem.run_pure, Result.andThen_ok, List.map_toArray, List.map_cons, List.map_nil, hs, hx, hrun]
    exact this
  · refine wp_append_own _ s x 24 ho base 3 i0 (.int .i64 0) 1 8 Tryz.underlying24 hi hz0 hz1 hz2 rfl (by decide) ev _ _ hs hown ⟨b, off, none⟩ xs.length cap (xs.map natV) hx (by simp)
      (fun j u hj => ?_) (fun u hu => by obtain ⟨n, _, rfl⟩ := List.mem_map.1 hu; rfl) (by unfold maxLen; omega) (by omega) hb ?_
    · have hjl : j < xs.length := by simpa using (List.getElem?_eq_some_iff.1 hj).1
      rw [show (⟨b, off, none⟩ : Addr).add j = ⟨b, off + j, none⟩ by cases j <;> simp [Addr.add], h4 j hjl, ← hj]
      simp [natV, List.getD_eq_getElem?_getD, hjl]
    · intro v' w' hown' hgrow _
      refine h v' w' ?_ (hfr.grown hgrow (fun r e => Or.inr ?_)) ((Fr.refl _ w).grown hgrow (fun r e => Or.inl (by simp [e])))
      · simpa [OwnI] using hown'
      · exact Nat.le_trans hb0 (ownBlock_cells hown r e).1
theorem wpList_appN {ops : Array Oper} {rest : List Oper} {o : Oper} {a : Act} {Q : Exit → Act → World → Prop} {w : World} (hg : o.guard = none) (s x : Operand)
    (ho : o.op = .call { callee := .builtin .append, args := #[s, x], argTypes := #[24, 24] }) (base : Nat) (ev xv : Value) (l xs : List Nat) (w0 : World)
    (hs : a.eval s = ev) (hx : a.eval x = xv) (hxs : Nums w xv xs) (hown : OwnI base w ev l) (hfr : Fr [] w0 w) (hb0 : w0.heap.size ≤ base) (hb : base ≤ w.heap.size) (hl : l.length + xs.length < 1000000)
    (h : ∀ v' w', OwnI base w' v' (l ++ xs) → Fr [] w0 w' → Fr ev.ownBlock.toList w w' → wpList Tryz.prog ops Q rest (a.put o.dst v') w') :
    wpList Tryz.prog ops Q (o :: rest) a w :=
  wpList_plain hg fun _ hK => wp_appN s x ho base ev xv l xs w0 hs hx hxs hown hfr hb0 hb hl fun v' w' h2 h3 h4 => hK _ _ (h v' w' h2 h3 h4)
theorem ownI_empty {base : Nat} {W : World} (hb : base ≤ W.heap.size) : OwnI base (W.alloc (.cells #[] 3)) (.slice (some ⟨W.heap.size, 0, none⟩) 0 0) [] :=
  ⟨rfl, Or.inr ⟨W.heap.size, 0, #[], rfl, hb, heap_new rfl, Nat.le_refl _, by decide, rfl, rfl⟩⟩
theorem OwnI.mono {base base' : Nat} {w : World} {v : Value} {l : List Nat} (h : OwnI base w v l) (hb : base' ≤ base) : OwnI base' w v l := by
  obtain ⟨h1, h2⟩ := h
  refine ⟨h1, ?_⟩
  rcases h2 with h2 | ⟨g, cap, cur, hv, h3, h4⟩
  · exact Or.inl h2
  · exact Or.inr ⟨g, cap, cur, hv, Nat.le_trans hb h3, h4⟩
theorem Nums.take {w : World} {b off cap : Nat} {l : List Nat} (h : Nums w (.slice (some ⟨b, off, none⟩) l.length cap) l) (k : Nat) (hk : k ≤ l.length) : Nums w (.slice (some ⟨b, off, none⟩) k cap) (l.take k) := by
  rcases h with ⟨h, _⟩ | ⟨b', off', cap', hv, h1, h2, h3, h4⟩
  · cases h
  · cases hv
    refine Or.inr ⟨b, off, cap, by rw [List.length_take, Nat.min_eq_left hk], by rw [List.length_take]; omega, h2, h3, fun i hi => ?_⟩
    rw [List.length_take] at hi
    rw [h4 i (by omega)]
    simp [List.getD_eq_getElem?_getD, show i < k by omega]
theorem Nums.drop {w : World} {b off cap : Nat} {l : List Nat} (h : Nums w (.slice (some ⟨b, off, none⟩) l.length cap) l) (k : Nat) (hk : k ≤ l.length) : Nums w (.slice (some ⟨b, off + k, none⟩) (l.length - k) (cap - k)) (l.drop k) := by
  rcases h with ⟨h, _⟩ | ⟨b', off', cap', hv, h1, h2, h3, h4⟩
  · cases h
  · cases hv
    refine Or.inr ⟨b, off + k, cap - k, by rw [List.length_drop], by rw [List.length_drop]; omega, by omega, h3, fun i hi => ?_⟩
    rw [List.length_drop] at hi
    rw [Nat.add_assoc, h4 (k + i) (by omega)]
    simp [List.getD_eq_getElem?_getD]

theorem merge_left {le : Nat → Nat → Bool} {s t : List Nat} {i k : Nat} (hi : i < s.length) (h : k = t.length ∨ (k < t.length ∧ le (s.getD i 0) (t.getD k 0) = true)) :
    (s.drop i).merge (t.drop k) le = s.getD i 0 :: (s.drop (i + 1)).merge (t.drop k) le := by
  rw [List.getD_eq_getElem?_getD, List.getElem?_eq_getElem hi, Option.getD_some] at h ⊢
  rw [List.drop_eq_getElem_cons hi]
  rcases h with rfl | ⟨hk, h⟩
  · simp
  · rw [List.getD_eq_getElem?_getD, List.getElem?_eq_getElem hk, Option.getD_some] at h
    rw [List.drop_eq_getElem_cons hk, List.cons_merge_cons, if_pos h]
theorem merge_right {le : Nat → Nat → Bool} {s t : List Nat} {i k : Nat} (hk : k < t.length) (h : i = s.length ∨ (i < s.length ∧ le (s.getD i 0) (t.getD k 0) = false)) :
    (s.drop i).merge (t.drop k) le = t.getD k 0 :: (s.drop i).merge (t.drop (k + 1)) le := by
  rw [List.getD_eq_getElem?_getD (l := t), List.getElem?_eq_getElem hk, Option.getD_some] at h ⊢
  rw [List.drop_eq_getElem_cons hk]
  rcases h with rfl | ⟨hi, h⟩
  · simp
  · rw [List.getD_eq_getElem?_getD, List.getElem?_eq_getElem hi, Option.getD_some] at h
    rw [List.drop_eq_getElem_cons hi, List.cons_merge_cons, if_neg (by rw [h]; decide)]

set_option maxRecDepth 100000 in
set_option maxHeartbeats 4000000 in
theorem sorted_any (bv : Value) (bys : List (List UInt8)) : ∀ (d : Nat) (l : List Nat) (v : Value) (w : World), l.length < d → Nums w v l → Strs w bv bys → (∀ i, i < l.length → l.getD i 0 < bys.length) → l.length ≤ 100000 →
    Calls Tryz.prog 95 #[v, bv] w fun e w' => ∃ s v', e = .returned v' ∧ OwnI w.heap.size w' v' s ∧ Sorted bys l s ∧ Below w.heap.size w w' := by
  intro d
  induction d with
  | zero => intro l v w h; exact absurd h (Nat.not_lt_zero _)
  | succ d ih =>
    intro l v w hd hv hbv hlb hl5
    have HV := Lib.hid hv
    have HBV := Lib.hid hbv
    obtain ⟨ba, bcap, rfl, hbln, hbf⟩ := hbv.form
    by_cases hs : l.length < 2
    · have t1 : decide ((l.length : Int) < 2) = true := by simp; omega
      have HSO := Lib.hid (Sorted.few bys l hs)
      rcases hv with ⟨rfl, rfl⟩ | ⟨b, off, cap, rfl, hc1, hc2, hc3, hc4⟩
      · clear t1
        have t1 : decide ((0 : Int) < 2) = true := by decide
        clear hbv ih hlb
        go_enter Tryz.func95, Tryz.ntmps95
        go_wp2_with (at_builtin; go_loud (refine wpList_appN rfl (.tmp 13) (.tmp 14) rfl w.heap.size (.slice (some ⟨w.heap.size, 0, none⟩) 0 0) (.slice none 0 0) [] [] w rfl rfl (HV.out.fr0 ((Fr.refl [] w).alloc _)) (ownI_empty (Nat.le_refl _)) ((Fr.refl [] w).alloc _) (Nat.le_refl _) (by simp) (by simp; try omega) ?_))
        intro v' w' hown hfr' _
        have HOW := Lib.hid hown
        clear hown
        go_wp2_with fail
        go_ret
        exact ⟨[], v', rfl, HOW.out, HSO.out, hfr'.toBelow (by simp)⟩
      · clear hc4
        clear hbv ih hlb
        go_enter Tryz.func95, Tryz.ntmps95
        go_wp2_with (at_builtin; go_loud (refine wpList_appN rfl (.tmp 13) (.tmp 14) rfl w.heap.size (.slice (some ⟨w.heap.size, 0, none⟩) 0 0) (.slice (some ⟨b, off, none⟩) l.length cap) [] l w rfl rfl (HV.out.fr0 ((Fr.refl [] w).alloc _)) (ownI_empty (Nat.le_refl _)) ((Fr.refl [] w).alloc _) (Nat.le_refl _) (by simp) (by simp; try omega) ?_))
        intro v' w' hown hfr' _
        have HOW := Lib.hid hown
        clear hown
        go_wp2_with fail
        go_ret
        exact ⟨l, v', rfl, HOW.out, HSO.out, hfr'.toBelow (by simp)⟩
    · have t1 : decide ((l.length : Int) < 2) = false := by simp; omega
      obtain ⟨pl, cap, rfl, hlen, ha⟩ := hv.form
      obtain ⟨b, off, rfl⟩ := ha 0 (by omega)
      have hcap : l.length ≤ cap := by
        rcases hv with ⟨h, _⟩ | ⟨b', off', cap', h, h1, _⟩
        · cases h
        · cases h; exact h1
      obtain ⟨h, hh, eh⟩ : ∃ h : Nat, h = l.length / 2 ∧ (l.length : Int) / 2 = (h : Int) := ⟨_, rfl, by omega⟩
      have g0 : (0 : Int) ≤ (h : Int) := by omega
      have g1 : (h : Int) ≤ (cap : Int) := by omega
      have g2 : (h : Int) ≤ (l.length : Int) := by omega
      have g3 : h ≤ l.length := by omega
      have g4 : h ≤ cap := by omega
      have HTA := Lib.hid (HV.out.take h g3)
      have HDR := Lib.hid (HV.out.drop h g3)
      have LTA : (l.take h).length = h := by rw [List.length_take]; omega
      have LDR : (l.drop h).length = l.length - h := by rw [List.length_drop]
      have HTD : Hid (l.take h ++ l.drop h = l) := Lib.hid (List.take_append_drop h l)
      have HLA : Hid (∀ i, i < (l.take h).length → (l.take h).getD i 0 < bys.length) := Lib.hid (fun i hi => by
        rw [LTA] at hi
        have := hlb i (by omega)
        rwa [show (l.take h).getD i 0 = l.getD i 0 by simp [List.getD_eq_getElem?_getD, hi]])
      have HLB : Hid (∀ i, i < (l.drop h).length → (l.drop h).getD i 0 < bys.length) := Lib.hid (fun i hi => by
        rw [LDR] at hi
        have := hlb (h + i) (by omega)
        rwa [show (l.drop h).getD i 0 = l.getD (h + i) 0 by simp [List.getD_eq_getElem?_getD]])
      generalize l.take h = la at HTA LTA HTD HLA
      generalize l.drop h = lb at HDR LDR HTD HLB
      have IHA := Lib.hid (fun w hv hb => ih la (.slice (some ⟨b, off, none⟩) h cap) w (by omega) hv hb HLA.out (by omega))
      have IHB := Lib.hid (fun w hv hb => ih lb (.slice (some ⟨b, off + h, none⟩) (l.length - h) (cap - h)) w (by omega) hv hb HLB.out (by omega))
      clear hv hbv hlb ih hh
      go_enter Tryz.func95, Tryz.ntmps95
      go_wp2_with fail
      refine (IHA.out w HTA.out HBV.out).mono ?_
      rintro e w1 ⟨sa, va, rfl, hoa, hsa, hb1⟩
      have hf1 : Fr [] w w1 := Fr.ofBelow hb1
      have HOA := Lib.hid hoa
      have HSA := Lib.hid hsa
      clear hoa hsa hb1
      go_wp2_with fail
      refine (IHB.out w1 (HDR.out.fr0 hf1) (HBV.out.fr hf1 (by simp))).mono ?_
      rintro e w2 ⟨sb, vb, rfl, hob, hsb, hb2⟩
      have hf2 : Fr [] w w2 := hf1.trans (Fr.ofBelow (X := []) hb2) (by simp)
      have HOA2 := Lib.hid (HOA.out.fr (Fr.ofBelow (X := []) hb2) (by simp))
      have HNA := Lib.hid HOA2.out.nums
      have HNB := Lib.hid hob.nums
      have HSO : Hid (Sorted bys l (sa.merge sb (leI bys))) := Lib.hid (by have := HSA.out.merge hsb; rwa [HTD.out] at this)
      have hla : sa.length = h := by rw [HSA.out.perm.length_eq, LTA]
      have hlb : sb.length = l.length - h := by rw [hsb.perm.length_eq, LDR]
      have HMA : Hid (∀ i, i < sa.length → sa.getD i 0 < bys.length) := Lib.hid (fun i hi => by
        have h1 := HSA.out.perm.mem_iff.1 (getD_mem sa i 0 hi)
        obtain ⟨j, hj, e⟩ := List.getElem_of_mem h1
        have := HLA.out j hj
        rwa [List.getD_eq_getElem?_getD, List.getElem?_eq_getElem hj, Option.getD_some, e] at this)
      have HMB : Hid (∀ i, i < sb.length → sb.getD i 0 < bys.length) := Lib.hid (fun i hi => by
        have h1 := hsb.perm.mem_iff.1 (getD_mem sb i 0 hi)
        obtain ⟨j, hj, e⟩ := List.getElem_of_mem h1
        have := HLB.out j hj
        rwa [List.getD_eq_getElem?_getD, List.getElem?_eq_getElem hj, Option.getD_some, e] at this)
      have hw2 : w.heap.size ≤ w2.heap.size := hf2.size
      have hla9 : sa.length ≤ 100000 := by omega
      have hlb9 : sb.length ≤ 100000 := by omega
      clear hla hlb
      obtain ⟨pa, capa, rfl, _, hfa⟩ := HNA.out.form
      obtain ⟨pb, capb, rfl, _, hfb⟩ := HNB.out.form
      clear hob hsb hb2 HOA HSA IHA IHB HLA HLB HTA HDR HTD HOA2 hf1
      go_wp2_with fail
      go_loopg [7, 8, 9] (sa.length + sb.length + 1) (fun gh ov iv kv wr => ∃ (i k : Nat) (out : List Nat), i ≤ sa.length ∧ k ≤ sb.length ∧ gh = sa.length + sb.length + 1 - (i + k) ∧ iv = .int .i64 (i : Int) ∧ kv = .int .i64 (k : Int) ∧ OwnI w2.heap.size wr ov out ∧ out.length = i + k ∧ out ++ (sa.drop i).merge (sb.drop k) (leI bys) = sa.merge sb (leI bys) ∧ Fr [] w2 wr)
      case atStart => exact ⟨0, 0, [], by omega, by omega, by omega, rfl, rfl, OwnI.nil, rfl, by simp, .refl _ _⟩
      case round =>
        obtain ⟨i, k, out, hi, hk, hgh, rfl, rfl, ho, hol, hme, hfr⟩ := hrel
        have HGH := Lib.hid hgh
        have HOQ := Lib.hid ho
        have HME := Lib.hid hme
        clear hgh ho hme
        by_cases hkl : k < sb.length
        · obtain ⟨gb, ob, rfl⟩ := hfb k hkl
          have k0 : decide ((k : Int) < (sb.length : Int)) = true := by simp; omega
          have k1 : ((k : Int) == (sb.length : Int)) = false := by simp; omega
          have k2 : (k : Int) < (sb.length : Int) := by omega
          have hcb := hfr.cell (HNB.out.cell k hkl) (by simp)
          by_cases hil : i < sa.length
          · obtain ⟨ga, oa, rfl⟩ := hfa i hil
            have i0 : decide ((i : Int) < (sa.length : Int)) = true := by simp; omega
            have i2 : (i : Int) < (sa.length : Int) := by omega
            have hca := hfr.cell (HNA.out.cell i hil) (by simp)
            have hx1 := HMA.out i hil
            have hy1 := HMB.out k hkl
            obtain ⟨gs, os, rfl⟩ := hbf (sa.getD i 0) hx1
            have hcx := hfr.cell (hf2.cell (HBV.out.cell (sa.getD i 0) hx1) (by simp)) (by simp)
            have hcy := hfr.cell (hf2.cell (HBV.out.cell (sb.getD k 0) hy1) (by simp)) (by simp)
            have HMLL := Lib.hid (fun h => merge_left (le := leI bys) (s := sa) (t := sb) hil (Or.inr ⟨hkl, h⟩))
            have HMRR := Lib.hid (fun h => merge_right (le := leI bys) (s := sa) (t := sb) hkl (Or.inr ⟨hil, h⟩))
            have HLE : Hid (leI bys (sa.getD i 0) (sb.getD k 0) = leS (bys.getD (sa.getD i 0) []) (bys.getD (sb.getD k 0) [])) := Lib.hid rfl
            generalize sa.getD i 0 = x at hx1 hca hcx HMLL HMRR HLE
            generalize sb.getD k 0 = y at hy1 hcb hcy HMLL HMRR HLE
            generalize bys.getD x [] = sx at hcx HLE
            generalize bys.getD y [] = sy at hcy HLE
            have x1 : (x : Int) < (bys.length : Int) := by omega
            have y1 : (y : Int) < (bys.length : Int) := by omega
            have bx : (⟨sx.toArray⟩ : ByteArray).toList = sx := by rw [Lib.toList_data]
            have by' : (⟨sy.toArray⟩ : ByteArray).toList = sy := by rw [Lib.toList_data]
            unfold leS at HLE
            cases hb1 : Op.bytesLess sx sy with
            | true =>
              rw [hb1, Bool.true_or] at HLE
              have HML := Lib.hid (HMLL.out HLE.out)
              clear HMLL HMRR HLE
              go_wp2_with fail
              go_quiet (fail)
              go_wp2_with (at_builtin; go_loud (refine wpList_appI rfl (.tmp 67) (.tmp 72) rfl w2.heap.size _ out x w2 rfl rfl (HOQ.out.fr ((Fr.refl [] wr).drewN _) (by simp)) (hfr.drewN _) (Nat.le_refl _) (hfr.drewN _).size (by omega) ?_))
              intro v' w5 hown hfr' _
              have HOW := Lib.hid hown
              clear hown
              go_wp2_with fail
              go_roundg (sa.length + sb.length + 1 - (i + 1 + k))
              case measure => have := HGH.out; omega
              case rel => exact ⟨i + 1, k, out ++ [x], by omega, by omega, rfl, by go_num, rfl, HOW.out, by simp [hol]; omega, by rw [List.append_assoc, List.singleton_append, ← HML.out, HME.out], hfr'⟩
            | false =>
              rw [hb1, Bool.false_or] at HLE
              cases hb2 : (sx == sy) with
              | true =>
                rw [hb2] at HLE
                have HML := Lib.hid (HMLL.out HLE.out)
                clear HMLL HMRR HLE
                go_wp2_with fail
                go_quiet (fail)
                go_wp2_with (at_builtin; go_loud (refine wpList_appI rfl (.tmp 67) (.tmp 72) rfl w2.heap.size _ out x w2 rfl rfl (HOQ.out.fr ((Fr.refl [] wr).drewN _) (by simp)) (hfr.drewN _) (Nat.le_refl _) (hfr.drewN _).size (by omega) ?_))
                intro v' w5 hown hfr' _
                have HOW := Lib.hid hown
                clear hown
                go_wp2_with fail
                go_roundg (sa.length + sb.length + 1 - (i + 1 + k))
                case measure => have := HGH.out; omega
                case rel => exact ⟨i + 1, k, out ++ [x], by omega, by omega, rfl, by go_num, rfl, HOW.out, by simp [hol]; omega, by rw [List.append_assoc, List.singleton_append, ← HML.out, HME.out], hfr'⟩
              | false =>
                rw [hb2] at HLE
                have HML := Lib.hid (HMRR.out HLE.out)
                clear HMLL HMRR HLE
                go_wp2_with fail
                go_quiet (fail)
                go_wp2_with (at_builtin; go_loud (refine wpList_appI rfl (.tmp 76) (.tmp 81) rfl w2.heap.size _ out y w2 rfl rfl (HOQ.out.fr ((Fr.refl [] wr).drewN _) (by simp)) (hfr.drewN _) (Nat.le_refl _) (hfr.drewN _).size (by omega) ?_))
                intro v' w5 hown hfr' _
                have HOW := Lib.hid hown
                clear hown
                go_wp2_with fail
                go_roundg (sa.length + sb.length + 1 - (i + (k + 1)))
                case measure => have := HGH.out; omega
                case rel => exact ⟨i, k + 1, out ++ [y], by omega, by omega, rfl, rfl, by go_num, HOW.out, by simp [hol]; omega, by rw [List.append_assoc, List.singleton_append, ← HML.out, HME.out], hfr'⟩
          · obtain rfl : i = sa.length := by omega
            have i0 : decide ((sa.length : Int) < (sa.length : Int)) = false := by simp
            have HML := Lib.hid (merge_right (le := leI bys) (s := sa) (t := sb) hkl (Or.inl rfl))
            generalize sb.getD k 0 = y at hcb HML
            go_wp2_with fail
            go_quiet (fail)
            go_wp2_with (at_builtin; go_loud (refine wpList_appI rfl (.tmp 76) (.tmp 81) rfl w2.heap.size _ out y w2 rfl rfl (HOQ.out.fr ((Fr.refl [] wr).drewN _) (by simp)) (hfr.drewN _) (Nat.le_refl _) (hfr.drewN _).size (by omega) ?_))
            intro v' w5 hown hfr' _
            have HOW := Lib.hid hown
            clear hown
            go_wp2_with fail
            go_roundg (sa.length + sb.length + 1 - (sa.length + (k + 1)))
            case measure => have := HGH.out; omega
            case rel => exact ⟨sa.length, k + 1, out ++ [y], by omega, by omega, rfl, rfl, by go_num, HOW.out, by simp [hol]; omega, by rw [List.append_assoc, List.singleton_append, ← HML.out, HME.out], hfr'⟩
        · obtain rfl : k = sb.length := by omega
          have k0 : decide ((sb.length : Int) < (sb.length : Int)) = false := by simp
          have k1 : ((sb.length : Int) == (sb.length : Int)) = true := by simp
          by_cases hil : i < sa.length
          · obtain ⟨ga, oa, rfl⟩ := hfa i hil
            have i0 : decide ((i : Int) < (sa.length : Int)) = true := by simp; omega
            have i2 : (i : Int) < (sa.length : Int) := by omega
            have hca := hfr.cell (HNA.out.cell i hil) (by simp)
            have HML := Lib.hid (merge_left (le := leI bys) (s := sa) (t := sb) hil (Or.inl rfl))
            generalize sa.getD i 0 = x at hca HML
            go_wp2_with fail
            go_quiet (fail)
            go_wp2_with (at_builtin; go_loud (refine wpList_appI rfl (.tmp 67) (.tmp 72) rfl w2.heap.size _ out x w2 rfl rfl (HOQ.out.fr ((Fr.refl [] wr).drewN _) (by simp)) (hfr.drewN _) (Nat.le_refl _) (hfr.drewN _).size (by omega) ?_))
            intro v' w5 hown hfr' _
            have HOW := Lib.hid hown
            clear hown
            go_wp2_with fail
            go_roundg (sa.length + sb.length + 1 - (i + 1 + sb.length))
            case measure => have := HGH.out; omega
            case rel => exact ⟨i + 1, sb.length, out ++ [x], by omega, by omega, rfl, by go_num, rfl, HOW.out, by simp [hol]; omega, by rw [List.append_assoc, List.singleton_append, ← HML.out, HME.out], hfr'⟩
          · obtain rfl : i = sa.length := by omega
            have i0 : decide ((sa.length : Int) < (sa.length : Int)) = false := by simp
            have HOE : Hid (out = sa.merge sb (leI bys)) := Lib.hid (by rw [← HME.out]; simp)
            go_wp2_with fail
            go_ret
            exact ⟨out, _, rfl, HOQ.out.mono hw2, by rw [HOE.out]; exact HSO.out, (hf2.trans hfr (by simp)).toBelow (by simp)⟩
end Go.Proofs.YtjddngbgbbbefaaGreatDoor
namespace Go.Proofs.YtjddngbgbbbefaaGreatDoor
open Go.RowKit

/-- What 'link' has done to the roots. -/
structure Linked (l : List Ent) (n : Nat) (R R' : Nat → Nat) (bys : List (List UInt8)) (order : List Nat) (m : Nat) : Prop where
  so : Sound l n R'
  old : ∀ x y, R x = R y → R' x = R' y
  adj : ∀ i, i + 1 < m → bys.getD (order.getD (i + 1) 0) [] = bys.getD (order.getD i 0) [] → R' (order.getD (i + 1) 0) = R' (order.getD i 0)
theorem Linked.unite {l : List Ent} {n : Nat} {R R' : Nat → Nat} {bys : List (List UInt8)} {order : List Nat} {m a b : Nat} (h : Linked l n R R' bys order (m + 1)) (ha : a < n) (hb : b < n) (ea : order.getD (m + 1) 0 = a) (eb : order.getD m 0 = b) (hc : Conn l a b) :
    Linked l n R (uniR R' (R' a) (R' b)) bys order (m + 2) where
  so := h.so.unite ha hb hc
  old x y hxy := uniR_eq (h.old x y hxy)
  adj i hi he := by
    by_cases h1 : i = m
    · subst h1; rw [ea, eb]; exact uniR_ab rfl rfl
    · exact uniR_eq (h.adj i (by omega) he)
theorem Linked.skip {l : List Ent} {n : Nat} {R R' : Nat → Nat} {bys : List (List UInt8)} {order : List Nat} {m : Nat} (h : Linked l n R R' bys order (m + 1)) (hne : bys.getD (order.getD (m + 1) 0) [] ≠ bys.getD (order.getD m 0) []) : Linked l n R R' bys order (m + 2) where
  so := h.so
  old := h.old
  adj i hi he := by
    by_cases h1 : i = m
    · subst h1; exact absurd he hne
    · exact h.adj i (by omega) he

set_option maxRecDepth 100000 in
set_option maxHeartbeats 4000000 in
theorem link_any (l : List Ent) (base g n cap bo : Nat) (R : Nat → Nat) (p : List Nat) (ov bv : Value) (order : List Nat) (bys : List (List UInt8)) (w : World) (hO : OwnI base w (.slice (some ⟨g, 0, none⟩) n cap) p) (hn : p.length = n)
    (hU : UF n p R) (hS : Sound l n R) (hov : OwnI bo w ov order) (hord : ∀ i, i < order.length → order.getD i 0 < n) (hbv : Strs w bv bys) (hbn : bys.length = n) (ho1 : ∀ k, ov.ownBlock = some k → k ≠ g) (ho2 : ∀ k, bv.ownBlock = some k → k ≠ g)
    (hsel : ∀ x y, x < n → y < n → bys.getD x [] = bys.getD y [] → Conn l x y) (hol : order.length ≤ 1000000) :
    Calls Tryz.prog 94 #[.slice (some ⟨g, 0, none⟩) n cap, ov, bv] w fun e w' => e = .returned (.tuple #[]) ∧ ∃ p' R', OwnI base w' (.slice (some ⟨g, 0, none⟩) n cap) p' ∧ p'.length = n ∧ UF n p' R' ∧ Linked l n R R' bys order order.length ∧ Fr [g] w w' := by
  have hmx : Tryz.prog.follows .mixedOrders = true := by kernel_rfl
  have HOV := Lib.hid hov.nums
  have HBV := Lib.hid hbv
  obtain ⟨oa, ocap, rfl, holn, hof⟩ := hov.nums.form
  obtain ⟨ba, bcap, rfl, hbln, hbf⟩ := hbv.form
  have HO := Lib.hid hO
  have HU := Lib.hid hU
  have HN := Lib.hid hn
  have HSE := Lib.hid hsel
  have HORD := Lib.hid hord
  have HBN := Lib.hid hbn
  have H1 := Lib.hid ho1
  have H2 := Lib.hid ho2
  have HL0 : Hid (Linked l n R R bys order 1) := Lib.hid ⟨hS, fun _ _ h => h, fun i hi => absurd hi (by omega)⟩
  clear hO hU hn hsel hord hbn ho1 ho2 hS hov hbv
  go_enter Tryz.func94, Tryz.ntmps94
  go_wp2_with fail
  go_loopg [6] (order.length + 2) (fun gh i wr => ∃ (m : Nat) (q : List Nat) (R' : Nat → Nat), (m < order.length ∨ m = 0) ∧ gh = order.length + 2 - m ∧ i = .int .i64 ((m : Int) + 1) ∧ OwnI base wr (.slice (some ⟨g, 0, none⟩) n cap) q ∧ q.length = n ∧ UF n q R' ∧ Linked l n R R' bys order (m + 1) ∧ Fr [g] w wr)
  case atStart => exact ⟨0, p, R, Or.inr rfl, rfl, rfl, HO.out, HN.out, HU.out, HL0.out, .refl _ _⟩
  case round =>
    obtain ⟨m, q, R', hm, hgh, rfl, ho, hqn, hu, hl, hfr⟩ := hrel
    have HGH := Lib.hid hgh
    have HOQ := Lib.hid ho
    have HQN := Lib.hid hqn
    have HUQ := Lib.hid hu
    have HL := Lib.hid hl
    clear hgh ho hqn hu hl
    by_cases hlt : m + 1 < order.length
    · have t1 : decide ((m : Int) + 1 < (order.length : Int)) = true := by simp; omega
      obtain ⟨go, oo, rfl⟩ := hof m (by omega)
      have hb0 : order.getD m 0 < n := HORD.out m (by omega)
      have ha0 : order.getD (m + 1) 0 < n := HORD.out (m + 1) hlt
      obtain ⟨gb, ob, rfl⟩ := hbf 0 (by have := HBN.out; omega)
      have hgo : go ≠ g := H1.out go rfl
      have hgb : gb ≠ g := H2.out gb rfl
      have HCA := Lib.hid (HOV.out.cell (m + 1) hlt)
      have HCB := Lib.hid (HOV.out.cell m (by omega))
      have HSA := Lib.hid (HBV.out.cell (order.getD (m + 1) 0) (by have := HBN.out; omega))
      have HSB := Lib.hid (HBV.out.cell (order.getD m 0) (by have := HBN.out; omega))
      have HUN := Lib.hid (fun (h1 : Conn l (order.getD (m + 1) 0) (order.getD m 0)) => HL.out.unite ha0 hb0 rfl rfl h1)
      have HSK := Lib.hid (HL.out.skip (m := m))
      have HCO := Lib.hid (HSE.out _ _ ha0 hb0)
      generalize order.getD (m + 1) 0 = a at ha0 HCA HSA HUN HSK HCO
      generalize order.getD m 0 = b at hb0 HCB HSB HUN HSK HCO
      generalize bys.getD a [] = sa at HSA HSK HCO
      generalize bys.getD b [] = sb at HSB HSK HCO
      have c1 := hfr.cell HCA.out (by simpa using hgo)
      have c2 := hfr.cell HCB.out (by simpa using hgo)
      have c3 := hfr.cell HSA.out (by simpa using hgb)
      have c4 := hfr.cell HSB.out (by simpa using hgb)
      have i0 : (0 : Int) ≤ (m : Int) + 1 := by omega
      have i1 : (m : Int) + 1 < (order.length : Int) := by omega
      have i2 : (0 : Int) ≤ (m : Int) := by omega
      have i3 : (m : Int) < (order.length : Int) := by omega
      have i4 : (m : Int) + 1 - 1 = (m : Int) := by omega
      have i5 : (a : Int) < (bys.length : Int) := by have := HBN.out; omega
      have i6 : (b : Int) < (bys.length : Int) := by have := HBN.out; omega
      have hml : m < 1000000 := by omega
      by_cases hs : sa = sb
      · subst hs
        have HL3 := Lib.hid (HUN.out (HCO.out rfl))
        clear HUN HCO HSK
        go_wp2_with fail
        go_quiet (fail)
        go_wp2_with fail
        have hf0 : Fr [g] w (wr.drewN nq) := hfr.drewN _
        refine (rhead_any base g n cap n a R' q _ ha0 (HOQ.out.fr ((Fr.refl [] wr).drewN _) (by simp)) HQN.out HUQ.out).mono ?_
        rintro e w1 ⟨rfl, q1, ho1, hn1, hs1, hf1⟩
        have hfr1 : Fr [g] w w1 := hf0.trans hf1 (by simp)
        have HO1 := Lib.hid ho1
        have HN1 := Lib.hid hn1
        have HU1 := Lib.hid (HUQ.out.shrt hs1)
        clear c1 c2 c3 c4 ho1 hn1 hs1 hf1 hf0 hfr
        have c2 := hfr1.cell HCB.out (by simpa using hgo)
        go_wp2_with fail
        refine (rhead_any base g n cap n b R' q1 w1 hb0 HO1.out HN1.out HU1.out).mono ?_
        rintro e w2 ⟨rfl, q2, ho2, hn2, hs2, hf2⟩
        have hfr2 : Fr [g] w w2 := hfr1.trans hf2 (by simp)
        have HU2 := Lib.hid (HU1.out.shrt hs2)
        have hra := HUQ.out.rle a ha0
        have hrb := HUQ.out.rle b hb0
        have HUF : Hid (UF n (q2.set (max (R' a) (R' b)) (min (R' a) (R' b))) (uniR R' (R' a) (R' b))) := Lib.hid (HU2.out.unite (by omega) (by omega) (HUQ.out.rr a ha0) (HUQ.out.rr b hb0))
        generalize R' a = ra at hra HUF HL3 ⊢
        generalize R' b = rb at hrb HUF HL3 ⊢
        generalize uniR R' ra rb = R3 at HUF HL3
        obtain ⟨mx, hmx1, hmx2⟩ : ∃ mx : Nat, mx = max ra rb ∧ max (ra : Int) (rb : Int) = (mx : Int) := ⟨_, rfl, by omega⟩
        obtain ⟨mn, hmn1, hmn2⟩ : ∃ mn : Nat, mn = min ra rb ∧ min (ra : Int) (rb : Int) = (mn : Int) := ⟨_, rfl, by omega⟩
        have hmxn : mx < n := by omega
        rw [← hmx1, ← hmn1] at HUF
        have d3 := ho2.cells hn2 mx hmxn
        have d4 := ho2.free hn2 mx
        have HO3 := Lib.hid (ho2.put hn2 mx mn)
        have HN3 : Hid ((q2.set mx mn).length = n) := Lib.hid (by rw [List.length_set]; exact hn2)
        have HF3 := Lib.hid (hfr2.setCell ⟨g, mx, none⟩ (.int .i64 (mn : Int)) (by simp))
        generalize q2.set mx mn = q3 at HUF HO3 HN3
        have j0 : (0 : Int) ≤ (mx : Int) := by omega
        have j1 : (mx : Int) < (n : Int) := by omega
        clear hmx1 hmn1 ho2 hn2 hs2 hf2 hfr1 hfr2 c2
        go_wp2_with fail
        go_roundg (order.length + 2 - (m + 1))
        case measure => have := HGH.out; omega
        case rel => exact ⟨m + 1, q3, R3, by omega, rfl, by go_num, HO3.out, HN3.out, HUF.out, HL3.out, HF3.out⟩
      · have HSK2 := Lib.hid (HSK.out hs)
        have t3 : (sa == sb) = false := by simpa using hs
        clear hs
        go_wp2_with fail
        go_quiet (fail)
        go_wp2_with fail
        go_roundg (order.length + 2 - (m + 1))
        case measure => have := HGH.out; omega
        case rel => exact ⟨m + 1, q, R', by omega, rfl, by go_num, (HOQ.out.fr ((Fr.refl [] wr).drewN _) (by simp)), HQN.out, HUQ.out, HSK2.out, hfr.drewN _⟩
    · have t1 : decide ((m : Int) + 1 < (order.length : Int)) = false := by simp; omega
      have HE : Hid (Linked l n R R' bys order order.length) := Lib.hid ⟨HL.out.so, HL.out.old, fun i hi => HL.out.adj i (by omega)⟩
      go_wp2_with fail
      go_end0
      exact ⟨rfl, q, R', HOQ.out, HQN.out, HUQ.out, HE.out, hfr⟩
set_option maxRecDepth 100000 in
set_option maxHeartbeats 1000000 in
theorem link_none (bo : Nat) (fv ov bv : Value) (w : World) (hov : OwnI bo w ov []) :
    Calls Tryz.prog 94 #[fv, ov, bv] w fun e w' => e = .returned (.tuple #[]) ∧ w = w' := by
  obtain ⟨oa, ocap, rfl, holn, hof⟩ := hov.nums.form
  clear hov
  go_enter Tryz.func94, Tryz.ntmps94
  go_wp2_with fail
  go_loopg [6] 1 (fun gh i wr => i = .int .i64 1 ∧ wr = w)
  case atStart => exact ⟨rfl, rfl⟩
  case round =>
    obtain ⟨rfl, rfl⟩ := hrel
    go_wp2_with fail
    go_end0
    exact ⟨rfl, rfl⟩
end Go.Proofs.YtjddngbgbbbefaaGreatDoor
namespace Go.Proofs.YtjddngbgbbbefaaGreatDoor

theorem getD_map_at {l : List Ent} {f : Ent → List UInt8} {i : Nat} {a : Ent} (h : l[i]? = some a) : (l.map f).getD i [] = f a := by
  rw [List.getD_eq_getElem?_getD, List.getElem?_map, h]; rfl
theorem at_of_lt {l : List Ent} {i : Nat} (h : i < l.length) : ∃ a, l[i]? = some a := ⟨_, List.getElem?_eq_getElem h⟩
theorem conn_names {l : List Ent} {x y : Nat} (hx : x < l.length) (hy : y < l.length) (h : (l.map Pty.name).getD x [] = (l.map Pty.name).getD y []) : Conn l x y := by
  obtain ⟨a, ha⟩ := at_of_lt hx
  obtain ⟨b, hb⟩ := at_of_lt hy
  rw [getD_map_at ha, getD_map_at hb] at h
  exact .one ⟨a, b, ha, hb, Or.inl h⟩
theorem conn_pays {l : List Ent} {x y : Nat} (hx : x < l.length) (hy : y < l.length) (h : (l.map Pty.com).getD x [] = (l.map Pty.com).getD y []) : Conn l x y := by
  obtain ⟨a, ha⟩ := at_of_lt hx
  obtain ⟨b, hb⟩ := at_of_lt hy
  rw [getD_map_at ha, getD_map_at hb] at h
  exact .one ⟨a, b, ha, hb, Or.inr h⟩
theorem compl_link {l : List Ent} {R0 R1 R2 : Nat → Nat} {o1 o2 : List Nat} (h1 : Linked l l.length R0 R1 (l.map Pty.name) o1 o1.length) (h2 : Linked l l.length R1 R2 (l.map Pty.com) o2 o2.length)
    (s1 : Sorted (l.map Pty.name) (List.range l.length) o1) (s2 : Sorted (l.map Pty.com) (List.range l.length) o2) : Compl l l.length R2 := by
  intro i j hi hj ⟨a, b, ha, hb, hab⟩
  rcases hab with h | h
  · exact h2.old i j (s1.same h1.adj (List.mem_range.2 hi) (List.mem_range.2 hj) (by rw [getD_map_at ha, getD_map_at hb]; exact h))
  · exact s2.same h2.adj (List.mem_range.2 hi) (List.mem_range.2 hj) (by rw [getD_map_at ha, getD_map_at hb]; exact h)
theorem getD_range {n i : Nat} (h : i < n) : (List.range n).getD i 0 = i := by simp [List.getD_eq_getElem?_getD, h]
theorem uf_range (n : Nat) : UF n (List.range n) id where
  len := by simp
  le i hi := by rw [getD_range hi]; exact Nat.le_refl _
  rt i hi := by rw [getD_range hi]
  fx i hi := by rw [getD_range hi]; simp
  rr i _ := rfl
  rle i _ := Nat.le_refl _
theorem sound_id (l : List Ent) (n : Nat) : Sound l n id := fun i _ => .refl i
end Go.Proofs.YtjddngbgbbbefaaGreatDoor
namespace Go.Proofs.YtjddngbgbbbefaaGreatDoor
open Go.RowKit

theorem apart_new {n : Nat} {w : World} {v sv : Value} {s : List Nat} (h : ∀ k, v.ownBlock = some k → k < n) (hs : OwnI n w sv s) : Apart v sv := by
  intro k hk hk'
  have h1 := h k hk
  have h2 := (ownBlock_cells hs k hk').1
  omega
theorem perm_lt {n : Nat} {s : List Nat} (h : s.Perm (List.range n)) : ∀ i, i < s.length → s.getD i 0 < n := by
  intro i hi
  exact List.mem_range.1 (h.mem_iff.1 (getD_mem s i 0 hi))
theorem link_all (l : List Ent) (base n bo : Nat) (R : Nat → Nat) (p : List Nat) (v ov bv : Value) (order : List Nat) (bys : List (List UInt8)) (w : World) (hO : OwnI base w v p) (hn : p.length = n)
    (hU : UF n p R) (hS : Sound l n R) (hov : OwnI bo w ov order) (hord : ∀ i, i < order.length → order.getD i 0 < n) (hbv : Strs w bv bys) (hbn : bys.length = n) (ho1 : Apart v ov) (ho2 : Apart v bv)
    (hsel : ∀ x y, x < n → y < n → bys.getD x [] = bys.getD y [] → Conn l x y) (hol : order.length ≤ 1000000) :
    Calls Tryz.prog 94 #[v, ov, bv] w fun e w' => e = .returned (.tuple #[]) ∧ ∃ p' R', OwnI base w' v p' ∧ p'.length = n ∧ UF n p' R' ∧ Linked l n R R' bys order order.length ∧ Fr v.ownBlock.toList w w' := by
  rcases hO.form with ⟨rfl, rfl⟩ | ⟨g, cap, cur, rfl, _⟩
  · obtain rfl : n = 0 := by simpa using hn.symm
    obtain rfl : order = [] := by
      cases order with
      | nil => rfl
      | cons x t => exact absurd (hord 0 (by simp)) (by omega)
    refine (link_none bo _ ov bv w hov).mono ?_
    rintro e w' ⟨rfl, rfl⟩
    exact ⟨rfl, [], R, hO, rfl, hU, ⟨hS, fun _ _ h => h, fun i hi => absurd hi (by simp)⟩, Fr.refl _ _⟩
  · subst hn
    exact link_any l base g p.length cap bo R p ov bv order bys w hO rfl hU hS hov hord hbv hbn (fun k hk e => ho1 g rfl (e ▸ hk)) (fun k hk e => ho2 g rfl (e ▸ hk)) hsel hol

/-- The first loop of Classes: i entries are read. -/
structure InvR (w wr : World) (l : List Pty) (i : Nat) (v3 v4 v5 v6 : Value) : Prop where
  o3 : OwnI w.heap.size wr v3 (List.range i)
  o4 : OwnI w.heap.size wr v4 (List.range i)
  o5 : OwnS w.heap.size wr v5 ((l.map Pty.name).take i)
  o6 : OwnS w.heap.size wr v6 ((l.map Pty.com).take i)
  d34 : Apart v3 v4
  d35 : Apart v3 v5
  d36 : Apart v3 v6
  d45 : Apart v4 v5
  d46 : Apart v4 v6
  d56 : Apart v5 v6
  fr : Fr [] w wr

set_option maxRecDepth 100000 in
set_option maxHeartbeats 8000000 in
theorem rclasses_any (v : Value) (l : List Pty) (w : World) (hv : Pts w v l) (hn : l.length ≤ 100000) :
    Calls Tryz.prog 55 #[v] w fun e w' => ∃ v' o, e = .returned v' ∧ OwnI w.heap.size w' v' o ∧ Cls l o ∧ Below w.heap.size w w' := by
  have hmx : Tryz.prog.follows .mixedOrders = true := by kernel_rfl
  have HV := Lib.hid hv
  obtain ⟨pa, cap, rfl, hc1, hc2, hpa⟩ := hv.form
  clear hv
  go_enter Tryz.func55, Tryz.ntmps55
  go_wp2_with fail
  go_loopg [3, 4, 5, 6, 7] (l.length + 1) (fun gh v3 v4 v5 v6 iv wr => ∃ i : Nat, i ≤ l.length ∧ gh = l.length + 1 - i ∧ iv = .int .i64 (i : Int) ∧ InvR w wr l i v3 v4 v5 v6)
  case atStart => exact ⟨0, by omega, by omega, rfl, OwnI.nil, OwnI.nil, ⟨rfl, Or.inl ⟨rfl, rfl⟩⟩, ⟨rfl, Or.inl ⟨rfl, rfl⟩⟩, .nil, .nil, .nil, .nil, .nil, .nil, .refl _ _⟩
  case round =>
    obtain ⟨i, hi, hgh, rfl, hinv⟩ := hrel
    have HGH := Lib.hid hgh
    have HI := Lib.hid hinv
    clear hgh hinv
    by_cases hlt : i < l.length
    · have t1 : decide ((i : Int) < (l.length : Int)) = true := by simp; omega
      obtain ⟨gp, op, rfl⟩ := hpa i hlt
      obtain ⟨p, hp⟩ : ∃ p, l[i]? = some p := ⟨_, List.getElem?_eq_getElem hlt⟩
      have HPC := Lib.hid (HV.out.cells i p hp)
      have i1 : (i : Int) < (l.length : Int) := by omega
      have HTN : Hid ((l.map Pty.name).take (i + 1) = (l.map Pty.name).take i ++ [p.name]) := Lib.hid (by rw [List.take_add_one]; simp [hp])
      have HTC : Hid ((l.map Pty.com).take (i + 1) = (l.map Pty.com).take i ++ [p.com]) := Lib.hid (by rw [List.take_add_one]; simp [hp])
      have HTR : Hid (List.range (i + 1) = List.range i ++ [i]) := Lib.hid List.range_succ
      clear hp
      go_wp2_with (at_builtin; go_loud (refine wpList_appIa rfl (.tmp 16) (.tmp 18) rfl w.heap.size _ (List.range i) i w rfl rfl HI.out.o3 HI.out.fr (Nat.le_refl _) HI.out.fr.size (by rw [List.length_range]; omega) ?_))
      intro v3' w1 ho3 hf1 hg1 hat1
      have HI1 : Hid (OwnI w.heap.size w1 v3' (List.range (i + 1))) := Lib.hid (by rw [HTR.out]; exact ho3)
      have h4 := HI.out.o4.fr hg1 HI.out.d34.notin
      have h5 := HI.out.o5.fr hg1 HI.out.d35.notin
      have h6 := HI.out.o6.fr hg1 HI.out.d36.notin
      have a34 := HI.out.d34.step hat1 HI.out.o4.lt
      have a35 := HI.out.d35.step hat1 HI.out.o5.lt
      have a36 := HI.out.d36.step hat1 HI.out.o6.lt
      have H4 := Lib.hid h4
      have H5 := Lib.hid h5
      have H6 := Lib.hid h6
      have A34 := Lib.hid a34
      have A35 := Lib.hid a35
      have A36 := Lib.hid a36
      clear ho3 h4 h5 h6 a34 a35 a36 hat1 hg1
      go_wp2_with (at_builtin; go_loud (refine wpList_appIa rfl (.tmp 20) (.tmp 22) rfl w.heap.size _ (List.range i) i w rfl rfl H4.out hf1 (Nat.le_refl _) hf1.size (by rw [List.length_range]; omega) ?_))
      intro v4' w2 ho4 hf2 hg2 hat2
      have HI2 : Hid (OwnI w.heap.size w2 v4' (List.range (i + 1))) := Lib.hid (by rw [HTR.out]; exact ho4)
      have HJ1 := Lib.hid (HI1.out.fr hg2 A34.out.symm.notin)
      have HJ5 := Lib.hid (H5.out.fr hg2 HI.out.d45.notin)
      have HJ6 := Lib.hid (H6.out.fr hg2 HI.out.d46.notin)
      have B34 := Lib.hid (A34.out.symm.step hat2 HI1.out.lt).symm
      have B45 := Lib.hid (HI.out.d45.step hat2 H5.out.lt)
      have B46 := Lib.hid (HI.out.d46.step hat2 H6.out.lt)
      clear ho4 hat2 hg2 hf1 H4 H5 H6 HI1 A34
      have c2 := hf2.cell HPC.out.1 (by simp)
      go_wp2_with (at_builtin; go_loud (refine wpList_appSa rfl (.tmp 24) (.tmp 30) rfl w.heap.size _ ((l.map Pty.name).take i) p.name w rfl rfl HJ5.out hf2 (Nat.le_refl _) hf2.size (by simp; omega) ?_))
      intro v5' w3 ho5 hf3 hg3 hat3
      have HK5 : Hid (OwnS w.heap.size w3 v5' ((l.map Pty.name).take (i + 1))) := Lib.hid (by rw [HTN.out]; exact ho5)
      have HK1 := Lib.hid (HJ1.out.fr hg3 A35.out.symm.notin)
      have HK2 := Lib.hid (HI2.out.fr hg3 B45.out.symm.notin)
      have HK6 := Lib.hid (HJ6.out.fr hg3 HI.out.d56.notin)
      have C35 := Lib.hid (A35.out.symm.step hat3 HJ1.out.lt).symm
      have C45 := Lib.hid (B45.out.symm.step hat3 HI2.out.lt).symm
      have C56 := Lib.hid (HI.out.d56.step hat3 HJ6.out.lt)
      have c3 := hf3.cell HPC.out.2.1 (by simp)
      clear ho5 hat3 hg3 hf2 c2 HJ1 HJ5 HJ6 HI2 A35 B45
      go_wp2_with (at_builtin; go_loud (refine wpList_appSa rfl (.tmp 32) (.tmp 38) rfl w.heap.size _ ((l.map Pty.com).take i) p.com w rfl rfl HK6.out hf3 (Nat.le_refl _) hf3.size (by simp; omega) ?_))
      intro v6' w4 ho6 hf4 hg4 hat4
      have HINV : Hid (InvR w w4 l (i + 1) v3' v4' v5' v6') := Lib.hid
        ⟨HK1.out.fr hg4 A36.out.symm.notin, HK2.out.fr hg4 B46.out.symm.notin, HK5.out.fr hg4 C56.out.symm.notin, by rw [HTC.out]; exact ho6,
          B34.out, C35.out, (A36.out.symm.step hat4 HK1.out.lt).symm, C45.out, (B46.out.symm.step hat4 HK2.out.lt).symm, (C56.out.symm.step hat4 HK5.out.lt).symm, hf4⟩
      clear ho6 hat4 hg4 hf3 c3
      go_wp2_with fail
      go_roundg (l.length + 1 - (i + 1))
      case measure => have := HGH.out; omega
      case rel => exact ⟨i + 1, by omega, rfl, by go_num, HINV.out⟩
    · obtain rfl : i = l.length := by omega
      have t1 : decide ((l.length : Int) < (l.length : Int)) = false := by simp
      have H5 : Hid (OwnS w.heap.size wr u5 (l.map Pty.name)) := Lib.hid (by have := HI.out.o5; rwa [List.take_of_length_le (by simp)] at this)
      have H6 : Hid (OwnS w.heap.size wr u6 (l.map Pty.com)) := Lib.hid (by have := HI.out.o6; rwa [List.take_of_length_le (by simp)] at this)
      have HRB : Hid (∀ f : Pty → List UInt8, ∀ j, j < (List.range l.length).length → (List.range l.length).getD j 0 < (l.map f).length) := Lib.hid (fun f j hj => by rw [List.length_range] at hj; rw [getD_range hj, List.length_map]; exact hj)
      go_wp2_with fail
      refine (sorted_any u5 (l.map Pty.name) (l.length + 1) (List.range l.length) u4 wr (by simp) HI.out.o4.nums H5.out.strs (HRB.out Pty.name) (by simp; omega)).mono ?_
      rintro e w1 ⟨s1, sv1, rfl, hos1, hso1, hb1⟩
      have hf1 : Fr [] wr w1 := Fr.ofBelow hb1
      have hsl1 : s1.length = l.length := by rw [hso1.perm.length_eq, List.length_range]
      have HSO1 := Lib.hid hso1
      have HOS1 := Lib.hid hos1
      have H31 := Lib.hid (HI.out.o3.fr hf1 (by simp))
      have H41 := Lib.hid (HI.out.o4.fr hf1 (by simp))
      have H51 := Lib.hid (H5.out.fr hf1 (by simp))
      have H61 := Lib.hid (H6.out.fr hf1 (by simp))
      have HAP1 := Lib.hid (apart_new HI.out.o3.lt hos1)
      clear hos1 hso1 hb1
      go_wp2_with fail
      refine (link_all l w.heap.size l.length wr.heap.size id (List.range l.length) u3 sv1 u5 s1 (l.map Pty.name) w1 H31.out (by simp) (uf_range _) (sound_id _ _) HOS1.out (perm_lt HSO1.out.perm) H51.out.strs (by simp) HAP1.out HI.out.d35 (fun x y hx hy h => conn_names hx hy h) (by omega)).mono ?_
      rintro e w2 ⟨rfl, p1, R1, hop1, hpn1, hu1, hl1, hf2⟩
      have HOP1 := Lib.hid hop1
      have HPN1 := Lib.hid hpn1
      have HU1 := Lib.hid hu1
      have HL1 := Lib.hid hl1
      have H42 := Lib.hid (H41.out.fr hf2 HI.out.d34.notin)
      have H62 := Lib.hid (H61.out.fr hf2 HI.out.d36.notin)
      have HF2 := Lib.hid ((HI.out.fr.trans hf1 (by simp)).trans hf2 (fun y hy => Or.inr (by
        have := (ownBlock_cells H31.out y (by simpa using hy)).1
        omega)))
      clear hop1 hpn1 hu1 hl1 hf2 hf1 H31 H41 H51 H61 HAP1
      go_wp2_with fail
      refine (sorted_any u6 (l.map Pty.com) (l.length + 1) (List.range l.length) u4 w2 (by simp) H42.out.nums H62.out.strs (HRB.out Pty.com) (by simp; omega)).mono ?_
      rintro e w3 ⟨s2, sv2, rfl, hos2, hso2, hb3⟩
      have hf3 : Fr [] w2 w3 := Fr.ofBelow hb3
      have hsl2 : s2.length = l.length := by rw [hso2.perm.length_eq, List.length_range]
      have HSO2 := Lib.hid hso2
      have HOS2 := Lib.hid hos2
      have HOP2 := Lib.hid (HOP1.out.fr hf3 (by simp))
      have H63 := Lib.hid (H62.out.fr hf3 (by simp))
      have HAP2 := Lib.hid (apart_new HOP1.out.lt hos2)
      clear hos2 hso2 hb3
      go_wp2_with fail
      refine (link_all l w.heap.size l.length w2.heap.size R1 p1 u3 sv2 u6 s2 (l.map Pty.com) w3 HOP2.out HPN1.out HU1.out HL1.out.so HOS2.out (perm_lt HSO2.out.perm) H63.out.strs (by simp) HAP2.out HI.out.d36 (fun x y hx hy h => conn_pays hx hy h) (by omega)).mono ?_
      rintro e w4 ⟨rfl, p2, R2, hop2, hpn2, hu2, hl2, hf4⟩
      have HOP3 := Lib.hid hop2
      have HPN2 := Lib.hid hpn2
      have HU2 := Lib.hid hu2
      have HSO3 := Lib.hid hl2.so
      have HCO3 := Lib.hid (compl_link HL1.out hl2 HSO1.out HSO2.out)
      have hF4 : Fr [] w w4 := ((HF2.out.trans hf3 (by simp)).trans hf4 (fun y hy => Or.inr (by
        have := (ownBlock_cells HOP2.out y (by simpa using hy)).1
        omega)))
      have hws : w.heap.size ≤ w4.heap.size := hF4.size
      clear hop2 hpn2 hu2 hl2 hf4 hf3 HOP1 HOP2 H63 H62 H42 HAP2 HSO1 HSO2 HOS1 HOS2 HL1 HU1 HPN1 hsl1 hsl2 t1
      have HF4 := Lib.hid hF4
      clear hF4
      go_wp2_with fail
      go_loopg [8, 9] (l.length + 1) (fun gh ov iv wr' => ∃ (j : Nat) (q out : List Nat), j ≤ l.length ∧ gh = l.length + 1 - j ∧ iv = .int .i64 (j : Int) ∧ OwnI w.heap.size wr' u3 q ∧ q.length = l.length ∧ UF l.length q R2 ∧ OwnI w.heap.size wr' ov out ∧ out.length = j ∧ (∀ i, i < j → out.getD i 0 = R2 i) ∧ Apart ov u3 ∧ Fr [] w wr')
      case atStart => exact ⟨0, p2, [], by omega, by omega, rfl, HOP3.out, HPN2.out, HU2.out, OwnI.nil, rfl, fun i hi => absurd hi (Nat.not_lt_zero _), .nil, HF4.out⟩
      case round =>
        obtain ⟨j, q, out, hj, hgh, rfl, hoq, hqn, huq, hoo, hol, hog, hap, hfr⟩ := hrel
        have HGH := Lib.hid hgh
        have HOQ := Lib.hid hoq
        have HQN := Lib.hid hqn
        have HUQ := Lib.hid huq
        have HOO := Lib.hid hoo
        have HOG := Lib.hid hog
        have HAP := Lib.hid hap
        clear hgh hoq hqn huq hoo hog hap HI H5 H6
        by_cases hlt : j < l.length
        · have t1 : decide ((j : Int) < (l.length : Int)) = true := by simp; omega
          obtain ⟨g, cp, hu3⟩ : ∃ g cp, u3 = .slice (some ⟨g, 0, none⟩) l.length cp := by
            rcases HOQ.out.form with ⟨_, h⟩ | ⟨g, cp, _, h, _⟩
            · have := HQN.out; rw [h] at this; simp at this; omega
            · exact ⟨g, cp, by rw [h, HQN.out]⟩
          subst hu3
          go_wp2_with fail
          refine (rhead_any w.heap.size g l.length cp l.length j R2 q _ hlt HOQ.out HQN.out HUQ.out).mono ?_
          rintro e w5 ⟨rfl, q', hoq', hqn', hsh', hf5⟩
          have HOQ2 := Lib.hid hoq'
          have HQN2 := Lib.hid hqn'
          have HUQ2 := Lib.hid (HUQ.out.shrt hsh')
          have hg : w.heap.size ≤ g := (ownBlock_cells hoq' g rfl).1
          have hf6 : Fr [] w w5 := hfr.trans hf5 (fun y hy => Or.inr (by simp at hy; omega))
          have HOO2 := Lib.hid (HOO.out.fr hf5 (fun k hk hm => by simp at hm; subst hm; exact HAP.out k hk rfl))
          clear hoq' hqn' hsh' hf5
          go_wp2_with (at_builtin; go_loud (refine wpList_appIa rfl (.tmp 58) (.tmp 62) rfl w.heap.size _ out (R2 j) w rfl rfl HOO2.out hf6 (Nat.le_refl _) hf6.size (by omega) ?_))
          intro v' w7 ho7 hf7 hg7 hat7
          have HO7 := Lib.hid ho7
          have HAP7 := Lib.hid (HAP.out.step hat7 HOQ2.out.lt)
          have HOQ7 := Lib.hid (HOQ2.out.fr hg7 HAP.out.notin)
          have HOG7 : Hid (∀ i, i < j + 1 → (out ++ [R2 j]).getD i 0 = R2 i) := Lib.hid (fun i hi => by
            by_cases h : i = j
            · subst h; simp [List.getD_eq_getElem?_getD, ← hol]
            · rw [← HOG.out i (by omega)]; simp [List.getD_eq_getElem?_getD, List.getElem?_append_left (show i < out.length by omega)])
          clear ho7 hat7 hg7 hf6
          go_wp2_with fail
          go_roundg (l.length + 1 - (j + 1))
          case measure => have := HGH.out; omega
          case rel => exact ⟨j + 1, q', out ++ [R2 j], by omega, rfl, by go_num, HOQ7.out, HQN2.out, HUQ2.out, HO7.out, by simp [hol], HOG7.out, HAP7.out, hf7⟩
        · obtain rfl : j = l.length := by omega
          have t1 : decide ((l.length : Int) < (l.length : Int)) = false := by simp
          have HCLS : Hid (Cls l out) := Lib.hid (cls_of_uf hol HSO3.out HCO3.out HUQ.out.rle HOG.out)
          go_wp2_with fail
          go_ret
          exact ⟨_, out, rfl, HOO.out, HCLS.out, hfr.toBelow (by simp)⟩
end Go.Proofs.YtjddngbgbbbefaaGreatDoor
