/-
  Rows of numbers at a block.
  Slices of numbers that the call has made; append to them; a cell of them is set.
  Slices of numbers; foyerref01.Ints.
-/
import Derived.Test.YtjddngbgbbbefaaGreatDoorOwn
import Derived.Laws.OwnMore
namespace Go.Proofs.YtjddngbgbbbefaaGreatDoor
open Go.RowKit

/-- A row of numbers at a block. -/
def ArrN (w : World) (g : Nat) (l : List Nat) : Prop := w.heap[g]? = some (.cells (l.map fun n : Nat => Value.int .i64 (n : Int)).toArray 3 (0, 0))
theorem ArrN.cell {w : World} {g : Nat} {l : List Nat} (h : ArrN w g l) (i : Nat) (hi : i < l.length) : w.cell? ⟨g, i, none⟩ = some (.int .i64 (l.getD i 0 : Nat)) := by
  rw [row_cell h i]
  simp [List.getD_eq_getElem?_getD, hi]
theorem ArrN.set {w : World} {g : Nat} {l : List Nat} (h : ArrN w g l) (i x : Nat) : ArrN (w.setCell ⟨g, i, none⟩ (.int .i64 (x : Int))) g (l.set i x) := by
  unfold ArrN
  rw [row_set h i]
  simp [List.map_set]
theorem ArrN.fr {w w' : World} {X : List Nat} {g : Nat} {l : List Nat} (h : ArrN w g l) (hf : Fr X w w') (hx : g ∉ X) : ArrN w' g l := hf.at h hx
theorem arr_of_own {w : World} {base n g : Nat} {l : List Nat} (h : w.ownsRow base 3 1 (.slice (some ⟨g, 0, none⟩) n n) n (l.map fun n : Nat => Value.int .i64 (n : Int))) : base ≤ g ∧ ArrN w g l := by
  rcases h.2 with ⟨h1, _⟩ | ⟨g', cap, cur, hv, hb, hg, h3, h4, h5, h6⟩
  · cases h1
  · cases hv
    refine ⟨hb, ?_⟩
    rw [ArrN, hg]
    have : cur = (l.map fun n : Nat => Value.int .i64 (n : Int)).toArray := by
      apply Array.ext'
      rw [← h6, List.take_of_length_le (by rw [Array.length_toList]; omega)]
    rw [this]

theorem iInfoD : (Tryz.prog.info? 3).map (fun i => (i.zero, i.size, i.bytes)) = some (some (.int .i64 0), 1, 8) := by kernel_rfl
end Go.Proofs.YtjddngbgbbbefaaGreatDoor
namespace Go.Proofs.YtjddngbgbbbefaaGreatDoor
open Go.RowKit

def natV (n : Nat) : Value := .int .i64 (n : Int)
/-- A slice of numbers that the call has made. -/
def OwnI (base : Nat) (w : World) (v : Value) (l : List Nat) : Prop := w.ownsRow base 3 1 v l.length (l.map natV)
theorem OwnI.fr {X : List Nat} {base : Nat} {w w' : World} {v : Value} {l : List Nat} (h : OwnI base w v l) (hf : Fr X w w') (hx : ∀ k, v.ownBlock = some k → k ∉ X) : OwnI base w' v l := ownsRow_fr h hf hx
theorem OwnI.nil {base : Nat} {w : World} : OwnI base w (.slice none 0 0) [] := ⟨rfl, Or.inl ⟨rfl, rfl⟩⟩
theorem OwnI.form {base : Nat} {w : World} {v : Value} {l : List Nat} (h : OwnI base w v l) :
    (v = .slice none 0 0 ∧ l = []) ∨ ∃ g cap cur, v = .slice (some ⟨g, 0, none⟩) l.length cap ∧ base ≤ g ∧ w.heap[g]? = some (.cells cur 3 (0, 0)) ∧ l.length ≤ cap ∧ cap ≤ maxLen ∧ cur.size = cap ∧ cur.toList.take l.length = l.map natV := by
  rcases h.2 with ⟨h1, h2⟩ | ⟨g, cap, cur, hv, hb, hg, h3, h4, h5, h6⟩
  · exact Or.inl ⟨h1, List.length_eq_zero_iff.1 h2⟩
  · exact Or.inr ⟨g, cap, cur, hv, hb, hg, h3, h4, by simpa using h5, by simpa using h6⟩
theorem OwnI.formN {base : Nat} {w : World} {g n cap : Nat} {l : List Nat} (h : OwnI base w (.slice (some ⟨g, 0, none⟩) n cap) l) (hn : l.length = n) :
    ∃ cur, base ≤ g ∧ w.heap[g]? = some (.cells cur 3 (0, 0)) ∧ n ≤ cap ∧ cap ≤ maxLen ∧ cur.size = cap ∧ cur.toList.take n = l.map natV := by
  rcases h.form with ⟨h0, _⟩ | ⟨g', cap', cur, h0, hb, hg, h3, h4, h5, h6⟩
  · cases h0
  · subst hn
    cases h0
    exact ⟨cur, hb, hg, h3, h4, h5, h6⟩
theorem natV_at {n : Nat} {cur : Array Value} {l : List Nat} (h : cur.toList.take n = l.map natV) (hn : l.length = n) (i : Nat) (hi : i < n) : cur[i]? = some (.int .i64 (l.getD i 0 : Nat)) := by
  subst hn
  have h7 : (cur.toList.take l.length)[i]? = cur[i]? := by rw [List.getElem?_take, if_pos hi, Array.getElem?_toList]
  rw [← h7, h, List.getElem?_map, List.getElem?_eq_getElem hi]
  simp [natV, hi]
/-- A cell of an own slice of numbers that is set. -/
theorem ownI_set {base : Nat} {w : World} {g cap n i : Nat} {cur : Array Value} {l : List Nat} (hb : base ≤ g) (hg : w.heap[g]? = some (.cells cur 3 (0, 0))) (hn : l.length = n) (h3 : n ≤ cap) (h4 : cap ≤ maxLen) (h5 : cur.size = cap)
    (h6 : cur.toList.take n = l.map natV) (x : Nat) : OwnI base (w.setCell ⟨g, i, none⟩ (.int .i64 (x : Int))) (.slice (some ⟨g, 0, none⟩) n cap) (l.set i x) := by
  refine ⟨by simp [natV], Or.inr ⟨g, cap, cur.setIfInBounds i (.int .i64 (x : Int)), by rw [List.length_set, hn], hb, row_set hg i _, by rw [List.length_set]; omega, h4, by simp [h5], ?_⟩⟩
  rw [List.length_set, hn, Nat.mul_one, Array.toList_setIfInBounds, List.take_set, h6, List.map_set]; rfl
theorem iInfo : (Tryz.prog.info? 3).map (fun i => (i.zero, i.size, i.bytes)) = some (some (.int .i64 0), 1, 8) := by kernel_rfl

theorem wpList_appI {ops : Array Oper} {rest : List Oper} {o : Oper} {a : Act} {Q : Exit → Act → World → Prop} {w : World} (hg : o.guard = none) (s x : Operand)
    (ho : o.op = .call { callee := .builtin .append, args := #[s, x], argTypes := #[24, 24] }) (base : Nat) (ev : Value) (l : List Nat) (t : Nat) (w0 : World)
    (hs : a.eval s = ev) (hx : a.eval x = .slice (some ⟨w.heap.size, 0, none⟩) 1 1) (hown : OwnI base w ev l) (hfr : Fr [] w0 w) (hb0 : w0.heap.size ≤ base) (hb : base ≤ w.heap.size) (hl : l.length < 1000000)
    (h : ∀ v' w', OwnI base w' v' (l ++ [t]) → Fr [] w0 w' → Fr ev.ownBlock.toList w w' → wpList Tryz.prog ops Q rest (a.put o.dst v') w') :
    wpList Tryz.prog ops Q (o :: rest) a (w.alloc (.cells #[.int .i64 (t : Int)] 3)) := by
  obtain ⟨i0, hi, hz0, hz1, hz2⟩ := info_parts iInfo
  refine wpList_append_own _ hg s x 24 ho base 3 i0 (.int .i64 0) 1 8 Tryz.underlying24 hi hz0 hz1 hz2 rfl (by decide) ev _ _ hs (ownsRow_fr hown ((Fr.refl [] w).alloc _) (by simp)) ⟨w.heap.size, 0, none⟩ 1 1 [natV t] hx rfl
    (fun j u hj => ?_) (by simp [natV, Value.oneCell']) (by unfold maxLen; omega) (by omega) (by simp; omega) ?_
  · match j, hj with
    | 0, hj =>
      simp at hj; subst hj
      rw [show (⟨w.heap.size, 0, none⟩ : Addr).add 0 = ⟨w.heap.size, 0, none⟩ by simp [Addr.add]]
      exact cell_of_one (heap_new rfl)
  · intro v' w' hown' hgrow _
    refine h v' w' ?_ ((hfr.alloc _).grown hgrow (fun r e => Or.inr ?_)) (((Fr.refl _ w).alloc _).grown hgrow (fun r e => Or.inl (by simp [e])))
    · simpa [OwnI, natV] using hown'
    · exact Nat.le_trans hb0 (ownBlock_cells hown r e).1
end Go.Proofs.YtjddngbgbbbefaaGreatDoor
namespace Go.Proofs.YtjddngbgbbbefaaGreatDoor
open Go.RowKit

/-- A slice of numbers. -/
def Nums (w : World) (v : Value) (l : List Nat) : Prop :=
  (v = .slice none 0 0 ∧ l = []) ∨ ∃ b off cap, v = .slice (some ⟨b, off, none⟩) l.length cap ∧ l.length ≤ cap ∧ cap ≤ 9223372036854775807 ∧ b < w.heap.size ∧
    ∀ i, i < l.length → w.cell? ⟨b, off + i, none⟩ = some (.int .i64 (l.getD i 0 : Nat))
theorem Nums.fr0 {w w' : World} {v : Value} {l : List Nat} (h : Nums w v l) (hf : Fr [] w w') : Nums w' v l := by
  rcases h with h | ⟨b, off, cap, hv, h1, h2, h3, h4⟩
  · exact Or.inl h
  · exact Or.inr ⟨b, off, cap, hv, h1, h2, Nat.lt_of_lt_of_le h3 hf.size, fun i hi => hf.cell (h4 i hi) (by simp)⟩
theorem Nums.form {w : World} {v : Value} {l : List Nat} (h : Nums w v l) : ∃ a cap, v = .slice a l.length cap ∧ l.length ≤ 9223372036854775807 ∧ (∀ i, i < l.length → ∃ b off, a = some ⟨b, off, none⟩) := by
  rcases h with ⟨rfl, rfl⟩ | ⟨b, off, cap, hv, h1, h2, h3, h4⟩
  · exact ⟨none, 0, rfl, by simp, fun i hi => by simp at hi⟩
  · exact ⟨_, cap, hv, by omega, fun i _ => ⟨b, off, rfl⟩⟩
theorem Nums.cell {w : World} {b off cap : Nat} {l : List Nat} (h : Nums w (.slice (some ⟨b, off, none⟩) l.length cap) l) (k : Nat) (hk : k < l.length) : w.cell? ⟨b, off + k, none⟩ = some (.int .i64 (l.getD k 0 : Nat)) := by
  rcases h with ⟨h, _⟩ | ⟨b', off', cap', hv, _, _, _, h4⟩
  · cases h
  · cases hv; exact h4 k hk
theorem ArrN.nums {w : World} {g n : Nat} {l : List Nat} (h : ArrN w g l) (hl : l.length = n) (hn : n ≤ 9223372036854775807) : Nums w (.slice (some ⟨g, 0, none⟩) n n) l :=
  Or.inr ⟨g, 0, n, by rw [hl], by omega, hn, lt_of_block h, fun i hi => by rw [Nat.zero_add]; exact h.cell i hi⟩

theorem OwnI.nums {base : Nat} {w : World} {v : Value} {l : List Nat} (h : OwnI base w v l) : Nums w v l := by
  rcases h.form with ⟨h0, h1⟩ | ⟨g, cap, cur, h0, hb, hgc, h3, h4, h5, h6⟩
  · exact Or.inl ⟨h0, h1⟩
  · refine Or.inr ⟨g, 0, cap, h0, h3, by unfold maxLen at h4; omega, lt_of_block hgc, fun i hi => ?_⟩
    rw [Nat.zero_add, row_cell hgc i, natV_at h6 rfl i hi]
end Go.Proofs.YtjddngbgbbbefaaGreatDoor
