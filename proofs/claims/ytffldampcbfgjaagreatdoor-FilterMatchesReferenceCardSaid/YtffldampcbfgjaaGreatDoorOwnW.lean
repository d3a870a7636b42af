/-
  Slices of words that the call has made; append to them; a cell of them is set.
-/
import Derived.Test.YtffldampcbfgjaaGreatDoorMrk
import Derived.Test.YtffldampcbfgjaaGreatDoorFlA
namespace Go.Proofs.YtffldampcbfgjaaGreatDoor
open Go.RowKit

def wrdV (n : Nat) : Value := .int .u64 (n : Int)
/-- A slice of numbers that the call has made. -/
def OwnW (base : Nat) (w : World) (v : Value) (l : List Nat) : Prop := w.ownsRow base 71 1 v l.length (l.map wrdV)
theorem OwnW.fr {X : List Nat} {base : Nat} {w w' : World} {v : Value} {l : List Nat} (h : OwnW base w v l) (hf : Fr X w w') (hx : ∀ k, v.ownBlock = some k → k ∉ X) : OwnW base w' v l := ownsRow_fr h hf hx
theorem OwnW.nil {base : Nat} {w : World} : OwnW base w (.slice none 0 0) [] := ⟨rfl, Or.inl ⟨rfl, rfl⟩⟩
theorem OwnW.form {base : Nat} {w : World} {v : Value} {l : List Nat} (h : OwnW base w v l) :
    (v = .slice none 0 0 ∧ l = []) ∨ ∃ g cap cur, v = .slice (some ⟨g, 0, none⟩) l.length cap ∧ base ≤ g ∧ w.heap[g]? = some (.cells cur 71 (0, 0)) ∧ l.length ≤ cap ∧ cap ≤ maxLen ∧ cur.size = cap ∧ cur.toList.take l.length = l.map wrdV := by
  rcases h.2 with ⟨h1, h2⟩ | ⟨g, cap, cur, hv, hb, hg, h3, h4, h5, h6⟩
  · exact Or.inl ⟨h1, List.length_eq_zero_iff.1 h2⟩
  · exact Or.inr ⟨g, cap, cur, hv, hb, hg, h3, h4, by simpa using h5, by simpa using h6⟩
theorem OwnW.formN {base : Nat} {w : World} {g n cap : Nat} {l : List Nat} (h : OwnW base w (.slice (some ⟨g, 0, none⟩) n cap) l) (hn : l.length = n) :
    ∃ cur, base ≤ g ∧ w.heap[g]? = some (.cells cur 71 (0, 0)) ∧ n ≤ cap ∧ cap ≤ maxLen ∧ cur.size = cap ∧ cur.toList.take n = l.map wrdV := by
  rcases h.form with ⟨h0, _⟩ | ⟨g', cap', cur, h0, hb, hg, h3, h4, h5, h6⟩
  · cases h0
  · subst hn
    cases h0
    exact ⟨cur, hb, hg, h3, h4, h5, h6⟩
theorem wrdV_at {n : Nat} {cur : Array Value} {l : List Nat} (h : cur.toList.take n = l.map wrdV) (hn : l.length = n) (i : Nat) (hi : i < n) : cur[i]? = some (.int .u64 (l.getD i 0 : Nat)) := by
  subst hn
  have h7 : (cur.toList.take l.length)[i]? = cur[i]? := by rw [List.getElem?_take, if_pos hi, Array.getElem?_toList]
  rw [← h7, h, List.getElem?_map, List.getElem?_eq_getElem hi]
  simp [wrdV, hi]
/-- A cell of an own slice of numbers that is set. -/
theorem ownW_set {base : Nat} {w : World} {g cap n i : Nat} {cur : Array Value} {l : List Nat} (hb : base ≤ g) (hg : w.heap[g]? = some (.cells cur 71 (0, 0))) (hn : l.length = n) (h3 : n ≤ cap) (h4 : cap ≤ maxLen) (h5 : cur.size = cap)
    (h6 : cur.toList.take n = l.map wrdV) (x : Nat) : OwnW base (w.setCell ⟨g, i, none⟩ (.int .u64 (x : Int))) (.slice (some ⟨g, 0, none⟩) n cap) (l.set i x) := by
  refine ⟨by simp [wrdV], Or.inr ⟨g, cap, cur.setIfInBounds i (.int .u64 (x : Int)), by rw [List.length_set, hn], hb, row_set hg i _, by rw [List.length_set]; omega, h4, by simp [h5], ?_⟩⟩
  rw [List.length_set, hn, Nat.mul_one, Array.toList_setIfInBounds, List.take_set, h6, List.map_set]; rfl
theorem wInfo : (Tryz.prog.info? 71).map (fun i => (i.zero, i.size, i.bytes)) = some (some (.int .u64 0), 1, 8) := by kernel_rfl

theorem wpList_appW {ops : Array Oper} {rest : List Oper} {o : Oper} {a : Act} {Q : Exit → Act → World → Prop} {w : World} (hg : o.guard = none) (s x : Operand)
    (ho : o.op = .call { callee := .builtin .append, args := #[s, x], argTypes := #[23, 23] }) (base : Nat) (ev : Value) (l : List Nat) (t : Nat) (w0 : World)
    (hs : a.eval s = ev) (hx : a.eval x = .slice (some ⟨w.heap.size, 0, none⟩) 1 1) (hown : OwnW base w ev l) (hfr : Fr [] w0 w) (hb0 : w0.heap.size ≤ base) (hb : base ≤ w.heap.size) (hl : l.length < 1000000)
    (h : ∀ v' w', OwnW base w' v' (l ++ [t]) → Fr [] w0 w' → Fr ev.ownBlock.toList w w' → wpList Tryz.prog ops Q rest (a.put o.dst v') w') :
    wpList Tryz.prog ops Q (o :: rest) a (w.alloc (.cells #[.int .u64 (t : Int)] 71)) := by
  obtain ⟨i0, hi, hz0, hz1, hz2⟩ := info_parts wInfo
  refine wpList_append_own _ hg s x 23 ho base 71 i0 (.int .u64 0) 1 8 Tryz.underlying23 hi hz0 hz1 hz2 rfl (by decide) ev _ _ hs (ownsRow_fr hown ((Fr.refl [] w).alloc _) (by simp)) ⟨w.heap.size, 0, none⟩ 1 1 [wrdV t] hx rfl
    (fun j u hj => ?_) (by simp [wrdV, Value.oneCell']) (by unfold maxLen; omega) (by omega) (by simp; omega) ?_
  · match j, hj with
    | 0, hj =>
      simp at hj; subst hj
      rw [show (⟨w.heap.size, 0, none⟩ : Addr).add 0 = ⟨w.heap.size, 0, none⟩ by simp [Addr.add]]
      exact cell_of_one (heap_new rfl)
  · intro v' w' hown' hgrow _
    refine h v' w' ?_ ((hfr.alloc _).grown hgrow (fun r e => Or.inr ?_)) (((Fr.refl _ w).alloc _).grown hgrow (fun r e => Or.inl (by simp [e])))
    · simpa [OwnW, wrdV] using hown'
    · exact Nat.le_trans hb0 (ownBlock_cells hown r e).1
theorem wpListIn_makeW {F : Fence} {n : Nat} {ops : Array Oper} {rest : List Oper} {o : Oper} {a : Act} {Q : Exit → Act → World → Prop} {w : World} (hg : o.guard = none) (l c : Operand)
    (hop : o.op = Op.makeSlice 23 l c) (k : Nat) (hl : a.eval l = .int .i64 (k : Int)) (hc : a.eval c = .int .i64 (k : Int)) (hk : k ≤ 1000000)
    (h : ∀ w', OwnW w.heap.size w' (.slice (some ⟨w.heap.size, 0, none⟩) k k) (List.replicate k 0) → Fr [] w w' → wpListIn F n Tryz.prog ops Q rest (a.put o.dst (.slice (some ⟨w.heap.size, 0, none⟩) k k)) w') :
    wpListIn F n Tryz.prog ops Q (o :: rest) a w := by
  obtain ⟨i0, hi, hz0, hz1, hz2⟩ := info_parts wInfo
  refine wpListIn_plain hg fun K hK' => ?_
  obtain ⟨w', hrun, r1, r2⟩ := run_make_full (P := Tryz.prog) w w.heap.size 23 71 i0 (.int .u64 0) 1 Tryz.underlying23 hi hz0 hz1 .i64 .i64 k (by rw [hz2]; omega) (by unfold maxLen; omega) (Nat.le_refl _)
  unfold Oper.wpIn
  refine ⟨?_, ?_⟩
  · simp [Oper.about, hop]
  · rw [Oper.semAt_plain F _ _ (by rw [hop]; intro c hc'; cases hc')]
    simp [execOp, hop, hl, hc, hrun, Result.andThen]
    refine hK' _ _ (h w' ?_ ((Fr.refl [] w).grown r2 (fun r e => by cases e)))
    have e : (madeCells (Value.int .u64 0).cells (k * 1)).toList = List.replicate k (.int .u64 0) := by rw [Nat.mul_one]; exact toList_madeCells_one _ _
    rw [e] at r1
    unfold OwnW
    rw [List.length_replicate, List.map_replicate]
    exact r1
theorem OwnW.ws {base : Nat} {w : World} {v : Value} {l : List Nat} (h : OwnW base w v l) : Ws w v l := by
  rcases h.form with ⟨rfl, rfl⟩ | ⟨g, cap, cur, rfl, hb, hg, h3, h4, h5, h6⟩
  · exact Or.inl ⟨rfl, none, rfl⟩
  · refine Or.inr ⟨g, 0, cap, rfl, h3, by unfold maxLen at h4; omega, lt_of_block hg, fun i hi => ?_⟩
    rw [row_cell hg, Nat.zero_add]
    exact wrdV_at h6 rfl i hi
end Go.Proofs.YtffldampcbfgjaaGreatDoor
