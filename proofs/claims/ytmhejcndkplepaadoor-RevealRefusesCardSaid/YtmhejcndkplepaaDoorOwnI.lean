/-
  Slices of numbers that the call has made; append to them; a cell of them is set.
-/
import Derived.Test.YtmhejcndkplepaaDoorOwn
namespace Go.Proofs.YtmhejcndkplepaaDoor
open Go.RowKit

def natV (n : Nat) : Value := .int .i64 (n : Int)
/-- A slice of numbers that the call has made. -/
def OwnI (base : Nat) (w : World) (v : Value) (l : List Nat) : Prop := w.ownsRow base 3 1 v l.length (l.map natV)
theorem OwnI.fr {X : List Nat} {base : Nat} {w w' : World} {v : Value} {l : List Nat} (h : OwnI base w v l) (hf : Fr X w w') (hx : ∀ k, v.ownBlock = some k → k ∉ X) : OwnI base w' v l := ownsRow_fr h hf hx
theorem OwnI.nil {base : Nat} {w : World} : OwnI base w (.slice none 0 0) [] := ⟨rfl, Or.inl ⟨rfl, rfl⟩⟩
theorem OwnI.form {base : Nat} {w : World} {v : Value} {l : List Nat} (h : OwnI base w v l) :
    (v = .slice none 0 0 ∧ l = []) ∨ ∃ g cap cur, v = .slice (some ⟨g, 0, none⟩) l.length cap ∧ base ≤ g ∧ w.heap[g]? = some (.cells cur 3 (0, 0)) ∧ l.length ≤ cap ∧ cap ≤ maxLen ∧ cur.size = cap ∧ cur.toList.take l.length = l.map natV := by
  rcases h.2 with ⟨h1, h2⟩ | ⟨g, cap, cur, hv, hb, hg, h3, h4, h5, h6⟩
  · exact Or.inl ⟨h1, List.length_eq_zero_iff.1 h2⟩
  · exact Or.inr ⟨g, cap, cur, hv, hb, hg, h3, h4, by simpa using h5, by simpa using h6⟩
theorem OwnI.formN {base : Nat} {w : World} {g n cap : Nat} {l : List Nat} (h : OwnI base w (.slice (some ⟨g, 0, none⟩) n cap) l) (hn : l.length = n) :
    ∃ cur, base ≤ g ∧ w.heap[g]? = some (.cells cur 3 (0, 0)) ∧ n ≤ cap ∧ cap ≤ maxLen ∧ cur.size = cap ∧ cur.toList.take n = l.map natV := by
  rcases h.form with ⟨h0, _⟩ | ⟨g', cap', cur, h0, hb, hg, h3, h4, h5, h6⟩
  · cases h0
  · subst hn
    cases h0
    exact ⟨cur, hb, hg, h3, h4, h5, h6⟩
theorem natV_at {n : Nat} {cur : Array Value} {l : List Nat} (h : cur.toList.take n = l.map natV) (hn : l.length = n) (i : Nat) (hi : i < n) : cur[i]? = some (.int .i64 (l.getD i 0 : Nat)) := by
  subst hn
  have h7 : (cur.toList.take l.length)[i]? = cur[i]? := by rw [List.getElem?_take, if_pos hi, Array.getElem?_toList]
  rw [← h7, h, List.getElem?_map, List.getElem?_eq_getElem hi]
  simp [natV, hi]
/-- A cell of an own slice of numbers that is set. -/
theorem ownI_set {base : Nat} {w : World} {g cap n i : Nat} {cur : Array Value} {l : List Nat} (hb : base ≤ g) (hg : w.heap[g]? = some (.cells cur 3 (0, 0))) (hn : l.length = n) (h3 : n ≤ cap) (h4 : cap ≤ maxLen) (h5 : cur.size = cap)
    (h6 : cur.toList.take n = l.map natV) (x : Nat) : OwnI base (w.setCell ⟨g, i, none⟩ (.int .i64 (x : Int))) (.slice (some ⟨g, 0, none⟩) n cap) (l.set i x) := by
  refine ⟨by simp [natV], Or.inr ⟨g, cap, cur.setIfInBounds i (.int .i64 (x : Int)), by rw [List.length_set, hn], hb, row_set hg i _, by rw [List.length_set]; omega, h4, by simp [h5], ?_⟩⟩
  rw [List.length_set, hn, Nat.mul_one, Array.toList_setIfInBounds, List.take_set, h6, List.map_set]; rfl
theorem iInfo : (Tryd.prog.info? 3).map (fun i => (i.zero, i.size, i.bytes)) = some (some (.int .i64 0), 1, 8) := by kernel_rfl

theorem wpList_appI {ops : Array Oper} {rest : List Oper} {o : Oper} {a : Act} {Q : Exit → Act → World → Prop} {w : World} (hg : o.guard = none) (s x : Operand)
    (ho : o.op = .call { callee := .builtin .append, args := #[s, x], argTypes := #[23, 23] }) (base : Nat) (ev : Value) (l : List Nat) (t : Nat) (w0 : World)
    (hs : a.eval s = ev) (hx : a.eval x = .slice (some ⟨w.heap.size, 0, none⟩) 1 1) (hown : OwnI base w ev l) (hfr : Fr [] w0 w) (hb0 : w0.heap.size ≤ base) (hb : base ≤ w.heap.size) (hl : l.length < 1000000)
    (h : ∀ v' w', OwnI base w' v' (l ++ [t]) → Fr [] w0 w' → Fr ev.ownBlock.toList w w' → wpList Tryd.prog ops Q rest (a.put o.dst v') w') :
    wpList Tryd.prog ops Q (o :: rest) a (w.alloc (.cells #[.int .i64 (t : Int)] 3)) := by
  obtain ⟨i0, hi, hz0, hz1, hz2⟩ := info_parts iInfo
  refine wpList_append_own _ hg s x 23 ho base 3 i0 (.int .i64 0) 1 8 Tryd.underlying23 hi hz0 hz1 hz2 rfl (by decide) ev _ _ hs (ownsRow_fr hown ((Fr.refl [] w).alloc _) (by simp)) ⟨w.heap.size, 0, none⟩ 1 1 [natV t] hx rfl
    (fun j u hj => ?_) (by simp [natV, Value.oneCell']) (by unfold maxLen; omega) (by omega) (by simp; omega) ?_
  · match j, hj with
    | 0, hj =>
      simp at hj; subst hj
      rw [show (⟨w.heap.size, 0, none⟩ : Addr).add 0 = ⟨w.heap.size, 0, none⟩ by simp [Addr.add]]
      exact cell_of_one (heap_new rfl)
  · intro v' w' hown' hgrow _
    refine h v' w' ?_ ((hfr.alloc _).grown hgrow (fun r e => Or.inr ?_)) (((Fr.refl _ w).alloc _).grown hgrow (fun r e => Or.inl (by simp [e])))
    · simpa [OwnI, natV] using hown'
    · exact Nat.le_trans hb0 (ownBlock_cells hown r e).1
end Go.Proofs.YtmhejcndkplepaaDoor
