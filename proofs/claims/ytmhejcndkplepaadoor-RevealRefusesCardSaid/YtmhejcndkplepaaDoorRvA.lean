/-
  Readings for layer 31: lists of numbers with signs, lists of lists of texts; appends that say where the new slice lies, inside a region that draws its order.
-/
import Derived.Test.YtmhejcndkplepaaDoorAppAt
import Derived.Test.YtmhejcndkplepaaDoorOwn
import Derived.Test.YtmhejcndkplepaaDoorRound
import Derived.Test.YtmhejcndkplepaaDoorNums
namespace Go.Proofs.YtmhejcndkplepaaDoor
open Go.RowKit

/-- A list of numbers with signs. -/
def Zs (w : World) (v : Value) (l : List Int) : Prop :=
  (v = .slice none 0 0 ∧ l = []) ∨ ∃ b off cap, v = .slice (some ⟨b, off, none⟩) l.length cap ∧ l.length ≤ cap ∧ cap ≤ 9223372036854775807 ∧ b < w.heap.size ∧
    ∀ i, i < l.length → w.cell? ⟨b, off + i, none⟩ = some (.int .i64 (l.getD i 0))
theorem Zs.fr {X : List Nat} {w w' : World} {v : Value} {l : List Int} (h : Zs w v l) (hf : Fr X w w') (hx : ∀ b, v.ownBlock = some b → b ∉ X) : Zs w' v l := by
  rcases h with h | ⟨b, off, cap, hv, h1, h2, h3, h4⟩
  · exact Or.inl h
  · exact Or.inr ⟨b, off, cap, hv, h1, h2, Nat.lt_of_lt_of_le h3 hf.size, fun i hi => hf.cell (h4 i hi) (hx b (by rw [hv]; rfl))⟩
theorem Zs.fr0 {w w' : World} {v : Value} {l : List Int} (h : Zs w v l) (hf : Fr [] w w') : Zs w' v l := h.fr hf (by simp)
theorem Zs.form {w : World} {v : Value} {l : List Int} (h : Zs w v l) : ∃ a cap, v = .slice a l.length cap ∧ l.length ≤ cap ∧ cap ≤ 9223372036854775807 ∧ (∀ i, i < l.length → ∃ b off, a = some ⟨b, off, none⟩) := by
  rcases h with ⟨rfl, rfl⟩ | ⟨b, off, cap, rfl, h1, h2, _, _⟩
  · exact ⟨none, 0, rfl, by simp, by simp, fun i hi => absurd hi (by simp)⟩
  · exact ⟨_, cap, rfl, h1, h2, fun i hi => ⟨b, off, rfl⟩⟩
theorem Zs.cell {w : World} {b off n cap : Nat} {l : List Int} (h : Zs w (.slice (some ⟨b, off, none⟩) n cap) l) (i : Nat) (hi : i < l.length) : w.cell? ⟨b, off + i, none⟩ = some (.int .i64 (l.getD i 0)) := by
  rcases h with ⟨h, _⟩ | ⟨b', off', cap', hv, _, _, _, h4⟩
  · cases h
  · cases hv; exact h4 i hi
theorem Nums.zs {w : World} {v : Value} {l : List Nat} (h : Nums w v l) (hc : ∀ a n c, v = .slice a n c → n ≤ c ∧ c ≤ 9223372036854775807) : Zs w v (l.map fun n : Nat => (n : Int)) := by
  rcases h with ⟨h1, rfl⟩ | ⟨b, off, cap, hv, h1, h2, h3, h4⟩
  · exact Or.inl ⟨h1, rfl⟩
  · have := hc _ _ _ hv
    refine Or.inr ⟨b, off, cap, by rw [List.length_map]; exact hv, by rw [List.length_map]; exact this.1, this.2, h3, fun i hi => ?_⟩
    rw [List.length_map] at hi
    rw [h4 i hi]
    simp [List.getD_eq_getElem?_getD, hi]

/-- A list of lists of texts. -/
def SS (w : World) (v : Value) (l : List (List (List UInt8))) : Prop :=
  (v = .slice none 0 0 ∧ l = []) ∨ ∃ b off cap, v = .slice (some ⟨b, off, none⟩) l.length cap ∧ l.length ≤ cap ∧ cap ≤ 9223372036854775807 ∧ b < w.heap.size ∧
    ∀ i, i < l.length → ∃ u, w.cell? ⟨b, off + i, none⟩ = some u ∧ Strs w u (l.getD i [])
theorem SS.fr0 {w w' : World} {v : Value} {l : List (List (List UInt8))} (h : SS w v l) (hf : Fr [] w w') : SS w' v l := by
  rcases h with h | ⟨b, off, cap, hv, h1, h2, h3, h4⟩
  · exact Or.inl h
  · exact Or.inr ⟨b, off, cap, hv, h1, h2, Nat.lt_of_lt_of_le h3 hf.size, fun i hi => let ⟨u, hu, hs⟩ := h4 i hi; ⟨u, hf.cell hu (by simp), hs.fr0 hf⟩⟩
theorem SS.form {w : World} {v : Value} {l : List (List (List UInt8))} (h : SS w v l) : ∃ a cap, v = .slice a l.length cap ∧ l.length ≤ cap ∧ cap ≤ 9223372036854775807 ∧ (∀ i, i < l.length → ∃ b off, a = some ⟨b, off, none⟩) := by
  rcases h with ⟨rfl, rfl⟩ | ⟨b, off, cap, rfl, h1, h2, _, _⟩
  · exact ⟨none, 0, rfl, by simp, by simp, fun i hi => absurd hi (by simp)⟩
  · exact ⟨_, cap, rfl, h1, h2, fun i hi => ⟨b, off, rfl⟩⟩
theorem SS.cell {w : World} {b off n cap : Nat} {l : List (List (List UInt8))} (h : SS w (.slice (some ⟨b, off, none⟩) n cap) l) (i : Nat) (hi : i < l.length) : ∃ u, w.cell? ⟨b, off + i, none⟩ = some u ∧ Strs w u (l.getD i []) := by
  rcases h with ⟨h, _⟩ | ⟨b', off', cap', hv, _, _, _, h4⟩
  · cases h
  · cases hv; exact h4 i hi
/-- A slice of slices of strings that the call has made: its values. -/
def OwnV (base : Nat) (w : World) (v : Value) (us : List Value) : Prop := w.ownsRow base 22 1 v us.length us
theorem OwnV.fr {X : List Nat} {base : Nat} {w w' : World} {v : Value} {us : List Value} (h : OwnV base w v us) (hf : Fr X w w') (hx : ∀ k, v.ownBlock = some k → k ∉ X) : OwnV base w' v us := ownsRow_fr h hf hx
theorem OwnV.nil {base : Nat} {w : World} : OwnV base w (.slice none 0 0) [] := ⟨rfl, Or.inl ⟨rfl, rfl⟩⟩
theorem OwnV.lt {base : Nat} {w : World} {v : Value} {us : List Value} (h : OwnV base w v us) : ∀ k, v.ownBlock = some k → k < w.heap.size := by
  intro k hk
  rcases h.2 with ⟨rfl, _⟩ | ⟨g, cap, cur, rfl, _, hg, _⟩
  · simp [Value.ownBlock] at hk
  · obtain rfl : g = k := by simpa [Value.ownBlock] using hk
    exact lt_of_block hg
theorem OwnV.ss {base : Nat} {w : World} {v : Value} {us : List Value} {l : List (List (List UInt8))} (h : OwnV base w v us) (hl : us.length = l.length) (hs : ∀ i, i < l.length → Strs w (us.getD i (.slice none 0 0)) (l.getD i [])) : SS w v l := by
  rcases h.2 with ⟨h2, h3⟩ | ⟨g, cap, cur, hv, hb, hg, h3, h4, h5, h6⟩
  · exact Or.inl ⟨h2, List.length_eq_zero_iff.1 (by omega)⟩
  · refine Or.inr ⟨g, 0, cap, by rw [← hl]; exact hv, by omega, by unfold maxLen at h4; omega, lt_of_block hg, fun i hi => ⟨us.getD i (.slice none 0 0), ?_, hs i hi⟩⟩
    rw [Nat.zero_add, row_cell hg i]
    have h7 : (cur.toList.take (us.length * 1))[i]? = cur[i]? := by rw [List.getElem?_take, if_pos (by omega), Array.getElem?_toList]
    rw [← h7, h6, List.getElem?_eq_getElem (by omega), List.getD_eq_getElem?_getD, List.getElem?_eq_getElem (by omega)]
    rfl
theorem vInfo : (Tryd.prog.info? 22).map (fun i => (i.zero, i.size, i.bytes)) = some (some (.slice none 0 0), 1, 24) := by kernel_rfl

section
variable {o : Oper} {a : Act} {K : Act → World → Prop} {Q : Exit → Act → World → Prop} {w : World}
theorem wp_appMa (s x : Operand)
    (ho : o.op = .call { callee := .builtin .append, args := #[s, x], argTypes := #[22, 22] }) (base : Nat) (ev : Value) (l xs : List (List UInt8)) (b off n c : Nat) (w0 : World)
    (hs : a.eval s = ev) (hx : a.eval x = .slice (some ⟨b, off, none⟩) n c) (hn : xs.length = n) (hxs : Strs w (.slice (some ⟨b, off, none⟩) n c) xs) (hown : OwnS base w ev l) (hfr : Fr [] w0 w) (hb0 : w0.heap.size ≤ base) (hb : base ≤ w.heap.size) (hl : l.length + n < 1000000)
    (h : ∀ v' w', OwnS base w' v' (l ++ xs) → Fr [] w0 w' → Fr ev.ownBlock.toList w w' → (v'.ownBlock = ev.ownBlock ∨ v'.ownBlock = some w.heap.size) → K (a.put o.dst v') w') :
    o.wp Tryd.prog a w K Q := by
  obtain ⟨i0, hi, hz0, hz1, hz2⟩ := info_parts sInfo
  obtain ⟨v', w', hrun, r1, r2, _, r4⟩ := run_append_own_at (P := Tryd.prog) (w := w) base 22 o.type 9 i0 (.string ⟨#[]⟩) 1 16 Tryd.underlying22 hi hz0 hz1 hz2 rfl (by decide) ev _ _ hown ⟨b, off, none⟩ n c (xs.map strV) (by simp [hn])
    (fun j u hj => cells_news hxs j u hj) (by simp [strV, Value.oneCell']) (by unfold maxLen; omega) (by omega) hb
  have := h v' w' (by simpa [OwnS, hn] using r1) (hfr.grown r2 (fun r e => Or.inr (Nat.le_trans hb0 (ownBlock_cells hown r e).1))) ((Fr.refl _ w).grown r2 (fun r e => Or.inl (by simp [e]))) r4
  unfold Oper.wp execOp
  simp only [ho, resolve, invoke, builtin, Sem.run_bind, Sem.run_pure, Result.andThen_ok, List.map_toArray, List.map_cons, List.map_nil, hs, hx, hrun]
  exact this
/-- append of one slice of strings. -/
theorem wp_appV (s x : Operand)
    (ho : o.op = .call { callee := .builtin .append, args := #[s, x], argTypes := #[24, 24] }) (base : Nat) (ev u : Value) (us : List Value) (b off c : Nat) (w0 : World)
    (hs : a.eval s = ev) (hx : a.eval x = .slice (some ⟨b, off, none⟩) 1 c) (hcu : w.cell? ⟨b, off, none⟩ = some u) (hu : u.oneCell' = true) (hown : OwnV base w ev us) (hfr : Fr [] w0 w) (hb0 : w0.heap.size ≤ base) (hb : base ≤ w.heap.size) (hl : us.length < 1000000)
    (h : ∀ v' w', OwnV base w' v' (us ++ [u]) → Fr [] w0 w' → Fr ev.ownBlock.toList w w' → (v'.ownBlock = ev.ownBlock ∨ v'.ownBlock = some w.heap.size) → (∃ g cap, v' = .slice (some ⟨g, 0, none⟩) (us.length + 1) cap) → K (a.put o.dst v') w') :
    o.wp Tryd.prog a w K Q := by
  obtain ⟨i0, hi, hz0, hz1, hz2⟩ := info_parts vInfo
  obtain ⟨v', w', hrun, r1, r2, _, r4⟩ := run_append_own_at (P := Tryd.prog) (w := w) base 24 o.type 22 i0 (.slice none 0 0) 1 24 Tryd.underlying24 hi hz0 hz1 hz2 rfl (by decide) ev _ _ hown ⟨b, off, none⟩ 1 c [u] (by simp)
    (fun j x hj => by
      match j, hj with
      | 0, hj =>
        simp at hj; subst hj
        rw [show (⟨b, off, none⟩ : Addr).add 0 = ⟨b, off, none⟩ by simp [Addr.add]]
        exact hcu) (by simpa using hu) (by unfold maxLen; omega) (by omega) hb
  have := h v' w' (by simpa [OwnV] using r1) (hfr.grown r2 (fun r e => Or.inr (Nat.le_trans hb0 (ownBlock_cells hown r e).1))) ((Fr.refl _ w).grown r2 (fun r e => Or.inl (by simp [e]))) r4 (ownsRow_succ r1)
  unfold Oper.wp execOp
  simp only [ho, resolve, invoke, builtin, Sem.run_bind, Sem.run_pure, Result.andThen_ok, List.map_toArray, List.map_cons, List.map_nil, hs, hx, hrun]
  exact this
end

section
variable {P : Program} {md : Region.Mode} {ops : Array Oper} {Q : Exit → Act → World → Prop} {S : World → Prop} {m : Nat}
/-- One of two operations may come up. -/
theorem hd_two (i j : Nat) {dst dst' : Option Tmp} {op op' : Op} {ty ty' : TypeId} {pos pos' : String} {aft aft' : Array Edge} {gd gd' : Option (Nat × Bool)} {fuel : Nat} {listed li lj : Array Bool} {a : Act} {w : World} (hr : Region.ready md ops listed = [i, j])
    (hi : ops[i]? = some ⟨dst, op, ty, pos, aft, gd⟩) (hgi : Region.wanted (⟨dst, op, ty, pos, aft, gd⟩ : Oper) (yielded ops a.tmps) = true) (hli : listed.setIfInBounds i true = li)
    (hj : ops[j]? = some ⟨dst', op', ty', pos', aft', gd'⟩) (hgj : Region.wanted (⟨dst', op', ty', pos', aft', gd'⟩ : Oper) (yielded ops a.tmps) = true) (hlj : listed.setIfInBounds j true = lj)
    (h1 : ∀ K' : Act → World → Prop, Go.Shut (∀ a' w', (i ≠ m → S w') → Held P md ops (OnlyNormal Q) S m fuel li a' w' → K' a' w') → (⟨dst, op, ty, pos, aft, gd⟩ : Oper).wp P a w K' (OnlyNormal Q))
    (h2 : ∀ K' : Act → World → Prop, Go.Shut (∀ a' w', (j ≠ m → S w') → Held P md ops (OnlyNormal Q) S m fuel lj a' w' → K' a' w') → (⟨dst', op', ty', pos', aft', gd'⟩ : Oper).wp P a w K' (OnlyNormal Q)) :
    Held P md ops (OnlyNormal Q) S m (fuel + 1) listed a w := by
  subst hli hlj
  refine ⟨fun h0 => (by rw [hr] at h0; cases h0), fun k hk => ?_⟩
  rw [hr] at hk
  rcases List.mem_cons.1 hk with rfl | hk
  · unfold wpOp
    simp only [hi]
    rw [if_pos hgi]
    exact Or.inl (h1 _ (fun a' w' h1 h2 => ⟨h1, h2⟩))
  · obtain rfl : k = j := by simpa using hk
    unfold wpOp
    simp only [hj]
    rw [if_pos hgj]
    exact Or.inl (h2 _ (fun a' w' h1 h2 => ⟨h1, h2⟩))
end
end Go.Proofs.YtmhejcndkplepaaDoor
