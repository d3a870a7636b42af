/-
  Appends of several numbers, of several lists; three own slices side by side; some operations that may come in any order.
-/
import Derived.Test.YtmhejcndkplepaaDoorRvQ
namespace Go.Proofs.YtmhejcndkplepaaDoor
open Go.RowKit

section
variable {o : Oper} {a : Act} {K : Act → World → Prop} {Q : Exit → Act → World → Prop} {w : World}
theorem wp_appZm (s x : Operand)
    (ho : o.op = .call { callee := .builtin .append, args := #[s, x], argTypes := #[23, 23] }) (base : Nat) (ev : Value) (l xs : List Int) (b off n c : Nat)
    (hs : a.eval s = ev) (hx : a.eval x = .slice (some ⟨b, off, none⟩) n c) (hn : xs.length = n) (hcell : ∀ j, j < n → w.cell? ⟨b, off + j, none⟩ = some (.int .i64 (xs.getD j 0))) (hown : OwnZ base w ev l) (hb : base ≤ w.heap.size) (hl : l.length + n < 1000000)
    (h : ∀ v' w', OwnZ base w' v' (l ++ xs) → Fr ev.ownBlock.toList w w' → (v'.ownBlock = ev.ownBlock ∨ v'.ownBlock = some w.heap.size) → K (a.put o.dst v') w') :
    o.wp Tryd.prog a w K Q := by
  obtain ⟨i0, hi, hz0, hz1, hz2⟩ := info_parts iInfo
  obtain ⟨v', w', hrun, r1, r2, _, r4⟩ := run_append_own_at (P := Tryd.prog) (w := w) base 23 o.type 3 i0 (.int .i64 0) 1 8 Tryd.underlying23 hi hz0 hz1 hz2 rfl (by decide) ev _ _ hown ⟨b, off, none⟩ n c (xs.map zV) (by simp [hn])
    (fun j u hj => by
      have hjl : j < xs.length := by simpa using (List.getElem?_eq_some_iff.1 hj).1
      rw [show (⟨b, off, none⟩ : Addr).add j = ⟨b, off + j, none⟩ by cases j <;> simp [Addr.add], hcell j (by omega), ← hj]
      simp [zV, List.getD_eq_getElem?_getD, hjl]) (fun u hu => by obtain ⟨n, _, rfl⟩ := List.mem_map.1 hu; rfl) (by unfold maxLen; omega) (by omega) hb
  have := h v' w' (by simpa [OwnZ, hn] using r1) ((Fr.refl _ w).grown r2 (fun r e => Or.inl (by simp [e]))) r4
  unfold Oper.wp execOp
  simp only [ho, resolve, invoke, builtin, Sem.run_bind, Sem.run_pure, Result.andThen_ok, List.map_toArray, List.map_cons, List.map_nil, hs, hx, hrun]
  exact this
theorem wp_appVm (s x : Operand)
    (ho : o.op = .call { callee := .builtin .append, args := #[s, x], argTypes := #[24, 24] }) (base : Nat) (ev : Value) (us xs : List Value) (b off n c : Nat)
    (hs : a.eval s = ev) (hx : a.eval x = .slice (some ⟨b, off, none⟩) n c) (hn : xs.length = n) (hcell : ∀ j, j < n → w.cell? ⟨b, off + j, none⟩ = some (xs.getD j (.slice none 0 0))) (hone : ∀ u ∈ xs, u.oneCell' = true) (hown : OwnV base w ev us) (hb : base ≤ w.heap.size) (hl : us.length + n < 1000000)
    (h : ∀ v' w', OwnV base w' v' (us ++ xs) → Fr ev.ownBlock.toList w w' → (v'.ownBlock = ev.ownBlock ∨ v'.ownBlock = some w.heap.size) → K (a.put o.dst v') w') :
    o.wp Tryd.prog a w K Q := by
  obtain ⟨i0, hi, hz0, hz1, hz2⟩ := info_parts vInfo
  obtain ⟨v', w', hrun, r1, r2, _, r4⟩ := run_append_own_at (P := Tryd.prog) (w := w) base 24 o.type 22 i0 (.slice none 0 0) 1 24 Tryd.underlying24 hi hz0 hz1 hz2 rfl (by decide) ev _ _ hown ⟨b, off, none⟩ n c xs (by simp [hn])
    (fun j u hj => by
      have hjl : j < xs.length := (List.getElem?_eq_some_iff.1 hj).1
      rw [show (⟨b, off, none⟩ : Addr).add j = ⟨b, off + j, none⟩ by cases j <;> simp [Addr.add], hcell j (by omega), ← hj]
      simp [List.getD_eq_getElem?_getD, hjl]) hone (by unfold maxLen; omega) (by omega) hb
  have := h v' w' (by simpa [OwnV, hn] using r1) ((Fr.refl _ w).grown r2 (fun r e => Or.inl (by simp [e]))) r4
  unfold Oper.wp execOp
  simp only [ho, resolve, invoke, builtin, Sem.run_bind, Sem.run_pure, Result.andThen_ok, List.map_toArray, List.map_cons, List.map_nil, hs, hx, hrun]
  exact this
theorem wp_appSm (s x : Operand)
    (ho : o.op = .call { callee := .builtin .append, args := #[s, x], argTypes := #[22, 22] }) (base : Nat) (ev : Value) (l xs : List (List UInt8)) (b off n c : Nat)
    (hs : a.eval s = ev) (hx : a.eval x = .slice (some ⟨b, off, none⟩) n c) (hn : xs.length = n) (hxs : Strs w (.slice (some ⟨b, off, none⟩) n c) xs) (hown : OwnS base w ev l) (hb : base ≤ w.heap.size) (hl : l.length + n < 1000000)
    (h : ∀ v' w', OwnS base w' v' (l ++ xs) → Fr ev.ownBlock.toList w w' → (v'.ownBlock = ev.ownBlock ∨ v'.ownBlock = some w.heap.size) → K (a.put o.dst v') w') :
    o.wp Tryd.prog a w K Q := by
  obtain ⟨i0, hi, hz0, hz1, hz2⟩ := info_parts sInfo
  obtain ⟨v', w', hrun, r1, r2, _, r4⟩ := run_append_own_at (P := Tryd.prog) (w := w) base 22 o.type 9 i0 (.string ⟨#[]⟩) 1 16 Tryd.underlying22 hi hz0 hz1 hz2 rfl (by decide) ev _ _ hown ⟨b, off, none⟩ n c (xs.map strV) (by simp [hn])
    (fun j u hj => cells_news hxs j u hj) (by simp [strV, Value.oneCell']) (by unfold maxLen; omega) (by omega) hb
  have := h v' w' (by simpa [OwnS, hn] using r1) ((Fr.refl _ w).grown r2 (fun r e => Or.inl (by simp [e]))) r4
  unfold Oper.wp execOp
  simp only [ho, resolve, invoke, builtin, Sem.run_bind, Sem.run_pure, Result.andThen_ok, List.map_toArray, List.map_cons, List.map_nil, hs, hx, hrun]
  exact this
end

/-- Three own slices that lie apart. -/
structure Tri (W0 w : World) (cv fv pv : Value) (C : List Int) (F : List (List UInt8)) (P : List Value) : Prop where
  c : OwnZ W0.heap.size w cv C
  f : OwnS W0.heap.size w fv F
  p : OwnV W0.heap.size w pv P
  a1 : Apart cv fv
  a2 : Apart cv pv
  a3 : Apart fv pv
  fr : Fr [] W0 w
theorem OwnZ.one {base : Nat} {W : World} {z : Int} (hb : base ≤ W.heap.size) : OwnZ base (W.alloc (.cells #[.int .i64 z] 3)) (.slice (some ⟨W.heap.size, 0, none⟩) 1 1) [z] :=
  ⟨rfl, Or.inr ⟨W.heap.size, 1, #[.int .i64 z], rfl, hb, heap_new rfl, Nat.le_refl _, by decide, rfl, rfl⟩⟩
theorem OwnV.one {base : Nat} {W : World} {u : Value} (hb : base ≤ W.heap.size) : OwnV base (W.alloc (.cells #[u] 22)) (.slice (some ⟨W.heap.size, 0, none⟩) 1 1) [u] :=
  ⟨rfl, Or.inr ⟨W.heap.size, 1, #[u], rfl, hb, heap_new rfl, Nat.le_refl _, by decide, rfl, rfl⟩⟩
theorem OwnZ.slice {base n : Nat} {w : World} {v : Value} {l : List Int} (h : OwnZ base w v l) (hn : l.length = n) (h0 : 0 < n) : ∃ g c, v = .slice (some ⟨g, 0, none⟩) n c := by
  rcases h.2 with ⟨_, h1⟩ | ⟨g, cap, cur, hv, _⟩
  · omega
  · exact ⟨g, cap, by rw [hn] at hv; exact hv⟩
theorem OwnV.slice {base n : Nat} {w : World} {v : Value} {l : List Value} (h : OwnV base w v l) (hn : l.length = n) (h0 : 0 < n) : ∃ g c, v = .slice (some ⟨g, 0, none⟩) n c := by
  rcases h.2 with ⟨_, h1⟩ | ⟨g, cap, cur, hv, _⟩
  · omega
  · exact ⟨g, cap, by rw [hn] at hv; exact hv⟩
theorem apart_fresh {n cap m : Nat} {v : Value} (hv : ∀ k, v.ownBlock = some k → k < n) : Apart (.slice (some ⟨n, 0, none⟩) m cap) v := by
  intro k hk h
  obtain rfl : n = k := by simpa [Value.ownBlock] using hk
  exact absurd (hv _ h) (Nat.lt_irrefl _)
section
variable {W0 w w' : World} {cv fv pv nv : Value} {C : List Int} {F : List (List UInt8)} {P : List Value}
theorem Tri.start : Tri W0 W0 (.slice none 0 0) (.slice none 0 0) (.slice none 0 0) [] [] [] :=
  ⟨⟨rfl, Or.inl ⟨rfl, rfl⟩⟩, ⟨rfl, Or.inl ⟨rfl, rfl⟩⟩, OwnV.nil, .nil, .nil, .nil, .refl _ _⟩
theorem Tri.newC (h : Tri W0 w cv fv pv C F P) (z : Int) : Tri W0 (w.alloc (.cells #[.int .i64 z] 3)) (.slice (some ⟨w.heap.size, 0, none⟩) 1 1) fv pv [z] F P :=
  have hf : Fr [] w (w.alloc (.cells #[.int .i64 z] 3)) := (Fr.refl [] w).alloc _
  ⟨OwnZ.one h.fr.size, h.f.fr hf (by simp), h.p.fr hf (by simp), apart_fresh h.f.lt, apart_fresh h.p.lt, h.a3, h.fr.alloc _⟩
theorem Tri.newF (h : Tri W0 w cv fv pv C F P) (x : List UInt8) : Tri W0 (w.alloc (.cells #[.string ⟨x.toArray⟩] 9)) cv (.slice (some ⟨w.heap.size, 0, none⟩) 1 1) pv C [x] P :=
  have hf : Fr [] w (w.alloc (.cells #[.string ⟨x.toArray⟩] 9)) := (Fr.refl [] w).alloc _
  ⟨h.c.fr hf (by simp), OwnS.one h.fr.size, h.p.fr hf (by simp), (apart_fresh h.c.lt).symm, h.a2, apart_fresh h.p.lt, h.fr.alloc _⟩
theorem Tri.newP (h : Tri W0 w cv fv pv C F P) (u : Value) : Tri W0 (w.alloc (.cells #[u] 22)) cv fv (.slice (some ⟨w.heap.size, 0, none⟩) 1 1) C F [u] :=
  have hf : Fr [] w (w.alloc (.cells #[u] 22)) := (Fr.refl [] w).alloc _
  ⟨h.c.fr hf (by simp), h.f.fr hf (by simp), OwnV.one h.fr.size, h.a1, (apart_fresh h.c.lt).symm, (apart_fresh h.f.lt).symm, h.fr.alloc _⟩
theorem Tri.setC (h : Tri W0 w cv fv pv C F P) {C' : List Int} (ho : OwnZ W0.heap.size w' nv C') (hg : Fr cv.ownBlock.toList w w') (hat : nv.ownBlock = cv.ownBlock ∨ nv.ownBlock = some w.heap.size) : Tri W0 w' nv fv pv C' F P :=
  ⟨ho, h.f.fr hg h.a1.notin, h.p.fr hg h.a2.notin, h.a1.fresh hat h.f.lt, h.a2.fresh hat h.p.lt, h.a3, h.fr.trans hg (fun y hy => Or.inr (ownBlock_cells h.c y (by simpa using hy)).1)⟩
theorem Tri.setF (h : Tri W0 w cv fv pv C F P) {F' : List (List UInt8)} (ho : OwnS W0.heap.size w' nv F') (hg : Fr fv.ownBlock.toList w w') (hat : nv.ownBlock = fv.ownBlock ∨ nv.ownBlock = some w.heap.size) : Tri W0 w' cv nv pv C F' P :=
  ⟨h.c.fr hg h.a1.symm.notin, ho, h.p.fr hg h.a3.notin, (h.a1.symm.fresh hat h.c.lt).symm, h.a2, h.a3.fresh hat h.p.lt, h.fr.trans hg (fun y hy => Or.inr (ownBlock_cells h.f y (by simpa using hy)).1)⟩
theorem Tri.setP (h : Tri W0 w cv fv pv C F P) {P' : List Value} (ho : OwnV W0.heap.size w' nv P') (hg : Fr pv.ownBlock.toList w w') (hat : nv.ownBlock = pv.ownBlock ∨ nv.ownBlock = some w.heap.size) : Tri W0 w' cv fv nv C F P' :=
  ⟨h.c.fr hg h.a2.symm.notin, h.f.fr hg h.a3.symm.notin, ho, h.a1, (h.a2.symm.fresh hat h.c.lt).symm, (h.a3.symm.fresh hat h.f.lt).symm, h.fr.trans hg (fun y hy => Or.inr (ownBlock_cells h.p y (by simpa using hy)).1)⟩
theorem Tri.ofFr (h : Tri W0 w cv fv pv C F P) (hf : Fr [] w w') : Tri W0 w' cv fv pv C F P :=
  ⟨h.c.fr hf (by simp), h.f.fr hf (by simp), h.p.fr hf (by simp), h.a1, h.a2, h.a3, h.fr.trans hf (by simp)⟩
end

section
variable {P : Program} {md : Region.Mode} {ops : Array Oper} {Q : Exit → Act → World → Prop} {S : World → Prop} {m : Nat}
/-- One of several operations may come up. -/
theorem hd_many (rs : List Nat) {fuel : Nat} {listed : Array Bool} {a : Act} {w : World} (hr : Region.ready md ops listed = rs) (hne : rs ≠ [])
    (h : ∀ i ∈ rs, ∃ o, ops[i]? = some o ∧ Region.wanted o (yielded ops a.tmps) = true ∧ ∀ K' : Act → World → Prop, Go.Shut (∀ a' w', (i ≠ m → S w') → Held P md ops (OnlyNormal Q) S m fuel (listed.setIfInBounds i true) a' w' → K' a' w') → o.wp P a w K' (OnlyNormal Q)) :
    Held P md ops (OnlyNormal Q) S m (fuel + 1) listed a w := by
  refine ⟨fun h0 => absurd (hr.symm.trans h0) hne, fun i hi => ?_⟩
  rw [hr] at hi
  obtain ⟨o, ho, hg, hw⟩ := h i hi
  unfold wpOp
  simp only [ho]
  rw [if_pos hg]
  exact Or.inl (hw _ (fun a' w' h3 h4 => ⟨h3, h4⟩))
/-- The frame gets a name. -/
theorem held_name {fuel : Nat} {listed : Array Bool} {a : Act} {w : World} (h : ∀ a0, a0 = a → Held P md ops (OnlyNormal Q) S m fuel listed a0 w) : Held P md ops (OnlyNormal Q) S m fuel listed a w := h a rfl
end
/-- The same beside a new block for a disclosure. -/
structure TriB (W0 w : World) (cv fv pv : Value) (C : List Int) (F : List (List UInt8)) (P : List Value) (tb : Nat) : Prop where
  t : Tri W0 w cv fv pv C F P
  b : W0.heap.size ≤ tb
  blk : w.heap[tb]? = some (.cells #[.int .i64 0, .slice none 0 0, .slice none 0 0, .slice none 0 0] 26 (0, 0))
  nc : tb ∉ cv.ownBlock.toList
  nf : tb ∉ fv.ownBlock.toList
  np : tb ∉ pv.ownBlock.toList
theorem notin_lt {v : Value} {n : Nat} (h : ∀ k, v.ownBlock = some k → k < n) : n ∉ v.ownBlock.toList := fun hm => Nat.lt_irrefl _ (h n (by simpa using hm))
section
variable {W0 w w' : World} {cv fv pv nv : Value} {C : List Int} {F : List (List UInt8)} {P : List Value} {tb : Nat}
theorem Tri.newB (h : Tri W0 w cv fv pv C F P) : TriB W0 (w.alloc (.cells #[.int .i64 0, .slice none 0 0, .slice none 0 0, .slice none 0 0] 26)) cv fv pv C F P w.heap.size :=
  ⟨h.ofFr ((Fr.refl [] w).alloc _), h.fr.size, heap_new rfl, notin_lt h.c.lt, notin_lt h.f.lt, notin_lt h.p.lt⟩
theorem one_notin {n m cap k : Nat} (h : k < n) : k ∉ (Value.slice (some ⟨n, 0, none⟩) m cap).ownBlock.toList := fun hm => by
  have : k = n := by simpa [Value.ownBlock] using hm
  omega
theorem TriB.newC (h : TriB W0 w cv fv pv C F P tb) (z : Int) : TriB W0 (w.alloc (.cells #[.int .i64 z] 3)) (.slice (some ⟨w.heap.size, 0, none⟩) 1 1) fv pv [z] F P tb :=
  ⟨h.t.newC z, h.b, ((Fr.refl [] w).alloc _).at h.blk (by simp), one_notin (lt_of_block h.blk), h.nf, h.np⟩
theorem TriB.newF (h : TriB W0 w cv fv pv C F P tb) (x : List UInt8) : TriB W0 (w.alloc (.cells #[.string ⟨x.toArray⟩] 9)) cv (.slice (some ⟨w.heap.size, 0, none⟩) 1 1) pv C [x] P tb :=
  ⟨h.t.newF x, h.b, ((Fr.refl [] w).alloc _).at h.blk (by simp), h.nc, one_notin (lt_of_block h.blk), h.np⟩
theorem TriB.newP (h : TriB W0 w cv fv pv C F P tb) (u : Value) : TriB W0 (w.alloc (.cells #[u] 22)) cv fv (.slice (some ⟨w.heap.size, 0, none⟩) 1 1) C F [u] tb :=
  ⟨h.t.newP u, h.b, ((Fr.refl [] w).alloc _).at h.blk (by simp), h.nc, h.nf, one_notin (lt_of_block h.blk)⟩
theorem hat_notin {k : Nat} (hn : k ∉ cv.ownBlock.toList) (hl : k < w.heap.size) (hat : nv.ownBlock = cv.ownBlock ∨ nv.ownBlock = some w.heap.size) : k ∉ nv.ownBlock.toList := fun hm => by
  rcases hat with e | e
  · exact hn (by rw [← e]; exact hm)
  · rw [e] at hm
    have : k = w.heap.size := by simpa using hm
    omega
theorem TriB.setC (h : TriB W0 w cv fv pv C F P tb) {C' : List Int} (ho : OwnZ W0.heap.size w' nv C') (hg : Fr cv.ownBlock.toList w w') (hat : nv.ownBlock = cv.ownBlock ∨ nv.ownBlock = some w.heap.size) : TriB W0 w' nv fv pv C' F P tb :=
  ⟨h.t.setC ho hg hat, h.b, hg.at h.blk h.nc, hat_notin h.nc (lt_of_block h.blk) hat, h.nf, h.np⟩
theorem TriB.setF (h : TriB W0 w cv fv pv C F P tb) {F' : List (List UInt8)} (ho : OwnS W0.heap.size w' nv F') (hg : Fr fv.ownBlock.toList w w') (hat : nv.ownBlock = fv.ownBlock ∨ nv.ownBlock = some w.heap.size) : TriB W0 w' cv nv pv C F' P tb :=
  ⟨h.t.setF ho hg hat, h.b, hg.at h.blk h.nf, h.nc, hat_notin h.nf (lt_of_block h.blk) hat, h.np⟩
theorem TriB.setP (h : TriB W0 w cv fv pv C F P tb) {P' : List Value} (ho : OwnV W0.heap.size w' nv P') (hg : Fr pv.ownBlock.toList w w') (hat : nv.ownBlock = pv.ownBlock ∨ nv.ownBlock = some w.heap.size) : TriB W0 w' cv fv nv C F P' tb :=
  ⟨h.t.setP ho hg hat, h.b, hg.at h.blk h.np, h.nc, h.nf, hat_notin h.np (lt_of_block h.blk) hat⟩
end
theorem Strs.preN {w : World} {b off n m cap : Nat} {l : List (List UInt8)} (h : Strs w (.slice (some ⟨b, off, none⟩) n cap) l) (hm : m ≤ n) : Strs w (.slice (some ⟨b, off, none⟩) m cap) (l.take m) := by
  rcases h with ⟨h, _⟩ | ⟨b', off', cap', hv, h1, h2, h3, h4⟩
  · cases h
  · cases hv
    refine Or.inr ⟨b, off, cap, by rw [List.length_take, Nat.min_eq_left hm], by rw [List.length_take]; omega, h2, h3, fun i hi => ?_⟩
    rw [List.length_take] at hi
    rw [h4 i (by omega)]
    simp [List.getD_eq_getElem?_getD, show i < m by omega]
theorem Zs.preN {w : World} {b off n m cap : Nat} {l : List Int} (h : Zs w (.slice (some ⟨b, off, none⟩) n cap) l) (hm : m ≤ n) : Zs w (.slice (some ⟨b, off, none⟩) m cap) (l.take m) := by
  rcases h with ⟨h, _⟩ | ⟨b', off', cap', hv, h1, h2, h3, h4⟩
  · cases h
  · cases hv
    refine Or.inr ⟨b, off, cap, by rw [List.length_take, Nat.min_eq_left hm], by rw [List.length_take]; omega, h2, h3, fun i hi => ?_⟩
    rw [List.length_take] at hi
    rw [h4 i (by omega)]
    simp [List.getD_eq_getElem?_getD, show i < m by omega]
theorem SS.preN {w : World} {b off n m cap : Nat} {l : List (List (List UInt8))} (h : SS w (.slice (some ⟨b, off, none⟩) n cap) l) (hm : m ≤ n) : SS w (.slice (some ⟨b, off, none⟩) m cap) (l.take m) := by
  rcases h with ⟨h, _⟩ | ⟨b', off', cap', hv, h1, h2, h3, h4⟩
  · cases h
  · cases hv
    refine Or.inr ⟨b, off, cap, by rw [List.length_take, Nat.min_eq_left hm], by rw [List.length_take]; omega, h2, h3, fun i hi => ?_⟩
    rw [List.length_take] at hi
    obtain ⟨u, hu, hs⟩ := h4 i (by omega)
    refine ⟨u, hu, ?_⟩
    rwa [show (l.take m).getD i [] = l.getD i [] by simp [List.getD_eq_getElem?_getD, show i < m by omega]]
theorem inc_twice {z n : Int} {L : List Int} (h : z = L.getD 0 0) (hl : 0 < L.length) : incB (-1) (z :: L) n = false := by
  cases L with
  | nil => simp at hl
  | cons a t =>
    simp only [List.getD_cons_zero] at h
    subst h
    simp [incB]
theorem drop_getD {α : Type} (l : List α) (i : Nat) (d : α) : (l.drop 1).getD i d = l.getD (i + 1) d := by
  simp [List.getD_eq_getElem?_getD]
/-- Two own slices of texts that lie apart. -/
structure Duo (W0 w : World) (sv mv : Value) (S M : List (List UInt8)) : Prop where
  a : OwnS W0.heap.size w sv S
  b : OwnS W0.heap.size w mv M
  ap : Apart sv mv
  fr : Fr [] W0 w
section
variable {W0 w w' : World} {sv mv nv : Value} {S M : List (List UInt8)}
theorem Duo.start : Duo W0 W0 (.slice none 0 0) (.slice none 0 0) [] [] := ⟨⟨rfl, Or.inl ⟨rfl, rfl⟩⟩, ⟨rfl, Or.inl ⟨rfl, rfl⟩⟩, .nil, .refl _ _⟩
theorem Duo.newE (h : Duo W0 w sv mv S M) : Duo W0 (w.alloc (.cells #[] 9)) (.slice (some ⟨w.heap.size, 0, none⟩) 0 0) mv [] M :=
  ⟨own_empty h.fr.size, h.b.fr ((Fr.refl [] w).alloc _) (by simp), apart_fresh h.b.lt, h.fr.alloc _⟩
theorem Duo.newM (h : Duo W0 w sv mv S M) (x : List UInt8) : Duo W0 (w.alloc (.cells #[.string ⟨x.toArray⟩] 9)) sv (.slice (some ⟨w.heap.size, 0, none⟩) 1 1) S [x] :=
  ⟨h.a.fr ((Fr.refl [] w).alloc _) (by simp), OwnS.one h.fr.size, (apart_fresh h.a.lt).symm, h.fr.alloc _⟩
theorem Duo.setA (h : Duo W0 w sv mv S M) {S' : List (List UInt8)} (ho : OwnS W0.heap.size w' nv S') (hg : Fr sv.ownBlock.toList w w') (hat : nv.ownBlock = sv.ownBlock ∨ nv.ownBlock = some w.heap.size) : Duo W0 w' nv mv S' M :=
  ⟨ho, h.b.fr hg h.ap.notin, h.ap.fresh hat h.b.lt, h.fr.trans hg (fun y hy => Or.inr (ownBlock_cells h.a y (by simpa using hy)).1)⟩
end
/-- The values of a list of lists of texts. -/
theorem SS.vals {w : World} {b off n cap : Nat} {l : List (List (List UInt8))} (h : SS w (.slice (some ⟨b, off, none⟩) n cap) l) : ∃ us : List Value, us.length = l.length ∧
    (∀ i, i < l.length → w.cell? ⟨b, off + i, none⟩ = some (us.getD i (.slice none 0 0))) ∧ (∀ u ∈ us, ∃ a n c, u = .slice a n c) ∧ ∀ i, i < l.length → Strs w (us.getD i (.slice none 0 0)) (l.getD i []) := by
  have h1 := fun i (hi : i < l.length) => h.cell i hi
  refine ⟨(List.range l.length).map (fun i => if hi : i < l.length then (h1 i hi).choose else .slice none 0 0), by simp, ?_, ?_, ?_⟩
  · intro i hi
    rw [(h1 i hi).choose_spec.1]
    simp [List.getD_eq_getElem?_getD, hi]
  · intro u hu
    obtain ⟨i, hi, rfl⟩ := List.mem_map.1 hu
    have hi := List.mem_range.1 hi
    rw [dif_pos hi]
    have := (h1 i hi).choose_spec.2
    rcases this with ⟨h, _⟩ | ⟨b, off, cap, h, _⟩ <;> exact ⟨_, _, _, h⟩
  · intro i hi
    have := (h1 i hi).choose_spec.2
    simpa [List.getD_eq_getElem?_getD, hi] using this
section
variable {P : Program} {md : Region.Mode} {ops : Array Oper} {Q : Exit → Act → World → Prop} {S : World → Prop} {m : Nat}
/-- What is to be shown of the region gets a name. -/
theorem held_pred {fuel : Nat} {listed : Array Bool} {a : Act} {w : World} (h : ∀ H : Nat → Array Bool → Act → World → Prop, H = Held P md ops (OnlyNormal Q) S m → H fuel listed a w) : Held P md ops (OnlyNormal Q) S m fuel listed a w := h _ rfl
end
end Go.Proofs.YtmhejcndkplepaaDoor
