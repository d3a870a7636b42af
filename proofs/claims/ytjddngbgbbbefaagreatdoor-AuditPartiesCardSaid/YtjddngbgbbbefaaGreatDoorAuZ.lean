/-
  foyerlaw20.AuditParties.
-/
import Derived.Test.YtjddngbgbbbefaaGreatDoorAuV
import Derived.Test.YtjddngbgbbbefaaGreatDoorRefA
import Derived.BigQuiet
namespace Go.Proofs.YtjddngbgbbbefaaGreatDoor
open Go.RowKit
set_option maxRecDepth 100000

theorem ownQ_emptyN {base b : Nat} {W : World} (hb : base ≤ b) (he : b = W.heap.size) : OwnQ base (W.alloc (.cells #[] 46)) (.slice (some ⟨b, 0, none⟩) 0 0) [] := by
  subst he
  exact ownQ_empty hb
/-- A finding about the party i among the first k. -/
def fndB (i : Int) (l : List Aud) (k : Nat) : Bool := (l.take k).any fun z => z.kind == 4 && z.a == i
theorem fndB_succ (i : Int) (l : List Aud) {k : Nat} {z : Aud} (hk : l[k]? = some z) : fndB i l (k + 1) = (fndB i l k || (z.kind == 4 && z.a == i)) := by
  unfold fndB
  rw [List.take_add_one, hk, List.any_append]
  simp
theorem flat_setJ : ∀ (l : List Pty) (i : Nat) (x y : Pty) (_ : l[i]? = some x) (j : Nat) (_ : j < 3) (v : Value) (_ : ptyCells y = (ptyCells x).set j v), (l.set i y).flatMap ptyCells = (l.flatMap ptyCells).set (i * 3 + j) v
  | [], i, x, y, h, _, _, _, _ => by simp at h
  | a :: l, 0, x, y, h, j, hj, v, hy => by
    obtain rfl : a = x := by simpa using h
    rw [List.set_cons_zero, List.flatMap_cons, List.flatMap_cons, hy, Nat.zero_mul, Nat.zero_add, List.set_append_left _ _ (by simpa [ptyCells] using hj)]
  | a :: l, i + 1, x, y, h, j, hj, v, hy => by
    have ih := flat_setJ l i x y (by simpa using h) j hj v hy
    have hl : (ptyCells a).length = 3 := rfl
    rw [List.set_cons_succ, List.flatMap_cons, List.flatMap_cons, List.set_append_right _ _ (by rw [hl]; omega), hl, ih]
    congr 2
    omega
theorem ownQ_setJ {base : Nat} {w : World} {g cap n : Nat} {cur : Array Value} {l : List Pty} {i j : Nat} {x y : Pty} {v : Value} (hb : base ≤ g) (hg : w.heap[g]? = some (.cells cur 46 (0, 0))) (h3 : n ≤ cap) (h4 : cap ≤ maxLen) (h5 : cur.size = cap * 3)
    (h6 : cur.toList.take (n * 3) = l.flatMap ptyCells) (hl : l.length = n) (hx : l[i]? = some x) (hj : j < 3) (hy : ptyCells y = (ptyCells x).set j v) : OwnQ base (w.setCell ⟨g, i * 3 + j, none⟩ v) (.slice (some ⟨g, 0, none⟩) n cap) (l.set i y) := by
  refine ⟨by rw [ptyCells_length, List.length_set], Or.inr ⟨g, cap, cur.setIfInBounds (i * 3 + j) v, by rw [List.length_set, hl], hb, row_set hg _ _, by rw [List.length_set]; omega, h4, by simp [h5], ?_⟩⟩
  rw [List.length_set, hl, Array.toList_setIfInBounds, List.take_set, h6, flat_setJ l i x y hx j hj v hy]
theorem OwnQ.rows {base g n cap : Nat} {w : World} {l : List Pty} (h : OwnQ base w (.slice (some ⟨g, 0, none⟩) n cap) l) (hn : l.length = n) (h0 : 0 < n) :
    ∃ cur : Array Value, base ≤ g ∧ w.heap[g]? = some (.cells cur 46 (0, 0)) ∧ n ≤ cap ∧ cap ≤ maxLen ∧ cur.size = cap * 3 ∧ cur.toList.take (n * 3) = l.flatMap ptyCells := by
  rcases h.2 with ⟨_, h1⟩ | ⟨g', cap', cur, hv, hb, hg, h3, h4, h5, h6⟩
  · omega
  · rw [hn] at hv h3 h6
    cases hv
    exact ⟨cur, hb, hg, h3, h4, h5, h6⟩
theorem ownQ_set1 {base g n cap i j : Nat} {w : World} {l : List Pty} {x y : Pty} {v : Value} (h : OwnQ base w (.slice (some ⟨g, 0, none⟩) n cap) l) (hn : l.length = n) (hx : l[i]? = some x) (hj : j < 3) (hy : ptyCells y = (ptyCells x).set j v) :
    OwnQ base (w.setCell ⟨g, i * 3 + j, none⟩ v) (.slice (some ⟨g, 0, none⟩) n cap) (l.set i y) := by
  have hi := (List.getElem?_eq_some_iff.1 hx).1
  obtain ⟨cur, hb, hg, h3, h4, h5, h6⟩ := h.rows hn (by omega)
  exact ownQ_setJ hb hg h3 h4 h5 h6 hn hx hj hy
theorem ownQ_set3 {base g n cap i : Nat} {w : World} {l : List Pty} {x : Pty} (h : OwnQ base w (.slice (some ⟨g, 0, none⟩) n cap) l) (hn : l.length = n) (hx : l[i]? = some x) (y : Pty) :
    OwnQ base (((w.setCell ⟨g, i * 3, none⟩ (.string ⟨y.name.toArray⟩)).setCell ⟨g, i * 3 + 1, none⟩ (.string ⟨y.com.toArray⟩)).setCell ⟨g, i * 3 + 2, none⟩ (.string ⟨y.rev.toArray⟩)) (.slice (some ⟨g, 0, none⟩) n cap) (l.set i y) := by
  have hi := (List.getElem?_eq_some_iff.1 hx).1
  have h1 := ownQ_set1 (j := 0) (y := ⟨y.name, x.com, x.rev⟩) (v := .string ⟨y.name.toArray⟩) h hn hx (by decide) rfl
  have h2 := ownQ_set1 (i := i) (j := 1) (x := ⟨y.name, x.com, x.rev⟩) (y := ⟨y.name, y.com, x.rev⟩) (v := .string ⟨y.com.toArray⟩) h1 (by simp [hn]) (by simp [hi]) (by decide) rfl
  have h3 := ownQ_set1 (i := i) (j := 2) (x := ⟨y.name, y.com, x.rev⟩) (y := y) (v := .string ⟨y.rev.toArray⟩) h2 (by simp [hn]) (by simp [hi]) (by decide) rfl
  simpa only [List.set_set, Nat.add_zero] using h3
theorem wp_appSn {o : Oper} {a : Act} {K : Act → World → Prop} {Q : Exit → Act → World → Prop} {w : World} (s x : Operand)
    (ho : o.op = .call { callee := .builtin .append, args := #[s, x], argTypes := #[27, 27] }) (base : Nat) (ev : Value) (l xs : List (List UInt8)) (b off n c : Nat)
    (hs : a.eval s = ev) (hx : a.eval x = .slice (some ⟨b, off, none⟩) n c) (hn : xs.length = n) (hxs : Strs w (.slice (some ⟨b, off, none⟩) n c) xs) (hown : OwnS base w ev l) (hb : base ≤ w.heap.size) (hl : l.length + n < 1000000)
    (h : ∀ v' w', OwnS base w' v' (l ++ xs) → Fr ev.ownBlock.toList w w' → (v'.ownBlock = ev.ownBlock ∨ v'.ownBlock = some w.heap.size) → K (a.put o.dst v') w') :
    o.wp Tryz.prog a w K Q := by
  obtain ⟨i0, hi, hz0, hz1, hz2⟩ := info_parts sInfo
  obtain ⟨v', w', hrun, r1, r2, _, r4⟩ := run_append_own_at (P := Tryz.prog) (w := w) base 27 o.type 9 i0 (.string ⟨#[]⟩) 1 16 Tryz.underlying27 hi hz0 hz1 hz2 rfl (by decide) ev _ _ hown ⟨b, off, none⟩ n c (xs.map strV) (by simp [hn])
    (fun j u hj => cells_news hxs j u hj) (by simp [strV, Value.oneCell']) (by unfold maxLen; omega) (by omega) hb
  have := h v' w' (by simpa [OwnS, hn] using r1) ((Fr.refl _ w).grown r2 (fun r e => Or.inl (by simp [e]))) r4
  unfold Oper.wp execOp
  simp only [ho, resolve, invoke, builtin, Sem.run_bind, Sem.run_pure, Result.andThen_ok, List.map_toArray, List.map_cons, List.map_nil, hs, hx, hrun]
  exact this
/-- Two lists that lie apart, each grown by appends. -/
structure DuoS (B : World) (w : World) (u v : Value) (L M : List (List UInt8)) : Prop where
  l : OwnS B.heap.size w u L
  r : OwnS B.heap.size w v M
  a : ∀ k, u.ownBlock = some k → v.ownBlock ≠ some k
  f : Fr [] B w
theorem DuoS.ofFr {B w w' : World} {u v : Value} {L M : List (List UInt8)} (h : DuoS B w u v L M) (hf : Fr [] w w') : DuoS B w' u v L M :=
  ⟨h.l.fr hf (by simp), h.r.fr hf (by simp), h.a, h.f.trans hf (by simp)⟩
theorem ownS_lt {base : Nat} {w : World} {v : Value} {l : List (List UInt8)} (h : OwnS base w v l) : ∀ k, v.ownBlock = some k → k < w.heap.size := by
  rcases h.2 with ⟨rfl, _⟩ | ⟨g, cap, cur, rfl, _, hg, _⟩
  · intro k hk; simp [Value.ownBlock] at hk
  · intro k hk
    simp [Value.ownBlock] at hk
    subst hk
    exact (Array.getElem?_eq_some_iff.1 hg).1
theorem DuoS.left {B w w' : World} {u v u' : Value} {L M L' : List (List UInt8)} (h : DuoS B w u v L M) (ho : OwnS B.heap.size w' u' L') (hf : Fr u.ownBlock.toList w w') (hat : u'.ownBlock = u.ownBlock ∨ u'.ownBlock = some w.heap.size) : DuoS B w' u' v L' M :=
  ⟨ho, h.r.fr hf (fun k hk hm => h.a k (by simpa using hm) hk), fun k hk hv => by
    rcases hat with e | e
    · exact h.a k (e ▸ hk) hv
    · rw [e] at hk
      have hlt := ownS_lt h.r k hv
      obtain rfl : w.heap.size = k := by simpa using hk
      omega, h.f.trans hf (fun y hy => Or.inr (ownBlock_cells h.l y (by simpa using hy)).1)⟩
theorem DuoS.right {B w w' : World} {u v v' : Value} {L M M' : List (List UInt8)} (h : DuoS B w u v L M) (ho : OwnS B.heap.size w' v' M') (hf : Fr v.ownBlock.toList w w') (hat : v'.ownBlock = v.ownBlock ∨ v'.ownBlock = some w.heap.size) : DuoS B w' u v' L M' :=
  ⟨h.l.fr hf (fun k hk hm => h.a k hk (by simpa using hm)), ho, fun k hk hv => by
    rcases hat with e | e
    · exact h.a k hk (e ▸ hv)
    · rw [e] at hv
      have hlt := ownS_lt h.l k hk
      obtain rfl : w.heap.size = k := by simpa using hv
      omega, h.f.trans hf (fun y hy => Or.inr (ownBlock_cells h.r y (by simpa using hy)).1)⟩
theorem texts_cap {root : List UInt8} {l : List Pty} (hr : root.length ≤ 1000000) (hl : ∀ p ∈ l, p.name.length ≤ 1000000 ∧ p.rev.length ≤ 1000000) (h16 : l.length ≤ 16) : capN (textsS root l) ≤ 140737488355328 :=
  capN_cap _ (by rw [texts_length]; omega) (fun s hs => by
    unfold textsS at hs
    rcases List.mem_cons.1 hs with rfl | hs
    · exact hr
    · obtain ⟨p, hp, hs⟩ := List.mem_flatMap.1 hs
      simp only [List.mem_cons, List.not_mem_nil, or_false] at hs
      rcases hs with rfl | rfl
      · exact (hl p hp).1
      · exact (hl p hp).2)
theorem dlist2_len (l : List (List UInt8)) : (dlist l).length ≤ 1000000 := by unfold dlist; rw [dsum_length]; decide
set_option maxHeartbeats 16000000 in
theorem auditParties_any (ev0 : Value) (es : List Pty) (pv0 : Value) (ps : List Pty) (c : Nat) (t : List UInt8) (w : World) (hc : c < 256) (hT : Tabs w) (he : Pts w ev0 es) (hp : Pts w pv0 ps) :
    Calls Tryz.prog 4 #[ev0, pv0, .int .u8 (c : Int), .string ⟨t.toArray⟩] w fun e w' => e = .returned (.bool true) ∧ Below w.heap.size w w' := by
  have HT := Lib.hid hT
  have HE0 := Lib.hid he
  have HP0 := Lib.hid hp
  have HFEW := Lib.hid (fun (W : World) (hf : Fr [] w W) => few20_any _ (⟨es, [], ps, [], []⟩ : Pbl) 20 W ⟨ev0, pv0, .slice none 0 0, .slice none 0 0, rfl, he.fr hf, hp.fr hf, Or.inl ⟨rfl, none, rfl⟩, Or.inl ⟨rfl, none, rfl⟩⟩)
  obtain ⟨ea0, ec0, rfl, _, _, hea⟩ := he.form
  obtain ⟨pa0, pc0, rfl, _, _, hpa⟩ := hp.form
  have hmx : Tryz.prog.follows .mixedOrders = true := by kernel_rfl
  clear hT he hp
  go_enter Tryz.func4, Tryz.ntmps4
  go_wp2_with fail
  refine (head20_any w HT.out).mono ?_
  rintro e w1 ⟨rfl, hb⟩
  have HF1 := Lib.hid (Fr.ofBelow (X := []) hb)
  clear hb
  go_wp2_with fail
  refine (HFEW.out w1 HF1.out).mono ?_
  rintro e w2 ⟨rfl, hb⟩
  have HF2 := Lib.hid (HF1.out.below hb HF1.out.size)
  clear hb HFEW
  obtain ⟨fb, efb⟩ : ∃ q, q = few20B (⟨es, [], ps, [], []⟩ : Pbl) 20 := ⟨_, rfl⟩
  rw [← efb]
  cases fb with
  | false =>
    clear efb
    go_wp2_with fail
    go_ret
    exact ⟨rfl, HF2.out.toBelow (by simp)⟩
  | true =>
  have HOK := Lib.hid (few20_ok efb.symm (fun k hk => by cases hk) (fun k hk => by cases hk))
  clear efb
  have HEN : Hid (es.length ≤ 20) := Lib.hid HOK.out.2.1
  have HPN : Hid (ps.length ≤ 20) := Lib.hid HOK.out.2.2.1
  by_cases h9 : 100 < t.length
  case pos =>
    have t1 : decide ((100 : Int) < (t.length : Int)) = true := by simp; omega
    clear h9
    go_wp2_with fail
    go_ret
    exact ⟨rfl, HF2.out.toBelow (by simp)⟩
  have t1 : decide ((100 : Int) < (t.length : Int)) = false := by simp; omega
  by_cases h0 : ps.length = 0
  case pos =>
    have t2 : ((ps.length : Int) == 0) = true := by rw [h0]; rfl
    clear h0 h9
    go_wp2_with fail
    go_ret
    exact ⟨rfl, HF2.out.toBelow (by simp)⟩
  have t2 : ((ps.length : Int) == 0) = false := by rw [beq_eq_false_iff_ne]; omega
  have HTN : Hid (t.length ≤ 100) := Lib.hid (by omega)
  have HP0N : Hid (0 < ps.length) := Lib.hid (by omega)
  clear h9 h0
  have HPZ := Lib.hid (pub_two (clsL es) es ps)
  rcases HPZ.out with ⟨P, hP, hgood, hpe, hpp, hps, hpo, hpr⟩ | hbad
  case inr =>
    obtain ⟨er, eer⟩ : ∃ q, q = (pubS (clsL es) es ps).2 := ⟨_, rfl⟩
    have t4 : (er != 0) = true := by rw [eer]; simpa using hbad
    have t3 : (er == 0) = false := by rw [eer]; simpa using hbad
    have HN := Lib.hid (pubNo_any _ _ es ps er w2 (HE0.out.fr HF2.out) (HP0.out.fr HF2.out) HOK.out.1.e (by have := HEN.out; omega) (by have := HPN.out; omega) HOK.out.1.p (HT.out.fr HF2.out) eer.symm (by rw [eer]; exact hbad))
    clear eer hbad
    go_wp2_with fail
    refine HN.out.mono ?_
    rintro e w3 ⟨ea, ec, pa, pc, oa, oc, sa, sc, rfl, hb⟩
    have HF3 := Lib.hid (HF2.out.below hb HF2.out.size)
    clear hb HN
    go_wp2_with fail
    go_ret
    exact ⟨rfl, (HF3.out.alloc _).toBelow (by simp)⟩
  obtain ⟨on, eon⟩ : ∃ q, q = P.order.length := ⟨_, rfl⟩
  obtain ⟨n, en⟩ : ∃ q, q = es.length := ⟨_, rfl⟩
  obtain ⟨m, em⟩ : ∃ q, q = ps.length := ⟨_, rfl⟩
  obtain ⟨R, eR⟩ : ∃ q, q = P.root := ⟨_, rfl⟩
  have HOK2 := Lib.hid (pubOk_any _ _ es ps P w2 (HE0.out.fr HF2.out) (HP0.out.fr HF2.out) HOK.out.1.e (by have := HEN.out; omega) (by have := HPN.out; omega) HOK.out.1.p (HT.out.fr HF2.out) hP n m on 0 (by rw [hpe, en]) (by rw [hpp, em]) eon.symm (by rw [hps]; rfl))
  have HPE : Hid (P.ents = es) := Lib.hid hpe
  have HRT : Hid (R = rootL (textsE es)) := Lib.hid (by rw [eR, hpr])
  have HV : Hid (∀ e ∈ es, validB e = true) := Lib.hid (by have := hgood.2.1; rwa [hpe] at this)
  have HEs := Lib.hid (fun W (h : Fr [] w W) => HE0.out.fr h)
  have HTX := Lib.hid (fun W (h : Fr [] w W) => ctexts_any _ es W (HE0.out.fr h) (by have := HEN.out; omega) HOK.out.1.e)
  have HPs := Lib.hid (fun W (h : Fr [] w W) => HP0.out.fr h)
  have HSD : Hid ((seedS ps R).2 = 0) := Lib.hid (by have := hgood.2.2.2; rwa [hpp, ← eR] at this)
  have HPFE : Hid (∀ W v, PblR W v P → PblR W v P) := Lib.hid (fun _ _ h => h)
  have EN := Lib.hid en
  have EM := Lib.hid em
  have HN0 : Hid (0 < m) := Lib.hid (by have := HP0N.out; omega)
  have HN20 : Hid (m ≤ 20) := Lib.hid (by have := HPN.out; omega)
  have EON := Lib.hid eon
  have EPE := Lib.hid hpe
  have EPP := Lib.hid hpp
  have EPS := Lib.hid hps
  have EPO := Lib.hid hpo
  have HRL : Hid (P.root.length ≤ 16) := Lib.hid (by rw [hpr]; exact rootL_len (textsE es))
  have ER := Lib.hid eR
  rw [← eR] at HOK2
  rw [← en] at HEs HTX hea HOK2 ⊢
  rw [← em] at HPs HOK2 t2 hpa ⊢
  clear hP hgood hpe hpp hps hpo hpr en em eon eR
  go_wp2_with fail
  refine HOK2.out.mono ?_
  rintro e w3 ⟨ea, ec, pa, pc, oa, oc, sa, sc, rfl, g1, g2, g3, g4, hb⟩
  have HF3 := Lib.hid (HF2.out.below hb HF2.out.size)
  have HG1 := Lib.hid g1
  have HG2 := Lib.hid g2
  have HG3 := Lib.hid g3
  have HG4 := Lib.hid g4
  clear g1 g2 g3 g4 hb HOK2
  obtain ⟨W4, hW4⟩ : ∃ W, W = w3.alloc (.cells #[.slice ea n ec, .string ⟨R.toArray⟩, .slice pa m pc, .slice oa on oc, .slice sa 0 sc] 26) := ⟨_, rfl⟩
  obtain ⟨pb, epb⟩ : ∃ q, q = w3.heap.size := ⟨_, rfl⟩
  have hp4 : W4.heap[pb]? = some (.cells #[.slice ea n ec, .string ⟨R.toArray⟩, .slice pa m pc, .slice oa on oc, .slice sa 0 sc] 26 (0, 0)) := by rw [hW4]; exact heap_new epb
  have f34 : Fr [] w3 W4 := by rw [hW4]; exact (Fr.refl [] w3).alloc _
  have HF4 := Lib.hid (HF3.out.trans f34 (by simp))
  have HP4 := Lib.hid hp4
  have HGP4 : Hid (Pts W4 (.slice ea n ec) P.ents ∧ Zs W4 (.slice oa on oc) P.order ∧ Zs W4 (.slice sa 0 sc) P.served) := Lib.hid ⟨HG1.out.fr f34, HG3.out.fr0 f34, HG4.out.fr0 f34⟩
  have E4 := Lib.hid hW4
  have EPB := Lib.hid epb
  obtain ⟨i, ei⟩ : ∃ q, q = c % m := ⟨_, rfl⟩
  have q1 : IntKind.i64.wrap (c : Int) = (c : Int) := IntWalk.i64_in _ (by omega)
  have q3 : (c : Int).tmod (m : Int) = (i : Int) := by rw [Int.tmod_eq_emod_of_nonneg (by omega), ei]; rfl
  have hin : i < m := by rw [ei]; exact Nat.mod_lt _ HN0.out
  have q5 : IntKind.i64.wrap (i : Int) = (i : Int) := IntWalk.i64_in _ (by have := HN20.out; omega)
  have HIN := Lib.hid hin
  have i0 : (0 : Int) ≤ (i : Int) := by omega
  have i1 : (i : Int) < (m : Int) := by omega
  have q7 : ¬ m = 0 := by have := HN0.out; omega
  have q8 : ¬ (m : Int) = 0 := by have := HN0.out; omega
  have t3 : ((0 : Int) != 0) = false := by rfl
  obtain ⟨bp, op, rfl⟩ := hpa i hin
  obtain ⟨x, hx⟩ : ∃ x, ps[i]? = some x := ⟨_, List.getElem?_eq_getElem (by rw [← EM.out]; exact hin)⟩
  obtain ⟨x0, x1, x2⟩ := (HPs.out W4 HF4.out).cells i x hx
  have HXI := Lib.hid hx
  rw [hW4] at x0 x1 x2
  clear f34 hp4 hW4 epb ei hin hx hea
  by_cases hxt : x.rev = t
  case pos =>
    have t5 : (x.rev == t) = true := by rw [hxt]; simp
    clear hxt
    go_wp2_with fail
    go_ret
    exact ⟨rfl, ((HF3.out.alloc _).alloc _).toBelow (by simp)⟩
  have t5 : (x.rev == t) = false := by rw [beq_eq_false_iff_ne]; exact hxt
  have HXT := Lib.hid hxt
  clear hxt
  have HW7 : Hid (Fr [] w3 ((((w3.alloc (.cells #[.slice ea n ec, .string ⟨R.toArray⟩, .slice pa m pc, .slice oa on oc, .slice sa 0 sc] 26)).alloc (.cells #[.string ⟨x.name.toArray⟩, .string ⟨x.com.toArray⟩, .string ⟨x.rev.toArray⟩] 46)).alloc (.cells #[.slice ea n ec, .string ⟨R.toArray⟩, .slice pa m pc, .slice oa on oc, .slice sa 0 sc] 26)).alloc (.cells #[] 46))) := Lib.hid (((((Fr.refl [] w3).alloc _).alloc _).alloc _).alloc _)
  have HO7 : Hid (OwnQ (w3.heap.size + 3) ((((w3.alloc (.cells #[.slice ea n ec, .string ⟨R.toArray⟩, .slice pa m pc, .slice oa on oc, .slice sa 0 sc] 26)).alloc (.cells #[.string ⟨x.name.toArray⟩, .string ⟨x.com.toArray⟩, .string ⟨x.rev.toArray⟩] 46)).alloc (.cells #[.slice ea n ec, .string ⟨R.toArray⟩, .slice pa m pc, .slice oa on oc, .slice sa 0 sc] 26)).alloc (.cells #[] 46)) (.slice (some ⟨w3.heap.size + 1 + 1 + 1, 0, none⟩) 0 0) []) := Lib.hid (ownQ_emptyN (by omega) (by simp))
  have HR7a : Hid (((((w3.alloc (.cells #[.slice ea n ec, .string ⟨R.toArray⟩, .slice pa m pc, .slice oa on oc, .slice sa 0 sc] 26)).alloc (.cells #[.string ⟨x.name.toArray⟩, .string ⟨x.com.toArray⟩, .string ⟨x.rev.toArray⟩] 46)).alloc (.cells #[.slice ea n ec, .string ⟨R.toArray⟩, .slice pa m pc, .slice oa on oc, .slice sa 0 sc] 26)).alloc (.cells #[] 46)).heap[w3.heap.size]? = some (.cells #[.slice ea n ec, .string ⟨R.toArray⟩, .slice pa m pc, .slice oa on oc, .slice sa 0 sc] 26 (0, 0))) := Lib.hid (((((Fr.refl [] _).alloc (.cells #[.string ⟨x.name.toArray⟩, .string ⟨x.com.toArray⟩, .string ⟨x.rev.toArray⟩] 46)).alloc (.cells #[.slice ea n ec, .string ⟨R.toArray⟩, .slice pa m pc, .slice oa on oc, .slice sa 0 sc] 26)).alloc (.cells #[] 46)).at (heap_new rfl) (by simp))
  have HR7b : Hid (((((w3.alloc (.cells #[.slice ea n ec, .string ⟨R.toArray⟩, .slice pa m pc, .slice oa on oc, .slice sa 0 sc] 26)).alloc (.cells #[.string ⟨x.name.toArray⟩, .string ⟨x.com.toArray⟩, .string ⟨x.rev.toArray⟩] 46)).alloc (.cells #[.slice ea n ec, .string ⟨R.toArray⟩, .slice pa m pc, .slice oa on oc, .slice sa 0 sc] 26)).alloc (.cells #[] 46)).heap[w3.heap.size + 1]? = some (.cells #[.string ⟨x.name.toArray⟩, .string ⟨x.com.toArray⟩, .string ⟨x.rev.toArray⟩] 46 (0, 0))) := Lib.hid ((((Fr.refl [] _).alloc (.cells #[.slice ea n ec, .string ⟨R.toArray⟩, .slice pa m pc, .slice oa on oc, .slice sa 0 sc] 26)).alloc (.cells #[] 46)).at (heap_new (by simp)) (by simp))
  have HR7c : Hid (((((w3.alloc (.cells #[.slice ea n ec, .string ⟨R.toArray⟩, .slice pa m pc, .slice oa on oc, .slice sa 0 sc] 26)).alloc (.cells #[.string ⟨x.name.toArray⟩, .string ⟨x.com.toArray⟩, .string ⟨x.rev.toArray⟩] 46)).alloc (.cells #[.slice ea n ec, .string ⟨R.toArray⟩, .slice pa m pc, .slice oa on oc, .slice sa 0 sc] 26)).alloc (.cells #[] 46)).heap[w3.heap.size + 1 + 1]? = some (.cells #[.slice ea n ec, .string ⟨R.toArray⟩, .slice pa m pc, .slice oa on oc, .slice sa 0 sc] 26 (0, 0))) := Lib.hid (((Fr.refl [] _).alloc (.cells #[] 46)).at (heap_new (by simp)) (by simp))
  have HP7 : Hid (Pts ((((w3.alloc (.cells #[.slice ea n ec, .string ⟨R.toArray⟩, .slice pa m pc, .slice oa on oc, .slice sa 0 sc] 26)).alloc (.cells #[.string ⟨x.name.toArray⟩, .string ⟨x.com.toArray⟩, .string ⟨x.rev.toArray⟩] 46)).alloc (.cells #[.slice ea n ec, .string ⟨R.toArray⟩, .slice pa m pc, .slice oa on oc, .slice sa 0 sc] 26)).alloc (.cells #[] 46)) (.slice (some ⟨bp, op, none⟩) m pc0) ps) := Lib.hid (HPs.out _ (HF3.out.trans HW7.out (by simp)))
  have hsz : ((((w3.alloc (.cells #[.slice ea n ec, .string ⟨R.toArray⟩, .slice pa m pc, .slice oa on oc, .slice sa 0 sc] 26)).alloc (.cells #[.string ⟨x.name.toArray⟩, .string ⟨x.com.toArray⟩, .string ⟨x.rev.toArray⟩] 46)).alloc (.cells #[.slice ea n ec, .string ⟨R.toArray⟩, .slice pa m pc, .slice oa on oc, .slice sa 0 sc] 26)).alloc (.cells #[] 46)).heap.size = w3.heap.size + 4 := by simp
  have HSZ := Lib.hid hsz
  clear hsz
  go_wp2_with (at_builtin; go_loud (refine wpList_appQ rfl (.tmp 66) (.tmp 67) rfl (w3.heap.size + 3) (.slice (some ⟨w3.heap.size + 1 + 1 + 1, 0, none⟩) 0 0) (.slice (some ⟨bp, op, none⟩) m pc0) [] ps w3 rfl rfl (by exact HP7.out) (by exact HO7.out) (by exact HW7.out) (by exact Nat.le_add_right _ 3) (by exact Nat.le_trans (Nat.add_le_add_left (by decide : 3 ≤ 4) _) (Nat.le_of_eq HSZ.out.symm)) (by have := HPN.out; simp; omega) ?_))
  intro v8 w8 ho8 hf8 hx8
  obtain ⟨g, cp, cur, rfl, hgb, hgc, hg3, hg4, hg5, hg6⟩ : ∃ g cap cur, v8 = .slice (some ⟨g, 0, none⟩) m cap ∧ w3.heap.size + 3 ≤ g ∧ w8.heap[g]? = some (.cells cur 46 (0, 0)) ∧ m ≤ cap ∧ cap ≤ maxLen ∧ cur.size = cap * 3 ∧ cur.toList.take (m * 3) = ps.flatMap ptyCells := by
    rcases ho8.2 with ⟨_, h1⟩ | ⟨g, cap, cur, hv, hb, hg, h3, h4, h5, h6⟩
    · rw [← EM.out] at h1; have := HN0.out; omega
    · rw [← EM.out] at hv h3 h6; exact ⟨g, cap, cur, hv, hb, hg, h3, h4, h5, h6⟩
  have r8a := hx8.at HR7a.out (by simp [Value.ownBlock]; omega)
  have r8b := hx8.at HR7b.out (by simp [Value.ownBlock])
  have r8c := hx8.at HR7c.out (by simp [Value.ownBlock])
  have c0 := row_cell r8c 0
  have c1 := row_cell r8c 1
  have c2 := row_cell r8c 2
  have c3 := row_cell r8c 3
  have c4 := row_cell r8c 4
  have cf := row_free r8c 2
  simp at c0 c1 c2 c3 c4
  clear c0 c1 c3 c4
  obtain ⟨W9, hW9⟩ : ∃ W, W = w8.setCell ⟨w3.heap.size + 1 + 1, 2, none⟩ (.slice (some ⟨g, 0, none⟩) m cp) := ⟨_, rfl⟩
  have f89 : Fr [w3.heap.size + 1 + 1] w8 W9 := by rw [hW9]; exact (Fr.refl [w3.heap.size + 1 + 1] w8).setCell _ _ (by simp)
  have hgc9 := f89.at hgc (by simp; omega)
  have r9a := f89.at r8a (by simp; omega)
  have r9b := f89.at r8b (by simp)
  have r9c : W9.heap[w3.heap.size + 1 + 1]? = some (.cells #[.slice ea n ec, .string ⟨R.toArray⟩, .slice (some ⟨g, 0, none⟩) m cp, .slice oa on oc, .slice sa 0 sc] 26 (0, 0)) := by rw [hW9]; exact row_set r8c 2 _
  have hck : i * 3 + 2 < cur.size := by have := HIN.out; omega
  obtain ⟨W10, hW10⟩ : ∃ W, W = W9.setCell ⟨g, i * 3 + 2, none⟩ (.string ⟨t.toArray⟩) := ⟨_, rfl⟩
  have f910 : Fr [g] W9 W10 := by rw [hW10]; exact (Fr.refl [g] W9).setCell _ _ (by simp)
  have r10a := f910.at r9a (by simp; omega)
  have r10b := f910.at r9b (by simp; omega)
  have r10c := f910.at r9c (by simp; omega)
  have HQ10 : Hid (OwnQ (w3.heap.size + 3) W10 (.slice (some ⟨g, 0, none⟩) m cp) (ps.set i ⟨x.name, x.com, t⟩)) := Lib.hid (by rw [hW10]; exact ownQ_setJ hgb hgc9 hg3 hg4 hg5 hg6 EM.out.symm HXI.out (by decide) rfl)
  have F3W : Hid (Fr [] w3 W10) := Lib.hid ((hf8.trans f89 (fun y hy => Or.inr (by rw [List.mem_singleton.1 hy]; omega))).trans f910 (fun y hy => Or.inr (by rw [List.mem_singleton.1 hy]; omega)))
  have FW : Hid (Fr [] w W10) := Lib.hid (HF3.out.trans F3W.out (by simp))
  have e1 := row_cell hgc9 (i * 3 + 2)
  have e2 := row_free hgc9 (i * 3 + 2)
  rw [Array.getElem?_eq_getElem hck] at e1
  have d2 := row_cell r9c 2
  have k0 := row_cell r10c 0
  have k1 := row_cell r10c 1
  have k2 := row_cell r10c 2
  have k3 := row_cell r10c 3
  have k4 := row_cell r10c 4
  simp at d2 k0 k1 k2 k3 k4
  have HR10a := Lib.hid r10a
  have HR10b := Lib.hid r10b
  have HR10c := Lib.hid r10c
  have E10 := Lib.hid hW10
  rw [hW10] at k0 k1 k2 k3 k4
  rw [hW9] at k0 k1 k2 k3 k4 e1 e2 d2
  have E9 := Lib.hid hW9
  clear hW10 hW9 f89 f910 r9a r9b r9c r10a r10b r10c r8a r8b r8c hgc hgc9 ho8 hf8 hx8 HO7 HW7 HP7 HSZ HR7a HR7b HR7c x0 x1 x2 q1 q3 hgb hg3 hg4 hg5 hg6
  have HPB10 : Hid (PblR W10 (.agg #[.slice ea n ec, .string ⟨R.toArray⟩, .slice (some ⟨g, 0, none⟩) m cp, .slice oa on oc, .slice sa 0 sc]) ⟨P.ents, R, ps.set i ⟨x.name, x.com, t⟩, P.order, P.served⟩) := Lib.hid (by
    have f := F3W.out
    exact ⟨_, _, _, _, rfl, HG1.out.fr f, HQ10.out.pts, HG3.out.fr0 f, HG4.out.fr0 f⟩)
  go_wp2_with fail
  rw [← E9.out, ← E10.out]
  have HPS10 : PblS ⟨P.ents, R, ps.set i ⟨x.name, x.com, t⟩, P.order, P.served⟩ := by
    have h := HOK.out.1
    have hcl : (clsL es).length ≤ 1000 := by have h1 := clsL_len es; have h2 := HEN.out; omega
    have h16 := HRL.out
    rw [EPE.out, EPS.out, EPO.out, ER.out]
    have hwl := wantI_len (clsL es) P
    refine ⟨h.e, h.en, fun q hq => ?_, by simp only [List.length_set]; exact h.pn, by simp only; omega, by simp only; omega, fun k hk => wantI_in hcl k hk, by simp, fun k hk => by cases hk⟩
    rcases List.mem_or_eq_of_mem_set hq with h1 | h1
    · exact h.p q h1
    · have hx := h.p x (List.mem_of_getElem? HXI.out)
      have ht := HTN.out
      rw [h1]
      exact ⟨hx.1, by simp only; omega⟩
  refine (check20_any _ _ W10 HPB10.out HPS10 (HT.out.fr FW.out)).mono ?_
  rintro e w11 ⟨cv, rfl, hcv, hb⟩
  obtain ⟨FL, eFL, ha⟩ : ∃ FL, FL = checkS (clsL P.ents) ⟨P.ents, R, ps.set i ⟨x.name, x.com, t⟩, P.order, P.served⟩ ∧ Ads w11 cv FL := ⟨_, rfl, hcv⟩
  have HFL := Lib.hid eFL
  have HA11 := Lib.hid ha
  obtain ⟨la, lc, rfl, hl8, hl9, hla⟩ := ha.form
  obtain ⟨ln, eln⟩ : ∃ q, q = FL.length := ⟨_, rfl⟩
  rw [← eln] at hla hl8 HA11 ⊢
  have ELN := Lib.hid eln
  have f11 := Fr.ofBelow (X := []) hb
  have HF11 := Lib.hid (FW.out.trans f11 (by simp))
  have HX11 := Lib.hid f11
  clear hb f11 hcv ha eFL eln HPS10 k0 k1 k2 k3 k4 d2 e1 e2 E9 E10
  go_wp2_with fail
  go_loopg [16, 17] (ln + 1) (fun gh fd j wr => ∃ q : Nat, q ≤ ln ∧ gh = ln + 1 - q ∧ j = .int .i64 (q : Int) ∧ fd = .bool (fndB (i : Int) FL q) ∧ Fr [] w11 wr)
  case atStart => exact ⟨0, by omega, by omega, rfl, rfl, Fr.refl _ _⟩
  case round =>
    obtain ⟨q, hq, hgq, rfl, rfl, hfq⟩ := hrel
    have HGQ := Lib.hid hgq
    have HFQ := Lib.hid hfq
    clear hgq hfq
    obtain ⟨fd, efd⟩ : ∃ r, r = fndB (i : Int) FL q := ⟨_, rfl⟩
    rw [← efd]
    have HFD := Lib.hid efd
    clear efd
    by_cases hltq : q < ln
    · have t6 : decide ((q : Int) < (ln : Int)) = true := by simp; omega
      obtain ⟨ab, ao, rfl⟩ := hla q hltq
      obtain ⟨z, hz⟩ : ∃ z, FL[q]? = some z := ⟨FL[q]'(by rw [← ELN.out]; exact hltq), List.getElem?_eq_getElem _⟩
      obtain ⟨z0, z1, z2⟩ := (HA11.out.fr HFQ.out).cells q z hz
      have HSU : Hid (fndB (i : Int) FL (q + 1) = (fd || (z.kind == 4 && z.a == (i : Int)))) := Lib.hid (by rw [fndB_succ _ _ hz, HFD.out])
      have j0 : (0 : Int) ≤ (q : Int) := by omega
      have j1 : (q : Int) < (ln : Int) := by omega
      clear hz hla
      obtain ⟨zk, ezk⟩ : ∃ r, r = (z.kind == 4) := ⟨_, rfl⟩
      obtain ⟨za, eza⟩ : ∃ r, r = (z.a == (i : Int)) := ⟨_, rfl⟩
      rw [← ezk, ← eza] at HSU
      have t7 := ezk.symm
      have t8 := eza.symm
      clear ezk eza
      cases fd <;> cases zk <;> cases za <;>
        (go_wp2_with fail
         go_roundg (ln + 1 - (q + 1))
         case measure => have := HGQ.out; omega
         case rel => exact ⟨q + 1, by omega, rfl, by go_num, by rw [HSU.out]; rfl, HFQ.out⟩)
    · obtain rfl : ln = q := by omega
      have t6 : decide ((ln : Int) < (ln : Int)) = false := by simp
      go_wp2_with fail
      have HF12 := Lib.hid (HF11.out.trans HFQ.out (by simp))
      have HX12 := Lib.hid (HX11.out.trans HFQ.out (by simp))
      have HNM : Hid (x.name.length ≤ 1000000 ∧ x.rev.length ≤ 1000000 ∧ t.length ≤ 1000000) := Lib.hid (by have h := HOK.out.1.p x (List.mem_of_getElem? HXI.out); have := HTN.out; exact ⟨h.1, h.2, by omega⟩)
      have HGX : Hid (ps.getD i zP = x) := Lib.hid (by rw [List.getD_eq_getElem?_getD, HXI.out]; rfl)
      have HL1 := Lib.hid (fun W v (hf : Fr [] wr W) (h : Strs W v [x.name, x.rev]) => list_any v [x.name, x.rev] W h (two_join x.name x.rev HNM.out.1 HNM.out.2.1) (HT.out.fr (HF12.out.trans hf (by simp))))
      have HL2 := Lib.hid (fun W v (hf : Fr [] wr W) (h : Strs W v [x.name, t]) => list_any v [x.name, t] W h (two_join x.name t HNM.out.1 HNM.out.2.2) (HT.out.fr (HF12.out.trans hf (by simp))))
      have HPF : Hid (dlist [x.name, x.rev] ≠ dlist [x.name, t] → fd = true) := Lib.hid (fun hne => by
        have hm := party_found (o := clsL P.ents) (p := ⟨P.ents, R, ps.set i ⟨x.name, x.com, t⟩, P.order, P.served⟩) (l := ps) (i := i) (t := t) HSD.out (by rw [← EM.out]; exact HIN.out) (by unfold revP; rw [HGX.out]) (by rw [HGX.out]; exact hne)
        rw [← HFL.out] at hm
        rw [HFD.out]
        unfold fndB
        rw [ELN.out, List.take_length]
        exact List.any_eq_true.2 ⟨_, hm, by simp⟩)
      obtain ⟨D1, eD1⟩ : ∃ q, q = dlist [x.name, x.rev] := ⟨_, rfl⟩
      obtain ⟨D2, eD2⟩ : ∃ q, q = dlist [x.name, t] := ⟨_, rfl⟩
      rw [← eD1] at HL1 HPF
      rw [← eD2] at HL2 HPF
      have ED2 := Lib.hid eD2
      obtain ⟨cb, ecb⟩ : ∃ q, q = (D1 == D2) := ⟨_, rfl⟩
      have hcb := ecb.symm
      have HOR : Hid (fd = true ∨ (fd = false ∧ cb = true)) := Lib.hid (by
        by_cases hd : D1 = D2
        · cases hfd : fd with
          | true => exact Or.inl rfl
          | false => exact Or.inr ⟨rfl, by rw [ecb, hd]; simp⟩
        · exact Or.inl (HPF.out hd))
      have r12 := HX12.out.at HR10b.out (by simp)
      have n0 := row_cell r12 0
      have n2 := row_cell r12 2
      simp at n0 n2
      clear r12 ecb eD1 eD2 hla hl8 hl9 q5 q7 q8 t1 t2 t3 t5
      have gp0 : Fr [] wr wr.drew := (Fr.refl [] wr).drew
      have hSp0 : Fr [] wr wr.drew := gp0
      refine region_held 100 (fun W' => Fr [] wr W') hmx ?_
      change Held _ _ _ _ _ _ 13 (Array.replicate 13 false) _ _
      refine hd_take 0 (v := .pointer (some ⟨w3.heap.size + 1, 0, none⟩)) rfl (by kernel_rfl) (by kernel_rfl) (by kernel_rfl) rfl hSp0 (fun W' hS => by go_simp) rfl ?_
      refine hd_take 2 (v := .pointer (some ⟨w3.heap.size + 1, 2, none⟩)) rfl (by kernel_rfl) (by kernel_rfl) (by kernel_rfl) rfl hSp0 (fun W' hS => by go_simp) rfl ?_
      refine hd_take 6 (v := .pointer (some ⟨w3.heap.size + 1, 0, none⟩)) rfl (by kernel_rfl) (by kernel_rfl) (by kernel_rfl) rfl hSp0 (fun W' hS => by go_simp) rfl ?_
      refine hd_take 8 (v := .string ⟨t.toArray⟩) rfl (by kernel_rfl) (by kernel_rfl) (by kernel_rfl) rfl hSp0 (fun W' hS => by go_simp) rfl ?_
      try simp only [Act.put, List.setIfInBounds_toArray, List.set_cons_zero, List.set_cons_succ]
      refine hd_take 1 (v := .string ⟨x.name.toArray⟩) rfl (by kernel_rfl) (by kernel_rfl) (by kernel_rfl) rfl hSp0 (fun W' hS => by have s0 := hS.cell n0 (by simp); go_simp) rfl ?_
      refine hd_take 3 (v := .string ⟨x.rev.toArray⟩) rfl (by kernel_rfl) (by kernel_rfl) (by kernel_rfl) rfl hSp0 (fun W' hS => by have s0 := hS.cell n2 (by simp); go_simp) rfl ?_
      refine hd_take 7 (v := .string ⟨x.name.toArray⟩) rfl (by kernel_rfl) (by kernel_rfl) (by kernel_rfl) rfl hSp0 (fun W' hS => by have s0 := hS.cell n0 (by simp); go_simp) rfl ?_
      try simp only [Act.put, List.setIfInBounds_toArray, List.set_cons_zero, List.set_cons_succ]
      refine held_key 106 107 111 #[true, true, true, true, true, true, true, true, true, true, false, false, false] (fun a1 a2 a3 W' => (∃ g, a1 = .slice (some ⟨g, 0, none⟩) 2 2) ∧ a2 = .string ⟨D1.toArray⟩ ∧ (∃ g, a3 = .slice (some ⟨g, 0, none⟩) 2 2 ∧ Strs W' (.slice (some ⟨g, 0, none⟩) 2 2) [x.name, t]) ∧ Fr [] wr W') (fuel' := 3) (fun key => ?_) (fun a1 a2 a3 kA hR => ?_)
      · refine held_two_g 4 9 (by kernel_rfl) rfl rfl (by kernel_rfl) (by kernel_rfl) (fun K' hK => ?_) (fun K' hK => ?_)
        · go_simp
          refine hK.out _ _ (fun _ => gp0.alloc _) ?_
          clear hK K'
          refine held_two_g 5 9 (by kernel_rfl) rfl rfl (by kernel_rfl) (by kernel_rfl) (fun K' hK => ?_) (fun K' hK => ?_)
          · go_simp
            refine (HL1.out (wr.drew.alloc (.cells #[.string ⟨x.name.toArray⟩, .string ⟨x.rev.toArray⟩] 9)) _ (gp0.alloc _) (strs_two (heap_new rfl))).mono ?_
            rintro e x1 ⟨rfl, hb⟩
            have gA : Fr [] wr x1 := (gp0.alloc _).below hb (gp0.alloc _).size
            refine hK.out _ _ (fun _ => gA) ?_
            clear hK K'
            refine held_one_g 9 (by kernel_rfl) rfl (by kernel_rfl) rfl (fun K' hK => ?_)
            go_simp
            refine hK.out _ _ (fun _ => gA.alloc _) ?_
            clear hK K'
            have hk := key (.slice (some ⟨wr.drew.heap.size, 0, none⟩) 2 2) (.string ⟨D1.toArray⟩) (.slice (some ⟨x1.heap.size, 0, none⟩) 2 2) (x1.alloc (.cells #[.string ⟨x.name.toArray⟩, .string ⟨t.toArray⟩] 9)) ⟨⟨_, rfl⟩, rfl, ⟨_, rfl, strs_two (heap_new rfl)⟩, gA.alloc _⟩
            exact held_same hk (by kernel_rfl) (by kernel_rfl)
          · go_simp
            refine hK.out _ _ (fun _ => (gp0.alloc _).alloc _) ?_
            clear hK K'
            refine held_one_g 5 (by kernel_rfl) rfl (by kernel_rfl) rfl (fun K' hK => ?_)
            go_simp
            refine (HL1.out ((wr.drew.alloc (.cells #[.string ⟨x.name.toArray⟩, .string ⟨x.rev.toArray⟩] 9)).alloc (.cells #[.string ⟨x.name.toArray⟩, .string ⟨t.toArray⟩] 9)) _ ((gp0.alloc _).alloc _) ((Strs.fr0 (strs_two (heap_new rfl)) ((Fr.refl [] (wr.drew.alloc (.cells #[.string ⟨x.name.toArray⟩, .string ⟨x.rev.toArray⟩] 9))).alloc _)))).mono ?_
            rintro e x1 ⟨rfl, hb⟩
            have gA : Fr [] wr x1 := ((gp0.alloc _).alloc _).below hb ((gp0.alloc _).alloc _).size
            refine hK.out _ _ (fun _ => gA) ?_
            clear hK K'
            have hk := key (.slice (some ⟨wr.drew.heap.size, 0, none⟩) 2 2) (.string ⟨D1.toArray⟩) (.slice (some ⟨(wr.drew.heap.size + 1), 0, none⟩) 2 2) x1 ⟨⟨_, rfl⟩, rfl, ⟨_, rfl, Strs.fr0 (strs_two (heap_new (by simp))) (Fr.ofBelow hb)⟩, gA⟩
            exact held_same hk (by kernel_rfl) (by kernel_rfl)
        · go_simp
          refine hK.out _ _ (fun _ => gp0.alloc _) ?_
          clear hK K'
          refine held_one_g 4 (by kernel_rfl) rfl (by kernel_rfl) rfl (fun K' hK => ?_)
          go_simp
          refine hK.out _ _ (fun _ => (gp0.alloc _).alloc _) ?_
          clear hK K'
          refine held_one_g 5 (by kernel_rfl) rfl (by kernel_rfl) rfl (fun K' hK => ?_)
          go_simp
          refine (HL1.out ((wr.drew.alloc (.cells #[.string ⟨x.name.toArray⟩, .string ⟨t.toArray⟩] 9)).alloc (.cells #[.string ⟨x.name.toArray⟩, .string ⟨x.rev.toArray⟩] 9)) _ ((gp0.alloc _).alloc _) (strs_two (heap_new (by simp)))).mono ?_
          rintro e x1 ⟨rfl, hb⟩
          have gA : Fr [] wr x1 := ((gp0.alloc _).alloc _).below hb ((gp0.alloc _).alloc _).size
          refine hK.out _ _ (fun _ => gA) ?_
          clear hK K'
          have hk := key (.slice (some ⟨(wr.drew.heap.size + 1), 0, none⟩) 2 2) (.string ⟨D1.toArray⟩) (.slice (some ⟨wr.drew.heap.size, 0, none⟩) 2 2) x1 ⟨⟨_, rfl⟩, rfl, ⟨_, rfl, Strs.fr0 (Strs.fr0 (strs_two (heap_new rfl)) ((Fr.refl [] (wr.drew.alloc (.cells #[.string ⟨x.name.toArray⟩, .string ⟨t.toArray⟩] 9))).alloc _)) (Fr.ofBelow hb)⟩, gA⟩
          exact held_same hk (by kernel_rfl) (by kernel_rfl)
      obtain ⟨⟨gA, rfl⟩, rfl, ⟨ggA, rfl, hyA⟩, gkA⟩ := hR
      try simp only [List.setIfInBounds_toArray, List.set_cons_zero, List.set_cons_succ]
      refine hd_one 10 (by kernel_rfl) rfl (by kernel_rfl) rfl (fun K' hK => ?_)
      go_simp
      refine (HL2.out kA _ gkA hyA).mono ?_
      rintro e yp1 ⟨rfl, hbb⟩
      have gp1 : Fr [] wr yp1 := gkA.below hbb gkA.size
      clear hbb
      have hSp1 : Fr [] wr yp1 := gp1
      refine hK.out _ _ (fun _ => hSp1) ?_
      clear hK K'
      try simp only [List.setIfInBounds_toArray, List.set_cons_zero, List.set_cons_succ]
      refine hd_take 11 (v := .bool cb) rfl (by kernel_rfl) (by kernel_rfl) (by kernel_rfl) rfl hSp1 (fun W' hS => by go_simp) rfl ?_
      try simp only [Act.put, List.setIfInBounds_toArray, List.set_cons_zero, List.set_cons_succ]
      refine hd_one 12 (by kernel_rfl) rfl (by kernel_rfl) rfl (fun K' hK => ?_)
      go_simp
      refine hK.out _ _ (fun _ => hSp1) ?_
      clear hK K'
      refine held_done (by kernel_rfl) ?_
      have HF13 := Lib.hid (HF12.out.trans gp1 (by simp))
      have HX13 := Lib.hid (HX12.out.trans gp1 (by simp))
      obtain ⟨W13, eW13⟩ : ∃ W, W = yp1 := ⟨_, rfl⟩
      rw [← eW13] at HF13 HX13 ⊢
      clear eW13 gp0 n0 n2 hcb HL1 HL2 HPF hyA gkA
      rcases HOR.out with rfl | ⟨rfl, rfl⟩
      all_goals
        clear HOR
        go_wp2_with fail
        have HPSL : Hid ((ps.set i ⟨x.name, x.com, t⟩).length = m) := Lib.hid (by rw [List.length_set, EM.out])
        have HQ13 := Lib.hid (HQ10.out.fr HX13.out (by simp))
        have r13b := HX13.out.at HR10b.out (by simp)
        have r13q := HX13.out.at HR10c.out (by simp)
        have n0 := row_cell r13b 0
        have q2 := row_cell r13q 2
        simp at n0 q2
        have HR13q := Lib.hid r13q
        clear r13b r13q
        have HPC := Lib.hid (fun W (h : Fr [] W13 W) => party_any x.name t W HNM.out.1 HNM.out.2.2 (HT.out.fr (HF13.out.trans h (by simp))))
        unfold ptyV partyS at HPC
        simp only at HPC
        rw [← ED2.out] at HPC
        have gq0 : Fr [] W13 W13.drew := (Fr.refl [] W13).drew
        have hSq0 : Fr [] W13 W13.drew := gq0
        refine region_held 8 (fun W' => Fr [] W13 W') hmx ?_
        change Held _ _ _ _ _ _ 9 (Array.replicate 9 false) _ _
        refine hd_take 0 (v := .pointer (some ⟨w3.heap.size + 1 + 1, 2, none⟩)) rfl (by kernel_rfl) (by kernel_rfl) (by kernel_rfl) rfl hSq0 (fun W' hS => by go_simp) rfl ?_
        refine hd_take 2 (v := .int .i64 (i : Int)) rfl (by kernel_rfl) (by kernel_rfl) (by kernel_rfl) rfl hSq0 (fun W' hS => by go_simp) rfl ?_
        refine hd_take 3 (v := .pointer (some ⟨w3.heap.size + 1, 0, none⟩)) rfl (by kernel_rfl) (by kernel_rfl) (by kernel_rfl) rfl hSq0 (fun W' hS => by go_simp) rfl ?_
        refine hd_take 5 (v := .string ⟨t.toArray⟩) rfl (by kernel_rfl) (by kernel_rfl) (by kernel_rfl) rfl hSq0 (fun W' hS => by go_simp) rfl ?_
        try simp only [Act.put, List.setIfInBounds_toArray, List.set_cons_zero, List.set_cons_succ]
        refine hd_take 1 (v := .slice (some ⟨g, 0, none⟩) m cp) rfl (by kernel_rfl) (by kernel_rfl) (by kernel_rfl) rfl hSq0 (fun W' hS => by have s0 := hS.cell q2 (by simp); go_simp) rfl ?_
        refine hd_take 4 (v := .string ⟨x.name.toArray⟩) rfl (by kernel_rfl) (by kernel_rfl) (by kernel_rfl) rfl hSq0 (fun W' hS => by have s0 := hS.cell n0 (by simp); go_simp) rfl ?_
        try simp only [Act.put, List.setIfInBounds_toArray, List.set_cons_zero, List.set_cons_succ]
        refine hd_one 6 (by kernel_rfl) rfl (by kernel_rfl) rfl (fun K' hK => ?_)
        go_simp
        refine (HPC.out W13.drew gq0).mono ?_
        rintro e yq1 ⟨rfl, hbb⟩
        have gq1 : Fr [] W13 yq1 := gq0.below hbb gq0.size
        clear hbb
        have hSq1 : Fr [] W13 yq1 := gq1
        refine hK.out _ _ (fun _ => hSq1) ?_
        clear hK K'
        try simp only [Act.put, List.setIfInBounds_toArray, List.set_cons_zero, List.set_cons_succ]
        refine hd_take 7 (v := .pointer (some ⟨g, i * 3, none⟩)) rfl (by kernel_rfl) (by kernel_rfl) (by kernel_rfl) rfl hSq1 (fun W' hS => by go_simp) rfl ?_
        try simp only [Act.put, List.setIfInBounds_toArray, List.set_cons_zero, List.set_cons_succ]
        obtain ⟨cur, hgb, hgc, hg3, hg4, hg5, hg6⟩ := (HQ13.out.fr gq1 (by simp)).rows HPSL.out HN0.out
        have hgq := hgb
        have hk0 : i * 3 < cur.size := by have := HIN.out; omega
        have hk1 : i * 3 + 1 < cur.size := by have := HIN.out; omega
        have hk2 : i * 3 + 2 < cur.size := by have := HIN.out; omega
        have s0 := row_cell hgc (i * 3)
        have z0 := row_free hgc (i * 3)
        rw [Array.getElem?_eq_getElem hk0] at s0
        have hg1 := row_set hgc (i * 3) (.string ⟨x.name.toArray⟩)
        have s1 := row_cell hg1 (i * 3 + 1)
        have z1 := row_free hg1 (i * 3 + 1)
        rw [Array.getElem?_eq_getElem (by rw [Array.size_setIfInBounds]; exact hk1)] at s1
        have hg2 := row_set hg1 (i * 3 + 1) (.string ⟨D2.toArray⟩)
        have s2 := row_cell hg2 (i * 3 + 2)
        have z2 := row_free hg2 (i * 3 + 2)
        rw [Array.getElem?_eq_getElem (by rw [Array.size_setIfInBounds, Array.size_setIfInBounds]; exact hk2)] at s2
        obtain ⟨W14, eW14⟩ : ∃ W, W = ((yq1.setCell ⟨g, i * 3, none⟩ (.string ⟨x.name.toArray⟩)).setCell ⟨g, i * 3 + 1, none⟩ (.string ⟨D2.toArray⟩)).setCell ⟨g, i * 3 + 2, none⟩ (.string ⟨t.toArray⟩) := ⟨_, rfl⟩
        have HQ14 : Hid (OwnQ (w3.heap.size + 3) W14 (.slice (some ⟨g, 0, none⟩) m cp) ((ps.set i ⟨x.name, x.com, t⟩).set i ⟨x.name, D2, t⟩)) := Lib.hid (by rw [eW14]; exact ownQ_set3 (HQ13.out.fr gq1 (by simp)) HPSL.out (List.getElem?_set_self (by rw [← EM.out]; exact HIN.out)) ⟨x.name, D2, t⟩)
        have HG14 : Hid (Fr [g] W13 W14) := Lib.hid (by rw [eW14]; exact (((gq1.mono (Y := [g]) (fun _ hx => by cases hx)).setCell _ _ (by simp)).setCell _ _ (by simp)).setCell _ _ (by simp))
        have HGB : Hid (w3.heap.size + 3 ≤ g) := Lib.hid hgb
        have E14 := Lib.hid eW14
        clear eW14 hgc hg1 hg2 hgb hgq hg3 hg4 hg5 hg6
        refine hd_one 8 (by kernel_rfl) rfl (by kernel_rfl) rfl (fun K' hK => ?_)
        go_simp
        refine hK.out _ _ (fun h => absurd rfl h) ?_
        clear hK K'
        refine held_done (by kernel_rfl) ?_
        rw [← E14.out]
        have HNP : Hid ((ps.set i ⟨x.name, x.com, t⟩).set i ⟨x.name, D2, t⟩ = newP ps i t) := Lib.hid (by unfold newP; rw [List.set_set, HGX.out, ED2.out])
        have hq14 := HQ14.out
        rw [HNP.out] at hq14
        have HP14 := Lib.hid hq14.pts
        clear hq14
        have f313 : Fr [] w3 W14 := (F3W.out.trans HX13.out (by simp)).trans HG14.out (fun y hy => Or.inr (by rw [List.mem_singleton.1 hy]; have := HGB.out; omega))
        have HF14 := Lib.hid (HF3.out.trans f313 (by simp))
        have r14q := HG14.out.at HR13q.out (by have := HGB.out; simp; omega)
        have r14p := HG14.out.at (HX13.out.at HR10a.out (by simp)) (by have := HGB.out; simp; omega)
        have HR14q := Lib.hid r14q
        have HR14p := Lib.hid r14p
        have q2 := row_cell r14q 2
        simp at q2
        have HS16 : Hid (ps.length ≤ 16) := Lib.hid (seed_ok HSD.out).1
        have HPSM : Hid (∀ y ∈ ps, y.name.length ≤ 1000000 ∧ y.rev.length ≤ 1000000) := Lib.hid HOK.out.1.p
        have HNSM : Hid (∀ y ∈ newP ps i t, y.name.length ≤ 1000000 ∧ y.rev.length ≤ 1000000) := Lib.hid (fun y hy => by
          unfold newP at hy
          rcases List.mem_or_eq_of_mem_set hy with h1 | h1
          · exact HPSM.out y h1
          · rw [h1, HGX.out]
            exact ⟨HNM.out.1, HNM.out.2.2⟩)
        have HNL : Hid ((newP ps i t).length = m) := Lib.hid (by unfold newP; rw [List.length_set, EM.out])
        have hp2 := pub_mk (o := clsL es) (es := es) (ps := newP ps i t) (by have := HEN.out; omega) HV.out (by rw [← HRT.out]; exact party_new HSD.out (by rw [← EM.out]; exact HIN.out) t)
        rw [← HRT.out] at hp2
        obtain ⟨OR, eOR⟩ : ∃ q, q = (orderO (clsL es) (seedS (newP ps i t) R).1).map Int.ofNat := ⟨_, rfl⟩
        rw [← eOR] at hp2
        obtain ⟨rn, ern⟩ : ∃ q, q = OR.length := ⟨_, rfl⟩
        have HK2 := Lib.hid (fun W (h : Fr [] w W) (hq : Pts W (.slice (some ⟨g, 0, none⟩) m cp) (newP ps i t)) => pubOk_any _ _ es (newP ps i t) ⟨es, R, newP ps i t, OR, []⟩ W (HE0.out.fr h) hq HOK.out.1.e (by have := HEN.out; omega) (by rw [HNL.out]; have := HN20.out; omega) HNSM.out (HT.out.fr h) hp2 n m rn 0 EN.out.symm HNL.out ern.symm rfl)
        simp only at HK2
        rw [← EN.out] at HK2
        clear hp2 eOR ern r14q r14p f313 i0 i1
        go_wp2_with fail
        refine (HK2.out W14 HF14.out HP14.out).mono ?_
        rintro e w15 ⟨ea5, ec5, pa5, pc5, oa5, oc5, sa5, sc5, rfl, _, _, _, _, hb⟩
        have f15 := Fr.ofBelow (X := []) hb
        have HF15 := Lib.hid (HF14.out.trans f15 (by simp))
        have HP15 := Lib.hid (HP14.out.fr f15)
        obtain ⟨W16, hW16⟩ : ∃ W, W = w15.alloc (.cells #[.slice ea5 n ec5, .string ⟨R.toArray⟩, .slice pa5 m pc5, .slice oa5 rn oc5, .slice sa5 0 sc5] 26) := ⟨_, rfl⟩
        obtain ⟨rb, erb⟩ : ∃ q, q = w15.heap.size := ⟨_, rfl⟩
        have f16 : Fr [] w15 W16 := by rw [hW16]; exact (Fr.refl [] w15).alloc _
        have hr16 : W16.heap[rb]? = some (.cells #[.slice ea5 n ec5, .string ⟨R.toArray⟩, .slice pa5 m pc5, .slice oa5 rn oc5, .slice sa5 0 sc5] 26 (0, 0)) := by rw [hW16]; exact heap_new erb
        have HRB := Lib.hid hr16
        have HF16 := Lib.hid (HF15.out.trans f16 (by simp))
        have HP16 := Lib.hid (HP15.out.fr f16)
        have HR16q := Lib.hid ((f15.trans f16 (by simp)).at HR14q.out (by simp))
        have HR16p := Lib.hid ((f15.trans f16 (by simp)).at HR14p.out (by simp))
        have k1 := row_cell HR16p.out 1
        simp at k1
        have k2 := ((Fr.refl [] W16).alloc (.cells #[.string ⟨R.toArray⟩] 9)).cell k1 (by simp)
        have HSZ16 : Hid (w15.heap.size + 1 = W16.heap.size) := Lib.hid (by rw [hW16]; simp)
        have E16 := Lib.hid hW16
        rw [hW16] at k1 k2
        have ERB := Lib.hid erb
        clear hb f15 f16 hr16 hW16 erb q2 HK2
        go_wp2_with fail
        rw [← E16.out, ← ERB.out]
        clear k1 k2
        go_loopg [21, 22, 23] (m + 1) (fun gh ov tv kv wr => ∃ q : Nat, q ≤ m ∧ gh = m + 1 - q ∧ kv = .int .i64 (q : Int) ∧ DuoS W16 wr ov tv (textsS R (ps.take q)) (textsS R ((newP ps i t).take q)))
        case atStart =>
          have e1 : W16.heap.size = rb + 1 := by have := HSZ16.out; have := ERB.out; omega
          have h1 : OwnS W16.heap.size (W16.alloc (.cells #[.string ⟨R.toArray⟩] 9)) (.slice (some ⟨rb + 1, 0, none⟩) 1 1) [R] := by rw [← e1]; exact OwnS.one (Nat.le_refl _)
          have h2 : OwnS W16.heap.size ((W16.alloc (.cells #[.string ⟨R.toArray⟩] 9)).alloc (.cells #[.string ⟨R.toArray⟩] 9)) (.slice (some ⟨rb + 1 + 1, 0, none⟩) 1 1) [R] := by
            have e2 : (W16.alloc (.cells #[.string ⟨R.toArray⟩] 9)).heap.size = rb + 1 + 1 := by rw [← e1]; simp
            rw [← e2]
            exact OwnS.one (by simp)
          refine ⟨0, by omega, by omega, rfl, ?_⟩
          rw [List.take_zero, List.take_zero]
          exact ⟨h1.fr ((Fr.refl [] _).alloc _) (by simp), h2, fun k hk hk2 => by simp [Value.ownBlock] at hk hk2; omega, ((Fr.refl [] W16).alloc _).alloc _⟩
        case round =>
          obtain ⟨q, hq, hgq, rfl, hdu⟩ := hrel
          have HGQ2 := Lib.hid hgq
          have HDU := Lib.hid hdu
          clear hgq hdu
          have hm20 : m ≤ 20 := HN20.out
          by_cases hlt : q < m
          · have t7 : decide ((q : Int) < (m : Int)) = true := by simp; omega
            obtain ⟨y, hy⟩ : ∃ y, ps[q]? = some y := ⟨ps[q]'(by rw [← EM.out]; exact hlt), List.getElem?_eq_getElem _⟩
            obtain ⟨z, hz⟩ : ∃ y, (newP ps i t)[q]? = some y := ⟨(newP ps i t)[q]'(by rw [HNL.out]; exact hlt), List.getElem?_eq_getElem _⟩
            obtain ⟨p0, _, p2⟩ := (HPs.out W16 HF16.out).cells q y hy
            obtain ⟨r0, _, r2⟩ := HP16.out.cells q z hz
            simp only [Nat.zero_add] at r0 r2
            have q2 := row_cell HR16q.out 2
            simp at q2
            have HTY := Lib.hid (texts_snoc R ps q y hy)
            have HTZ := Lib.hid (texts_snoc R (newP ps i t) q z hz)
            have HLL : Hid ((textsS R (ps.take q)).length ≤ 100000) := Lib.hid (by rw [texts_length, List.length_take]; have := HN20.out; omega)
            have HLM : Hid ((textsS R ((newP ps i t).take q)).length ≤ 100000) := Lib.hid (by rw [texts_length, List.length_take]; have := HN20.out; omega)
            generalize textsS R (ps.take q) = L at HDU HTY HLL
            generalize textsS R ((newP ps i t).take q) = M at HDU HTZ HLM
            have i0 : (0 : Int) ≤ (q : Int) := by omega
            have i1 : (q : Int) < (m : Int) := by omega
            clear hy hz
            go_wp2_with fail
            have ga0 : Fr [] W16 wr.drew := HDU.out.f.drew
            refine region_held 100 (fun W' => Fr [] W16 W') hmx ?_
            change Held _ _ _ _ _ _ 14 (Array.replicate 14 false) _ _
            refine hd_take 0 (v := u21) rfl (by kernel_rfl) (by kernel_rfl) (by kernel_rfl) rfl ga0 (fun W' hS => by go_simp) rfl ?_
            refine hd_take 1 (v := .slice (some ⟨bp, op, none⟩) m pc0) rfl (by kernel_rfl) (by kernel_rfl) (by kernel_rfl) rfl ga0 (fun W' hS => by go_simp) rfl ?_
            refine hd_take 2 (v := .int .i64 (q : Int)) rfl (by kernel_rfl) (by kernel_rfl) (by kernel_rfl) rfl ga0 (fun W' hS => by go_simp) rfl ?_
            refine hd_take 6 (v := .slice (some ⟨bp, op, none⟩) m pc0) rfl (by kernel_rfl) (by kernel_rfl) (by kernel_rfl) rfl ga0 (fun W' hS => by go_simp) rfl ?_
            refine hd_take 7 (v := .int .i64 (q : Int)) rfl (by kernel_rfl) (by kernel_rfl) (by kernel_rfl) rfl ga0 (fun W' hS => by go_simp) rfl ?_
            try simp only [Act.put, List.setIfInBounds_toArray, List.set_cons_zero, List.set_cons_succ]
            refine hd_take 3 (v := .pointer (some ⟨bp, op + q * 3, none⟩)) rfl (by kernel_rfl) (by kernel_rfl) (by kernel_rfl) rfl ga0 (fun W' hS => by go_simp) rfl ?_
            refine hd_take 8 (v := .pointer (some ⟨bp, op + q * 3, none⟩)) rfl (by kernel_rfl) (by kernel_rfl) (by kernel_rfl) rfl ga0 (fun W' hS => by go_simp) rfl ?_
            try simp only [Act.put, List.setIfInBounds_toArray, List.set_cons_zero, List.set_cons_succ]
            refine hd_take 4 (v := .pointer (some ⟨bp, op + q * 3, none⟩)) rfl (by kernel_rfl) (by kernel_rfl) (by kernel_rfl) rfl ga0 (fun W' hS => by go_simp) rfl ?_
            refine hd_take 9 (v := .pointer (some ⟨bp, op + q * 3 + 2, none⟩)) rfl (by kernel_rfl) (by kernel_rfl) (by kernel_rfl) rfl ga0 (fun W' hS => by go_simp) rfl ?_
            try simp only [Act.put, List.setIfInBounds_toArray, List.set_cons_zero, List.set_cons_succ]
            refine hd_take 5 (v := .string ⟨y.name.toArray⟩) rfl (by kernel_rfl) (by kernel_rfl) (by kernel_rfl) rfl ga0 (fun W' hS => by have s0 := hS.cell p0 (by simp); go_simp) rfl ?_
            refine hd_take 10 (v := .string ⟨y.rev.toArray⟩) rfl (by kernel_rfl) (by kernel_rfl) (by kernel_rfl) rfl ga0 (fun W' hS => by have s0 := hS.cell p2 (by simp); go_simp) rfl ?_
            try simp only [Act.put, List.setIfInBounds_toArray, List.set_cons_zero, List.set_cons_succ]
            refine hd_one 11 (by kernel_rfl) rfl (by kernel_rfl) rfl (fun K' hK => ?_)
            go_simp
            have ga1 := ga0.alloc (.cells #[.string ⟨y.name.toArray⟩, .string ⟨y.rev.toArray⟩] 9)
            have hSa1 : Fr [] W16 (wr.drew.alloc (.cells #[.string ⟨y.name.toArray⟩, .string ⟨y.rev.toArray⟩] 9)) := ga1
            refine hK.out _ _ (fun _ => hSa1) ?_
            clear hK K'
            try simp only [Act.put, List.setIfInBounds_toArray, List.set_cons_zero, List.set_cons_succ]
            have HDA := Lib.hid (HDU.out.ofFr (((Fr.refl [] wr).drew).alloc (.cells #[.string ⟨y.name.toArray⟩, .string ⟨y.rev.toArray⟩] 9)))
            refine hd_one 12 (by kernel_rfl) rfl (by kernel_rfl) rfl (fun K' hK => ?_)
            refine wp_appSn (.tmp 147) (.tmp 158) rfl W16.heap.size u21 L [y.name, y.rev] wr.heap.size 0 2 2 (by kernel_rfl) (by kernel_rfl) rfl (strs_two (heap_new rfl)) HDA.out.l HDA.out.f.size (by have := HLL.out; omega) ?_
            intro yv w5 hoy hfo hat
            have HDX := Lib.hid (HDA.out.left hoy hfo hat)
            have ga2 := HDX.out.f
            clear hoy hfo hat
            refine hK.out _ _ (fun _ => ga2) ?_
            clear hK K'
            try simp only [Act.put, List.setIfInBounds_toArray, List.set_cons_zero, List.set_cons_succ]
            refine hd_one 13 (by kernel_rfl) rfl (by kernel_rfl) rfl (fun K' hK => ?_)
            go_simp
            refine hK.out _ _ (fun _ => ga2) ?_
            clear hK K'
            refine held_done (by kernel_rfl) ?_
            go_wp2_with fail
            have gb0 : Fr [] W16 w5.drew := HDX.out.f.drew
            refine region_held 100 (fun W' => Fr [] W16 W') hmx ?_
            change Held _ _ _ _ _ _ 16 (Array.replicate 16 false) _ _
            refine hd_take 0 (v := u22) rfl (by kernel_rfl) (by kernel_rfl) (by kernel_rfl) rfl gb0 (fun W' hS => by go_simp) rfl ?_
            refine hd_take 1 (v := .pointer (some ⟨w3.heap.size + 1 + 1, 2, none⟩)) rfl (by kernel_rfl) (by kernel_rfl) (by kernel_rfl) rfl gb0 (fun W' hS => by go_simp) rfl ?_
            refine hd_take 3 (v := .int .i64 (q : Int)) rfl (by kernel_rfl) (by kernel_rfl) (by kernel_rfl) rfl gb0 (fun W' hS => by go_simp) rfl ?_
            refine hd_take 7 (v := .pointer (some ⟨w3.heap.size + 1 + 1, 2, none⟩)) rfl (by kernel_rfl) (by kernel_rfl) (by kernel_rfl) rfl gb0 (fun W' hS => by go_simp) rfl ?_
            refine hd_take 9 (v := .int .i64 (q : Int)) rfl (by kernel_rfl) (by kernel_rfl) (by kernel_rfl) rfl gb0 (fun W' hS => by go_simp) rfl ?_
            try simp only [Act.put, List.setIfInBounds_toArray, List.set_cons_zero, List.set_cons_succ]
            refine hd_take 2 (v := .slice (some ⟨g, 0, none⟩) m cp) rfl (by kernel_rfl) (by kernel_rfl) (by kernel_rfl) rfl gb0 (fun W' hS => by have s0 := hS.cell q2 (by simp); go_simp) rfl ?_
            refine hd_take 8 (v := .slice (some ⟨g, 0, none⟩) m cp) rfl (by kernel_rfl) (by kernel_rfl) (by kernel_rfl) rfl gb0 (fun W' hS => by have s0 := hS.cell q2 (by simp); go_simp) rfl ?_
            try simp only [Act.put, List.setIfInBounds_toArray, List.set_cons_zero, List.set_cons_succ]
            refine hd_take 4 (v := .pointer (some ⟨g, q * 3, none⟩)) rfl (by kernel_rfl) (by kernel_rfl) (by kernel_rfl) rfl gb0 (fun W' hS => by go_simp) rfl ?_
            refine hd_take 10 (v := .pointer (some ⟨g, q * 3, none⟩)) rfl (by kernel_rfl) (by kernel_rfl) (by kernel_rfl) rfl gb0 (fun W' hS => by go_simp) rfl ?_
            try simp only [Act.put, List.setIfInBounds_toArray, List.set_cons_zero, List.set_cons_succ]
            refine hd_take 5 (v := .pointer (some ⟨g, q * 3, none⟩)) rfl (by kernel_rfl) (by kernel_rfl) (by kernel_rfl) rfl gb0 (fun W' hS => by go_simp) rfl ?_
            refine hd_take 11 (v := .pointer (some ⟨g, q * 3 + 2, none⟩)) rfl (by kernel_rfl) (by kernel_rfl) (by kernel_rfl) rfl gb0 (fun W' hS => by go_simp) rfl ?_
            try simp only [Act.put, List.setIfInBounds_toArray, List.set_cons_zero, List.set_cons_succ]
            refine hd_take 6 (v := .string ⟨z.name.toArray⟩) rfl (by kernel_rfl) (by kernel_rfl) (by kernel_rfl) rfl gb0 (fun W' hS => by have s0 := hS.cell r0 (by simp); go_simp) rfl ?_
            refine hd_take 12 (v := .string ⟨z.rev.toArray⟩) rfl (by kernel_rfl) (by kernel_rfl) (by kernel_rfl) rfl gb0 (fun W' hS => by have s0 := hS.cell r2 (by simp); go_simp) rfl ?_
            try simp only [Act.put, List.setIfInBounds_toArray, List.set_cons_zero, List.set_cons_succ]
            refine hd_one 13 (by kernel_rfl) rfl (by kernel_rfl) rfl (fun K' hK => ?_)
            go_simp
            have gb1 := gb0.alloc (.cells #[.string ⟨z.name.toArray⟩, .string ⟨z.rev.toArray⟩] 9)
            have hSb1 : Fr [] W16 (w5.drew.alloc (.cells #[.string ⟨z.name.toArray⟩, .string ⟨z.rev.toArray⟩] 9)) := gb1
            refine hK.out _ _ (fun _ => hSb1) ?_
            clear hK K'
            try simp only [Act.put, List.setIfInBounds_toArray, List.set_cons_zero, List.set_cons_succ]
            have HDB := Lib.hid (HDX.out.ofFr (((Fr.refl [] w5).drew).alloc (.cells #[.string ⟨z.name.toArray⟩, .string ⟨z.rev.toArray⟩] 9)))
            refine hd_one 14 (by kernel_rfl) rfl (by kernel_rfl) rfl (fun K' hK => ?_)
            refine wp_appSn (.tmp 160) (.tmp 173) rfl W16.heap.size u22 M [z.name, z.rev] w5.heap.size 0 2 2 (by kernel_rfl) (by kernel_rfl) rfl (strs_two (heap_new rfl)) HDB.out.r HDB.out.f.size (by have := HLM.out; omega) ?_
            intro zv w6 hoy hfo hat
            have HDY := Lib.hid (HDB.out.right hoy hfo hat)
            have gb2 := HDY.out.f
            clear hoy hfo hat
            refine hK.out _ _ (fun _ => gb2) ?_
            clear hK K'
            try simp only [Act.put, List.setIfInBounds_toArray, List.set_cons_zero, List.set_cons_succ]
            refine hd_one 15 (by kernel_rfl) rfl (by kernel_rfl) rfl (fun K' hK => ?_)
            go_simp
            refine hK.out _ _ (fun _ => gb2) ?_
            clear hK K'
            refine held_done (by kernel_rfl) ?_
            go_wp2_with fail
            go_roundg (m + 1 - (q + 1))
            case measure => have := HGQ2.out; omega
            case rel => exact ⟨q + 1, by omega, rfl, by go_num, by rw [HTY.out, HTZ.out]; exact HDY.out⟩
          · obtain rfl : m = q := by omega
            have t7 : decide ((m : Int) < (m : Int)) = false := by simp
            have HD : Hid (DuoS W16 wr u21 u22 (textsS R ps) (textsS R (newP ps i t))) := Lib.hid (by
              have h := HDU.out
              rwa [List.take_of_length_le (by rw [EM.out]; exact Nat.le_refl _), List.take_of_length_le (by rw [HNL.out]; exact Nat.le_refl _)] at h)
            clear HDU
            obtain ⟨WE, hWE⟩ : ∃ W : World, W = wr := ⟨_, rfl⟩
            rw [← hWE] at HD ⊢
            have HWE : Hid (Fr [] W16 WE) := Lib.hid HD.out.f
            have HWE0 : Hid (Fr [] w WE) := Lib.hid (HF16.out.trans HD.out.f (by simp))
            have hRL : R.length ≤ 1000000 := by rw [ER.out]; have := HRL.out; omega
            have hNS : (newP ps i t).length ≤ 16 := by rw [HNL.out, EM.out]; exact HS16.out
            have HLA := Lib.hid (fun W (h : Fr [] WE W) => list_any u21 (textsS R ps) W (HD.out.l.strs.fr0 h) (texts_join hRL HPSM.out HS16.out) (HT.out.fr (HWE0.out.trans h (by simp))))
            have HLB := Lib.hid (fun W (h : Fr [] WE W) => list_any u22 (textsS R (newP ps i t)) W (HD.out.r.strs.fr0 h) (texts_join hRL HNSM.out hNS) (HT.out.fr (HWE0.out.trans h (by simp))))
            have HJA := Lib.hid (fun W (h : Fr [] WE W) => rjoined_any u21 (textsS R ps) W (HD.out.l.strs.fr0 h) (texts_cap hRL HPSM.out HS16.out))
            have HJB := Lib.hid (fun W (h : Fr [] WE W) => rjoined_any u22 (textsS R (newP ps i t)) W (HD.out.r.strs.fr0 h) (texts_cap hRL HNSM.out hNS))
            have HNE : Hid (joinL (textsS R ps) ≠ joinL (textsS R (newP ps i t))) := Lib.hid (fun h => texts_new (by rw [← EM.out]; exact HIN.out) (by rw [HGX.out]; exact HXT.out) (joinL_inj h))
            generalize dlist (textsS R ps) = D3 at HLA
            generalize dlist (textsS R (newP ps i t)) = D4 at HLB
            generalize joinL (textsS R ps) = J3 at HJA HNE
            generalize joinL (textsS R (newP ps i t)) = J4 at HJB HNE
            have HRR := Lib.hid (fun W v (h : Strs W v (textsE es)) => rroot_any v (textsE es) W h (by unfold textsE; rw [List.length_map]; have := HEN.out; omega) (textsE_len es))
            rw [← HRT.out] at HRR
            have tR : (R == R) = true := by simp
            have hb1 := HWE.out.at HRB.out (by simp)
            have hp1 := HWE.out.at HR16p.out (by simp)
            have b1 := row_cell hb1 1
            have p1 := row_cell hp1 1
            simp at b1 p1
            clear hWE hRL hNS hb1 hp1
            go_wp2_with fail
            refine (HLA.out WE (Fr.refl _ _)).mono ?_
            rintro e w20 ⟨rfl, hb⟩
            have HF20 := Lib.hid (Fr.ofBelow (X := []) hb)
            clear hb
            go_wp2_with fail
            refine (HLB.out w20 HF20.out).mono ?_
            rintro e w21 ⟨rfl, hb⟩
            have HF21 := Lib.hid (HF20.out.below hb HF20.out.size)
            clear hb
            by_cases hd : D3 = D4
            · have t8 : (D3 == D4) = true := by rw [hd]; simp
              have t9 : (D3 != D4) = false := by rw [hd]; simp
              have t10 : (J3 == J4) = false := beq_eq_false_iff_ne.2 HNE.out
              have t11 : (J3 != J4) = true := bne_iff_ne.2 HNE.out
              clear hd
              go_wp2_with fail
              refine (HJA.out w21 HF21.out).mono ?_
              rintro e w22 ⟨rfl, hb⟩
              have HF22 := Lib.hid (HF21.out.below hb HF21.out.size)
              clear hb
              go_wp2_with fail
              refine (HJB.out w22 HF22.out).mono ?_
              rintro e WX ⟨rfl, hb⟩
              have HFX := Lib.hid (HF22.out.below hb HF22.out.size)
              clear hb
              go_wp2_with fail
              have ge0 : Fr [] WE WX.drew := HFX.out.drew
              refine region_held 100 (fun W' => Fr [] WE W') hmx ?_
              change Held _ _ _ _ _ _ 31 (Array.replicate 31 false) _ _
              refine hd_take 0 (v := .bool true) rfl (by kernel_rfl) (by kernel_rfl) (by kernel_rfl) rfl ge0 (fun W' hS => by go_simp) rfl ?_
              try simp only [Act.put, List.setIfInBounds_toArray, List.set_cons_zero, List.set_cons_succ]
              refine hd_take 1 (v := .bool true) rfl (by kernel_rfl) (by kernel_rfl) (by kernel_rfl) rfl ge0 (fun W' hS => by go_simp) rfl ?_
              try simp only [Act.put, List.setIfInBounds_toArray, List.set_cons_zero, List.set_cons_succ]
              refine hd_take 2 (v := .int .i64 0) rfl (by kernel_rfl) (by kernel_rfl) (by kernel_rfl) rfl ge0 (fun W' hS => by go_simp) rfl ?_
              try simp only [Act.put, List.setIfInBounds_toArray, List.set_cons_zero, List.set_cons_succ]
              refine hd_take 3 (v := .bool true) rfl (by kernel_rfl) (by kernel_rfl) (by kernel_rfl) rfl ge0 (fun W' hS => by go_simp) rfl ?_
              try simp only [Act.put, List.setIfInBounds_toArray, List.set_cons_zero, List.set_cons_succ]
              refine hd_take 4 (v := .bool true) rfl (by kernel_rfl) (by kernel_rfl) (by kernel_rfl) rfl ge0 (fun W' hS => by go_simp) rfl ?_
              try simp only [Act.put, List.setIfInBounds_toArray, List.set_cons_zero, List.set_cons_succ]
              refine hd_take 5 (v := .bool true) rfl (by kernel_rfl) (by kernel_rfl) (by kernel_rfl) rfl ge0 (fun W' hS => by go_simp) rfl ?_
              try simp only [Act.put, List.setIfInBounds_toArray, List.set_cons_zero, List.set_cons_succ]
              refine hd_take 6 (v := .pointer (some ⟨rb, 1, none⟩)) rfl (by kernel_rfl) (by kernel_rfl) (by kernel_rfl) rfl ge0 (fun W' hS => by go_simp) rfl ?_
              refine hd_take 8 (v := .pointer (some ⟨w3.heap.size, 1, none⟩)) rfl (by kernel_rfl) (by kernel_rfl) (by kernel_rfl) rfl ge0 (fun W' hS => by go_simp) rfl ?_
              try simp only [Act.put, List.setIfInBounds_toArray, List.set_cons_zero, List.set_cons_succ]
              refine hd_take 7 (v := .string ⟨R.toArray⟩) rfl (by kernel_rfl) (by kernel_rfl) (by kernel_rfl) rfl ge0 (fun W' hS => by have s0 := hS.cell b1 (by simp); go_simp) rfl ?_
              refine hd_take 9 (v := .string ⟨R.toArray⟩) rfl (by kernel_rfl) (by kernel_rfl) (by kernel_rfl) rfl ge0 (fun W' hS => by have s0 := hS.cell p1 (by simp); go_simp) rfl ?_
              try simp only [Act.put, List.setIfInBounds_toArray, List.set_cons_zero, List.set_cons_succ]
              refine hd_take 10 (v := .bool true) rfl (by kernel_rfl) (by kernel_rfl) (by kernel_rfl) rfl ge0 (fun W' hS => by go_simp) rfl ?_
              try simp only [Act.put, List.setIfInBounds_toArray, List.set_cons_zero, List.set_cons_succ]
              refine hd_take 11 (v := .bool true) rfl (by kernel_rfl) (by kernel_rfl) (by kernel_rfl) rfl ge0 (fun W' hS => by go_simp) rfl ?_
              try simp only [Act.put, List.setIfInBounds_toArray, List.set_cons_zero, List.set_cons_succ]
              refine hd_take 12 (v := .bool true) rfl (by kernel_rfl) (by kernel_rfl) (by kernel_rfl) rfl ge0 (fun W' hS => by go_simp) rfl ?_
              try simp only [Act.put, List.setIfInBounds_toArray, List.set_cons_zero, List.set_cons_succ]
              refine hd_take 13 (v := u21) rfl (by kernel_rfl) (by kernel_rfl) (by kernel_rfl) rfl ge0 (fun W' hS => by go_simp) rfl ?_
              refine hd_take 15 (v := u22) rfl (by kernel_rfl) (by kernel_rfl) (by kernel_rfl) rfl ge0 (fun W' hS => by go_simp) rfl ?_
              try simp only [Act.put, List.setIfInBounds_toArray, List.set_cons_zero, List.set_cons_succ]
              refine hd_one 14 (by kernel_rfl) rfl (by kernel_rfl) rfl (fun K' hK => ?_)
              go_simp
              refine (HLA.out WX.drew ge0).mono ?_
              rintro e ye1 ⟨rfl, hbb⟩
              have ge1 : Fr [] WE ye1 := ge0.below hbb ge0.size
              clear hbb
              have hSe1 : Fr [] WE ye1 := ge1
              refine hK.out _ _ (fun _ => hSe1) ?_
              clear hK K'
              try simp only [Act.put, List.setIfInBounds_toArray, List.set_cons_zero, List.set_cons_succ]
              refine hd_one 16 (by kernel_rfl) rfl (by kernel_rfl) rfl (fun K' hK => ?_)
              go_simp
              refine (HLB.out ye1 ge1).mono ?_
              rintro e ye2 ⟨rfl, hbb⟩
              have ge2 : Fr [] WE ye2 := ge1.below hbb ge1.size
              clear hbb
              have hSe2 : Fr [] WE ye2 := ge2
              refine hK.out _ _ (fun _ => hSe2) ?_
              clear hK K'
              try simp only [Act.put, List.setIfInBounds_toArray, List.set_cons_zero, List.set_cons_succ]
              refine hd_take 17 (v := .bool false) rfl (by kernel_rfl) (by kernel_rfl) (by kernel_rfl) rfl hSe2 (fun W' hS => by go_simp) rfl ?_
              try simp only [Act.put, List.setIfInBounds_toArray, List.set_cons_zero, List.set_cons_succ]
              refine hd_take 18 (v := .bool false) rfl (by kernel_rfl) (by kernel_rfl) (by kernel_rfl) rfl hSe2 (fun W' hS => by go_simp) rfl ?_
              try simp only [Act.put, List.setIfInBounds_toArray, List.set_cons_zero, List.set_cons_succ]
              refine hd_take 19 (v := .bool true) rfl (by kernel_rfl) (by kernel_rfl) (by kernel_rfl) rfl hSe2 (fun W' hS => by go_simp) rfl ?_
              try simp only [Act.put, List.setIfInBounds_toArray, List.set_cons_zero, List.set_cons_succ]
              refine hd_take 20 (v := .bool true) rfl (by kernel_rfl) (by kernel_rfl) (by kernel_rfl) rfl hSe2 (fun W' hS => by go_simp) rfl ?_
              try simp only [Act.put, List.setIfInBounds_toArray, List.set_cons_zero, List.set_cons_succ]
              refine hd_take 21 (v := .bool true) rfl (by kernel_rfl) (by kernel_rfl) (by kernel_rfl) rfl hSe2 (fun W' hS => by go_simp) rfl ?_
              try simp only [Act.put, List.setIfInBounds_toArray, List.set_cons_zero, List.set_cons_succ]
              refine hd_take 22 (v := .bool true) rfl (by kernel_rfl) (by kernel_rfl) (by kernel_rfl) rfl hSe2 (fun W' hS => by go_simp) rfl ?_
              try simp only [Act.put, List.setIfInBounds_toArray, List.set_cons_zero, List.set_cons_succ]
              refine hd_take 23 (v := .slice ea0 n ec0) rfl (by kernel_rfl) (by kernel_rfl) (by kernel_rfl) rfl hSe2 (fun W' hS => by go_simp) rfl ?_
              refine hd_take 26 (v := .pointer (some ⟨w3.heap.size, 1, none⟩)) rfl (by kernel_rfl) (by kernel_rfl) (by kernel_rfl) rfl hSe2 (fun W' hS => by go_simp) rfl ?_
              try simp only [Act.put, List.setIfInBounds_toArray, List.set_cons_zero, List.set_cons_succ]
              refine hd_take 27 (v := .string ⟨R.toArray⟩) rfl (by kernel_rfl) (by kernel_rfl) (by kernel_rfl) rfl hSe2 (fun W' hS => by have s0 := hS.cell p1 (by simp); go_simp) rfl ?_
              try simp only [Act.put, List.setIfInBounds_toArray, List.set_cons_zero, List.set_cons_succ]
              refine hd_one 24 (by kernel_rfl) rfl (by kernel_rfl) rfl (fun K' hK => ?_)
              go_simp
              refine (HTX.out ye2 (HWE0.out.trans ge2 (by simp))).mono ?_
              rintro e ye3 ⟨tv, rfl, hto, hbb⟩
              have ge3 : Fr [] WE ye3 := ge2.below hbb ge2.size
              have HTO := Lib.hid hto.strs
              clear hto
              clear hbb
              have hSe3 : Fr [] WE ye3 := ge3
              refine hK.out _ _ (fun _ => hSe3) ?_
              clear hK K'
              try simp only [Act.put, List.setIfInBounds_toArray, List.set_cons_zero, List.set_cons_succ]
              refine hd_one 25 (by kernel_rfl) rfl (by kernel_rfl) rfl (fun K' hK => ?_)
              go_simp
              refine (HRR.out ye3 _ HTO.out).mono ?_
              rintro e ye4 ⟨rfl, hbb⟩
              have ge4 : Fr [] WE ye4 := ge3.below hbb ge3.size
              clear hbb
              have hSe4 : Fr [] WE ye4 := ge4
              refine hK.out _ _ (fun _ => hSe4) ?_
              clear hK K'
              try simp only [Act.put, List.setIfInBounds_toArray, List.set_cons_zero, List.set_cons_succ]
              refine hd_take 28 (v := .bool true) rfl (by kernel_rfl) (by kernel_rfl) (by kernel_rfl) rfl hSe4 (fun W' hS => by go_simp) rfl ?_
              try simp only [Act.put, List.setIfInBounds_toArray, List.set_cons_zero, List.set_cons_succ]
              refine hd_take 29 (v := .bool true) rfl (by kernel_rfl) (by kernel_rfl) (by kernel_rfl) rfl hSe4 (fun W' hS => by go_simp) rfl ?_
              try simp only [Act.put, List.setIfInBounds_toArray, List.set_cons_zero, List.set_cons_succ]
              refine hd_one 30 (by kernel_rfl) rfl (by kernel_rfl) rfl (fun K' hK => ?_)
              go_simp
              refine hK.out _ _ (fun _ => hSe4) ?_
              clear hK K'
              refine held_done (by kernel_rfl) ?_
              have HFE := Lib.hid (HWE0.out.trans ge4 (by simp))
              go_wp2_with fail
              go_ret
              exact ⟨rfl, HFE.out.toBelow (by simp)⟩
            · have t8 : (D3 == D4) = false := beq_eq_false_iff_ne.2 hd
              have t9 : (D3 != D4) = true := bne_iff_ne.2 hd
              clear hd
              obtain ⟨WX, hWX⟩ : ∃ W : World, W = w21 := ⟨_, rfl⟩
              have HFX : Hid (Fr [] WE WX) := Lib.hid (by rw [hWX]; exact HF21.out)
              rw [← hWX]
              clear hWX
              go_wp2_with fail
              have ge0 : Fr [] WE WX.drew := HFX.out.drew
              refine region_held 100 (fun W' => Fr [] WE W') hmx ?_
              change Held _ _ _ _ _ _ 31 (Array.replicate 31 false) _ _
              refine hd_take 0 (v := .bool true) rfl (by kernel_rfl) (by kernel_rfl) (by kernel_rfl) rfl ge0 (fun W' hS => by go_simp) rfl ?_
              try simp only [Act.put, List.setIfInBounds_toArray, List.set_cons_zero, List.set_cons_succ]
              refine hd_take 1 (v := .bool true) rfl (by kernel_rfl) (by kernel_rfl) (by kernel_rfl) rfl ge0 (fun W' hS => by go_simp) rfl ?_
              try simp only [Act.put, List.setIfInBounds_toArray, List.set_cons_zero, List.set_cons_succ]
              refine hd_take 2 (v := .int .i64 0) rfl (by kernel_rfl) (by kernel_rfl) (by kernel_rfl) rfl ge0 (fun W' hS => by go_simp) rfl ?_
              try simp only [Act.put, List.setIfInBounds_toArray, List.set_cons_zero, List.set_cons_succ]
              refine hd_take 3 (v := .bool true) rfl (by kernel_rfl) (by kernel_rfl) (by kernel_rfl) rfl ge0 (fun W' hS => by go_simp) rfl ?_
              try simp only [Act.put, List.setIfInBounds_toArray, List.set_cons_zero, List.set_cons_succ]
              refine hd_take 4 (v := .bool true) rfl (by kernel_rfl) (by kernel_rfl) (by kernel_rfl) rfl ge0 (fun W' hS => by go_simp) rfl ?_
              try simp only [Act.put, List.setIfInBounds_toArray, List.set_cons_zero, List.set_cons_succ]
              refine hd_take 5 (v := .bool true) rfl (by kernel_rfl) (by kernel_rfl) (by kernel_rfl) rfl ge0 (fun W' hS => by go_simp) rfl ?_
              try simp only [Act.put, List.setIfInBounds_toArray, List.set_cons_zero, List.set_cons_succ]
              refine hd_take 6 (v := .pointer (some ⟨rb, 1, none⟩)) rfl (by kernel_rfl) (by kernel_rfl) (by kernel_rfl) rfl ge0 (fun W' hS => by go_simp) rfl ?_
              refine hd_take 8 (v := .pointer (some ⟨w3.heap.size, 1, none⟩)) rfl (by kernel_rfl) (by kernel_rfl) (by kernel_rfl) rfl ge0 (fun W' hS => by go_simp) rfl ?_
              try simp only [Act.put, List.setIfInBounds_toArray, List.set_cons_zero, List.set_cons_succ]
              refine hd_take 7 (v := .string ⟨R.toArray⟩) rfl (by kernel_rfl) (by kernel_rfl) (by kernel_rfl) rfl ge0 (fun W' hS => by have s0 := hS.cell b1 (by simp); go_simp) rfl ?_
              refine hd_take 9 (v := .string ⟨R.toArray⟩) rfl (by kernel_rfl) (by kernel_rfl) (by kernel_rfl) rfl ge0 (fun W' hS => by have s0 := hS.cell p1 (by simp); go_simp) rfl ?_
              try simp only [Act.put, List.setIfInBounds_toArray, List.set_cons_zero, List.set_cons_succ]
              refine hd_take 10 (v := .bool true) rfl (by kernel_rfl) (by kernel_rfl) (by kernel_rfl) rfl ge0 (fun W' hS => by go_simp) rfl ?_
              try simp only [Act.put, List.setIfInBounds_toArray, List.set_cons_zero, List.set_cons_succ]
              refine hd_take 11 (v := .bool true) rfl (by kernel_rfl) (by kernel_rfl) (by kernel_rfl) rfl ge0 (fun W' hS => by go_simp) rfl ?_
              try simp only [Act.put, List.setIfInBounds_toArray, List.set_cons_zero, List.set_cons_succ]
              refine hd_take 12 (v := .bool true) rfl (by kernel_rfl) (by kernel_rfl) (by kernel_rfl) rfl ge0 (fun W' hS => by go_simp) rfl ?_
              try simp only [Act.put, List.setIfInBounds_toArray, List.set_cons_zero, List.set_cons_succ]
              refine hd_take 13 (v := u21) rfl (by kernel_rfl) (by kernel_rfl) (by kernel_rfl) rfl ge0 (fun W' hS => by go_simp) rfl ?_
              refine hd_take 15 (v := u22) rfl (by kernel_rfl) (by kernel_rfl) (by kernel_rfl) rfl ge0 (fun W' hS => by go_simp) rfl ?_
              try simp only [Act.put, List.setIfInBounds_toArray, List.set_cons_zero, List.set_cons_succ]
              refine hd_one 14 (by kernel_rfl) rfl (by kernel_rfl) rfl (fun K' hK => ?_)
              go_simp
              refine (HLA.out WX.drew ge0).mono ?_
              rintro e ye1 ⟨rfl, hbb⟩
              have ge1 : Fr [] WE ye1 := ge0.below hbb ge0.size
              clear hbb
              have hSe1 : Fr [] WE ye1 := ge1
              refine hK.out _ _ (fun _ => hSe1) ?_
              clear hK K'
              try simp only [Act.put, List.setIfInBounds_toArray, List.set_cons_zero, List.set_cons_succ]
              refine hd_one 16 (by kernel_rfl) rfl (by kernel_rfl) rfl (fun K' hK => ?_)
              go_simp
              refine (HLB.out ye1 ge1).mono ?_
              rintro e ye2 ⟨rfl, hbb⟩
              have ge2 : Fr [] WE ye2 := ge1.below hbb ge1.size
              clear hbb
              have hSe2 : Fr [] WE ye2 := ge2
              refine hK.out _ _ (fun _ => hSe2) ?_
              clear hK K'
              try simp only [Act.put, List.setIfInBounds_toArray, List.set_cons_zero, List.set_cons_succ]
              refine hd_take 17 (v := .bool true) rfl (by kernel_rfl) (by kernel_rfl) (by kernel_rfl) rfl hSe2 (fun W' hS => by go_simp) rfl ?_
              try simp only [Act.put, List.setIfInBounds_toArray, List.set_cons_zero, List.set_cons_succ]
              refine hd_take 18 (v := .bool true) rfl (by kernel_rfl) (by kernel_rfl) (by kernel_rfl) rfl hSe2 (fun W' hS => by go_simp) rfl ?_
              try simp only [Act.put, List.setIfInBounds_toArray, List.set_cons_zero, List.set_cons_succ]
              refine hd_skip 19 rfl (by kernel_rfl) (by kernel_rfl) (by kernel_rfl) rfl hSe2 rfl ?_
              try simp only [Act.put, List.setIfInBounds_toArray, List.set_cons_zero, List.set_cons_succ]
              refine hd_take 20 (v := .bool true) rfl (by kernel_rfl) (by kernel_rfl) (by kernel_rfl) rfl hSe2 (fun W' hS => by go_simp) rfl ?_
              try simp only [Act.put, List.setIfInBounds_toArray, List.set_cons_zero, List.set_cons_succ]
              refine hd_take 21 (v := .bool true) rfl (by kernel_rfl) (by kernel_rfl) (by kernel_rfl) rfl hSe2 (fun W' hS => by go_simp) rfl ?_
              try simp only [Act.put, List.setIfInBounds_toArray, List.set_cons_zero, List.set_cons_succ]
              refine hd_take 22 (v := .bool true) rfl (by kernel_rfl) (by kernel_rfl) (by kernel_rfl) rfl hSe2 (fun W' hS => by go_simp) rfl ?_
              try simp only [Act.put, List.setIfInBounds_toArray, List.set_cons_zero, List.set_cons_succ]
              refine hd_take 23 (v := .slice ea0 n ec0) rfl (by kernel_rfl) (by kernel_rfl) (by kernel_rfl) rfl hSe2 (fun W' hS => by go_simp) rfl ?_
              refine hd_take 26 (v := .pointer (some ⟨w3.heap.size, 1, none⟩)) rfl (by kernel_rfl) (by kernel_rfl) (by kernel_rfl) rfl hSe2 (fun W' hS => by go_simp) rfl ?_
              try simp only [Act.put, List.setIfInBounds_toArray, List.set_cons_zero, List.set_cons_succ]
              refine hd_take 27 (v := .string ⟨R.toArray⟩) rfl (by kernel_rfl) (by kernel_rfl) (by kernel_rfl) rfl hSe2 (fun W' hS => by have s0 := hS.cell p1 (by simp); go_simp) rfl ?_
              try simp only [Act.put, List.setIfInBounds_toArray, List.set_cons_zero, List.set_cons_succ]
              refine hd_one 24 (by kernel_rfl) rfl (by kernel_rfl) rfl (fun K' hK => ?_)
              go_simp
              refine (HTX.out ye2 (HWE0.out.trans ge2 (by simp))).mono ?_
              rintro e ye3 ⟨tv, rfl, hto, hbb⟩
              have ge3 : Fr [] WE ye3 := ge2.below hbb ge2.size
              have HTO := Lib.hid hto.strs
              clear hto
              clear hbb
              have hSe3 : Fr [] WE ye3 := ge3
              refine hK.out _ _ (fun _ => hSe3) ?_
              clear hK K'
              try simp only [Act.put, List.setIfInBounds_toArray, List.set_cons_zero, List.set_cons_succ]
              refine hd_one 25 (by kernel_rfl) rfl (by kernel_rfl) rfl (fun K' hK => ?_)
              go_simp
              refine (HRR.out ye3 _ HTO.out).mono ?_
              rintro e ye4 ⟨rfl, hbb⟩
              have ge4 : Fr [] WE ye4 := ge3.below hbb ge3.size
              clear hbb
              have hSe4 : Fr [] WE ye4 := ge4
              refine hK.out _ _ (fun _ => hSe4) ?_
              clear hK K'
              try simp only [Act.put, List.setIfInBounds_toArray, List.set_cons_zero, List.set_cons_succ]
              refine hd_take 28 (v := .bool true) rfl (by kernel_rfl) (by kernel_rfl) (by kernel_rfl) rfl hSe4 (fun W' hS => by go_simp) rfl ?_
              try simp only [Act.put, List.setIfInBounds_toArray, List.set_cons_zero, List.set_cons_succ]
              refine hd_take 29 (v := .bool true) rfl (by kernel_rfl) (by kernel_rfl) (by kernel_rfl) rfl hSe4 (fun W' hS => by go_simp) rfl ?_
              try simp only [Act.put, List.setIfInBounds_toArray, List.set_cons_zero, List.set_cons_succ]
              refine hd_one 30 (by kernel_rfl) rfl (by kernel_rfl) rfl (fun K' hK => ?_)
              go_simp
              refine hK.out _ _ (fun _ => hSe4) ?_
              clear hK K'
              refine held_done (by kernel_rfl) ?_
              have HFE := Lib.hid (HWE0.out.trans ge4 (by simp))
              go_wp2_with fail
              go_ret
              exact ⟨rfl, HFE.out.toBelow (by simp)⟩
end Go.Proofs.YtjddngbgbbbefaaGreatDoor
