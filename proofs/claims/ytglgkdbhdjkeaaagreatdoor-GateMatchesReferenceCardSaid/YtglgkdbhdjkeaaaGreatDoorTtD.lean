/-
  title.steps: the iterator over the transfers of a title, each with the title before it.
  title.Valid.
-/
import Derived.Test.YtglgkdbhdjkeaaaGreatDoorTtB
import Derived.Test.YtglgkdbhdjkeaaaGreatDoorRfX
import Derived.Test.YtglgkdbhdjkeaaaGreatDoorMrk
import Derived.Test.YtglgkdbhdjkeaaaGreatDoorSgnA
import Derived.Sort.BigQuietIn
import Derived.Sort.LoopGhostIn
import Derived.Test.YtglgkdbhdjkeaaaGreatDoorPlnTt
namespace Go.Proofs.YtglgkdbhdjkeaaaGreatDoor
open Go.RowKit Go.Shelf
attribute [local go_sem] Oper.semAt_some

theorem steps_any (v : Value) (t : Ttl) (w : World) (hv : TtlR w v t) :
    Calls Tryz.prog 41 #[v] w fun e w' => e = .returned (.func (.func 73) #[] #[.pointer (some ⟨w.heap.size, 0, none⟩)]) ∧ ∃ cv, v = .agg #[.int .i64 t.serial, .int .i64 t.shw, .int .i64 t.place, .string ⟨t.first.toArray⟩, cv] ∧ w' = w.alloc (ttlO t cv) := by
  obtain ⟨cv, rfl, _⟩ := hv
  go_enter Tryz.func41, Tryz.ntmps41
  go_wp2
  go_ret
  exact ⟨rfl, cv, rfl, rfl⟩
/-- What the iterator reads: the title, and the cells of its transfers. -/
structure ChT (bt : Nat) (t : Ttl) (a : Option Addr) (cap : Nat) (sv : Nat → Value) (W : World) : Prop where
  b : W.heap[bt]? = some (.cells #[.int .i64 t.serial, .int .i64 t.shw, .int .i64 t.place, .string ⟨t.first.toArray⟩, .slice a t.chain.length cap] 34 (0, 0))
  c : ∀ (i : Nat) (x : Trf), t.chain[i]? = some x → ∃ b off, a = some ⟨b, off, none⟩ ∧ W.cell? ⟨b, off + i * 2, none⟩ = some (.string ⟨x.nk.toArray⟩) ∧ W.cell? ⟨b, off + i * 2 + 1, none⟩ = some (sv i)
theorem ChT.std {bt : Nat} {t : Ttl} {a : Option Addr} {cap : Nat} {sv : Nat → Value} {B : Nat} {W W' : World} (h : ChT bt t a cap sv W) (g : Std B W W') : ChT bt t a cap sv W' :=
  ⟨g.at h.b, fun i x hx => let ⟨b, off, h1, h2, h3⟩ := h.c i x hx; ⟨b, off, h1, g.cell h2, g.cell h3⟩⟩
theorem ChT.fr {bt : Nat} {t : Ttl} {a : Option Addr} {cap : Nat} {sv : Nat → Value} {W W' : World} (h : ChT bt t a cap sv W) (g : Fr [] W W') : ChT bt t a cap sv W' := h.std (g.std 0)
/-- The title before a transfer, and the transfer. -/
def encsT (t : Ttl) (a : Option Addr) (cap : Nat) (sv : Nat → Value) (i : Fin t.chain.length) : Array Value :=
  #[.agg #[.int .i64 t.serial, .int .i64 t.shw, .int .i64 t.place, .string ⟨t.first.toArray⟩, .slice a i.val cap], .agg #[.string ⟨t.chain[i].nk.toArray⟩, sv i.val]]
def KpT (bt : Nat) (t : Ttl) (a : Option Addr) (cap : Nat) (sv : Nat → Value) (A B : World) : Prop := ChT bt t a cap sv A → ChT bt t a cap sv B

set_option maxRecDepth 100000 in
set_option maxHeartbeats 2000000 in
theorem steps_stops (m bt : Nat) (t : Ttl) (a : Option Addr) (cap : Nat) (sv : Nat → Value) (w : World) (hm : 1 ≤ m) (hn : t.chain.length ≤ 1000000) (hcap : t.chain.length ≤ cap) (_hc9 : cap ≤ 9223372036854775807) (hsv : ∀ i, i < t.chain.length → ∃ sa sl sc, sv i = .slice sa sl sc) (h : ChT bt t a cap sv w) :
    SeqStopsK Fence.wide m Tryz.prog 73 #[.pointer (some ⟨bt, 0, none⟩)] (encsT t a cap sv) (KpT bt t a cap sv) (fun xs => xs = List.finRange t.chain.length) (fun _ => True) t.chain.length w := fun l J Jx W hW hJ hJx hY h0 => by
  have hCW := h.fr (Fr.ofBelow hW)
  have HY := Lib.hid hY
  have HJ := Lib.hid hJ
  have HSV := Lib.hid hsv
  clear hY hJ hJx h hW hsv
  have c4 := row_cell hCW.b 4
  simp at c4
  have HCW := Lib.hid hCW
  clear hCW
  refine callsIn_of_wp Tryz.func73 rfl trivial ?_ rfl
  simp only [Tryz.ntmps73, List.size_toArray, List.length_cons, List.length_nil, Nat.reduceAdd, Nat.reduceSub, Array.replicate_succ, Array.replicate_zero, List.push_toArray, List.append_toArray, List.nil_append, List.cons_append]
  gi_wp2_with fail
  clear c4
  gi_loopw [9] (fun i wr => ∃ k : Nat, k ≤ t.chain.length ∧ i = .int .i64 (k : Int) ∧ J ((List.finRange t.chain.length).take k) wr ∧ ChT bt t a cap sv wr)
    (fun i _ => t.chain.length + 1 - (intOf i).toNat)
  case atStart => exact ⟨0, by omega, rfl, h0, HCW.out⟩
  case round =>
    obtain ⟨k, hk, rfl, hJk, hCk⟩ := hrel
    have HK := Lib.hid hJk
    have HC := Lib.hid hCk
    clear hJk hCk HCW
    by_cases hlt : k < t.chain.length
    · have t1 : decide ((k : Int) < (t.chain.length : Int)) = true := by simp; omega
      obtain ⟨x, hx⟩ : ∃ x, t.chain[k]? = some x := ⟨_, List.getElem?_eq_getElem hlt⟩
      have hxe : t.chain[k] = x := (List.getElem?_eq_some_iff.1 hx).2
      obtain ⟨b, off, rfl, e0, e1⟩ := HC.out.c k x hx
      obtain ⟨sa, sl, sc, hs⟩ := HSV.out k hlt
      rw [hs] at e1
      have c0 := row_cell HC.out.b 0
      have c1 := row_cell HC.out.b 1
      have c2 := row_cell HC.out.b 2
      have c3 := row_cell HC.out.b 3
      have c4 := row_cell HC.out.b 4
      simp at c0 c1 c2 c3 c4
      have HXE := Lib.hid hxe
      have HSS := Lib.hid hs
      have i0 : (0 : Int) ≤ (k : Int) := by omega
      have i1 : (k : Int) < (t.chain.length : Int) := by omega
      have i2 : (k : Int) ≤ (cap : Int) := by omega
      have i3 : (k : Int) ≤ (t.chain.length : Int) := by omega
      clear hx hxe hs
      have hA1 := (Fr.refl [] wr).alloc (.cells #[.string ⟨x.nk.toArray⟩, .slice sa sl sc] 82)
      have hA2 := hA1.alloc (.cells #[.int .i64 t.serial, .int .i64 t.shw, .int .i64 t.place, .string ⟨t.first.toArray⟩, .slice (some ⟨b, off, none⟩) t.chain.length cap] 34)
      have d0 := hA1.cell c0 (by simp)
      have d1 := hA1.cell c1 (by simp)
      have d2 := hA1.cell c2 (by simp)
      have d3 := hA1.cell c3 (by simp)
      have d4 := hA1.cell c4 (by simp)
      have d5 := hA2.cell c4 (by simp)
      have hA3 := hA1.alloc (.cells #[.int .i64 t.serial, .int .i64 t.shw, .int .i64 t.place, .string ⟨t.first.toArray⟩, .slice (some ⟨b, off, none⟩) k cap] 34)
      clear c0 c1 c2 c3 c4 hA2
      have HA3 := Lib.hid hA3
      clear hA1 hA3
      gi_wp2_with fail
      obtain ⟨W3, hW3⟩ : ∃ W3, W3 = (wr.alloc (.cells #[.string ⟨x.nk.toArray⟩, .slice sa sl sc] 82)).alloc (.cells #[.int .i64 t.serial, .int .i64 t.shw, .int .i64 t.place, .string ⟨t.first.toArray⟩, .slice (some ⟨b, off, none⟩) k cap] 34) := ⟨_, rfl⟩
      rw [← hW3] at HA3 ⊢
      clear hW3 d0 d1 d2 d3 d4 d5
      have hJ2 := J_below HJ.out HK.out HA3.out
      obtain ⟨fn, tmps, asg, bd, hy, hR⟩ := HY.out ((List.finRange t.chain.length).take k) ⟨k, hlt⟩ W3 hJ2 (by rw [List.length_take, List.length_finRange]; omega)
      unfold encsT at hy
      dsimp only at hy
      have hxe2 : t.chain[(⟨k, hlt⟩ : Fin t.chain.length)] = x := HXE.out
      rw [hxe2, HSS.out] at hy
      clear hxe2
      have HR := Lib.hid (hR.mono (R' := fun e W' => ∃ b', e = .returned (.bool b') ∧ YPost J Jx (KpT bt t (some ⟨b, off, none⟩) cap sv) ((List.finRange t.chain.length).take k) ⟨k, hlt⟩ W3 b' W') (fun e W' h => by rcases h with ⟨h1, h2, h3⟩ | ⟨h1, h2⟩; exact ⟨true, h1, Or.inl ⟨rfl, h2, h3⟩⟩; exact ⟨false, h1, Or.inr ⟨rfl, h2⟩⟩))
      clear hR hJ2
      rw [hy]
      gi_wp2_with fail
      refine HR.out.mono ?_
      rintro e w3 ⟨yb, rfl, hyp⟩
      have HYP := Lib.hid hyp
      clear hyp HR hy
      cases yb with
      | true =>
        obtain ⟨_, hJ3, hK3⟩ | ⟨h, _⟩ := HYP.out
        · have HC3 := Lib.hid (hK3 (HC.out.fr HA3.out))
          have HJ3 : Hid (J ((List.finRange t.chain.length).take (k + 1)) w3) := Lib.hid (by rw [List.take_succ_eq_append_getElem (by simpa using hlt)]; simpa using hJ3)
          clear hJ3 hK3 HYP
          gi_wp2_with fail
          go_roundw
          case rel => exact ⟨k + 1, by omega, by go_num, HJ3.out, HC3.out⟩
          case measure => simp [intOf]; omega
        · cases h
      | false =>
        obtain ⟨h, _⟩ | ⟨_, hx3⟩ := HYP.out
        · cases h
        · have HX3 := Lib.hid hx3
          clear hx3 HYP
          gi_wp2_with fail
          refine bodyPost_ret (results_none rfl _ _ _) rfl ?_
          exact ⟨⟨_, rfl⟩, .inr ⟨_, trivial, HX3.out⟩⟩
    · obtain rfl : k = t.chain.length := by omega
      have t1 : decide ((t.chain.length : Int) < (t.chain.length : Int)) = false := by simp
      have HJk : Hid (J (List.finRange t.chain.length) wr) := by have := HK.out; rw [List.take_of_length_le (by simp)] at this; exact this
      gi_wp2_with fail
      go_end0
      exact ⟨⟨_, rfl⟩, .inl ⟨_, rfl, HJk.out⟩⟩
end Go.Proofs.YtglgkdbhdjkeaaaGreatDoor
namespace Go.Proofs.YtglgkdbhdjkeaaaGreatDoor
open Go.RowKit Go.Shelf
attribute [local go_sem] Oper.semAt_some

theorem trs_sv {w : World} {a : Option Addr} {cap : Nat} {l : List Trf} (h : Trs w (.slice a l.length cap) l) : ∃ sv : Nat → Value, ∀ (i : Nat) (x : Trf), l[i]? = some x →
    (∃ b off, a = some ⟨b, off, none⟩ ∧ w.cell? ⟨b, off + i * 2, none⟩ = some (.string ⟨x.nk.toArray⟩) ∧ w.cell? ⟨b, off + i * 2 + 1, none⟩ = some (sv i)) ∧ StrsW w (sv i) x.sig := by
  rcases h with ⟨rfl, _⟩ | ⟨b, off, cap', hv, _, _, _, h4⟩
  · exact ⟨fun _ => undef, fun i x hx => by simp at hx⟩
  · cases hv
    refine ⟨fun i => (w.cell? ⟨b, off + i * 2 + 1, none⟩).getD undef, fun i x hx => ?_⟩
    obtain ⟨h1, u, h2, h3⟩ := h4 i x hx
    dsimp only
    rw [h2]
    exact ⟨⟨b, off, rfl, h1, h2⟩, h3⟩
theorem ownerT_small {t : Ttl} (h : TSmall t) : (ownerT t).length ≤ 100000 := by
  unfold ownerT
  cases hg : t.chain.getLast? with
  | none => exact h.f
  | some x => exact (h.c x (List.mem_of_getLast? hg)).1
set_option maxRecDepth 100000 in
set_option maxHeartbeats 4000000 in
theorem valid30_any (v : Value) (t : Ttl) (w : World) (hv : TtlR w v t) (hS : TSmall t) (hT : Tabs w) :
    Calls Tryz.prog 22 #[v] w fun e w' => e = .returned (.bool (validT t)) ∧ Below w.heap.size w w' := by
  obtain ⟨cv, rfl, hc⟩ := hv
  obtain ⟨a, cap, rfl, hlc, hcap, ha⟩ := hc.form
  have HC := Lib.hid hc
  have HT := Lib.hid hT
  have HS := Lib.hid hS
  clear hc hT hS
  obtain ⟨r, er⟩ : ∃ r, r = validT t := ⟨_, rfl⟩
  rw [← er]
  have ER := Lib.hid er
  clear er
  refine (callsIn_wide (n := 3)).1 ?_
  refine callsIn_of_wp_marks Tryz.func22 rfl trivial ?_ rfl
  simp only [Tryz.ntmps22, List.size_toArray, List.length_cons, List.length_nil, Nat.reduceAdd, Nat.reduceSub, Array.replicate_succ, Array.replicate_zero, List.push_toArray, List.append_toArray, List.nil_append, List.cons_append]
  obtain ⟨W0, hW0⟩ : ∃ W0, W0 = (w.alloc (.cells #[.int .i64 t.serial, .int .i64 t.shw, .int .i64 t.place, .string ⟨t.first.toArray⟩, .slice a t.chain.length cap] 34)).alloc (.cells #[.bool false] 4) := ⟨_, rfl⟩
  obtain ⟨p, ep⟩ : ∃ p, p = w.heap.size := ⟨_, rfl⟩
  have h0 : Fr [] w W0 := by rw [hW0]; exact ((Fr.refl [] w).alloc _).alloc _
  have hp0 : W0.heap[p]? = some (.cells #[.int .i64 t.serial, .int .i64 t.shw, .int .i64 t.place, .string ⟨t.first.toArray⟩, .slice a t.chain.length cap] 34 (0, 0)) := by rw [hW0, ep]; exact heap_past _ (heap_new rfl)
  have hp1 : W0.heap[p + 1]? = some (.cells #[.bool false] 4 (0, 0)) := by rw [hW0, ep]; exact heap_new (by simp)
  have c0 := row_cell hp0 0
  have c1 := row_cell hp0 1
  have c2 := row_cell hp0 2
  have c3 := row_cell hp0 3
  have c4 := row_cell hp0 4
  simp at c0 c1 c2 c3 c4
  rw [hW0, ep] at c0 c1 c2 c3 c4
  gi_wp2_with fail
  rw [← hW0, ← ep]
  have EP := Lib.hid ep
  clear hW0 c0 c1 c2 c3 c4 ep
  refine ⟨trivial, (callsIn_wide.2 (formed_any _ t W0 ⟨_, rfl, HC.out.fr h0⟩ HS.out)).mono ?_⟩
  rintro e w1 ⟨rfl, hb1⟩
  have h1 : Fr [] w w1 := h0.below hb1 h0.size
  have hq0 := (Fr.ofBelow (X := []) hb1).at hp0 (by simp)
  have hq1 := (Fr.ofBelow (X := []) hb1).at hp1 (by simp)
  clear hb1 hp0 hp1 h0
  have c0 := row_cell hq0 0
  have c1 := row_cell hq0 1
  have c2 := row_cell hq0 2
  have c3 := row_cell hq0 3
  have c4 := row_cell hq0 4
  have k0 := row_cell hq1 0
  have k1 := row_free hq1 0
  simp at c0 c1 c2 c3 c4 k0
  obtain ⟨fo, efo⟩ : ∃ fo, fo = formedT t := ⟨_, rfl⟩
  rw [← efo]
  have HFO := Lib.hid efo
  clear efo
  cases fo with
  | false =>
    have HR : Hid (r = false) := Lib.hid (by rw [ER.out]; unfold validT; rw [← HFO.out]; rfl)
    have HX := Lib.hid (h1.setCell ⟨p + 1, 0, none⟩ (.bool false) (by right; have := EP.out; simp; omega))
    have HRX := Lib.hid (row_set hq1 0 (.bool false))
    clear c0 c1 c2 c3 c4 hq0 hq1 h1
    gi_wp2_with fail
    refine leaves_marks (B := w.heap.size) [] _ ⟨List.nodup_nil, fun D hD => by cases hD⟩ (fun w' hst => ?_)
    have e0 := row_cell (hst.at HRX.out) 0
    simp at e0
    refine ⟨.bool false, ?_, by rw [HR.out], (HX.out.thenStd hst (Nat.le_refl _)).toBelow (by simp)⟩
    simp only [results]
    go_simp
  | true =>
    gi_wp2_with fail
    refine ⟨trivial, (callsIn_wide.2 (steps_any _ t w1 ⟨_, rfl, HC.out.fr h1⟩)).mono ?_⟩
    rintro e w' ⟨rfl, cv, hcv, rfl⟩
    obtain rfl : cv = .slice a t.chain.length cap := by simpa using hcv.symm
    have hcw1 := HC.out.fr h1
    obtain ⟨sv, hsv⟩ := trs_sv HC.out
    have HSV := Lib.hid hsv
    obtain ⟨bt, ebt⟩ : ∃ bt, bt = w1.heap.size := ⟨_, rfl⟩
    obtain ⟨W4, hW4⟩ : ∃ W4, W4 = w1.alloc (ttlO t (.slice a t.chain.length cap)) := ⟨_, rfl⟩
    have hf14 : Fr [] w1 W4 := by rw [hW4]; exact (Fr.refl [] w1).alloc _
    have hbt4 : W4.heap[bt]? = some (.cells #[.int .i64 t.serial, .int .i64 t.shw, .int .i64 t.place, .string ⟨t.first.toArray⟩, .slice a t.chain.length cap] 34 (0, 0)) := by rw [hW4, ebt]; exact heap_new rfl
    have hf4 : Fr [] w W4 := h1.trans hf14 (by simp)
    have hq4 := hf14.at hq1 (by simp)
    have hCh : ChT bt t a cap sv W4 := ⟨hbt4, fun i x hx => let ⟨⟨b, off, h2, h3, h4⟩, _⟩ := HSV.out i x hx; ⟨b, off, h2, hf4.cell h3 (by simp), hf4.cell h4 (by simp)⟩⟩
    have hslice : ∀ i, i < t.chain.length → ∃ sa sl sc, sv i = .slice sa sl sc := fun i hi => by
      obtain ⟨sa, sc, h, _⟩ := (HSV.out i _ (List.getElem?_eq_getElem hi)).2.form
      exact ⟨sa, _, sc, h⟩
    rw [← hW4, ← ebt]
    have hn100 := HS.out.n
    have HF4 := Lib.hid hf4
    have hpb : p + 1 < bt := by rw [ebt]; exact lt_of_block hq1
    have hw4 : w.heap.size ≤ W4.heap.size := hf4.size
    have hbtW := lt_of_block hbt4
    clear hW4 ebt hcv hsv c0 c1 c2 c3 c4 k0 k1 hq0 hq1 h1 hf14 hf4 hcw1
    gi_wp2_with fail
    refine wpIn_rangeX rfl (by decide) (gf := 73) (lb := #[.pointer (some ⟨bt, 0, none⟩)]) rfl trivial (enters_of Tryz.func73 (by kernel_rfl) rfl)
      (steps_stops 2 bt t a cap sv W4 (by decide) (by omega) hlc hcap hslice hCh) (fun h k x => k (h x)) (fun A C g h => h.std g) (Below.refl _ _) (fun _ => rfl)
      (fun pre V => (∀ x ∈ pre, stepT t x.val = true) ∧ V.heap[p + 1]? = some (.cells #[.bool false] 4 (0, 0)) ∧ Fr [] w V ∧ W4.heap.size ≤ V.heap.size)
      (fun c _ V => c = .ret ∧ r = false ∧ V.heap[p + 1]? = some (.cells #[.bool false] 4 (0, 0)) ∧ Fr [] w V ∧ W4.heap.size ≤ V.heap.size)
      (fun s A C h g => ⟨h.1, g.at h.2.1, h.2.2.1.thenStd g hw4, Nat.le_trans h.2.2.2 g.size⟩)
      (fun c s A C h g => ⟨h.1, h.2.1, g.at h.2.2.1, h.2.2.2.1.thenStd g hw4, Nat.le_trans h.2.2.2.2 g.size⟩)
      ⟨fun x hx => (by cases hx), hq4, HF4.out, Nat.le_refl _⟩
      (fun x V a' V' => a' = { tmps := #[.agg #[.int .i64 t.serial, .int .i64 t.shw, .int .i64 t.place, .string ⟨t.first.toArray⟩, .slice a t.chain.length cap], .pointer (some ⟨p, 0, none⟩), .pointer (some ⟨p + 1, 0, none⟩), .pointer (some ⟨V.heap.size, 0, none⟩), .pointer (some ⟨V.heap.size + 1, 0, none⟩), .agg #[.int .i64 t.serial, .int .i64 t.shw, .int .i64 t.place, .string ⟨t.first.toArray⟩, .slice a t.chain.length cap], .bool true, .bool false, .agg #[.int .i64 t.serial, .int .i64 t.shw, .int .i64 t.place, .string ⟨t.first.toArray⟩, .slice a t.chain.length cap], .func (.func 73) #[] #[.pointer (some ⟨bt, 0, none⟩)], .agg #[.int .i64 t.serial, .int .i64 t.shw, .int .i64 t.place, .string ⟨t.first.toArray⟩, .slice a x.val cap], .agg #[.string ⟨t.chain[x].nk.toArray⟩, sv x.val], undef, undef, undef, undef, undef, undef, undef, undef, undef, undef, undef, undef, undef, undef, undef, undef], defers := [] } ∧
        V' = (V.alloc (.cells #[.int .i64 t.serial, .int .i64 t.shw, .int .i64 t.place, .string ⟨t.first.toArray⟩, .slice a x.val cap] 34)).alloc (.cells #[.string ⟨t.chain[x].nk.toArray⟩, sv x.val] 82))
      (fun x V a' V' h => by rw [h.2]; exact (((Fr.refl [] V).alloc _).alloc _).std _)
      (fun x V a' V' k o h hk => by rw [h.2]; exact heap_past _ (heap_past _ hk))
      ?assign ?body ?done ?stop
    case assign =>
      intro l' x V K hK
      obtain ⟨sa, sl, sc, hs⟩ := hslice x.val x.2
      have hK2 := hK _ _ ⟨rfl, rfl⟩
      rw [hs] at hK2
      have HK2 := Lib.hid hK2
      clear hK hK2
      unfold encsT
      dsimp only
      rw [hs]
      gi_wp2_with fail
      exact HK2.out
    case body =>
      rintro l' pre x V0 a' V' V ⟨hall, hqV, hfV, hszV⟩ hlen ⟨rfl, rfl⟩ hst
      have hmx : Tryz.prog.follows .mixedOrders = true := by kernel_rfl
      obtain ⟨k, hk⟩ := x
      obtain ⟨x, hx⟩ : ∃ x, t.chain[k]? = some x := ⟨_, List.getElem?_eq_getElem hk⟩
      have hxe : t.chain[(⟨k, hk⟩ : Fin t.chain.length)] = x := (List.getElem?_eq_some_iff.1 hx).2
      obtain ⟨⟨b, off, rfl, _, _⟩, hu⟩ := HSV.out k x hx
      obtain ⟨sa, sl, sc, hs⟩ := hslice k hk
      dsimp only at hst ⊢
      rw [hxe, hs] at hst
      rw [hxe, hs]
      rw [hs] at hu
      have hF0 : Fr [] w ((V0.alloc (.cells #[.int .i64 t.serial, .int .i64 t.shw, .int .i64 t.place, .string ⟨t.first.toArray⟩, .slice (some ⟨b, off, none⟩) k cap] 34)).alloc (.cells #[.string ⟨x.nk.toArray⟩, .slice sa sl sc] 82)) := (hfV.alloc _).alloc _
      have hb1 := hst.at (heap_past (.cells #[.string ⟨x.nk.toArray⟩, .slice sa sl sc] 82) (heap_new (o := .cells #[.int .i64 t.serial, .int .i64 t.shw, .int .i64 t.place, .string ⟨t.first.toArray⟩, .slice (some ⟨b, off, none⟩) k cap] 34) (w := V0) rfl))
      have hb2 := hst.at (heap_new (o := .cells #[.string ⟨x.nk.toArray⟩, .slice sa sl sc] 82) (w := V0.alloc (.cells #[.int .i64 t.serial, .int .i64 t.shw, .int .i64 t.place, .string ⟨t.first.toArray⟩, .slice (some ⟨b, off, none⟩) k cap] 34)) (n := V0.heap.size + 1) (by simp))
      have HFV := Lib.hid (hF0.thenStd hst hw4)
      have HQV := Lib.hid (hst.at (heap_past (.cells #[.string ⟨x.nk.toArray⟩, .slice sa sl sc] 82) (heap_past (.cells #[.int .i64 t.serial, .int .i64 t.shw, .int .i64 t.place, .string ⟨t.first.toArray⟩, .slice (some ⟨b, off, none⟩) k cap] 34) hqV)))
      have HSZ : Hid (W4.heap.size ≤ V.heap.size) := Lib.hid (Nat.le_trans hszV (Nat.le_trans (by simp; omega) hst.size))
      obtain ⟨n1, en1⟩ : ∃ n1, n1 = V0.heap.size := ⟨_, rfl⟩
      rw [← en1] at hb1 hb2 ⊢
      have b0 := row_cell hb1 0
      have b1 := row_cell hb1 1
      have b2 := row_cell hb1 2
      have b3 := row_cell hb1 3
      have b4 := row_cell hb1 4
      have x0 := row_cell hb2 0
      have x1 := row_cell hb2 1
      simp at b0 b1 b2 b3 b4 x0 x1
      have HSM := Lib.hid HS.out
      have HM := Lib.hid (List.mem_of_getElem? hx)
      have hxs := HS.out.c x HM.out
      have HNK := Lib.hid hxs.1
      have HSG : Hid (∀ s ∈ x.sig, s.length ≤ 1000000) := Lib.hid (fun s hs => Nat.le_trans (hxs.2.2 s hs) (by decide))
      have hfx := formX_parts (List.all_eq_true.1 (formedT_parts HFO.out.symm).2.2.2.2.2 x HM.out)
      have HU := Lib.hid ((hu.strong (fun h => by rw [h] at hfx; simp at hfx)).fr0 HFV.out)
      have HTK : Hid (Trs V (.slice (some ⟨b, off, none⟩) k cap) (cutT t k).chain) := Lib.hid ((HC.out.take k (Nat.le_of_lt hk)).fr HFV.out)
      have HTV := Lib.hid (HT.out.fr HFV.out)
      have HOL : Hid ((ownerT (cutT t k)).length ≤ 1000000) := Lib.hid (Nat.le_trans (ownerT_small (HS.out.cut k)) (by decide))
      have HML : Hid ((msgT (cutT t k) x.nk).length ≤ 1000000) := Lib.hid (by unfold msgT dlist; rw [dsum_length]; decide)
      obtain ⟨bu, ebu⟩ : ∃ bu, bu = usedT (cutT t k) x.nk := ⟨_, rfl⟩
      obtain ⟨ve, eve⟩ : ∃ ve, ve = verifyS (ownerT (cutT t k)) (msgT (cutT t k) x.nk) x.sig := ⟨_, rfl⟩
      have hstep : stepT t k = (!bu && ve) := by unfold stepT; rw [hx, ebu, eve]
      have HNEG : Hid (bu = true ∨ ve = false → r = false) := Lib.hid (fun h => by
        rw [ER.out]
        unfold validT
        rw [List.all_eq_false.2 ⟨k, List.mem_range.2 hk, by rw [hstep]; rcases h with h | h <;> rw [h] <;> simp⟩, Bool.and_false])
      have HPOS : Hid (bu = false → ve = true → ∀ y ∈ pre ++ [(⟨k, hk⟩ : Fin t.chain.length)], stepT t y.val = true) := Lib.hid (fun h1 h2 y hy => by
        rcases List.mem_append.1 hy with hy | hy
        · exact hall y hy
        · rw [List.mem_singleton.1 hy, hstep, h1, h2]; rfl)
      have HBU := Lib.hid ebu
      have HVE := Lib.hid eve
      clear hb1 hb2 hF0 hst hqV hfV hszV en1 hx hxe hs hu hxs hfx ebu eve hstep hall
      gi_wp2_with fail
      have g0 : Fr [] V V.drew := (Fr.refl [] V).drew
      have hS0 : V.drew.cell? ⟨n1, 0, none⟩ = some (.int .i64 t.serial) ∧ V.drew.cell? ⟨n1, 1, none⟩ = some (.int .i64 t.shw) ∧ V.drew.cell? ⟨n1, 2, none⟩ = some (.int .i64 t.place) ∧ V.drew.cell? ⟨n1, 3, none⟩ = some (.string ⟨t.first.toArray⟩) ∧ V.drew.cell? ⟨n1, 4, none⟩ = some (.slice (some ⟨b, off, none⟩) k cap) ∧ V.drew.cell? ⟨n1 + 1, 0, none⟩ = some (.string ⟨x.nk.toArray⟩) ∧ V.drew.cell? ⟨n1 + 1, 1, none⟩ = some (.slice sa sl sc) := ⟨g0.cell b0 (by simp), g0.cell b1 (by simp), g0.cell b2 (by simp), g0.cell b3 (by simp), g0.cell b4 (by simp), g0.cell x0 (by simp), g0.cell x1 (by simp)⟩
      refine regionIn_held 100 (fun W' => W'.cell? ⟨n1, 0, none⟩ = some (.int .i64 t.serial) ∧ W'.cell? ⟨n1, 1, none⟩ = some (.int .i64 t.shw) ∧ W'.cell? ⟨n1, 2, none⟩ = some (.int .i64 t.place) ∧ W'.cell? ⟨n1, 3, none⟩ = some (.string ⟨t.first.toArray⟩) ∧ W'.cell? ⟨n1, 4, none⟩ = some (.slice (some ⟨b, off, none⟩) k cap) ∧ W'.cell? ⟨n1 + 1, 0, none⟩ = some (.string ⟨x.nk.toArray⟩) ∧ W'.cell? ⟨n1 + 1, 1, none⟩ = some (.slice sa sl sc)) hmx (by kernel_rfl) ?_
      change Held _ _ _ _ _ _ 16 (Array.replicate 16 false) _ _
      refine hd_take 0 (v := .agg #[.int .i64 t.serial, .int .i64 t.shw, .int .i64 t.place, .string ⟨t.first.toArray⟩, .slice (some ⟨b, off, none⟩) k cap]) rfl (by kernel_rfl) (by kernel_rfl) (by kernel_rfl) rfl hS0 (fun W' hS => by obtain ⟨s0, s1, s2, s3, s4, s5, s6⟩ := hS; go_simp) rfl ?_
      refine hd_take 1 (v := .pointer (some ⟨n1 + 1, 0, none⟩)) rfl (by kernel_rfl) (by kernel_rfl) (by kernel_rfl) rfl hS0 (fun W' hS => by go_simp) rfl ?_
      try simp only [Act.put, List.setIfInBounds_toArray, List.set_cons_zero, List.set_cons_succ]
      refine hd_take 2 (v := .string ⟨x.nk.toArray⟩) rfl (by kernel_rfl) (by kernel_rfl) (by kernel_rfl) rfl hS0 (fun W' hS => by obtain ⟨s0, s1, s2, s3, s4, s5, s6⟩ := hS; go_simp) rfl ?_
      try simp only [Act.put, List.setIfInBounds_toArray, List.set_cons_zero, List.set_cons_succ]
      refine hd_one 3 (by kernel_rfl) rfl (by kernel_rfl) rfl (fun K' hK => ?_)
      go_simp
      refine (used_any _ (cutT t k) x.nk _ ⟨_, rfl, HTK.out.fr g0⟩).mono ?_
      rintro e y1 ⟨rfl, hbb1⟩
      have g1 : Fr [] V y1 := g0.below hbb1 g0.size
      have hS1 : y1.cell? ⟨n1, 0, none⟩ = some (.int .i64 t.serial) ∧ y1.cell? ⟨n1, 1, none⟩ = some (.int .i64 t.shw) ∧ y1.cell? ⟨n1, 2, none⟩ = some (.int .i64 t.place) ∧ y1.cell? ⟨n1, 3, none⟩ = some (.string ⟨t.first.toArray⟩) ∧ y1.cell? ⟨n1, 4, none⟩ = some (.slice (some ⟨b, off, none⟩) k cap) ∧ y1.cell? ⟨n1 + 1, 0, none⟩ = some (.string ⟨x.nk.toArray⟩) ∧ y1.cell? ⟨n1 + 1, 1, none⟩ = some (.slice sa sl sc) := ⟨g1.cell b0 (by simp), g1.cell b1 (by simp), g1.cell b2 (by simp), g1.cell b3 (by simp), g1.cell b4 (by simp), g1.cell x0 (by simp), g1.cell x1 (by simp)⟩
      refine hK.out _ _ (fun _ => hS1) ?_
      clear hK K'
      try simp only [Act.put, List.setIfInBounds_toArray, List.set_cons_zero, List.set_cons_succ]
      rw [← HBU.out]
      cases bu with
      | true =>
        refine hd_take 4 (v := .bool true) rfl (by kernel_rfl) (by kernel_rfl) (by kernel_rfl) rfl hS1 (fun W' hS => by go_simp) rfl ?_
        try simp only [Act.put, List.setIfInBounds_toArray, List.set_cons_zero, List.set_cons_succ]
        refine hd_skip 5 rfl (by kernel_rfl) (by kernel_rfl) (by kernel_rfl) rfl hS1 rfl ?_
        refine hd_skip 7 rfl (by kernel_rfl) (by kernel_rfl) (by kernel_rfl) rfl hS1 rfl ?_
        refine hd_skip 8 rfl (by kernel_rfl) (by kernel_rfl) (by kernel_rfl) rfl hS1 rfl ?_
        refine hd_skip 11 rfl (by kernel_rfl) (by kernel_rfl) (by kernel_rfl) rfl hS1 rfl ?_
        try simp only [Act.put, List.setIfInBounds_toArray, List.set_cons_zero, List.set_cons_succ]
        refine hd_skip 6 rfl (by kernel_rfl) (by kernel_rfl) (by kernel_rfl) rfl hS1 rfl ?_
        refine hd_skip 9 rfl (by kernel_rfl) (by kernel_rfl) (by kernel_rfl) rfl hS1 rfl ?_
        refine hd_skip 12 rfl (by kernel_rfl) (by kernel_rfl) (by kernel_rfl) rfl hS1 rfl ?_
        try simp only [Act.put, List.setIfInBounds_toArray, List.set_cons_zero, List.set_cons_succ]
        refine hd_skip 10 rfl (by kernel_rfl) (by kernel_rfl) (by kernel_rfl) rfl hS1 rfl ?_
        try simp only [Act.put, List.setIfInBounds_toArray, List.set_cons_zero, List.set_cons_succ]
        refine hd_skip 13 rfl (by kernel_rfl) (by kernel_rfl) (by kernel_rfl) rfl hS1 rfl ?_
        try simp only [Act.put, List.setIfInBounds_toArray, List.set_cons_zero, List.set_cons_succ]
        refine hd_skip 14 rfl (by kernel_rfl) (by kernel_rfl) (by kernel_rfl) rfl hS1 rfl ?_
        try simp only [Act.put, List.setIfInBounds_toArray, List.set_cons_zero, List.set_cons_succ]
        refine hd_take 15 (v := .bool true) rfl (by kernel_rfl) (by kernel_rfl) (by kernel_rfl) rfl hS1 (fun W' hS => by go_simp) rfl ?_
        try simp only [Act.put, List.setIfInBounds_toArray, List.set_cons_zero, List.set_cons_succ]
        refine held_done (by kernel_rfl) ?_
        have HN := Lib.hid (HNEG.out (Or.inl rfl))
        have hqy := g1.at HQV.out (by simp)
        have q0 := row_cell hqy 0
        simp at q0
        have q1 := row_free hqy 0
        have HK2 : Hid (KeepsFrom W4.heap.size V (y1.setCell ⟨p + 1, 0, none⟩ (.bool false))) := Lib.hid (keepsFrom_fr ((g1.mono (Y := [p + 1]) (by simp)).setCell _ _ (by simp)) (fun z hz o ho => by rw [List.mem_singleton.1 hz, HQV.out] at ho; cases ho; rfl))
        have HR2 := Lib.hid (row_set hqy 0 (.bool false))
        have HFX := Lib.hid ((HFV.out.trans g1 (by simp)).setCell ⟨p + 1, 0, none⟩ (.bool false) (by right; have := EP.out; simp; omega))
        have hszX : W4.heap.size ≤ (y1.setCell ⟨p + 1, 0, none⟩ (.bool false)).heap.size := Nat.le_trans HSZ.out (by rw [show (y1.setCell ⟨p + 1, 0, none⟩ (.bool false)).heap.size = y1.heap.size by simp [World.setCell]]; exact g1.size)
        gi_wp2_with fail
        exact ⟨HK2.out, rfl, HN.out, HR2.out, HFX.out, hszX⟩
      | false =>
        refine hd_take 4 (v := .bool false) rfl (by kernel_rfl) (by kernel_rfl) (by kernel_rfl) rfl hS1 (fun W' hS => by go_simp) rfl ?_
        try simp only [Act.put, List.setIfInBounds_toArray, List.set_cons_zero, List.set_cons_succ]
        refine hd_take 5 (v := .agg #[.int .i64 t.serial, .int .i64 t.shw, .int .i64 t.place, .string ⟨t.first.toArray⟩, .slice (some ⟨b, off, none⟩) k cap]) rfl (by kernel_rfl) (by kernel_rfl) (by kernel_rfl) rfl hS1 (fun W' hS => by obtain ⟨s0, s1, s2, s3, s4, s5, s6⟩ := hS; go_simp) rfl ?_
        refine hd_take 7 (v := .agg #[.int .i64 t.serial, .int .i64 t.shw, .int .i64 t.place, .string ⟨t.first.toArray⟩, .slice (some ⟨b, off, none⟩) k cap]) rfl (by kernel_rfl) (by kernel_rfl) (by kernel_rfl) rfl hS1 (fun W' hS => by obtain ⟨s0, s1, s2, s3, s4, s5, s6⟩ := hS; go_simp) rfl ?_
        refine hd_take 8 (v := .pointer (some ⟨n1 + 1, 0, none⟩)) rfl (by kernel_rfl) (by kernel_rfl) (by kernel_rfl) rfl hS1 (fun W' hS => by go_simp) rfl ?_
        refine hd_take 11 (v := .pointer (some ⟨n1 + 1, 1, none⟩)) rfl (by kernel_rfl) (by kernel_rfl) (by kernel_rfl) rfl hS1 (fun W' hS => by go_simp) rfl ?_
        try simp only [Act.put, List.setIfInBounds_toArray, List.set_cons_zero, List.set_cons_succ]
        refine hd_take 9 (v := .string ⟨x.nk.toArray⟩) rfl (by kernel_rfl) (by kernel_rfl) (by kernel_rfl) rfl hS1 (fun W' hS => by obtain ⟨s0, s1, s2, s3, s4, s5, s6⟩ := hS; go_simp) rfl ?_
        refine hd_take 12 (v := .slice sa sl sc) rfl (by kernel_rfl) (by kernel_rfl) (by kernel_rfl) rfl hS1 (fun W' hS => by obtain ⟨s0, s1, s2, s3, s4, s5, s6⟩ := hS; go_simp) rfl ?_
        try simp only [Act.put, List.setIfInBounds_toArray, List.set_cons_zero, List.set_cons_succ]
        refine hd_one 6 (by kernel_rfl) rfl (by kernel_rfl) rfl (fun K' hK => ?_)
        go_simp
        refine (owner_any _ (cutT t k) _ ⟨_, rfl, HTK.out.fr g1⟩).mono ?_
        rintro e y2 ⟨rfl, hbb2⟩
        have g2 : Fr [] V y2 := g1.below hbb2 g1.size
        have hS2 : y2.cell? ⟨n1, 0, none⟩ = some (.int .i64 t.serial) ∧ y2.cell? ⟨n1, 1, none⟩ = some (.int .i64 t.shw) ∧ y2.cell? ⟨n1, 2, none⟩ = some (.int .i64 t.place) ∧ y2.cell? ⟨n1, 3, none⟩ = some (.string ⟨t.first.toArray⟩) ∧ y2.cell? ⟨n1, 4, none⟩ = some (.slice (some ⟨b, off, none⟩) k cap) ∧ y2.cell? ⟨n1 + 1, 0, none⟩ = some (.string ⟨x.nk.toArray⟩) ∧ y2.cell? ⟨n1 + 1, 1, none⟩ = some (.slice sa sl sc) := ⟨g2.cell b0 (by simp), g2.cell b1 (by simp), g2.cell b2 (by simp), g2.cell b3 (by simp), g2.cell b4 (by simp), g2.cell x0 (by simp), g2.cell x1 (by simp)⟩
        refine hK.out _ _ (fun _ => hS2) ?_
        clear hK K'
        try simp only [Act.put, List.setIfInBounds_toArray, List.set_cons_zero, List.set_cons_succ]
        refine hd_one 10 (by kernel_rfl) rfl (by kernel_rfl) rfl (fun K' hK => ?_)
        go_simp
        refine (message_any _ (cutT t k) x.nk _ ⟨_, rfl, HTK.out.fr g2⟩ (HSM.out.cut k) HNK.out (HTV.out.fr g2)).mono ?_
        rintro e y3 ⟨rfl, hbb3⟩
        have g3 : Fr [] V y3 := g2.below hbb3 g2.size
        have hS3 : y3.cell? ⟨n1, 0, none⟩ = some (.int .i64 t.serial) ∧ y3.cell? ⟨n1, 1, none⟩ = some (.int .i64 t.shw) ∧ y3.cell? ⟨n1, 2, none⟩ = some (.int .i64 t.place) ∧ y3.cell? ⟨n1, 3, none⟩ = some (.string ⟨t.first.toArray⟩) ∧ y3.cell? ⟨n1, 4, none⟩ = some (.slice (some ⟨b, off, none⟩) k cap) ∧ y3.cell? ⟨n1 + 1, 0, none⟩ = some (.string ⟨x.nk.toArray⟩) ∧ y3.cell? ⟨n1 + 1, 1, none⟩ = some (.slice sa sl sc) := ⟨g3.cell b0 (by simp), g3.cell b1 (by simp), g3.cell b2 (by simp), g3.cell b3 (by simp), g3.cell b4 (by simp), g3.cell x0 (by simp), g3.cell x1 (by simp)⟩
        refine hK.out _ _ (fun _ => hS3) ?_
        clear hK K'
        try simp only [Act.put, List.setIfInBounds_toArray, List.set_cons_zero, List.set_cons_succ]
        refine hd_one 13 (by kernel_rfl) rfl (by kernel_rfl) rfl (fun K' hK => ?_)
        go_simp
        refine (verify_any (ownerT (cutT t k)) (msgT (cutT t k) x.nk) _ x.sig _ HOL.out HML.out HSG.out (HU.out.fr0 g3) (HTV.out.fr g3)).mono ?_
        rintro e y4 ⟨rfl, hbb4⟩
        have g4 : Fr [] V y4 := g3.below hbb4 g3.size
        have hS4 : y4.cell? ⟨n1, 0, none⟩ = some (.int .i64 t.serial) ∧ y4.cell? ⟨n1, 1, none⟩ = some (.int .i64 t.shw) ∧ y4.cell? ⟨n1, 2, none⟩ = some (.int .i64 t.place) ∧ y4.cell? ⟨n1, 3, none⟩ = some (.string ⟨t.first.toArray⟩) ∧ y4.cell? ⟨n1, 4, none⟩ = some (.slice (some ⟨b, off, none⟩) k cap) ∧ y4.cell? ⟨n1 + 1, 0, none⟩ = some (.string ⟨x.nk.toArray⟩) ∧ y4.cell? ⟨n1 + 1, 1, none⟩ = some (.slice sa sl sc) := ⟨g4.cell b0 (by simp), g4.cell b1 (by simp), g4.cell b2 (by simp), g4.cell b3 (by simp), g4.cell b4 (by simp), g4.cell x0 (by simp), g4.cell x1 (by simp)⟩
        refine hK.out _ _ (fun _ => hS4) ?_
        clear hK K'
        try simp only [Act.put, List.setIfInBounds_toArray, List.set_cons_zero, List.set_cons_succ]
        rw [← HVE.out]
        cases ve with
        | true =>
          refine hd_take 14 (v := .bool false) rfl (by kernel_rfl) (by kernel_rfl) (by kernel_rfl) rfl hS4 (fun W' hS => by go_simp) rfl ?_
          try simp only [Act.put, List.setIfInBounds_toArray, List.set_cons_zero, List.set_cons_succ]
          refine hd_take 15 (v := .bool false) rfl (by kernel_rfl) (by kernel_rfl) (by kernel_rfl) rfl hS4 (fun W' hS => by go_simp) rfl ?_
          try simp only [Act.put, List.setIfInBounds_toArray, List.set_cons_zero, List.set_cons_succ]
          refine held_done (by kernel_rfl) ?_
          have HP := Lib.hid (HPOS.out rfl rfl)
          have HK2 : Hid (KeepsFrom W4.heap.size V y4) := Lib.hid (keepsFrom_fr g4 (fun z hz => by cases hz))
          have HC2 : Hid (KpT bt t (some ⟨b, off, none⟩) cap sv V y4) := Lib.hid (fun h => h.fr g4)
          have HQ2 := Lib.hid (g4.at HQV.out (by simp))
          have HF2 := Lib.hid (HFV.out.trans g4 (by simp))
          have hsz2 := Nat.le_trans HSZ.out g4.size
          gi_wp2_with fail
          exact ⟨HK2.out, HC2.out, HP.out, HQ2.out, HF2.out, hsz2⟩
        | false =>
          refine hd_take 14 (v := .bool true) rfl (by kernel_rfl) (by kernel_rfl) (by kernel_rfl) rfl hS4 (fun W' hS => by go_simp) rfl ?_
          try simp only [Act.put, List.setIfInBounds_toArray, List.set_cons_zero, List.set_cons_succ]
          refine hd_take 15 (v := .bool true) rfl (by kernel_rfl) (by kernel_rfl) (by kernel_rfl) rfl hS4 (fun W' hS => by go_simp) rfl ?_
          try simp only [Act.put, List.setIfInBounds_toArray, List.set_cons_zero, List.set_cons_succ]
          refine held_done (by kernel_rfl) ?_
          have HN := Lib.hid (HNEG.out (Or.inr rfl))
          have hqy := g4.at HQV.out (by simp)
          have q0 := row_cell hqy 0
          simp at q0
          have q1 := row_free hqy 0
          have HK2 : Hid (KeepsFrom W4.heap.size V (y4.setCell ⟨p + 1, 0, none⟩ (.bool false))) := Lib.hid (keepsFrom_fr ((g4.mono (Y := [p + 1]) (by simp)).setCell _ _ (by simp)) (fun z hz o ho => by rw [List.mem_singleton.1 hz, HQV.out] at ho; cases ho; rfl))
          have HR2 := Lib.hid (row_set hqy 0 (.bool false))
          have HFX := Lib.hid ((HFV.out.trans g4 (by simp)).setCell ⟨p + 1, 0, none⟩ (.bool false) (by right; have := EP.out; simp; omega))
          have hszX : W4.heap.size ≤ (y4.setCell ⟨p + 1, 0, none⟩ (.bool false)).heap.size := Nat.le_trans HSZ.out (by rw [show (y4.setCell ⟨p + 1, 0, none⟩ (.bool false)).heap.size = y4.heap.size by simp [World.setCell]]; exact g4.size)
          gi_wp2_with fail
          exact ⟨HK2.out, rfl, HN.out, HR2.out, HFX.out, hszX⟩
    case done =>
      rintro D xs V hD rfl ⟨hall, hqV, hfV, hszV⟩ hK
      have HR : Hid (r = true) := Lib.hid (by
        rw [ER.out]
        unfold validT
        rw [← HFO.out, Bool.true_and, List.all_eq_true]
        intro k hk
        exact hall ⟨k, List.mem_range.1 hk⟩ (List.mem_finRange _))
      have q0 := row_cell hqV 0
      simp at q0
      have q1 := row_free hqV 0
      have HX := Lib.hid (hfV.setCell ⟨p + 1, 0, none⟩ (.bool true) (by right; have := EP.out; simp; omega))
      have HRX := Lib.hid (row_set hqV 0 (.bool true))
      have HKX := Lib.hid (((Fr.refl [p + 1] V).setCell ⟨p + 1, 0, none⟩ (.bool true) (by simp)).at hK (by simp; omega))
      clear hfV hqV hK hall
      gi_wp2_with fail
      refine leaves_marks (B := w.heap.size) [D] _ ⟨by simp, fun D' hD' => ?_⟩ (fun w' hst => ?_)
      · rw [List.mem_singleton.1 hD']
        exact ⟨by omega, HKX.out⟩
      have e0 := row_cell (hst.at HRX.out) 0
      simp at e0
      refine ⟨.bool true, ?_, by rw [HR.out], (HX.out.thenStd hst (Nat.le_refl _)).toBelow (by simp)⟩
      simp only [results]
      go_simp
    case stop =>
      rintro D c pre V hD _ ⟨rfl, hr, hb, hfr, hsz⟩ hK
      have HR := Lib.hid hr
      have HB := Lib.hid hb
      have HFR := Lib.hid hfr
      have HK := Lib.hid hK
      clear hr hb hfr hK
      gi_wp2_with fail
      refine leaves_marks (B := w.heap.size) [D] _ ⟨by simp, fun D' hD' => ?_⟩ (fun w' hst => ?_)
      · rw [List.mem_singleton.1 hD']
        exact ⟨by omega, HK.out⟩
      have e0 := row_cell (hst.at HB.out) 0
      simp at e0
      refine ⟨.bool false, ?_, by rw [HR.out], (HFR.out.thenStd hst (Nat.le_refl _)).toBelow (by simp)⟩
      simp only [results]
      go_simp
end Go.Proofs.YtglgkdbhdjkeaaaGreatDoor
