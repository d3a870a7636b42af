/-
  reveal.spread, reveal.Seal.
-/
import Derived.Test.YtmhejcndkplepaaDoorRvB
import Derived.Test.YtmhejcndkplepaaDoorRoundM
import Derived.Test.YtmhejcndkplepaaDoorTrB
namespace Go.Proofs.YtmhejcndkplepaaDoor
open Go.RowKit Go.Shelf
attribute [local go_sem] Oper.semAt_some

theorem KpE.fr {fv : Value} {fields : List (List UInt8)} {bt : Nat} {s : List UInt8} {X : List Nat} {B : Nat} {w A C : World} (hf : Fr X A C) (hw : Tabs w) (hB : w.heap.size ≤ B) (hx : ∀ x ∈ X, B ≤ x) (h0 : ∀ k, fv.ownBlock = some k → k ∉ X) (h1 : bt ∉ X) : KpE fv fields bt s A C :=
  ⟨fun h => h.fr hf h0, fun h => hf.at h h1, fun h => h.frX hf hw hB hx⟩

set_option maxRecDepth 100000 in
set_option maxHeartbeats 4000000 in
theorem spread_any (v : Value) (fields : List (List UInt8)) (s : List UInt8) (w : World) (hv : Strs w v fields) (hn : fields.length ≤ 100000) (hsl : s.length ≤ 1000000) (hfs : ∀ f ∈ fields, f.length ≤ 1000000) (hT : Tabs w) :
    Calls Tryd.prog 52 #[v, .string ⟨s.toArray⟩] w fun e w' => ∃ v1 v2, e = .returned (.tuple #[v1, v2]) ∧ OwnS w.heap.size w' v1 ((List.range fields.length).map (saltS s)) ∧ OwnS w.heap.size w' v2 ((List.range fields.length).map (eleS fields s)) ∧ Below w.heap.size w w' := by
  obtain ⟨fa, fcap, rfl, hfl, hfa⟩ := hv.form
  have HV := Lib.hid hv
  have HT := Lib.hid hT
  clear hv hT
  refine (callsIn_wide (n := 3)).1 ?_
  refine callsIn_of_wp_marks Tryd.func52 rfl trivial ?_ rfl
  simp only [Tryd.ntmps52, List.size_toArray, List.length_cons, List.length_nil, Nat.reduceAdd, Nat.reduceSub, Array.replicate_succ, Array.replicate_zero, List.push_toArray, List.append_toArray, List.nil_append, List.cons_append]
  gi_wp2_with fail
  refine ⟨trivial, (callsIn_wide.2 (elements_any _ _ _ _ _)).mono ?_⟩
  rintro e w' ⟨rfl, rfl⟩
  obtain ⟨sb, esb⟩ : ∃ sb, sb = w.heap.size := ⟨_, rfl⟩
  obtain ⟨W0, hW0⟩ : ∃ W0, W0 = (((w.alloc (.cells #[.slice none 0 0] 22)).alloc (.cells #[.slice none 0 0] 22)).alloc (.cells #[.slice fa fields.length fcap] 22)).alloc (.cells #[.string ⟨s.toArray⟩] 9) := ⟨_, rfl⟩
  have hsz : W0.heap.size = sb + 4 := by rw [hW0, esb]; simp
  have hf0 : Fr [] w W0 := by rw [hW0]; exact ((((Fr.refl [] w).alloc _).alloc _).alloc _).alloc _
  have hb1 : Boxed W0 sb 22 (.slice none 0 0) := by rw [hW0, esb]; exact heap_past _ (heap_past _ (heap_past _ (heap_new rfl)))
  have hb2 : Boxed W0 (sb + 1) 22 (.slice none 0 0) := by rw [hW0, esb]; exact heap_past _ (heap_past _ (heap_new (by simp)))
  have hbf : W0.heap[sb + 1 + 1]? = some (.cells #[.slice fa fields.length fcap] 22 (0, 0)) := by rw [hW0, esb]; exact heap_past _ (heap_new (by simp))
  have hbt : W0.heap[sb + 1 + 1 + 1]? = some (.cells #[.string ⟨s.toArray⟩] 9 (0, 0)) := by rw [hW0, esb]; exact heap_new (by simp)
  simp only [World.size_alloc]
  rw [← hW0, ← esb]
  have ESB := Lib.hid esb
  clear hW0 esb
  gi_wp2_with fail
  have hfv0 : ∀ k, (Value.slice fa fields.length fcap).ownBlock = some k → k < w.heap.size := fun k hk => by
    rcases HV.out with ⟨h, _⟩ | ⟨b, off, cap, h, _, _, hb, _⟩
    · rw [h] at hk; simp [Value.ownBlock] at hk
    · rw [h] at hk
      obtain rfl : b = k := by simpa [Value.ownBlock] using hk
      exact hb
  refine wpIn_rangeFunc_ownF rfl (by decide) (gf := 107) (lb := #[.pointer (some ⟨sb + 1 + 1, 0, none⟩), .pointer (some ⟨sb + 1 + 1 + 1, 0, none⟩)]) rfl trivial (enters_of Tryd.func107 (by kernel_rfl) rfl)
    (elements_stops 2 (sb + 1 + 1) (sb + 1 + 1 + 1) (.slice fa fields.length fcap) fields s W0 (by decide) hn hsl hfs (HV.out.fr0 hf0) hbf hbt (HT.out.fr hf0)) KpE.t
    (fun W l o o' hl ho _ _ => KpE.fr (X := [l]) (B := w.heap.size) ((Fr.refl [l] W).grown (grownBy_putObj' W l o') (fun r e => by cases e; simp)) HT.out (Nat.le_refl _) (by have := ESB.out; simp; omega) (fun k hk hm => by have := hfv0 k hk; have := ESB.out; simp at hm; omega) (by simp; omega))
    (Below.refl _ _) (fun _ => rfl)
    (fun pre W => (∃ v1 v2, Boxed W sb 22 v1 ∧ Boxed W (sb + 1) 22 v2 ∧ OwnS W0.heap.size W v1 (pre.map fun k => saltS s k.val) ∧ OwnS W0.heap.size W v2 (pre.map fun k => eleS fields s k.val) ∧ Apart v1 v2) ∧ Fr [] w W ∧ W0.heap.size ≤ W.heap.size)
    (fun _ _ _ => False)
    ?own (fun _ _ _ _ _ hs _ _ => hs)
    ⟨⟨_, _, hb1, hb2, ⟨by simp, Or.inl ⟨rfl, rfl⟩⟩, ⟨by simp, Or.inl ⟨rfl, rfl⟩⟩, .nil⟩, hf0, Nat.le_refl _⟩
    (fun x => { tmps := #[.slice fa fields.length fcap, .string ⟨s.toArray⟩, undef, undef, .pointer (some ⟨sb, 0, none⟩), .pointer (some ⟨sb + 1, 0, none⟩), .string ⟨(saltS s x.val).toArray⟩, .string ⟨(eleS fields s x.val).toArray⟩, .slice fa fields.length fcap, .string ⟨s.toArray⟩, .func (.func 107) #[] #[.pointer (some ⟨sb + 1 + 1, 0, none⟩), .pointer (some ⟨sb + 1 + 1 + 1, 0, none⟩)], .string ⟨(saltS s x.val).toArray⟩, .string ⟨(eleS fields s x.val).toArray⟩, undef, undef, undef, undef, undef, undef, undef, undef, undef, undef], defers := [] }) ?assign ?body ?done ?stop
  case own =>
    rintro pre A B row ⟨⟨v1, v2, h1, h2, o1, o2, hap⟩, hfr, hsA⟩ hg hr
    have hne : ∀ b o, A.heap[b]? = some o → o.isCells = true → some b ≠ row := fun b o hb ho e => by
      obtain ⟨_, o', ho', hc⟩ := hr b e.symm
      rw [hb] at ho'; cases ho'; rw [ho] at hc; cases hc
    have hko : ∀ v l, OwnS W0.heap.size A v l → OwnS W0.heap.size B v l := fun v l ho => by
      refine ho.kept hg ?_
      rcases ho.2 with ⟨rfl, _⟩ | ⟨g', cap', cur', rfl, _, hgb, _⟩
      · exact .inl rfl
      · exact .inr (hne _ _ hgb rfl)
    exact ⟨⟨v1, v2, h1.kept hg (hne _ _ h1 rfl), h2.kept hg (hne _ _ h2 rfl), hko _ _ o1, hko _ _ o2, hap⟩, hfr.grown hg (fun r e => Or.inr (by have := (hr r e).1; have := ESB.out; omega)), Nat.le_trans hsA hg.size⟩
  case assign =>
    intro l' x V K hK
    dsimp only [encsE]
    gi_wp2
    exact hK
  case body =>
    rintro l' pre x V ⟨⟨v1, v2, h1, h2, o1, o2, hap⟩, hfr, hsV⟩ hlen
    have hmx : Tryd.prog.follows .mixedOrders = true := by kernel_rfl
    gi_wp2_with fail
    have hcv1 := h1.cell
    have hcv2 := h2.cell
    have hes : (eleS fields s x.val).length ≤ 2000000 := by
      unfold eleS
      have := hfs _ (getD_mem fields x.val [] x.2)
      have := saltS_length s x.val
      rw [List.length_append]; omega
    have l1 := o1.lt
    have l2 := o2.lt
    have own1 : ∀ k, v1.ownBlock = some k → W0.heap.size ≤ k ∧ ∀ o, V.heap[k]? = some o → o.isCells = true := ownBlock_cells o1
    have own2 : ∀ k, v2.ownBlock = some k → W0.heap.size ≤ k ∧ ∀ o, V.heap[k]? = some o → o.isCells = true := ownBlock_cells o2
    have n1 : ∀ k, k < W0.heap.size → k ∉ v1.ownBlock.toList := fun k hk hm => by have := (own1 k (by simpa using hm)).1; omega
    have n2 : ∀ k, k < W0.heap.size → k ∉ v2.ownBlock.toList := fun k hk hm => by have := (own2 k (by simpa using hm)).1; omega
    have n1' : ∀ k, V.heap.size ≤ k → k ∉ v1.ownBlock.toList := fun k hk hm => by have := l1 k (by simpa using hm); omega
    have n2' : ∀ k, V.heap.size ≤ k → k ∉ v2.ownBlock.toList := fun k hk hm => by have := l2 k (by simpa using hm); omega
    have hpl : pre.length < 100000 := by omega
    have hws : w.heap.size ≤ W0.heap.size := hf0.size
    refine regionIn_heldF 8 9 (fun W' => W'.cell? ⟨sb, 0, none⟩ = some v1) (fun W' => W'.cell? ⟨sb + 1, 0, none⟩ = some v2) hmx (by kernel_rfl) ?_
    change HeldF _ _ _ _ _ _ _ _ 10 (Array.replicate 10 false) _ _
    refine hf_take true 0 (v := v1) rfl (by kernel_rfl) (by kernel_rfl) (by kernel_rfl) rfl hcv1 hcv2 (fun W' hS => by simp only [if_true] at hS; go_simp) rfl ?_
    refine hf_take true 1 (v := .string ⟨(saltS s x.val).toArray⟩) rfl (by kernel_rfl) (by kernel_rfl) (by kernel_rfl) rfl hcv1 hcv2 (fun W' hS => by simp only [if_true] at hS; go_simp) rfl ?_
    refine hf_take false 4 (v := v2) rfl (by kernel_rfl) (by kernel_rfl) (by kernel_rfl) rfl hcv1 hcv2 (fun W' hS => by simp only [Bool.false_eq_true, if_false] at hS; go_simp) rfl ?_
    refine hf_take false 5 (v := .string ⟨(eleS fields s x.val).toArray⟩) rfl (by kernel_rfl) (by kernel_rfl) (by kernel_rfl) rfl hcv1 hcv2 (fun W' hS => by simp only [Bool.false_eq_true, if_false] at hS; go_simp) rfl ?_
    try simp only [Act.put, List.setIfInBounds_toArray, List.set_cons_zero, List.set_cons_succ]
    have f0 : Fr (v1.ownBlock.toList ++ v2.ownBlock.toList) V V.drew := (Fr.refl _ V).drew
    have fw0 : Fr [] w V.drew := hfr.drew
    have b1 : Boxed V.drew sb 22 v1 := h1
    have b2 : Boxed V.drew (sb + 1) 22 v2 := h2
    have r1 : OwnS W0.heap.size V.drew v1 (pre.map fun k => saltS s k.val) := o1.fr ((Fr.refl [] V).drew) (by simp)
    have r2 : OwnS W0.heap.size V.drew v2 (pre.map fun k => eleS fields s k.val) := o2.fr ((Fr.refl [] V).drew) (by simp)
    have z0 : V.heap.size ≤ V.drew.heap.size := Nat.le_refl _
    generalize V.drew = w0 at f0 fw0 b1 b2 r1 r2 z0 ⊢
    refine hf_two 2 6 (by kernel_rfl) rfl (by kernel_rfl) rfl rfl (by kernel_rfl) rfl (fun K' hK => ?_) (fun K' hK => ?_)
    · -- 2
      go_simp
      obtain ⟨p1, ep1⟩ : ∃ p1, p1 = w0.heap.size := ⟨_, rfl⟩
      obtain ⟨wA1, ewA1⟩ : ∃ wA1, wA1 = w0.alloc (.cells #[.string ⟨(saltS s x.val).toArray⟩] 9) := ⟨_, rfl⟩
      have ga1 : Fr [] w0 wA1 := by rw [ewA1]; exact (Fr.refl [] w0).alloc _
      have q1 : Strs wA1 (.slice (some ⟨p1, 0, none⟩) 1 1) [(saltS s x.val)] := by rw [ewA1, ep1]; exact strs_one (heap_new rfl)
      have hp1 : V.heap.size ≤ p1 := by rw [ep1]; exact z0
      have hq1 : p1 < wA1.heap.size := by rw [ewA1, ep1]; simp
      rw [← ewA1, ← ep1]
      clear ewA1 ep1
      have fA1 := f0.trans ga1 (by simp)
      have fwA1 := fw0.trans ga1 (by simp)
      have b1A1 := ga1.at b1 (by simp)
      have b2A1 := ga1.at b2 (by simp)
      have zA1 := Nat.le_trans z0 ga1.size
      have r1A1 := r1.fr ga1 (by simp)
      have r2A1 := r2.fr ga1 (by simp)
      refine hK.out _ _ (fun _ => cell_of_one b1A1) (fun _ => cell_of_one b2A1) ?_
      clear hK K'
      try simp only [Act.put, List.setIfInBounds_toArray, List.set_cons_zero, List.set_cons_succ]
      refine hf_two 3 6 (by kernel_rfl) rfl (by kernel_rfl) rfl rfl (by kernel_rfl) rfl (fun K' hK => ?_) (fun K' hK => ?_)
      · -- 2 3
        refine wp_appMa (.tmp 13) (.tmp 15) (by rfl) W0.heap.size v1 (pre.map fun k => saltS s k.val) [(saltS s x.val)] p1 0 1 1 w (by rfl) (by rfl) (by simp) ?_ ?_ fwA1 hws (Nat.le_trans hsV zA1) (by simp; omega) ?_
        · exact q1
        · exact r1A1
        intro nv wB2 ho2 fwB2 hg2 hat2
        obtain ⟨g1, c1, rfl⟩ := ho2.slice (n := pre.length + 1) (by simp) (by omega)
        have fB2 := fA1.trans hg2 (fun k hk => Or.inl (by simp at hk ⊢; exact Or.inl hk))
        have b1B2 := hg2.at b1A1 (n1 _ (by omega))
        have b2B2 := hg2.at b2A1 (n1 _ (by omega))
        have zB2 := Nat.le_trans zA1 hg2.size
        have apB2 : Apart (.slice (some ⟨g1, 0, none⟩) (pre.length + 1) c1) v2 := fun k hk hk2 => by
          rcases hat2 with e | e
          · exact hap k (by rw [← e]; exact hk) hk2
          · rw [hk] at e; cases e
            have := l2 _ hk2; omega
        have r2B2 := r2A1.fr hg2 (fun k hk hm => hap k (by simpa using hm) hk)
        refine hK.out _ _ (fun _ => cell_of_one b1B2) (fun _ => cell_of_one b2B2) ?_
        clear hK K'
        try simp only [Act.put, List.setIfInBounds_toArray, List.set_cons_zero, List.set_cons_succ]
        refine hf_one 6 (by kernel_rfl) rfl (by kernel_rfl) rfl (fun K' hK => ?_)
        go_simp
        obtain ⟨p2, ep2⟩ : ∃ p2, p2 = wB2.heap.size := ⟨_, rfl⟩
        obtain ⟨wA3, ewA3⟩ : ∃ wA3, wA3 = wB2.alloc (.cells #[.string ⟨(eleS fields s x.val).toArray⟩] 9) := ⟨_, rfl⟩
        have ga3 : Fr [] wB2 wA3 := by rw [ewA3]; exact (Fr.refl [] wB2).alloc _
        have q2 : Strs wA3 (.slice (some ⟨p2, 0, none⟩) 1 1) [(eleS fields s x.val)] := by rw [ewA3, ep2]; exact strs_one (heap_new rfl)
        have hp2 : V.heap.size ≤ p2 := by rw [ep2]; exact zB2
        have hq2 : p2 < wA3.heap.size := by rw [ewA3, ep2]; simp
        rw [← ewA3, ← ep2]
        clear ewA3 ep2
        have fA3 := fB2.trans ga3 (by simp)
        have fwA3 := fwB2.trans ga3 (by simp)
        have b1A3 := ga3.at b1B2 (by simp)
        have b2A3 := ga3.at b2B2 (by simp)
        have zA3 := Nat.le_trans zB2 ga3.size
        have r2A3 := r2B2.fr ga3 (by simp)
        have ho1A3 := ho2.fr ga3 (by simp)
        refine hK.out _ _ (fun _ => cell_of_one b1A3) (fun _ => cell_of_one b2A3) ?_
        clear hK K'
        try simp only [Act.put, List.setIfInBounds_toArray, List.set_cons_zero, List.set_cons_succ]
        refine hf_one 7 (by kernel_rfl) rfl (by kernel_rfl) rfl (fun K' hK => ?_)
        refine wp_appMa (.tmp 17) (.tmp 19) (by rfl) W0.heap.size v2 (pre.map fun k => eleS fields s k.val) [(eleS fields s x.val)] p2 0 1 1 w (by rfl) (by rfl) (by simp) ?_ ?_ fwA3 hws (Nat.le_trans hsV zA3) (by simp; omega) ?_
        · exact q2
        · exact r2A3
        intro nv wB4 ho4 fwB4 hg4 hat4
        obtain ⟨g2, c2, rfl⟩ := ho4.slice (n := pre.length + 1) (by simp) (by omega)
        have fB4 := fA3.trans hg4 (fun k hk => Or.inl (by simp at hk ⊢; exact Or.inr hk))
        have b1B4 := hg4.at b1A3 (n2 _ (by omega))
        have b2B4 := hg4.at b2A3 (n2 _ (by omega))
        have zB4 := Nat.le_trans zA3 hg4.size
        have ho1B4 := ho1A3.fr hg4 (fun k hk hm => apB2 k hk (by simpa using hm))
        have apB4 : Apart (.slice (some ⟨g1, 0, none⟩) (pre.length + 1) c1) (.slice (some ⟨g2, 0, none⟩) (pre.length + 1) c2) := fun k hk hk2 => by
          rcases hat4 with e | e
          · exact apB2 k hk (by rw [← e]; exact hk2)
          · rw [hk2] at e; cases e
            have h := (let ⟨_, _, h, _⟩ := ho1A3.formG (n := pre.length + 1) (by simp); lt_of_block h)
            obtain rfl : g1 = wA3.heap.size := by simpa [Value.ownBlock] using hk
            omega
        refine hK.out _ _ (fun _ => cell_of_one b1B4) (fun _ => cell_of_one b2B4) ?_
        clear hK K'
        try simp only [Act.put, List.setIfInBounds_toArray, List.set_cons_zero, List.set_cons_succ]
        have cA1 := cell_of_one b1B4
        have cA2 := free_of_one b1B4
        refine hf_one 8 (by kernel_rfl) rfl (by kernel_rfl) rfl (fun K' hK => ?_)
        go_simp
        have bX2 : Boxed (wB4.setCell ⟨sb, 0, none⟩ (.slice (some ⟨g1, 0, none⟩) (pre.length + 1) c1)) (sb + 1) 22 v2 := Boxed.other b2B4 (by omega) _
        refine hK.out _ _ (fun h => absurd h (by decide)) (fun _ => bX2.cell) ?_
        clear hK K'
        have cB1 := cell_of_one bX2
        have cB2 := free_of_one bX2
        refine hf_one 9 (by kernel_rfl) rfl (by kernel_rfl) rfl (fun K' hK => ?_)
        go_simp
        refine hK.out _ _ (fun h => absurd h (by decide)) (fun h => absurd h (by decide)) ?_
        clear hK K'
        refine heldF_done (by kernel_rfl) ?_
        have hall : Fr (sb :: (sb + 1) :: (v1.ownBlock.toList ++ v2.ownBlock.toList)) V ((wB4.setCell ⟨sb, 0, none⟩ (.slice (some ⟨g1, 0, none⟩) (pre.length + 1) c1)).setCell ⟨sb + 1, 0, none⟩ (.slice (some ⟨g2, 0, none⟩) (pre.length + 1) c2)) := (((fB4.mono (fun y hy => Or.inl (List.mem_cons_of_mem _ (List.mem_cons_of_mem _ hy)))).setCell _ _ (by simp)).setCell _ _ (by simp))
        have bz0 : Boxed wB4 sb 22 v1 := b1B4
        have bz1 : Boxed (wB4.setCell ⟨sb, 0, none⟩ (.slice (some ⟨g1, 0, none⟩) (pre.length + 1) c1)) sb 22 (.slice (some ⟨g1, 0, none⟩) (pre.length + 1) c1) := bz0.set _
        have BX : Hid (Boxed ((wB4.setCell ⟨sb, 0, none⟩ (.slice (some ⟨g1, 0, none⟩) (pre.length + 1) c1)).setCell ⟨sb + 1, 0, none⟩ (.slice (some ⟨g2, 0, none⟩) (pre.length + 1) c2)) sb 22 (.slice (some ⟨g1, 0, none⟩) (pre.length + 1) c1)) := Lib.hid (bz1.other (by omega) _)
        have BY : Hid (Boxed ((wB4.setCell ⟨sb, 0, none⟩ (.slice (some ⟨g1, 0, none⟩) (pre.length + 1) c1)).setCell ⟨sb + 1, 0, none⟩ (.slice (some ⟨g2, 0, none⟩) (pre.length + 1) c2)) (sb + 1) 22 (.slice (some ⟨g2, 0, none⟩) (pre.length + 1) c2)) := Lib.hid (bX2.set _)
        have FW : Hid (Fr [] w ((wB4.setCell ⟨sb, 0, none⟩ (.slice (some ⟨g1, 0, none⟩) (pre.length + 1) c1)).setCell ⟨sb + 1, 0, none⟩ (.slice (some ⟨g2, 0, none⟩) (pre.length + 1) c2))) := Lib.hid ((fwB4.setCell _ _ (by right; have := ESB.out; simp only; omega)).setCell _ _ (by right; have := ESB.out; simp only; omega))
        have fst : Fr [sb, sb + 1] wB4 ((wB4.setCell ⟨sb, 0, none⟩ (.slice (some ⟨g1, 0, none⟩) (pre.length + 1) c1)).setCell ⟨sb + 1, 0, none⟩ (.slice (some ⟨g2, 0, none⟩) (pre.length + 1) c2)) := ((Fr.refl _ _).setCell _ _ (by simp)).setCell _ _ (by simp)
        have hO1 : Hid (OwnS W0.heap.size ((wB4.setCell ⟨sb, 0, none⟩ (.slice (some ⟨g1, 0, none⟩) (pre.length + 1) c1)).setCell ⟨sb + 1, 0, none⟩ (.slice (some ⟨g2, 0, none⟩) (pre.length + 1) c2)) (.slice (some ⟨g1, 0, none⟩) (pre.length + 1) c1) ((pre ++ [x]).map fun k => saltS s k.val)) := Lib.hid (by
          rw [List.map_append, List.map_singleton]
          exact ho1B4.fr fst (fun k hk hm => by have := (ownBlock_cells ho1B4 k hk).1; simp at hm; omega))
        have hO2 : Hid (OwnS W0.heap.size ((wB4.setCell ⟨sb, 0, none⟩ (.slice (some ⟨g1, 0, none⟩) (pre.length + 1) c1)).setCell ⟨sb + 1, 0, none⟩ (.slice (some ⟨g2, 0, none⟩) (pre.length + 1) c2)) (.slice (some ⟨g2, 0, none⟩) (pre.length + 1) c2) ((pre ++ [x]).map fun k => eleS fields s k.val)) := Lib.hid (by
          rw [List.map_append, List.map_singleton]
          exact ho4.fr fst (fun k hk hm => by have := (ownBlock_cells ho4 k hk).1; simp at hm; omega))
        have HALL := Lib.hid hall
        have HAPX := Lib.hid apB4
        clear cA1 cA2 cB1 cB2 bX2 fst hall bz0 bz1
        gi_wp2_with fail
        have hall := HALL.out
        refine ⟨keepsOthers_fr1 hall (fun k hk o ho => ?_), KpE.fr hall HT.out (Nat.le_refl _) (fun k hk => ?_) (fun k hk hm => ?_) (fun hm => ?_), ⟨_, _, BX.out, BY.out, hO1.out, hO2.out, HAPX.out⟩, FW.out, Nat.le_trans hsV hall.size⟩
        · rcases List.mem_cons.1 hk with rfl | hk
          · rw [show V.heap[k]? = _ from h1] at ho; cases ho; rfl
          · rcases List.mem_cons.1 hk with rfl | hk
            · rw [show V.heap[sb + 1]? = _ from h2] at ho; cases ho; rfl
            · rcases List.mem_append.1 hk with hk | hk
              · exact (own1 k (by simpa using hk)).2 o ho
              · exact (own2 k (by simpa using hk)).2 o ho
        · have := ESB.out
          rcases List.mem_cons.1 hk with rfl | hk
          · omega
          · rcases List.mem_cons.1 hk with rfl | hk
            · omega
            · rcases List.mem_append.1 hk with hk | hk
              · have := (own1 k (by simpa using hk)).1; omega
              · have := (own2 k (by simpa using hk)).1; omega
        · have h5 := hfv0 k hk
          have := ESB.out
          rcases List.mem_cons.1 hm with h | hm
          · omega
          · rcases List.mem_cons.1 hm with h | hm
            · omega
            · rcases List.mem_append.1 hm with hm | hm
              · exact n1 k (by omega) hm
              · exact n2 k (by omega) hm
        · rcases List.mem_cons.1 hm with h | hm
          · omega
          · rcases List.mem_cons.1 hm with h | hm
            · omega
            · rcases List.mem_append.1 hm with hm | hm
              · exact n1 _ (by omega) hm
              · exact n2 _ (by omega) hm
      · -- 2 6
        go_simp
        obtain ⟨p2, ep2⟩ : ∃ p2, p2 = wA1.heap.size := ⟨_, rfl⟩
        obtain ⟨wA5, ewA5⟩ : ∃ wA5, wA5 = wA1.alloc (.cells #[.string ⟨(eleS fields s x.val).toArray⟩] 9) := ⟨_, rfl⟩
        have ga5 : Fr [] wA1 wA5 := by rw [ewA5]; exact (Fr.refl [] wA1).alloc _
        have q2 : Strs wA5 (.slice (some ⟨p2, 0, none⟩) 1 1) [(eleS fields s x.val)] := by rw [ewA5, ep2]; exact strs_one (heap_new rfl)
        have hp2 : V.heap.size ≤ p2 := by rw [ep2]; exact zA1
        have hq2 : p2 < wA5.heap.size := by rw [ewA5, ep2]; simp
        rw [← ewA5, ← ep2]
        clear ewA5 ep2
        have fA5 := fA1.trans ga5 (by simp)
        have fwA5 := fwA1.trans ga5 (by simp)
        have b1A5 := ga5.at b1A1 (by simp)
        have b2A5 := ga5.at b2A1 (by simp)
        have zA5 := Nat.le_trans zA1 ga5.size
        have r1A5 := r1A1.fr ga5 (by simp)
        have r2A5 := r2A1.fr ga5 (by simp)
        have q1A5 := q1.fr0 ga5
        refine hK.out _ _ (fun _ => cell_of_one b1A5) (fun _ => cell_of_one b2A5) ?_
        clear hK K'
        try simp only [Act.put, List.setIfInBounds_toArray, List.set_cons_zero, List.set_cons_succ]
        refine hf_one 3 (by kernel_rfl) rfl (by kernel_rfl) rfl (fun K' hK => ?_)
        refine wp_appMa (.tmp 13) (.tmp 15) (by rfl) W0.heap.size v1 (pre.map fun k => saltS s k.val) [(saltS s x.val)] p1 0 1 1 w (by rfl) (by rfl) (by simp) ?_ ?_ fwA5 hws (Nat.le_trans hsV zA5) (by simp; omega) ?_
        · exact q1A5
        · exact r1A5
        intro nv wB6 ho6 fwB6 hg6 hat6
        obtain ⟨g1, c1, rfl⟩ := ho6.slice (n := pre.length + 1) (by simp) (by omega)
        have fB6 := fA5.trans hg6 (fun k hk => Or.inl (by simp at hk ⊢; exact Or.inl hk))
        have b1B6 := hg6.at b1A5 (n1 _ (by omega))
        have b2B6 := hg6.at b2A5 (n1 _ (by omega))
        have zB6 := Nat.le_trans zA5 hg6.size
        have apB6 : Apart (.slice (some ⟨g1, 0, none⟩) (pre.length + 1) c1) v2 := fun k hk hk2 => by
          rcases hat6 with e | e
          · exact hap k (by rw [← e]; exact hk) hk2
          · rw [hk] at e; cases e
            have := l2 _ hk2; omega
        have r2B6 := r2A5.fr hg6 (fun k hk hm => hap k (by simpa using hm) hk)
        have q2B6 := q2.frN hg6 (n1' _ hp2)
        refine hK.out _ _ (fun _ => cell_of_one b1B6) (fun _ => cell_of_one b2B6) ?_
        clear hK K'
        try simp only [Act.put, List.setIfInBounds_toArray, List.set_cons_zero, List.set_cons_succ]
        refine hf_one 7 (by kernel_rfl) rfl (by kernel_rfl) rfl (fun K' hK => ?_)
        refine wp_appMa (.tmp 17) (.tmp 19) (by rfl) W0.heap.size v2 (pre.map fun k => eleS fields s k.val) [(eleS fields s x.val)] p2 0 1 1 w (by rfl) (by rfl) (by simp) ?_ ?_ fwB6 hws (Nat.le_trans hsV zB6) (by simp; omega) ?_
        · exact q2B6
        · exact r2B6
        intro nv wB7 ho7 fwB7 hg7 hat7
        obtain ⟨g2, c2, rfl⟩ := ho7.slice (n := pre.length + 1) (by simp) (by omega)
        have fB7 := fB6.trans hg7 (fun k hk => Or.inl (by simp at hk ⊢; exact Or.inr hk))
        have b1B7 := hg7.at b1B6 (n2 _ (by omega))
        have b2B7 := hg7.at b2B6 (n2 _ (by omega))
        have zB7 := Nat.le_trans zB6 hg7.size
        have ho1B7 := ho6.fr hg7 (fun k hk hm => apB6 k hk (by simpa using hm))
        have apB7 : Apart (.slice (some ⟨g1, 0, none⟩) (pre.length + 1) c1) (.slice (some ⟨g2, 0, none⟩) (pre.length + 1) c2) := fun k hk hk2 => by
          rcases hat7 with e | e
          · exact apB6 k hk (by rw [← e]; exact hk2)
          · rw [hk2] at e; cases e
            have h := (let ⟨_, _, h, _⟩ := ho6.formG (n := pre.length + 1) (by simp); lt_of_block h)
            obtain rfl : g1 = wB6.heap.size := by simpa [Value.ownBlock] using hk
            omega
        refine hK.out _ _ (fun _ => cell_of_one b1B7) (fun _ => cell_of_one b2B7) ?_
        clear hK K'
        try simp only [Act.put, List.setIfInBounds_toArray, List.set_cons_zero, List.set_cons_succ]
        have cA1 := cell_of_one b1B7
        have cA2 := free_of_one b1B7
        refine hf_one 8 (by kernel_rfl) rfl (by kernel_rfl) rfl (fun K' hK => ?_)
        go_simp
        have bX2 : Boxed (wB7.setCell ⟨sb, 0, none⟩ (.slice (some ⟨g1, 0, none⟩) (pre.length + 1) c1)) (sb + 1) 22 v2 := Boxed.other b2B7 (by omega) _
        refine hK.out _ _ (fun h => absurd h (by decide)) (fun _ => bX2.cell) ?_
        clear hK K'
        have cB1 := cell_of_one bX2
        have cB2 := free_of_one bX2
        refine hf_one 9 (by kernel_rfl) rfl (by kernel_rfl) rfl (fun K' hK => ?_)
        go_simp
        refine hK.out _ _ (fun h => absurd h (by decide)) (fun h => absurd h (by decide)) ?_
        clear hK K'
        refine heldF_done (by kernel_rfl) ?_
        have hall : Fr (sb :: (sb + 1) :: (v1.ownBlock.toList ++ v2.ownBlock.toList)) V ((wB7.setCell ⟨sb, 0, none⟩ (.slice (some ⟨g1, 0, none⟩) (pre.length + 1) c1)).setCell ⟨sb + 1, 0, none⟩ (.slice (some ⟨g2, 0, none⟩) (pre.length + 1) c2)) := (((fB7.mono (fun y hy => Or.inl (List.mem_cons_of_mem _ (List.mem_cons_of_mem _ hy)))).setCell _ _ (by simp)).setCell _ _ (by simp))
        have bz0 : Boxed wB7 sb 22 v1 := b1B7
        have bz1 : Boxed (wB7.setCell ⟨sb, 0, none⟩ (.slice (some ⟨g1, 0, none⟩) (pre.length + 1) c1)) sb 22 (.slice (some ⟨g1, 0, none⟩) (pre.length + 1) c1) := bz0.set _
        have BX : Hid (Boxed ((wB7.setCell ⟨sb, 0, none⟩ (.slice (some ⟨g1, 0, none⟩) (pre.length + 1) c1)).setCell ⟨sb + 1, 0, none⟩ (.slice (some ⟨g2, 0, none⟩) (pre.length + 1) c2)) sb 22 (.slice (some ⟨g1, 0, none⟩) (pre.length + 1) c1)) := Lib.hid (bz1.other (by omega) _)
        have BY : Hid (Boxed ((wB7.setCell ⟨sb, 0, none⟩ (.slice (some ⟨g1, 0, none⟩) (pre.length + 1) c1)).setCell ⟨sb + 1, 0, none⟩ (.slice (some ⟨g2, 0, none⟩) (pre.length + 1) c2)) (sb + 1) 22 (.slice (some ⟨g2, 0, none⟩) (pre.length + 1) c2)) := Lib.hid (bX2.set _)
        have FW : Hid (Fr [] w ((wB7.setCell ⟨sb, 0, none⟩ (.slice (some ⟨g1, 0, none⟩) (pre.length + 1) c1)).setCell ⟨sb + 1, 0, none⟩ (.slice (some ⟨g2, 0, none⟩) (pre.length + 1) c2))) := Lib.hid ((fwB7.setCell _ _ (by right; have := ESB.out; simp only; omega)).setCell _ _ (by right; have := ESB.out; simp only; omega))
        have fst : Fr [sb, sb + 1] wB7 ((wB7.setCell ⟨sb, 0, none⟩ (.slice (some ⟨g1, 0, none⟩) (pre.length + 1) c1)).setCell ⟨sb + 1, 0, none⟩ (.slice (some ⟨g2, 0, none⟩) (pre.length + 1) c2)) := ((Fr.refl _ _).setCell _ _ (by simp)).setCell _ _ (by simp)
        have hO1 : Hid (OwnS W0.heap.size ((wB7.setCell ⟨sb, 0, none⟩ (.slice (some ⟨g1, 0, none⟩) (pre.length + 1) c1)).setCell ⟨sb + 1, 0, none⟩ (.slice (some ⟨g2, 0, none⟩) (pre.length + 1) c2)) (.slice (some ⟨g1, 0, none⟩) (pre.length + 1) c1) ((pre ++ [x]).map fun k => saltS s k.val)) := Lib.hid (by
          rw [List.map_append, List.map_singleton]
          exact ho1B7.fr fst (fun k hk hm => by have := (ownBlock_cells ho1B7 k hk).1; simp at hm; omega))
        have hO2 : Hid (OwnS W0.heap.size ((wB7.setCell ⟨sb, 0, none⟩ (.slice (some ⟨g1, 0, none⟩) (pre.length + 1) c1)).setCell ⟨sb + 1, 0, none⟩ (.slice (some ⟨g2, 0, none⟩) (pre.length + 1) c2)) (.slice (some ⟨g2, 0, none⟩) (pre.length + 1) c2) ((pre ++ [x]).map fun k => eleS fields s k.val)) := Lib.hid (by
          rw [List.map_append, List.map_singleton]
          exact ho7.fr fst (fun k hk hm => by have := (ownBlock_cells ho7 k hk).1; simp at hm; omega))
        have HALL := Lib.hid hall
        have HAPX := Lib.hid apB7
        clear cA1 cA2 cB1 cB2 bX2 fst hall bz0 bz1
        gi_wp2_with fail
        have hall := HALL.out
        refine ⟨keepsOthers_fr1 hall (fun k hk o ho => ?_), KpE.fr hall HT.out (Nat.le_refl _) (fun k hk => ?_) (fun k hk hm => ?_) (fun hm => ?_), ⟨_, _, BX.out, BY.out, hO1.out, hO2.out, HAPX.out⟩, FW.out, Nat.le_trans hsV hall.size⟩
        · rcases List.mem_cons.1 hk with rfl | hk
          · rw [show V.heap[k]? = _ from h1] at ho; cases ho; rfl
          · rcases List.mem_cons.1 hk with rfl | hk
            · rw [show V.heap[sb + 1]? = _ from h2] at ho; cases ho; rfl
            · rcases List.mem_append.1 hk with hk | hk
              · exact (own1 k (by simpa using hk)).2 o ho
              · exact (own2 k (by simpa using hk)).2 o ho
        · have := ESB.out
          rcases List.mem_cons.1 hk with rfl | hk
          · omega
          · rcases List.mem_cons.1 hk with rfl | hk
            · omega
            · rcases List.mem_append.1 hk with hk | hk
              · have := (own1 k (by simpa using hk)).1; omega
              · have := (own2 k (by simpa using hk)).1; omega
        · have h5 := hfv0 k hk
          have := ESB.out
          rcases List.mem_cons.1 hm with h | hm
          · omega
          · rcases List.mem_cons.1 hm with h | hm
            · omega
            · rcases List.mem_append.1 hm with hm | hm
              · exact n1 k (by omega) hm
              · exact n2 k (by omega) hm
        · rcases List.mem_cons.1 hm with h | hm
          · omega
          · rcases List.mem_cons.1 hm with h | hm
            · omega
            · rcases List.mem_append.1 hm with hm | hm
              · exact n1 _ (by omega) hm
              · exact n2 _ (by omega) hm
    · -- 6
      go_simp
      obtain ⟨p2, ep2⟩ : ∃ p2, p2 = w0.heap.size := ⟨_, rfl⟩
      obtain ⟨wA8, ewA8⟩ : ∃ wA8, wA8 = w0.alloc (.cells #[.string ⟨(eleS fields s x.val).toArray⟩] 9) := ⟨_, rfl⟩
      have ga8 : Fr [] w0 wA8 := by rw [ewA8]; exact (Fr.refl [] w0).alloc _
      have q2 : Strs wA8 (.slice (some ⟨p2, 0, none⟩) 1 1) [(eleS fields s x.val)] := by rw [ewA8, ep2]; exact strs_one (heap_new rfl)
      have hp2 : V.heap.size ≤ p2 := by rw [ep2]; exact z0
      have hq2 : p2 < wA8.heap.size := by rw [ewA8, ep2]; simp
      rw [← ewA8, ← ep2]
      clear ewA8 ep2
      have fA8 := f0.trans ga8 (by simp)
      have fwA8 := fw0.trans ga8 (by simp)
      have b1A8 := ga8.at b1 (by simp)
      have b2A8 := ga8.at b2 (by simp)
      have zA8 := Nat.le_trans z0 ga8.size
      have r1A8 := r1.fr ga8 (by simp)
      have r2A8 := r2.fr ga8 (by simp)
      refine hK.out _ _ (fun _ => cell_of_one b1A8) (fun _ => cell_of_one b2A8) ?_
      clear hK K'
      try simp only [Act.put, List.setIfInBounds_toArray, List.set_cons_zero, List.set_cons_succ]
      refine hf_one 2 (by kernel_rfl) rfl (by kernel_rfl) rfl (fun K' hK => ?_)
      go_simp
      obtain ⟨p1, ep1⟩ : ∃ p1, p1 = wA8.heap.size := ⟨_, rfl⟩
      obtain ⟨wA9, ewA9⟩ : ∃ wA9, wA9 = wA8.alloc (.cells #[.string ⟨(saltS s x.val).toArray⟩] 9) := ⟨_, rfl⟩
      have ga9 : Fr [] wA8 wA9 := by rw [ewA9]; exact (Fr.refl [] wA8).alloc _
      have q1 : Strs wA9 (.slice (some ⟨p1, 0, none⟩) 1 1) [(saltS s x.val)] := by rw [ewA9, ep1]; exact strs_one (heap_new rfl)
      have hp1 : V.heap.size ≤ p1 := by rw [ep1]; exact zA8
      have hq1 : p1 < wA9.heap.size := by rw [ewA9, ep1]; simp
      rw [← ewA9, ← ep1]
      clear ewA9 ep1
      have fA9 := fA8.trans ga9 (by simp)
      have fwA9 := fwA8.trans ga9 (by simp)
      have b1A9 := ga9.at b1A8 (by simp)
      have b2A9 := ga9.at b2A8 (by simp)
      have zA9 := Nat.le_trans zA8 ga9.size
      have r1A9 := r1A8.fr ga9 (by simp)
      have r2A9 := r2A8.fr ga9 (by simp)
      have q2A9 := q2.fr0 ga9
      refine hK.out _ _ (fun _ => cell_of_one b1A9) (fun _ => cell_of_one b2A9) ?_
      clear hK K'
      try simp only [Act.put, List.setIfInBounds_toArray, List.set_cons_zero, List.set_cons_succ]
      refine hf_one 3 (by kernel_rfl) rfl (by kernel_rfl) rfl (fun K' hK => ?_)
      refine wp_appMa (.tmp 13) (.tmp 15) (by rfl) W0.heap.size v1 (pre.map fun k => saltS s k.val) [(saltS s x.val)] p1 0 1 1 w (by rfl) (by rfl) (by simp) ?_ ?_ fwA9 hws (Nat.le_trans hsV zA9) (by simp; omega) ?_
      · exact q1
      · exact r1A9
      intro nv wB10 ho10 fwB10 hg10 hat10
      obtain ⟨g1, c1, rfl⟩ := ho10.slice (n := pre.length + 1) (by simp) (by omega)
      have fB10 := fA9.trans hg10 (fun k hk => Or.inl (by simp at hk ⊢; exact Or.inl hk))
      have b1B10 := hg10.at b1A9 (n1 _ (by omega))
      have b2B10 := hg10.at b2A9 (n1 _ (by omega))
      have zB10 := Nat.le_trans zA9 hg10.size
      have apB10 : Apart (.slice (some ⟨g1, 0, none⟩) (pre.length + 1) c1) v2 := fun k hk hk2 => by
        rcases hat10 with e | e
        · exact hap k (by rw [← e]; exact hk) hk2
        · rw [hk] at e; cases e
          have := l2 _ hk2; omega
      have r2B10 := r2A9.fr hg10 (fun k hk hm => hap k (by simpa using hm) hk)
      have q2B10 := q2A9.frN hg10 (n1' _ hp2)
      refine hK.out _ _ (fun _ => cell_of_one b1B10) (fun _ => cell_of_one b2B10) ?_
      clear hK K'
      try simp only [Act.put, List.setIfInBounds_toArray, List.set_cons_zero, List.set_cons_succ]
      refine hf_one 7 (by kernel_rfl) rfl (by kernel_rfl) rfl (fun K' hK => ?_)
      refine wp_appMa (.tmp 17) (.tmp 19) (by rfl) W0.heap.size v2 (pre.map fun k => eleS fields s k.val) [(eleS fields s x.val)] p2 0 1 1 w (by rfl) (by rfl) (by simp) ?_ ?_ fwB10 hws (Nat.le_trans hsV zB10) (by simp; omega) ?_
      · exact q2B10
      · exact r2B10
      intro nv wB11 ho11 fwB11 hg11 hat11
      obtain ⟨g2, c2, rfl⟩ := ho11.slice (n := pre.length + 1) (by simp) (by omega)
      have fB11 := fB10.trans hg11 (fun k hk => Or.inl (by simp at hk ⊢; exact Or.inr hk))
      have b1B11 := hg11.at b1B10 (n2 _ (by omega))
      have b2B11 := hg11.at b2B10 (n2 _ (by omega))
      have zB11 := Nat.le_trans zB10 hg11.size
      have ho1B11 := ho10.fr hg11 (fun k hk hm => apB10 k hk (by simpa using hm))
      have apB11 : Apart (.slice (some ⟨g1, 0, none⟩) (pre.length + 1) c1) (.slice (some ⟨g2, 0, none⟩) (pre.length + 1) c2) := fun k hk hk2 => by
        rcases hat11 with e | e
        · exact apB10 k hk (by rw [← e]; exact hk2)
        · rw [hk2] at e; cases e
          have h := (let ⟨_, _, h, _⟩ := ho10.formG (n := pre.length + 1) (by simp); lt_of_block h)
          obtain rfl : g1 = wB10.heap.size := by simpa [Value.ownBlock] using hk
          omega
      refine hK.out _ _ (fun _ => cell_of_one b1B11) (fun _ => cell_of_one b2B11) ?_
      clear hK K'
      try simp only [Act.put, List.setIfInBounds_toArray, List.set_cons_zero, List.set_cons_succ]
      have cA1 := cell_of_one b1B11
      have cA2 := free_of_one b1B11
      refine hf_one 8 (by kernel_rfl) rfl (by kernel_rfl) rfl (fun K' hK => ?_)
      go_simp
      have bX2 : Boxed (wB11.setCell ⟨sb, 0, none⟩ (.slice (some ⟨g1, 0, none⟩) (pre.length + 1) c1)) (sb + 1) 22 v2 := Boxed.other b2B11 (by omega) _
      refine hK.out _ _ (fun h => absurd h (by decide)) (fun _ => bX2.cell) ?_
      clear hK K'
      have cB1 := cell_of_one bX2
      have cB2 := free_of_one bX2
      refine hf_one 9 (by kernel_rfl) rfl (by kernel_rfl) rfl (fun K' hK => ?_)
      go_simp
      refine hK.out _ _ (fun h => absurd h (by decide)) (fun h => absurd h (by decide)) ?_
      clear hK K'
      refine heldF_done (by kernel_rfl) ?_
      have hall : Fr (sb :: (sb + 1) :: (v1.ownBlock.toList ++ v2.ownBlock.toList)) V ((wB11.setCell ⟨sb, 0, none⟩ (.slice (some ⟨g1, 0, none⟩) (pre.length + 1) c1)).setCell ⟨sb + 1, 0, none⟩ (.slice (some ⟨g2, 0, none⟩) (pre.length + 1) c2)) := (((fB11.mono (fun y hy => Or.inl (List.mem_cons_of_mem _ (List.mem_cons_of_mem _ hy)))).setCell _ _ (by simp)).setCell _ _ (by simp))
      have bz0 : Boxed wB11 sb 22 v1 := b1B11
      have bz1 : Boxed (wB11.setCell ⟨sb, 0, none⟩ (.slice (some ⟨g1, 0, none⟩) (pre.length + 1) c1)) sb 22 (.slice (some ⟨g1, 0, none⟩) (pre.length + 1) c1) := bz0.set _
      have BX : Hid (Boxed ((wB11.setCell ⟨sb, 0, none⟩ (.slice (some ⟨g1, 0, none⟩) (pre.length + 1) c1)).setCell ⟨sb + 1, 0, none⟩ (.slice (some ⟨g2, 0, none⟩) (pre.length + 1) c2)) sb 22 (.slice (some ⟨g1, 0, none⟩) (pre.length + 1) c1)) := Lib.hid (bz1.other (by omega) _)
      have BY : Hid (Boxed ((wB11.setCell ⟨sb, 0, none⟩ (.slice (some ⟨g1, 0, none⟩) (pre.length + 1) c1)).setCell ⟨sb + 1, 0, none⟩ (.slice (some ⟨g2, 0, none⟩) (pre.length + 1) c2)) (sb + 1) 22 (.slice (some ⟨g2, 0, none⟩) (pre.length + 1) c2)) := Lib.hid (bX2.set _)
      have FW : Hid (Fr [] w ((wB11.setCell ⟨sb, 0, none⟩ (.slice (some ⟨g1, 0, none⟩) (pre.length + 1) c1)).setCell ⟨sb + 1, 0, none⟩ (.slice (some ⟨g2, 0, none⟩) (pre.length + 1) c2))) := Lib.hid ((fwB11.setCell _ _ (by right; have := ESB.out; simp only; omega)).setCell _ _ (by right; have := ESB.out; simp only; omega))
      have fst : Fr [sb, sb + 1] wB11 ((wB11.setCell ⟨sb, 0, none⟩ (.slice (some ⟨g1, 0, none⟩) (pre.length + 1) c1)).setCell ⟨sb + 1, 0, none⟩ (.slice (some ⟨g2, 0, none⟩) (pre.length + 1) c2)) := ((Fr.refl _ _).setCell _ _ (by simp)).setCell _ _ (by simp)
      have hO1 : Hid (OwnS W0.heap.size ((wB11.setCell ⟨sb, 0, none⟩ (.slice (some ⟨g1, 0, none⟩) (pre.length + 1) c1)).setCell ⟨sb + 1, 0, none⟩ (.slice (some ⟨g2, 0, none⟩) (pre.length + 1) c2)) (.slice (some ⟨g1, 0, none⟩) (pre.length + 1) c1) ((pre ++ [x]).map fun k => saltS s k.val)) := Lib.hid (by
        rw [List.map_append, List.map_singleton]
        exact ho1B11.fr fst (fun k hk hm => by have := (ownBlock_cells ho1B11 k hk).1; simp at hm; omega))
      have hO2 : Hid (OwnS W0.heap.size ((wB11.setCell ⟨sb, 0, none⟩ (.slice (some ⟨g1, 0, none⟩) (pre.length + 1) c1)).setCell ⟨sb + 1, 0, none⟩ (.slice (some ⟨g2, 0, none⟩) (pre.length + 1) c2)) (.slice (some ⟨g2, 0, none⟩) (pre.length + 1) c2) ((pre ++ [x]).map fun k => eleS fields s k.val)) := Lib.hid (by
        rw [List.map_append, List.map_singleton]
        exact ho11.fr fst (fun k hk hm => by have := (ownBlock_cells ho11 k hk).1; simp at hm; omega))
      have HALL := Lib.hid hall
      have HAPX := Lib.hid apB11
      clear cA1 cA2 cB1 cB2 bX2 fst hall bz0 bz1
      gi_wp2_with fail
      have hall := HALL.out
      refine ⟨keepsOthers_fr1 hall (fun k hk o ho => ?_), KpE.fr hall HT.out (Nat.le_refl _) (fun k hk => ?_) (fun k hk hm => ?_) (fun hm => ?_), ⟨_, _, BX.out, BY.out, hO1.out, hO2.out, HAPX.out⟩, FW.out, Nat.le_trans hsV hall.size⟩
      · rcases List.mem_cons.1 hk with rfl | hk
        · rw [show V.heap[k]? = _ from h1] at ho; cases ho; rfl
        · rcases List.mem_cons.1 hk with rfl | hk
          · rw [show V.heap[sb + 1]? = _ from h2] at ho; cases ho; rfl
          · rcases List.mem_append.1 hk with hk | hk
            · exact (own1 k (by simpa using hk)).2 o ho
            · exact (own2 k (by simpa using hk)).2 o ho
      · have := ESB.out
        rcases List.mem_cons.1 hk with rfl | hk
        · omega
        · rcases List.mem_cons.1 hk with rfl | hk
          · omega
          · rcases List.mem_append.1 hk with hk | hk
            · have := (own1 k (by simpa using hk)).1; omega
            · have := (own2 k (by simpa using hk)).1; omega
      · have h5 := hfv0 k hk
        have := ESB.out
        rcases List.mem_cons.1 hm with h | hm
        · omega
        · rcases List.mem_cons.1 hm with h | hm
          · omega
          · rcases List.mem_append.1 hm with hm | hm
            · exact n1 k (by omega) hm
            · exact n2 k (by omega) hm
      · rcases List.mem_cons.1 hm with h | hm
        · omega
        · rcases List.mem_cons.1 hm with h | hm
          · omega
          · rcases List.mem_append.1 hm with hm | hm
            · exact n1 _ (by omega) hm
            · exact n2 _ (by omega) hm
  case done =>
    rintro D xs V hD rfl ⟨⟨v1, v2, h1, h2, o1, o2, hap⟩, hfr, hsV⟩ hK
    have hc1 := h1.cell
    have hc2 := h2.cell
    have hf1 := h1.frozen
    have hf2 := h2.frozen
    have hmx : Tryd.prog.follows .mixedOrders = true := by kernel_rfl
    have hmap : ∀ f : Nat → List UInt8, (List.finRange fields.length).map (fun k => f k.val) = (List.range fields.length).map f := fun f => by
      refine List.ext_getElem (by simp) fun i h1 h2 => ?_
      simp
    rw [hmap (saltS s)] at o1
    rw [hmap (eleS fields s)] at o2
    obtain ⟨a1, e1, hv1⟩ : ∃ a1 e1, v1 = .slice a1 fields.length e1 := by
      obtain ⟨a1, e1, h, _⟩ := o1.strs.form
      exact ⟨a1, e1, by rw [h]; simp⟩
    obtain ⟨a2, e2, hv2⟩ : ∃ a2 e2, v2 = .slice a2 fields.length e2 := by
      obtain ⟨a2, e2, h, _⟩ := o2.strs.form
      exact ⟨a2, e2, by rw [h]; simp⟩
    subst hv1 hv2
    have O1 := Lib.hid o1
    have O2 := Lib.hid o2
    have HAP := Lib.hid hap
    clear hap o1 o2 hmap
    gi_wp2_with fail
    refine regionW_heldF 2 3 (fun W' => W'.cell? ⟨sb, 0, none⟩ = some (.slice a1 fields.length e1)) (fun W' => W'.cell? ⟨sb + 1, 0, none⟩ = some (.slice a2 fields.length e2)) hmx (by kernel_rfl) ?_
    change HeldF _ _ _ _ _ _ _ _ 4 (Array.replicate 4 false) _ _
    refine hf_take true 0 (v := .slice a1 fields.length e1) rfl (by kernel_rfl) (by kernel_rfl) (by kernel_rfl) rfl hc1 hc2 (fun W' hS => by simp only [if_true] at hS; go_simp) rfl ?_
    refine hf_take false 1 (v := .slice a2 fields.length e2) rfl (by kernel_rfl) (by kernel_rfl) (by kernel_rfl) rfl hc1 hc2 (fun W' hS => by simp only [Bool.false_eq_true, if_false] at hS; go_simp) rfl ?_
    simp only [Act.put, List.setIfInBounds_toArray, List.set_cons_zero, List.set_cons_succ]
    have b1 : Boxed V.drew sb 22 (.slice a1 fields.length e1) := h1
    have b2 : Boxed V.drew (sb + 1) 22 (.slice a2 fields.length e2) := h2
    have fV : Fr [] V V.drew := (Fr.refl [] V).drew
    have z1 := b1.cell
    have z2 := b1.frozen
    have z3 := b2.cell
    have z4 := b2.frozen
    generalize V.drew = w0 at b1 b2 fV z1 z2 z3 z4 ⊢
    refine hf_one 2 (by kernel_rfl) rfl (by kernel_rfl) rfl (fun K' hK => ?_)
    go_simp
    have b3 : Boxed (w0.setCell ⟨sb, 0, none⟩ (.slice a1 fields.length e1)) sb 22 (.slice a1 fields.length e1) := b1.set _
    have b4 : Boxed (w0.setCell ⟨sb, 0, none⟩ (.slice a1 fields.length e1)) (sb + 1) 22 (.slice a2 fields.length e2) := Boxed.other b2 (by omega) _
    refine hK.out _ _ (fun h => absurd h (by decide)) (fun _ => b4.cell) ?_
    clear hK K'
    have y1 := b4.cell
    have y2 := b4.frozen
    refine hf_one 3 (by kernel_rfl) rfl (by kernel_rfl) rfl (fun K' hK => ?_)
    go_simp
    have b5 : Boxed ((w0.setCell ⟨sb, 0, none⟩ (.slice a1 fields.length e1)).setCell ⟨sb + 1, 0, none⟩ (.slice a2 fields.length e2)) sb 22 (.slice a1 fields.length e1) := Boxed.other b3 (by omega) _
    have b6 : Boxed ((w0.setCell ⟨sb, 0, none⟩ (.slice a1 fields.length e1)).setCell ⟨sb + 1, 0, none⟩ (.slice a2 fields.length e2)) (sb + 1) 22 (.slice a2 fields.length e2) := b4.set _
    refine hK.out _ _ (fun h => absurd h (by decide)) (fun h => absurd h (by decide)) ?_
    clear hK K'
    refine heldF_done (by kernel_rfl) ?_
    have fE : Fr [sb, sb + 1] V ((w0.setCell ⟨sb, 0, none⟩ (.slice a1 fields.length e1)).setCell ⟨sb + 1, 0, none⟩ (.slice a2 fields.length e2)) := ((fV.mono (by simp)).setCell _ _ (by simp)).setCell _ _ (by simp)
    have hD2 := fE.at hK (by simp; omega)
    have FE := Lib.hid fE
    have B5 := Lib.hid b5
    have B6 := Lib.hid b6
    generalize (w0.setCell ⟨sb, 0, none⟩ (.slice a1 fields.length e1)).setCell ⟨sb + 1, 0, none⟩ (.slice a2 fields.length e2) = W9 at FE B5 B6 hD2 ⊢
    clear b3 b4 b5 b6 y1 y2 z1 z2 z3 z4 b1 b2 fE
    gi_wp2_with fail
    refine ⟨by simp, .inl ⟨_, _, rfl, run_takeDeferred hD2, ?_⟩⟩
    have fD : Fr [D] W9 (W9.putObj D (.deferred none)) := (Fr.refl [D] W9).grown (grownBy_putObj' W9 D _) (fun r e => by cases e; simp)
    have c5 := cell_of_one (fD.at B5.out (by simp; omega))
    have c6 := cell_of_one (fD.at B6.out (by simp; omega))
    have hno : ∀ (v : Value) (l : List (List UInt8)), OwnS W0.heap.size V v l → OwnS w.heap.size (W9.putObj D (.deferred none)) v l := fun v l ho => by
      refine OwnS.mono ((ho.fr FE.out (fun k hk hm => ?_)).fr fD (fun k hk hm => ?_)) hf0.size
      · have := (ownBlock_cells ho k hk).1
        simp at hm; omega
      · obtain rfl : k = D := by simpa using hm
        have := (ownBlock_cells ho k hk).2 _ hK
        cases this
    refine ⟨.tuple #[.slice a1 fields.length e1, .slice a2 fields.length e2], ?_, _, _, rfl, hno _ _ O1.out, hno _ _ O2.out, ?_⟩
    · have hr : Tryd.f52.results = #[.cell 4 22, .cell 5 22] := rfl
      simp only [results, hr]
      go_simp
    · exact (((hfr.trans FE.out (fun k hk => Or.inr (by have := ESB.out; simp at hk; omega))).grown (grownBy_putObj' W9 D _) (fun r e => by cases e; right; have := ESB.out; omega))).toBelow (by simp)
  case stop =>
    rintro D c pre V _ _ h _
    exact h.elim
end Go.Proofs.YtmhejcndkplepaaDoor
