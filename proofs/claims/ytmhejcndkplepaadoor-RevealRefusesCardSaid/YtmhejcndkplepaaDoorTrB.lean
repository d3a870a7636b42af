/-
  tree.levels, tree.Root, tree.Path.
  tree.Check.
-/
import Derived.Test.YtmhejcndkplepaaDoorTrA
import Derived.Sort.LoopGhostIn
namespace Go.Proofs.YtmhejcndkplepaaDoor
open Go.RowKit Go.Shelf
attribute [local go_sem] Oper.semAt_some

theorem tabs_lt {w : World} (h : Tabs w) : 0 < w.heap.size ∧ 4 < w.heap.size := by
  refine ⟨h.hex.1, ?_⟩
  have := h.pow
  unfold Lib.TabIs World.var? at this
  simp only [gPow, Option.bind_some] at this
  rcases Nat.lt_or_ge 4 w.heap.size with h' | h'
  · exact h'
  · rw [Array.getElem?_eq_none h'] at this; cases this
theorem Tabs.frX {X : List Nat} {B : Nat} {w A C : World} (h : Tabs A) (hf : Fr X A C) (hw : Tabs w) (hB : w.heap.size ≤ B) (hx : ∀ x ∈ X, B ≤ x) : Tabs C := by
  have := tabs_lt hw
  exact ⟨h.hex.fr hf (fun hm => by have := hx _ hm; omega), tabIs_fr gPow h.pow hf (fun hm => by have := hx _ hm; omega)⟩
theorem keepsFrom_fr {X : List Nat} {B : Nat} {w w' : World} (hf : Fr X w w') (hx : ∀ x ∈ X, ∀ o, w.heap[x]? = some o → o.isCells = true) : KeepsFrom B w w' := (keepsOthers_fr1 hf hx).from B

theorem levels_any (v : Value) (w : World) (a : Option Addr) (n c : Nat) (hv : v = .slice a n c) :
    Calls Tryd.prog 65 #[v] w fun e w' => e = .returned (.func (.func 98) #[] #[.pointer (some ⟨w.heap.size, 0, none⟩)]) ∧ w' = w.alloc (.cells #[v] 22) := by
  subst hv
  go_enter Tryd.func65, Tryd.ntmps65
  go_wp2
  go_ret
  exact ⟨rfl, rfl⟩

/-- The first text of the last level. -/
def lastT (pre : List (Value × List (List UInt8))) : List UInt8 := ((pre.map Prod.snd).getLast?.getD []).getD 0 []

set_option maxRecDepth 100000 in
set_option maxHeartbeats 4000000 in
theorem root_any (v : Value) (l : List (List UInt8)) (w : World) (hv : Strs w v l) (hn : l.length ≤ 1000000) (hl : ∀ s ∈ l, s.length ≤ 1000000) (hT : Tabs w) :
    Calls Tryd.prog 50 #[v] w fun e w' => e = .returned (.string ⟨(rootL l).toArray⟩) ∧ Below w.heap.size w w' := by
  obtain ⟨a, cap, rfl, hln, hfa⟩ := hv.form
  have HV := Lib.hid hv
  have HT := Lib.hid hT
  have HLL := Lib.hid hl
  clear hv hT hl
  by_cases h0 : l.length = 0
  · obtain rfl : l = [] := List.length_eq_zero_iff.1 h0
    have t0 : (((([] : List (List UInt8)).length : Nat) : Int) == 0) = true := by simp
    go_enter Tryd.func50, Tryd.ntmps50
    go_wp2_with fail
    refine (of_any _ [noneB] _ (strs_one (heap_new rfl)) (by simp) (fun s hs => by obtain rfl : s = noneB := by simpa using hs
                                                                                   decide) (HT.out.fr ((Fr.refl [] w).alloc _))).mono ?_
    rintro e w1 ⟨rfl, hb⟩
    go_wp2_with fail
    go_ret
    exact ⟨rfl, ((((Fr.refl [] w).alloc _).below hb ((Fr.refl [] w).alloc _).size)).toBelow (by simp)⟩
  · have t0 : ((l.length : Int) == 0) = false := by rw [beq_eq_false_iff_ne]; omega
    refine (callsIn_wide (n := 5)).1 ?_
    refine callsIn_of_wp_marks Tryd.func50 rfl trivial ?_ rfl
    simp only [Tryd.ntmps50, List.size_toArray, List.length_cons, List.length_nil, Nat.reduceAdd, Nat.reduceSub, Array.replicate_succ, Array.replicate_zero, List.push_toArray, List.append_toArray, List.nil_append, List.cons_append]
    gi_wp2_with fail
    refine ⟨trivial, (callsIn_wide.2 (levels_any _ _ _ _ _ rfl)).mono ?_⟩
    rintro e w' ⟨rfl, rfl⟩
    obtain ⟨rb, erb⟩ : ∃ rb, rb = w.heap.size := ⟨_, rfl⟩
    obtain ⟨W0, hW0⟩ : ∃ W0, W0 = (w.alloc (.cells #[.string ⟨#[]⟩] 9)).alloc (.cells #[.slice a l.length cap] 22) := ⟨_, rfl⟩
    have hsz : W0.heap.size = rb + 2 := by rw [hW0, erb]; simp
    have hf0 : Fr [] w W0 := by rw [hW0]; exact ((Fr.refl [] w).alloc _).alloc _
    have hbx : Boxed W0 rb 9 (.string ⟨#[]⟩) := by rw [hW0, erb]; exact heap_past _ (heap_new rfl)
    have hbl : W0.heap[rb + 1]? = some (.cells #[.slice a l.length cap] 22 (0, 0)) := by rw [hW0, erb]; exact heap_new (by simp)
    simp only [World.size_alloc]
    rw [← hW0, ← erb]
    have ERB := Lib.hid erb
    clear hW0 erb
    gi_wp2_with fail
    refine wpIn_rangeAt rfl (by decide) (gf := 98) (lb := #[.pointer (some ⟨rb + 1, 0, none⟩)]) rfl trivial (enters_of Tryd.func98 (by kernel_rfl) rfl)
      (levels_at 4 (rb + 1) (.slice a l.length cap) l W0 (by decide) hbl (HV.out.fr0 hf0) (HT.out.fr hf0) hn HLL.out) (Below.refl _ _) rfl
      (fun pre W => Boxed W rb 9 (.string ⟨(lastT pre).toArray⟩) ∧ Fr [] w W)
      (fun s A C h hst => ⟨boxed_std h.1 hst, h.2.thenStd hst (by have := ERB.out; omega)⟩) ⟨hbx, hf0⟩
      (fun x => { tmps := #[.slice a l.length cap, undef, .string ⟨#[]⟩, .pointer (some ⟨rb, 0, none⟩), x, .slice a l.length cap, .int .i64 (l.length : Int), .bool false, undef, undef, .slice a l.length cap, .func (.func 98) #[] #[.pointer (some ⟨rb + 1, 0, none⟩)], x, undef, undef, undef, undef], defers := [] }) ?assign ?body ?done
    case assign =>
      intro l' x V K hK
      gi_wp2
      exact hK
    case body =>
      rintro l' pre ⟨x, lx⟩ A V ⟨hbA, hfA⟩ hst ⟨hsx, hfx⟩ hsp
      dsimp only at hsx hfx ⊢
      have hbV : Boxed V rb 9 (.string ⟨(lastT pre).toArray⟩) := boxed_std hbA hst
      have hlx : lx ≠ [] := by
        refine levels_ne (l := l.map leafD) (by simpa using h0) lx ?_
        exact hsp.subset (by simp)
      have hl1 : 0 < lx.length := List.length_pos_iff.2 hlx
      obtain ⟨ax, cx, rfl, _, hax⟩ := hsx.form
      obtain ⟨b, off, rfl⟩ := hax 0 hl1
      have c0 := hsx.cell 0 hl1
      rw [Nat.add_zero] at c0
      have hne : b ≠ rb := by
        have h1 := hfx b rfl
        have h2 : rb < A.heap.size := lt_of_block hbA
        omega
      have hcv := hbV.cell
      have hfv := hbV.frozen
      have g0 : (0 : Int) < (lx.length : Int) := by omega
      have HLT : Hid (lastT (pre ++ [(Value.slice (some ⟨b, off, none⟩) lx.length cx, lx)]) = lx.getD 0 []) := Lib.hid (by simp [lastT])
      have HB := Lib.hid hbV
      have HSX := Lib.hid hsx
      have HST := Lib.hid hst
      clear hbV hbA hst hsx hlx hsp hfx
      generalize lx.getD 0 [] = s0 at c0 HLT
      gi_wp2_with fail
      have hfr : Fr [rb] V (V.setCell ⟨rb, 0, none⟩ (.string ⟨s0.toArray⟩)) := (Fr.refl _ V).setCell _ _ (by simp)
      refine ⟨⟨keepsFrom_fr hfr (fun k hk o ho => ?_), fun h => h.fr hfr (fun k hk hm => ?_), fun h => h.frX hfr HT.out (B := rb) (by have := ERB.out; omega) (by simp)⟩, ?_, ?_⟩
      · obtain rfl : k = rb := by simpa using hk
        rw [show V.heap[k]? = _ from HB.out] at ho; cases ho; rfl
      · obtain rfl : b = k := by simpa [Value.ownBlock] using hk
        exact hne (by simpa using hm)
      · rw [HLT.out]; exact HB.out.set _
      · exact ((hfA.thenStd HST.out (by have := ERB.out; omega)).setCell _ _ (by right; have := ERB.out; simp only; omega))
    case done =>
      rintro D xs W hD hS ⟨hb, hf⟩ hK
      have hcv := hb.cell
      have HRT : Hid (lastT xs = rootL l) := Lib.hid (by
        unfold lastT rootL
        rw [if_neg (by intro h; rw [h] at h0; exact h0 rfl), hS, levelsL_top])
      rw [HRT.out] at hcv
      gi_wp2_with fail
      refine ⟨by simp, .inl ⟨_, _, rfl, run_takeDeferred hK, ?_⟩⟩
      refine ⟨_, results_tmp rfl _ _ _, rfl, ?_⟩
      exact (hf.grown (grownBy_putObj' W D _) (fun r e => by cases e; right; have := ERB.out; omega)).toBelow (by simp)

/-- The path that the rounds have made. -/
def pathT (pre : List (Value × List (List UInt8))) (i : Nat) : List (List UInt8) := pathV (pre.map Prod.snd) i
theorem pathT_snoc (pre : List (Value × List (List UInt8))) (v : Value) (l : List (List UInt8)) (i : Nat) : pathT (pre ++ [(v, l)]) i = pathT pre i ++ (if bes (i / 2 ^ pre.length) < l.length then [l.getD (bes (i / 2 ^ pre.length)) []] else []) := by
  unfold pathT
  rw [List.map_append, List.map_singleton, pathV_snoc, List.length_map]
theorem nat_xor_one (i : Nat) : i ^^^ 1 = bes i := by
  have h1 : (i ^^^ 1) / 2 = i / 2 := by rw [Nat.xor_div_two]; simp
  have h2 : (i ^^^ 1) % 2 = (i + 1) % 2 := by
    have := Nat.xor_mod_two_pow (a := i) (b := 1) (n := 1)
    rw [Nat.pow_one] at this
    rw [this]
    rcases Nat.mod_two_eq_zero_or_one i with h | h
    · rw [h]; simp; omega
    · rw [h]; simp; omega
  unfold bes
  split <;> omega
theorem bes_le (i : Nat) : bes i ≤ i + 1 := by unfold bes; split <;> omega
theorem xor_one (i : Nat) (h : i < 9223372036854775807) : bits .xor .i64 (i : Int) 1 = ((bes i : Nat) : Int) := by
  have h1 : (BitVec.ofInt 64 (i : Int)).toNat = i := by
    rw [BitVec.ofInt_natCast, BitVec.toNat_ofNat]; exact Nat.mod_eq_of_lt (by omega)
  have h2 : (BitVec.ofInt 64 (1 : Int)).toNat = 1 := by decide
  show IntKind.i64.wrap ((BitVec.ofInt 64 (i : Int) ^^^ BitVec.ofInt 64 1).toNat : Int) = _
  rw [BitVec.toNat_xor, h1, h2, nat_xor_one]
  have := bes_le i
  exact IntWalk.i64_in _ (by omega)

set_option maxRecDepth 100000 in
set_option maxHeartbeats 4000000 in
theorem path_any (v : Value) (l : List (List UInt8)) (i : Int) (w : World) (hv : Strs w v l) (hn : l.length ≤ 100000) (hl : ∀ s ∈ l, s.length ≤ 1000000) (hT : Tabs w) :
    Calls Tryd.prog 32 #[v, .int .i64 i] w fun e w' => ∃ v' e', e = .returned (.tuple #[v', .int .i64 e']) ∧ ((i < 0 ∨ (l.length : Int) ≤ i) → v' = .slice none 0 0 ∧ e' = 1) ∧
      (∀ k : Nat, i = (k : Int) → k < l.length → e' = 0 ∧ OwnS w.heap.size w' v' (pathL (l.map leafD) k)) ∧ Below w.heap.size w w' := by
  obtain ⟨a, cap, rfl, hln, hfa⟩ := hv.form
  have HV := Lib.hid hv
  have HT := Lib.hid hT
  have HLL := Lib.hid hl
  clear hv hT hl
  by_cases hneg : i < 0
  · have t0 : decide (i < 0) = true := by simpa using hneg
    go_enter Tryd.func32, Tryd.ntmps32
    go_wp2_with fail
    go_ret2
    exact ⟨.slice none 0 0, 1, rfl, by first | exact ⟨rfl, rfl⟩ | exact fun _ => ⟨rfl, rfl⟩, fun k hk => by omega, ((Fr.refl [] w).alloc _).toBelow (by simp)⟩
  have t0 : decide (i < 0) = false := by simpa using hneg
  by_cases hbig : (l.length : Int) ≤ i
  · have t1 : decide ((l.length : Int) ≤ i) = true := by simpa using hbig
    go_enter Tryd.func32, Tryd.ntmps32
    go_wp2_with fail
    go_ret2
    exact ⟨.slice none 0 0, 1, rfl, by first | exact ⟨rfl, rfl⟩ | exact fun _ => ⟨rfl, rfl⟩, fun k hk hk2 => by omega, ((Fr.refl [] w).alloc _).toBelow (by simp)⟩
  have t1 : decide ((l.length : Int) ≤ i) = false := by simpa using hbig
  obtain ⟨k, rfl⟩ : ∃ k : Nat, i = (k : Int) := ⟨i.toNat, by omega⟩
  have hkl : k < l.length := by omega
  refine (callsIn_wide (n := 5)).1 ?_
  refine callsIn_of_wp_marks Tryd.func32 rfl trivial ?_ rfl
  simp only [Tryd.ntmps32, List.size_toArray, List.length_cons, List.length_nil, Nat.reduceAdd, Nat.reduceSub, Array.replicate_succ, Array.replicate_zero, List.push_toArray, List.append_toArray, List.nil_append, List.cons_append]
  gi_wp2_with fail
  refine ⟨trivial, (callsIn_wide.2 (levels_any _ _ _ _ _ rfl)).mono ?_⟩
  rintro e w' ⟨rfl, rfl⟩
  obtain ⟨ib, eib⟩ : ∃ ib, ib = w.heap.size := ⟨_, rfl⟩
  obtain ⟨W0, hW0⟩ : ∃ W0, W0 = ((w.alloc (.cells #[.int .i64 (k : Int)] 3)).alloc (.cells #[.slice none 0 0] 22)).alloc (.cells #[.slice a l.length cap] 22) := ⟨_, rfl⟩
  have hsz : W0.heap.size = ib + 3 := by rw [hW0, eib]; simp
  have hf0 : Fr [] w W0 := by rw [hW0]; exact (((Fr.refl [] w).alloc _).alloc _).alloc _
  have hbi : Boxed W0 ib 3 (.int .i64 (k : Int)) := by rw [hW0, eib]; exact heap_past _ (heap_past _ (heap_new rfl))
  have hbo : Boxed W0 (ib + 1) 22 (.slice none 0 0) := by rw [hW0, eib]; exact heap_past _ (heap_new (by simp))
  have hbl : W0.heap[ib + 1 + 1]? = some (.cells #[.slice a l.length cap] 22 (0, 0)) := by rw [hW0, eib]; exact heap_new (by simp)
  simp only [World.size_alloc]
  rw [← hW0, ← eib]
  have EIB := Lib.hid eib
  clear hW0 eib
  gi_wp2_with fail
  have hT0 := tabs_lt HT.out
  refine wpIn_rangeAt rfl (by decide) (gf := 98) (lb := #[.pointer (some ⟨ib + 1 + 1, 0, none⟩)]) rfl trivial (enters_of Tryd.func98 (by kernel_rfl) rfl)
    (levels_at 4 (ib + 1 + 1) (.slice a l.length cap) l W0 (by decide) hbl (HV.out.fr0 hf0) (HT.out.fr hf0) (by omega) HLL.out) (Below.refl _ _) rfl
    (fun pre W => Boxed W ib 3 (.int .i64 (k / 2 ^ pre.length : Nat)) ∧ (∃ ov, Boxed W (ib + 1) 22 ov ∧ OwnS W0.heap.size W ov (pathT pre k)) ∧ Fr [] w W ∧ (pathT pre k).length ≤ pre.length ∧ W0.heap.size ≤ W.heap.size)
    (fun s A C h hst => ⟨boxed_std h.1 hst, let ⟨ov, h1, h2⟩ := h.2.1; ⟨ov, boxed_std h1 hst, h2.std hst⟩, h.2.2.1.thenStd hst (by have := EIB.out; omega), h.2.2.2.1, Nat.le_trans h.2.2.2.2 hst.size⟩)
    ⟨by simpa using hbi, ⟨_, hbo, ⟨rfl, Or.inl ⟨rfl, rfl⟩⟩⟩, hf0, by simp [pathT, pathV], Nat.le_refl _⟩
    (fun x => { tmps := #[.slice a l.length cap, .int .i64 (k : Int), undef, .pointer (some ⟨ib, 0, none⟩), .slice none 0 0, .int .i64 0, .pointer (some ⟨ib + 1, 0, none⟩), x, undef, .int .i64 (k : Int), .bool false, .bool false, .int .i64 (k : Int), .slice a l.length cap, .int .i64 (l.length : Int), .bool false, .bool false, .slice a l.length cap, .func (.func 98) #[] #[.pointer (some ⟨ib + 1 + 1, 0, none⟩)], x, undef, undef, undef, undef, undef, undef, undef, undef, undef, undef, undef, undef, undef, undef, undef, undef], defers := [] }) ?assign ?body ?done
  case assign =>
    intro l' x V K hK
    gi_wp2
    exact hK
  case body =>
    rintro l' pre ⟨x, lx⟩ A V ⟨hbA, ⟨ov, hoA, hownA⟩, hfA, hlen, hsA⟩ hst ⟨hsx, hfx⟩ hsp
    dsimp only at hsx hfx ⊢
    have hmx : Tryd.prog.follows .mixedOrders = true := by kernel_rfl
    have hpl : pre.length ≤ 100001 := by
      have h1 := hsp.length_le
      have h2 := levels_count (l.map leafD)
      simp at h1 h2; omega
    have hbV := boxed_std hbA hst
    have hoV := boxed_std hoA hst
    have HOW := Lib.hid (hownA.std hst)
    have hnx : ∀ j, x.ownBlock = some j → j ≠ ib ∧ j ≠ ib + 1 ∧ j ∉ ov.ownBlock.toList := fun j hj => by
      have h1 := hfx j hj
      refine ⟨by omega, by omega, fun hm => ?_⟩
      rcases hownA.2 with ⟨rfl, _⟩ | ⟨g, cp, cur, rfl, _, hg, _⟩
      · simp [Value.ownBlock] at hm
      · obtain rfl : j = g := by simpa [Value.ownBlock] using hm
        have := lt_of_block hg
        omega
    have HNX := Lib.hid hnx
    have hfV := hfA.thenStd hst (by have := EIB.out; omega)
    have hsV : W0.heap.size ≤ V.heap.size := Nat.le_trans hsA hst.size
    obtain ⟨ax, cx, rfl, hx9, hax⟩ := hsx.form
    have HPT := Lib.hid (pathT_snoc pre (.slice ax lx.length cx) lx k)
    obtain ⟨q, eq⟩ : ∃ q, q = k / 2 ^ pre.length := ⟨_, rfl⟩
    have hqk : q ≤ k := by rw [eq]; exact Nat.div_le_self _ _
    rw [← eq] at HPT hbV
    have EQ := Lib.hid eq
    obtain ⟨q2, eq2, eq3⟩ : ∃ q2 : Nat, q2 = q / 2 ∧ (q : Int) / 2 = (q2 : Int) := ⟨_, rfl, by omega⟩
    have HQ2 : Hid (q2 = k / 2 ^ (pre.length + 1)) := Lib.hid (by rw [eq2, eq, Nat.div_div_eq_div_mul, Nat.pow_succ])
    have hxo := xor_one q (by omega)
    obtain ⟨bq, ebq⟩ : ∃ bq, bq = bes q := ⟨_, rfl⟩
    rw [← ebq] at HPT hxo
    have hcb := hbV.cell
    have hfb := hbV.frozen
    have hco := hoV.cell
    have hfo := hoV.frozen
    have HBI := Lib.hid hbV
    have HBO := Lib.hid hoV
    have HSX := Lib.hid hsx
    have HHD := Lib.hid hownA
    clear hbA hoA hownA hfA hsA hst hfx hsp hbV hoV hsx hnx eq eq2 ebq
    by_cases hbl2 : bq < lx.length
    · have t5 : decide ((bq : Int) < (lx.length : Int)) = true := by simp; omega
      obtain ⟨b, off, rfl⟩ := hax bq hbl2
      obtain ⟨hne1, hne2, hne3⟩ := HNX.out b rfl
      have cx0 := HSX.out.cell bq hbl2
      rw [if_pos hbl2] at HPT
      generalize lx.getD bq [] = sx at cx0 HPT
      have g0 : (0 : Int) ≤ (bq : Int) := by omega
      have g1 : (bq : Int) < (lx.length : Int) := by omega
      gi_wp2_with fail
      have hS0 : V.drew.cell? ⟨ib + 1, 0, none⟩ = some ov ∧ V.drew.cell? ⟨b, off + bq, none⟩ = some (.string ⟨sx.toArray⟩) := ⟨hco, cx0⟩
      refine regionIn_held 7 (fun W' => W'.cell? ⟨ib + 1, 0, none⟩ = some ov ∧ W'.cell? ⟨b, off + bq, none⟩ = some (.string ⟨sx.toArray⟩)) hmx (by kernel_rfl) ?_
      change Held _ _ _ _ _ _ 8 (Array.replicate 8 false) _ _
      refine hd_take 0 (v := ov) rfl (by kernel_rfl) (by kernel_rfl) (by kernel_rfl) rfl hS0 (fun W' hS => by obtain ⟨h0, h1⟩ := hS; first | (go_simp; done) | (go_simp; intro hix; omega)) rfl ?_
      refine hd_take 1 (v := .slice (some ⟨b, off, none⟩) lx.length cx) rfl (by kernel_rfl) (by kernel_rfl) (by kernel_rfl) rfl hS0 (fun W' hS => by first | (go_simp; done) | (go_simp; intro hix; omega)) rfl ?_
      refine hd_take 2 (v := .int .i64 (bq : Int)) rfl (by kernel_rfl) (by kernel_rfl) (by kernel_rfl) rfl hS0 (fun W' hS => by first | (go_simp; done) | (go_simp; intro hix; omega)) rfl ?_
      simp only [Act.put, List.setIfInBounds_toArray, List.set_cons_zero, List.set_cons_succ]
      refine hd_take 3 (v := .pointer (some ⟨b, off + bq, none⟩)) rfl (by kernel_rfl) (by kernel_rfl) (by kernel_rfl) rfl hS0 (fun W' hS => by first | (go_simp; done) | (go_simp; intro hix; omega)) rfl ?_
      simp only [Act.put, List.setIfInBounds_toArray, List.set_cons_zero, List.set_cons_succ]
      refine hd_take 4 (v := .string ⟨sx.toArray⟩) rfl (by kernel_rfl) (by kernel_rfl) (by kernel_rfl) rfl hS0 (fun W' hS => by obtain ⟨h0, h1⟩ := hS; first | (go_simp; done) | (go_simp; intro hix; omega)) rfl ?_
      simp only [Act.put, List.setIfInBounds_toArray, List.set_cons_zero, List.set_cons_succ]
      have hV2 : Fr [] V V.drew := (Fr.refl [] V).drew
      generalize V.drew = w5 at hS0 hV2 ⊢
      refine hd_one 5 (by kernel_rfl) rfl (by kernel_rfl) rfl (fun K' hK => ?_)
      go_simp
      have hV3 : Fr [] V (w5.alloc (.cells #[.string ⟨sx.toArray⟩] 9)) := hV2.alloc _
      refine hK.out _ _ (fun _ => ⟨hV3.cell hco (by simp), hV3.cell cx0 (by simp)⟩) ?_
      clear hK K' hV3
      refine hd_one 6 (by kernel_rfl) rfl (by kernel_rfl) rfl (fun K' hK => ?_)
      refine wp_appS (.tmp 26) (.tmp 31) rfl W0.heap.size ov _ sx w rfl rfl (HOW.out.fr hV2 (by simp)) (hfV.trans hV2 (by simp)) (by have := EIB.out; omega) (Nat.le_trans hsV hV2.size) (by omega) ?_
      rintro v' w7 ⟨g9, c9, rfl⟩ hO7 hF7 hG7
      have hown : ∀ k, ov.ownBlock = some k → W0.heap.size ≤ k ∧ ∀ o, V.heap[k]? = some o → o.isCells = true := ownBlock_cells HOW.out
      have hnn : ∀ k, k < W0.heap.size → k ∉ ov.ownBlock.toList := fun k hk hm => by have := (hown k (by simpa using hm)).1; omega
      have hV7 : Boxed w7 (ib + 1) 22 ov := hG7.at (hV2.at HBO.out (by simp)) (hnn _ (by omega))
      have hI7 : Boxed w7 ib 3 (.int .i64 (q : Int)) := hG7.at (hV2.at HBI.out (by simp)) (hnn _ (by omega))
      have hcv7 := hV7.cell
      have hfv7 := hV7.frozen
      refine hK.out _ _ (fun _ => ⟨hcv7, hG7.cell (hV2.cell cx0 (by simp)) hne3⟩) ?_
      clear hK K'
      refine hd_one 7 (by kernel_rfl) rfl (by kernel_rfl) rfl (fun K' hK => ?_)
      go_simp
      refine hK.out _ _ (fun h => absurd rfl h) ?_
      clear hK K'
      refine held_done (by kernel_rfl) ?_
      have hI8 : Boxed (w7.setCell ⟨ib + 1, 0, none⟩ (.slice (some ⟨g9, 0, none⟩) ((pathT pre k).length + 1) c9)) ib 3 (.int .i64 (q : Int)) := hI7.other (by omega) _
      have hc8 := hI8.cell
      have hf8 := hI8.frozen
      have HALL : Hid (Fr (ib :: (ib + 1) :: ov.ownBlock.toList) V ((w7.setCell ⟨ib + 1, 0, none⟩ (.slice (some ⟨g9, 0, none⟩) ((pathT pre k).length + 1) c9)).setCell ⟨ib, 0, none⟩ (.int .i64 (q2 : Int)))) := Lib.hid
        ((((hV2.mono (by simp)).trans hG7 (fun k hk => Or.inl (by simp at hk ⊢; exact Or.inr (Or.inr hk)))).setCell _ _ (by simp)).setCell _ _ (by simp))
      have HBIX : Hid (Boxed ((w7.setCell ⟨ib + 1, 0, none⟩ (.slice (some ⟨g9, 0, none⟩) ((pathT pre k).length + 1) c9)).setCell ⟨ib, 0, none⟩ (.int .i64 (q2 : Int))) ib 3 (.int .i64 (q2 : Int))) := Lib.hid (hI8.set _)
      have HBOX : Hid (Boxed ((w7.setCell ⟨ib + 1, 0, none⟩ (.slice (some ⟨g9, 0, none⟩) ((pathT pre k).length + 1) c9)).setCell ⟨ib, 0, none⟩ (.int .i64 (q2 : Int))) (ib + 1) 22 (.slice (some ⟨g9, 0, none⟩) ((pathT pre k).length + 1) c9)) := Lib.hid ((hV7.set _).other (by omega) _)
      have HOX : Hid (OwnS W0.heap.size ((w7.setCell ⟨ib + 1, 0, none⟩ (.slice (some ⟨g9, 0, none⟩) ((pathT pre k).length + 1) c9)).setCell ⟨ib, 0, none⟩ (.int .i64 (q2 : Int))) (.slice (some ⟨g9, 0, none⟩) ((pathT pre k).length + 1) c9) (pathT (pre ++ [(Value.slice (some ⟨b, off, none⟩) lx.length cx, lx)]) k)) := Lib.hid (by
        rw [HPT.out]
        have h9 := (ownBlock_cells hO7 g9 rfl).1
        exact hO7.fr (((Fr.refl [ib + 1, ib] w7).setCell _ _ (by simp)).setCell _ _ (by simp)) (fun j hj hm => by
          obtain rfl : g9 = j := by simpa [Value.ownBlock] using hj
          simp at hm; omega))
      have HFX : Hid (Fr [] w ((w7.setCell ⟨ib + 1, 0, none⟩ (.slice (some ⟨g9, 0, none⟩) ((pathT pre k).length + 1) c9)).setCell ⟨ib, 0, none⟩ (.int .i64 (q2 : Int)))) := Lib.hid ((hF7.setCell _ _ (by right; have := EIB.out; simp only; omega)).setCell _ _ (by right; have := EIB.out; simp only; omega))
      have HPL : Hid ((pathT (pre ++ [(Value.slice (some ⟨b, off, none⟩) lx.length cx, lx)]) k).length ≤ pre.length + 1) := Lib.hid (by rw [HPT.out, List.length_append]; simp; omega)
      have HHO := Lib.hid hown
      clear hown hnn hV7 hI7 hcv7 hfv7 hO7 hF7 hG7 hcb hfb hco hfo cx0 hI8 hV2 hS0
      gi_wp2_with fail
      have hall := HALL.out
      refine ⟨⟨keepsFrom_fr hall (fun j hj o ho => ?_), fun h => h.fr hall (fun j hj hm => ?_), fun h => h.frX hall HT.out (B := ib) (by have := EIB.out; omega) (fun j hj => ?_)⟩, ?_, ⟨_, HBOX.out, HOX.out⟩, HFX.out, ?_, Nat.le_trans hsV hall.size⟩
      · rcases List.mem_cons.1 hj with rfl | hj
        · rw [show V.heap[j]? = _ from HBI.out] at ho; cases ho; rfl
        · rcases List.mem_cons.1 hj with rfl | hj
          · rw [show V.heap[ib + 1]? = _ from HBO.out] at ho; cases ho; rfl
          · exact (HHO.out j (by simpa using hj)).2 o ho
      · obtain ⟨m1, m2, m3⟩ := HNX.out j hj
        rcases List.mem_cons.1 hm with h | hm
        · exact m1 h
        · rcases List.mem_cons.1 hm with h | hm
          · exact m2 h
          · exact m3 hm
      · rcases List.mem_cons.1 hj with rfl | hj
        · exact Nat.le_refl _
        · rcases List.mem_cons.1 hj with rfl | hj
          · omega
          · have := (HHO.out j (by simpa using hj)).1; omega
      · rw [List.length_append, List.length_singleton, ← HQ2.out]; exact HBIX.out
      · rw [List.length_append, List.length_singleton]; exact HPL.out
    · have t5 : decide ((bq : Int) < (lx.length : Int)) = false := by simp; omega
      rw [if_neg hbl2, List.append_nil] at HPT
      have HALL : Hid (Fr [ib] V (V.setCell ⟨ib, 0, none⟩ (.int .i64 (q2 : Int)))) := Lib.hid ((Fr.refl _ V).setCell _ _ (by simp))
      have HBIX : Hid (Boxed (V.setCell ⟨ib, 0, none⟩ (.int .i64 (q2 : Int))) ib 3 (.int .i64 (q2 : Int))) := Lib.hid (HBI.out.set _)
      have HBOX : Hid (Boxed (V.setCell ⟨ib, 0, none⟩ (.int .i64 (q2 : Int))) (ib + 1) 22 ov) := Lib.hid (HBO.out.other (by omega) _)
      have HOX : Hid (OwnS W0.heap.size (V.setCell ⟨ib, 0, none⟩ (.int .i64 (q2 : Int))) ov (pathT (pre ++ [(Value.slice ax lx.length cx, lx)]) k)) := Lib.hid (by
        rw [HPT.out]
        exact HOW.out.fr HALL.out (fun j hj hm => by
          have := (ownBlock_cells HOW.out j hj).1
          simp at hm; omega))
      have HFX : Hid (Fr [] w (V.setCell ⟨ib, 0, none⟩ (.int .i64 (q2 : Int)))) := Lib.hid (hfV.setCell _ _ (by right; have := EIB.out; simp only; omega))
      have HPL : Hid ((pathT (pre ++ [(Value.slice ax lx.length cx, lx)]) k).length ≤ pre.length + 1) := Lib.hid (by rw [HPT.out]; omega)
      clear hco hfo
      gi_wp2_with fail
      have hall := HALL.out
      refine ⟨⟨keepsFrom_fr hall (fun j hj o ho => ?_), fun h => h.fr hall (fun j hj hm => ?_), fun h => h.frX hall HT.out (B := ib) (by have := EIB.out; omega) (by simp)⟩, ?_, ⟨_, HBOX.out, HOX.out⟩, HFX.out, ?_, Nat.le_trans hsV hall.size⟩
      · obtain rfl : j = ib := by simpa using hj
        rw [show V.heap[j]? = _ from HBI.out] at ho; cases ho; rfl
      · exact (HNX.out j hj).1 (by simpa using hm)
      · rw [List.length_append, List.length_singleton, ← HQ2.out]; exact HBIX.out
      · rw [List.length_append, List.length_singleton]; exact HPL.out
  case done =>
    rintro D xs W hD hS ⟨_, ⟨ov, hb, ho⟩, hf, _, _⟩ hK
    have hcv := hb.cell
    have HRT : Hid (pathT xs k = pathL (l.map leafD) k) := Lib.hid (by
      unfold pathT
      rw [hS, pathV_levels _ _ (by rw [List.length_map]; exact hkl)])
    rw [HRT.out] at ho
    have HO := Lib.hid ho
    clear ho
    gi_wp2_with fail
    refine ⟨by simp, .inl ⟨_, _, rfl, run_takeDeferred hK, ?_⟩⟩
    have hfD : Fr [D] W (W.putObj D (.deferred none)) := (Fr.refl [D] W).grown (grownBy_putObj' W D _) (fun r e => by cases e; simp)
    refine ⟨_, results_tmp2 rfl _ _ _, ov, 0, rfl, fun h => absurd h (by omega), fun j hj hj2 => ?_, ?_⟩
    · obtain rfl : k = j := by omega
      refine ⟨rfl, (HO.out.fr hfD (fun j hj hm => ?_)).mono (by have := EIB.out; omega)⟩
      have h1 := (ownBlock_cells HO.out j hj).2 _ (by obtain rfl : j = D := by simpa using hm
                                                      exact hK)
      cases h1
    · exact (hf.grown (grownBy_putObj' W D _) (fun r e => by cases e; right; have := EIB.out; omega)).toBelow (by simp)
end Go.Proofs.YtmhejcndkplepaaDoor
namespace Go.Proofs.YtmhejcndkplepaaDoor
open Go.RowKit

theorem Strs.tl {w : World} {b off n cap : Nat} {x : List UInt8} {l : List (List UInt8)} (h : Strs w (.slice (some ⟨b, off, none⟩) n cap) (x :: l)) (hn : n = l.length + 1) : Strs w (.slice (some ⟨b, off + 1, none⟩) (n - 1) (cap - 1)) l := by
  subst hn
  rcases h with ⟨h, _⟩ | ⟨b', off', cap', hv, h1, h2, h3, h4⟩
  · cases h
  · cases hv
    refine Or.inr ⟨b, off + 1, cap - 1, by rw [Nat.add_sub_cancel], by simp at h1; omega, by omega, h3, fun i hi => ?_⟩
    have := h4 (i + 1) (by simpa using hi)
    rw [Nat.add_assoc, Nat.add_comm 1 i, this]
    rfl
theorem Strs.capOf {w : World} {b off n cap : Nat} {l : List (List UInt8)} (h : Strs w (.slice (some ⟨b, off, none⟩) n cap) l) : n ≤ cap ∧ cap ≤ 9223372036854775807 := by
  rcases h with ⟨h, _⟩ | ⟨b', off', cap', hv, h1, h2, h3, h4⟩
  · cases h
  · cases hv; exact ⟨h1, h2⟩
/-- What Check answers. -/
def chkB (root : List UInt8) (n i : Int) (leaf : List UInt8) (p : List (List UInt8)) : Bool := decide (1 ≤ n ∧ 0 ≤ i ∧ i < n) && (ckL n.toNat i.toNat (leafD leaf) p == some root)
theorem ck_end {n i : Nat} {a : List UInt8} {p : List (List UInt8)} (h : ¬ 1 < n) : ckL n i a p = if p = [] then some a else none := by rw [ckL.eq_def, if_neg h]
theorem ck_skip {n i : Nat} {a : List UInt8} {p : List (List UInt8)} (h : 1 < n) (hb : ¬ bes i < n) : ckL n i a p = ckL (n - n / 2) (i / 2) a p := by rw [ckL.eq_def, if_pos h, if_neg hb]
theorem ck_nil {n i : Nat} {a : List UInt8} (h : 1 < n) (hb : bes i < n) : ckL n i a [] = none := by rw [ckL.eq_def, if_pos h, if_pos hb]
theorem ck_cons {n i : Nat} {a x : List UInt8} {p : List (List UInt8)} (h : 1 < n) (hb : bes i < n) : ckL n i a (x :: p) = ckL (n - n / 2) (i / 2) (if i % 2 = 0 then nodeD a x else nodeD x a) p := by rw [ckL.eq_def, if_pos h, if_pos hb]

set_option maxRecDepth 100000 in
set_option maxHeartbeats 8000000 in
theorem check_any (root leaf : List UInt8) (n i : Int) (pv : Value) (p : List (List UInt8)) (w : World) (hn : -9223372036854775808 ≤ n ∧ n < 9223372036854775808) (hi : -9223372036854775808 ≤ i ∧ i < 9223372036854775808)
    (hp : Strs w pv p) (hl : leaf.length ≤ 1000000) (hps : ∀ s ∈ p, s.length ≤ 1000000) (hT : Tabs w) :
    Calls Tryd.prog 59 #[.string ⟨root.toArray⟩, .int .i64 n, .int .i64 i, .string ⟨leaf.toArray⟩, pv] w fun e w' => e = .returned (.bool (chkB root n i leaf p)) ∧ Below w.heap.size w w' := by
  have HP := Lib.hid hp
  have HT := Lib.hid hT
  have HPS := Lib.hid hps
  obtain ⟨pa, pcap, rfl, hp9, hpa⟩ := hp.form
  clear hp hT hps
  by_cases h1 : n < 1
  · have t0 : decide (n < 1) = true := by simpa using h1
    have HC : Hid (chkB root n i leaf p = false) := Lib.hid (by unfold chkB; rw [decide_eq_false (by omega)]; rfl)
    rw [HC.out]
    go_enter Tryd.func59, Tryd.ntmps59
    go_wp2_with fail
    go_ret
    exact ⟨rfl, Below.refl _ _⟩
  have t0 : decide (n < 1) = false := by simpa using h1
  by_cases h2 : i < 0
  · have t1 : decide (i < 0) = true := by simpa using h2
    have HC : Hid (chkB root n i leaf p = false) := Lib.hid (by unfold chkB; rw [decide_eq_false (by omega)]; rfl)
    rw [HC.out]
    go_enter Tryd.func59, Tryd.ntmps59
    go_wp2_with fail
    go_ret
    exact ⟨rfl, Below.refl _ _⟩
  have t1 : decide (i < 0) = false := by simpa using h2
  by_cases h3 : n ≤ i
  · have t2 : decide (n ≤ i) = true := by simpa using h3
    have HC : Hid (chkB root n i leaf p = false) := Lib.hid (by unfold chkB; rw [decide_eq_false (by omega)]; rfl)
    rw [HC.out]
    go_enter Tryd.func59, Tryd.ntmps59
    go_wp2_with fail
    go_ret
    exact ⟨rfl, Below.refl _ _⟩
  have t2 : decide (n ≤ i) = false := by simpa using h3
  obtain ⟨n0, rfl⟩ : ∃ n0 : Nat, n = (n0 : Int) := ⟨n.toNat, by omega⟩
  obtain ⟨i0, rfl⟩ : ∃ i0 : Nat, i = (i0 : Int) := ⟨i.toNat, by omega⟩
  have HC : Hid (chkB root (n0 : Int) (i0 : Int) leaf p = (ckL n0 i0 (leafD leaf) p == some root)) := Lib.hid (by unfold chkB; rw [decide_eq_true (by omega)]; rfl)
  rw [HC.out]
  have hin : i0 < n0 := by omega
  have hn9 : n0 < 9223372036854775808 := by omega
  clear h1 h2 h3 HC hi hn
  go_enter Tryd.func59, Tryd.ntmps59
  go_wp2_with fail
  refine (of_any _ [leafB, leaf] _ (strs_two (heap_new rfl)) (by simp) (fun s hs => ?_) (HT.out.fr ((Fr.refl [] w).alloc _))).mono ?_
  · rcases List.mem_cons.1 hs with rfl | hs
    · decide
    · rw [List.mem_singleton.1 hs]; exact hl
  rintro e w1 ⟨rfl, hb1⟩
  have hf1 : Fr [] w w1 := ((Fr.refl [] w).alloc _).below hb1 ((Fr.refl [] w).alloc _).size
  rw [show dlist [leafB, leaf] = leafD leaf from rfl]
  have HLL : Hid ((leafD leaf).length = 16) := Lib.hid (dlist_len _)
  clear hb1
  obtain ⟨a0, ea0⟩ : ∃ a0, a0 = leafD leaf := ⟨_, rfl⟩
  rw [← ea0] at HLL ⊢
  have HA0 := Lib.hid ea0
  clear ea0
  go_wp2_with fail
  go_loopg [1, 2, 4, 11] n0 (fun gh nv iv pv av wr => ∃ (m i : Nat) (at' : List UInt8) (pv' : Value) (q : List (List UInt8)), i < m ∧ m ≤ n0 ∧ gh = m ∧ nv = .int .i64 (m : Int) ∧ iv = .int .i64 (i : Int) ∧ (pv = pv' ∧ av = .string ⟨at'.toArray⟩) ∧ Strs w pv' q ∧ q.length ≤ p.length ∧ at'.length ≤ 1000000 ∧ (∀ s ∈ q, s.length ≤ 1000000) ∧ ckL m i at' q = ckL n0 i0 a0 p ∧ Fr [] w wr)
  case atStart => exact ⟨n0, i0, a0, _, p, hin, Nat.le_refl _, rfl, rfl, rfl, ⟨rfl, rfl⟩, HP.out, Nat.le_refl _, by rw [HLL.out]; decide, HPS.out, rfl, hf1⟩
  case round =>
    clear t0 t1 t2 hf1 hin
    obtain ⟨m, i, at', pv', q0, him, hmn, hgm, rfl, rfl, ⟨rfl, rfl⟩, hsq, hql, hal, hqs, hck, hfr⟩ := hrel
    have HSQ0 := Lib.hid hsq
    have HGM := Lib.hid hgm
    clear hgm
    have HAL := Lib.hid hal
    have HQS0 := Lib.hid hqs
    have HCK0 := Lib.hid hck
    obtain ⟨qa, qcap, rfl, hq9, hqa⟩ := hsq.form
    clear hsq hal hqs hck
    by_cases h1 : 1 < m
    · have t1 : decide ((1 : Int) < (m : Int)) = true := by simp; omega
      have hxo := xor_one i (by omega)
      obtain ⟨m2, em2, em3⟩ : ∃ m2 : Nat, m2 = m - m / 2 ∧ (m : Int) - (m : Int) / 2 = (m2 : Int) := ⟨_, rfl, by omega⟩
      obtain ⟨i2, ei2, ei3⟩ : ∃ i2 : Nat, i2 = i / 2 ∧ (i : Int) / 2 = (i2 : Int) := ⟨_, rfl, by omega⟩
      have w1 : IntKind.i64.wrap (m2 : Int) = (m2 : Int) := IntWalk.i64_in _ (by omega)
      have hm2 : m2 < m := by omega
      have hi2 : i2 < m2 := by omega
      by_cases hb : bes i < m
      · have t2 : decide ((m : Int) ≤ ((bes i : Nat) : Int)) = false := by simp; omega
        have t2n : decide (m ≤ bes i) = false := by simp; omega
        rcases q0 with _ | ⟨x, q⟩
        · have HR : Hid (ckL n0 i0 a0 p = none) := Lib.hid (by rw [← HCK0.out, ck_nil h1 hb])
          generalize bes i = bi at hxo t2 t2n
          rw [List.length_nil]
          have t3 : (((0 : Nat) : Int) == 0) = true := by decide
          go_wp2_with fail
          go_ret
          exact ⟨by rw [← HA0.out, HR.out]; rfl, hfr.toBelow (by simp)⟩
        · obtain ⟨b, off, rfl⟩ := hqa 0 (by simp)
          have HCK := HCK0
          rw [ck_cons h1 hb, ← em2, ← ei2] at HCK
          have c0 := hfr.cell (HSQ0.out.cell 0 (by simp)) (by simp)
          rw [Nat.add_zero] at c0
          rw [show (x :: q).getD 0 [] = x from rfl] at c0
          have hcap := HSQ0.out.capOf
          have HBL : Hid (b < w.heap.size) := Lib.hid (by
            rcases HSQ0.out with ⟨h, _⟩ | ⟨_, _, _, h, _, _, h3, _⟩
            · cases h
            · cases h; exact h3)
          have HSQ := Lib.hid (HSQ0.out.tl (by simp))
          have HX := Lib.hid (HQS0.out x (by simp))
          have HQS : Hid (∀ s ∈ q, s.length ≤ 1000000) := Lib.hid (fun s hs => HQS0.out s (by simp [hs]))
          rw [List.length_cons] at HSQ hcap hql hq9 ⊢
          rw [Nat.add_sub_cancel] at HSQ
          have t3 : (((q.length + 1 : Nat) : Int) == 0) = false := by rw [beq_eq_false_iff_ne]; omega
          have t3' : ((q.length : Int) + 1 == 0) = false := by rw [beq_eq_false_iff_ne]; omega
          have g0 : (0 : Int) < ((q.length + 1 : Nat) : Int) := by omega
          have g1 : (1 : Int) ≤ ((q.length + 1 : Nat) : Int) := by omega
          have g2 : (1 : Int) ≤ (qcap : Int) := by omega
          clear HCK0 HSQ0 HQS0 em2 ei2 hqa
          generalize bes i = bi at hxo t2 t2n
          by_cases he : i % 2 = 0
          · have t4 : ((i : Int) % 2 == 0) = true := by simp; omega
            have t4' : ((i : Int).tmod 2 == 0) = true := by rw [Int.tmod_eq_emod_of_nonneg (by omega), beq_iff_eq]; omega
            rw [if_pos he] at HCK
            by_cases hq1 : qcap = 1
            · subst hq1
              obtain rfl : q = [] := List.length_eq_zero_iff.1 (by omega)
              have HSQ1 : Hid (Strs w (.slice (some ⟨b, off, none⟩) ([] : List (List UInt8)).length 0) []) := Lib.hid (Or.inr ⟨b, off, 0, rfl, by simp, by decide, HBL.out, fun i hi => absurd hi (by simp)⟩)
              have hA : Fr [] wr (wr.alloc (.cells #[.string ⟨#[110, 111, 100, 101]⟩, .string ⟨at'.toArray⟩, .string ⟨x.toArray⟩] 9)) := (Fr.refl [] wr).alloc _
              go_wp2_with fail
              refine (of_any _ [nodeB, at', x] _ (strs_three (heap_new rfl)) (by simp) (fun s hs => ?_) (HT.out.fr (hfr.trans hA (by simp)))).mono ?_
              · rcases List.mem_cons.1 hs with rfl | hs
                · decide
                · rcases List.mem_cons.1 hs with rfl | hs
                  · exact HAL.out
                  · rw [List.mem_singleton.1 hs]; exact HX.out
              rintro e w2 ⟨rfl, hb2⟩
              have hf2 : Fr [] w w2 := (hfr.trans hA (by simp)).below hb2 ((hfr.trans hA (by simp)).size)
              rw [show dlist [nodeB, at', x] = nodeD at' x from rfl]
              have HL2 : Hid ((nodeD at' x).length ≤ 1000000) := Lib.hid (by unfold nodeD; rw [dlist_len]; decide)
              generalize nodeD at' x = at2 at HCK HL2 ⊢
              clear hb2 hA hfr c0
              go_wp2_with fail
              go_roundg m2
              case measure => have := HGM.out; omega
              case rel => exact ⟨m2, i2, at2, _, [], by omega, by omega, rfl, rfl, rfl, ⟨rfl, rfl⟩, HSQ1.out, by omega, HL2.out, HQS.out, HCK.out, hf2⟩
            · have hq2 : ¬ qcap - 1 = 0 := by omega
              have hq3 : ¬ qcap ≤ 1 := by omega
              have hA : Fr [] wr (wr.alloc (.cells #[.string ⟨#[110, 111, 100, 101]⟩, .string ⟨at'.toArray⟩, .string ⟨x.toArray⟩] 9)) := (Fr.refl [] wr).alloc _
              go_wp2_with fail
              refine (of_any _ [nodeB, at', x] _ (strs_three (heap_new rfl)) (by simp) (fun s hs => ?_) (HT.out.fr (hfr.trans hA (by simp)))).mono ?_
              · rcases List.mem_cons.1 hs with rfl | hs
                · decide
                · rcases List.mem_cons.1 hs with rfl | hs
                  · exact HAL.out
                  · rw [List.mem_singleton.1 hs]; exact HX.out
              rintro e w2 ⟨rfl, hb2⟩
              have hf2 : Fr [] w w2 := (hfr.trans hA (by simp)).below hb2 ((hfr.trans hA (by simp)).size)
              rw [show dlist [nodeB, at', x] = nodeD at' x from rfl]
              have HL2 : Hid ((nodeD at' x).length ≤ 1000000) := Lib.hid (by unfold nodeD; rw [dlist_len]; decide)
              generalize nodeD at' x = at2 at HCK HL2 ⊢
              clear hb2 hA hfr c0
              go_wp2_with fail
              go_roundg m2
              case measure => have := HGM.out; omega
              case rel => exact ⟨m2, i2, at2, _, q, by omega, by omega, rfl, rfl, rfl, ⟨rfl, rfl⟩, HSQ.out, by omega, HL2.out, HQS.out, HCK.out, hf2⟩
          · have t4 : ((i : Int) % 2 == 0) = false := by rw [beq_eq_false_iff_ne]; omega
            have t4' : ((i : Int).tmod 2 == 0) = false := by rw [Int.tmod_eq_emod_of_nonneg (by omega), beq_eq_false_iff_ne]; omega
            rw [if_neg he] at HCK
            by_cases hq1 : qcap = 1
            · subst hq1
              obtain rfl : q = [] := List.length_eq_zero_iff.1 (by omega)
              have HSQ1 : Hid (Strs w (.slice (some ⟨b, off, none⟩) ([] : List (List UInt8)).length 0) []) := Lib.hid (Or.inr ⟨b, off, 0, rfl, by simp, by decide, HBL.out, fun i hi => absurd hi (by simp)⟩)
              have hA : Fr [] wr (wr.alloc (.cells #[.string ⟨#[110, 111, 100, 101]⟩, .string ⟨x.toArray⟩, .string ⟨at'.toArray⟩] 9)) := (Fr.refl [] wr).alloc _
              go_wp2_with fail
              refine (of_any _ [nodeB, x, at'] _ (strs_three (heap_new rfl)) (by simp) (fun s hs => ?_) (HT.out.fr (hfr.trans hA (by simp)))).mono ?_
              · rcases List.mem_cons.1 hs with rfl | hs
                · decide
                · rcases List.mem_cons.1 hs with rfl | hs
                  · exact HX.out
                  · rw [List.mem_singleton.1 hs]; exact HAL.out
              rintro e w2 ⟨rfl, hb2⟩
              have hf2 : Fr [] w w2 := (hfr.trans hA (by simp)).below hb2 ((hfr.trans hA (by simp)).size)
              rw [show dlist [nodeB, x, at'] = nodeD x at' from rfl]
              have HL2 : Hid ((nodeD x at').length ≤ 1000000) := Lib.hid (by unfold nodeD; rw [dlist_len]; decide)
              generalize nodeD x at' = at2 at HCK HL2 ⊢
              clear hb2 hA hfr c0
              go_wp2_with fail
              go_roundg m2
              case measure => have := HGM.out; omega
              case rel => exact ⟨m2, i2, at2, _, [], by omega, by omega, rfl, rfl, rfl, ⟨rfl, rfl⟩, HSQ1.out, by omega, HL2.out, HQS.out, HCK.out, hf2⟩
            · have hq2 : ¬ qcap - 1 = 0 := by omega
              have hq3 : ¬ qcap ≤ 1 := by omega
              have hA : Fr [] wr (wr.alloc (.cells #[.string ⟨#[110, 111, 100, 101]⟩, .string ⟨x.toArray⟩, .string ⟨at'.toArray⟩] 9)) := (Fr.refl [] wr).alloc _
              go_wp2_with fail
              refine (of_any _ [nodeB, x, at'] _ (strs_three (heap_new rfl)) (by simp) (fun s hs => ?_) (HT.out.fr (hfr.trans hA (by simp)))).mono ?_
              · rcases List.mem_cons.1 hs with rfl | hs
                · decide
                · rcases List.mem_cons.1 hs with rfl | hs
                  · exact HX.out
                  · rw [List.mem_singleton.1 hs]; exact HAL.out
              rintro e w2 ⟨rfl, hb2⟩
              have hf2 : Fr [] w w2 := (hfr.trans hA (by simp)).below hb2 ((hfr.trans hA (by simp)).size)
              rw [show dlist [nodeB, x, at'] = nodeD x at' from rfl]
              have HL2 : Hid ((nodeD x at').length ≤ 1000000) := Lib.hid (by unfold nodeD; rw [dlist_len]; decide)
              generalize nodeD x at' = at2 at HCK HL2 ⊢
              clear hb2 hA hfr c0
              go_wp2_with fail
              go_roundg m2
              case measure => have := HGM.out; omega
              case rel => exact ⟨m2, i2, at2, _, q, by omega, by omega, rfl, rfl, rfl, ⟨rfl, rfl⟩, HSQ.out, by omega, HL2.out, HQS.out, HCK.out, hf2⟩
      · have t2 : decide ((m : Int) ≤ ((bes i : Nat) : Int)) = true := by simp; omega
        have t2n : decide (m ≤ bes i) = true := by simp; omega
        have HCK := HCK0
        rw [ck_skip h1 hb, ← em2, ← ei2] at HCK
        clear em2 ei2 HCK0
        generalize bes i = bi at hxo t2 t2n
        go_wp2_with fail
        go_roundg m2
        case measure => have := HGM.out; omega
        case rel => exact ⟨m2, i2, at', _, q0, by omega, by omega, rfl, rfl, rfl, ⟨rfl, rfl⟩, HSQ0.out, hql, HAL.out, HQS0.out, HCK.out, hfr⟩
    · have t1 : decide ((1 : Int) < (m : Int)) = false := by simp; omega
      have HCK := HCK0
      rw [ck_end h1] at HCK
      rcases q0 with _ | ⟨x, q⟩
      · rw [if_pos rfl] at HCK
        have HE : Hid ((ckL n0 i0 a0 p == some root) = (at' == root)) := Lib.hid (by rw [← HCK.out]; rfl)
        cases hr : (at' == root) with
        | true =>
          rw [hr] at HE
          go_wp2_with fail
          go_ret
          exact ⟨by rw [← HA0.out, HE.out]; rfl, hfr.toBelow (by simp)⟩
        | false =>
          rw [hr] at HE
          go_wp2_with fail
          go_ret
          exact ⟨by rw [← HA0.out, HE.out]; rfl, hfr.toBelow (by simp)⟩
      · rw [if_neg (by simp)] at HCK
        rw [List.length_cons]
        have t3 : (((q.length + 1 : Nat) : Int) == 0) = false := by rw [beq_eq_false_iff_ne]; omega
        have t3' : ((q.length : Int) + 1 == 0) = false := by rw [beq_eq_false_iff_ne]; omega
        go_wp2_with fail
        go_ret
        exact ⟨by rw [← HA0.out, ← HCK.out]; rfl, hfr.toBelow (by simp)⟩
end Go.Proofs.YtmhejcndkplepaaDoor
