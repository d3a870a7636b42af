/-
  Gates of the reference: New, Log, write, Sync, Leave; the calls at a nil gate.
  Gates of the reference: Scan.
  foyerlaw37.do at a nil gate; pairs of a gate and a gate of the reference.
-/
import Derived.Test.YtglgkdbhdjkeaaaGreatDoorRgA
import Derived.Test.YtglgkdbhdjkeaaaGreatDoorRtC
import Derived.Test.YtglgkdbhdjkeaaaGreatDoorGaF
namespace Go.Proofs.YtglgkdbhdjkeaaaGreatDoor
open Go.RowKit

theorem nil29 : ∀ w, (binOp .eql 29 (.pointer none) (.pointer none)).run Tryz.prog w = .ok (.bool true) w := fun _ => by kernel_rfl
theorem ptr29 (gp : Nat) : ∀ w, (binOp .eql 29 (.pointer (some ⟨gp, 0, none⟩)) (.pointer none)).run Tryz.prog w = .ok (.bool false) w := fun _ => by kernel_rfl

set_option maxRecDepth 100000 in
theorem rlog37_nil (w : World) : Calls Tryz.prog 21 #[.pointer none] w fun e w' => e = .returned (.slice none 0 0) ∧ w = w' := by
  have hq := nil29
  go_enter Tryz.func21, Tryz.ntmps21
  go_wp2_with fail
  go_ret
  exact ⟨rfl, rfl⟩
set_option maxRecDepth 100000 in
theorem rscan37_nil (a b c : Int) (d : ByteArray) (cv : Value) (now : Int) (w : World) :
    Calls Tryz.prog 15 #[.pointer none, .agg #[.int .i64 a, .int .i64 b, .int .i64 c, .string d, cv], .int .i64 now] w fun e w' => e = .returned (.tuple #[.int .i64 0, .int .i64 1]) ∧ Below w.heap.size w w' := by
  have hq := nil29
  go_enter Tryz.func15, Tryz.ntmps15
  go_wp2_with fail
  go_ret2
  exact ⟨rfl, ((Fr.refl [] w).alloc _).toBelow (by simp)⟩
set_option maxRecDepth 100000 in
theorem rleave37_nil (serial now : Int) (w : World) :
    Calls Tryz.prog 16 #[.pointer none, .int .i64 serial, .int .i64 now] w fun e w' => e = .returned (.int .i64 1) ∧ Below w.heap.size w w' := by
  have hq := nil29
  go_enter Tryz.func16, Tryz.ntmps16
  go_wp2_with fail
  go_ret
  exact ⟨rfl, Below.refl _ _⟩
set_option maxRecDepth 100000 in
theorem rsync37_nil (a b : Int) (cv : Value) (now : Int) (w : World) :
    Calls Tryz.prog 17 #[.pointer none, .agg #[.int .i64 a, .int .i64 b, cv], .int .i64 now] w fun e w' => e = .returned (.int .i64 1) ∧ Below w.heap.size w w' := by
  have hq := nil29
  go_enter Tryz.func17, Tryz.ntmps17
  go_wp2_with fail
  go_ret
  exact ⟨rfl, ((Fr.refl [] w).alloc _).toBelow (by simp)⟩

set_option maxRecDepth 100000 in
set_option maxHeartbeats 1000000 in
theorem rlog37_any (B : Nat) (X : List Nat) (gp : Nat) (g : Gst) (F : List Nat) (w : World) (h : RgR B X w gp g F) :
    Calls Tryz.prog 21 #[rgP gp] w fun e w' => ∃ v, e = .returned v ∧ OwnC w.heap.size w' v g.log ∧ Below w.heap.size w w' := by
  obtain ⟨fw, lv, hm⟩ := h
  have hq := ptr29 gp
  obtain ⟨la, lc, rfl, hlc, hlm, hla⟩ := hm.o.scs.form
  have hl := hm.i.l
  have HS := Lib.hid hm.o.scs
  obtain ⟨W0, hW0⟩ : ∃ W0, W0 = w.alloc (.cells #[] 58) := ⟨_, rfl⟩
  obtain ⟨p, ep⟩ : ∃ p, p = w.heap.size := ⟨_, rfl⟩
  have f0 : Fr [] w W0 := by rw [hW0]; exact (Fr.refl [] w).alloc _
  have HO := Lib.hid (show OwnC w.heap.size W0 (.slice (some ⟨p, 0, none⟩) 0 0) [] by rw [hW0, ep]; exact ownC_empty (Nat.le_refl _))
  have c := row_cell (f0.at hm.p (by simp)) 8
  unfold rgC at c
  simp at c
  have HF := Lib.hid f0
  clear hm f0
  rw [hW0] at c
  unfold rgP
  go_enter Tryz.func21, Tryz.ntmps21
  go_wp2_with (at_builtin; rw [← hW0, ← ep]; go_loud (refine wpList_appC rfl (.tmp 5) (.tmp 9) rfl w.heap.size (.slice (some ⟨p, 0, none⟩) 0 0) _ [] g.log w rfl rfl (HS.out.fr HF.out) HO.out HF.out (Nat.le_refl _) HF.out.size (by simp; omega) ?_))
  intro v' w' ho hf _ _
  have HO2 := Lib.hid ho
  have HF2 := Lib.hid hf
  clear ho hf c
  go_wp2_with fail
  go_ret
  exact ⟨_, rfl, HO2.out, HF2.out.toBelow (by simp)⟩

theorem newRg_made (B : Nat) (X : List Nat) (w : World) (id shw stale : Int) (hi : GInv (newG id shw stale)) (hB : B ≤ w.heap.size) :
    RgR B X (w.alloc (.cells (rgC (newG id shw stale) (.slice none 0 0) (.slice none 0 0)) 71)) w.heap.size (newG id shw stale) [w.heap.size] :=
  ⟨.slice none 0 0, .slice none 0 0, heap_new rfl, ⟨Or.inl ⟨rfl, none, rfl⟩, Or.inl ⟨rfl, none, rfl⟩⟩, OwnC.nil, rfl, hB, hi⟩
set_option maxRecDepth 100000 in
set_option maxHeartbeats 2000000 in
/-- foyerref37.New. -/
theorem rnew37_any (X : List Nat) (id shw stale : Int) (w : World) :
    Calls Tryz.prog 13 #[.int .i64 id, .int .i64 shw, .int .i64 stale] w fun e w' =>
      (goodG id shw stale = true → e = .returned (.tuple #[rgP w.heap.size, .int .i64 0]) ∧ RgR w.heap.size X w' w.heap.size (newG id shw stale) [w.heap.size]) ∧
      (goodG id shw stale = false → e = .returned (.tuple #[.pointer none, .int .i64 1])) ∧ Below w.heap.size w w' := by
  go_enter Tryz.func13, Tryz.ntmps13
  by_cases h1 : id < 0
  · have HG : Hid (goodG id shw stale = false) := Lib.hid (by unfold goodG; rw [Bool.and_eq_false_iff]; left; simp; omega)
    have t1 : decide (id < 0) = true := by simpa using h1
    clear h1
    go_wp2_with fail
    go_ret2
    exact ⟨fun h => (by rw [HG.out] at h; cases h), fun _ => rfl, Below.refl _ _⟩
  have t1 : decide (id < 0) = false := by simpa using h1
  by_cases h2 : 999 < id
  · have HG : Hid (goodG id shw stale = false) := Lib.hid (by unfold goodG; rw [Bool.and_eq_false_iff]; left; simp; omega)
    have t2 : decide (999 < id) = true := by simpa using h2
    clear h1 h2
    go_wp2_with fail
    go_ret2
    exact ⟨fun h => (by rw [HG.out] at h; cases h), fun _ => rfl, Below.refl _ _⟩
  have t2 : decide (999 < id) = false := by simp; omega
  by_cases h3 : shw < 0
  · have HG : Hid (goodG id shw stale = false) := Lib.hid (by unfold goodG; rw [Bool.and_eq_false_iff]; left; simp; omega)
    have t3 : decide (shw < 0) = true := by simpa using h3
    clear h1 h2 h3
    go_wp2_with fail
    go_ret2
    exact ⟨fun h => (by rw [HG.out] at h; cases h), fun _ => rfl, Below.refl _ _⟩
  have t3 : decide (shw < 0) = false := by simpa using h3
  by_cases h4 : 19 < shw
  · have HG : Hid (goodG id shw stale = false) := Lib.hid (by unfold goodG; rw [Bool.and_eq_false_iff]; left; simp; omega)
    have t4 : decide (19 < shw) = true := by simpa using h4
    clear h1 h2 h3 h4
    go_wp2_with fail
    go_ret2
    exact ⟨fun h => (by rw [HG.out] at h; cases h), fun _ => rfl, Below.refl _ _⟩
  have t4 : decide (19 < shw) = false := by simp; omega
  obtain ⟨tb, htb⟩ : ∃ q, q = timeB stale := ⟨_, rfl⟩
  have HG : Hid (goodG id shw stale = tb) := Lib.hid (by
    unfold goodG
    rw [htb, decide_eq_true (by omega), Bool.true_and])
  have HTB := Lib.hid htb
  clear htb h1 h2 h3 h4
  go_wp2_with fail
  refine (rtime37_any stale w).mono ?_
  rintro e w1 ⟨rfl, rfl⟩
  rw [← HTB.out]
  cases tb with
  | false =>
    go_wp2_with fail
    go_ret2
    exact ⟨fun h => (by rw [HG.out] at h; cases h), fun _ => rfl, Below.refl _ _⟩
  | true =>
    go_wp2_with fail
    have hmade := newRg_made w.heap.size X w id shw stale (GInv.new HG.out) (Nat.le_refl _)
    unfold rgC newG at hmade
    go_ret2
    refine ⟨fun _ => ⟨rfl, hmade⟩, fun h => ?_, (Below.refl _ w).alloc (Nat.le_refl _) _⟩
    rw [HG.out] at h
    cases h

theorem rg_put {B : Nat} {X : List Nat} {w W1 w7 : World} {gp : Nat} {g : Gst} {fw : Value} {F : List Nat} {kind serial now : Int} {owner : List UInt8} {la va : Option Addr} {lc vc : Nat}
    (hm : RgM B X w gp g fw (.slice la g.log.length lc) F) (hX1 : Fr [gp] w W1) (hp1 : W1.heap[gp]? = some (.cells (rgC { g with now := now } fw (.slice la g.log.length lc)) 71 (0, 0)))
    (hn : 0 ≤ now ∧ now ≤ 1000000000) (hg : g.now ≤ now) (hl : g.log.length < 4000) (hf7 : Fr [] W1 w7)
    (ho7 : OwnC W1.heap.size w7 (.slice va (g.log.length + 1) vc) (g.log ++ [(⟨g.id, (g.log.length : Int) + 1, now, serial, kind, owner⟩ : Scn)])) :
    RgQ B X w gp (putG g kind serial owner now) F (w7.setCell ⟨gp, 8, none⟩ (.slice va (g.log.length + 1) vc)) := by
  have hp7 := hf7.at hp1 (by simp)
  have hfx : Fr [gp] w7 (w7.setCell ⟨gp, 8, none⟩ (.slice va (g.log.length + 1) vc)) := (Fr.refl [gp] w7).setCell _ _ (by simp)
  have hall : Fr [gp] w (w7.setCell ⟨gp, 8, none⟩ (.slice va (g.log.length + 1) vc)) := (hX1.trans hf7 (by simp)).trans hfx (fun y hy => Or.inl hy)
  have hgm := hm.mem
  have hblk : ∀ k, (Value.slice va (g.log.length + 1) vc).ownBlock = some k → w.heap.size ≤ k := fun k hk => Nat.le_trans hX1.size (ho7.block k hk).1
  refine ⟨gp :: (Value.slice va (g.log.length + 1) vc).ownBlock.toList, ⟨fw, .slice va (g.log.length + 1) vc, row_set hp7 8 _, ?_, ?_, rfl, hm.b, hm.i.put hn hg hl kind serial owner⟩, hall.mono (fun x hx => Or.inl (by rw [List.mem_singleton.1 hx]; exact hgm.1)), fun k hk => ?_⟩
  · refine hm.w.step hall (fun k hk => by rw [List.mem_singleton.1 hk, List.mem_append]; exact Or.inl hgm.1) (fun k hk => ?_)
    simp only [List.mem_append, List.mem_cons, Option.mem_toList] at hk ⊢
    rcases hk with (rfl | hk) | hk
    · exact Or.inl (Or.inl hgm.1)
    · exact Or.inr (hblk k hk)
    · exact Or.inl (Or.inr hk)
  · refine (ho7.fr hfx (fun k hk hk2 => ?_)).mono (Nat.le_trans hm.b (Nat.le_of_lt (lt_of_block hp1)))
    rw [List.mem_singleton.1 hk2] at hk
    exact row_ne hp7 (by decide) ho7 hk.symm
  · simp only [List.mem_cons, Option.mem_toList] at hk
    rcases hk with rfl | hk
    · exact Or.inl hgm.1
    · exact Or.inr (hblk k hk)
set_option maxRecDepth 100000 in
set_option maxHeartbeats 8000000 in
theorem rwrite37_any (B : Nat) (X : List Nat) (gp : Nat) (g : Gst) (F : List Nat) (kind serial : Int) (owner : List UInt8) (now : Int) (w : World) (h : RgR B X w gp g F)
    (hn : 0 ≤ now ∧ now ≤ 1000000000) (hg : g.now ≤ now) (hl : g.log.length < 4000) :
    Calls Tryz.prog 35 #[rgP gp, .int .i64 kind, .int .i64 serial, .string ⟨owner.toArray⟩, .int .i64 now] w fun e w' => e = .returned (.tuple #[]) ∧ RgQ B X w gp (putG g kind serial owner now) F w' := by
  have hmx : Tryz.prog.follows .mixedOrders = true := by kernel_rfl
  obtain ⟨fw, lv, hm⟩ := h
  obtain ⟨la, lc, hlv, hlc, hlm, _⟩ := hm.o.scs.form
  subst hlv
  have HM := Lib.hid hm
  have hp := hm.p
  have c3 := row_cell hp 3
  have f3 := row_free hp 3
  unfold rgC at c3
  simp at c3
  have hp1 : (w.setCell ⟨gp, 3, none⟩ (.int .i64 now)).heap[gp]? = some (.cells (rgC { g with now := now } fw (.slice la g.log.length lc)) 71 (0, 0)) := row_set hp 3 _
  have hX1 : Fr [gp] w (w.setCell ⟨gp, 3, none⟩ (.int .i64 now)) := (Fr.refl [gp] w).setCell _ _ (by simp)
  have HP1 := Lib.hid hp1
  have HX1 := Lib.hid hX1
  have HS1 : Hid (Scs (w.setCell ⟨gp, 3, none⟩ (.int .i64 now)) (.slice la g.log.length lc) g.log) := Lib.hid (hm.o.scs.frX hX1 (fun k hk hk2 => by
    rw [List.mem_singleton.1 hk2] at hk
    exact row_ne hp (by decide) hm.o hk.symm))
  clear hp1 hX1 hp hm
  unfold rgP
  go_enter Tryz.func35, Tryz.ntmps35
  go_wp2_with fail
  generalize w.setCell ⟨gp, 3, none⟩ (.int .i64 now) = W1 at HP1 HX1 HS1 ⊢
  have c0 := row_cell HP1.out 0
  have c8 := row_cell HP1.out 8
  unfold rgC at c0 c8
  simp at c0 c8
  clear c3 f3
  have gb0 : Fr [] W1 W1.drew := (Fr.refl [] W1).drew
  have hSb0 : W1.drew.cell? ⟨gp, 0, none⟩ = some (.int .i64 g.id) ∧ W1.drew.cell? ⟨gp, 8, none⟩ = some (.slice la g.log.length lc) := ⟨gb0.cell c0 (by simp), gb0.cell c8 (by simp)⟩
  refine region_held 26 (fun W' => W'.cell? ⟨gp, 0, none⟩ = some (.int .i64 g.id) ∧ W'.cell? ⟨gp, 8, none⟩ = some (.slice la g.log.length lc)) hmx ?_
  change Held _ _ _ _ _ _ 27 (Array.replicate 27 false) _ _
  refine hd_take 0 (v := .pointer (some ⟨gp, 0, none⟩)) rfl (by kernel_rfl) (by kernel_rfl) (by kernel_rfl) rfl hSb0 (fun W' hS => by go_simp) rfl ?_
  refine hd_take 2 (v := .pointer (some ⟨gp, 0, none⟩)) rfl (by kernel_rfl) (by kernel_rfl) (by kernel_rfl) rfl hSb0 (fun W' hS => by go_simp) rfl ?_
  refine hd_take 7 (v := .pointer (some ⟨gp, 0, none⟩)) rfl (by kernel_rfl) (by kernel_rfl) (by kernel_rfl) rfl hSb0 (fun W' hS => by go_simp) rfl ?_
  refine hd_take 11 (v := .pointer (some ⟨gp, 0, none⟩)) rfl (by kernel_rfl) (by kernel_rfl) (by kernel_rfl) rfl hSb0 (fun W' hS => by go_simp) rfl ?_
  refine hd_take 17 (v := .int .i64 now) rfl (by kernel_rfl) (by kernel_rfl) (by kernel_rfl) rfl hSb0 (fun W' hS => by go_simp) rfl ?_
  refine hd_take 18 (v := .int .i64 serial) rfl (by kernel_rfl) (by kernel_rfl) (by kernel_rfl) rfl hSb0 (fun W' hS => by go_simp) rfl ?_
  refine hd_take 19 (v := .int .i64 kind) rfl (by kernel_rfl) (by kernel_rfl) (by kernel_rfl) rfl hSb0 (fun W' hS => by go_simp) rfl ?_
  refine hd_take 20 (v := .string ⟨owner.toArray⟩) rfl (by kernel_rfl) (by kernel_rfl) (by kernel_rfl) rfl hSb0 (fun W' hS => by go_simp) rfl ?_
  try simp only [Act.put, List.setIfInBounds_toArray, List.set_cons_zero, List.set_cons_succ]
  refine hd_take 3 (v := .pointer (some ⟨gp, 0, none⟩)) rfl (by kernel_rfl) (by kernel_rfl) (by kernel_rfl) rfl hSb0 (fun W' hS => by go_simp) rfl ?_
  refine hd_take 8 (v := .pointer (some ⟨gp, 0, none⟩)) rfl (by kernel_rfl) (by kernel_rfl) (by kernel_rfl) rfl hSb0 (fun W' hS => by go_simp) rfl ?_
  refine hd_take 12 (v := .pointer (some ⟨gp, 0, none⟩)) rfl (by kernel_rfl) (by kernel_rfl) (by kernel_rfl) rfl hSb0 (fun W' hS => by go_simp) rfl ?_
  try simp only [Act.put, List.setIfInBounds_toArray, List.set_cons_zero, List.set_cons_succ]
  refine hd_take 4 (v := .pointer (some ⟨gp, 8, none⟩)) rfl (by kernel_rfl) (by kernel_rfl) (by kernel_rfl) rfl hSb0 (fun W' hS => by go_simp) rfl ?_
  refine hd_take 9 (v := .pointer (some ⟨gp, 0, none⟩)) rfl (by kernel_rfl) (by kernel_rfl) (by kernel_rfl) rfl hSb0 (fun W' hS => by go_simp) rfl ?_
  refine hd_take 13 (v := .pointer (some ⟨gp, 8, none⟩)) rfl (by kernel_rfl) (by kernel_rfl) (by kernel_rfl) rfl hSb0 (fun W' hS => by go_simp) rfl ?_
  try simp only [Act.put, List.setIfInBounds_toArray, List.set_cons_zero, List.set_cons_succ]
  refine hd_take 5 (v := .slice la g.log.length lc) rfl (by kernel_rfl) (by kernel_rfl) (by kernel_rfl) rfl hSb0 (fun W' hS => by obtain ⟨s0, s1⟩ := hS; go_simp) rfl ?_
  refine hd_take 10 (v := .int .i64 g.id) rfl (by kernel_rfl) (by kernel_rfl) (by kernel_rfl) rfl hSb0 (fun W' hS => by obtain ⟨s0, s1⟩ := hS; go_simp) rfl ?_
  refine hd_take 14 (v := .slice la g.log.length lc) rfl (by kernel_rfl) (by kernel_rfl) (by kernel_rfl) rfl hSb0 (fun W' hS => by obtain ⟨s0, s1⟩ := hS; go_simp) rfl ?_
  try simp only [Act.put, List.setIfInBounds_toArray, List.set_cons_zero, List.set_cons_succ]
  refine hd_take 15 (v := .int .i64 (g.log.length : Int)) rfl (by kernel_rfl) (by kernel_rfl) (by kernel_rfl) rfl hSb0 (fun W' hS => by go_simp) rfl ?_
  try simp only [Act.put, List.setIfInBounds_toArray, List.set_cons_zero, List.set_cons_succ]
  refine hd_take 16 (v := .int .i64 ((g.log.length : Int) + 1)) rfl (by kernel_rfl) (by kernel_rfl) (by kernel_rfl) rfl hSb0 (fun W' hS => by have w1 : IntKind.i64.wrap ((g.log.length : Int) + 1) = (g.log.length : Int) + 1 := IntWalk.i64_in _ (by omega); go_simp) rfl ?_
  try simp only [Act.put, List.setIfInBounds_toArray, List.set_cons_zero, List.set_cons_succ]
  refine hd_take 21 (v := .agg #[.int .i64 g.id, .int .i64 ((g.log.length : Int) + 1), .int .i64 now, .int .i64 serial, .int .i64 kind, .string ⟨owner.toArray⟩]) rfl (by kernel_rfl) (by kernel_rfl) (by kernel_rfl) rfl hSb0 (fun W' hS => by go_simp) rfl ?_
  try simp only [Act.put, List.setIfInBounds_toArray, List.set_cons_zero, List.set_cons_succ]
  generalize W1.drew = Yd at gb0 hSb0 ⊢
  refine hd_two 1 22 (by kernel_rfl) rfl (by kernel_rfl) rfl rfl (by kernel_rfl) rfl (fun K' hK => ?_) (fun K' hK => ?_)
  · go_simp
    have gg1 := gb0.alloc (.cells #[] 58)
    obtain ⟨e0, ee0⟩ : ∃ e0, e0 = Yd.heap.size := ⟨_, rfl⟩
    have le0 : W1.heap.size ≤ e0 := by rw [ee0]; exact gb0.size
    have HO0 := Lib.hid (show OwnC W1.heap.size (Yd.alloc (.cells #[] 58)) (.slice (some ⟨e0, 0, none⟩) 0 0) [] by rw [ee0]; exact ownC_empty gb0.size)
    rw [← ee0]
    generalize Yd.alloc (.cells #[] 58) = v1 at gg1 HO0  ⊢
    clear ee0
    have hS2 : v1.cell? ⟨gp, 0, none⟩ = some (.int .i64 g.id) ∧ v1.cell? ⟨gp, 8, none⟩ = some (.slice la g.log.length lc) := ⟨gg1.cell c0 (by simp), gg1.cell c8 (by simp)⟩
    refine hK.out _ _ (fun _ => hS2) ?_
    clear hK K'
    try simp only [Act.put, List.setIfInBounds_toArray, List.set_cons_zero, List.set_cons_succ]
    refine hd_two 6 22 (by kernel_rfl) rfl (by kernel_rfl) rfl rfl (by kernel_rfl) rfl (fun K' hK => ?_) (fun K' hK => ?_)
    · refine wp_appC (.tmp 15) (.tmp 19) rfl W1.heap.size (.slice (some ⟨e0, 0, none⟩) 0 0) _ [] g.log W1 (by kernel_rfl) (by kernel_rfl) (HS1.out.fr gg1) HO0.out gg1 (Nat.le_refl _) gg1.size (by simp; omega) ?_
      intro ov w3 ho3 hf3 hg3 _
      rw [List.nil_append] at ho3
      obtain ⟨oa, oc, rfl, _, _, _⟩ := ho3.scs.form
      have HO3 := Lib.hid ho3
      clear ho3 HO0
      have hS4 : w3.cell? ⟨gp, 0, none⟩ = some (.int .i64 g.id) ∧ w3.cell? ⟨gp, 8, none⟩ = some (.slice la g.log.length lc) := ⟨hf3.cell c0 (by simp), hf3.cell c8 (by simp)⟩
      refine hK.out _ _ (fun _ => hS4) ?_
      clear hK K'
      try simp only [Act.put, List.setIfInBounds_toArray, List.set_cons_zero, List.set_cons_succ]
      refine hd_one 22 (by kernel_rfl) rfl (by kernel_rfl) rfl (fun K' hK => ?_)
      go_simp
      have gg5 := hf3.alloc (.cells #[.int .i64 g.id, .int .i64 ((g.log.length : Int) + 1), .int .i64 now, .int .i64 serial, .int .i64 kind, .string ⟨owner.toArray⟩] 58)
      have HO3 := Lib.hid (HO3.out.fr ((Fr.refl [] w3).alloc (.cells #[.int .i64 g.id, .int .i64 ((g.log.length : Int) + 1), .int .i64 now, .int .i64 serial, .int .i64 kind, .string ⟨owner.toArray⟩] 58)) (by simp))
      obtain ⟨e5, ee5⟩ : ∃ e5, e5 = w3.heap.size := ⟨_, rfl⟩
      have le5 : W1.heap.size ≤ e5 := by rw [ee5]; exact hf3.size
      have hq5 : (w3.alloc (.cells #[.int .i64 g.id, .int .i64 ((g.log.length : Int) + 1), .int .i64 now, .int .i64 serial, .int .i64 kind, .string ⟨owner.toArray⟩] 58)).heap[e5]? = some (.cells #[.int .i64 g.id, .int .i64 ((g.log.length : Int) + 1), .int .i64 now, .int .i64 serial, .int .i64 kind, .string ⟨owner.toArray⟩] 58 (0, 0)) := heap_new ee5
      rw [← ee5]
      generalize w3.alloc (.cells #[.int .i64 g.id, .int .i64 ((g.log.length : Int) + 1), .int .i64 now, .int .i64 serial, .int .i64 kind, .string ⟨owner.toArray⟩] 58) = v5 at gg5 hq5 HO3 ⊢
      clear ee5
      have hS6 : v5.cell? ⟨gp, 0, none⟩ = some (.int .i64 g.id) ∧ v5.cell? ⟨gp, 8, none⟩ = some (.slice la g.log.length lc) := ⟨gg5.cell c0 (by simp), gg5.cell c8 (by simp)⟩
      refine hK.out _ _ (fun _ => hS6) ?_
      clear hK K'
      try simp only [Act.put, List.setIfInBounds_toArray, List.set_cons_zero, List.set_cons_succ]
      refine hd_one 23 (by kernel_rfl) rfl (by kernel_rfl) rfl (fun K' hK => ?_)
      refine wp_appC (.tmp 20) (.tmp 36) rfl W1.heap.size (.slice oa g.log.length oc) _ g.log [(⟨g.id, (g.log.length : Int) + 1, now, serial, kind, owner⟩ : Scn)] W1 (by kernel_rfl) (by kernel_rfl) (scs_one hq5) HO3.out gg5 (Nat.le_refl _) gg5.size (by simp; omega) ?_
      intro v' w7 ho7 hf7 _ _
      obtain ⟨va, vc, hv7, _, _, _⟩ := ho7.scs.form
      rw [List.length_append, List.length_singleton] at hv7
      subst hv7
      have hS7 : w7.cell? ⟨gp, 0, none⟩ = some (.int .i64 g.id) ∧ w7.cell? ⟨gp, 8, none⟩ = some (.slice la g.log.length lc) := ⟨hf7.cell c0 (by simp), hf7.cell c8 (by simp)⟩
      refine hK.out _ _ (fun _ => hS7) ?_
      clear hK K'
      try simp only [Act.put, List.setIfInBounds_toArray, List.set_cons_zero, List.set_cons_succ]
      refine hd_one 24 (by kernel_rfl) rfl (by kernel_rfl) rfl (fun K' hK => ?_)
      go_simp
      refine hK.out _ _ (fun _ => hS7) ?_
      clear hK K'
      try simp only [Act.put, List.setIfInBounds_toArray, List.set_cons_zero, List.set_cons_succ]
      refine hd_take 25 (v := .pointer (some ⟨gp, 8, none⟩)) rfl (by kernel_rfl) (by kernel_rfl) (by kernel_rfl) rfl hS7 (fun W' hS => by go_simp) rfl ?_
      try simp only [Act.put, List.setIfInBounds_toArray, List.set_cons_zero, List.set_cons_succ]
      have hp7 := hf7.at HP1.out (by simp)
      have r8 := row_cell hp7 8
      unfold rgC at r8
      simp at r8
      have y8 := row_free hp7 8
      refine hd_one 26 (by kernel_rfl) rfl (by kernel_rfl) rfl (fun K' hK => ?_)
      go_simp
      refine hK.out _ _ (fun h => absurd rfl h) ?_
      clear hK K'
      refine held_done (by kernel_rfl) ?_
      have HRES := Lib.hid (rg_put HM.out HX1.out HP1.out hn hg hl hf7 ho7)
      clear ho7 hf7 hp7 r8 y8 hS7
      generalize w7.setCell ⟨gp, 8, none⟩ (.slice va (g.log.length + 1) vc) = w8 at HRES ⊢
      go_wp2_with fail
      go_end0
      exact ⟨rfl, HRES.out⟩
    · have HO0old := HO0
      go_simp
      have gg7 := gg1.alloc (.cells #[.int .i64 g.id, .int .i64 ((g.log.length : Int) + 1), .int .i64 now, .int .i64 serial, .int .i64 kind, .string ⟨owner.toArray⟩] 58)
      have HO0 := Lib.hid (HO0.out.fr ((Fr.refl [] v1).alloc (.cells #[.int .i64 g.id, .int .i64 ((g.log.length : Int) + 1), .int .i64 now, .int .i64 serial, .int .i64 kind, .string ⟨owner.toArray⟩] 58)) (by simp))
      obtain ⟨e5, ee5⟩ : ∃ e5, e5 = v1.heap.size := ⟨_, rfl⟩
      have le5 : W1.heap.size ≤ e5 := by rw [ee5]; exact gg1.size
      have hq5 : (v1.alloc (.cells #[.int .i64 g.id, .int .i64 ((g.log.length : Int) + 1), .int .i64 now, .int .i64 serial, .int .i64 kind, .string ⟨owner.toArray⟩] 58)).heap[e5]? = some (.cells #[.int .i64 g.id, .int .i64 ((g.log.length : Int) + 1), .int .i64 now, .int .i64 serial, .int .i64 kind, .string ⟨owner.toArray⟩] 58 (0, 0)) := heap_new ee5
      have ne05 : e0 ≠ e5 := by have := (HO0old.out.block e0 rfl).2; omega
      rw [← ee5]
      generalize v1.alloc (.cells #[.int .i64 g.id, .int .i64 ((g.log.length : Int) + 1), .int .i64 now, .int .i64 serial, .int .i64 kind, .string ⟨owner.toArray⟩] 58) = v7 at gg7 hq5 HO0 ⊢
      clear ee5
      clear HO0old
      have hS8 : v7.cell? ⟨gp, 0, none⟩ = some (.int .i64 g.id) ∧ v7.cell? ⟨gp, 8, none⟩ = some (.slice la g.log.length lc) := ⟨gg7.cell c0 (by simp), gg7.cell c8 (by simp)⟩
      refine hK.out _ _ (fun _ => hS8) ?_
      clear hK K'
      try simp only [Act.put, List.setIfInBounds_toArray, List.set_cons_zero, List.set_cons_succ]
      refine hd_one 6 (by kernel_rfl) rfl (by kernel_rfl) rfl (fun K' hK => ?_)
      refine wp_appC (.tmp 15) (.tmp 19) rfl W1.heap.size (.slice (some ⟨e0, 0, none⟩) 0 0) _ [] g.log W1 (by kernel_rfl) (by kernel_rfl) (HS1.out.fr gg7) HO0.out gg7 (Nat.le_refl _) gg7.size (by simp; omega) ?_
      intro ov w9 ho3 hf9 hg9 _
      rw [List.nil_append] at ho3
      obtain ⟨oa, oc, rfl, _, _, _⟩ := ho3.scs.form
      have HO3 := Lib.hid ho3
      have hq5 := hg9.at hq5 (by simpa [Value.ownBlock] using (Ne.symm ne05))
      clear ho3 HO0
      have hS10 : w9.cell? ⟨gp, 0, none⟩ = some (.int .i64 g.id) ∧ w9.cell? ⟨gp, 8, none⟩ = some (.slice la g.log.length lc) := ⟨hf9.cell c0 (by simp), hf9.cell c8 (by simp)⟩
      refine hK.out _ _ (fun _ => hS10) ?_
      clear hK K'
      try simp only [Act.put, List.setIfInBounds_toArray, List.set_cons_zero, List.set_cons_succ]
      refine hd_one 23 (by kernel_rfl) rfl (by kernel_rfl) rfl (fun K' hK => ?_)
      refine wp_appC (.tmp 20) (.tmp 36) rfl W1.heap.size (.slice oa g.log.length oc) _ g.log [(⟨g.id, (g.log.length : Int) + 1, now, serial, kind, owner⟩ : Scn)] W1 (by kernel_rfl) (by kernel_rfl) (scs_one hq5) HO3.out hf9 (Nat.le_refl _) hf9.size (by simp; omega) ?_
      intro v' w7 ho7 hf7 _ _
      obtain ⟨va, vc, hv7, _, _, _⟩ := ho7.scs.form
      rw [List.length_append, List.length_singleton] at hv7
      subst hv7
      have hS7 : w7.cell? ⟨gp, 0, none⟩ = some (.int .i64 g.id) ∧ w7.cell? ⟨gp, 8, none⟩ = some (.slice la g.log.length lc) := ⟨hf7.cell c0 (by simp), hf7.cell c8 (by simp)⟩
      refine hK.out _ _ (fun _ => hS7) ?_
      clear hK K'
      try simp only [Act.put, List.setIfInBounds_toArray, List.set_cons_zero, List.set_cons_succ]
      refine hd_one 24 (by kernel_rfl) rfl (by kernel_rfl) rfl (fun K' hK => ?_)
      go_simp
      refine hK.out _ _ (fun _ => hS7) ?_
      clear hK K'
      try simp only [Act.put, List.setIfInBounds_toArray, List.set_cons_zero, List.set_cons_succ]
      refine hd_take 25 (v := .pointer (some ⟨gp, 8, none⟩)) rfl (by kernel_rfl) (by kernel_rfl) (by kernel_rfl) rfl hS7 (fun W' hS => by go_simp) rfl ?_
      try simp only [Act.put, List.setIfInBounds_toArray, List.set_cons_zero, List.set_cons_succ]
      have hp7 := hf7.at HP1.out (by simp)
      have r8 := row_cell hp7 8
      unfold rgC at r8
      simp at r8
      have y8 := row_free hp7 8
      refine hd_one 26 (by kernel_rfl) rfl (by kernel_rfl) rfl (fun K' hK => ?_)
      go_simp
      refine hK.out _ _ (fun h => absurd rfl h) ?_
      clear hK K'
      refine held_done (by kernel_rfl) ?_
      have HRES := Lib.hid (rg_put HM.out HX1.out HP1.out hn hg hl hf7 ho7)
      clear ho7 hf7 hp7 r8 y8 hS7
      generalize w7.setCell ⟨gp, 8, none⟩ (.slice va (g.log.length + 1) vc) = w8 at HRES ⊢
      go_wp2_with fail
      go_end0
      exact ⟨rfl, HRES.out⟩
  · go_simp
    have gg11 := gb0.alloc (.cells #[.int .i64 g.id, .int .i64 ((g.log.length : Int) + 1), .int .i64 now, .int .i64 serial, .int .i64 kind, .string ⟨owner.toArray⟩] 58)
    obtain ⟨e5, ee5⟩ : ∃ e5, e5 = Yd.heap.size := ⟨_, rfl⟩
    have le5 : W1.heap.size ≤ e5 := by rw [ee5]; exact gb0.size
    have hq5 : (Yd.alloc (.cells #[.int .i64 g.id, .int .i64 ((g.log.length : Int) + 1), .int .i64 now, .int .i64 serial, .int .i64 kind, .string ⟨owner.toArray⟩] 58)).heap[e5]? = some (.cells #[.int .i64 g.id, .int .i64 ((g.log.length : Int) + 1), .int .i64 now, .int .i64 serial, .int .i64 kind, .string ⟨owner.toArray⟩] 58 (0, 0)) := heap_new ee5
    rw [← ee5]
    generalize Yd.alloc (.cells #[.int .i64 g.id, .int .i64 ((g.log.length : Int) + 1), .int .i64 now, .int .i64 serial, .int .i64 kind, .string ⟨owner.toArray⟩] 58) = v11 at gg11 hq5  ⊢
    clear ee5
    have hS12 : v11.cell? ⟨gp, 0, none⟩ = some (.int .i64 g.id) ∧ v11.cell? ⟨gp, 8, none⟩ = some (.slice la g.log.length lc) := ⟨gg11.cell c0 (by simp), gg11.cell c8 (by simp)⟩
    refine hK.out _ _ (fun _ => hS12) ?_
    clear hK K'
    try simp only [Act.put, List.setIfInBounds_toArray, List.set_cons_zero, List.set_cons_succ]
    refine hd_one 1 (by kernel_rfl) rfl (by kernel_rfl) rfl (fun K' hK => ?_)
    have hq5old := hq5
    go_simp
    have gg13 := gg11.alloc (.cells #[] 58)
    have hq5 := ((Fr.refl [] v11).alloc (.cells #[] 58)).at hq5 (by simp)
    obtain ⟨e0, ee0⟩ : ∃ e0, e0 = v11.heap.size := ⟨_, rfl⟩
    have le0 : W1.heap.size ≤ e0 := by rw [ee0]; exact gg11.size
    have HO0 := Lib.hid (show OwnC W1.heap.size (v11.alloc (.cells #[] 58)) (.slice (some ⟨e0, 0, none⟩) 0 0) [] by rw [ee0]; exact ownC_empty gg11.size)
    have ne05 : e0 ≠ e5 := by have := lt_of_block hq5old; omega
    rw [← ee0]
    generalize v11.alloc (.cells #[] 58) = v13 at gg13 HO0 hq5 ⊢
    clear ee0
    clear hq5old
    have hS14 : v13.cell? ⟨gp, 0, none⟩ = some (.int .i64 g.id) ∧ v13.cell? ⟨gp, 8, none⟩ = some (.slice la g.log.length lc) := ⟨gg13.cell c0 (by simp), gg13.cell c8 (by simp)⟩
    refine hK.out _ _ (fun _ => hS14) ?_
    clear hK K'
    try simp only [Act.put, List.setIfInBounds_toArray, List.set_cons_zero, List.set_cons_succ]
    refine hd_one 6 (by kernel_rfl) rfl (by kernel_rfl) rfl (fun K' hK => ?_)
    refine wp_appC (.tmp 15) (.tmp 19) rfl W1.heap.size (.slice (some ⟨e0, 0, none⟩) 0 0) _ [] g.log W1 (by kernel_rfl) (by kernel_rfl) (HS1.out.fr gg13) HO0.out gg13 (Nat.le_refl _) gg13.size (by simp; omega) ?_
    intro ov w15 ho3 hf15 hg15 _
    rw [List.nil_append] at ho3
    obtain ⟨oa, oc, rfl, _, _, _⟩ := ho3.scs.form
    have HO3 := Lib.hid ho3
    have hq5 := hg15.at hq5 (by simpa [Value.ownBlock] using (Ne.symm ne05))
    clear ho3 HO0
    have hS16 : w15.cell? ⟨gp, 0, none⟩ = some (.int .i64 g.id) ∧ w15.cell? ⟨gp, 8, none⟩ = some (.slice la g.log.length lc) := ⟨hf15.cell c0 (by simp), hf15.cell c8 (by simp)⟩
    refine hK.out _ _ (fun _ => hS16) ?_
    clear hK K'
    try simp only [Act.put, List.setIfInBounds_toArray, List.set_cons_zero, List.set_cons_succ]
    refine hd_one 23 (by kernel_rfl) rfl (by kernel_rfl) rfl (fun K' hK => ?_)
    refine wp_appC (.tmp 20) (.tmp 36) rfl W1.heap.size (.slice oa g.log.length oc) _ g.log [(⟨g.id, (g.log.length : Int) + 1, now, serial, kind, owner⟩ : Scn)] W1 (by kernel_rfl) (by kernel_rfl) (scs_one hq5) HO3.out hf15 (Nat.le_refl _) hf15.size (by simp; omega) ?_
    intro v' w7 ho7 hf7 _ _
    obtain ⟨va, vc, hv7, _, _, _⟩ := ho7.scs.form
    rw [List.length_append, List.length_singleton] at hv7
    subst hv7
    have hS7 : w7.cell? ⟨gp, 0, none⟩ = some (.int .i64 g.id) ∧ w7.cell? ⟨gp, 8, none⟩ = some (.slice la g.log.length lc) := ⟨hf7.cell c0 (by simp), hf7.cell c8 (by simp)⟩
    refine hK.out _ _ (fun _ => hS7) ?_
    clear hK K'
    try simp only [Act.put, List.setIfInBounds_toArray, List.set_cons_zero, List.set_cons_succ]
    refine hd_one 24 (by kernel_rfl) rfl (by kernel_rfl) rfl (fun K' hK => ?_)
    go_simp
    refine hK.out _ _ (fun _ => hS7) ?_
    clear hK K'
    try simp only [Act.put, List.setIfInBounds_toArray, List.set_cons_zero, List.set_cons_succ]
    refine hd_take 25 (v := .pointer (some ⟨gp, 8, none⟩)) rfl (by kernel_rfl) (by kernel_rfl) (by kernel_rfl) rfl hS7 (fun W' hS => by go_simp) rfl ?_
    try simp only [Act.put, List.setIfInBounds_toArray, List.set_cons_zero, List.set_cons_succ]
    have hp7 := hf7.at HP1.out (by simp)
    have r8 := row_cell hp7 8
    unfold rgC at r8
    simp at r8
    have y8 := row_free hp7 8
    refine hd_one 26 (by kernel_rfl) rfl (by kernel_rfl) rfl (fun K' hK => ?_)
    go_simp
    refine hK.out _ _ (fun h => absurd rfl h) ?_
    clear hK K'
    refine held_done (by kernel_rfl) ?_
    have HRES := Lib.hid (rg_put HM.out HX1.out HP1.out hn hg hl hf7 ho7)
    clear ho7 hf7 hp7 r8 y8 hS7
    generalize w7.setCell ⟨gp, 8, none⟩ (.slice va (g.log.length + 1) vc) = w8 at HRES ⊢
    go_wp2_with fail
    go_end0
    exact ⟨rfl, HRES.out⟩

set_option maxRecDepth 100000 in
set_option maxHeartbeats 4000000 in
theorem rleave37_any (B : Nat) (X : List Nat) (gp : Nat) (g : Gst) (F : List Nat) (serial now : Int) (w : World) (h : RgR B X w gp g F) :
    Calls Tryz.prog 16 #[rgP gp, .int .i64 serial, .int .i64 now] w fun e w' => e = .returned (.int .i64 (leaveG g serial now).2) ∧ RgQ B X w gp (leaveG g serial now).1 F w' := by
  have hq := ptr29 gp
  have HQ0 := Lib.hid (RgQ.same h)
  have HH := Lib.hid h
  obtain ⟨fw, lv, hm⟩ := h
  obtain ⟨la, lc, hlv, hlc, hlm, _⟩ := hm.o.scs.form
  subst hlv
  have HM := Lib.hid hm
  clear hm
  obtain ⟨tb, etb⟩ : ∃ q, q = timeB now := ⟨_, rfl⟩
  have HTB := Lib.hid etb
  clear etb
  unfold rgP
  go_enter Tryz.func16, Tryz.ntmps16
  go_wp2_with fail
  refine (rtime37_any now w).mono ?_
  rintro e w1 ⟨rfl, rfl⟩
  rw [← HTB.out]
  cases tb with
  | false =>
    have HR : Hid (leaveG g serial now = (g, 1)) := Lib.hid (by unfold leaveG comeG; rw [← HTB.out]; rfl)
    go_wp2_with fail
    go_ret
    rw [HR.out]
    exact ⟨rfl, HQ0.out⟩
  | true =>
    have c3 := row_cell HM.out.p 3
    unfold rgC at c3
    simp at c3
    by_cases hlt : now < g.now
    case pos =>
      have t1 : decide (now < g.now) = true := by simpa using hlt
      have HR : Hid (leaveG g serial now = (g, 17)) := Lib.hid (by unfold leaveG comeG; rw [← HTB.out]; simp [hlt])
      clear hlt
      go_wp2_with fail
      go_ret
      rw [HR.out]
      exact ⟨rfl, HQ0.out⟩
    have t1 : decide (now < g.now) = false := by simpa using hlt
    have HC0 : Hid (comeG g now = 0) := Lib.hid (by unfold comeG; rw [← HTB.out]; simp [hlt])
    have HNW := Lib.hid (come_zero HC0.out)
    clear hlt
    go_wp2_with fail
    refine (rlast_any B X gp g F serial w HH.out).mono ?_
    rintro e w2 ⟨rfl, hb⟩
    have hf2 : Fr [] w w2 := Fr.ofBelow hb
    have HF2 := Lib.hid hf2
    clear hb c3
    obtain ⟨s, es⟩ : ∃ q, q = lastS g.log serial := ⟨_, rfl⟩
    rw [← es]
    have HIN : Hid (insR g.log serial = if s.kind = 1 then some s.owner else none) := Lib.hid (by rw [es]; exact lastS_ins _ _)
    clear es
    obtain ⟨W3, hW3⟩ : ∃ W3, W3 = w2.alloc (.cells #[.int .i64 s.gate, .int .i64 s.num, .int .i64 s.time, .int .i64 s.serial, .int .i64 s.kind, .string ⟨s.owner.toArray⟩] 58) := ⟨_, rfl⟩
    obtain ⟨q, eq⟩ : ∃ q, q = w2.heap.size := ⟨_, rfl⟩
    have f3 : Fr [] w2 W3 := by rw [hW3]; exact (Fr.refl [] w2).alloc _
    have hq3 : W3.heap[q]? = some (.cells #[.int .i64 s.gate, .int .i64 s.num, .int .i64 s.time, .int .i64 s.serial, .int .i64 s.kind, .string ⟨s.owner.toArray⟩] 58 (0, 0)) := by rw [hW3]; exact heap_new eq
    have HF3 := Lib.hid (hf2.trans f3 (by simp))
    have HQ3 : Hid (RgQ B X w gp g F W3) := Lib.hid (RgQ.back (hf2.trans f3 (by simp)) (RgQ.same (HH.out.fr0 (hf2.trans f3 (by simp)))))
    have x4 := row_cell hq3 4
    have x5 := row_cell hq3 5
    simp at x4 x5
    have c8 := row_cell ((hf2.trans f3 (by simp)).at HM.out.p (by simp)) 8
    unfold rgC at c8
    simp at c8
    rw [hW3] at c8
    rw [hW3, eq] at x4 x5
    clear hf2 f3 hq3
    unfold scC
    by_cases hk : s.kind = 1
    case neg =>
      have t2 : (s.kind != 1) = true := by simpa using hk
      have HR : Hid (leaveG g serial now = (g, 11)) := Lib.hid (by unfold leaveG; rw [if_neg (by rw [HC0.out]; simp), HIN.out, if_neg hk])
      clear hk
      go_wp2_with fail
      rw [← hW3]
      go_ret
      rw [HR.out]
      exact ⟨rfl, HQ3.out⟩
    have t2 : (s.kind != 1) = false := by rw [hk]; rfl
    by_cases h4 : 4000 ≤ g.log.length
    case pos =>
      have t3 : decide ((4000 : Int) ≤ (g.log.length : Int)) = true := by simp; omega
      have HR : Hid (leaveG g serial now = (g, 23)) := Lib.hid (by unfold leaveG; rw [if_neg (by rw [HC0.out]; simp), HIN.out, if_pos hk]; simp only [if_pos h4])
      clear hk h4
      go_wp2_with fail
      rw [← hW3]
      go_ret
      rw [HR.out]
      exact ⟨rfl, HQ3.out⟩
    have t3 : decide ((4000 : Int) ≤ (g.log.length : Int)) = false := by simp; omega
    have HR : Hid (leaveG g serial now = (putG g 2 serial s.owner now, 0)) := Lib.hid (by unfold leaveG; rw [if_neg (by rw [HC0.out]; simp), HIN.out, if_pos hk]; simp only [if_neg h4])
    have HL4 : Hid (g.log.length < 4000) := Lib.hid (by omega)
    clear hk h4
    go_wp2_with fail
    rw [← hW3]
    refine (rwrite37_any B X gp g F 2 serial s.owner now W3 (HH.out.fr0 HF3.out) HNW.out.1 HNW.out.2 HL4.out).mono ?_
    rintro e w5 ⟨rfl, hq5⟩
    have HQ5 := Lib.hid (hq5.back HF3.out)
    clear hq5 hW3 c8 x4 x5 eq
    go_wp2_with fail
    go_ret
    rw [HR.out]
    exact ⟨rfl, HQ5.out⟩

theorem rg_sync {B : Nat} {X : List Nat} {w W : World} {gp : Nat} {g : Gst} {fw lv wv : Value} {F : List Nat} {f : Flt} {now : Int} (hm : RgM B X w gp g fw lv F) (hf : Fr [] w W) (hw : WsX (F ++ X) W wv f.words) (hW : W64 f.words)
    (hn : 0 ≤ now ∧ now ≤ 1000000000) :
    RgQ B X w gp { g with now := now, syn := now, flt := f } F (((((W.setCell ⟨gp, 3, none⟩ (.int .i64 now)).setCell ⟨gp, 4, none⟩ (.int .i64 now)).setCell ⟨gp, 5, none⟩ (.int .i64 f.bits)).setCell ⟨gp, 6, none⟩ (.int .i64 f.hashes)).setCell ⟨gp, 7, none⟩ wv) := by
  have hp := hf.at hm.p (by simp)
  have hx : Fr [gp] W (((((W.setCell ⟨gp, 3, none⟩ (.int .i64 now)).setCell ⟨gp, 4, none⟩ (.int .i64 now)).setCell ⟨gp, 5, none⟩ (.int .i64 f.bits)).setCell ⟨gp, 6, none⟩ (.int .i64 f.hashes)).setCell ⟨gp, 7, none⟩ wv) :=
    (((((Fr.refl [gp] W).setCell _ _ (by simp)).setCell _ _ (by simp)).setCell _ _ (by simp)).setCell _ _ (by simp)).setCell _ _ (by simp)
  have hmm := hm.mem
  refine ⟨F, ⟨wv, lv, row_set (row_set (row_set (row_set (row_set hp 3 _) 4 _) 5 _) 6 _) 7 _, hw.step hx (fun k hk => by rw [List.mem_singleton.1 hk, List.mem_append]; exact Or.inl hmm.1) (fun k hk => Or.inl hk), (hm.o.fr hf (by simp)).fr hx (fun k hk hk2 => ?_), hm.f, hm.b, ?_⟩, ((hf.mono (Y := F) (by simp)).trans (hx.mono (Y := F) (fun x hx => Or.inl (by rw [List.mem_singleton.1 hx]; exact hmm.1))) (fun y hy => Or.inl hy)), fun k hk => Or.inl hk⟩
  · rw [List.mem_singleton.1 hk2] at hk
    exact row_ne hm.p (by decide) hm.o hk.symm
  · have hi := hm.i
    exact ⟨hi.i, hi.s, hi.st, hn, ⟨by show -1 ≤ now; omega, Int.le_refl _⟩, hW, hi.l⟩
set_option maxRecDepth 100000 in
set_option maxHeartbeats 4000000 in
theorem rsync37_any (B : Nat) (X : List Nat) (gp : Nat) (g : Gst) (F : List Nat) (wv : Value) (f : Flt) (now : Int) (w : World) (h : RgR B X w gp g F) (hw : WsX (F ++ X) w wv f.words) (hW : W64 f.words) :
    Calls Tryz.prog 17 #[rgP gp, .agg #[.int .i64 f.bits, .int .i64 f.hashes, wv], .int .i64 now] w fun e w' => e = .returned (.int .i64 (syncG g f now).2) ∧ RgQ B X w gp (syncG g f now).1 F w' := by
  have hq := ptr29 gp
  have HH := Lib.hid h
  obtain ⟨fw, lv, hm⟩ := h
  have HM := Lib.hid hm
  have HW := Lib.hid hw
  have HW64 := Lib.hid hW
  obtain ⟨wa, wc, rfl, _, _, _⟩ := hw.1.form
  clear hm hw hW
  obtain ⟨tb, etb⟩ : ∃ q, q = timeB now := ⟨_, rfl⟩
  have HTB := Lib.hid etb
  clear etb
  obtain ⟨W0, hW0⟩ : ∃ W0, W0 = w.alloc (.cells #[.int .i64 f.bits, .int .i64 f.hashes, .slice wa f.words.length wc] 37) := ⟨_, rfl⟩
  obtain ⟨p, ep⟩ : ∃ p, p = w.heap.size := ⟨_, rfl⟩
  have f0 : Fr [] w W0 := by rw [hW0]; exact (Fr.refl [] w).alloc _
  have hp0 : W0.heap[p]? = some (.cells #[.int .i64 f.bits, .int .i64 f.hashes, .slice wa f.words.length wc] 37 (0, 0)) := by rw [hW0]; exact heap_new ep
  have HF := Lib.hid f0
  have HP0 := Lib.hid hp0
  have HBK : Hid (∀ W, Fr [] w W → RgQ B X w gp g F W) := Lib.hid (fun W hW => RgQ.back hW (RgQ.same (HH.out.fr0 hW)))
  clear f0 hp0
  unfold rgP
  go_enter Tryz.func17, Tryz.ntmps17
  go_wp2_with fail
  rw [← hW0, ← ep]
  refine (rtime37_any now W0).mono ?_
  rintro e w1 ⟨rfl, rfl⟩
  rw [← HTB.out]
  clear hW0 ep
  cases tb with
  | false =>
    have HR : Hid (syncG g f now = (g, 1)) := Lib.hid (by unfold syncG; rw [← HTB.out]; rfl)
    go_wp2_with fail
    go_ret
    rw [HR.out]
    exact ⟨rfl, HBK.out _ HF.out⟩
  | true =>
    have x0 := row_cell HP0.out 0
    have x1 := row_cell HP0.out 1
    have x2 := row_cell HP0.out 2
    simp at x0 x1 x2
    go_wp2_with fail
    refine (rvalid36_any _ f W0 ⟨_, rfl, HW.out.1.fr0 HF.out⟩).mono ?_
    rintro e w2 ⟨rfl, hb⟩
    have hf2 : Fr [] W0 w2 := Fr.ofBelow hb
    have HF2 := Lib.hid (HF.out.trans hf2 (by simp))
    have HP2 := Lib.hid (hf2.at HP0.out (by simp))
    clear hb hf2 x0 x1 x2
    obtain ⟨vb, evb⟩ : ∃ q, q = validF f := ⟨_, rfl⟩
    rw [← evb]
    have HVB := Lib.hid evb
    clear evb
    cases vb with
    | false =>
      have HR : Hid (syncG g f now = (g, 1)) := Lib.hid (by unfold syncG; rw [← HTB.out, ← HVB.out]; rfl)
      go_wp2_with fail
      go_ret
      rw [HR.out]
      exact ⟨rfl, HBK.out _ HF2.out⟩
    | true =>
      have hpg := HF2.out.at HM.out.p (by simp)
      have c3 := row_cell hpg 3
      unfold rgC at c3
      simp at c3
      by_cases hlt : now < g.now
      case pos =>
        have t1 : decide (now < g.now) = true := by simpa using hlt
        have HR : Hid (syncG g f now = (g, 17)) := Lib.hid (by unfold syncG; rw [← HTB.out, ← HVB.out]; simp [hlt])
        clear hlt hpg
        go_wp2_with fail
        go_ret
        rw [HR.out]
        exact ⟨rfl, HBK.out _ HF2.out⟩
      have t1 : decide (now < g.now) = false := by simpa using hlt
      have HR : Hid (syncG g f now = ({ g with now := now, syn := now, flt := f }, 0)) := Lib.hid (by unfold syncG; rw [← HTB.out, ← HVB.out]; simp [hlt])
      have HX := Lib.hid (rg_sync HM.out HF2.out (HW.out.step HF2.out (by simp) (fun k hk => Or.inl hk)) HW64.out (timeB_iff.1 HTB.out.symm))
      have hne : p ≠ gp := by
        rintro rfl
        have h1 := HP2.out
        rw [hpg] at h1
        simp [rgC] at h1
      have c4 := row_cell hpg 4
      have c5 := row_cell hpg 5
      have c6 := row_cell hpg 6
      have c7 := row_cell hpg 7
      unfold rgC at c4 c5 c6 c7
      simp at c4 c5 c6 c7
      have z3 := row_free hpg 3
      have z4 := row_free hpg 4
      have z5 := row_free hpg 5
      have z6 := row_free hpg 6
      have z7 := row_free hpg 7
      have x0 := row_cell HP2.out 0
      have x1 := row_cell HP2.out 1
      have x2 := row_cell HP2.out 2
      simp at x0 x1 x2
      clear hlt hpg
      go_wp2_with fail
      go_ret
      rw [HR.out]
      exact ⟨rfl, HX.out⟩
end Go.Proofs.YtglgkdbhdjkeaaaGreatDoor
namespace Go.Proofs.YtglgkdbhdjkeaaaGreatDoor
open Go.RowKit

theorem kindG_last (g : Gst) (t : Ttl) : kindG g t = if (validT t && (decide (t.shw = g.shw) && (!hasF g.flt t.serial && ((lastS g.log t.serial).kind != 1)))) = true then 1 else 3 := by
  unfold kindG admG
  rw [lastS_ins]
  by_cases h : (lastS g.log t.serial).kind = 1
  · simp [h]
  · have h2 : ((lastS g.log t.serial).kind != 1) = true := by simpa using h
    rw [if_neg h, h2]
    cases validT t <;> cases decide (t.shw = g.shw) <;> cases hasF g.flt t.serial <;> rfl
set_option maxRecDepth 100000 in
set_option maxHeartbeats 8000000 in
theorem rscan37_any (B : Nat) (X : List Nat) (gp : Nat) (g : Gst) (F : List Nat) (v : Value) (t : Ttl) (now : Int) (w : World) (h : RgR B X w gp g F) (ht : TtlR w v t) (hS : TSmall t) :
    Calls Tryz.prog 15 #[rgP gp, v, .int .i64 now] w fun e w' => e = .returned (.tuple #[.int .i64 (scanG g t now).2.1, .int .i64 (scanG g t now).2.2]) ∧ RgQ B X w gp (scanG g t now).1 F w' := by
  have hmx : Tryz.prog.follows .mixedOrders = true := by kernel_rfl
  have hq := ptr29 gp
  have HH := Lib.hid h
  obtain ⟨fw, lv, hm⟩ := h
  obtain ⟨la, lc, rfl, hlc, hlm, hla⟩ := hm.o.scs.form
  obtain ⟨wa, wc, rfl, _, _, _⟩ := hm.w.1.form
  obtain ⟨tv, rfl, htr⟩ := ht
  obtain ⟨ta, tc, rfl, _, _, _⟩ := htr.form
  have HM := Lib.hid hm
  have HTR := Lib.hid htr
  have HS := Lib.hid hS
  have HBK : Hid (∀ W, Fr [] w W → RgQ B X w gp g F W) := Lib.hid (fun W hW => RgQ.back hW (RgQ.same (HH.out.fr0 hW)))
  clear hm htr hS
  obtain ⟨tb, etb⟩ : ∃ q, q = timeB now := ⟨_, rfl⟩
  have HTB := Lib.hid etb
  clear etb
  obtain ⟨W0, hW0⟩ : ∃ W0, W0 = w.alloc (.cells #[.int .i64 t.serial, .int .i64 t.shw, .int .i64 t.place, .string ⟨t.first.toArray⟩, .slice ta t.chain.length tc] 34) := ⟨_, rfl⟩
  obtain ⟨p, ep⟩ : ∃ p, p = w.heap.size := ⟨_, rfl⟩
  have f0 : Fr [] w W0 := by rw [hW0]; exact (Fr.refl [] w).alloc _
  have hp0 : W0.heap[p]? = some (.cells #[.int .i64 t.serial, .int .i64 t.shw, .int .i64 t.place, .string ⟨t.first.toArray⟩, .slice ta t.chain.length tc] 34 (0, 0)) := by rw [hW0]; exact heap_new ep
  have HPF : Hid (p ∉ F) := Lib.hid (fun hm => by have := (HH.out.blocks p hm).2; omega)
  have HF := Lib.hid f0
  have HP0 := Lib.hid hp0
  clear f0 hp0
  unfold rgP
  go_enter Tryz.func15, Tryz.ntmps15
  go_wp2_with fail
  rw [← hW0, ← ep]
  refine (rtime37_any now W0).mono ?_
  rintro e w1 ⟨rfl, rfl⟩
  rw [← HTB.out]
  clear hW0 ep
  cases tb with
  | false =>
    have HR : Hid (scanG g t now = (g, 0, 1)) := Lib.hid (by unfold scanG comeG; rw [← HTB.out]; rfl)
    go_wp2_with fail
    go_ret2
    rw [HR.out]
    exact ⟨rfl, HBK.out _ HF.out⟩
  | true =>
    have hpg := HF.out.at HM.out.p (by simp)
    have c3 := row_cell hpg 3
    have c2 := row_cell hpg 2
    have c4 := row_cell hpg 4
    have c8 := row_cell hpg 8
    unfold rgC at c2 c3 c4 c8
    simp at c2 c3 c4 c8
    by_cases hlt : now < g.now
    case pos =>
      have t1 : decide (now < g.now) = true := by simpa using hlt
      have HR : Hid (scanG g t now = (g, 0, 17)) := Lib.hid (by unfold scanG comeG; rw [← HTB.out]; simp [hlt])
      clear hlt hpg
      go_wp2_with fail
      go_ret2
      rw [HR.out]
      exact ⟨rfl, HBK.out _ HF.out⟩
    have t1 : decide (now < g.now) = false := by simpa using hlt
    have HC0 : Hid (comeG g now = 0) := Lib.hid (by unfold comeG; rw [← HTB.out]; simp [hlt])
    have hnw := come_zero HC0.out
    have HNW := Lib.hid hnw
    have hst := HM.out.i.st
    have wst : IntKind.i64.wrap (now - g.stale) = now - g.stale := IntWalk.i64_in _ (by omega)
    clear hlt hpg hnw hst
    by_cases hs0 : g.syn < 0
    case pos =>
      have t2 : decide (g.syn < 0) = true := by simpa using hs0
      have HR : Hid (scanG g t now = (g, 0, 26)) := Lib.hid (by unfold scanG; rw [if_neg (by rw [HC0.out]; simp), if_pos (Or.inl hs0)])
      clear hs0
      go_wp2_with fail
      go_quiet (fail)
      go_wp2_with fail
      go_ret2
      rw [HR.out]
      exact ⟨rfl, HBK.out _ (HF.out.drewN _)⟩
    have t2 : decide (g.syn < 0) = false := by simpa using hs0
    by_cases hs1 : g.syn < now - g.stale
    case pos =>
      have t3 : decide (g.syn < now - g.stale) = true := by simpa using hs1
      have HR : Hid (scanG g t now = (g, 0, 26)) := Lib.hid (by unfold scanG; rw [if_neg (by rw [HC0.out]; simp), if_pos (Or.inr hs1)])
      clear hs0 hs1
      go_wp2_with fail
      go_quiet (fail)
      go_wp2_with fail
      go_ret2
      rw [HR.out]
      exact ⟨rfl, HBK.out _ (HF.out.drewN _)⟩
    have t3 : decide (g.syn < now - g.stale) = false := by simpa using hs1
    have HSY : Hid (¬ (g.syn < 0 ∨ g.syn < now - g.stale)) := Lib.hid (by omega)
    clear hs0 hs1
    go_wp2_with fail
    go_quiet (fail)
    have fd : Fr [] W0 (W0.drewN nq) := (Fr.refl [] W0).drewN nq
    have HF1 := Lib.hid (HF.out.trans fd (by simp))
    have hp1 := fd.at HP0.out (by simp)
    clear fd c2 c3 c4 c8 t1 t2 t3 wst
    generalize W0.drewN nq = W1 at HF1 hp1 ⊢
    have hpg := HF1.out.at HM.out.p (by simp)
    have g1 := row_cell hpg 1
    have g5 := row_cell hpg 5
    have g6 := row_cell hpg 6
    have g7 := row_cell hpg 7
    have g8 := row_cell hpg 8
    unfold rgC at g1 g5 g6 g7 g8
    simp at g1 g5 g6 g7 g8
    have x0 := row_cell hp1 0
    have x1 := row_cell hp1 1
    have x2 := row_cell hp1 2
    have x3 := row_cell hp1 3
    have x4 := row_cell hp1 4
    simp at x0 x1 x2 x3 x4
    have HP1 := Lib.hid hp1
    clear hpg hp1
    by_cases h4 : 4000 ≤ g.log.length
    case pos =>
      have t3 : decide ((4000 : Int) ≤ (g.log.length : Int)) = true := by simp; omega
      have HR : Hid (scanG g t now = (g, 0, 23)) := Lib.hid (by unfold scanG; rw [if_neg (by rw [HC0.out]; simp), if_neg HSY.out, if_pos h4])
      clear h4
      go_wp2_with fail
      go_ret2
      rw [HR.out]
      exact ⟨rfl, HBK.out _ HF1.out⟩
    have t3 : decide ((4000 : Int) ≤ (g.log.length : Int)) = false := by simp; omega
    have HL4 : Hid (g.log.length < 4000) := Lib.hid (by omega)
    have HR : Hid (scanG g t now = (putG g (kindG g t) t.serial (ownerT t) now, kindG g t, 0)) := Lib.hid (by unfold scanG; rw [if_neg (by rw [HC0.out]; simp), if_neg HSY.out, if_neg h4])
    have HKL := Lib.hid (kindG_last g t)
    clear h4
    go_wp2_with fail
    clear t3
    obtain ⟨vb, evb⟩ : ∃ q, q = validT t := ⟨_, rfl⟩
    obtain ⟨sb, esb⟩ : ∃ q, q = decide (t.shw = g.shw) := ⟨_, rfl⟩
    obtain ⟨hb, ehb⟩ : ∃ q, q = hasF g.flt t.serial := ⟨_, rfl⟩
    obtain ⟨kb, ekb⟩ : ∃ q, q = ((lastS g.log t.serial).kind != 1) := ⟨_, rfl⟩
    have HK : Hid (kindG g t = if (vb && (sb && (!hb && kb))) = true then 1 else 3) := Lib.hid (by rw [evb, esb, ehb, ekb]; exact HKL.out)
    have HVB := Lib.hid evb
    have HHB := Lib.hid ehb
    have hsb : (t.shw == g.shw) = sb := by rw [esb]; rfl
    have hkb : ((lastS g.log t.serial).kind != 1) = kb := ekb.symm
    clear evb esb ehb ekb
    cases vb with
    | false =>
      have ga0 : Fr [] W1 W1.drew := (Fr.refl [] W1).drew
      have hSa0 : W1.drew.cell? ⟨p, 0, none⟩ = some (.int .i64 t.serial) ∧ W1.drew.cell? ⟨p, 1, none⟩ = some (.int .i64 t.shw) ∧ W1.drew.cell? ⟨p, 2, none⟩ = some (.int .i64 t.place) ∧ W1.drew.cell? ⟨p, 3, none⟩ = some (.string ⟨t.first.toArray⟩) ∧ W1.drew.cell? ⟨p, 4, none⟩ = some (.slice ta t.chain.length tc) ∧ W1.drew.cell? ⟨gp, 1, none⟩ = some (.int .i64 g.shw) ∧ W1.drew.cell? ⟨gp, 5, none⟩ = some (.int .i64 g.flt.bits) ∧ W1.drew.cell? ⟨gp, 6, none⟩ = some (.int .i64 g.flt.hashes) ∧ W1.drew.cell? ⟨gp, 7, none⟩ = some (.slice wa g.flt.words.length wc) := ⟨ga0.cell x0 (by simp), ga0.cell x1 (by simp), ga0.cell x2 (by simp), ga0.cell x3 (by simp), ga0.cell x4 (by simp), ga0.cell g1 (by simp), ga0.cell g5 (by simp), ga0.cell g6 (by simp), ga0.cell g7 (by simp)⟩
      refine region_held 100 (fun W' => W'.cell? ⟨p, 0, none⟩ = some (.int .i64 t.serial) ∧ W'.cell? ⟨p, 1, none⟩ = some (.int .i64 t.shw) ∧ W'.cell? ⟨p, 2, none⟩ = some (.int .i64 t.place) ∧ W'.cell? ⟨p, 3, none⟩ = some (.string ⟨t.first.toArray⟩) ∧ W'.cell? ⟨p, 4, none⟩ = some (.slice ta t.chain.length tc) ∧ W'.cell? ⟨gp, 1, none⟩ = some (.int .i64 g.shw) ∧ W'.cell? ⟨gp, 5, none⟩ = some (.int .i64 g.flt.bits) ∧ W'.cell? ⟨gp, 6, none⟩ = some (.int .i64 g.flt.hashes) ∧ W'.cell? ⟨gp, 7, none⟩ = some (.slice wa g.flt.words.length wc)) hmx ?_
      change Held _ _ _ _ _ _ 29 (Array.replicate 29 false) _ _
      refine hd_take 0 (v := .agg #[.int .i64 t.serial, .int .i64 t.shw, .int .i64 t.place, .string ⟨t.first.toArray⟩, .slice ta t.chain.length tc]) rfl (by kernel_rfl) (by kernel_rfl) (by kernel_rfl) rfl hSa0 (fun W' hS => by obtain ⟨s0, s1, s2, s3, s4, s5, s6, s7, s8⟩ := hS; go_simp) rfl ?_
      try simp only [Act.put, List.setIfInBounds_toArray, List.set_cons_zero, List.set_cons_succ]
      refine hd_one 1 (by kernel_rfl) rfl (by kernel_rfl) rfl (fun K' hK => ?_)
      go_simp
      refine (rvalid30_any _ t W1.drew ⟨_, rfl, HTR.out.fr (HF1.out.trans ga0 (by simp))⟩ HS.out).mono ?_
      rintro e ya1 ⟨rfl, hbb⟩
      have ga1 : Fr [] W1 ya1 := ga0.below hbb ga0.size
      rw [← HVB.out]
      clear hbb
      have hSa1 : ya1.cell? ⟨p, 0, none⟩ = some (.int .i64 t.serial) ∧ ya1.cell? ⟨p, 1, none⟩ = some (.int .i64 t.shw) ∧ ya1.cell? ⟨p, 2, none⟩ = some (.int .i64 t.place) ∧ ya1.cell? ⟨p, 3, none⟩ = some (.string ⟨t.first.toArray⟩) ∧ ya1.cell? ⟨p, 4, none⟩ = some (.slice ta t.chain.length tc) ∧ ya1.cell? ⟨gp, 1, none⟩ = some (.int .i64 g.shw) ∧ ya1.cell? ⟨gp, 5, none⟩ = some (.int .i64 g.flt.bits) ∧ ya1.cell? ⟨gp, 6, none⟩ = some (.int .i64 g.flt.hashes) ∧ ya1.cell? ⟨gp, 7, none⟩ = some (.slice wa g.flt.words.length wc) := ⟨ga1.cell x0 (by simp), ga1.cell x1 (by simp), ga1.cell x2 (by simp), ga1.cell x3 (by simp), ga1.cell x4 (by simp), ga1.cell g1 (by simp), ga1.cell g5 (by simp), ga1.cell g6 (by simp), ga1.cell g7 (by simp)⟩
      refine hK.out _ _ (fun _ => hSa1) ?_
      clear hK K'
      try simp only [Act.put, List.setIfInBounds_toArray, List.set_cons_zero, List.set_cons_succ]
      refine hd_take 2 (v := .bool false) rfl (by kernel_rfl) (by kernel_rfl) (by kernel_rfl) rfl hSa1 (fun W' hS => by go_simp) rfl ?_
      try simp only [Act.put, List.setIfInBounds_toArray, List.set_cons_zero, List.set_cons_succ]
      refine hd_skip 3 rfl (by kernel_rfl) (by kernel_rfl) (by kernel_rfl) rfl hSa1 rfl ?_
      refine hd_skip 4 rfl (by kernel_rfl) (by kernel_rfl) (by kernel_rfl) rfl hSa1 rfl ?_
      refine hd_skip 5 rfl (by kernel_rfl) (by kernel_rfl) (by kernel_rfl) rfl hSa1 rfl ?_
      refine hd_skip 6 rfl (by kernel_rfl) (by kernel_rfl) (by kernel_rfl) rfl hSa1 rfl ?_
      refine hd_skip 7 rfl (by kernel_rfl) (by kernel_rfl) (by kernel_rfl) rfl hSa1 rfl ?_
      refine hd_skip 8 rfl (by kernel_rfl) (by kernel_rfl) (by kernel_rfl) rfl hSa1 rfl ?_
      refine hd_skip 9 rfl (by kernel_rfl) (by kernel_rfl) (by kernel_rfl) rfl hSa1 rfl ?_
      refine hd_take 10 (v := .bool false) rfl (by kernel_rfl) (by kernel_rfl) (by kernel_rfl) rfl hSa1 (fun W' hS => by go_simp) rfl ?_
      try simp only [Act.put, List.setIfInBounds_toArray, List.set_cons_zero, List.set_cons_succ]
      refine hd_take 11 (v := .bool false) rfl (by kernel_rfl) (by kernel_rfl) (by kernel_rfl) rfl hSa1 (fun W' hS => by go_simp) rfl ?_
      try simp only [Act.put, List.setIfInBounds_toArray, List.set_cons_zero, List.set_cons_succ]
      refine hd_skip 12 rfl (by kernel_rfl) (by kernel_rfl) (by kernel_rfl) rfl hSa1 rfl ?_
      refine hd_skip 13 rfl (by kernel_rfl) (by kernel_rfl) (by kernel_rfl) rfl hSa1 rfl ?_
      refine hd_skip 14 rfl (by kernel_rfl) (by kernel_rfl) (by kernel_rfl) rfl hSa1 rfl ?_
      refine hd_skip 15 rfl (by kernel_rfl) (by kernel_rfl) (by kernel_rfl) rfl hSa1 rfl ?_
      refine hd_skip 16 rfl (by kernel_rfl) (by kernel_rfl) (by kernel_rfl) rfl hSa1 rfl ?_
      refine hd_skip 17 rfl (by kernel_rfl) (by kernel_rfl) (by kernel_rfl) rfl hSa1 rfl ?_
      refine hd_skip 18 rfl (by kernel_rfl) (by kernel_rfl) (by kernel_rfl) rfl hSa1 rfl ?_
      refine hd_skip 19 rfl (by kernel_rfl) (by kernel_rfl) (by kernel_rfl) rfl hSa1 rfl ?_
      refine hd_take 20 (v := .bool false) rfl (by kernel_rfl) (by kernel_rfl) (by kernel_rfl) rfl hSa1 (fun W' hS => by go_simp) rfl ?_
      try simp only [Act.put, List.setIfInBounds_toArray, List.set_cons_zero, List.set_cons_succ]
      refine hd_take 21 (v := .bool false) rfl (by kernel_rfl) (by kernel_rfl) (by kernel_rfl) rfl hSa1 (fun W' hS => by go_simp) rfl ?_
      try simp only [Act.put, List.setIfInBounds_toArray, List.set_cons_zero, List.set_cons_succ]
      refine hd_skip 22 rfl (by kernel_rfl) (by kernel_rfl) (by kernel_rfl) rfl hSa1 rfl ?_
      refine hd_skip 23 rfl (by kernel_rfl) (by kernel_rfl) (by kernel_rfl) rfl hSa1 rfl ?_
      refine hd_skip 24 rfl (by kernel_rfl) (by kernel_rfl) (by kernel_rfl) rfl hSa1 rfl ?_
      refine hd_skip 25 rfl (by kernel_rfl) (by kernel_rfl) (by kernel_rfl) rfl hSa1 rfl ?_
      refine hd_skip 26 rfl (by kernel_rfl) (by kernel_rfl) (by kernel_rfl) rfl hSa1 rfl ?_
      refine hd_skip 27 rfl (by kernel_rfl) (by kernel_rfl) (by kernel_rfl) rfl hSa1 rfl ?_
      refine hd_take 28 (v := .bool false) rfl (by kernel_rfl) (by kernel_rfl) (by kernel_rfl) rfl hSa1 (fun W' hS => by go_simp) rfl ?_
      try simp only [Act.put, List.setIfInBounds_toArray, List.set_cons_zero, List.set_cons_succ]
      refine held_done (by kernel_rfl) ?_
      have HF2 := Lib.hid (HF1.out.trans ga1 (by simp))
      have hp2 := ga1.at HP1.out (by simp)
      have HKK : Hid (kindG g t = 3) := Lib.hid (by rw [HK.out]; rfl)
      have HP2 := Lib.hid hp2
      generalize hWW : ya1 = Wx at HF2 HP2 hp2 ⊢
      clear hWW
      clear x0 x1 x2 x3 x4 g1 g5 g6 g7 g8 hp2
      have z0 := row_cell HP2.out 0
      have z1 := row_cell HP2.out 1
      have z2 := row_cell HP2.out 2
      have z3 := row_cell HP2.out 3
      have z4 := row_cell HP2.out 4
      simp at z0 z1 z2 z3 z4
      go_wp2_with fail
      have gc0 : Fr [] Wx Wx.drew := (Fr.refl [] Wx).drew
      have hSc0 : Wx.drew.cell? ⟨p, 0, none⟩ = some (.int .i64 t.serial) ∧ Wx.drew.cell? ⟨p, 1, none⟩ = some (.int .i64 t.shw) ∧ Wx.drew.cell? ⟨p, 2, none⟩ = some (.int .i64 t.place) ∧ Wx.drew.cell? ⟨p, 3, none⟩ = some (.string ⟨t.first.toArray⟩) ∧ Wx.drew.cell? ⟨p, 4, none⟩ = some (.slice ta t.chain.length tc) := ⟨gc0.cell z0 (by simp), gc0.cell z1 (by simp), gc0.cell z2 (by simp), gc0.cell z3 (by simp), gc0.cell z4 (by simp)⟩
      refine region_held 100 (fun W' => W'.cell? ⟨p, 0, none⟩ = some (.int .i64 t.serial) ∧ W'.cell? ⟨p, 1, none⟩ = some (.int .i64 t.shw) ∧ W'.cell? ⟨p, 2, none⟩ = some (.int .i64 t.place) ∧ W'.cell? ⟨p, 3, none⟩ = some (.string ⟨t.first.toArray⟩) ∧ W'.cell? ⟨p, 4, none⟩ = some (.slice ta t.chain.length tc)) hmx ?_
      change Held _ _ _ _ _ _ 8 (Array.replicate 8 false) _ _
      refine hd_take 0 (v := .pointer (some ⟨gp, 0, none⟩)) rfl (by kernel_rfl) (by kernel_rfl) (by kernel_rfl) rfl hSc0 (fun W' hS => by go_simp) rfl ?_
      refine hd_take 1 (v := .int .i64 3) rfl (by kernel_rfl) (by kernel_rfl) (by kernel_rfl) rfl hSc0 (fun W' hS => by go_simp) rfl ?_
      refine hd_take 2 (v := .pointer (some ⟨p, 0, none⟩)) rfl (by kernel_rfl) (by kernel_rfl) (by kernel_rfl) rfl hSc0 (fun W' hS => by go_simp) rfl ?_
      refine hd_take 4 (v := .agg #[.int .i64 t.serial, .int .i64 t.shw, .int .i64 t.place, .string ⟨t.first.toArray⟩, .slice ta t.chain.length tc]) rfl (by kernel_rfl) (by kernel_rfl) (by kernel_rfl) rfl hSc0 (fun W' hS => by obtain ⟨s0, s1, s2, s3, s4⟩ := hS; go_simp) rfl ?_
      refine hd_take 6 (v := .int .i64 now) rfl (by kernel_rfl) (by kernel_rfl) (by kernel_rfl) rfl hSc0 (fun W' hS => by go_simp) rfl ?_
      try simp only [Act.put, List.setIfInBounds_toArray, List.set_cons_zero, List.set_cons_succ]
      refine hd_take 3 (v := .int .i64 t.serial) rfl (by kernel_rfl) (by kernel_rfl) (by kernel_rfl) rfl hSc0 (fun W' hS => by obtain ⟨s0, s1, s2, s3, s4⟩ := hS; go_simp) rfl ?_
      try simp only [Act.put, List.setIfInBounds_toArray, List.set_cons_zero, List.set_cons_succ]
      refine hd_one 5 (by kernel_rfl) rfl (by kernel_rfl) rfl (fun K' hK => ?_)
      go_simp
      refine (rowner30_any _ t Wx.drew ⟨_, rfl, HTR.out.fr (HF2.out.trans gc0 (by simp))⟩).mono ?_
      rintro e yc1 ⟨rfl, hbb⟩
      have gc1 : Fr [] Wx yc1 := gc0.below hbb gc0.size
      clear hbb
      have hSc1 : yc1.cell? ⟨p, 0, none⟩ = some (.int .i64 t.serial) ∧ yc1.cell? ⟨p, 1, none⟩ = some (.int .i64 t.shw) ∧ yc1.cell? ⟨p, 2, none⟩ = some (.int .i64 t.place) ∧ yc1.cell? ⟨p, 3, none⟩ = some (.string ⟨t.first.toArray⟩) ∧ yc1.cell? ⟨p, 4, none⟩ = some (.slice ta t.chain.length tc) := ⟨gc1.cell z0 (by simp), gc1.cell z1 (by simp), gc1.cell z2 (by simp), gc1.cell z3 (by simp), gc1.cell z4 (by simp)⟩
      refine hK.out _ _ (fun _ => hSc1) ?_
      clear hK K'
      try simp only [Act.put, List.setIfInBounds_toArray, List.set_cons_zero, List.set_cons_succ]
      refine hd_one 7 (by kernel_rfl) rfl (by kernel_rfl) rfl (fun K' hK => ?_)
      go_simp
      refine (rwrite37_any B X gp g F 3 t.serial (ownerT t) now yc1 (HH.out.fr0 (HF2.out.trans gc1 (by simp))) HNW.out.1 HNW.out.2 HL4.out).mono ?_
      rintro e wz ⟨rfl, hqz⟩
      have HQZ := Lib.hid (hqz.back (HF2.out.trans gc1 (by simp)))
      obtain ⟨Fz, _, hxz, _⟩ := hqz
      refine hK.out _ _ (fun _ => ⟨hxz.cell (gc1.cell z0 (by simp)) HPF.out, hxz.cell (gc1.cell z1 (by simp)) HPF.out, hxz.cell (gc1.cell z2 (by simp)) HPF.out, hxz.cell (gc1.cell z3 (by simp)) HPF.out, hxz.cell (gc1.cell z4 (by simp)) HPF.out⟩) ?_
      clear hK K'
      try simp only [Act.put, List.setIfInBounds_toArray, List.set_cons_zero, List.set_cons_succ]
      refine held_done (by kernel_rfl) ?_
      clear hxz
      go_wp2_with fail
      go_ret2
      rw [HR.out, HKK.out]
      exact ⟨rfl, HQZ.out⟩
    | true =>
      cases sb with
      | false =>
        have ga0 : Fr [] W1 W1.drew := (Fr.refl [] W1).drew
        have hSa0 : W1.drew.cell? ⟨p, 0, none⟩ = some (.int .i64 t.serial) ∧ W1.drew.cell? ⟨p, 1, none⟩ = some (.int .i64 t.shw) ∧ W1.drew.cell? ⟨p, 2, none⟩ = some (.int .i64 t.place) ∧ W1.drew.cell? ⟨p, 3, none⟩ = some (.string ⟨t.first.toArray⟩) ∧ W1.drew.cell? ⟨p, 4, none⟩ = some (.slice ta t.chain.length tc) ∧ W1.drew.cell? ⟨gp, 1, none⟩ = some (.int .i64 g.shw) ∧ W1.drew.cell? ⟨gp, 5, none⟩ = some (.int .i64 g.flt.bits) ∧ W1.drew.cell? ⟨gp, 6, none⟩ = some (.int .i64 g.flt.hashes) ∧ W1.drew.cell? ⟨gp, 7, none⟩ = some (.slice wa g.flt.words.length wc) := ⟨ga0.cell x0 (by simp), ga0.cell x1 (by simp), ga0.cell x2 (by simp), ga0.cell x3 (by simp), ga0.cell x4 (by simp), ga0.cell g1 (by simp), ga0.cell g5 (by simp), ga0.cell g6 (by simp), ga0.cell g7 (by simp)⟩
        refine region_held 100 (fun W' => W'.cell? ⟨p, 0, none⟩ = some (.int .i64 t.serial) ∧ W'.cell? ⟨p, 1, none⟩ = some (.int .i64 t.shw) ∧ W'.cell? ⟨p, 2, none⟩ = some (.int .i64 t.place) ∧ W'.cell? ⟨p, 3, none⟩ = some (.string ⟨t.first.toArray⟩) ∧ W'.cell? ⟨p, 4, none⟩ = some (.slice ta t.chain.length tc) ∧ W'.cell? ⟨gp, 1, none⟩ = some (.int .i64 g.shw) ∧ W'.cell? ⟨gp, 5, none⟩ = some (.int .i64 g.flt.bits) ∧ W'.cell? ⟨gp, 6, none⟩ = some (.int .i64 g.flt.hashes) ∧ W'.cell? ⟨gp, 7, none⟩ = some (.slice wa g.flt.words.length wc)) hmx ?_
        change Held _ _ _ _ _ _ 29 (Array.replicate 29 false) _ _
        refine hd_take 0 (v := .agg #[.int .i64 t.serial, .int .i64 t.shw, .int .i64 t.place, .string ⟨t.first.toArray⟩, .slice ta t.chain.length tc]) rfl (by kernel_rfl) (by kernel_rfl) (by kernel_rfl) rfl hSa0 (fun W' hS => by obtain ⟨s0, s1, s2, s3, s4, s5, s6, s7, s8⟩ := hS; go_simp) rfl ?_
        try simp only [Act.put, List.setIfInBounds_toArray, List.set_cons_zero, List.set_cons_succ]
        refine hd_one 1 (by kernel_rfl) rfl (by kernel_rfl) rfl (fun K' hK => ?_)
        go_simp
        refine (rvalid30_any _ t W1.drew ⟨_, rfl, HTR.out.fr (HF1.out.trans ga0 (by simp))⟩ HS.out).mono ?_
        rintro e ya1 ⟨rfl, hbb⟩
        have ga1 : Fr [] W1 ya1 := ga0.below hbb ga0.size
        rw [← HVB.out]
        clear hbb
        have hSa1 : ya1.cell? ⟨p, 0, none⟩ = some (.int .i64 t.serial) ∧ ya1.cell? ⟨p, 1, none⟩ = some (.int .i64 t.shw) ∧ ya1.cell? ⟨p, 2, none⟩ = some (.int .i64 t.place) ∧ ya1.cell? ⟨p, 3, none⟩ = some (.string ⟨t.first.toArray⟩) ∧ ya1.cell? ⟨p, 4, none⟩ = some (.slice ta t.chain.length tc) ∧ ya1.cell? ⟨gp, 1, none⟩ = some (.int .i64 g.shw) ∧ ya1.cell? ⟨gp, 5, none⟩ = some (.int .i64 g.flt.bits) ∧ ya1.cell? ⟨gp, 6, none⟩ = some (.int .i64 g.flt.hashes) ∧ ya1.cell? ⟨gp, 7, none⟩ = some (.slice wa g.flt.words.length wc) := ⟨ga1.cell x0 (by simp), ga1.cell x1 (by simp), ga1.cell x2 (by simp), ga1.cell x3 (by simp), ga1.cell x4 (by simp), ga1.cell g1 (by simp), ga1.cell g5 (by simp), ga1.cell g6 (by simp), ga1.cell g7 (by simp)⟩
        refine hK.out _ _ (fun _ => hSa1) ?_
        clear hK K'
        try simp only [Act.put, List.setIfInBounds_toArray, List.set_cons_zero, List.set_cons_succ]
        refine hd_take 2 (v := .bool true) rfl (by kernel_rfl) (by kernel_rfl) (by kernel_rfl) rfl hSa1 (fun W' hS => by go_simp) rfl ?_
        try simp only [Act.put, List.setIfInBounds_toArray, List.set_cons_zero, List.set_cons_succ]
        refine hd_take 3 (v := .pointer (some ⟨p, 1, none⟩)) rfl (by kernel_rfl) (by kernel_rfl) (by kernel_rfl) rfl hSa1 (fun W' hS => by go_simp) rfl ?_
        refine hd_take 5 (v := .pointer (some ⟨gp, 0, none⟩)) rfl (by kernel_rfl) (by kernel_rfl) (by kernel_rfl) rfl hSa1 (fun W' hS => by go_simp) rfl ?_
        try simp only [Act.put, List.setIfInBounds_toArray, List.set_cons_zero, List.set_cons_succ]
        refine hd_take 4 (v := .int .i64 t.shw) rfl (by kernel_rfl) (by kernel_rfl) (by kernel_rfl) rfl hSa1 (fun W' hS => by obtain ⟨s0, s1, s2, s3, s4, s5, s6, s7, s8⟩ := hS; go_simp) rfl ?_
        refine hd_take 6 (v := .pointer (some ⟨gp, 0, none⟩)) rfl (by kernel_rfl) (by kernel_rfl) (by kernel_rfl) rfl hSa1 (fun W' hS => by go_simp) rfl ?_
        try simp only [Act.put, List.setIfInBounds_toArray, List.set_cons_zero, List.set_cons_succ]
        refine hd_take 7 (v := .pointer (some ⟨gp, 1, none⟩)) rfl (by kernel_rfl) (by kernel_rfl) (by kernel_rfl) rfl hSa1 (fun W' hS => by go_simp) rfl ?_
        try simp only [Act.put, List.setIfInBounds_toArray, List.set_cons_zero, List.set_cons_succ]
        refine hd_take 8 (v := .int .i64 g.shw) rfl (by kernel_rfl) (by kernel_rfl) (by kernel_rfl) rfl hSa1 (fun W' hS => by obtain ⟨s0, s1, s2, s3, s4, s5, s6, s7, s8⟩ := hS; go_simp) rfl ?_
        try simp only [Act.put, List.setIfInBounds_toArray, List.set_cons_zero, List.set_cons_succ]
        refine hd_take 9 (v := .bool false) rfl (by kernel_rfl) (by kernel_rfl) (by kernel_rfl) rfl hSa1 (fun W' hS => by go_simp) rfl ?_
        try simp only [Act.put, List.setIfInBounds_toArray, List.set_cons_zero, List.set_cons_succ]
        refine hd_take 10 (v := .bool false) rfl (by kernel_rfl) (by kernel_rfl) (by kernel_rfl) rfl hSa1 (fun W' hS => by go_simp) rfl ?_
        try simp only [Act.put, List.setIfInBounds_toArray, List.set_cons_zero, List.set_cons_succ]
        refine hd_take 11 (v := .bool false) rfl (by kernel_rfl) (by kernel_rfl) (by kernel_rfl) rfl hSa1 (fun W' hS => by go_simp) rfl ?_
        try simp only [Act.put, List.setIfInBounds_toArray, List.set_cons_zero, List.set_cons_succ]
        refine hd_skip 12 rfl (by kernel_rfl) (by kernel_rfl) (by kernel_rfl) rfl hSa1 rfl ?_
        refine hd_skip 13 rfl (by kernel_rfl) (by kernel_rfl) (by kernel_rfl) rfl hSa1 rfl ?_
        refine hd_skip 14 rfl (by kernel_rfl) (by kernel_rfl) (by kernel_rfl) rfl hSa1 rfl ?_
        refine hd_skip 15 rfl (by kernel_rfl) (by kernel_rfl) (by kernel_rfl) rfl hSa1 rfl ?_
        refine hd_skip 16 rfl (by kernel_rfl) (by kernel_rfl) (by kernel_rfl) rfl hSa1 rfl ?_
        refine hd_skip 17 rfl (by kernel_rfl) (by kernel_rfl) (by kernel_rfl) rfl hSa1 rfl ?_
        refine hd_skip 18 rfl (by kernel_rfl) (by kernel_rfl) (by kernel_rfl) rfl hSa1 rfl ?_
        refine hd_skip 19 rfl (by kernel_rfl) (by kernel_rfl) (by kernel_rfl) rfl hSa1 rfl ?_
        refine hd_take 20 (v := .bool false) rfl (by kernel_rfl) (by kernel_rfl) (by kernel_rfl) rfl hSa1 (fun W' hS => by go_simp) rfl ?_
        try simp only [Act.put, List.setIfInBounds_toArray, List.set_cons_zero, List.set_cons_succ]
        refine hd_take 21 (v := .bool false) rfl (by kernel_rfl) (by kernel_rfl) (by kernel_rfl) rfl hSa1 (fun W' hS => by go_simp) rfl ?_
        try simp only [Act.put, List.setIfInBounds_toArray, List.set_cons_zero, List.set_cons_succ]
        refine hd_skip 22 rfl (by kernel_rfl) (by kernel_rfl) (by kernel_rfl) rfl hSa1 rfl ?_
        refine hd_skip 23 rfl (by kernel_rfl) (by kernel_rfl) (by kernel_rfl) rfl hSa1 rfl ?_
        refine hd_skip 24 rfl (by kernel_rfl) (by kernel_rfl) (by kernel_rfl) rfl hSa1 rfl ?_
        refine hd_skip 25 rfl (by kernel_rfl) (by kernel_rfl) (by kernel_rfl) rfl hSa1 rfl ?_
        refine hd_skip 26 rfl (by kernel_rfl) (by kernel_rfl) (by kernel_rfl) rfl hSa1 rfl ?_
        refine hd_skip 27 rfl (by kernel_rfl) (by kernel_rfl) (by kernel_rfl) rfl hSa1 rfl ?_
        refine hd_take 28 (v := .bool false) rfl (by kernel_rfl) (by kernel_rfl) (by kernel_rfl) rfl hSa1 (fun W' hS => by go_simp) rfl ?_
        try simp only [Act.put, List.setIfInBounds_toArray, List.set_cons_zero, List.set_cons_succ]
        refine held_done (by kernel_rfl) ?_
        have HF2 := Lib.hid (HF1.out.trans ga1 (by simp))
        have hp2 := ga1.at HP1.out (by simp)
        have HKK : Hid (kindG g t = 3) := Lib.hid (by rw [HK.out]; rfl)
        have HP2 := Lib.hid hp2
        generalize hWW : ya1 = Wx at HF2 HP2 hp2 ⊢
        clear hWW
        clear x0 x1 x2 x3 x4 g1 g5 g6 g7 g8 hp2
        have z0 := row_cell HP2.out 0
        have z1 := row_cell HP2.out 1
        have z2 := row_cell HP2.out 2
        have z3 := row_cell HP2.out 3
        have z4 := row_cell HP2.out 4
        simp at z0 z1 z2 z3 z4
        go_wp2_with fail
        have gc0 : Fr [] Wx Wx.drew := (Fr.refl [] Wx).drew
        have hSc0 : Wx.drew.cell? ⟨p, 0, none⟩ = some (.int .i64 t.serial) ∧ Wx.drew.cell? ⟨p, 1, none⟩ = some (.int .i64 t.shw) ∧ Wx.drew.cell? ⟨p, 2, none⟩ = some (.int .i64 t.place) ∧ Wx.drew.cell? ⟨p, 3, none⟩ = some (.string ⟨t.first.toArray⟩) ∧ Wx.drew.cell? ⟨p, 4, none⟩ = some (.slice ta t.chain.length tc) := ⟨gc0.cell z0 (by simp), gc0.cell z1 (by simp), gc0.cell z2 (by simp), gc0.cell z3 (by simp), gc0.cell z4 (by simp)⟩
        refine region_held 100 (fun W' => W'.cell? ⟨p, 0, none⟩ = some (.int .i64 t.serial) ∧ W'.cell? ⟨p, 1, none⟩ = some (.int .i64 t.shw) ∧ W'.cell? ⟨p, 2, none⟩ = some (.int .i64 t.place) ∧ W'.cell? ⟨p, 3, none⟩ = some (.string ⟨t.first.toArray⟩) ∧ W'.cell? ⟨p, 4, none⟩ = some (.slice ta t.chain.length tc)) hmx ?_
        change Held _ _ _ _ _ _ 8 (Array.replicate 8 false) _ _
        refine hd_take 0 (v := .pointer (some ⟨gp, 0, none⟩)) rfl (by kernel_rfl) (by kernel_rfl) (by kernel_rfl) rfl hSc0 (fun W' hS => by go_simp) rfl ?_
        refine hd_take 1 (v := .int .i64 3) rfl (by kernel_rfl) (by kernel_rfl) (by kernel_rfl) rfl hSc0 (fun W' hS => by go_simp) rfl ?_
        refine hd_take 2 (v := .pointer (some ⟨p, 0, none⟩)) rfl (by kernel_rfl) (by kernel_rfl) (by kernel_rfl) rfl hSc0 (fun W' hS => by go_simp) rfl ?_
        refine hd_take 4 (v := .agg #[.int .i64 t.serial, .int .i64 t.shw, .int .i64 t.place, .string ⟨t.first.toArray⟩, .slice ta t.chain.length tc]) rfl (by kernel_rfl) (by kernel_rfl) (by kernel_rfl) rfl hSc0 (fun W' hS => by obtain ⟨s0, s1, s2, s3, s4⟩ := hS; go_simp) rfl ?_
        refine hd_take 6 (v := .int .i64 now) rfl (by kernel_rfl) (by kernel_rfl) (by kernel_rfl) rfl hSc0 (fun W' hS => by go_simp) rfl ?_
        try simp only [Act.put, List.setIfInBounds_toArray, List.set_cons_zero, List.set_cons_succ]
        refine hd_take 3 (v := .int .i64 t.serial) rfl (by kernel_rfl) (by kernel_rfl) (by kernel_rfl) rfl hSc0 (fun W' hS => by obtain ⟨s0, s1, s2, s3, s4⟩ := hS; go_simp) rfl ?_
        try simp only [Act.put, List.setIfInBounds_toArray, List.set_cons_zero, List.set_cons_succ]
        refine hd_one 5 (by kernel_rfl) rfl (by kernel_rfl) rfl (fun K' hK => ?_)
        go_simp
        refine (rowner30_any _ t Wx.drew ⟨_, rfl, HTR.out.fr (HF2.out.trans gc0 (by simp))⟩).mono ?_
        rintro e yc1 ⟨rfl, hbb⟩
        have gc1 : Fr [] Wx yc1 := gc0.below hbb gc0.size
        clear hbb
        have hSc1 : yc1.cell? ⟨p, 0, none⟩ = some (.int .i64 t.serial) ∧ yc1.cell? ⟨p, 1, none⟩ = some (.int .i64 t.shw) ∧ yc1.cell? ⟨p, 2, none⟩ = some (.int .i64 t.place) ∧ yc1.cell? ⟨p, 3, none⟩ = some (.string ⟨t.first.toArray⟩) ∧ yc1.cell? ⟨p, 4, none⟩ = some (.slice ta t.chain.length tc) := ⟨gc1.cell z0 (by simp), gc1.cell z1 (by simp), gc1.cell z2 (by simp), gc1.cell z3 (by simp), gc1.cell z4 (by simp)⟩
        refine hK.out _ _ (fun _ => hSc1) ?_
        clear hK K'
        try simp only [Act.put, List.setIfInBounds_toArray, List.set_cons_zero, List.set_cons_succ]
        refine hd_one 7 (by kernel_rfl) rfl (by kernel_rfl) rfl (fun K' hK => ?_)
        go_simp
        refine (rwrite37_any B X gp g F 3 t.serial (ownerT t) now yc1 (HH.out.fr0 (HF2.out.trans gc1 (by simp))) HNW.out.1 HNW.out.2 HL4.out).mono ?_
        rintro e wz ⟨rfl, hqz⟩
        have HQZ := Lib.hid (hqz.back (HF2.out.trans gc1 (by simp)))
        obtain ⟨Fz, _, hxz, _⟩ := hqz
        refine hK.out _ _ (fun _ => ⟨hxz.cell (gc1.cell z0 (by simp)) HPF.out, hxz.cell (gc1.cell z1 (by simp)) HPF.out, hxz.cell (gc1.cell z2 (by simp)) HPF.out, hxz.cell (gc1.cell z3 (by simp)) HPF.out, hxz.cell (gc1.cell z4 (by simp)) HPF.out⟩) ?_
        clear hK K'
        try simp only [Act.put, List.setIfInBounds_toArray, List.set_cons_zero, List.set_cons_succ]
        refine held_done (by kernel_rfl) ?_
        clear hxz
        go_wp2_with fail
        go_ret2
        rw [HR.out, HKK.out]
        exact ⟨rfl, HQZ.out⟩
      | true =>
        cases hb with
        | true =>
          have ga0 : Fr [] W1 W1.drew := (Fr.refl [] W1).drew
          have hSa0 : W1.drew.cell? ⟨p, 0, none⟩ = some (.int .i64 t.serial) ∧ W1.drew.cell? ⟨p, 1, none⟩ = some (.int .i64 t.shw) ∧ W1.drew.cell? ⟨p, 2, none⟩ = some (.int .i64 t.place) ∧ W1.drew.cell? ⟨p, 3, none⟩ = some (.string ⟨t.first.toArray⟩) ∧ W1.drew.cell? ⟨p, 4, none⟩ = some (.slice ta t.chain.length tc) ∧ W1.drew.cell? ⟨gp, 1, none⟩ = some (.int .i64 g.shw) ∧ W1.drew.cell? ⟨gp, 5, none⟩ = some (.int .i64 g.flt.bits) ∧ W1.drew.cell? ⟨gp, 6, none⟩ = some (.int .i64 g.flt.hashes) ∧ W1.drew.cell? ⟨gp, 7, none⟩ = some (.slice wa g.flt.words.length wc) := ⟨ga0.cell x0 (by simp), ga0.cell x1 (by simp), ga0.cell x2 (by simp), ga0.cell x3 (by simp), ga0.cell x4 (by simp), ga0.cell g1 (by simp), ga0.cell g5 (by simp), ga0.cell g6 (by simp), ga0.cell g7 (by simp)⟩
          refine region_held 100 (fun W' => W'.cell? ⟨p, 0, none⟩ = some (.int .i64 t.serial) ∧ W'.cell? ⟨p, 1, none⟩ = some (.int .i64 t.shw) ∧ W'.cell? ⟨p, 2, none⟩ = some (.int .i64 t.place) ∧ W'.cell? ⟨p, 3, none⟩ = some (.string ⟨t.first.toArray⟩) ∧ W'.cell? ⟨p, 4, none⟩ = some (.slice ta t.chain.length tc) ∧ W'.cell? ⟨gp, 1, none⟩ = some (.int .i64 g.shw) ∧ W'.cell? ⟨gp, 5, none⟩ = some (.int .i64 g.flt.bits) ∧ W'.cell? ⟨gp, 6, none⟩ = some (.int .i64 g.flt.hashes) ∧ W'.cell? ⟨gp, 7, none⟩ = some (.slice wa g.flt.words.length wc)) hmx ?_
          change Held _ _ _ _ _ _ 29 (Array.replicate 29 false) _ _
          refine hd_take 0 (v := .agg #[.int .i64 t.serial, .int .i64 t.shw, .int .i64 t.place, .string ⟨t.first.toArray⟩, .slice ta t.chain.length tc]) rfl (by kernel_rfl) (by kernel_rfl) (by kernel_rfl) rfl hSa0 (fun W' hS => by obtain ⟨s0, s1, s2, s3, s4, s5, s6, s7, s8⟩ := hS; go_simp) rfl ?_
          try simp only [Act.put, List.setIfInBounds_toArray, List.set_cons_zero, List.set_cons_succ]
          refine hd_one 1 (by kernel_rfl) rfl (by kernel_rfl) rfl (fun K' hK => ?_)
          go_simp
          refine (rvalid30_any _ t W1.drew ⟨_, rfl, HTR.out.fr (HF1.out.trans ga0 (by simp))⟩ HS.out).mono ?_
          rintro e ya1 ⟨rfl, hbb⟩
          have ga1 : Fr [] W1 ya1 := ga0.below hbb ga0.size
          rw [← HVB.out]
          clear hbb
          have hSa1 : ya1.cell? ⟨p, 0, none⟩ = some (.int .i64 t.serial) ∧ ya1.cell? ⟨p, 1, none⟩ = some (.int .i64 t.shw) ∧ ya1.cell? ⟨p, 2, none⟩ = some (.int .i64 t.place) ∧ ya1.cell? ⟨p, 3, none⟩ = some (.string ⟨t.first.toArray⟩) ∧ ya1.cell? ⟨p, 4, none⟩ = some (.slice ta t.chain.length tc) ∧ ya1.cell? ⟨gp, 1, none⟩ = some (.int .i64 g.shw) ∧ ya1.cell? ⟨gp, 5, none⟩ = some (.int .i64 g.flt.bits) ∧ ya1.cell? ⟨gp, 6, none⟩ = some (.int .i64 g.flt.hashes) ∧ ya1.cell? ⟨gp, 7, none⟩ = some (.slice wa g.flt.words.length wc) := ⟨ga1.cell x0 (by simp), ga1.cell x1 (by simp), ga1.cell x2 (by simp), ga1.cell x3 (by simp), ga1.cell x4 (by simp), ga1.cell g1 (by simp), ga1.cell g5 (by simp), ga1.cell g6 (by simp), ga1.cell g7 (by simp)⟩
          refine hK.out _ _ (fun _ => hSa1) ?_
          clear hK K'
          try simp only [Act.put, List.setIfInBounds_toArray, List.set_cons_zero, List.set_cons_succ]
          refine hd_take 2 (v := .bool true) rfl (by kernel_rfl) (by kernel_rfl) (by kernel_rfl) rfl hSa1 (fun W' hS => by go_simp) rfl ?_
          try simp only [Act.put, List.setIfInBounds_toArray, List.set_cons_zero, List.set_cons_succ]
          refine hd_take 3 (v := .pointer (some ⟨p, 1, none⟩)) rfl (by kernel_rfl) (by kernel_rfl) (by kernel_rfl) rfl hSa1 (fun W' hS => by go_simp) rfl ?_
          refine hd_take 5 (v := .pointer (some ⟨gp, 0, none⟩)) rfl (by kernel_rfl) (by kernel_rfl) (by kernel_rfl) rfl hSa1 (fun W' hS => by go_simp) rfl ?_
          try simp only [Act.put, List.setIfInBounds_toArray, List.set_cons_zero, List.set_cons_succ]
          refine hd_take 4 (v := .int .i64 t.shw) rfl (by kernel_rfl) (by kernel_rfl) (by kernel_rfl) rfl hSa1 (fun W' hS => by obtain ⟨s0, s1, s2, s3, s4, s5, s6, s7, s8⟩ := hS; go_simp) rfl ?_
          refine hd_take 6 (v := .pointer (some ⟨gp, 0, none⟩)) rfl (by kernel_rfl) (by kernel_rfl) (by kernel_rfl) rfl hSa1 (fun W' hS => by go_simp) rfl ?_
          try simp only [Act.put, List.setIfInBounds_toArray, List.set_cons_zero, List.set_cons_succ]
          refine hd_take 7 (v := .pointer (some ⟨gp, 1, none⟩)) rfl (by kernel_rfl) (by kernel_rfl) (by kernel_rfl) rfl hSa1 (fun W' hS => by go_simp) rfl ?_
          try simp only [Act.put, List.setIfInBounds_toArray, List.set_cons_zero, List.set_cons_succ]
          refine hd_take 8 (v := .int .i64 g.shw) rfl (by kernel_rfl) (by kernel_rfl) (by kernel_rfl) rfl hSa1 (fun W' hS => by obtain ⟨s0, s1, s2, s3, s4, s5, s6, s7, s8⟩ := hS; go_simp) rfl ?_
          try simp only [Act.put, List.setIfInBounds_toArray, List.set_cons_zero, List.set_cons_succ]
          refine hd_take 9 (v := .bool true) rfl (by kernel_rfl) (by kernel_rfl) (by kernel_rfl) rfl hSa1 (fun W' hS => by go_simp) rfl ?_
          try simp only [Act.put, List.setIfInBounds_toArray, List.set_cons_zero, List.set_cons_succ]
          refine hd_take 10 (v := .bool true) rfl (by kernel_rfl) (by kernel_rfl) (by kernel_rfl) rfl hSa1 (fun W' hS => by go_simp) rfl ?_
          try simp only [Act.put, List.setIfInBounds_toArray, List.set_cons_zero, List.set_cons_succ]
          refine hd_take 11 (v := .bool true) rfl (by kernel_rfl) (by kernel_rfl) (by kernel_rfl) rfl hSa1 (fun W' hS => by go_simp) rfl ?_
          try simp only [Act.put, List.setIfInBounds_toArray, List.set_cons_zero, List.set_cons_succ]
          refine hd_take 12 (v := .pointer (some ⟨gp, 0, none⟩)) rfl (by kernel_rfl) (by kernel_rfl) (by kernel_rfl) rfl hSa1 (fun W' hS => by go_simp) rfl ?_
          refine hd_take 16 (v := .pointer (some ⟨p, 0, none⟩)) rfl (by kernel_rfl) (by kernel_rfl) (by kernel_rfl) rfl hSa1 (fun W' hS => by go_simp) rfl ?_
          try simp only [Act.put, List.setIfInBounds_toArray, List.set_cons_zero, List.set_cons_succ]
          refine hd_take 13 (v := .pointer (some ⟨gp, 0, none⟩)) rfl (by kernel_rfl) (by kernel_rfl) (by kernel_rfl) rfl hSa1 (fun W' hS => by go_simp) rfl ?_
          refine hd_take 17 (v := .int .i64 t.serial) rfl (by kernel_rfl) (by kernel_rfl) (by kernel_rfl) rfl hSa1 (fun W' hS => by obtain ⟨s0, s1, s2, s3, s4, s5, s6, s7, s8⟩ := hS; go_simp) rfl ?_
          try simp only [Act.put, List.setIfInBounds_toArray, List.set_cons_zero, List.set_cons_succ]
          refine hd_take 14 (v := .pointer (some ⟨gp, 5, none⟩)) rfl (by kernel_rfl) (by kernel_rfl) (by kernel_rfl) rfl hSa1 (fun W' hS => by go_simp) rfl ?_
          try simp only [Act.put, List.setIfInBounds_toArray, List.set_cons_zero, List.set_cons_succ]
          refine hd_take 15 (v := .agg #[.int .i64 g.flt.bits, .int .i64 g.flt.hashes, .slice wa g.flt.words.length wc]) rfl (by kernel_rfl) (by kernel_rfl) (by kernel_rfl) rfl hSa1 (fun W' hS => by obtain ⟨s0, s1, s2, s3, s4, s5, s6, s7, s8⟩ := hS; go_simp) rfl ?_
          try simp only [Act.put, List.setIfInBounds_toArray, List.set_cons_zero, List.set_cons_succ]
          refine hd_one 18 (by kernel_rfl) rfl (by kernel_rfl) rfl (fun K' hK => ?_)
          go_simp
          refine (rhas36_any _ g.flt t.serial ya1 ⟨_, rfl, HM.out.w.1.fr0 (HF1.out.trans ga1 (by simp))⟩ HM.out.i.w HS.out.s).mono ?_
          rintro e ya2 ⟨rfl, hbb⟩
          have ga2 : Fr [] W1 ya2 := ga1.below hbb ga1.size
          rw [← HHB.out]
          clear hbb
          have hSa2 : ya2.cell? ⟨p, 0, none⟩ = some (.int .i64 t.serial) ∧ ya2.cell? ⟨p, 1, none⟩ = some (.int .i64 t.shw) ∧ ya2.cell? ⟨p, 2, none⟩ = some (.int .i64 t.place) ∧ ya2.cell? ⟨p, 3, none⟩ = some (.string ⟨t.first.toArray⟩) ∧ ya2.cell? ⟨p, 4, none⟩ = some (.slice ta t.chain.length tc) ∧ ya2.cell? ⟨gp, 1, none⟩ = some (.int .i64 g.shw) ∧ ya2.cell? ⟨gp, 5, none⟩ = some (.int .i64 g.flt.bits) ∧ ya2.cell? ⟨gp, 6, none⟩ = some (.int .i64 g.flt.hashes) ∧ ya2.cell? ⟨gp, 7, none⟩ = some (.slice wa g.flt.words.length wc) := ⟨ga2.cell x0 (by simp), ga2.cell x1 (by simp), ga2.cell x2 (by simp), ga2.cell x3 (by simp), ga2.cell x4 (by simp), ga2.cell g1 (by simp), ga2.cell g5 (by simp), ga2.cell g6 (by simp), ga2.cell g7 (by simp)⟩
          refine hK.out _ _ (fun _ => hSa2) ?_
          clear hK K'
          try simp only [Act.put, List.setIfInBounds_toArray, List.set_cons_zero, List.set_cons_succ]
          refine hd_take 19 (v := .bool false) rfl (by kernel_rfl) (by kernel_rfl) (by kernel_rfl) rfl hSa2 (fun W' hS => by go_simp) rfl ?_
          try simp only [Act.put, List.setIfInBounds_toArray, List.set_cons_zero, List.set_cons_succ]
          refine hd_take 20 (v := .bool false) rfl (by kernel_rfl) (by kernel_rfl) (by kernel_rfl) rfl hSa2 (fun W' hS => by go_simp) rfl ?_
          try simp only [Act.put, List.setIfInBounds_toArray, List.set_cons_zero, List.set_cons_succ]
          refine hd_take 21 (v := .bool false) rfl (by kernel_rfl) (by kernel_rfl) (by kernel_rfl) rfl hSa2 (fun W' hS => by go_simp) rfl ?_
          try simp only [Act.put, List.setIfInBounds_toArray, List.set_cons_zero, List.set_cons_succ]
          refine hd_skip 22 rfl (by kernel_rfl) (by kernel_rfl) (by kernel_rfl) rfl hSa2 rfl ?_
          refine hd_skip 23 rfl (by kernel_rfl) (by kernel_rfl) (by kernel_rfl) rfl hSa2 rfl ?_
          refine hd_skip 24 rfl (by kernel_rfl) (by kernel_rfl) (by kernel_rfl) rfl hSa2 rfl ?_
          refine hd_skip 25 rfl (by kernel_rfl) (by kernel_rfl) (by kernel_rfl) rfl hSa2 rfl ?_
          refine hd_skip 26 rfl (by kernel_rfl) (by kernel_rfl) (by kernel_rfl) rfl hSa2 rfl ?_
          refine hd_skip 27 rfl (by kernel_rfl) (by kernel_rfl) (by kernel_rfl) rfl hSa2 rfl ?_
          refine hd_take 28 (v := .bool false) rfl (by kernel_rfl) (by kernel_rfl) (by kernel_rfl) rfl hSa2 (fun W' hS => by go_simp) rfl ?_
          try simp only [Act.put, List.setIfInBounds_toArray, List.set_cons_zero, List.set_cons_succ]
          refine held_done (by kernel_rfl) ?_
          have HF2 := Lib.hid (HF1.out.trans ga2 (by simp))
          have hp2 := ga2.at HP1.out (by simp)
          have HKK : Hid (kindG g t = 3) := Lib.hid (by rw [HK.out]; rfl)
          have HP2 := Lib.hid hp2
          generalize hWW : ya2 = Wx at HF2 HP2 hp2 ⊢
          clear hWW
          clear x0 x1 x2 x3 x4 g1 g5 g6 g7 g8 hp2
          have z0 := row_cell HP2.out 0
          have z1 := row_cell HP2.out 1
          have z2 := row_cell HP2.out 2
          have z3 := row_cell HP2.out 3
          have z4 := row_cell HP2.out 4
          simp at z0 z1 z2 z3 z4
          go_wp2_with fail
          have gc0 : Fr [] Wx Wx.drew := (Fr.refl [] Wx).drew
          have hSc0 : Wx.drew.cell? ⟨p, 0, none⟩ = some (.int .i64 t.serial) ∧ Wx.drew.cell? ⟨p, 1, none⟩ = some (.int .i64 t.shw) ∧ Wx.drew.cell? ⟨p, 2, none⟩ = some (.int .i64 t.place) ∧ Wx.drew.cell? ⟨p, 3, none⟩ = some (.string ⟨t.first.toArray⟩) ∧ Wx.drew.cell? ⟨p, 4, none⟩ = some (.slice ta t.chain.length tc) := ⟨gc0.cell z0 (by simp), gc0.cell z1 (by simp), gc0.cell z2 (by simp), gc0.cell z3 (by simp), gc0.cell z4 (by simp)⟩
          refine region_held 100 (fun W' => W'.cell? ⟨p, 0, none⟩ = some (.int .i64 t.serial) ∧ W'.cell? ⟨p, 1, none⟩ = some (.int .i64 t.shw) ∧ W'.cell? ⟨p, 2, none⟩ = some (.int .i64 t.place) ∧ W'.cell? ⟨p, 3, none⟩ = some (.string ⟨t.first.toArray⟩) ∧ W'.cell? ⟨p, 4, none⟩ = some (.slice ta t.chain.length tc)) hmx ?_
          change Held _ _ _ _ _ _ 8 (Array.replicate 8 false) _ _
          refine hd_take 0 (v := .pointer (some ⟨gp, 0, none⟩)) rfl (by kernel_rfl) (by kernel_rfl) (by kernel_rfl) rfl hSc0 (fun W' hS => by go_simp) rfl ?_
          refine hd_take 1 (v := .int .i64 3) rfl (by kernel_rfl) (by kernel_rfl) (by kernel_rfl) rfl hSc0 (fun W' hS => by go_simp) rfl ?_
          refine hd_take 2 (v := .pointer (some ⟨p, 0, none⟩)) rfl (by kernel_rfl) (by kernel_rfl) (by kernel_rfl) rfl hSc0 (fun W' hS => by go_simp) rfl ?_
          refine hd_take 4 (v := .agg #[.int .i64 t.serial, .int .i64 t.shw, .int .i64 t.place, .string ⟨t.first.toArray⟩, .slice ta t.chain.length tc]) rfl (by kernel_rfl) (by kernel_rfl) (by kernel_rfl) rfl hSc0 (fun W' hS => by obtain ⟨s0, s1, s2, s3, s4⟩ := hS; go_simp) rfl ?_
          refine hd_take 6 (v := .int .i64 now) rfl (by kernel_rfl) (by kernel_rfl) (by kernel_rfl) rfl hSc0 (fun W' hS => by go_simp) rfl ?_
          try simp only [Act.put, List.setIfInBounds_toArray, List.set_cons_zero, List.set_cons_succ]
          refine hd_take 3 (v := .int .i64 t.serial) rfl (by kernel_rfl) (by kernel_rfl) (by kernel_rfl) rfl hSc0 (fun W' hS => by obtain ⟨s0, s1, s2, s3, s4⟩ := hS; go_simp) rfl ?_
          try simp only [Act.put, List.setIfInBounds_toArray, List.set_cons_zero, List.set_cons_succ]
          refine hd_one 5 (by kernel_rfl) rfl (by kernel_rfl) rfl (fun K' hK => ?_)
          go_simp
          refine (rowner30_any _ t Wx.drew ⟨_, rfl, HTR.out.fr (HF2.out.trans gc0 (by simp))⟩).mono ?_
          rintro e yc1 ⟨rfl, hbb⟩
          have gc1 : Fr [] Wx yc1 := gc0.below hbb gc0.size
          clear hbb
          have hSc1 : yc1.cell? ⟨p, 0, none⟩ = some (.int .i64 t.serial) ∧ yc1.cell? ⟨p, 1, none⟩ = some (.int .i64 t.shw) ∧ yc1.cell? ⟨p, 2, none⟩ = some (.int .i64 t.place) ∧ yc1.cell? ⟨p, 3, none⟩ = some (.string ⟨t.first.toArray⟩) ∧ yc1.cell? ⟨p, 4, none⟩ = some (.slice ta t.chain.length tc) := ⟨gc1.cell z0 (by simp), gc1.cell z1 (by simp), gc1.cell z2 (by simp), gc1.cell z3 (by simp), gc1.cell z4 (by simp)⟩
          refine hK.out _ _ (fun _ => hSc1) ?_
          clear hK K'
          try simp only [Act.put, List.setIfInBounds_toArray, List.set_cons_zero, List.set_cons_succ]
          refine hd_one 7 (by kernel_rfl) rfl (by kernel_rfl) rfl (fun K' hK => ?_)
          go_simp
          refine (rwrite37_any B X gp g F 3 t.serial (ownerT t) now yc1 (HH.out.fr0 (HF2.out.trans gc1 (by simp))) HNW.out.1 HNW.out.2 HL4.out).mono ?_
          rintro e wz ⟨rfl, hqz⟩
          have HQZ := Lib.hid (hqz.back (HF2.out.trans gc1 (by simp)))
          obtain ⟨Fz, _, hxz, _⟩ := hqz
          refine hK.out _ _ (fun _ => ⟨hxz.cell (gc1.cell z0 (by simp)) HPF.out, hxz.cell (gc1.cell z1 (by simp)) HPF.out, hxz.cell (gc1.cell z2 (by simp)) HPF.out, hxz.cell (gc1.cell z3 (by simp)) HPF.out, hxz.cell (gc1.cell z4 (by simp)) HPF.out⟩) ?_
          clear hK K'
          try simp only [Act.put, List.setIfInBounds_toArray, List.set_cons_zero, List.set_cons_succ]
          refine held_done (by kernel_rfl) ?_
          clear hxz
          go_wp2_with fail
          go_ret2
          rw [HR.out, HKK.out]
          exact ⟨rfl, HQZ.out⟩
        | false =>
          have ga0 : Fr [] W1 W1.drew := (Fr.refl [] W1).drew
          have hSa0 : W1.drew.cell? ⟨p, 0, none⟩ = some (.int .i64 t.serial) ∧ W1.drew.cell? ⟨p, 1, none⟩ = some (.int .i64 t.shw) ∧ W1.drew.cell? ⟨p, 2, none⟩ = some (.int .i64 t.place) ∧ W1.drew.cell? ⟨p, 3, none⟩ = some (.string ⟨t.first.toArray⟩) ∧ W1.drew.cell? ⟨p, 4, none⟩ = some (.slice ta t.chain.length tc) ∧ W1.drew.cell? ⟨gp, 1, none⟩ = some (.int .i64 g.shw) ∧ W1.drew.cell? ⟨gp, 5, none⟩ = some (.int .i64 g.flt.bits) ∧ W1.drew.cell? ⟨gp, 6, none⟩ = some (.int .i64 g.flt.hashes) ∧ W1.drew.cell? ⟨gp, 7, none⟩ = some (.slice wa g.flt.words.length wc) := ⟨ga0.cell x0 (by simp), ga0.cell x1 (by simp), ga0.cell x2 (by simp), ga0.cell x3 (by simp), ga0.cell x4 (by simp), ga0.cell g1 (by simp), ga0.cell g5 (by simp), ga0.cell g6 (by simp), ga0.cell g7 (by simp)⟩
          refine region_held 100 (fun W' => W'.cell? ⟨p, 0, none⟩ = some (.int .i64 t.serial) ∧ W'.cell? ⟨p, 1, none⟩ = some (.int .i64 t.shw) ∧ W'.cell? ⟨p, 2, none⟩ = some (.int .i64 t.place) ∧ W'.cell? ⟨p, 3, none⟩ = some (.string ⟨t.first.toArray⟩) ∧ W'.cell? ⟨p, 4, none⟩ = some (.slice ta t.chain.length tc) ∧ W'.cell? ⟨gp, 1, none⟩ = some (.int .i64 g.shw) ∧ W'.cell? ⟨gp, 5, none⟩ = some (.int .i64 g.flt.bits) ∧ W'.cell? ⟨gp, 6, none⟩ = some (.int .i64 g.flt.hashes) ∧ W'.cell? ⟨gp, 7, none⟩ = some (.slice wa g.flt.words.length wc)) hmx ?_
          change Held _ _ _ _ _ _ 29 (Array.replicate 29 false) _ _
          refine hd_take 0 (v := .agg #[.int .i64 t.serial, .int .i64 t.shw, .int .i64 t.place, .string ⟨t.first.toArray⟩, .slice ta t.chain.length tc]) rfl (by kernel_rfl) (by kernel_rfl) (by kernel_rfl) rfl hSa0 (fun W' hS => by obtain ⟨s0, s1, s2, s3, s4, s5, s6, s7, s8⟩ := hS; go_simp) rfl ?_
          try simp only [Act.put, List.setIfInBounds_toArray, List.set_cons_zero, List.set_cons_succ]
          refine hd_one 1 (by kernel_rfl) rfl (by kernel_rfl) rfl (fun K' hK => ?_)
          go_simp
          refine (rvalid30_any _ t W1.drew ⟨_, rfl, HTR.out.fr (HF1.out.trans ga0 (by simp))⟩ HS.out).mono ?_
          rintro e ya1 ⟨rfl, hbb⟩
          have ga1 : Fr [] W1 ya1 := ga0.below hbb ga0.size
          rw [← HVB.out]
          clear hbb
          have hSa1 : ya1.cell? ⟨p, 0, none⟩ = some (.int .i64 t.serial) ∧ ya1.cell? ⟨p, 1, none⟩ = some (.int .i64 t.shw) ∧ ya1.cell? ⟨p, 2, none⟩ = some (.int .i64 t.place) ∧ ya1.cell? ⟨p, 3, none⟩ = some (.string ⟨t.first.toArray⟩) ∧ ya1.cell? ⟨p, 4, none⟩ = some (.slice ta t.chain.length tc) ∧ ya1.cell? ⟨gp, 1, none⟩ = some (.int .i64 g.shw) ∧ ya1.cell? ⟨gp, 5, none⟩ = some (.int .i64 g.flt.bits) ∧ ya1.cell? ⟨gp, 6, none⟩ = some (.int .i64 g.flt.hashes) ∧ ya1.cell? ⟨gp, 7, none⟩ = some (.slice wa g.flt.words.length wc) := ⟨ga1.cell x0 (by simp), ga1.cell x1 (by simp), ga1.cell x2 (by simp), ga1.cell x3 (by simp), ga1.cell x4 (by simp), ga1.cell g1 (by simp), ga1.cell g5 (by simp), ga1.cell g6 (by simp), ga1.cell g7 (by simp)⟩
          refine hK.out _ _ (fun _ => hSa1) ?_
          clear hK K'
          try simp only [Act.put, List.setIfInBounds_toArray, List.set_cons_zero, List.set_cons_succ]
          refine hd_take 2 (v := .bool true) rfl (by kernel_rfl) (by kernel_rfl) (by kernel_rfl) rfl hSa1 (fun W' hS => by go_simp) rfl ?_
          try simp only [Act.put, List.setIfInBounds_toArray, List.set_cons_zero, List.set_cons_succ]
          refine hd_take 3 (v := .pointer (some ⟨p, 1, none⟩)) rfl (by kernel_rfl) (by kernel_rfl) (by kernel_rfl) rfl hSa1 (fun W' hS => by go_simp) rfl ?_
          refine hd_take 5 (v := .pointer (some ⟨gp, 0, none⟩)) rfl (by kernel_rfl) (by kernel_rfl) (by kernel_rfl) rfl hSa1 (fun W' hS => by go_simp) rfl ?_
          try simp only [Act.put, List.setIfInBounds_toArray, List.set_cons_zero, List.set_cons_succ]
          refine hd_take 4 (v := .int .i64 t.shw) rfl (by kernel_rfl) (by kernel_rfl) (by kernel_rfl) rfl hSa1 (fun W' hS => by obtain ⟨s0, s1, s2, s3, s4, s5, s6, s7, s8⟩ := hS; go_simp) rfl ?_
          refine hd_take 6 (v := .pointer (some ⟨gp, 0, none⟩)) rfl (by kernel_rfl) (by kernel_rfl) (by kernel_rfl) rfl hSa1 (fun W' hS => by go_simp) rfl ?_
          try simp only [Act.put, List.setIfInBounds_toArray, List.set_cons_zero, List.set_cons_succ]
          refine hd_take 7 (v := .pointer (some ⟨gp, 1, none⟩)) rfl (by kernel_rfl) (by kernel_rfl) (by kernel_rfl) rfl hSa1 (fun W' hS => by go_simp) rfl ?_
          try simp only [Act.put, List.setIfInBounds_toArray, List.set_cons_zero, List.set_cons_succ]
          refine hd_take 8 (v := .int .i64 g.shw) rfl (by kernel_rfl) (by kernel_rfl) (by kernel_rfl) rfl hSa1 (fun W' hS => by obtain ⟨s0, s1, s2, s3, s4, s5, s6, s7, s8⟩ := hS; go_simp) rfl ?_
          try simp only [Act.put, List.setIfInBounds_toArray, List.set_cons_zero, List.set_cons_succ]
          refine hd_take 9 (v := .bool true) rfl (by kernel_rfl) (by kernel_rfl) (by kernel_rfl) rfl hSa1 (fun W' hS => by go_simp) rfl ?_
          try simp only [Act.put, List.setIfInBounds_toArray, List.set_cons_zero, List.set_cons_succ]
          refine hd_take 10 (v := .bool true) rfl (by kernel_rfl) (by kernel_rfl) (by kernel_rfl) rfl hSa1 (fun W' hS => by go_simp) rfl ?_
          try simp only [Act.put, List.setIfInBounds_toArray, List.set_cons_zero, List.set_cons_succ]
          refine hd_take 11 (v := .bool true) rfl (by kernel_rfl) (by kernel_rfl) (by kernel_rfl) rfl hSa1 (fun W' hS => by go_simp) rfl ?_
          try simp only [Act.put, List.setIfInBounds_toArray, List.set_cons_zero, List.set_cons_succ]
          refine hd_take 12 (v := .pointer (some ⟨gp, 0, none⟩)) rfl (by kernel_rfl) (by kernel_rfl) (by kernel_rfl) rfl hSa1 (fun W' hS => by go_simp) rfl ?_
          refine hd_take 16 (v := .pointer (some ⟨p, 0, none⟩)) rfl (by kernel_rfl) (by kernel_rfl) (by kernel_rfl) rfl hSa1 (fun W' hS => by go_simp) rfl ?_
          try simp only [Act.put, List.setIfInBounds_toArray, List.set_cons_zero, List.set_cons_succ]
          refine hd_take 13 (v := .pointer (some ⟨gp, 0, none⟩)) rfl (by kernel_rfl) (by kernel_rfl) (by kernel_rfl) rfl hSa1 (fun W' hS => by go_simp) rfl ?_
          refine hd_take 17 (v := .int .i64 t.serial) rfl (by kernel_rfl) (by kernel_rfl) (by kernel_rfl) rfl hSa1 (fun W' hS => by obtain ⟨s0, s1, s2, s3, s4, s5, s6, s7, s8⟩ := hS; go_simp) rfl ?_
          try simp only [Act.put, List.setIfInBounds_toArray, List.set_cons_zero, List.set_cons_succ]
          refine hd_take 14 (v := .pointer (some ⟨gp, 5, none⟩)) rfl (by kernel_rfl) (by kernel_rfl) (by kernel_rfl) rfl hSa1 (fun W' hS => by go_simp) rfl ?_
          try simp only [Act.put, List.setIfInBounds_toArray, List.set_cons_zero, List.set_cons_succ]
          refine hd_take 15 (v := .agg #[.int .i64 g.flt.bits, .int .i64 g.flt.hashes, .slice wa g.flt.words.length wc]) rfl (by kernel_rfl) (by kernel_rfl) (by kernel_rfl) rfl hSa1 (fun W' hS => by obtain ⟨s0, s1, s2, s3, s4, s5, s6, s7, s8⟩ := hS; go_simp) rfl ?_
          try simp only [Act.put, List.setIfInBounds_toArray, List.set_cons_zero, List.set_cons_succ]
          refine hd_one 18 (by kernel_rfl) rfl (by kernel_rfl) rfl (fun K' hK => ?_)
          go_simp
          refine (rhas36_any _ g.flt t.serial ya1 ⟨_, rfl, HM.out.w.1.fr0 (HF1.out.trans ga1 (by simp))⟩ HM.out.i.w HS.out.s).mono ?_
          rintro e ya2 ⟨rfl, hbb⟩
          have ga2 : Fr [] W1 ya2 := ga1.below hbb ga1.size
          rw [← HHB.out]
          clear hbb
          have hSa2 : ya2.cell? ⟨p, 0, none⟩ = some (.int .i64 t.serial) ∧ ya2.cell? ⟨p, 1, none⟩ = some (.int .i64 t.shw) ∧ ya2.cell? ⟨p, 2, none⟩ = some (.int .i64 t.place) ∧ ya2.cell? ⟨p, 3, none⟩ = some (.string ⟨t.first.toArray⟩) ∧ ya2.cell? ⟨p, 4, none⟩ = some (.slice ta t.chain.length tc) ∧ ya2.cell? ⟨gp, 1, none⟩ = some (.int .i64 g.shw) ∧ ya2.cell? ⟨gp, 5, none⟩ = some (.int .i64 g.flt.bits) ∧ ya2.cell? ⟨gp, 6, none⟩ = some (.int .i64 g.flt.hashes) ∧ ya2.cell? ⟨gp, 7, none⟩ = some (.slice wa g.flt.words.length wc) := ⟨ga2.cell x0 (by simp), ga2.cell x1 (by simp), ga2.cell x2 (by simp), ga2.cell x3 (by simp), ga2.cell x4 (by simp), ga2.cell g1 (by simp), ga2.cell g5 (by simp), ga2.cell g6 (by simp), ga2.cell g7 (by simp)⟩
          refine hK.out _ _ (fun _ => hSa2) ?_
          clear hK K'
          try simp only [Act.put, List.setIfInBounds_toArray, List.set_cons_zero, List.set_cons_succ]
          refine hd_take 19 (v := .bool true) rfl (by kernel_rfl) (by kernel_rfl) (by kernel_rfl) rfl hSa2 (fun W' hS => by go_simp) rfl ?_
          try simp only [Act.put, List.setIfInBounds_toArray, List.set_cons_zero, List.set_cons_succ]
          refine hd_take 20 (v := .bool true) rfl (by kernel_rfl) (by kernel_rfl) (by kernel_rfl) rfl hSa2 (fun W' hS => by go_simp) rfl ?_
          try simp only [Act.put, List.setIfInBounds_toArray, List.set_cons_zero, List.set_cons_succ]
          refine hd_take 21 (v := .bool true) rfl (by kernel_rfl) (by kernel_rfl) (by kernel_rfl) rfl hSa2 (fun W' hS => by go_simp) rfl ?_
          try simp only [Act.put, List.setIfInBounds_toArray, List.set_cons_zero, List.set_cons_succ]
          refine hd_take 22 (v := .pointer (some ⟨gp, 0, none⟩)) rfl (by kernel_rfl) (by kernel_rfl) (by kernel_rfl) rfl hSa2 (fun W' hS => by go_simp) rfl ?_
          refine hd_take 23 (v := .pointer (some ⟨p, 0, none⟩)) rfl (by kernel_rfl) (by kernel_rfl) (by kernel_rfl) rfl hSa2 (fun W' hS => by go_simp) rfl ?_
          try simp only [Act.put, List.setIfInBounds_toArray, List.set_cons_zero, List.set_cons_succ]
          refine hd_take 24 (v := .int .i64 t.serial) rfl (by kernel_rfl) (by kernel_rfl) (by kernel_rfl) rfl hSa2 (fun W' hS => by obtain ⟨s0, s1, s2, s3, s4, s5, s6, s7, s8⟩ := hS; go_simp) rfl ?_
          try simp only [Act.put, List.setIfInBounds_toArray, List.set_cons_zero, List.set_cons_succ]
          refine hd_one 25 (by kernel_rfl) rfl (by kernel_rfl) rfl (fun K' hK => ?_)
          go_simp
          refine (rlast_any B X gp g F t.serial ya2 (HH.out.fr0 (HF1.out.trans ga2 (by simp)))).mono ?_
          rintro e ya3 ⟨rfl, hbb⟩
          have ga3 : Fr [] W1 ya3 := ga2.below hbb ga2.size
          clear hbb
          have hSa3 : ya3.cell? ⟨p, 0, none⟩ = some (.int .i64 t.serial) ∧ ya3.cell? ⟨p, 1, none⟩ = some (.int .i64 t.shw) ∧ ya3.cell? ⟨p, 2, none⟩ = some (.int .i64 t.place) ∧ ya3.cell? ⟨p, 3, none⟩ = some (.string ⟨t.first.toArray⟩) ∧ ya3.cell? ⟨p, 4, none⟩ = some (.slice ta t.chain.length tc) ∧ ya3.cell? ⟨gp, 1, none⟩ = some (.int .i64 g.shw) ∧ ya3.cell? ⟨gp, 5, none⟩ = some (.int .i64 g.flt.bits) ∧ ya3.cell? ⟨gp, 6, none⟩ = some (.int .i64 g.flt.hashes) ∧ ya3.cell? ⟨gp, 7, none⟩ = some (.slice wa g.flt.words.length wc) := ⟨ga3.cell x0 (by simp), ga3.cell x1 (by simp), ga3.cell x2 (by simp), ga3.cell x3 (by simp), ga3.cell x4 (by simp), ga3.cell g1 (by simp), ga3.cell g5 (by simp), ga3.cell g6 (by simp), ga3.cell g7 (by simp)⟩
          refine hK.out _ _ (fun _ => hSa3) ?_
          clear hK K'
          try simp only [Act.put, List.setIfInBounds_toArray, List.set_cons_zero, List.set_cons_succ]
          refine hd_take 26 (v := .int .i64 (lastS g.log t.serial).kind) rfl (by kernel_rfl) (by kernel_rfl) (by kernel_rfl) rfl hSa3 (fun W' hS => by kernel_rfl) rfl ?_
          try simp only [Act.put, List.setIfInBounds_toArray, List.set_cons_zero, List.set_cons_succ]
          refine hd_take 27 (v := .bool kb) rfl (by kernel_rfl) (by kernel_rfl) (by kernel_rfl) rfl hSa3 (fun W' hS => by go_simp) rfl ?_
          try simp only [Act.put, List.setIfInBounds_toArray, List.set_cons_zero, List.set_cons_succ]
          refine hd_take 28 (v := .bool kb) rfl (by kernel_rfl) (by kernel_rfl) (by kernel_rfl) rfl hSa3 (fun W' hS => by go_simp) rfl ?_
          try simp only [Act.put, List.setIfInBounds_toArray, List.set_cons_zero, List.set_cons_succ]
          refine held_done (by kernel_rfl) ?_
          cases kb with
          | false =>
            have HF2 := Lib.hid (HF1.out.trans ga3 (by simp))
            have hp2 := ga3.at HP1.out (by simp)
            have HKK : Hid (kindG g t = 3) := Lib.hid (by rw [HK.out]; rfl)
            have HP2 := Lib.hid hp2
            generalize hWW : ya3 = Wx at HF2 HP2 hp2 ⊢
            clear hWW
            clear x0 x1 x2 x3 x4 g1 g5 g6 g7 g8 hp2
            have z0 := row_cell HP2.out 0
            have z1 := row_cell HP2.out 1
            have z2 := row_cell HP2.out 2
            have z3 := row_cell HP2.out 3
            have z4 := row_cell HP2.out 4
            simp at z0 z1 z2 z3 z4
            go_wp2_with fail
            have gc0 : Fr [] Wx Wx.drew := (Fr.refl [] Wx).drew
            have hSc0 : Wx.drew.cell? ⟨p, 0, none⟩ = some (.int .i64 t.serial) ∧ Wx.drew.cell? ⟨p, 1, none⟩ = some (.int .i64 t.shw) ∧ Wx.drew.cell? ⟨p, 2, none⟩ = some (.int .i64 t.place) ∧ Wx.drew.cell? ⟨p, 3, none⟩ = some (.string ⟨t.first.toArray⟩) ∧ Wx.drew.cell? ⟨p, 4, none⟩ = some (.slice ta t.chain.length tc) := ⟨gc0.cell z0 (by simp), gc0.cell z1 (by simp), gc0.cell z2 (by simp), gc0.cell z3 (by simp), gc0.cell z4 (by simp)⟩
            refine region_held 100 (fun W' => W'.cell? ⟨p, 0, none⟩ = some (.int .i64 t.serial) ∧ W'.cell? ⟨p, 1, none⟩ = some (.int .i64 t.shw) ∧ W'.cell? ⟨p, 2, none⟩ = some (.int .i64 t.place) ∧ W'.cell? ⟨p, 3, none⟩ = some (.string ⟨t.first.toArray⟩) ∧ W'.cell? ⟨p, 4, none⟩ = some (.slice ta t.chain.length tc)) hmx ?_
            change Held _ _ _ _ _ _ 8 (Array.replicate 8 false) _ _
            refine hd_take 0 (v := .pointer (some ⟨gp, 0, none⟩)) rfl (by kernel_rfl) (by kernel_rfl) (by kernel_rfl) rfl hSc0 (fun W' hS => by go_simp) rfl ?_
            refine hd_take 1 (v := .int .i64 3) rfl (by kernel_rfl) (by kernel_rfl) (by kernel_rfl) rfl hSc0 (fun W' hS => by go_simp) rfl ?_
            refine hd_take 2 (v := .pointer (some ⟨p, 0, none⟩)) rfl (by kernel_rfl) (by kernel_rfl) (by kernel_rfl) rfl hSc0 (fun W' hS => by go_simp) rfl ?_
            refine hd_take 4 (v := .agg #[.int .i64 t.serial, .int .i64 t.shw, .int .i64 t.place, .string ⟨t.first.toArray⟩, .slice ta t.chain.length tc]) rfl (by kernel_rfl) (by kernel_rfl) (by kernel_rfl) rfl hSc0 (fun W' hS => by obtain ⟨s0, s1, s2, s3, s4⟩ := hS; go_simp) rfl ?_
            refine hd_take 6 (v := .int .i64 now) rfl (by kernel_rfl) (by kernel_rfl) (by kernel_rfl) rfl hSc0 (fun W' hS => by go_simp) rfl ?_
            try simp only [Act.put, List.setIfInBounds_toArray, List.set_cons_zero, List.set_cons_succ]
            refine hd_take 3 (v := .int .i64 t.serial) rfl (by kernel_rfl) (by kernel_rfl) (by kernel_rfl) rfl hSc0 (fun W' hS => by obtain ⟨s0, s1, s2, s3, s4⟩ := hS; go_simp) rfl ?_
            try simp only [Act.put, List.setIfInBounds_toArray, List.set_cons_zero, List.set_cons_succ]
            refine hd_one 5 (by kernel_rfl) rfl (by kernel_rfl) rfl (fun K' hK => ?_)
            go_simp
            refine (rowner30_any _ t Wx.drew ⟨_, rfl, HTR.out.fr (HF2.out.trans gc0 (by simp))⟩).mono ?_
            rintro e yc1 ⟨rfl, hbb⟩
            have gc1 : Fr [] Wx yc1 := gc0.below hbb gc0.size
            clear hbb
            have hSc1 : yc1.cell? ⟨p, 0, none⟩ = some (.int .i64 t.serial) ∧ yc1.cell? ⟨p, 1, none⟩ = some (.int .i64 t.shw) ∧ yc1.cell? ⟨p, 2, none⟩ = some (.int .i64 t.place) ∧ yc1.cell? ⟨p, 3, none⟩ = some (.string ⟨t.first.toArray⟩) ∧ yc1.cell? ⟨p, 4, none⟩ = some (.slice ta t.chain.length tc) := ⟨gc1.cell z0 (by simp), gc1.cell z1 (by simp), gc1.cell z2 (by simp), gc1.cell z3 (by simp), gc1.cell z4 (by simp)⟩
            refine hK.out _ _ (fun _ => hSc1) ?_
            clear hK K'
            try simp only [Act.put, List.setIfInBounds_toArray, List.set_cons_zero, List.set_cons_succ]
            refine hd_one 7 (by kernel_rfl) rfl (by kernel_rfl) rfl (fun K' hK => ?_)
            go_simp
            refine (rwrite37_any B X gp g F 3 t.serial (ownerT t) now yc1 (HH.out.fr0 (HF2.out.trans gc1 (by simp))) HNW.out.1 HNW.out.2 HL4.out).mono ?_
            rintro e wz ⟨rfl, hqz⟩
            have HQZ := Lib.hid (hqz.back (HF2.out.trans gc1 (by simp)))
            obtain ⟨Fz, _, hxz, _⟩ := hqz
            refine hK.out _ _ (fun _ => ⟨hxz.cell (gc1.cell z0 (by simp)) HPF.out, hxz.cell (gc1.cell z1 (by simp)) HPF.out, hxz.cell (gc1.cell z2 (by simp)) HPF.out, hxz.cell (gc1.cell z3 (by simp)) HPF.out, hxz.cell (gc1.cell z4 (by simp)) HPF.out⟩) ?_
            clear hK K'
            try simp only [Act.put, List.setIfInBounds_toArray, List.set_cons_zero, List.set_cons_succ]
            refine held_done (by kernel_rfl) ?_
            clear hxz
            go_wp2_with fail
            go_ret2
            rw [HR.out, HKK.out]
            exact ⟨rfl, HQZ.out⟩
          | true =>
            have HF2 := Lib.hid (HF1.out.trans ga3 (by simp))
            have hp2 := ga3.at HP1.out (by simp)
            have HKK : Hid (kindG g t = 1) := Lib.hid (by rw [HK.out]; rfl)
            have HP2 := Lib.hid hp2
            generalize hWW : ya3 = Wx at HF2 HP2 hp2 ⊢
            clear hWW
            clear x0 x1 x2 x3 x4 g1 g5 g6 g7 g8 hp2
            have z0 := row_cell HP2.out 0
            have z1 := row_cell HP2.out 1
            have z2 := row_cell HP2.out 2
            have z3 := row_cell HP2.out 3
            have z4 := row_cell HP2.out 4
            simp at z0 z1 z2 z3 z4
            go_wp2_with fail
            have gc0 : Fr [] Wx Wx.drew := (Fr.refl [] Wx).drew
            have hSc0 : Wx.drew.cell? ⟨p, 0, none⟩ = some (.int .i64 t.serial) ∧ Wx.drew.cell? ⟨p, 1, none⟩ = some (.int .i64 t.shw) ∧ Wx.drew.cell? ⟨p, 2, none⟩ = some (.int .i64 t.place) ∧ Wx.drew.cell? ⟨p, 3, none⟩ = some (.string ⟨t.first.toArray⟩) ∧ Wx.drew.cell? ⟨p, 4, none⟩ = some (.slice ta t.chain.length tc) := ⟨gc0.cell z0 (by simp), gc0.cell z1 (by simp), gc0.cell z2 (by simp), gc0.cell z3 (by simp), gc0.cell z4 (by simp)⟩
            refine region_held 100 (fun W' => W'.cell? ⟨p, 0, none⟩ = some (.int .i64 t.serial) ∧ W'.cell? ⟨p, 1, none⟩ = some (.int .i64 t.shw) ∧ W'.cell? ⟨p, 2, none⟩ = some (.int .i64 t.place) ∧ W'.cell? ⟨p, 3, none⟩ = some (.string ⟨t.first.toArray⟩) ∧ W'.cell? ⟨p, 4, none⟩ = some (.slice ta t.chain.length tc)) hmx ?_
            change Held _ _ _ _ _ _ 8 (Array.replicate 8 false) _ _
            refine hd_take 0 (v := .pointer (some ⟨gp, 0, none⟩)) rfl (by kernel_rfl) (by kernel_rfl) (by kernel_rfl) rfl hSc0 (fun W' hS => by go_simp) rfl ?_
            refine hd_take 1 (v := .int .i64 1) rfl (by kernel_rfl) (by kernel_rfl) (by kernel_rfl) rfl hSc0 (fun W' hS => by go_simp) rfl ?_
            refine hd_take 2 (v := .pointer (some ⟨p, 0, none⟩)) rfl (by kernel_rfl) (by kernel_rfl) (by kernel_rfl) rfl hSc0 (fun W' hS => by go_simp) rfl ?_
            refine hd_take 4 (v := .agg #[.int .i64 t.serial, .int .i64 t.shw, .int .i64 t.place, .string ⟨t.first.toArray⟩, .slice ta t.chain.length tc]) rfl (by kernel_rfl) (by kernel_rfl) (by kernel_rfl) rfl hSc0 (fun W' hS => by obtain ⟨s0, s1, s2, s3, s4⟩ := hS; go_simp) rfl ?_
            refine hd_take 6 (v := .int .i64 now) rfl (by kernel_rfl) (by kernel_rfl) (by kernel_rfl) rfl hSc0 (fun W' hS => by go_simp) rfl ?_
            try simp only [Act.put, List.setIfInBounds_toArray, List.set_cons_zero, List.set_cons_succ]
            refine hd_take 3 (v := .int .i64 t.serial) rfl (by kernel_rfl) (by kernel_rfl) (by kernel_rfl) rfl hSc0 (fun W' hS => by obtain ⟨s0, s1, s2, s3, s4⟩ := hS; go_simp) rfl ?_
            try simp only [Act.put, List.setIfInBounds_toArray, List.set_cons_zero, List.set_cons_succ]
            refine hd_one 5 (by kernel_rfl) rfl (by kernel_rfl) rfl (fun K' hK => ?_)
            go_simp
            refine (rowner30_any _ t Wx.drew ⟨_, rfl, HTR.out.fr (HF2.out.trans gc0 (by simp))⟩).mono ?_
            rintro e yc1 ⟨rfl, hbb⟩
            have gc1 : Fr [] Wx yc1 := gc0.below hbb gc0.size
            clear hbb
            have hSc1 : yc1.cell? ⟨p, 0, none⟩ = some (.int .i64 t.serial) ∧ yc1.cell? ⟨p, 1, none⟩ = some (.int .i64 t.shw) ∧ yc1.cell? ⟨p, 2, none⟩ = some (.int .i64 t.place) ∧ yc1.cell? ⟨p, 3, none⟩ = some (.string ⟨t.first.toArray⟩) ∧ yc1.cell? ⟨p, 4, none⟩ = some (.slice ta t.chain.length tc) := ⟨gc1.cell z0 (by simp), gc1.cell z1 (by simp), gc1.cell z2 (by simp), gc1.cell z3 (by simp), gc1.cell z4 (by simp)⟩
            refine hK.out _ _ (fun _ => hSc1) ?_
            clear hK K'
            try simp only [Act.put, List.setIfInBounds_toArray, List.set_cons_zero, List.set_cons_succ]
            refine hd_one 7 (by kernel_rfl) rfl (by kernel_rfl) rfl (fun K' hK => ?_)
            go_simp
            refine (rwrite37_any B X gp g F 1 t.serial (ownerT t) now yc1 (HH.out.fr0 (HF2.out.trans gc1 (by simp))) HNW.out.1 HNW.out.2 HL4.out).mono ?_
            rintro e wz ⟨rfl, hqz⟩
            have HQZ := Lib.hid (hqz.back (HF2.out.trans gc1 (by simp)))
            obtain ⟨Fz, _, hxz, _⟩ := hqz
            refine hK.out _ _ (fun _ => ⟨hxz.cell (gc1.cell z0 (by simp)) HPF.out, hxz.cell (gc1.cell z1 (by simp)) HPF.out, hxz.cell (gc1.cell z2 (by simp)) HPF.out, hxz.cell (gc1.cell z3 (by simp)) HPF.out, hxz.cell (gc1.cell z4 (by simp)) HPF.out⟩) ?_
            clear hK K'
            try simp only [Act.put, List.setIfInBounds_toArray, List.set_cons_zero, List.set_cons_succ]
            refine held_done (by kernel_rfl) ?_
            clear hxz
            go_wp2_with fail
            go_ret2
            rw [HR.out, HKK.out]
            exact ⟨rfl, HQZ.out⟩
end Go.Proofs.YtglgkdbhdjkeaaaGreatDoor
namespace Go.Proofs.YtglgkdbhdjkeaaaGreatDoor
open Go.RowKit

set_option maxRecDepth 100000 in
set_option maxHeartbeats 1000000 in
theorem gscanX_nil (a b c : Int) (d : ByteArray) (cv : Value) (now : Int) (w : World) :
    Calls Tryz.prog 24 #[.pointer none, .agg #[.int .i64 a, .int .i64 b, .int .i64 c, .string d, cv], .int .i64 now] w fun e w' => e = .returned (.tuple #[.int .i64 0, .int .i64 1]) ∧ Below w.heap.size w w' := by
  go_enter Tryz.func24, Tryz.ntmps24
  go_wp2_with fail
  refine (come_nil now _).mono ?_
  rintro e w1 ⟨rfl, rfl⟩
  go_wp2_with fail
  go_ret2
  exact ⟨rfl, (((Fr.refl [] w).alloc _).alloc _).toBelow (by simp)⟩
set_option maxRecDepth 100000 in
set_option maxHeartbeats 1000000 in
theorem gsyncX_nil (a b : Int) (cv : Value) (now : Int) (w : World) :
    Calls Tryz.prog 26 #[.pointer none, .agg #[.int .i64 a, .int .i64 b, cv], .int .i64 now] w fun e w' => e = .returned (.int .i64 1) ∧ Below w.heap.size w w' := by
  have hq : ∀ w, (binOp .eql 25 (.pointer none) (.pointer none)).run Tryz.prog w = .ok (.bool true) w := fun _ => by kernel_rfl
  go_enter Tryz.func26, Tryz.ntmps26
  go_wp2_with fail
  refine (come_nil now _).mono ?_
  rintro e w1 ⟨rfl, rfl⟩
  go_wp2_with fail
  go_ret
  exact ⟨rfl, ((Fr.refl [] w).alloc _).toBelow (by simp)⟩
set_option maxRecDepth 100000 in
set_option maxHeartbeats 4000000 in
theorem do_nil (v : Value) (o : GOp) (w : World) (hv : OpR w v o) (hS : OpN o) :
    Calls Tryz.prog 14 #[.pointer none, v] w fun e w' => e = .returned (.tuple #[.int .i64 0, .int .i64 1]) ∧ Below w.heap.size w w' := by
  have hmx : Tryz.prog.follows .mixedOrders = true := by kernel_rfl
  obtain ⟨ta, wa, sa, tc, wc, sc, rfl, h1, h2, h3⟩ := hv
  obtain ⟨W0, hW0⟩ : ∃ W0, W0 = w.alloc (.cells #[.int .u8 (o.kind : Int), .int .i64 o.t.serial, .int .i64 o.t.shw, .int .i64 o.t.place, .string ⟨o.t.first.toArray⟩, .slice ta o.t.chain.length tc, .int .i64 o.serial, .int .i64 o.f.bits, .int .i64 o.f.hashes, .slice wa o.f.words.length wc, .slice sa o.serials.length sc, .int .i64 o.now] 40) := ⟨_, rfl⟩
  obtain ⟨ob, eob⟩ : ∃ q, q = w.heap.size := ⟨_, rfl⟩
  have f0 : Fr [] w W0 := by rw [hW0]; exact (Fr.refl [] w).alloc _
  have hob : W0.heap[ob]? = some (.cells #[.int .u8 (o.kind : Int), .int .i64 o.t.serial, .int .i64 o.t.shw, .int .i64 o.t.place, .string ⟨o.t.first.toArray⟩, .slice ta o.t.chain.length tc, .int .i64 o.serial, .int .i64 o.f.bits, .int .i64 o.f.hashes, .slice wa o.f.words.length wc, .slice sa o.serials.length sc, .int .i64 o.now] 40 (0, 0)) := by rw [hW0]; exact heap_new eob
  have HTR := Lib.hid (h1.fr f0)
  have HWS := Lib.hid (h2.fr0 f0)
  have HZS := Lib.hid (h3.fr0 f0)
  have HS := Lib.hid hS
  have HF := Lib.hid f0
  clear h1 h2 h3 hS f0
  obtain ⟨r, er, e4⟩ : ∃ r : Nat, o.kind % 4 = r ∧ ((o.kind : Nat) : Int).tmod 4 = (r : Int) := ⟨_, rfl, by rw [Int.tmod_eq_emod_of_nonneg (by omega)]; omega⟩
  have hr4 : r < 4 := by omega
  have hk := HS.out.k
  clear er
  have x0 := row_cell hob 0
  have x1 := row_cell hob 1
  have x2 := row_cell hob 2
  have x3 := row_cell hob 3
  have x4 := row_cell hob 4
  have x5 := row_cell hob 5
  have x6 := row_cell hob 6
  have x7 := row_cell hob 7
  have x8 := row_cell hob 8
  have x9 := row_cell hob 9
  have x10 := row_cell hob 10
  have x11 := row_cell hob 11
  simp at x0 x1 x2 x3 x4 x5 x6 x7 x8 x9 x10 x11
  rw [hW0, eob] at x0 x1 x2 x3 x4 x5 x6 x7 x8 x9 x10 x11
  go_enter Tryz.func14, Tryz.ntmps14
  by_cases h0 : r = 0
  case pos =>
    have t1 : ((r : Int) == 0) = true := by rw [h0]; rfl
    clear h0
    go_wp2_with fail
    rw [← hW0, ← eob]
    clear hW0 eob x0 x1 x2 x3 x4 x5 x6 x7 x8 x9 x10 x11
    refine (gscanX_nil _ _ _ _ _ o.now W0).mono ?_
    rintro e w1 ⟨rfl, hb⟩
    have HX := Lib.hid (HF.out.below hb HF.out.size)
    clear hb
    go_wp2_with fail
    go_ret2
    exact ⟨rfl, HX.out.toBelow (by simp)⟩
  have t1 : ((r : Int) == 0) = false := by rw [beq_eq_false_iff_ne]; omega
  by_cases h1 : r = 1
  case pos =>
    have t2 : ((r : Int) == 1) = true := by rw [h1]; rfl
    clear h0 h1
    go_wp2_with fail
    rw [← hW0, ← eob]
    clear hW0 eob x0 x1 x2 x3 x4 x5 x6 x7 x8 x9 x10 x11
    refine (gleave_nil o.serial o.now W0).mono ?_
    rintro e w1 ⟨rfl, hb⟩
    have HX := Lib.hid (HF.out.below hb HF.out.size)
    clear hb
    go_wp2_with fail
    go_ret2
    exact ⟨rfl, HX.out.toBelow (by simp)⟩
  have t2 : ((r : Int) == 1) = false := by rw [beq_eq_false_iff_ne]; omega
  clear h0 h1
  go_wp2_with fail
  rw [← hW0, ← eob]
  rw [← hW0, ← eob] at x0 x1 x2 x3 x4 x5 x6 x7 x8 x9 x10 x11
  clear hW0 eob hob
  have gr0 : Fr [] W0 W0.drew := (Fr.refl [] W0).drew
  have hSr0 : W0.drew.cell? ⟨ob, 0, none⟩ = some (.int .u8 (o.kind : Int)) ∧ W0.drew.cell? ⟨ob, 1, none⟩ = some (.int .i64 o.t.serial) ∧ W0.drew.cell? ⟨ob, 2, none⟩ = some (.int .i64 o.t.shw) ∧ W0.drew.cell? ⟨ob, 3, none⟩ = some (.int .i64 o.t.place) ∧ W0.drew.cell? ⟨ob, 4, none⟩ = some (.string ⟨o.t.first.toArray⟩) ∧ W0.drew.cell? ⟨ob, 5, none⟩ = some (.slice ta o.t.chain.length tc) ∧ W0.drew.cell? ⟨ob, 6, none⟩ = some (.int .i64 o.serial) ∧ W0.drew.cell? ⟨ob, 7, none⟩ = some (.int .i64 o.f.bits) ∧ W0.drew.cell? ⟨ob, 8, none⟩ = some (.int .i64 o.f.hashes) ∧ W0.drew.cell? ⟨ob, 9, none⟩ = some (.slice wa o.f.words.length wc) ∧ W0.drew.cell? ⟨ob, 10, none⟩ = some (.slice sa o.serials.length sc) ∧ W0.drew.cell? ⟨ob, 11, none⟩ = some (.int .i64 o.now) := ⟨gr0.cell x0 (by simp), gr0.cell x1 (by simp), gr0.cell x2 (by simp), gr0.cell x3 (by simp), gr0.cell x4 (by simp), gr0.cell x5 (by simp), gr0.cell x6 (by simp), gr0.cell x7 (by simp), gr0.cell x8 (by simp), gr0.cell x9 (by simp), gr0.cell x10 (by simp), gr0.cell x11 (by simp)⟩
  refine region_held 100 (fun W' => W'.cell? ⟨ob, 0, none⟩ = some (.int .u8 (o.kind : Int)) ∧ W'.cell? ⟨ob, 1, none⟩ = some (.int .i64 o.t.serial) ∧ W'.cell? ⟨ob, 2, none⟩ = some (.int .i64 o.t.shw) ∧ W'.cell? ⟨ob, 3, none⟩ = some (.int .i64 o.t.place) ∧ W'.cell? ⟨ob, 4, none⟩ = some (.string ⟨o.t.first.toArray⟩) ∧ W'.cell? ⟨ob, 5, none⟩ = some (.slice ta o.t.chain.length tc) ∧ W'.cell? ⟨ob, 6, none⟩ = some (.int .i64 o.serial) ∧ W'.cell? ⟨ob, 7, none⟩ = some (.int .i64 o.f.bits) ∧ W'.cell? ⟨ob, 8, none⟩ = some (.int .i64 o.f.hashes) ∧ W'.cell? ⟨ob, 9, none⟩ = some (.slice wa o.f.words.length wc) ∧ W'.cell? ⟨ob, 10, none⟩ = some (.slice sa o.serials.length sc) ∧ W'.cell? ⟨ob, 11, none⟩ = some (.int .i64 o.now)) hmx ?_
  change Held _ _ _ _ _ _ 8 (Array.replicate 8 false) _ _
  refine hd_take 0 (v := .pointer none) rfl (by kernel_rfl) (by kernel_rfl) (by kernel_rfl) rfl hSr0 (fun W' hS => by go_simp) rfl ?_
  refine hd_take 1 (v := .agg #[.int .u8 (o.kind : Int), .int .i64 o.t.serial, .int .i64 o.t.shw, .int .i64 o.t.place, .string ⟨o.t.first.toArray⟩, .slice ta o.t.chain.length tc, .int .i64 o.serial, .int .i64 o.f.bits, .int .i64 o.f.hashes, .slice wa o.f.words.length wc, .slice sa o.serials.length sc, .int .i64 o.now]) rfl (by kernel_rfl) (by kernel_rfl) (by kernel_rfl) rfl hSr0 (fun W' hS => by obtain ⟨s0, s1, s2, s3, s4, s5, s6, s7, s8, s9, s10, s11⟩ := hS; go_simp) rfl ?_
  refine hd_take 3 (v := .pointer (some ⟨ob, 11, none⟩)) rfl (by kernel_rfl) (by kernel_rfl) (by kernel_rfl) rfl hSr0 (fun W' hS => by go_simp) rfl ?_
  try simp only [Act.put, List.setIfInBounds_toArray, List.set_cons_zero, List.set_cons_succ]
  refine hd_take 4 (v := .int .i64 o.now) rfl (by kernel_rfl) (by kernel_rfl) (by kernel_rfl) rfl hSr0 (fun W' hS => by obtain ⟨s0, s1, s2, s3, s4, s5, s6, s7, s8, s9, s10, s11⟩ := hS; go_simp) rfl ?_
  try simp only [Act.put, List.setIfInBounds_toArray, List.set_cons_zero, List.set_cons_succ]
  refine hd_one 2 (by kernel_rfl) rfl (by kernel_rfl) rfl (fun K' hK => ?_)
  go_simp
  refine (given_any _ o W0.drew ⟨ta, wa, sa, tc, wc, sc, rfl, HTR.out.fr gr0, HWS.out.fr0 gr0, HZS.out.fr0 gr0⟩ HS.out).mono ?_
  rintro e yr1 ⟨fv, rfl, ⟨wv, rfl, _⟩, hbb⟩
  have gr1 : Fr [] W0 yr1 := gr0.below hbb gr0.size
  clear hbb
  have hSr1 : yr1.cell? ⟨ob, 0, none⟩ = some (.int .u8 (o.kind : Int)) ∧ yr1.cell? ⟨ob, 1, none⟩ = some (.int .i64 o.t.serial) ∧ yr1.cell? ⟨ob, 2, none⟩ = some (.int .i64 o.t.shw) ∧ yr1.cell? ⟨ob, 3, none⟩ = some (.int .i64 o.t.place) ∧ yr1.cell? ⟨ob, 4, none⟩ = some (.string ⟨o.t.first.toArray⟩) ∧ yr1.cell? ⟨ob, 5, none⟩ = some (.slice ta o.t.chain.length tc) ∧ yr1.cell? ⟨ob, 6, none⟩ = some (.int .i64 o.serial) ∧ yr1.cell? ⟨ob, 7, none⟩ = some (.int .i64 o.f.bits) ∧ yr1.cell? ⟨ob, 8, none⟩ = some (.int .i64 o.f.hashes) ∧ yr1.cell? ⟨ob, 9, none⟩ = some (.slice wa o.f.words.length wc) ∧ yr1.cell? ⟨ob, 10, none⟩ = some (.slice sa o.serials.length sc) ∧ yr1.cell? ⟨ob, 11, none⟩ = some (.int .i64 o.now) := ⟨gr1.cell x0 (by simp), gr1.cell x1 (by simp), gr1.cell x2 (by simp), gr1.cell x3 (by simp), gr1.cell x4 (by simp), gr1.cell x5 (by simp), gr1.cell x6 (by simp), gr1.cell x7 (by simp), gr1.cell x8 (by simp), gr1.cell x9 (by simp), gr1.cell x10 (by simp), gr1.cell x11 (by simp)⟩
  refine hK.out _ _ (fun _ => hSr1) ?_
  clear hK K'
  try simp only [Act.put, List.setIfInBounds_toArray, List.set_cons_zero, List.set_cons_succ]
  refine hd_one 5 (by kernel_rfl) rfl (by kernel_rfl) rfl (fun K' hK => ?_)
  go_simp
  refine (gsyncX_nil _ _ _ o.now yr1).mono ?_
  rintro e yr2 ⟨rfl, hbb⟩
  have gr2 : Fr [] W0 yr2 := gr1.below hbb gr1.size
  clear hbb
  have hSr2 : yr2.cell? ⟨ob, 0, none⟩ = some (.int .u8 (o.kind : Int)) ∧ yr2.cell? ⟨ob, 1, none⟩ = some (.int .i64 o.t.serial) ∧ yr2.cell? ⟨ob, 2, none⟩ = some (.int .i64 o.t.shw) ∧ yr2.cell? ⟨ob, 3, none⟩ = some (.int .i64 o.t.place) ∧ yr2.cell? ⟨ob, 4, none⟩ = some (.string ⟨o.t.first.toArray⟩) ∧ yr2.cell? ⟨ob, 5, none⟩ = some (.slice ta o.t.chain.length tc) ∧ yr2.cell? ⟨ob, 6, none⟩ = some (.int .i64 o.serial) ∧ yr2.cell? ⟨ob, 7, none⟩ = some (.int .i64 o.f.bits) ∧ yr2.cell? ⟨ob, 8, none⟩ = some (.int .i64 o.f.hashes) ∧ yr2.cell? ⟨ob, 9, none⟩ = some (.slice wa o.f.words.length wc) ∧ yr2.cell? ⟨ob, 10, none⟩ = some (.slice sa o.serials.length sc) ∧ yr2.cell? ⟨ob, 11, none⟩ = some (.int .i64 o.now) := ⟨gr2.cell x0 (by simp), gr2.cell x1 (by simp), gr2.cell x2 (by simp), gr2.cell x3 (by simp), gr2.cell x4 (by simp), gr2.cell x5 (by simp), gr2.cell x6 (by simp), gr2.cell x7 (by simp), gr2.cell x8 (by simp), gr2.cell x9 (by simp), gr2.cell x10 (by simp), gr2.cell x11 (by simp)⟩
  refine hK.out _ _ (fun _ => hSr2) ?_
  clear hK K'
  try simp only [Act.put, List.setIfInBounds_toArray, List.set_cons_zero, List.set_cons_succ]
  refine hd_take 6 (v := .int .i64 0) rfl (by kernel_rfl) (by kernel_rfl) (by kernel_rfl) rfl hSr2 (fun W' hS => by go_simp) rfl ?_
  refine hd_take 7 (v := .int .i64 1) rfl (by kernel_rfl) (by kernel_rfl) (by kernel_rfl) rfl hSr2 (fun W' hS => by go_simp) rfl ?_
  try simp only [Act.put, List.setIfInBounds_toArray, List.set_cons_zero, List.set_cons_succ]
  refine held_done (by kernel_rfl) ?_
  have HX := Lib.hid (HF.out.trans gr2 (by simp))
  clear gr0 gr1 gr2 hSr0 hSr1 hSr2 x0 x1 x2 x3 x4 x5 x6 x7 x8 x9 x10 x11
  go_wp2_with fail
  go_ret2
  exact ⟨rfl, HX.out.toBelow (by simp)⟩

theorem WsX.same2 {X : List Nat} {w0 w : World} {v : Value} {l l' : List Nat} (h0 : Ws w0 v l) (h : Ws w v l') (hf : w0.heap.size ≤ w.heap.size) (hx : ∀ k ∈ X, w0.heap.size ≤ k) : WsX X w v l' := by
  rcases h with hE | hr
  · exact ⟨Or.inl hE, Or.inl hE⟩
  · refine ⟨Or.inr hr, ?_⟩
    rcases h0 with ⟨rfl, a, hv⟩ | ⟨b, off, cap, hv, h1, h2, h3, h4⟩
    · obtain ⟨b, off, cap, hv2, _⟩ := hr
      rw [hv] at hv2
      injection hv2 with e1 e2 e3
      exact Or.inl ⟨List.length_eq_zero_iff.1 e2.symm, a, hv⟩
    · refine Or.inr fun k hk => ?_
      rw [hv] at hk
      obtain rfl : b = k := by simpa [Value.ownBlock] using hk
      exact ⟨Nat.lt_of_lt_of_le h3 hf, fun hm => by have := hx _ hm; omega⟩
/-- A gate and a gate of the reference, with no block in common. -/
structure Duo3 (B1 B2 : Nat) (w : World) (gp hp : Nat) (g h : Gst) (F1 F2 : List Nat) : Prop where
  a : GateR B1 w gp g F1
  b : RgR B2 F1 w hp h F2
  d : ∀ k ∈ F1, k ∉ F2
theorem Duo3.fr {B1 B2 : Nat} {w w' : World} {gp hp : Nat} {g h : Gst} {F1 F2 : List Nat} (d : Duo3 B1 B2 w gp hp g h F1 F2) (hf : Fr [] w w') : Duo3 B1 B2 w' gp hp g h F1 F2 :=
  ⟨d.a.fr hf (by simp), d.b.fr0 hf, d.d⟩
theorem Duo3.left {B1 B2 : Nat} {w w' : World} {gp hp : Nat} {g g' h : Gst} {F1 F2 : List Nat} (d : Duo3 B1 B2 w gp hp g h F1 F2) (q : GateQ B1 w gp g' F1 w') : ∃ F1', Duo3 B1 B2 w' gp hp g' h F1' F2 := by
  obtain ⟨F', q1, q2, q3⟩ := q
  refine ⟨F', q1, d.b.fr q2 d.d (fun k hk => hk) q3, fun k hk h2 => ?_⟩
  rcases q3 k hk with h3 | h3
  · exact d.d k h3 h2
  · have := (d.b.blocks k h2).2
    omega
theorem Duo3.right {B1 B2 : Nat} {w w' : World} {gp hp : Nat} {g h h' : Gst} {F1 F2 : List Nat} (d : Duo3 B1 B2 w gp hp g h F1 F2) (q : RgQ B2 F1 w hp h' F2 w') : ∃ F2', Duo3 B1 B2 w' gp hp g h' F1 F2' := by
  obtain ⟨F', q1, q2, q3⟩ := q
  refine ⟨F', d.a.fr q2 (fun k hk h2 => d.d k h2 hk), q1, fun k hk h2 => ?_⟩
  rcases q3 k h2 with h3 | h3
  · exact d.d k hk h3
  · have := (d.a.blocks k hk).2
    omega
/-- Both gates, or nil twice; the blocks Y lie in neither. -/
def PairR (w0 w : World) (gv hv : Value) (og oh : Option Gst) (Y : List Nat) : Prop := Fr [] w0 w ∧ (∀ k ∈ Y, k < w.heap.size) ∧
  ((og = none ∧ oh = none ∧ gv = .pointer none ∧ hv = .pointer none) ∨
   ∃ (B1 B2 gp hp : Nat) (g h : Gst) (F1 F2 : List Nat), og = some g ∧ oh = some h ∧ gv = gateP gp ∧ hv = rgP hp ∧ w0.heap.size ≤ B1 ∧ w0.heap.size ≤ B2 ∧ Duo3 B1 B2 w gp hp g h F1 F2 ∧ ∀ k ∈ Y, k ∉ F1 ∧ k ∉ F2)
theorem PairR.fr {w0 w w' : World} {gv hv : Value} {og oh : Option Gst} {Y : List Nat} (p : PairR w0 w gv hv og oh Y) (hf : Fr [] w w') : PairR w0 w' gv hv og oh Y := by
  obtain ⟨h1, hy, h2 | ⟨B1, B2, gp, hp, g, h, F1, F2, e1, e2, e3, e4, l1, l2, d, hd⟩⟩ := p
  · exact ⟨h1.trans hf (by simp), fun k hk => Nat.lt_of_lt_of_le (hy k hk) hf.size, Or.inl h2⟩
  · exact ⟨h1.trans hf (by simp), fun k hk => Nat.lt_of_lt_of_le (hy k hk) hf.size, Or.inr ⟨B1, B2, gp, hp, g, h, F1, F2, e1, e2, e3, e4, l1, l2, d.fr hf, hd⟩⟩
theorem PairR.drop {w0 w : World} {gv hv : Value} {og oh : Option Gst} {Y : List Nat} (p : PairR w0 w gv hv og oh Y) : PairR w0 w gv hv og oh [] := by
  obtain ⟨h1, hy, h2 | ⟨B1, B2, gp, hp, g, h, F1, F2, e1, e2, e3, e4, l1, l2, d, hd⟩⟩ := p
  · exact ⟨h1, by simp, Or.inl h2⟩
  · exact ⟨h1, by simp, Or.inr ⟨B1, B2, gp, hp, g, h, F1, F2, e1, e2, e3, e4, l1, l2, d, by simp⟩⟩
theorem PairR.add {w0 w : World} {gv hv : Value} {og oh : Option Gst} {Y : List Nat} (p : PairR w0 w gv hv og oh Y) (x : Obj) : PairR w0 (w.alloc x) gv hv og oh [w.heap.size] := by
  have q := p.fr ((Fr.refl [] w).alloc x)
  have hz : ∀ k ∈ [w.heap.size], k < (w.alloc x).heap.size := fun k hk => by rw [List.mem_singleton.1 hk]; simp
  obtain ⟨h1, hy, h2 | ⟨B1, B2, gp, hp, g, h, F1, F2, e1, e2, e3, e4, l1, l2, d, hd⟩⟩ := p
  · exact ⟨q.1, hz, Or.inl h2⟩
  · refine ⟨q.1, hz, Or.inr ⟨B1, B2, gp, hp, g, h, F1, F2, e1, e2, e3, e4, l1, l2, d.fr ((Fr.refl [] w).alloc x), fun k hk => ?_⟩⟩
    rw [List.mem_singleton.1 hk]
    exact ⟨fun hm => by have := (d.a.blocks _ hm).2; omega, fun hm => by have := (d.b.blocks _ hm).2; omega⟩
def Kept (Y : List Nat) (w w' : World) : Prop := ∀ k ∈ Y, ∀ x t, w.heap[k]? = some (.cells x t (0, 0)) → w'.heap[k]? = some (.cells x t (0, 0))
def doO (og : Option Gst) (o : GOp) : Option Gst × Int × Int := match og with
  | none => (none, 0, 1)
  | some g => (some (doG g o).1, (doG g o).2.1, (doG g o).2.2)
def logO (og : Option Gst) : List Scn := match og with
  | none => []
  | some g => g.log
theorem PairR.left {w0 w w' : World} {gv hv : Value} {oh : Option Gst} {Y : List Nat} {B1 B2 gp hp : Nat} {g g' h : Gst} {F1 F2 : List Nat} (h1 : Fr [] w0 w) (hy : ∀ k ∈ Y, k < w.heap.size) (e2 : oh = some h) (e3 : gv = gateP gp) (e4 : hv = rgP hp) (l1 : w0.heap.size ≤ B1) (l2 : w0.heap.size ≤ B2)
    (d : Duo3 B1 B2 w gp hp g h F1 F2) (hd : ∀ k ∈ Y, k ∉ F1 ∧ k ∉ F2) (q : GateQ B1 w gp g' F1 w') : PairR w0 w' gv hv (some g') oh Y ∧ Kept Y w w' := by
  have hb := d.a.blocks
  obtain ⟨F', q1, q2, q3⟩ := q
  refine ⟨⟨h1.trans q2 (fun y hy => Or.inr (Nat.le_trans l1 (hb y hy).1)), fun k hk => Nat.lt_of_lt_of_le (hy k hk) q2.size, Or.inr ⟨B1, B2, gp, hp, g', h, F', F2, rfl, e2, e3, e4, l1, l2, ⟨q1, d.b.fr q2 d.d (fun k hk => hk) q3, fun k hk h2 => ?_⟩, fun k hk => ⟨fun hm => ?_, (hd k hk).2⟩⟩⟩, fun k hk x t hx => q2.at hx (hd k hk).1⟩
  · rcases q3 k hk with h3 | h3
    · exact d.d k h3 h2
    · have := (d.b.blocks k h2).2
      omega
  · rcases q3 k hm with h3 | h3
    · exact (hd k hk).1 h3
    · have := hy k hk
      omega
theorem PairR.right {w0 w w' : World} {gv hv : Value} {og : Option Gst} {Y : List Nat} {B1 B2 gp hp : Nat} {g h h' : Gst} {F1 F2 : List Nat} (h1 : Fr [] w0 w) (hy : ∀ k ∈ Y, k < w.heap.size) (e1 : og = some g) (e3 : gv = gateP gp) (e4 : hv = rgP hp) (l1 : w0.heap.size ≤ B1) (l2 : w0.heap.size ≤ B2)
    (d : Duo3 B1 B2 w gp hp g h F1 F2) (hd : ∀ k ∈ Y, k ∉ F1 ∧ k ∉ F2) (q : RgQ B2 F1 w hp h' F2 w') : PairR w0 w' gv hv og (some h') Y ∧ Kept Y w w' := by
  have hb := d.b.blocks
  obtain ⟨F', q1, q2, q3⟩ := q
  refine ⟨⟨h1.trans q2 (fun y hy => Or.inr (Nat.le_trans l2 (hb y hy).1)), fun k hk => Nat.lt_of_lt_of_le (hy k hk) q2.size, Or.inr ⟨B1, B2, gp, hp, g, h', F1, F', e1, rfl, e3, e4, l1, l2, ⟨d.a.fr q2 (fun k hk h2 => d.d k h2 hk), q1, fun k hk h2 => ?_⟩, fun k hk => ⟨(hd k hk).1, fun hm => ?_⟩⟩⟩, fun k hk x t hx => q2.at hx (hd k hk).2⟩
  · rcases q3 k h2 with h3 | h3
    · exact d.d k hk h3
    · have := (d.a.blocks k hk).2
      omega
  · rcases q3 k hm with h3 | h3
    · exact (hd k hk).2 h3
    · have := hy k hk
      omega
theorem PairR.keep {w0 w w' : World} {gv hv : Value} {og oh : Option Gst} {Y : List Nat} (p : PairR w0 w gv hv og oh Y) (hf : Fr [] w w') : PairR w0 w' gv hv og oh Y ∧ Kept Y w w' := ⟨p.fr hf, fun _ _ _ _ hx => hf.at hx (by simp)⟩
theorem do_pair (w0 : World) (gv hv : Value) (og oh : Option Gst) (Y : List Nat) (v : Value) (o : GOp) (w : World) (h : PairR w0 w gv hv og oh Y) (ho : OpR w v o) (hS : OpS o) (hT : TabsF w0) :
    Calls Tryz.prog 14 #[gv, v] w fun e w' => e = .returned (.tuple #[.int .i64 (doO og o).2.1, .int .i64 (doO og o).2.2]) ∧ PairR w0 w' gv hv (doO og o).1 oh Y ∧ Kept Y w w' := by
  have h' := h
  obtain ⟨h1, hy, ⟨rfl, rfl, rfl, rfl⟩ | ⟨B1, B2, gp, hp, g, h, F1, F2, rfl, rfl, rfl, rfl, l1, l2, d, hd⟩⟩ := h
  · refine (do_nil v o w ho hS.toOpN).mono ?_
    rintro e w' ⟨rfl, hb⟩
    exact ⟨rfl, h'.keep (Fr.ofBelow hb)⟩
  · refine (do_any B1 gp g F1 v o w d.a ho hS (hT.fr h1)).mono ?_
    rintro e w' ⟨rfl, hq⟩
    exact ⟨rfl, PairR.left h1 hy rfl rfl rfl l1 l2 d hd hq⟩
theorem log_pair (w0 : World) (gv hv : Value) (og oh : Option Gst) (Y : List Nat) (w : World) (h : PairR w0 w gv hv og oh Y) :
    Calls Tryz.prog 20 #[gv] w fun e w' => ∃ v, e = .returned v ∧ Scs w' v (logO og) ∧ PairR w0 w' gv hv og oh Y ∧ Fr [] w w' := by
  have h' := h
  obtain ⟨h1, hy, ⟨rfl, rfl, rfl, rfl⟩ | ⟨B1, B2, gp, hp, g, h, F1, F2, rfl, rfl, rfl, rfl, l1, l2, d, hd⟩⟩ := h
  · refine (log_nil w).mono ?_
    rintro e w' ⟨rfl, rfl⟩
    exact ⟨_, rfl, Or.inl ⟨rfl, none, rfl⟩, h', Fr.refl _ _⟩
  · refine (log_any B1 gp g F1 w d.a).mono ?_
    rintro e w' ⟨v, rfl, ho, hb⟩
    exact ⟨_, rfl, ho.scs, h'.fr (Fr.ofBelow hb), Fr.ofBelow hb⟩
theorem rlog_pair (w0 : World) (gv hv : Value) (og oh : Option Gst) (Y : List Nat) (w : World) (h : PairR w0 w gv hv og oh Y) :
    Calls Tryz.prog 21 #[hv] w fun e w' => ∃ v, e = .returned v ∧ Scs w' v (logO oh) ∧ PairR w0 w' gv hv og oh Y ∧ Fr [] w w' := by
  have h' := h
  obtain ⟨h1, hy, ⟨rfl, rfl, rfl, rfl⟩ | ⟨B1, B2, gp, hp, g, h, F1, F2, rfl, rfl, rfl, rfl, l1, l2, d, hd⟩⟩ := h
  · refine (rlog37_nil w).mono ?_
    rintro e w' ⟨rfl, rfl⟩
    exact ⟨_, rfl, Or.inl ⟨rfl, none, rfl⟩, h', Fr.refl _ _⟩
  · refine (rlog37_any B2 F1 hp h F2 w d.b).mono ?_
    rintro e w' ⟨v, rfl, ho, hb⟩
    exact ⟨_, rfl, ho.scs, h'.fr (Fr.ofBelow hb), Fr.ofBelow hb⟩
theorem rscan_pair (w0 : World) (gv hv : Value) (og oh : Option Gst) (Y : List Nat) (o : GOp) (cv : Value) (w : World) (h : PairR w0 w gv hv og oh Y) (ht : Trs w cv o.t.chain) (hS : OpS o) (hk : o.kind % 4 = 0) :
    Calls Tryz.prog 15 #[hv, .agg #[.int .i64 o.t.serial, .int .i64 o.t.shw, .int .i64 o.t.place, .string ⟨o.t.first.toArray⟩, cv], .int .i64 o.now] w fun e w' => e = .returned (.tuple #[.int .i64 (doO oh o).2.1, .int .i64 (doO oh o).2.2]) ∧ PairR w0 w' gv hv og (doO oh o).1 Y ∧ Kept Y w w' := by
  have h' := h
  obtain ⟨h1, hy, ⟨rfl, rfl, rfl, rfl⟩ | ⟨B1, B2, gp, hp, g, h, F1, F2, rfl, rfl, rfl, rfl, l1, l2, d, hd⟩⟩ := h
  · refine (rscan37_nil _ _ _ _ cv o.now w).mono ?_
    rintro e w' ⟨rfl, hb⟩
    exact ⟨rfl, h'.keep (Fr.ofBelow hb)⟩
  · have he : doG h o = scanG h o.t o.now := by unfold doG; rw [if_pos hk]
    refine (rscan37_any B2 F1 hp h F2 _ o.t o.now w d.b ⟨_, rfl, ht⟩ hS.st).mono ?_
    rintro e w' ⟨rfl, hq⟩
    rw [show doO (some h) o = (some (doG h o).1, (doG h o).2.1, (doG h o).2.2) from rfl, he]
    exact ⟨rfl, PairR.right h1 hy rfl rfl rfl l1 l2 d hd hq⟩
theorem rleave_pair (w0 : World) (gv hv : Value) (og oh : Option Gst) (Y : List Nat) (o : GOp) (w : World) (h : PairR w0 w gv hv og oh Y) (hk : o.kind % 4 = 1) :
    Calls Tryz.prog 16 #[hv, .int .i64 o.serial, .int .i64 o.now] w fun e w' => e = .returned (.int .i64 (doO oh o).2.2) ∧ (doO oh o).2.1 = 0 ∧ PairR w0 w' gv hv og (doO oh o).1 Y ∧ Kept Y w w' := by
  have h' := h
  obtain ⟨h1, hy, ⟨rfl, rfl, rfl, rfl⟩ | ⟨B1, B2, gp, hp, g, h, F1, F2, rfl, rfl, rfl, rfl, l1, l2, d, hd⟩⟩ := h
  · refine (rleave37_nil _ o.now w).mono ?_
    rintro e w' ⟨rfl, hb⟩
    exact ⟨rfl, rfl, h'.keep (Fr.ofBelow hb)⟩
  · have he : doG h o = ((leaveG h o.serial o.now).1, 0, (leaveG h o.serial o.now).2) := by unfold doG; rw [if_neg (by omega), if_pos hk]
    refine (rleave37_any B2 F1 hp h F2 o.serial o.now w d.b).mono ?_
    rintro e w' ⟨rfl, hq⟩
    rw [show doO (some h) o = (some (doG h o).1, (doG h o).2.1, (doG h o).2.2) from rfl, he]
    exact ⟨rfl, rfl, PairR.right h1 hy rfl rfl rfl l1 l2 d hd hq⟩
theorem rsync_pair (w0 wg : World) (gv hv : Value) (og oh : Option Gst) (Y : List Nat) (o : GOp) (wv : Value) (w : World) (h0 : PairR w0 wg gv hv og oh Y) (hf : Fr [] wg w) (hS : OpS o) (hk : 2 ≤ o.kind % 4)
    (hw : Ws w wv (givenG o).words) (hd : (∃ l0, Ws w0 wv l0) ∨ ∀ k, wv.ownBlock = some k → wg.heap.size ≤ k) :
    Calls Tryz.prog 17 #[hv, .agg #[.int .i64 (givenG o).bits, .int .i64 (givenG o).hashes, wv], .int .i64 o.now] w fun e w' => e = .returned (.int .i64 (doO oh o).2.2) ∧ (doO oh o).2.1 = 0 ∧ PairR w0 w' gv hv og (doO oh o).1 Y ∧ Kept Y w w' := by
  have h' := h0.fr hf
  obtain ⟨h1, hy, ⟨rfl, rfl, rfl, rfl⟩ | ⟨B1, B2, gp, hp, g, h, F1, F2, rfl, rfl, rfl, rfl, l1, l2, d, hdd⟩⟩ := h0
  · refine (rsync37_nil _ _ wv o.now w).mono ?_
    rintro e w' ⟨rfl, hb⟩
    exact ⟨rfl, rfl, h'.keep (Fr.ofBelow hb)⟩
  · have he : doG h o = ((syncG h (givenG o) o.now).1, 0, (syncG h (givenG o) o.now).2) := by unfold doG; rw [if_neg (by omega), if_neg (by omega)]
    have hx : WsX (F2 ++ F1) w wv (givenG o).words := by
      rcases hd with ⟨l0, hl⟩ | hd
      · refine WsX.same2 hl hw h'.1.size (fun k hk => ?_)
        rw [List.mem_append] at hk
        rcases hk with hk | hk
        · exact Nat.le_trans l2 (d.b.blocks k hk).1
        · exact Nat.le_trans l1 (d.a.blocks k hk).1
      · refine hw.newX hd (fun k hk => ?_)
        rw [List.mem_append] at hk
        rcases hk with hk | hk
        · exact (d.b.blocks k hk).2
        · exact (d.a.blocks k hk).2
    refine (rsync37_any B2 F1 hp h F2 wv (givenG o) o.now w (d.b.fr0 hf) hx (given_W64 hS.f)).mono ?_
    rintro e w' ⟨rfl, hq⟩
    rw [show doO (some h) o = (some (doG h o).1, (doG h o).2.1, (doG h o).2.2) from rfl, he]
    exact ⟨rfl, rfl, PairR.right h'.1 h'.2.1 rfl rfl rfl l1 l2 (d.fr hf) hdd hq⟩

set_option maxRecDepth 100000 in
set_option maxHeartbeats 16000000 in
theorem gateMatchesReference_any (n0 n1 n2 : Int) (v : Value) (l : List GOp) (w : World) (_ : -9223372036854775808 ≤ n0 ∧ n0 ≤ 9223372036854775807) (_ : -9223372036854775808 ≤ n1 ∧ n1 ≤ 9223372036854775807) (_ : -9223372036854775808 ≤ n2 ∧ n2 ≤ 9223372036854775807) (hT : TabsF w) (hv : Ops w v l) (hN : ∀ o ∈ l, OpN o) :
    Calls Tryz.prog 3 #[.int .i64 n0, .int .i64 n1, .int .i64 n2, v] w fun e w' => e = .returned (.bool true) ∧ Below w.heap.size w w' := by
  have hmx : Tryz.prog.follows .mixedOrders = true := by kernel_rfl
  obtain ⟨a, cap, rfl, hl, hc9, ha⟩ := hv.form
  have HV := Lib.hid hv
  have HT := Lib.hid hT
  have HN := Lib.hid hN
  clear hv hT hN
  go_enter Tryz.func3, Tryz.ntmps3
  go_wp2_with fail
  refine (head37_any w HT.out).mono ?_
  rintro e w1 ⟨rfl, hb⟩
  have f1 : Fr [] w w1 := Fr.ofBelow hb
  clear hb
  go_wp2_with fail
  refine (fewG_any (.slice a l.length cap) l w1 (HV.out.fr f1)).mono ?_
  rintro e w4 ⟨rfl, hb⟩
  have hfb : Fr [] w1 w4 := Fr.ofBelow hb
  have f4 := f1.trans hfb (by simp)
  have HF4 := Lib.hid f4
  clear hb hfb f1
  obtain ⟨x, hx⟩ : ∃ x, x = fewG l := ⟨_, rfl⟩
  rw [← hx]
  cases x with
  | false =>
    clear hx f4
    go_wp2_with fail
    go_ret
    exact ⟨rfl, HF4.out.toBelow (by simp)⟩
  | true =>
    have HFE := Lib.hid (fewG_ok hx.symm HN.out)
    clear hx f4
    go_wp2_with fail
    refine (gnew_any n0 n1 n2 w4).mono ?_
    rintro e w5 ⟨hy, hn, hb⟩
    have f45 : Fr [] w4 w5 := Fr.ofBelow hb
    obtain ⟨gv, er, rfl, h5⟩ : ∃ gv er, e = .returned (.tuple #[gv, .int .i64 er]) ∧ ((goodG n0 n1 n2 = true ∧ gv = gateP (w4.heap.size + 1) ∧ er = 0 ∧ GateR w4.heap.size w5 (w4.heap.size + 1) (newG n0 n1 n2) [w4.heap.size + 1, w4.heap.size]) ∨ (goodG n0 n1 n2 = false ∧ gv = .pointer none ∧ er = 1)) := by
      cases hg : goodG n0 n1 n2 with
      | true => obtain ⟨h1, h2⟩ := hy hg; exact ⟨_, _, h1, Or.inl ⟨rfl, rfl, rfl, h2⟩⟩
      | false => exact ⟨_, _, hn hg, Or.inr ⟨rfl, rfl, rfl⟩⟩
    have H5 := Lib.hid h5
    have HF5 := Lib.hid (HF4.out.trans f45 (by simp))
    have H45 := Lib.hid f45
    clear hy hn hb h5 f45
    go_wp2_with fail
    refine (rnew37_any [w4.heap.size + 1, w4.heap.size] n0 n1 n2 w5).mono ?_
    rintro e w6 ⟨hy, hn, hb⟩
    have f56 : Fr [] w5 w6 := Fr.ofBelow hb
    obtain ⟨hv, rfl, os, nb, hpair, hgn, hhn, hge, hhe⟩ : ∃ hv, e = .returned (.tuple #[hv, .int .i64 er]) ∧ ∃ os nb, PairR w w6 gv hv os os [] ∧ (∀ w, (binOp .eql 25 gv (.pointer none)).run Tryz.prog w = .ok (.bool nb) w) ∧ (∀ w, (binOp .eql 29 hv (.pointer none)).run Tryz.prog w = .ok (.bool nb) w) ∧ (∀ w, (eqGuard .eql 25 (.tmp 43) (.const (.pointer none)) gv (.pointer none)).run Tryz.prog w = .ok () w) ∧ (∀ w, (eqGuard .eql 29 (.tmp 45) (.const (.pointer none)) hv (.pointer none)).run Tryz.prog w = .ok () w) := by
      rcases H5.out with ⟨hg, rfl, rfl, hG⟩ | ⟨hg, rfl, rfl⟩
      · obtain ⟨h1, h2⟩ := hy hg
        refine ⟨_, h1, some (newG n0 n1 n2), false, ⟨HF5.out.trans f56 (by simp), by simp, Or.inr ⟨w4.heap.size, w5.heap.size, _, _, _, _, _, _, rfl, rfl, rfl, rfl, HF4.out.size, HF5.out.size, ⟨hG.fr f56 (by simp), h2, fun k hk hm => ?_⟩, by simp⟩⟩, fun w => by kernel_rfl, fun w => by kernel_rfl, fun w => by kernel_rfl, fun w => by kernel_rfl⟩
        have h3 := (hG.blocks k hk).2
        rw [List.mem_singleton.1 hm] at h3
        omega
      · exact ⟨_, hn hg, none, true, ⟨HF5.out.trans f56 (by simp), by simp, Or.inl ⟨rfl, rfl, rfl, rfl⟩⟩, fun w => by kernel_rfl, fun w => by kernel_rfl, fun w => by kernel_rfl, fun w => by kernel_rfl⟩
    have HP6 := Lib.hid hpair
    clear hy hn hb hpair f56 H5 H45
    have ter : (er != er) = false := by simp
    have tnb : (nb != nb) = false := by simp
    go_wp2_with fail
    clear hgn hhn ter tnb hge hhe
    go_loopg [14] l.length (fun gh i wr => ∃ (k : Nat) (os : Option Gst), k ≤ l.length ∧ gh = l.length - k ∧ i = .int .i64 (k : Int) ∧ PairR w wr gv hv os os [])
    case atStart => exact ⟨0, _, by omega, by omega, rfl, HP6.out⟩
    case round =>
      clear HP6
      obtain ⟨k, os, hk, hgh, rfl, hP⟩ := hrel
      have HG := Lib.hid hgh
      have HP := Lib.hid hP
      clear hgh hP
      by_cases hlt : k < l.length
      · have t3 : decide ((k : Int) < (l.length : Int)) = true := by simp; omega
        obtain ⟨b, off, rfl⟩ := ha k hlt
        obtain ⟨o, ho⟩ : ∃ x, l[k]? = some x := ⟨_, List.getElem?_eq_getElem hlt⟩
        have HOS := Lib.hid (HFE.out.2.1 o (List.mem_of_getElem? ho))
        have i0 : (0 : Int) ≤ (k : Int) := by omega
        have i1 : (k : Int) < (l.length : Int) := by omega
        obtain ⟨ta, wa, sa, tc, wc, sc, ⟨c0, c1, c2, c3, c4, c5, c6, c7, c8, c9, c10, c11⟩, hTR, hWS, hZS⟩ := HV.out.cells k o ho
        have hff := HP.out.1
        have n0' : b ∉ ([] : List Nat) := by simp
        replace c0 := hff.cell c0 n0'
        replace c1 := hff.cell c1 n0'
        replace c2 := hff.cell c2 n0'
        replace c3 := hff.cell c3 n0'
        replace c4 := hff.cell c4 n0'
        replace c5 := hff.cell c5 n0'
        replace c6 := hff.cell c6 n0'
        replace c7 := hff.cell c7 n0'
        replace c8 := hff.cell c8 n0'
        replace c9 := hff.cell c9 n0'
        replace c10 := hff.cell c10 n0'
        replace c11 := hff.cell c11 n0'
        have HTR := Lib.hid hTR
        have HWS := Lib.hid hWS
        have HZS := Lib.hid hZS
        clear ho hff n0' hTR hWS hZS
        obtain ⟨W1, hW1⟩ : ∃ W1, W1 = wr.alloc (.cells #[.int .u8 (o.kind : Int), .int .i64 o.t.serial, .int .i64 o.t.shw, .int .i64 o.t.place, .string ⟨o.t.first.toArray⟩, .slice ta o.t.chain.length tc, .int .i64 o.serial, .int .i64 o.f.bits, .int .i64 o.f.hashes, .slice wa o.f.words.length wc, .slice sa o.serials.length sc, .int .i64 o.now] 40) := ⟨_, rfl⟩
        obtain ⟨ob, eob⟩ : ∃ q, q = wr.heap.size := ⟨_, rfl⟩
        have hob : W1.heap[ob]? = some (.cells #[.int .u8 (o.kind : Int), .int .i64 o.t.serial, .int .i64 o.t.shw, .int .i64 o.t.place, .string ⟨o.t.first.toArray⟩, .slice ta o.t.chain.length tc, .int .i64 o.serial, .int .i64 o.f.bits, .int .i64 o.f.hashes, .slice wa o.f.words.length wc, .slice sa o.serials.length sc, .int .i64 o.now] 40 (0, 0)) := by rw [hW1]; exact heap_new eob
        have HP1 : Hid (PairR w W1 gv hv os os [ob]) := Lib.hid (by rw [hW1, eob]; exact HP.out.add _)
        have HOB := Lib.hid hob
        have HR : Hid (OpR W1 (.agg #[.int .u8 (o.kind : Int), .int .i64 o.t.serial, .int .i64 o.t.shw, .int .i64 o.t.place, .string ⟨o.t.first.toArray⟩, .slice ta o.t.chain.length tc, .int .i64 o.serial, .int .i64 o.f.bits, .int .i64 o.f.hashes, .slice wa o.f.words.length wc, .slice sa o.serials.length sc, .int .i64 o.now]) o) := Lib.hid ⟨ta, wa, sa, tc, wc, sc, rfl, HTR.out.fr HP1.out.1, HWS.out.fr0 HP1.out.1, HZS.out.fr0 HP1.out.1⟩
        have x0 := row_cell HOB.out 0
        have x1 := row_cell HOB.out 1
        have x2 := row_cell HOB.out 2
        have x3 := row_cell HOB.out 3
        have x4 := row_cell HOB.out 4
        have x5 := row_cell HOB.out 5
        have x6 := row_cell HOB.out 6
        have x7 := row_cell HOB.out 7
        have x8 := row_cell HOB.out 8
        have x9 := row_cell HOB.out 9
        have x10 := row_cell HOB.out 10
        have x11 := row_cell HOB.out 11
        simp at x0 x1 x2 x3 x4 x5 x6 x7 x8 x9 x10 x11
        rw [hW1, eob] at x0 x1 x2 x3 x4 x5 x6 x7 x8 x9 x10 x11
        clear hob
        go_wp2_with fail
        rw [← hW1, ← eob]
        clear c0 c1 c2 c3 c4 c5 c6 c7 c8 c9 c10 c11 x0 x1 x2 x3 x4 x5 x6 x7 x8 x9 x10 x11 hW1 eob
        refine (do_pair w gv hv os os [ob] _ o W1 HP1.out HR.out HOS.out HT.out).mono ?_
        rintro e w6 ⟨rfl, hp6, hkt⟩
        have HP6 := Lib.hid hp6
        have HOB6 := Lib.hid (hkt ob (by simp) _ _ HOB.out)
        clear hp6 hkt HP HP1 HOB HR
        obtain ⟨er, eer⟩ : ∃ m, m = (doO os o).2.2 := ⟨_, rfl⟩
        obtain ⟨m, em⟩ : ∃ m, m = (doO os o).2.1 := ⟨_, rfl⟩
        rw [← eer, ← em]
        have HER := Lib.hid eer
        have HM := Lib.hid em
        clear eer em
        obtain ⟨r4, er4, e5⟩ : ∃ r4 : Nat, o.kind % 4 = r4 ∧ ((o.kind : Nat) : Int).tmod 4 = (r4 : Int) := ⟨_, rfl, by rw [Int.tmod_eq_emod_of_nonneg (by omega)]; omega⟩
        have hr44 : r4 < 4 := by omega
        have ER4 := Lib.hid er4
        have hk8 := HOS.out.k
        clear er4
        have x0 := row_cell HOB6.out 0
        have x1 := row_cell HOB6.out 1
        have x2 := row_cell HOB6.out 2
        have x3 := row_cell HOB6.out 3
        have x4 := row_cell HOB6.out 4
        have x5 := row_cell HOB6.out 5
        have x6 := row_cell HOB6.out 6
        have x11 := row_cell HOB6.out 11
        simp at x0 x1 x2 x3 x4 x5 x6 x11
        have ter : (er != er) = false := by simp
        by_cases hr0 : r4 = 0
        case pos =>
          have t6 : ((r4 : Int) == 0) = true := by rw [hr0]; rfl
          have HK := Lib.hid (show o.kind % 4 = 0 by rw [ER4.out, hr0])
          clear hr0
          go_wp2_with fail
          refine (rscan_pair w gv hv (doO os o).1 os [ob] o (.slice ta o.t.chain.length tc) w6 HP6.out (HTR.out.fr HP6.out.1) HOS.out HK.out).mono ?_
          rintro e w7 ⟨rfl, hp7, hkt⟩
          rw [← HER.out, ← HM.out]
          have HP7 := Lib.hid hp7
          have tm : (m != m) = false := by simp
          clear hp7 hkt x0 x1 x2 x3 x4 x5 x6 x11
          go_wp2_with fail
          refine (log_pair w gv hv (doO os o).1 (doO os o).1 [ob] w7 HP7.out).mono ?_
          rintro e w8 ⟨lv, rfl, hs8, hp8, hf8⟩
          have HS8 := Lib.hid hs8
          have HP8 := Lib.hid hp8
          obtain ⟨la, lc, rfl, _, _, _⟩ := hs8.form
          clear hs8 hp8 hf8
          go_wp2_with fail
          refine (rlog_pair w gv hv (doO os o).1 (doO os o).1 [ob] w8 HP8.out).mono ?_
          rintro e w9 ⟨lv, rfl, hs9, hp9, hf9⟩
          have HS9 := Lib.hid hs9
          have HP9 := Lib.hid hp9
          have HS8 := Lib.hid (HS8.out.fr hf9)
          obtain ⟨lb, ld, rfl, _, _, _⟩ := hs9.form
          clear hs9 hp9 hf9
          go_wp2_with fail
          refine (rsame37_any _ _ (logO (doO os o).1) (logO (doO os o).1) w9 HS8.out HS9.out).mono ?_
          rintro e w10 ⟨rfl, hb⟩
          rw [decide_eq_true rfl]
          have HP10 := Lib.hid (HP9.out.fr (Fr.ofBelow hb)).drop
          clear hb
          go_wp2_with fail
          go_roundg (l.length - (k + 1))
          case measure => have := HG.out; omega
          case rel => exact ⟨k + 1, (doO os o).1, by omega, rfl, by go_num, HP10.out⟩
        have t6 : ((r4 : Int) == 0) = false := by rw [beq_eq_false_iff_ne]; omega
        by_cases hr1 : r4 = 1
        case pos =>
          have t7 : ((r4 : Int) == 1) = true := by rw [hr1]; rfl
          have HK := Lib.hid (show o.kind % 4 = 1 by rw [ER4.out, hr1])
          clear hr0 hr1
          go_wp2_with fail
          refine (rleave_pair w gv hv (doO os o).1 os [ob] o w6 HP6.out HK.out).mono ?_
          rintro e w7 ⟨rfl, hm0, hp7, hkt⟩
          rw [← HM.out] at hm0
          rw [← HER.out]
          subst hm0
          have HP7 := Lib.hid hp7
          clear hp7 hkt x0 x1 x2 x3 x4 x5 x6 x11
          go_wp2_with fail
          refine (log_pair w gv hv (doO os o).1 (doO os o).1 [ob] w7 HP7.out).mono ?_
          rintro e w8 ⟨lv, rfl, hs8, hp8, hf8⟩
          have HS8 := Lib.hid hs8
          have HP8 := Lib.hid hp8
          obtain ⟨la, lc, rfl, _, _, _⟩ := hs8.form
          clear hs8 hp8 hf8
          go_wp2_with fail
          refine (rlog_pair w gv hv (doO os o).1 (doO os o).1 [ob] w8 HP8.out).mono ?_
          rintro e w9 ⟨lv, rfl, hs9, hp9, hf9⟩
          have HS9 := Lib.hid hs9
          have HP9 := Lib.hid hp9
          have HS8 := Lib.hid (HS8.out.fr hf9)
          obtain ⟨lb, ld, rfl, _, _, _⟩ := hs9.form
          clear hs9 hp9 hf9
          go_wp2_with fail
          refine (rsame37_any _ _ (logO (doO os o).1) (logO (doO os o).1) w9 HS8.out HS9.out).mono ?_
          rintro e w10 ⟨rfl, hb⟩
          rw [decide_eq_true rfl]
          have HP10 := Lib.hid (HP9.out.fr (Fr.ofBelow hb)).drop
          clear hb
          go_wp2_with fail
          go_roundg (l.length - (k + 1))
          case measure => have := HG.out; omega
          case rel => exact ⟨k + 1, (doO os o).1, by omega, rfl, by go_num, HP10.out⟩
        have t7 : ((r4 : Int) == 1) = false := by rw [beq_eq_false_iff_ne]; omega
        have HK := Lib.hid (show 2 ≤ o.kind % 4 by rw [ER4.out]; omega)
        clear hr0 hr1
        go_wp2_with fail
        have x7 := row_cell HOB6.out 7
        have x8 := row_cell HOB6.out 8
        have x9 := row_cell HOB6.out 9
        have x10 := row_cell HOB6.out 10
        simp at x7 x8 x9 x10
        have gs0 : Fr [] w6 w6.drew := (Fr.refl [] w6).drew
        have hSs0 : w6.drew.cell? ⟨ob, 0, none⟩ = some (.int .u8 (o.kind : Int)) ∧ w6.drew.cell? ⟨ob, 1, none⟩ = some (.int .i64 o.t.serial) ∧ w6.drew.cell? ⟨ob, 2, none⟩ = some (.int .i64 o.t.shw) ∧ w6.drew.cell? ⟨ob, 3, none⟩ = some (.int .i64 o.t.place) ∧ w6.drew.cell? ⟨ob, 4, none⟩ = some (.string ⟨o.t.first.toArray⟩) ∧ w6.drew.cell? ⟨ob, 5, none⟩ = some (.slice ta o.t.chain.length tc) ∧ w6.drew.cell? ⟨ob, 6, none⟩ = some (.int .i64 o.serial) ∧ w6.drew.cell? ⟨ob, 7, none⟩ = some (.int .i64 o.f.bits) ∧ w6.drew.cell? ⟨ob, 8, none⟩ = some (.int .i64 o.f.hashes) ∧ w6.drew.cell? ⟨ob, 9, none⟩ = some (.slice wa o.f.words.length wc) ∧ w6.drew.cell? ⟨ob, 10, none⟩ = some (.slice sa o.serials.length sc) ∧ w6.drew.cell? ⟨ob, 11, none⟩ = some (.int .i64 o.now) := ⟨gs0.cell x0 (by simp), gs0.cell x1 (by simp), gs0.cell x2 (by simp), gs0.cell x3 (by simp), gs0.cell x4 (by simp), gs0.cell x5 (by simp), gs0.cell x6 (by simp), gs0.cell x7 (by simp), gs0.cell x8 (by simp), gs0.cell x9 (by simp), gs0.cell x10 (by simp), gs0.cell x11 (by simp)⟩
        refine region_held 100 (fun W' => W'.cell? ⟨ob, 0, none⟩ = some (.int .u8 (o.kind : Int)) ∧ W'.cell? ⟨ob, 1, none⟩ = some (.int .i64 o.t.serial) ∧ W'.cell? ⟨ob, 2, none⟩ = some (.int .i64 o.t.shw) ∧ W'.cell? ⟨ob, 3, none⟩ = some (.int .i64 o.t.place) ∧ W'.cell? ⟨ob, 4, none⟩ = some (.string ⟨o.t.first.toArray⟩) ∧ W'.cell? ⟨ob, 5, none⟩ = some (.slice ta o.t.chain.length tc) ∧ W'.cell? ⟨ob, 6, none⟩ = some (.int .i64 o.serial) ∧ W'.cell? ⟨ob, 7, none⟩ = some (.int .i64 o.f.bits) ∧ W'.cell? ⟨ob, 8, none⟩ = some (.int .i64 o.f.hashes) ∧ W'.cell? ⟨ob, 9, none⟩ = some (.slice wa o.f.words.length wc) ∧ W'.cell? ⟨ob, 10, none⟩ = some (.slice sa o.serials.length sc) ∧ W'.cell? ⟨ob, 11, none⟩ = some (.int .i64 o.now)) hmx ?_
        change Held _ _ _ _ _ _ 7 (Array.replicate 7 false) _ _
        refine hd_take 0 (v := hv) rfl (by kernel_rfl) (by kernel_rfl) (by kernel_rfl) rfl hSs0 (fun W' hS => by go_simp) rfl ?_
        refine hd_take 1 (v := .agg #[.int .u8 (o.kind : Int), .int .i64 o.t.serial, .int .i64 o.t.shw, .int .i64 o.t.place, .string ⟨o.t.first.toArray⟩, .slice ta o.t.chain.length tc, .int .i64 o.serial, .int .i64 o.f.bits, .int .i64 o.f.hashes, .slice wa o.f.words.length wc, .slice sa o.serials.length sc, .int .i64 o.now]) rfl (by kernel_rfl) (by kernel_rfl) (by kernel_rfl) rfl hSs0 (fun W' hS => by obtain ⟨s0, s1, s2, s3, s4, s5, s6, s7, s8, s9, s10, s11⟩ := hS; go_simp) rfl ?_
        refine hd_take 3 (v := .pointer (some ⟨ob, 11, none⟩)) rfl (by kernel_rfl) (by kernel_rfl) (by kernel_rfl) rfl hSs0 (fun W' hS => by go_simp) rfl ?_
        try simp only [Act.put, List.setIfInBounds_toArray, List.set_cons_zero, List.set_cons_succ]
        refine hd_take 4 (v := .int .i64 o.now) rfl (by kernel_rfl) (by kernel_rfl) (by kernel_rfl) rfl hSs0 (fun W' hS => by obtain ⟨s0, s1, s2, s3, s4, s5, s6, s7, s8, s9, s10, s11⟩ := hS; go_simp) rfl ?_
        try simp only [Act.put, List.setIfInBounds_toArray, List.set_cons_zero, List.set_cons_succ]
        refine hd_one 2 (by kernel_rfl) rfl (by kernel_rfl) rfl (fun K' hK => ?_)
        go_simp
        refine (given2_any ta wa sa tc wc sc o w6.drew (HWS.out.fr0 (HP6.out.1.trans gs0 (by simp))) (HZS.out.fr0 (HP6.out.1.trans gs0 (by simp))) HOS.out.toOpN).mono ?_
        rintro e ys1 ⟨wv, rfl, hws, hwd, hbb⟩
        have gs1 : Fr [] w6 ys1 := gs0.below hbb gs0.size
        have HWX := Lib.hid hws
        have HWD := Lib.hid hwd
        have HPG := Lib.hid (HP6.out.fr ((Fr.refl [] w6).drew))
        have HFG : Hid (Fr [] w6.drew ys1) := Lib.hid (Fr.ofBelow hbb)
        clear hws hwd
        clear hbb
        have hSs1 : ys1.cell? ⟨ob, 0, none⟩ = some (.int .u8 (o.kind : Int)) ∧ ys1.cell? ⟨ob, 1, none⟩ = some (.int .i64 o.t.serial) ∧ ys1.cell? ⟨ob, 2, none⟩ = some (.int .i64 o.t.shw) ∧ ys1.cell? ⟨ob, 3, none⟩ = some (.int .i64 o.t.place) ∧ ys1.cell? ⟨ob, 4, none⟩ = some (.string ⟨o.t.first.toArray⟩) ∧ ys1.cell? ⟨ob, 5, none⟩ = some (.slice ta o.t.chain.length tc) ∧ ys1.cell? ⟨ob, 6, none⟩ = some (.int .i64 o.serial) ∧ ys1.cell? ⟨ob, 7, none⟩ = some (.int .i64 o.f.bits) ∧ ys1.cell? ⟨ob, 8, none⟩ = some (.int .i64 o.f.hashes) ∧ ys1.cell? ⟨ob, 9, none⟩ = some (.slice wa o.f.words.length wc) ∧ ys1.cell? ⟨ob, 10, none⟩ = some (.slice sa o.serials.length sc) ∧ ys1.cell? ⟨ob, 11, none⟩ = some (.int .i64 o.now) := ⟨gs1.cell x0 (by simp), gs1.cell x1 (by simp), gs1.cell x2 (by simp), gs1.cell x3 (by simp), gs1.cell x4 (by simp), gs1.cell x5 (by simp), gs1.cell x6 (by simp), gs1.cell x7 (by simp), gs1.cell x8 (by simp), gs1.cell x9 (by simp), gs1.cell x10 (by simp), gs1.cell x11 (by simp)⟩
        refine hK.out _ _ (fun _ => hSs1) ?_
        clear hK K'
        try simp only [Act.put, List.setIfInBounds_toArray, List.set_cons_zero, List.set_cons_succ]
        refine hd_one 5 (by kernel_rfl) rfl (by kernel_rfl) rfl (fun K' hK => ?_)
        go_simp
        refine (rsync_pair w w6.drew gv hv (doO os o).1 os [ob] o wv ys1 HPG.out HFG.out HOS.out HK.out HWX.out (HWD.out.elim (fun h => Or.inl ⟨o.f.words, by rw [h]; exact HWS.out⟩) Or.inr)).mono ?_
        rintro e w7 ⟨rfl, hm0, hp7, hkt⟩
        rw [← HM.out] at hm0
        rw [← HER.out]
        subst hm0
        have HP7 := Lib.hid hp7
        have hq7 := hkt ob (by simp) _ _ ((gs1).at HOB6.out (by simp))
        have hS7 : w7.cell? ⟨ob, 0, none⟩ = some (.int .u8 (o.kind : Int)) ∧ w7.cell? ⟨ob, 1, none⟩ = some (.int .i64 o.t.serial) ∧ w7.cell? ⟨ob, 2, none⟩ = some (.int .i64 o.t.shw) ∧ w7.cell? ⟨ob, 3, none⟩ = some (.int .i64 o.t.place) ∧ w7.cell? ⟨ob, 4, none⟩ = some (.string ⟨o.t.first.toArray⟩) ∧ w7.cell? ⟨ob, 5, none⟩ = some (.slice ta o.t.chain.length tc) ∧ w7.cell? ⟨ob, 6, none⟩ = some (.int .i64 o.serial) ∧ w7.cell? ⟨ob, 7, none⟩ = some (.int .i64 o.f.bits) ∧ w7.cell? ⟨ob, 8, none⟩ = some (.int .i64 o.f.hashes) ∧ w7.cell? ⟨ob, 9, none⟩ = some (.slice wa o.f.words.length wc) ∧ w7.cell? ⟨ob, 10, none⟩ = some (.slice sa o.serials.length sc) ∧ w7.cell? ⟨ob, 11, none⟩ = some (.int .i64 o.now) := ⟨by rw [row_cell hq7]; rfl, by rw [row_cell hq7]; rfl, by rw [row_cell hq7]; rfl, by rw [row_cell hq7]; rfl, by rw [row_cell hq7]; rfl, by rw [row_cell hq7]; rfl, by rw [row_cell hq7]; rfl, by rw [row_cell hq7]; rfl, by rw [row_cell hq7]; rfl, by rw [row_cell hq7]; rfl, by rw [row_cell hq7]; rfl, by rw [row_cell hq7]; rfl⟩
        refine hK.out _ _ (fun _ => hS7) ?_
        clear hK K'
        try simp only [Act.put, List.setIfInBounds_toArray, List.set_cons_zero, List.set_cons_succ]
        refine hd_take 6 (v := .int .i64 er) rfl (by kernel_rfl) (by kernel_rfl) (by kernel_rfl) rfl hS7 (fun W' hS => by go_simp) rfl ?_
        try simp only [Act.put, List.setIfInBounds_toArray, List.set_cons_zero, List.set_cons_succ]
        refine held_done (by kernel_rfl) ?_
        clear hS7 hSs0 hSs1 gs0 gs1 hp7 hkt hq7 x0 x1 x2 x3 x4 x5 x6 x7 x8 x9 x10 x11
        go_wp2_with fail
        refine (log_pair w gv hv (doO os o).1 (doO os o).1 [ob] w7 HP7.out).mono ?_
        rintro e w8 ⟨lv, rfl, hs8, hp8, hf8⟩
        have HS8 := Lib.hid hs8
        have HP8 := Lib.hid hp8
        obtain ⟨la, lc, rfl, _, _, _⟩ := hs8.form
        clear hs8 hp8 hf8
        go_wp2_with fail
        refine (rlog_pair w gv hv (doO os o).1 (doO os o).1 [ob] w8 HP8.out).mono ?_
        rintro e w9 ⟨lv, rfl, hs9, hp9, hf9⟩
        have HS9 := Lib.hid hs9
        have HP9 := Lib.hid hp9
        have HS8 := Lib.hid (HS8.out.fr hf9)
        obtain ⟨lb, ld, rfl, _, _, _⟩ := hs9.form
        clear hs9 hp9 hf9
        go_wp2_with fail
        refine (rsame37_any _ _ (logO (doO os o).1) (logO (doO os o).1) w9 HS8.out HS9.out).mono ?_
        rintro e w10 ⟨rfl, hb⟩
        rw [decide_eq_true rfl]
        have HP10 := Lib.hid (HP9.out.fr (Fr.ofBelow hb)).drop
        clear hb
        go_wp2_with fail
        go_roundg (l.length - (k + 1))
        case measure => have := HG.out; omega
        case rel => exact ⟨k + 1, (doO os o).1, by omega, rfl, by go_num, HP10.out⟩
      · obtain rfl : k = l.length := by omega
        have t3 : decide ((l.length : Int) < (l.length : Int)) = false := by simp
        go_wp2_with fail
        refine (log_pair w gv hv os os [] wr HP.out).mono ?_
        rintro e w8 ⟨lv, rfl, hs8, hp8, hf8⟩
        have HS8 := Lib.hid hs8
        have HP8 := Lib.hid hp8
        obtain ⟨la, lc, rfl, _, _, _⟩ := hs8.form
        clear hs8 hp8 hf8
        go_wp2_with fail
        refine (rlog_pair w gv hv os os [] w8 HP8.out).mono ?_
        rintro e w9 ⟨lv, rfl, hs9, hp9, hf9⟩
        have HS9 := Lib.hid hs9
        have HP9 := Lib.hid hp9
        have HS8 := Lib.hid (HS8.out.fr hf9)
        obtain ⟨lb, ld, rfl, _, _, _⟩ := hs9.form
        clear hs9 hp9 hf9
        go_wp2_with fail
        refine (rsame37_any _ _ (logO os) (logO os) w9 HS8.out HS9.out).mono ?_
        rintro e w10 ⟨rfl, hb⟩
        rw [decide_eq_true rfl]
        have HX := Lib.hid (HP9.out.1.below hb HP9.out.1.size)
        clear hb
        go_wp2_with fail
        go_ret
        exact ⟨rfl, HX.out.toBelow (by simp)⟩
end Go.Proofs.YtglgkdbhdjkeaaaGreatDoor
