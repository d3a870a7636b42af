/-
  (*gate.Gate).Leave.
  (*gate.Gate).Sync.
  foyerlaw37: operations; given, do.
  foyerlaw37.do.
  Equality of scans; the plain gate of foyerlaw37.head.
  foyerlaw37.head.
  The calls at a nil gate.
-/
import Derived.Test.YtglgkdbhdjkeaaaGreatDoorPlnGt
import Derived.Test.YtglgkdbhdjkeaaaGreatDoorFlJ
import Derived.Test.YtglgkdbhdjkeaaaGreatDoorFrC
import Derived.Laws.StructEq
import Derived.Laws.Tables
import Derived.Laws.Cover2
import Derived.Test.YtglgkdbhdjkeaaaGreatDoorPlnB
namespace Go.Proofs.YtglgkdbhdjkeaaaGreatDoor
open Go.RowKit Go.WideMaps Go.Maps

set_option maxRecDepth 100000 in
set_option maxHeartbeats 4000000 in
theorem gleave_any (B gp : Nat) (g : Gst) (F : List Nat) (serial now : Int) (w : World) (h : GateR B w gp g F) (hs : isI serial) :
    Calls Tryz.prog 25 #[gateP gp, .int .i64 serial, .int .i64 now] w fun e w' => e = .returned (.int .i64 (leaveG g serial now).2) ∧ GateQ B w gp (leaveG g serial now).1 F w' := by
  have HQ0 := Lib.hid (GateQ.same h)
  obtain ⟨n, mp, fw, lv, hnl, hm⟩ := h
  obtain ⟨la, lc, hlv, hlc, hlm, _⟩ := hm.o.scs.form
  subst hlv
  have HNL := Lib.hid hnl
  have HM := Lib.hid hm
  have HI := Lib.hid hs
  have g9 := row_cell hm.p 9
  have g10 := row_cell hm.p 10
  unfold gateC at g9 g10
  simp at g9 g10
  clear hm hnl hs
  unfold gateP
  go_enter Tryz.func25, Tryz.ntmps25
  go_wp2_with fail
  refine (come_any gp g _ _ mp now w HM.out.p).mono ?_
  rintro e wz ⟨rfl, rfl⟩
  obtain ⟨ce, ece⟩ : ∃ q, q = comeG g now := ⟨_, rfl⟩
  rw [← ece]
  have HCE := Lib.hid ece
  clear ece
  by_cases hce : ce = 0
  case neg =>
    have u1 : (ce != 0) = true := by rw [bne_iff_ne]; exact hce
    have HR : Hid (leaveG g serial now = (g, ce)) := Lib.hid (by unfold leaveG; rw [← HCE.out, if_pos hce])
    clear hce
    go_wp2_with fail
    go_ret
    rw [HR.out]
    exact ⟨rfl, HQ0.out⟩
  have u1 : (ce != 0) = false := by rw [hce]; rfl
  have HC0 : Hid (comeG g now = 0) := Lib.hid (by rw [← HCE.out, hce])
  have HNW := Lib.hid (come_zero HC0.out)
  have slk := HM.out.m.lookOk serial HI.out
  obtain ⟨io, eio⟩ : ∃ q, q = insR g.log serial := ⟨_, rfl⟩
  rw [← eio] at slk
  have HIO := Lib.hid eio
  clear hce eio
  cases io with
  | none =>
    have HR : Hid (leaveG g serial now = (g, 11)) := Lib.hid (by unfold leaveG; rw [if_neg (by rw [HC0.out]; simp), ← HIO.out])
    simp only [Option.isSome_none, Option.getD_none] at slk
    go_wp2_with fail
    go_ret
    rw [HR.out]
    exact ⟨rfl, HQ0.out⟩
  | some ow =>
    simp only [Option.isSome_some, Option.getD_some] at slk
    have hl4 := HM.out.i.l
    by_cases h4 : g.log.length = 4000
    case pos =>
      have u4 : ((g.log.length : Int) == 4000) = true := by rw [h4]; rfl
      have HR : Hid (leaveG g serial now = (g, 23)) := Lib.hid (by unfold leaveG; rw [if_neg (by rw [HC0.out]; simp), ← HIO.out]; simp only; rw [if_pos (by omega)])
      clear h4
      go_wp2_with fail
      go_ret
      rw [HR.out]
      exact ⟨rfl, HQ0.out⟩
    have u4 : ((g.log.length : Int) == 4000) = false := by rw [beq_eq_false_iff_ne]; omega
    have HL4 : Hid (g.log.length < 4000) := Lib.hid (by omega)
    have HR : Hid (leaveG g serial now = (putG g 2 serial ow now, 0)) := Lib.hid (by unfold leaveG; rw [if_neg (by rw [HC0.out]; simp), ← HIO.out]; simp only; rw [if_neg (by omega)])
    clear h4 hl4
    go_wp2_with (at_delete; go_loud (refine wpList_delG rfl (.tmp 38) (.tmp 39) rfl mp n (insR g.log) rfl HM.out.m serial rfl HI.out ?_))
    intro w1 hm1 hf1
    have HM1 := Lib.hid (HM.out.mapped hm1 hf1)
    have HF1 := Lib.hid hf1
    clear hm1 hf1 slk g9 g10
    go_wp2_with fail
    refine (gwrite_any B gp g _ n mp _ _ F 2 serial ow now w1 HM1.out HNW.out.1 HNW.out.2 HL4.out).mono ?_
    rintro e w2 ⟨rfl, lv', F', hm2, hx2, hk2⟩
    have HM2 := Lib.hid hm2
    have HX := Lib.hid ((HF1.out.mono (Y := F) (fun x hx => Or.inl (by rw [List.mem_singleton.1 hx]; exact HM.out.mem.2.1))).trans hx2 (fun y hy => Or.inl hy))
    have HK : Hid (∀ k ∈ F', k ∈ F ∨ w.heap.size ≤ k) := Lib.hid (fun k hk => (hk2 k hk).imp id (fun h1 => Nat.le_trans HF1.out.size h1))
    clear hm2 hx2 hk2
    go_wp2_with fail
    go_ret
    rw [HR.out]
    exact ⟨rfl, F', ⟨n, mp, _, lv', by have := HNL.out; unfold putG; simp; omega, HM2.out.congr (fun k _ => ins_out g.log g.id ((g.log.length : Int) + 1) now serial ow k)⟩, HX.out, HK.out⟩
end Go.Proofs.YtglgkdbhdjkeaaaGreatDoor
namespace Go.Proofs.YtglgkdbhdjkeaaaGreatDoor
open Go.RowKit Go.WideMaps Go.Maps

theorem ownW_lt {base : Nat} {w : World} {v : Value} {l : List Nat} (h : OwnW base w v l) : ∀ k, v.ownBlock = some k → k < w.heap.size := fun k hk => by
  rcases h.2 with ⟨rfl, _⟩ | ⟨g, cap, cur, rfl, hb, hg, _⟩
  · simp [Value.ownBlock] at hk
  · obtain rfl : g = k := by simpa [Value.ownBlock] using hk
    exact lt_of_block hg
set_option maxRecDepth 100000 in
set_option maxHeartbeats 8000000 in
theorem gsync_any (B gp : Nat) (g : Gst) (F : List Nat) (v : Value) (f : Flt) (now : Int) (w : World) (h : GateR B w gp g F) (hf : FltR w v f) (hW : W64 f.words) (hn : f.words.length ≤ 100000) (hT : TabsF w) :
    Calls Tryz.prog 26 #[gateP gp, v, .int .i64 now] w fun e w' => e = .returned (.int .i64 (syncG g f now).2) ∧ GateQ B w gp (syncG g f now).1 F w' := by
  have hmx : Tryz.prog.follows .mixedOrders = true := by kernel_rfl
  have HQ0 := Lib.hid (GateQ.same h)
  obtain ⟨n, mp, fw, lv, hnl, hm⟩ := h
  have HNL := Lib.hid hnl
  obtain ⟨la, lc, hlv, hlc, hlm, _⟩ := hm.o.scs.form
  subst hlv
  obtain ⟨ga, gc, hfw, _, _, _⟩ := hm.w.form
  subst hfw
  obtain ⟨wv, rfl, hws⟩ := hf
  obtain ⟨wa, wc, rfl, _, _, _⟩ := hws.form
  have HT := Lib.hid hT
  have HW := Lib.hid hW
  clear hT hW hnl
  have HFB : Hid (∀ k ∈ F, k < w.heap.size) := Lib.hid (fun k hk => (hm.mem.2.2.2.2 k hk).2)
  obtain ⟨W0, hW0⟩ : ∃ W0, W0 = w.alloc (.cells #[.int .i64 f.bits, .int .i64 f.hashes, .slice wa f.words.length wc] 37) := ⟨_, rfl⟩
  obtain ⟨bf, ebf⟩ : ∃ q, q = w.heap.size := ⟨_, rfl⟩
  have f0 : Fr [] w W0 := by rw [hW0]; exact (Fr.refl [] w).alloc _
  have hbf : W0.heap[bf]? = some (.cells #[.int .i64 f.bits, .int .i64 f.hashes, .slice wa f.words.length wc] 37 (0, 0)) := by rw [hW0]; exact heap_new ebf
  have HM := Lib.hid (hm.fr f0 (by simp))
  have HWS := Lib.hid (hws.fr0 f0)
  clear hm hws
  unfold gateP
  go_enter Tryz.func26, Tryz.ntmps26
  go_wp2_with fail
  rw [← hW0, ← ebf]
  have EBF := Lib.hid ebf
  clear hW0 ebf
  have HBF := Lib.hid hbf
  have HF := Lib.hid f0
  clear hbf f0
  have hq0 : ∀ W : World, Fr [] w W → Hid (GateQ B w gp g F W) := fun W hW => by
    obtain ⟨F0, h1, h2, h3⟩ := HQ0.out
    exact ⟨F0, h1.fr hW (by simp), h2.trans hW (by simp), h3⟩
  have HQW := Lib.hid hq0
  clear hq0
  refine (come_any gp g _ _ mp now W0 HM.out.p).mono ?_
  rintro e wz ⟨rfl, rfl⟩
  obtain ⟨tb, etb⟩ : ∃ q, q = timeB now := ⟨_, rfl⟩
  have HTB := Lib.hid etb
  clear etb
  cases tb with
  | false =>
    have hce : comeG g now = 1 := by unfold comeG; rw [← HTB.out]; rfl
    have HR : Hid (syncG g f now = (g, 1)) := Lib.hid (by unfold syncG; rw [← HTB.out]; rfl)
    rw [hce]
    clear hce
    go_wp2_with fail
    go_ret
    rw [HR.out]
    exact ⟨rfl, HQW.out _ HF.out⟩
  | true =>
    obtain ⟨ce, ece, h17⟩ : ∃ q, q = comeG g now ∧ q = (if now < g.now then 17 else 0 : Int) := ⟨_, rfl, by unfold comeG; rw [← HTB.out]; rfl⟩
    rw [← ece]
    have HCE := Lib.hid h17
    have u1 : (ce == 1) = false := by rw [beq_eq_false_iff_ne, h17]; split <;> decide
    clear ece h17
    have x0 := row_cell HBF.out 0
    have x1 := row_cell HBF.out 1
    have x2 := row_cell HBF.out 2
    simp at x0 x1 x2
    go_wp2_with fail
    refine (ftext_any _ f W0 ⟨_, rfl, HWS.out⟩ HW.out (HT.out.fr HF.out)).mono ?_
    rintro e W1 ⟨rfl, hbb⟩
    have hf : Fr [] W0 W1 := Fr.ofBelow hbb
    have HF := Lib.hid (HF.out.trans hf (by simp))
    have HM := Lib.hid (HM.out.fr hf (by simp))
    have HWS := Lib.hid (HWS.out.fr0 hf)
    have HBF := Lib.hid (hf.at HBF.out (by simp))
    clear hbb hf x0 x1 x2
    obtain ⟨r, er⟩ : ∃ r, r = textF f := ⟨_, rfl⟩
    rw [← er]
    cases hv : validF f with
    | false =>
      have hr : r = [] := by rw [er]; exact textF_nil hv
      have u2 : (r == []) = true := by rw [hr]; rfl
      have u3 : r.isEmpty = true := by rw [hr]; rfl
      have HR : Hid (syncG g f now = (g, 1)) := Lib.hid (by unfold syncG; rw [← HTB.out, hv]; rfl)
      clear er hr hv
      go_wp2_with fail
      go_ret
      rw [HR.out]
      exact ⟨rfl, HQW.out _ HF.out⟩
    | true =>
      have hr : r ≠ [] := by rw [er]; exact textF_ne hv
      have u2 : (r == []) = false := by rw [beq_eq_false_iff_ne]; exact hr
      have u3 : r.isEmpty = false := by rw [List.isEmpty_eq_false_iff]; exact hr
      have HV := Lib.hid hv
      clear er hr hv
      by_cases hlt : now < g.now
      case pos =>
        have hce : ce = 17 := by rw [HCE.out, if_pos hlt]
        subst hce
        have HR : Hid (syncG g f now = (g, 17)) := Lib.hid (by unfold syncG; rw [← HTB.out, HV.out]; simp [hlt])
        clear hlt
        go_wp2_with fail
        go_ret
        rw [HR.out]
        exact ⟨rfl, HQW.out _ HF.out⟩
      have hce : ce = 0 := by rw [HCE.out, if_neg hlt]
      subst hce
      have HR : Hid (syncG g f now = ({ g with now := now, syn := now, flt := f }, 0)) := Lib.hid (by unfold syncG; rw [← HTB.out, HV.out]; simp [hlt])
      have HTM := Lib.hid (timeB_iff.1 HTB.out.symm)
      have HGN : Hid (g.now ≤ now) := Lib.hid (by omega)
      clear hlt
      have x2 := row_cell HBF.out 2
      simp at x2
      go_wp2_with fail
      refine (cloneW_any (.slice wa f.words.length wc) f.words W1 HWS.out hn).mono ?_
      rintro e W2 ⟨cw, rfl, hcw, hbb⟩
      have hf : Fr [] W1 W2 := Fr.ofBelow hbb
      have HF := Lib.hid (HF.out.trans hf (by simp))
      have HM := Lib.hid (HM.out.fr hf (by simp))
      have hb2 := hf.at HBF.out (by simp)
      have HCW := Lib.hid hcw
      have HS1 : Hid (W1.heap.size ≤ W2.heap.size) := Lib.hid hf.size
      clear hbb hf x2
      obtain ⟨ca, cc, hcv, _, _, _⟩ := hcw.ws.form
      subst hcv
      clear hcw
      have x2 := row_cell hb2 2
      simp at x2
      have y2 := row_free hb2 2
      have hb3 := row_set hb2 2 (.slice ca f.words.length cc)
      have hf3 : Fr [bf] W2 (W2.setCell ⟨bf, 2, none⟩ (.slice ca f.words.length cc)) := (Fr.refl [bf] W2).setCell _ _ (by simp)
      have HBW : Hid (w.heap.size ≤ bf ∧ bf < W1.heap.size) := Lib.hid ⟨Nat.le_of_eq EBF.out.symm, lt_of_block HBF.out⟩
      have hbF : bf ∉ F := fun h => by
        have h1 := HFB.out bf h
        have h2 := HBW.out
        omega
      have HM := Lib.hid (HM.out.fr hf3 (fun k hk => by rw [List.mem_singleton.1 hk]; exact hbF))
      have HF := Lib.hid (HF.out.trans hf3 (fun y hy => Or.inr (by rw [List.mem_singleton.1 hy]; exact HBW.out.1)))
      have HCW : Hid (OwnW W1.heap.size (W2.setCell ⟨bf, 2, none⟩ (.slice ca f.words.length cc)) (.slice ca f.words.length cc) f.words) := Lib.hid (HCW.out.fr hf3 (fun k hk hm => by
        have h1 := (ownBlock_cells HCW.out k hk).1
        rw [List.mem_singleton.1 hm] at h1
        have h2 := HBW.out
        omega))
      have HB3 := Lib.hid hb3
      clear hb3 hf3 hb2
      go_wp2_with fail
      generalize W2.setCell ⟨bf, 2, none⟩ (.slice ca f.words.length cc) = W3 at HM HF HCW HB3 ⊢
      clear x2 y2
      have x0 := row_cell HB3.out 0
      have x1 := row_cell HB3.out 1
      have x2 := row_cell HB3.out 2
      simp at x0 x1 x2
      have hgb : bf ≠ gp := fun h => hbF (by rw [h]; exact HM.out.mem.1)
      have gr0 : Fr [] W3 W3.drew := (Fr.refl [] W3).drew
      have hSr0 : W3.drew.cell? ⟨bf, 0, none⟩ = some (.int .i64 f.bits) ∧ W3.drew.cell? ⟨bf, 1, none⟩ = some (.int .i64 f.hashes) ∧ W3.drew.cell? ⟨bf, 2, none⟩ = some (.slice ca f.words.length cc) := ⟨gr0.cell x0 (by simp), gr0.cell x1 (by simp), gr0.cell x2 (by simp)⟩
      refine region_held 100 (fun W' => W'.cell? ⟨bf, 0, none⟩ = some (.int .i64 f.bits) ∧ W'.cell? ⟨bf, 1, none⟩ = some (.int .i64 f.hashes) ∧ W'.cell? ⟨bf, 2, none⟩ = some (.slice ca f.words.length cc)) hmx ?_
      change Held _ _ _ _ _ _ 19 (Array.replicate 19 false) _ _
      refine hd_take 0 (v := .pointer (some ⟨gp, 0, none⟩)) rfl (by kernel_rfl) (by kernel_rfl) (by kernel_rfl) rfl hSr0 (fun W' hS => by go_simp) rfl ?_
      refine hd_take 1 (v := .pointer (some ⟨gp, 0, none⟩)) rfl (by kernel_rfl) (by kernel_rfl) (by kernel_rfl) rfl hSr0 (fun W' hS => by go_simp) rfl ?_
      refine hd_take 2 (v := .pointer (some ⟨gp, 0, none⟩)) rfl (by kernel_rfl) (by kernel_rfl) (by kernel_rfl) rfl hSr0 (fun W' hS => by go_simp) rfl ?_
      refine hd_take 3 (v := .pointer (some ⟨gp, 0, none⟩)) rfl (by kernel_rfl) (by kernel_rfl) (by kernel_rfl) rfl hSr0 (fun W' hS => by go_simp) rfl ?_
      refine hd_take 4 (v := .int .i64 now) rfl (by kernel_rfl) (by kernel_rfl) (by kernel_rfl) rfl hSr0 (fun W' hS => by go_simp) rfl ?_
      refine hd_take 5 (v := .int .i64 now) rfl (by kernel_rfl) (by kernel_rfl) (by kernel_rfl) rfl hSr0 (fun W' hS => by go_simp) rfl ?_
      refine hd_take 6 (v := .agg #[.int .i64 f.bits, .int .i64 f.hashes, .slice ca f.words.length cc]) rfl (by kernel_rfl) (by kernel_rfl) (by kernel_rfl) rfl hSr0 (fun W' hS => by obtain ⟨s0, s1, s2⟩ := hS; go_simp) rfl ?_
      try simp only [Act.put, List.setIfInBounds_toArray, List.set_cons_zero, List.set_cons_succ]
      have hp3 : W3.drew.heap[gp]? = some (.cells #[.int .i64 g.id, .int .i64 g.shw, .int .i64 g.stale, .int .i64 g.now, .bool (synB g), .int .i64 (sinG g), .int .i64 g.flt.bits, .int .i64 g.flt.hashes, .slice ga g.flt.words.length gc, .map (some mp), .slice la g.log.length lc] 69 (0, 0)) := HM.out.p
      have k0 : Fr [gp] W3 W3.drew := gr0.mono (by simp)
      generalize W3.drew = V0 at gr0 hSr0 hp3 k0 ⊢
      refine hd_one 7 (by kernel_rfl) rfl (by kernel_rfl) rfl (fun K' hK => ?_)
      go_simp
      refine hK.out _ _ (fun _ => hSr0) ?_
      clear hK K'
      try simp only [Act.put, List.setIfInBounds_toArray, List.set_cons_zero, List.set_cons_succ]
      refine hd_take 8 (v := .pointer (some ⟨gp, 3, none⟩)) rfl (by kernel_rfl) (by kernel_rfl) (by kernel_rfl) rfl hSr0 (fun W' hS => by go_simp) rfl ?_
      try simp only [Act.put, List.setIfInBounds_toArray, List.set_cons_zero, List.set_cons_succ]
      have c0 := row_cell hp3 3
      simp at c0
      have e0 := row_free hp3 3
      have hq0 := row_set hp3 3 (.int .i64 now)
      have kq0 : Fr [gp] W3 (V0.setCell ⟨gp, 3, none⟩ (.int .i64 now)) := k0.setCell _ _ (by simp)
      refine hd_one 9 (by kernel_rfl) rfl (by kernel_rfl) rfl (fun K' hK => ?_)
      go_simp
      have hS1 : (V0.setCell ⟨gp, 3, none⟩ (.int .i64 now)).cell? ⟨bf, 0, none⟩ = some (.int .i64 f.bits) ∧ (V0.setCell ⟨gp, 3, none⟩ (.int .i64 now)).cell? ⟨bf, 1, none⟩ = some (.int .i64 f.hashes) ∧ (V0.setCell ⟨gp, 3, none⟩ (.int .i64 now)).cell? ⟨bf, 2, none⟩ = some (.slice ca f.words.length cc) := ⟨kq0.cell x0 (by simpa using hgb), kq0.cell x1 (by simpa using hgb), kq0.cell x2 (by simpa using hgb)⟩
      refine hK.out _ _ (fun _ => hS1) ?_
      clear hK K'
      try simp only [Act.put, List.setIfInBounds_toArray, List.set_cons_zero, List.set_cons_succ]
      have hp4 : ((V0.setCell ⟨gp, 3, none⟩ (.int .i64 now))).heap[gp]? = some (.cells #[.int .i64 g.id, .int .i64 g.shw, .int .i64 g.stale, .int .i64 now, .bool (synB g), .int .i64 (sinG g), .int .i64 g.flt.bits, .int .i64 g.flt.hashes, .slice ga g.flt.words.length gc, .map (some mp), .slice la g.log.length lc] 69 (0, 0)) := hq0
      have k1 : Fr [gp] W3 (V0.setCell ⟨gp, 3, none⟩ (.int .i64 now)) := kq0
      generalize (V0.setCell ⟨gp, 3, none⟩ (.int .i64 now)) = V1 at k1 hS1 hp4 ⊢
      clear c0 e0 hq0 kq0
      refine hd_one 10 (by kernel_rfl) rfl (by kernel_rfl) rfl (fun K' hK => ?_)
      go_simp
      refine hK.out _ _ (fun _ => hS1) ?_
      clear hK K'
      try simp only [Act.put, List.setIfInBounds_toArray, List.set_cons_zero, List.set_cons_succ]
      refine hd_take 11 (v := .pointer (some ⟨gp, 5, none⟩)) rfl (by kernel_rfl) (by kernel_rfl) (by kernel_rfl) rfl hS1 (fun W' hS => by go_simp) rfl ?_
      try simp only [Act.put, List.setIfInBounds_toArray, List.set_cons_zero, List.set_cons_succ]
      have c0 := row_cell hp4 5
      simp at c0
      have e0 := row_free hp4 5
      have hq0 := row_set hp4 5 (.int .i64 now)
      have kq0 : Fr [gp] W3 (V1.setCell ⟨gp, 5, none⟩ (.int .i64 now)) := k1.setCell _ _ (by simp)
      refine hd_one 12 (by kernel_rfl) rfl (by kernel_rfl) rfl (fun K' hK => ?_)
      go_simp
      have hS2 : (V1.setCell ⟨gp, 5, none⟩ (.int .i64 now)).cell? ⟨bf, 0, none⟩ = some (.int .i64 f.bits) ∧ (V1.setCell ⟨gp, 5, none⟩ (.int .i64 now)).cell? ⟨bf, 1, none⟩ = some (.int .i64 f.hashes) ∧ (V1.setCell ⟨gp, 5, none⟩ (.int .i64 now)).cell? ⟨bf, 2, none⟩ = some (.slice ca f.words.length cc) := ⟨kq0.cell x0 (by simpa using hgb), kq0.cell x1 (by simpa using hgb), kq0.cell x2 (by simpa using hgb)⟩
      refine hK.out _ _ (fun _ => hS2) ?_
      clear hK K'
      try simp only [Act.put, List.setIfInBounds_toArray, List.set_cons_zero, List.set_cons_succ]
      have hp5 : ((V1.setCell ⟨gp, 5, none⟩ (.int .i64 now))).heap[gp]? = some (.cells #[.int .i64 g.id, .int .i64 g.shw, .int .i64 g.stale, .int .i64 now, .bool (synB g), .int .i64 now, .int .i64 g.flt.bits, .int .i64 g.flt.hashes, .slice ga g.flt.words.length gc, .map (some mp), .slice la g.log.length lc] 69 (0, 0)) := hq0
      have k2 : Fr [gp] W3 (V1.setCell ⟨gp, 5, none⟩ (.int .i64 now)) := kq0
      generalize (V1.setCell ⟨gp, 5, none⟩ (.int .i64 now)) = V2 at k2 hS2 hp5 ⊢
      clear c0 e0 hq0 kq0
      refine hd_one 13 (by kernel_rfl) rfl (by kernel_rfl) rfl (fun K' hK => ?_)
      go_simp
      refine hK.out _ _ (fun _ => hS2) ?_
      clear hK K'
      try simp only [Act.put, List.setIfInBounds_toArray, List.set_cons_zero, List.set_cons_succ]
      refine hd_take 14 (v := .pointer (some ⟨gp, 4, none⟩)) rfl (by kernel_rfl) (by kernel_rfl) (by kernel_rfl) rfl hS2 (fun W' hS => by go_simp) rfl ?_
      try simp only [Act.put, List.setIfInBounds_toArray, List.set_cons_zero, List.set_cons_succ]
      have c0 := row_cell hp5 4
      simp at c0
      have e0 := row_free hp5 4
      have hq0 := row_set hp5 4 (.bool true)
      have kq0 : Fr [gp] W3 (V2.setCell ⟨gp, 4, none⟩ (.bool true)) := k2.setCell _ _ (by simp)
      refine hd_one 15 (by kernel_rfl) rfl (by kernel_rfl) rfl (fun K' hK => ?_)
      go_simp
      have hS3 : (V2.setCell ⟨gp, 4, none⟩ (.bool true)).cell? ⟨bf, 0, none⟩ = some (.int .i64 f.bits) ∧ (V2.setCell ⟨gp, 4, none⟩ (.bool true)).cell? ⟨bf, 1, none⟩ = some (.int .i64 f.hashes) ∧ (V2.setCell ⟨gp, 4, none⟩ (.bool true)).cell? ⟨bf, 2, none⟩ = some (.slice ca f.words.length cc) := ⟨kq0.cell x0 (by simpa using hgb), kq0.cell x1 (by simpa using hgb), kq0.cell x2 (by simpa using hgb)⟩
      refine hK.out _ _ (fun _ => hS3) ?_
      clear hK K'
      try simp only [Act.put, List.setIfInBounds_toArray, List.set_cons_zero, List.set_cons_succ]
      have hp6 : ((V2.setCell ⟨gp, 4, none⟩ (.bool true))).heap[gp]? = some (.cells #[.int .i64 g.id, .int .i64 g.shw, .int .i64 g.stale, .int .i64 now, .bool true, .int .i64 now, .int .i64 g.flt.bits, .int .i64 g.flt.hashes, .slice ga g.flt.words.length gc, .map (some mp), .slice la g.log.length lc] 69 (0, 0)) := hq0
      have k3 : Fr [gp] W3 (V2.setCell ⟨gp, 4, none⟩ (.bool true)) := kq0
      generalize (V2.setCell ⟨gp, 4, none⟩ (.bool true)) = V3 at k3 hS3 hp6 ⊢
      clear c0 e0 hq0 kq0
      refine hd_one 16 (by kernel_rfl) rfl (by kernel_rfl) rfl (fun K' hK => ?_)
      go_simp
      refine hK.out _ _ (fun _ => hS3) ?_
      clear hK K'
      try simp only [Act.put, List.setIfInBounds_toArray, List.set_cons_zero, List.set_cons_succ]
      refine hd_take 17 (v := .pointer (some ⟨gp, 6, none⟩)) rfl (by kernel_rfl) (by kernel_rfl) (by kernel_rfl) rfl hS3 (fun W' hS => by go_simp) rfl ?_
      try simp only [Act.put, List.setIfInBounds_toArray, List.set_cons_zero, List.set_cons_succ]
      have c0 := row_cell hp6 6
      simp at c0
      have e0 := row_free hp6 6
      have hq0 := row_set hp6 6 (.int .i64 f.bits)
      have kq0 : Fr [gp] W3 (V3.setCell ⟨gp, 6, none⟩ (.int .i64 f.bits)) := k3.setCell _ _ (by simp)
      have c1 := row_cell hq0 7
      simp at c1
      have e1 := row_free hq0 7
      have hq1 := row_set hq0 7 (.int .i64 f.hashes)
      have kq1 : Fr [gp] W3 ((V3.setCell ⟨gp, 6, none⟩ (.int .i64 f.bits)).setCell ⟨gp, 7, none⟩ (.int .i64 f.hashes)) := kq0.setCell _ _ (by simp)
      have c2 := row_cell hq1 8
      simp at c2
      have e2 := row_free hq1 8
      have hq2 := row_set hq1 8 (.slice ca f.words.length cc)
      have kq2 : Fr [gp] W3 (((V3.setCell ⟨gp, 6, none⟩ (.int .i64 f.bits)).setCell ⟨gp, 7, none⟩ (.int .i64 f.hashes)).setCell ⟨gp, 8, none⟩ (.slice ca f.words.length cc)) := kq1.setCell _ _ (by simp)
      refine hd_one 18 (by kernel_rfl) rfl (by kernel_rfl) rfl (fun K' hK => ?_)
      go_simp
      have hS4 : (((V3.setCell ⟨gp, 6, none⟩ (.int .i64 f.bits)).setCell ⟨gp, 7, none⟩ (.int .i64 f.hashes)).setCell ⟨gp, 8, none⟩ (.slice ca f.words.length cc)).cell? ⟨bf, 0, none⟩ = some (.int .i64 f.bits) ∧ (((V3.setCell ⟨gp, 6, none⟩ (.int .i64 f.bits)).setCell ⟨gp, 7, none⟩ (.int .i64 f.hashes)).setCell ⟨gp, 8, none⟩ (.slice ca f.words.length cc)).cell? ⟨bf, 1, none⟩ = some (.int .i64 f.hashes) ∧ (((V3.setCell ⟨gp, 6, none⟩ (.int .i64 f.bits)).setCell ⟨gp, 7, none⟩ (.int .i64 f.hashes)).setCell ⟨gp, 8, none⟩ (.slice ca f.words.length cc)).cell? ⟨bf, 2, none⟩ = some (.slice ca f.words.length cc) := ⟨kq2.cell x0 (by simpa using hgb), kq2.cell x1 (by simpa using hgb), kq2.cell x2 (by simpa using hgb)⟩
      refine hK.out _ _ (fun _ => hS4) ?_
      clear hK K'
      try simp only [Act.put, List.setIfInBounds_toArray, List.set_cons_zero, List.set_cons_succ]
      have hp7 : ((((V3.setCell ⟨gp, 6, none⟩ (.int .i64 f.bits)).setCell ⟨gp, 7, none⟩ (.int .i64 f.hashes)).setCell ⟨gp, 8, none⟩ (.slice ca f.words.length cc))).heap[gp]? = some (.cells #[.int .i64 g.id, .int .i64 g.shw, .int .i64 g.stale, .int .i64 now, .bool true, .int .i64 now, .int .i64 f.bits, .int .i64 f.hashes, .slice ca f.words.length cc, .map (some mp), .slice la g.log.length lc] 69 (0, 0)) := hq2
      have k4 : Fr [gp] W3 (((V3.setCell ⟨gp, 6, none⟩ (.int .i64 f.bits)).setCell ⟨gp, 7, none⟩ (.int .i64 f.hashes)).setCell ⟨gp, 8, none⟩ (.slice ca f.words.length cc)) := kq2
      generalize (((V3.setCell ⟨gp, 6, none⟩ (.int .i64 f.bits)).setCell ⟨gp, 7, none⟩ (.int .i64 f.hashes)).setCell ⟨gp, 8, none⟩ (.slice ca f.words.length cc)) = V4 at k4 hS4 hp7 ⊢
      clear c0 e0 hq0 kq0 c1 e1 hq1 kq1 c2 e2 hq2 kq2
      refine held_done (by kernel_rfl) ?_
      have hpf := hp7
      have hX : Fr [gp] W3 V4 := k4
      have hmm := HM.out.mem
      have hap := HM.out.apart
      have hsb : synB { g with now := now, syn := now, flt := f } = true := by unfold synB; simp; exact HTM.out.1
      have hsi : sinG { g with now := now, syn := now, flt := f } = now := by unfold sinG; simp; have := HTM.out.1; omega
      have hres : GateM B V4 gp { g with now := now, syn := now, flt := f } (insR g.log) n mp (.slice ca f.words.length cc) (.slice la g.log.length lc) (gp :: mp :: ((Value.slice la g.log.length lc).ownBlock.toList ++ (Value.slice ca f.words.length cc).ownBlock.toList)) := by
        refine ⟨by unfold gateC; rw [hsb, hsi]; exact hpf, HCW.out.ws.frX hX (fun k hk hm => ?_), HM.out.m.fr hX (by simpa using hap.1), HM.out.o.fr hX (fun k hk hm => (hap.2 k hk).1 (List.mem_singleton.1 hm)), fun k hk => ?_, rfl, HM.out.b, ?_⟩
        · have h1 := (ownBlock_cells HCW.out k hk).1
          have h2 := HFB.out gp hmm.1
          have h3 := HBW.out
          have h4 := List.mem_singleton.1 hm
          omega
        · have h1 := (ownBlock_cells HCW.out k hk).1
          have h2 := HFB.out gp hmm.1
          have h2b := HFB.out mp hmm.2.1
          have h3 := HBW.out
          have h5 := HM.out.b.1
          have h6 := ownW_lt HCW.out k hk
          refine ⟨by omega, Nat.lt_of_lt_of_le h6 hX.size, by omega, by omega, fun hl => ?_⟩
          have h7 := HFB.out k (hmm.2.2.1 k hl)
          omega
        · have hi := HM.out.i
          exact ⟨hi.i, hi.s, hi.st, HTM.out, ⟨by have := HTM.out.1; show -1 ≤ now; omega, Int.le_refl _⟩, HW.out, hi.l⟩
      have HRES := Lib.hid hres
      have HXX := Lib.hid ((HF.out.mono (Y := F) (by simp)).trans hX (fun y hy => Or.inl (by rw [List.mem_singleton.1 hy]; exact hmm.1)))
      have HK : Hid (∀ k ∈ gp :: mp :: ((Value.slice la g.log.length lc).ownBlock.toList ++ (Value.slice ca f.words.length cc).ownBlock.toList), k ∈ F ∨ w.heap.size ≤ k) := Lib.hid (fun k hk => by
        simp only [List.mem_cons, List.mem_append, Option.mem_toList] at hk
        rcases hk with rfl | rfl | hk | hk
        · exact Or.inl hmm.1
        · exact Or.inl hmm.2.1
        · exact Or.inl (hmm.2.2.1 k hk)
        · have h1 := (ownBlock_cells HCW.out k hk).1
          have h3 := HBW.out
          exact Or.inr (by omega))
      clear hres hpf hX hmm hap hsb hsi x0 x1 x2
      go_wp2_with fail
      go_ret
      rw [HR.out]
      exact ⟨rfl, _, ⟨n, mp, _, _, HNL.out, HRES.out⟩, HXX.out, HK.out⟩
end Go.Proofs.YtglgkdbhdjkeaaaGreatDoor
namespace Go.Proofs.YtglgkdbhdjkeaaaGreatDoor
open Go.RowKit Go.WideMaps Go.Maps

/-- A value reads as an operation. -/
def OpR (W : World) (v : Value) (o : GOp) : Prop := ∃ (ta wa sa : Option Addr) (tc wc sc : Nat), v = .agg #[.int .u8 (o.kind : Int), .int .i64 o.t.serial, .int .i64 o.t.shw, .int .i64 o.t.place, .string ⟨o.t.first.toArray⟩, .slice ta o.t.chain.length tc, .int .i64 o.serial, .int .i64 o.f.bits, .int .i64 o.f.hashes, .slice wa o.f.words.length wc, .slice sa o.serials.length sc, .int .i64 o.now] ∧
  Trs W (.slice ta o.t.chain.length tc) o.t.chain ∧ Ws W (.slice wa o.f.words.length wc) o.f.words ∧ Zs W (.slice sa o.serials.length sc) o.serials
theorem OpR.fr {w w' : World} {v : Value} {o : GOp} (h : OpR w v o) (hf : Fr [] w w') : OpR w' v o := by
  obtain ⟨ta, wa, sa, tc, wc, sc, hv, h1, h2, h3⟩ := h
  exact ⟨ta, wa, sa, tc, wc, sc, hv, h1.fr hf, h2.fr0 hf, h3.fr0 hf⟩
/-- The numbers of an operation are numbers of Go. -/
structure OpN (o : GOp) : Prop where
  k : o.kind < 256
  t : TNum o.t
  s : isI o.serial
  f : W64 o.f.words
  z : ∀ s ∈ o.serials, -9223372036854775808 ≤ s ∧ s ≤ 9223372036854775807
  n : isI o.now
/-- .. and it is small. -/
structure OpS (o : GOp) : Prop extends OpN o where
  st : TSmall o.t
  sf : o.f.words.length ≤ 100000
  sz : o.serials.length ≤ 100000
theorem form64 : formF 64 2 = true := by decide
set_option maxRecDepth 100000 in
set_option maxHeartbeats 4000000 in
theorem given2_any (ta wa sa : Option Addr) (tc wc sc : Nat) (o : GOp) (w : World) (h2 : Ws w (.slice wa o.f.words.length wc) o.f.words) (h3 : Zs w (.slice sa o.serials.length sc) o.serials) (hn : OpN o) :
    Calls Tryz.prog 18 #[.agg #[.int .u8 (o.kind : Int), .int .i64 o.t.serial, .int .i64 o.t.shw, .int .i64 o.t.place, .string ⟨o.t.first.toArray⟩, .slice ta o.t.chain.length tc, .int .i64 o.serial, .int .i64 o.f.bits, .int .i64 o.f.hashes, .slice wa o.f.words.length wc, .slice sa o.serials.length sc, .int .i64 o.now]] w fun e w' =>
      ∃ wv, e = .returned (.agg #[.int .i64 (givenG o).bits, .int .i64 (givenG o).hashes, wv]) ∧ Ws w' wv (givenG o).words ∧ (wv = .slice wa o.f.words.length wc ∨ ∀ k, wv.ownBlock = some k → w.heap.size ≤ k) ∧ Below w.heap.size w w' := by
  have HN := Lib.hid hn
  have HW := Lib.hid h2
  have HZ := Lib.hid h3
  clear hn h2 h3
  obtain ⟨W0, hW0⟩ : ∃ W0, W0 = (w.alloc (.cells #[.int .u8 (o.kind : Int), .int .i64 o.t.serial, .int .i64 o.t.shw, .int .i64 o.t.place, .string ⟨o.t.first.toArray⟩, .slice ta o.t.chain.length tc, .int .i64 o.serial, .int .i64 o.f.bits, .int .i64 o.f.hashes, .slice wa o.f.words.length wc, .slice sa o.serials.length sc, .int .i64 o.now] 40)).alloc (.cells #[.int .i64 0, .int .i64 0, .slice none 0 0] 37) := ⟨_, rfl⟩
  obtain ⟨ob, eob⟩ : ∃ q, q = w.heap.size := ⟨_, rfl⟩
  obtain ⟨p, ep⟩ : ∃ q, q = w.heap.size + 1 := ⟨_, rfl⟩
  have f0 : Fr [] w W0 := by rw [hW0]; exact ((Fr.refl [] w).alloc _).alloc _
  have hob : W0.heap[ob]? = some (.cells #[.int .u8 (o.kind : Int), .int .i64 o.t.serial, .int .i64 o.t.shw, .int .i64 o.t.place, .string ⟨o.t.first.toArray⟩, .slice ta o.t.chain.length tc, .int .i64 o.serial, .int .i64 o.f.bits, .int .i64 o.f.hashes, .slice wa o.f.words.length wc, .slice sa o.serials.length sc, .int .i64 o.now] 40 (0, 0)) := by rw [hW0, eob]; exact heap_past _ (heap_new rfl)
  have hp : W0.heap[p]? = some (.cells #[.int .i64 0, .int .i64 0, .slice none 0 0] 37 (0, 0)) := by rw [hW0]; exact heap_new (by rw [ep]; simp)
  obtain ⟨r, er, e4⟩ : ∃ r : Nat, o.kind % 4 = r ∧ ((o.kind : Nat) : Int).tmod 4 = (r : Int) := ⟨_, rfl, by rw [Int.tmod_eq_emod_of_nonneg (by omega)]; omega⟩
  have hr4 : r < 4 := by omega
  have ER := Lib.hid er
  have hk := HN.out.k
  clear er
  have x0 := row_cell hob 0
  have x7 := row_cell hob 7
  have x8 := row_cell hob 8
  have x9 := row_cell hob 9
  have x10 := row_cell hob 10
  simp at x0 x7 x8 x9 x10
  rw [hW0, eob] at x0 x7 x8 x9 x10
  have z0 := row_cell hp 0
  have z1 := row_cell hp 1
  have z2 := row_cell hp 2
  simp at z0 z1 z2
  have y0 := row_free hp 0
  have y1 := row_free hp 1
  have y2 := row_free hp 2
  rw [hW0, ep] at z0 z1 z2 y0 y1 y2
  go_enter Tryz.func18, Tryz.ntmps18
  by_cases h2 : r = 2
  case pos =>
    have t1 : ((r : Int) == 2) = true := by rw [h2]; rfl
    have HG : Hid (givenG o = o.f) := Lib.hid (by unfold givenG; rw [ER.out, if_pos h2])
    clear h2
    go_wp2_with fail
    obtain ⟨V, hV⟩ : ∃ V, V = (w.alloc (.cells #[.int .u8 (o.kind : Int), .int .i64 o.t.serial, .int .i64 o.t.shw, .int .i64 o.t.place, .string ⟨o.t.first.toArray⟩, .slice ta o.t.chain.length tc, .int .i64 o.serial, .int .i64 o.f.bits, .int .i64 o.f.hashes, .slice wa o.f.words.length wc, .slice sa o.serials.length sc, .int .i64 o.now] 40)).alloc (.cells #[.int .i64 o.f.bits, .int .i64 o.f.hashes, .slice wa o.f.words.length wc] 37) := ⟨_, rfl⟩
    have hq : V.heap[w.heap.size + 1]? = some (.cells #[.int .i64 o.f.bits, .int .i64 o.f.hashes, .slice wa o.f.words.length wc] 37 (0, 0)) := by rw [hV]; exact heap_new (by simp)
    have hF := Lib.hid (show Fr [] w V by rw [hV]; exact ((Fr.refl [] w).alloc _).alloc _)
    rw [← hV]
    have m0 := row_cell hq 0
    have m1 := row_cell hq 1
    have m2 := row_cell hq 2
    simp at m0 m1 m2
    clear hq hV hW0 f0 hob hp
    refine bodyPost_ret (v := .agg #[.int .i64 o.f.bits, .int .i64 o.f.hashes, .slice wa o.f.words.length wc]) ?_ rfl ⟨.slice wa o.f.words.length wc, by rw [HG.out], by rw [HG.out]; exact HW.out.fr0 hF.out, Or.inl rfl, hF.out.toBelow (by simp)⟩
    simp only [results]
    go_simp
  have t1 : ((r : Int) == 2) = false := by rw [beq_eq_false_iff_ne]; omega
  have HF0 := Lib.hid f0
  have HG : Hid (givenG o = ⟨64, 2, makeF o.serials 64 2⟩) := Lib.hid (by unfold givenG; rw [ER.out, if_neg h2])
  clear h2
  go_wp2_with fail
  rw [← hW0, ← ep, ← eob]
  rw [← hW0, ← ep] at z0 z1 z2 y0 y1 y2
  clear x0 x7 x8 x9 x10 hW0
  refine (rmake36_any (.slice sa o.serials.length sc) o.serials 64 2 W0 (HZ.out.fr0 f0) HN.out.z).mono ?_
  rintro e W1 ⟨hq, _, hbb⟩
  obtain ⟨wv, rfl, ho⟩ := hq form64
  obtain ⟨ka, kc, rfl, _, _, _⟩ := ho.ws.form
  have hws := ho.ws
  have hko : ∀ k, (Value.slice ka (makeF o.serials 64 2).length kc).ownBlock = some k → W0.heap.size ≤ k := fun k hk => (ownBlock_cells ho k hk).1
  have hf : Fr [] W0 W1 := Fr.ofBelow hbb
  have f1 := f0.trans hf (by simp)
  have hp1 := hf.at hp (by simp)
  clear hbb ho z0 z1 z2 y0 y1 y2
  obtain ⟨W2, hW2⟩ : ∃ W2, W2 = W1.alloc (.cells #[.int .i64 64, .int .i64 2, .slice ka (makeF o.serials 64 2).length kc] 37) := ⟨_, rfl⟩
  obtain ⟨q, eq⟩ : ∃ q, q = W1.heap.size := ⟨_, rfl⟩
  have hf2 : Fr [] W1 W2 := by rw [hW2]; exact (Fr.refl [] W1).alloc _
  have hq2 : W2.heap[q]? = some (.cells #[.int .i64 64, .int .i64 2, .slice ka (makeF o.serials 64 2).length kc] 37 (0, 0)) := by rw [hW2]; exact heap_new eq
  have hp2 := hf2.at hp1 (by simp)
  have x0 := row_cell hq2 0
  have x1 := row_cell hq2 1
  have x2 := row_cell hq2 2
  simp at x0 x1 x2
  have z0 := row_cell hp2 0
  have z1 := row_cell hp2 1
  have z2 := row_cell hp2 2
  simp at z0 z1 z2
  have y0 := row_free hp2 0
  have y1 := row_free hp2 1
  have y2 := row_free hp2 2
  rw [hW2] at z0 z1 z2 y0 y1 y2
  rw [hW2] at x0 x1 x2
  have hne : p ≠ q := by have := lt_of_block hp; have := hf.size; omega
  have EP := Lib.hid ep
  clear ep eob
  rw [eq] at x0 x1 x2
  go_wp2_with fail
  rw [← hW2]
  have HX := Lib.hid (((f1.trans hf2 (by simp)).setCell ⟨p, 0, none⟩ (.int .i64 64) (by right; have := EP.out; simp; omega)).setCell ⟨p, 1, none⟩ (.int .i64 2) (by right; have := EP.out; simp; omega) |>.setCell ⟨p, 2, none⟩ (.slice ka (makeF o.serials 64 2).length kc) (by right; have := EP.out; simp; omega))
  have hws2 := hws.fr0 hf2
  have HWX : Hid (Ws (((W2.setCell ⟨p, 0, none⟩ (.int .i64 64)).setCell ⟨p, 1, none⟩ (.int .i64 2)).setCell ⟨p, 2, none⟩ (.slice ka (makeF o.serials 64 2).length kc)) (.slice ka (makeF o.serials 64 2).length kc) (makeF o.serials 64 2)) := Lib.hid (hws2.frX ((((Fr.refl [p] W2).setCell ⟨p, 0, none⟩ (.int .i64 64) (by simp)).setCell ⟨p, 1, none⟩ (.int .i64 2) (by simp)).setCell ⟨p, 2, none⟩ (.slice ka (makeF o.serials 64 2).length kc) (by simp)) (fun k hk hm => by
    have h1 := hko k hk
    rw [List.mem_singleton.1 hm] at h1
    have h2 := lt_of_block hp
    omega))
  have HRX := row_set (row_set (row_set hp2 0 (.int .i64 64)) 1 (.int .i64 2)) 2 (.slice ka (makeF o.serials 64 2).length kc)
  have m0 := row_cell HRX 0
  have m1 := row_cell HRX 1
  have m2 := row_cell HRX 2
  simp at m0 m1 m2
  refine bodyPost_ret (v := .agg #[.int .i64 64, .int .i64 2, .slice ka (makeF o.serials 64 2).length kc]) ?_ rfl ⟨.slice ka (makeF o.serials 64 2).length kc, by rw [HG.out], by rw [HG.out]; exact HWX.out, Or.inr (fun k hk => Nat.le_trans HF0.out.size (hko k hk)), HX.out.toBelow (by simp)⟩
  simp only [results]
  go_simp
theorem given_any (v : Value) (o : GOp) (w : World) (hv : OpR w v o) (hn : OpN o) :
    Calls Tryz.prog 18 #[v] w fun e w' => ∃ fv, e = .returned fv ∧ FltR w' fv (givenG o) ∧ Below w.heap.size w w' := by
  obtain ⟨ta, wa, sa, tc, wc, sc, rfl, h1, h2, h3⟩ := hv
  refine (given2_any ta wa sa tc wc sc o w h2 h3 hn).mono ?_
  rintro e w' ⟨wv, rfl, h4, _, hb⟩
  exact ⟨_, rfl, ⟨_, rfl, h4⟩, hb⟩
end Go.Proofs.YtglgkdbhdjkeaaaGreatDoor
namespace Go.Proofs.YtglgkdbhdjkeaaaGreatDoor
open Go.RowKit Go.WideMaps Go.Maps

theorem GateQ.back {B : Nat} {w W w' : World} {gp : Nat} {g : Gst} {F : List Nat} (hf : Fr [] w W) (h : GateQ B W gp g F w') : GateQ B w gp g F w' := by
  obtain ⟨F', h1, h2, h3⟩ := h
  exact ⟨F', h1, (hf.mono (Y := F) (by simp)).trans h2 (fun y hy => Or.inl hy), fun k hk => (h3 k hk).imp id (fun h4 => Nat.le_trans hf.size h4)⟩
theorem given_len {o : GOp} (h : o.f.words.length ≤ 100000) : (givenG o).words.length ≤ 100000 := by
  unfold givenG
  split
  · exact h
  · show (makeF o.serials 64 2).length ≤ 100000
    rw [makeF_len]; decide
set_option maxRecDepth 100000 in
set_option maxHeartbeats 4000000 in
theorem do_any (B gp : Nat) (g : Gst) (F : List Nat) (v : Value) (o : GOp) (w : World) (h : GateR B w gp g F) (hv : OpR w v o) (hS : OpS o) (hT : TabsF w) :
    Calls Tryz.prog 14 #[gateP gp, v] w fun e w' => e = .returned (.tuple #[.int .i64 (doG g o).2.1, .int .i64 (doG g o).2.2]) ∧ GateQ B w gp (doG g o).1 F w' := by
  have hmx : Tryz.prog.follows .mixedOrders = true := by kernel_rfl
  obtain ⟨ta, wa, sa, tc, wc, sc, rfl, h1, h2, h3⟩ := hv
  obtain ⟨W0, hW0⟩ : ∃ W0, W0 = w.alloc (.cells #[.int .u8 (o.kind : Int), .int .i64 o.t.serial, .int .i64 o.t.shw, .int .i64 o.t.place, .string ⟨o.t.first.toArray⟩, .slice ta o.t.chain.length tc, .int .i64 o.serial, .int .i64 o.f.bits, .int .i64 o.f.hashes, .slice wa o.f.words.length wc, .slice sa o.serials.length sc, .int .i64 o.now] 40) := ⟨_, rfl⟩
  obtain ⟨ob, eob⟩ : ∃ q, q = w.heap.size := ⟨_, rfl⟩
  have f0 : Fr [] w W0 := by rw [hW0]; exact (Fr.refl [] w).alloc _
  have hob : W0.heap[ob]? = some (.cells #[.int .u8 (o.kind : Int), .int .i64 o.t.serial, .int .i64 o.t.shw, .int .i64 o.t.place, .string ⟨o.t.first.toArray⟩, .slice ta o.t.chain.length tc, .int .i64 o.serial, .int .i64 o.f.bits, .int .i64 o.f.hashes, .slice wa o.f.words.length wc, .slice sa o.serials.length sc, .int .i64 o.now] 40 (0, 0)) := by rw [hW0]; exact heap_new eob
  have HG := Lib.hid (h.fr f0 (by simp))
  have HGE : Hid (∀ k ∈ F, k < ob) := Lib.hid (fun k hk => by rw [eob]; exact (h.blocks k hk).2)
  have HTR := Lib.hid (h1.fr f0)
  have HWS := Lib.hid (h2.fr0 f0)
  have HZS := Lib.hid (h3.fr0 f0)
  have HS := Lib.hid hS
  have HT := Lib.hid (hT.fr f0)
  have HF := Lib.hid f0
  clear h h1 h2 h3 hS hT f0
  obtain ⟨r, er, e4⟩ : ∃ r : Nat, o.kind % 4 = r ∧ ((o.kind : Nat) : Int).tmod 4 = (r : Int) := ⟨_, rfl, by rw [Int.tmod_eq_emod_of_nonneg (by omega)]; omega⟩
  have hr4 : r < 4 := by omega
  have ER := Lib.hid er
  have hk := HS.out.k
  clear er
  have x0 := row_cell hob 0
  have x1 := row_cell hob 1
  have x2 := row_cell hob 2
  have x3 := row_cell hob 3
  have x4 := row_cell hob 4
  have x5 := row_cell hob 5
  have x6 := row_cell hob 6
  have x7 := row_cell hob 7
  have x8 := row_cell hob 8
  have x9 := row_cell hob 9
  have x10 := row_cell hob 10
  have x11 := row_cell hob 11
  simp at x0 x1 x2 x3 x4 x5 x6 x7 x8 x9 x10 x11
  rw [hW0, eob] at x0 x1 x2 x3 x4 x5 x6 x7 x8 x9 x10 x11
  unfold gateP
  go_enter Tryz.func14, Tryz.ntmps14
  by_cases h0 : r = 0
  case pos =>
    have t1 : ((r : Int) == 0) = true := by rw [h0]; rfl
    have HD : Hid (doG g o = scanG g o.t o.now) := Lib.hid (by unfold doG; rw [ER.out, if_pos h0])
    clear h0
    go_wp2_with fail
    rw [← hW0, ← eob]
    clear hW0 eob x0 x1 x2 x3 x4 x5 x6 x7 x8 x9 x10 x11
    refine (gscan_any B gp g F _ o.t o.now W0 HG.out ⟨_, rfl, HTR.out⟩ HS.out.st HT.out.t).mono ?_
    rintro e w1 ⟨rfl, hq⟩
    have HQ := Lib.hid (hq.back HF.out)
    clear hq
    go_wp2_with fail
    go_ret2
    rw [HD.out]
    exact ⟨rfl, HQ.out⟩
  have t1 : ((r : Int) == 0) = false := by rw [beq_eq_false_iff_ne]; omega
  by_cases h1 : r = 1
  case pos =>
    have t2 : ((r : Int) == 1) = true := by rw [h1]; rfl
    have HD : Hid (doG g o = ((leaveG g o.serial o.now).1, 0, (leaveG g o.serial o.now).2)) := Lib.hid (by unfold doG; rw [ER.out, if_neg h0, if_pos h1])
    clear h0 h1
    go_wp2_with fail
    rw [← hW0, ← eob]
    clear hW0 eob x0 x1 x2 x3 x4 x5 x6 x7 x8 x9 x10 x11
    refine (gleave_any B gp g F o.serial o.now W0 HG.out HS.out.s).mono ?_
    rintro e w1 ⟨rfl, hq⟩
    have HQ := Lib.hid (hq.back HF.out)
    clear hq
    go_wp2_with fail
    go_ret2
    rw [HD.out]
    exact ⟨rfl, HQ.out⟩
  have t2 : ((r : Int) == 1) = false := by rw [beq_eq_false_iff_ne]; omega
  have HD : Hid (doG g o = ((syncG g (givenG o) o.now).1, 0, (syncG g (givenG o) o.now).2)) := Lib.hid (by unfold doG; rw [ER.out, if_neg h0, if_neg h1])
  clear h0 h1
  go_wp2_with fail
  rw [← hW0, ← eob]
  rw [← hW0, ← eob] at x0 x1 x2 x3 x4 x5 x6 x7 x8 x9 x10 x11
  have HOB := Lib.hid hob
  clear hW0 eob hob
  have gr0 : Fr [] W0 W0.drew := (Fr.refl [] W0).drew
  have hSr0 : W0.drew.cell? ⟨ob, 0, none⟩ = some (.int .u8 (o.kind : Int)) ∧ W0.drew.cell? ⟨ob, 1, none⟩ = some (.int .i64 o.t.serial) ∧ W0.drew.cell? ⟨ob, 2, none⟩ = some (.int .i64 o.t.shw) ∧ W0.drew.cell? ⟨ob, 3, none⟩ = some (.int .i64 o.t.place) ∧ W0.drew.cell? ⟨ob, 4, none⟩ = some (.string ⟨o.t.first.toArray⟩) ∧ W0.drew.cell? ⟨ob, 5, none⟩ = some (.slice ta o.t.chain.length tc) ∧ W0.drew.cell? ⟨ob, 6, none⟩ = some (.int .i64 o.serial) ∧ W0.drew.cell? ⟨ob, 7, none⟩ = some (.int .i64 o.f.bits) ∧ W0.drew.cell? ⟨ob, 8, none⟩ = some (.int .i64 o.f.hashes) ∧ W0.drew.cell? ⟨ob, 9, none⟩ = some (.slice wa o.f.words.length wc) ∧ W0.drew.cell? ⟨ob, 10, none⟩ = some (.slice sa o.serials.length sc) ∧ W0.drew.cell? ⟨ob, 11, none⟩ = some (.int .i64 o.now) := ⟨gr0.cell x0 (by simp), gr0.cell x1 (by simp), gr0.cell x2 (by simp), gr0.cell x3 (by simp), gr0.cell x4 (by simp), gr0.cell x5 (by simp), gr0.cell x6 (by simp), gr0.cell x7 (by simp), gr0.cell x8 (by simp), gr0.cell x9 (by simp), gr0.cell x10 (by simp), gr0.cell x11 (by simp)⟩
  refine region_held 100 (fun W' => W'.cell? ⟨ob, 0, none⟩ = some (.int .u8 (o.kind : Int)) ∧ W'.cell? ⟨ob, 1, none⟩ = some (.int .i64 o.t.serial) ∧ W'.cell? ⟨ob, 2, none⟩ = some (.int .i64 o.t.shw) ∧ W'.cell? ⟨ob, 3, none⟩ = some (.int .i64 o.t.place) ∧ W'.cell? ⟨ob, 4, none⟩ = some (.string ⟨o.t.first.toArray⟩) ∧ W'.cell? ⟨ob, 5, none⟩ = some (.slice ta o.t.chain.length tc) ∧ W'.cell? ⟨ob, 6, none⟩ = some (.int .i64 o.serial) ∧ W'.cell? ⟨ob, 7, none⟩ = some (.int .i64 o.f.bits) ∧ W'.cell? ⟨ob, 8, none⟩ = some (.int .i64 o.f.hashes) ∧ W'.cell? ⟨ob, 9, none⟩ = some (.slice wa o.f.words.length wc) ∧ W'.cell? ⟨ob, 10, none⟩ = some (.slice sa o.serials.length sc) ∧ W'.cell? ⟨ob, 11, none⟩ = some (.int .i64 o.now)) hmx ?_
  change Held _ _ _ _ _ _ 8 (Array.replicate 8 false) _ _
  refine hd_take 0 (v := .pointer (some ⟨gp, 0, none⟩)) rfl (by kernel_rfl) (by kernel_rfl) (by kernel_rfl) rfl hSr0 (fun W' hS => by go_simp) rfl ?_
  refine hd_take 1 (v := .agg #[.int .u8 (o.kind : Int), .int .i64 o.t.serial, .int .i64 o.t.shw, .int .i64 o.t.place, .string ⟨o.t.first.toArray⟩, .slice ta o.t.chain.length tc, .int .i64 o.serial, .int .i64 o.f.bits, .int .i64 o.f.hashes, .slice wa o.f.words.length wc, .slice sa o.serials.length sc, .int .i64 o.now]) rfl (by kernel_rfl) (by kernel_rfl) (by kernel_rfl) rfl hSr0 (fun W' hS => by obtain ⟨s0, s1, s2, s3, s4, s5, s6, s7, s8, s9, s10, s11⟩ := hS; go_simp) rfl ?_
  refine hd_take 3 (v := .pointer (some ⟨ob, 11, none⟩)) rfl (by kernel_rfl) (by kernel_rfl) (by kernel_rfl) rfl hSr0 (fun W' hS => by go_simp) rfl ?_
  try simp only [Act.put, List.setIfInBounds_toArray, List.set_cons_zero, List.set_cons_succ]
  refine hd_take 4 (v := .int .i64 o.now) rfl (by kernel_rfl) (by kernel_rfl) (by kernel_rfl) rfl hSr0 (fun W' hS => by obtain ⟨s0, s1, s2, s3, s4, s5, s6, s7, s8, s9, s10, s11⟩ := hS; go_simp) rfl ?_
  try simp only [Act.put, List.setIfInBounds_toArray, List.set_cons_zero, List.set_cons_succ]
  refine hd_one 2 (by kernel_rfl) rfl (by kernel_rfl) rfl (fun K' hK => ?_)
  go_simp
  refine (given_any _ o W0.drew ⟨ta, wa, sa, tc, wc, sc, rfl, HTR.out.fr gr0, HWS.out.fr0 gr0, HZS.out.fr0 gr0⟩ HS.out.toOpN).mono ?_
  rintro e yr1 ⟨fv, rfl, hfv, hbb⟩
  have gr1 : Fr [] W0 yr1 := gr0.below hbb gr0.size
  have HFV := Lib.hid hfv
  clear hfv
  clear hbb
  have hSr1 : yr1.cell? ⟨ob, 0, none⟩ = some (.int .u8 (o.kind : Int)) ∧ yr1.cell? ⟨ob, 1, none⟩ = some (.int .i64 o.t.serial) ∧ yr1.cell? ⟨ob, 2, none⟩ = some (.int .i64 o.t.shw) ∧ yr1.cell? ⟨ob, 3, none⟩ = some (.int .i64 o.t.place) ∧ yr1.cell? ⟨ob, 4, none⟩ = some (.string ⟨o.t.first.toArray⟩) ∧ yr1.cell? ⟨ob, 5, none⟩ = some (.slice ta o.t.chain.length tc) ∧ yr1.cell? ⟨ob, 6, none⟩ = some (.int .i64 o.serial) ∧ yr1.cell? ⟨ob, 7, none⟩ = some (.int .i64 o.f.bits) ∧ yr1.cell? ⟨ob, 8, none⟩ = some (.int .i64 o.f.hashes) ∧ yr1.cell? ⟨ob, 9, none⟩ = some (.slice wa o.f.words.length wc) ∧ yr1.cell? ⟨ob, 10, none⟩ = some (.slice sa o.serials.length sc) ∧ yr1.cell? ⟨ob, 11, none⟩ = some (.int .i64 o.now) := ⟨gr1.cell x0 (by simp), gr1.cell x1 (by simp), gr1.cell x2 (by simp), gr1.cell x3 (by simp), gr1.cell x4 (by simp), gr1.cell x5 (by simp), gr1.cell x6 (by simp), gr1.cell x7 (by simp), gr1.cell x8 (by simp), gr1.cell x9 (by simp), gr1.cell x10 (by simp), gr1.cell x11 (by simp)⟩
  refine hK.out _ _ (fun _ => hSr1) ?_
  clear hK K'
  try simp only [Act.put, List.setIfInBounds_toArray, List.set_cons_zero, List.set_cons_succ]
  refine hd_one 5 (by kernel_rfl) rfl (by kernel_rfl) rfl (fun K' hK => ?_)
  go_simp
  refine (gsync_any B gp g F _ (givenG o) o.now yr1 (HG.out.fr gr1 (by simp)) HFV.out (given_W64 HS.out.f) (given_len HS.out.sf) (HT.out.fr gr1)).mono ?_
  rintro e w2 ⟨rfl, hq⟩
  have HQ := Lib.hid ((hq.back gr1).back HF.out)
  obtain ⟨F2, hg2, hx2, hk2⟩ := hq
  have nob : ob ∉ F := fun h => by have := HGE.out ob h; omega
  refine hK.out _ _ (fun _ => ⟨hx2.cell (gr1.cell x0 (by simp)) nob, hx2.cell (gr1.cell x1 (by simp)) nob, hx2.cell (gr1.cell x2 (by simp)) nob, hx2.cell (gr1.cell x3 (by simp)) nob, hx2.cell (gr1.cell x4 (by simp)) nob, hx2.cell (gr1.cell x5 (by simp)) nob, hx2.cell (gr1.cell x6 (by simp)) nob, hx2.cell (gr1.cell x7 (by simp)) nob, hx2.cell (gr1.cell x8 (by simp)) nob, hx2.cell (gr1.cell x9 (by simp)) nob, hx2.cell (gr1.cell x10 (by simp)) nob, hx2.cell (gr1.cell x11 (by simp)) nob⟩) ?_
  clear hK K'
  try simp only [Act.put, List.setIfInBounds_toArray, List.set_cons_zero, List.set_cons_succ]
  have hS5 : w2.cell? ⟨ob, 0, none⟩ = some (.int .u8 (o.kind : Int)) ∧ w2.cell? ⟨ob, 1, none⟩ = some (.int .i64 o.t.serial) ∧ w2.cell? ⟨ob, 2, none⟩ = some (.int .i64 o.t.shw) ∧ w2.cell? ⟨ob, 3, none⟩ = some (.int .i64 o.t.place) ∧ w2.cell? ⟨ob, 4, none⟩ = some (.string ⟨o.t.first.toArray⟩) ∧ w2.cell? ⟨ob, 5, none⟩ = some (.slice ta o.t.chain.length tc) ∧ w2.cell? ⟨ob, 6, none⟩ = some (.int .i64 o.serial) ∧ w2.cell? ⟨ob, 7, none⟩ = some (.int .i64 o.f.bits) ∧ w2.cell? ⟨ob, 8, none⟩ = some (.int .i64 o.f.hashes) ∧ w2.cell? ⟨ob, 9, none⟩ = some (.slice wa o.f.words.length wc) ∧ w2.cell? ⟨ob, 10, none⟩ = some (.slice sa o.serials.length sc) ∧ w2.cell? ⟨ob, 11, none⟩ = some (.int .i64 o.now) := ⟨hx2.cell (gr1.cell x0 (by simp)) nob, hx2.cell (gr1.cell x1 (by simp)) nob, hx2.cell (gr1.cell x2 (by simp)) nob, hx2.cell (gr1.cell x3 (by simp)) nob, hx2.cell (gr1.cell x4 (by simp)) nob, hx2.cell (gr1.cell x5 (by simp)) nob, hx2.cell (gr1.cell x6 (by simp)) nob, hx2.cell (gr1.cell x7 (by simp)) nob, hx2.cell (gr1.cell x8 (by simp)) nob, hx2.cell (gr1.cell x9 (by simp)) nob, hx2.cell (gr1.cell x10 (by simp)) nob, hx2.cell (gr1.cell x11 (by simp)) nob⟩
  refine hd_take 6 (v := .int .i64 0) rfl (by kernel_rfl) (by kernel_rfl) (by kernel_rfl) rfl hS5 (fun W' hS => by go_simp) rfl ?_
  refine hd_take 7 (v := .int .i64 (syncG g (givenG o) o.now).2) rfl (by kernel_rfl) (by kernel_rfl) (by kernel_rfl) rfl hS5 (fun W' hS => by go_simp) rfl ?_
  try simp only [Act.put, List.setIfInBounds_toArray, List.set_cons_zero, List.set_cons_succ]
  refine held_done (by kernel_rfl) ?_
  clear hg2 hx2 hk2 hS5
  go_wp2_with fail
  go_ret2
  rw [HD.out]
  exact ⟨rfl, HQ.out⟩
end Go.Proofs.YtglgkdbhdjkeaaaGreatDoor
namespace Go.Proofs.YtglgkdbhdjkeaaaGreatDoor
open Go.RowKit

set_option maxRecDepth 100000 in
theorem scan_eq (x y : Scn) (w : World) : (Op.equalIn 10000 58 (.agg (scC x).toArray) (.agg (scC y).toArray)).run Tryz.prog w = .ok (decide (x = y)) w := by
  have u3 := Tryz.underlying9
  have a3 := Tryz.isAgg9
  have z3 := Tryz.sizeOf9
  have u4 := Tryz.underlying3
  have a4 := Tryz.isAgg3
  have z4 := Tryz.sizeOf3
  rw [show (10000 : Nat) = 9999 + 1 from rfl, run_equalIn_agg _ _ _ _ _ (by kernel_rfl) (by kernel_rfl)]
  obtain ⟨a1, a2, a3, a4, a5, a6⟩ := x
  obtain ⟨b1, b2, b3, b4, b5, b6⟩ := y
  unfold scC
  go_simp
  by_cases h1 : a1 = b1 <;> by_cases h2 : a2 = b2 <;> by_cases h3 : a3 = b3 <;> by_cases h4 : a4 = b4 <;> by_cases h5 : a5 = b5 <;> by_cases h6 : a6 = b6 <;> simp [h1, h2, h3, h4, h5, h6]

/-- What the gate of head does. -/
theorem headG (f : Flt) (t u : Ttl) (x : Bool) (hx : hasF f 10001 = x) (h2 : hasF f 10002 = true) (hv : validF f = true) (ht : validT t = true) (t1 : t.serial = 10001) (t2 : t.shw = 0)
    (hu : validT u = true) (u1 : u.serial = 10002) (u2 : u.shw = 0) (ho : ownerT t = t.first) :
    scanG (newG 3 0 100) t 10 = (newG 3 0 100, 0, 26) ∧ ∃ g1 g2 g3 g4 g5 g6 : Gst, syncG (newG 3 0 100) f 50 = (g1, 0) ∧ scanG g1 t 60 = (g2, (if x then 3 else 1), 0) ∧ scanG g2 t 61 = (g3, 3, 0) ∧
      leaveG g3 10001 70 = (g4, if x then 11 else 0) ∧ scanG g4 t 80 = (g5, (if x then 3 else 1), 0) ∧ scanG g5 u 90 = (g6, 3, 0) ∧ scanG g6 t 80 = (g6, 0, 17) ∧ scanG g6 t 151 = (g6, 0, 26) ∧
      ∃ r, g6.log = ⟨3, 1, 60, 10001, if x then 3 else 1, t.first⟩ :: r := by
  refine ⟨by simp [scanG, comeG, timeB, newG], ⟨3, 0, 100, 50, 50, f, []⟩, ?_⟩
  cases x with
  | false =>
    refine ⟨⟨3, 0, 100, 60, 50, f, [⟨3, 1, 60, 10001, 1, t.first⟩]⟩, ⟨3, 0, 100, 61, 50, f, [⟨3, 1, 60, 10001, 1, t.first⟩, ⟨3, 2, 61, 10001, 3, t.first⟩]⟩,
      ⟨3, 0, 100, 70, 50, f, [⟨3, 1, 60, 10001, 1, t.first⟩, ⟨3, 2, 61, 10001, 3, t.first⟩, ⟨3, 3, 70, 10001, 2, t.first⟩]⟩,
      ⟨3, 0, 100, 80, 50, f, [⟨3, 1, 60, 10001, 1, t.first⟩, ⟨3, 2, 61, 10001, 3, t.first⟩, ⟨3, 3, 70, 10001, 2, t.first⟩, ⟨3, 4, 80, 10001, 1, t.first⟩]⟩,
      ⟨3, 0, 100, 90, 50, f, [⟨3, 1, 60, 10001, 1, t.first⟩, ⟨3, 2, 61, 10001, 3, t.first⟩, ⟨3, 3, 70, 10001, 2, t.first⟩, ⟨3, 4, 80, 10001, 1, t.first⟩, ⟨3, 5, 90, 10002, 3, ownerT u⟩]⟩, ?_⟩
    refine ⟨?_, ?_, ?_, ?_, ?_, ?_, ?_, ?_, ⟨_, rfl⟩⟩ <;>
      simp [syncG, scanG, leaveG, comeG, timeB, newG, kindG, admG, putG, insR, insS, hx, h2, hv, ht, t1, t2, hu, u1, u2, ho]
  | true =>
    refine ⟨⟨3, 0, 100, 60, 50, f, [⟨3, 1, 60, 10001, 3, t.first⟩]⟩, ⟨3, 0, 100, 61, 50, f, [⟨3, 1, 60, 10001, 3, t.first⟩, ⟨3, 2, 61, 10001, 3, t.first⟩]⟩,
      ⟨3, 0, 100, 61, 50, f, [⟨3, 1, 60, 10001, 3, t.first⟩, ⟨3, 2, 61, 10001, 3, t.first⟩]⟩,
      ⟨3, 0, 100, 80, 50, f, [⟨3, 1, 60, 10001, 3, t.first⟩, ⟨3, 2, 61, 10001, 3, t.first⟩, ⟨3, 3, 80, 10001, 3, t.first⟩]⟩,
      ⟨3, 0, 100, 90, 50, f, [⟨3, 1, 60, 10001, 3, t.first⟩, ⟨3, 2, 61, 10001, 3, t.first⟩, ⟨3, 3, 80, 10001, 3, t.first⟩, ⟨3, 4, 90, 10002, 3, ownerT u⟩]⟩, ?_⟩
    refine ⟨?_, ?_, ?_, ?_, ?_, ?_, ?_, ?_, ⟨_, rfl⟩⟩ <;>
      simp [syncG, scanG, leaveG, comeG, timeB, newG, kindG, admG, putG, insR, insS, hx, h2, hv, ht, t1, t2, hu, u1, u2, ho]
theorem validT_empty {s h : Int} {l : List UInt8} (hh : 0 ≤ h ∧ h < 20) (hs : 1 ≤ s - (h + 1) * 10000 ∧ s - (h + 1) * 10000 ≤ 9999) (hl : isD l = true) : validT ⟨s, h, 0, l, []⟩ = true := by
  unfold validT
  rw [formedT_yes (t := ⟨s, h, 0, l, []⟩) ⟨hh, hs, ⟨by show (-1 : Int) ≤ 0; decide, by show (0 : Int) < 4000; decide⟩, hl, by simp, rfl⟩]
  rfl
end Go.Proofs.YtglgkdbhdjkeaaaGreatDoor
namespace Go.Proofs.YtglgkdbhdjkeaaaGreatDoor
open Go.RowKit

theorem isDl16 {l : List UInt8} (h : isD l = true) : l.length = 16 := by
  unfold isD at h
  simp only [Bool.and_eq_true, beq_iff_eq] at h
  exact h.1
theorem small_empty {s h : Int} {A : List UInt8} (hs : -9223372036854775808 ≤ s ∧ s ≤ 9223372036854775807) (hh : -9223372036854775808 ≤ h ∧ h ≤ 9223372036854775807) (hA : A.length = 16) : TSmall ⟨s, h, 0, A, []⟩ :=
  ⟨⟨hs, hh, ⟨by show (-9223372036854775808 : Int) ≤ 0; decide, by show (0 : Int) ≤ 9223372036854775807; decide⟩⟩, by show A.length ≤ 100000; omega, Nat.zero_le _, fun x hx => by cases hx⟩
/-- What lies in memory while head runs. -/
structure HK (w W : World) (A A' : List UInt8) (gp p1 p2 p3 g3 c3 : Nat) (ws : List Nat) (g : Gst) (F : List Nat) : Prop where
  gate : GateR w.heap.size W gp g F
  fr : Fr [] w W
  h1 : W.heap[p1]? = some (.cells #[.int .i64 10001, .int .i64 0, .int .i64 0, .string ⟨A.toArray⟩, .slice none 0 0] 34 (0, 0))
  h2 : W.heap[p2]? = some (.cells #[.int .i64 10002, .int .i64 0, .int .i64 0, .string ⟨A'.toArray⟩, .slice none 0 0] 34 (0, 0))
  h3 : W.heap[p3]? = some (.cells #[.int .i64 64, .int .i64 2, .slice (some ⟨g3, 0, none⟩) 1 c3] 37 (0, 0))
  ws : Ws W (.slice (some ⟨g3, 0, none⟩) 1 c3) ws
  no : ∀ k ∈ F, k ≠ p1 ∧ k ≠ p2 ∧ k ≠ p3 ∧ k ≠ g3
  lt : g3 < W.heap.size
theorem HK.step {w W W' : World} {A A' : List UInt8} {gp p1 p2 p3 g3 c3 : Nat} {ws : List Nat} {g g' : Gst} {F : List Nat} (h : HK w W A A' gp p1 p2 p3 g3 c3 ws g F) (q : GateQ w.heap.size W gp g' F W') : ∃ F', HK w W' A A' gp p1 p2 p3 g3 c3 ws g' F' := by
  obtain ⟨F', q1, q2, q3⟩ := q
  have hF := h.gate.blocks
  refine ⟨F', q1, h.fr.trans q2 (fun y hy => Or.inr (hF y hy).1), q2.at h.h1 (fun hm => (h.no _ hm).1 rfl), q2.at h.h2 (fun hm => (h.no _ hm).2.1 rfl), q2.at h.h3 (fun hm => (h.no _ hm).2.2.1 rfl), h.ws.frX q2 (fun k hk hm => (h.no k hm).2.2.2 ?_), ?_, Nat.lt_of_lt_of_le h.lt q2.size⟩
  · simpa [Value.ownBlock] using hk.symm
  · intro k hk
    rcases q3 k hk with hm | hm
    · exact h.no k hm
    · have := lt_of_block h.h1; have := lt_of_block h.h2; have := lt_of_block h.h3; have := h.lt; omega
set_option maxRecDepth 100000 in
set_option maxHeartbeats 8000000 in
theorem head37_any (w : World) (hT : TabsF w) :
    Calls Tryz.prog 10 #[] w fun e w' => e = .returned (.bool true) ∧ Below w.heap.size w w' := by
  have hmx : Tryz.prog.follows .mixedOrders = true := by kernel_rfl
  have HT := Lib.hid hT
  clear hT
  go_enter Tryz.func10, Tryz.ntmps10
  go_wp2_with fail
  refine (gnew_any 3 0 100 w).mono ?_
  rintro e w1 ⟨hq, _, hb⟩
  obtain ⟨rfl, hg⟩ := hq (by decide)
  have f1 : Fr [] w w1 := Fr.ofBelow hb
  obtain ⟨gp, egp⟩ : ∃ q, q = w.heap.size + 1 := ⟨_, rfl⟩
  have hb0 : ∀ k ∈ [w.heap.size + 1, w.heap.size], k < w1.heap.size := fun k hk => (hg.blocks k hk).2
  generalize [w.heap.size + 1, w.heap.size] = F0 at hg hb0
  rw [← egp] at hg ⊢
  have HG1 := Lib.hid hg
  have HB0 := Lib.hid hb0
  have HF1 := Lib.hid f1
  clear hq hb hg hb0 f1 egp
  go_wp2_with fail
  refine (public_any [97, 110, 110] w1 (by decide) (HT.out.t.fr HF1.out)).mono ?_
  rintro e w2 ⟨rfl, hb⟩
  have hfw2 : Fr [] w w2 := (HF1.out).below hb (HF1.out).size
  have hD1 : isD (publicS [97, 110, 110]) = true := publicS_isD _
  have ff1 : Fr [] w1 w2 := Fr.ofBelow hb
  generalize publicS [97, 110, 110] = A at hD1 ⊢
  clear hb
  go_wp2_with fail
  obtain ⟨W1, hW1⟩ : ∃ W, W = w2.alloc (.cells #[.int .i64 10001, .int .i64 0, .int .i64 0, .string ⟨A.toArray⟩, .slice none 0 0] 34) := ⟨_, rfl⟩
  obtain ⟨p1, ep1⟩ : ∃ p, p = w2.heap.size := ⟨_, rfl⟩
  have hp1 : W1.heap[p1]? = some (.cells #[.int .i64 10001, .int .i64 0, .int .i64 0, .string ⟨A.toArray⟩, .slice none 0 0] 34 (0, 0)) := by rw [hW1, ep1]; exact heap_new rfl
  have aa1 : Fr [] w2 W1 := by rw [hW1]; exact (Fr.refl [] w2).alloc _
  rw [← hW1, ← ep1]
  have b1 := ff1.trans aa1 (by simp)
  have hFW1 := hfw2.trans aa1 (by simp)
  have hs1 : w1.heap.size ≤ p1 := by rw [ep1]; exact ff1.size
  clear hW1 ep1 ff1 aa1 hfw2
  go_wp2_with fail
  refine (public_any [98, 111, 98] W1 (by decide) (HT.out.t.fr hFW1)).mono ?_
  rintro e w3 ⟨rfl, hb⟩
  have hfw3 : Fr [] w w3 := (hFW1).below hb (hFW1).size
  have hD2 : isD (publicS [98, 111, 98]) = true := publicS_isD _
  have ff2 : Fr [] W1 w3 := Fr.ofBelow hb
  generalize publicS [98, 111, 98] = A' at hD2 ⊢
  clear hb
  go_wp2_with fail
  obtain ⟨W2, hW2⟩ : ∃ W, W = w3.alloc (.cells #[.int .i64 10002, .int .i64 0, .int .i64 0, .string ⟨A'.toArray⟩, .slice none 0 0] 34) := ⟨_, rfl⟩
  obtain ⟨p2, ep2⟩ : ∃ p, p = w3.heap.size := ⟨_, rfl⟩
  have hp2 : W2.heap[p2]? = some (.cells #[.int .i64 10002, .int .i64 0, .int .i64 0, .string ⟨A'.toArray⟩, .slice none 0 0] 34 (0, 0)) := by rw [hW2, ep2]; exact heap_new rfl
  have aa2 : Fr [] w3 W2 := by rw [hW2]; exact (Fr.refl [] w3).alloc _
  rw [← hW2, ← ep2]
  have b2 := b1.trans (ff2.trans aa2 (by simp)) (by simp)
  have hFW2 := hfw3.trans aa2 (by simp)
  have hs2 : W1.heap.size ≤ p2 := by rw [ep2]; exact ff2.size
  have hsz : p2 + 1 = W2.heap.size := by rw [ep2, hW2]; simp
  have hp1b := aa2.at (ff2.at hp1 (by simp)) (by simp)
  clear hW2 ep2 ff2 aa2 hfw3
  obtain ⟨W3, hW3⟩ : ∃ W, W = W2.alloc (.cells #[.int .i64 10002] 3) := ⟨_, rfl⟩
  obtain ⟨q3, eq3⟩ : ∃ p, p = p2 + 1 := ⟨_, rfl⟩
  have hi3 : W3.heap[q3]? = some (.cells #[.int .i64 10002] 3 (0, 0)) := by rw [hW3, eq3]; exact heap_new hsz
  have aa3 : Fr [] W2 W3 := by rw [hW3]; exact (Fr.refl [] W2).alloc _
  rw [← hW3, ← eq3]
  have hFW3 := hFW2.trans aa3 (by simp)
  refine (make_any (.slice (some ⟨q3, 0, none⟩) 1 1) [10002] 64 2 W3 (Or.inr ⟨q3, 0, 1, rfl, Nat.le_refl _, by decide, lt_of_block hi3, fun i hi => by
      rw [row_cell hi3]
      match i, hi with
      | 0, _ => rfl⟩) (fun s hs => by rw [List.mem_singleton.1 hs]; decide) (HT.out.t.fr hFW3)).mono ?_
  rintro e w4 ⟨hq, _, hb⟩
  obtain ⟨wv, rfl, ho⟩ := hq (by decide)
  have H2 : Hid (hasF ⟨64, 2, makeF [10002] 64 2⟩ 10002 = true) := Lib.hid (has_make (by decide) (by simp))
  have HVF : Hid (validF ⟨64, 2, makeF [10002] 64 2⟩ = true) := Lib.hid (valid_make (by decide))
  have HWh := Lib.hid (makeF_lt [10002] 64 2)
  have hlh : (makeF [10002] 64 2).length = 1 := makeF_len _ _ _
  generalize makeF [10002] 64 2 = H at ho H2 HVF HWh hlh
  obtain ⟨g3, c3, rfl⟩ := ho.someN (by omega)
  have ff4 : Fr [] W3 w4 := Fr.ofBelow hb
  have hg3 : W3.heap.size ≤ g3 ∧ g3 < w4.heap.size := by
      rcases ho.form with ⟨h0, _⟩ | ⟨g, cap, cur, h0, hb2, hg2, _⟩
      · cases h0
      · cases h0; exact ⟨hb2, lt_of_block hg2⟩
  rw [hlh] at ho ⊢
  clear hq hb hi3
  obtain ⟨W4, hW4⟩ : ∃ W, W = w4.alloc (.cells #[.int .i64 64, .int .i64 2, .slice (some ⟨g3, 0, none⟩) 1 c3] 37) := ⟨_, rfl⟩
  obtain ⟨p3, ep3⟩ : ∃ p, p = w4.heap.size := ⟨_, rfl⟩
  have hp3 : W4.heap[p3]? = some (.cells #[.int .i64 64, .int .i64 2, .slice (some ⟨g3, 0, none⟩) 1 c3] 37 (0, 0)) := by rw [hW4, ep3]; exact heap_new rfl
  have aa4 : Fr [] w4 W4 := by rw [hW4]; exact (Fr.refl [] w4).alloc _
  have a34 := ff4.trans aa4 (by simp)
  have a24 := aa3.trans a34 (by simp)
  have hFW4 := hFW2.trans a24 (by simp)
  have hp1c := a24.at hp1b (by simp)
  have x0 := row_cell hp1c 0
  have x1 := row_cell hp1c 1
  have x2 := row_cell hp1c 2
  have x3 := row_cell hp1c 3
  have x4 := row_cell hp1c 4
  simp at x0 x1 x2 x3 x4
  rw [hW4] at x0 x1 x2 x3 x4
  go_wp2_with fail
  rw [← hW4, ← ep3]
  clear hp1c x0 x1 x2 x3 x4
  have k0 : HK w W4 A A' gp p1 p2 p3 g3 c3 H (newG 3 0 100) F0 := ⟨HG1.out.fr (b2.trans a24 (by simp)) (by simp), hFW4, a24.at hp1b (by simp), a24.at hp2 (by simp), hp3, (ho.fr aa4 (by simp)).ws, fun k hk => by
      have h1 := HB0.out k hk; have h2 := b1.size; have h3 := aa3.size; have h4 := ff4.size; have h5 := b2.size
      omega, Nat.lt_of_lt_of_le hg3.2 aa4.size⟩
  have HT4 := Lib.hid (HT.out.fr hFW4)
  clear hW4 ep3 hp1 hp1b hp2 hp3 ho aa4 aa3 ff4 a34 a24 b1 b2 hFW1 hFW2 hFW3 hFW4 hg3 HB0 HG1 HF1 hs1 hs2 hW3 eq3 hsz
  have HLH := Lib.hid hlh
  clear hlh
  obtain ⟨x, ex⟩ : ∃ x, x = hasF ⟨64, 2, H⟩ 10001 := ⟨_, rfl⟩
  have HX := Lib.hid ex
  obtain ⟨q0, G1, G2, G3, G4, G5, G6, q1, q2, q3, q4, q5, q6, q7, q8, R, qr⟩ := headG ⟨64, 2, H⟩ ⟨10001, 0, 0, A, []⟩ ⟨10002, 0, 0, A', []⟩ x ex.symm H2.out HVF.out (validT_empty (by decide) (by decide) hD1) rfl rfl (validT_empty (by decide) (by decide) hD2) rfl rfl rfl
  obtain ⟨K, eK⟩ : ∃ K : Int, K = if x then 3 else 1 := ⟨_, rfl⟩
  obtain ⟨J, eJ⟩ : ∃ J : Int, J = if x then 11 else 0 := ⟨_, rfl⟩
  rw [← eK] at q2 q5 qr
  rw [← eJ] at q4
  have EK := Lib.hid eK
  have EJ := Lib.hid eJ
  clear eK eJ
  have HQR := Lib.hid qr
  have Q0 := Lib.hid q0
  have Q1 := Lib.hid q1
  have Q2 := Lib.hid q2
  have Q3 := Lib.hid q3
  have Q4 := Lib.hid q4
  have Q5 := Lib.hid q5
  have Q6 := Lib.hid q6
  have Q7 := Lib.hid q7
  have Q8 := Lib.hid q8
  clear qr ex q0 q1 q2 q3 q4 q5 q6 q7 q8
  have HS1 : Hid (TSmall ⟨10001, 0, 0, A, []⟩) := Lib.hid (small_empty (by decide) (by decide) (isDl16 hD1))
  have HS2 : Hid (TSmall ⟨10002, 0, 0, A', []⟩) := Lib.hid (small_empty (by decide) (by decide) (isDl16 hD2))
  have HV1 := Lib.hid (validT_empty (s := 10001) (h := 0) (by decide) (by decide) hD1)
  clear hD1 hD2
  have hs := gscan_any w.heap.size gp (newG 3 0 100) F0 (.agg #[.int .i64 10001, .int .i64 0, .int .i64 0, .string ⟨A.toArray⟩, .slice none 0 0]) ⟨10001, 0, 0, A, []⟩ 10 W4 k0.gate ⟨_, rfl, Trs.nil _⟩ HS1.out (HT.out.t.fr k0.fr)
  rw [Q0.out] at hs
  dsimp only at hs
  refine hs.mono ?_
  rintro e y1 ⟨rfl, hq⟩
  obtain ⟨F1, k1⟩ := k0.step hq
  have gT : Fr [] w y1 := k1.fr
  clear hs hq gT
  have x0 := row_cell k1.h3 0
  have x1 := row_cell k1.h3 1
  have x2 := row_cell k1.h3 2
  simp at x0 x1 x2
  go_wp2_with fail
  clear x0 x1 x2
  have hs := gsync_any w.heap.size gp (newG 3 0 100) F1 (.agg #[.int .i64 64, .int .i64 2, .slice (some ⟨g3, 0, none⟩) 1 c3]) ⟨64, 2, H⟩ 50 y1 k1.gate ⟨_, rfl, k1.ws⟩ HWh.out (by rw [HLH.out]; decide) (HT.out.fr k1.fr)
  rw [Q1.out] at hs
  dsimp only at hs
  refine hs.mono ?_
  rintro e y2 ⟨rfl, hq⟩
  obtain ⟨F2, k2⟩ := k1.step hq
  have gT : Fr [] w y2 := k2.fr
  clear hs hq gT
  have x0 := row_cell k2.h1 0
  have x1 := row_cell k2.h1 1
  have x2 := row_cell k2.h1 2
  have x3 := row_cell k2.h1 3
  have x4 := row_cell k2.h1 4
  simp at x0 x1 x2 x3 x4
  go_wp2_with fail
  clear x0 x1 x2 x3 x4
  have hs := gscan_any w.heap.size gp G1 F2 (.agg #[.int .i64 10001, .int .i64 0, .int .i64 0, .string ⟨A.toArray⟩, .slice none 0 0]) ⟨10001, 0, 0, A, []⟩ 60 y2 k2.gate ⟨_, rfl, Trs.nil _⟩ HS1.out (HT.out.t.fr k2.fr)
  rw [Q2.out] at hs
  dsimp only at hs
  refine hs.mono ?_
  rintro e y3 ⟨rfl, hq⟩
  obtain ⟨F3, k3⟩ := k2.step hq
  have gT : Fr [] w y3 := k3.fr
  clear hs hq gT
  have x0 := row_cell k3.h1 0
  have x1 := row_cell k3.h1 1
  have x2 := row_cell k3.h1 2
  have x3 := row_cell k3.h1 3
  have x4 := row_cell k3.h1 4
  simp at x0 x1 x2 x3 x4
  go_wp2_with fail
  clear x0 x1 x2 x3 x4
  have hs := gscan_any w.heap.size gp G2 F3 (.agg #[.int .i64 10001, .int .i64 0, .int .i64 0, .string ⟨A.toArray⟩, .slice none 0 0]) ⟨10001, 0, 0, A, []⟩ 61 y3 k3.gate ⟨_, rfl, Trs.nil _⟩ HS1.out (HT.out.t.fr k3.fr)
  rw [Q3.out] at hs
  dsimp only at hs
  refine hs.mono ?_
  rintro e y4 ⟨rfl, hq⟩
  obtain ⟨F4, k4⟩ := k3.step hq
  have gT : Fr [] w y4 := k4.fr
  clear hs hq gT
  go_wp2_with fail
  have hs := gleave_any w.heap.size gp G3 F4 10001 70 y4 k4.gate (by unfold isI; decide)
  rw [Q4.out] at hs
  dsimp only at hs
  refine hs.mono ?_
  rintro e y5 ⟨rfl, hq⟩
  obtain ⟨F5, k5⟩ := k4.step hq
  have gT : Fr [] w y5 := k5.fr
  clear hs hq gT
  have x0 := row_cell k5.h1 0
  have x1 := row_cell k5.h1 1
  have x2 := row_cell k5.h1 2
  have x3 := row_cell k5.h1 3
  have x4 := row_cell k5.h1 4
  simp at x0 x1 x2 x3 x4
  go_wp2_with fail
  clear x0 x1 x2 x3 x4
  have hs := gscan_any w.heap.size gp G4 F5 (.agg #[.int .i64 10001, .int .i64 0, .int .i64 0, .string ⟨A.toArray⟩, .slice none 0 0]) ⟨10001, 0, 0, A, []⟩ 80 y5 k5.gate ⟨_, rfl, Trs.nil _⟩ HS1.out (HT.out.t.fr k5.fr)
  rw [Q5.out] at hs
  dsimp only at hs
  refine hs.mono ?_
  rintro e y6 ⟨rfl, hq⟩
  obtain ⟨F6, k6⟩ := k5.step hq
  have gT : Fr [] w y6 := k6.fr
  clear hs hq gT
  have x0 := row_cell k6.h2 0
  have x1 := row_cell k6.h2 1
  have x2 := row_cell k6.h2 2
  have x3 := row_cell k6.h2 3
  have x4 := row_cell k6.h2 4
  simp at x0 x1 x2 x3 x4
  go_wp2_with fail
  clear x0 x1 x2 x3 x4
  have hs := gscan_any w.heap.size gp G5 F6 (.agg #[.int .i64 10002, .int .i64 0, .int .i64 0, .string ⟨A'.toArray⟩, .slice none 0 0]) ⟨10002, 0, 0, A', []⟩ 90 y6 k6.gate ⟨_, rfl, Trs.nil _⟩ HS2.out (HT.out.t.fr k6.fr)
  rw [Q6.out] at hs
  dsimp only at hs
  refine hs.mono ?_
  rintro e y7 ⟨rfl, hq⟩
  obtain ⟨F7, k7⟩ := k6.step hq
  have gT : Fr [] w y7 := k7.fr
  clear hs hq gT
  have x0 := row_cell k7.h1 0
  have x1 := row_cell k7.h1 1
  have x2 := row_cell k7.h1 2
  have x3 := row_cell k7.h1 3
  have x4 := row_cell k7.h1 4
  simp at x0 x1 x2 x3 x4
  go_wp2_with fail
  clear x0 x1 x2 x3 x4
  have hs := gscan_any w.heap.size gp G6 F7 (.agg #[.int .i64 10001, .int .i64 0, .int .i64 0, .string ⟨A.toArray⟩, .slice none 0 0]) ⟨10001, 0, 0, A, []⟩ 80 y7 k7.gate ⟨_, rfl, Trs.nil _⟩ HS1.out (HT.out.t.fr k7.fr)
  rw [Q7.out] at hs
  dsimp only at hs
  refine hs.mono ?_
  rintro e y8 ⟨rfl, hq⟩
  obtain ⟨F8, k8⟩ := k7.step hq
  have gT : Fr [] w y8 := k8.fr
  clear hs hq gT
  have x0 := row_cell k8.h1 0
  have x1 := row_cell k8.h1 1
  have x2 := row_cell k8.h1 2
  have x3 := row_cell k8.h1 3
  have x4 := row_cell k8.h1 4
  simp at x0 x1 x2 x3 x4
  go_wp2_with fail
  clear x0 x1 x2 x3 x4
  have hs := gscan_any w.heap.size gp G6 F8 (.agg #[.int .i64 10001, .int .i64 0, .int .i64 0, .string ⟨A.toArray⟩, .slice none 0 0]) ⟨10001, 0, 0, A, []⟩ 151 y8 k8.gate ⟨_, rfl, Trs.nil _⟩ HS1.out (HT.out.t.fr k8.fr)
  rw [Q8.out] at hs
  dsimp only at hs
  refine hs.mono ?_
  rintro e y9 ⟨rfl, hq⟩
  obtain ⟨F9, k9⟩ := k8.step hq
  have gT : Fr [] w y9 := k9.fr
  clear hs hq gT
  go_wp2_with fail
  refine (log_any w.heap.size gp G6 F9 y9 k9.gate).mono ?_
  rintro e z1 ⟨v, rfl, ho, hb⟩
  have jf : Fr [] y9 z1 := Fr.ofBelow hb
  have hl0 : 0 < G6.log.length := by rw [HQR.out]; simp
  obtain ⟨gl, lc, rfl⟩ : ∃ g c, v = .slice (some ⟨g, 0, none⟩) G6.log.length c := by
      rcases ho.2 with ⟨_, h2⟩ | ⟨g, c, cur, h2, _⟩
      · rw [h2] at hl0; exact absurd hl0 (by simp)
      · exact ⟨g, c, h2⟩
  have u0 := ho.scs.cells 0 _ (by rw [HQR.out]; rfl)
  simp only [Nat.zero_mul, Nat.zero_add] at u0
  obtain ⟨u0, u1, u2, u3, u4, u5⟩ := u0
  have v1 := jf.at k9.h1 (by simp)
  have v3 := jf.at k9.h3 (by simp)
  have hfz := k9.fr.trans jf (by simp)
  have hwz := k9.ws.fr0 jf
  clear hb ho jf
  have x0 := row_cell v3 0
  have x1 := row_cell v3 1
  have x2 := row_cell v3 2
  simp at x0 x1 x2
  go_wp2_with fail
  have hs := has_any (.agg #[.int .i64 64, .int .i64 2, .slice (some ⟨g3, 0, none⟩) 1 c3]) ⟨64, 2, H⟩ 10001 z1 ⟨_, rfl, hwz⟩ HWh.out (by decide) (HT.out.fr hfz).t
  rw [← HX.out] at hs
  refine hs.mono ?_
  rintro e z2 ⟨rfl, hb⟩
  clear hs x0 x1 x2
  have jf : Fr [] z1 z2 := Fr.ofBelow hb
  have hfz2 := hfz.trans jf (by simp)
  have v2 := jf.at v1 (by simp)
  have c0 := jf.cell u0 (by simp)
  have c1 := jf.cell u1 (by simp)
  have c2 := jf.cell u2 (by simp)
  have c3 := jf.cell u3 (by simp)
  have c4 := jf.cell u4 (by simp)
  have c5 := jf.cell u5 (by simp)
  clear hb jf v1 v3 hwz hfz u0 u1 u2 u3 u4 u5
  have t0 : ((G6.log.length : Int) == 0) = false := by rw [beq_eq_false_iff_ne]; omega
  
  have d0 := row_cell v2 0
  have d1 := row_cell v2 1
  have d2 := row_cell v2 2
  have d3 := row_cell v2 3
  have d4 := row_cell v2 4
  simp at d0 d1 d2 d3 d4
  have HZ := Lib.hid hfz2
  cases x
  case false =>
    have eK := EK.out
    have eJ := EJ.out
    simp only [Bool.false_eq_true, if_false] at eK eJ
    subst eK eJ
    go_wp2_with fail
    have gr0 : Fr [] z2 z2.drew := (Fr.refl [] z2).drew
    have hSr0 : z2.drew.cell? ⟨p1, 0, none⟩ = some (.int .i64 10001) ∧ z2.drew.cell? ⟨p1, 1, none⟩ = some (.int .i64 0) ∧ z2.drew.cell? ⟨p1, 2, none⟩ = some (.int .i64 0) ∧ z2.drew.cell? ⟨p1, 3, none⟩ = some (.string ⟨A.toArray⟩) ∧ z2.drew.cell? ⟨p1, 4, none⟩ = some (.slice none 0 0) ∧ z2.drew.cell? ⟨gl, 0, none⟩ = some (.int .i64 3) ∧ z2.drew.cell? ⟨gl, 1, none⟩ = some (.int .i64 1) ∧ z2.drew.cell? ⟨gl, 2, none⟩ = some (.int .i64 60) ∧ z2.drew.cell? ⟨gl, 3, none⟩ = some (.int .i64 10001) ∧ z2.drew.cell? ⟨gl, 4, none⟩ = some (.int .i64 1) ∧ z2.drew.cell? ⟨gl, 5, none⟩ = some (.string ⟨A.toArray⟩) := ⟨gr0.cell d0 (by simp), gr0.cell d1 (by simp), gr0.cell d2 (by simp), gr0.cell d3 (by simp), gr0.cell d4 (by simp), gr0.cell c0 (by simp), gr0.cell c1 (by simp), gr0.cell c2 (by simp), gr0.cell c3 (by simp), gr0.cell c4 (by simp), gr0.cell c5 (by simp)⟩
    refine region_held 100 (fun W' => W'.cell? ⟨p1, 0, none⟩ = some (.int .i64 10001) ∧ W'.cell? ⟨p1, 1, none⟩ = some (.int .i64 0) ∧ W'.cell? ⟨p1, 2, none⟩ = some (.int .i64 0) ∧ W'.cell? ⟨p1, 3, none⟩ = some (.string ⟨A.toArray⟩) ∧ W'.cell? ⟨p1, 4, none⟩ = some (.slice none 0 0) ∧ W'.cell? ⟨gl, 0, none⟩ = some (.int .i64 3) ∧ W'.cell? ⟨gl, 1, none⟩ = some (.int .i64 1) ∧ W'.cell? ⟨gl, 2, none⟩ = some (.int .i64 60) ∧ W'.cell? ⟨gl, 3, none⟩ = some (.int .i64 10001) ∧ W'.cell? ⟨gl, 4, none⟩ = some (.int .i64 1) ∧ W'.cell? ⟨gl, 5, none⟩ = some (.string ⟨A.toArray⟩)) hmx ?_
    change Held _ _ _ _ _ _ 16 (Array.replicate 16 false) _ _
    refine hd_take 0 (v := .bool true) rfl (by kernel_rfl) (by kernel_rfl) (by kernel_rfl) rfl hSr0 (fun W' hS => by go_simp) rfl ?_
    try simp only [Act.put, List.setIfInBounds_toArray, List.set_cons_zero, List.set_cons_succ]
    refine hd_take 1 (v := .bool true) rfl (by kernel_rfl) (by kernel_rfl) (by kernel_rfl) rfl hSr0 (fun W' hS => by go_simp) rfl ?_
    try simp only [Act.put, List.setIfInBounds_toArray, List.set_cons_zero, List.set_cons_succ]
    refine hd_take 2 (v := .slice (some ⟨gl, 0, none⟩) G6.log.length lc) rfl (by kernel_rfl) (by kernel_rfl) (by kernel_rfl) rfl hSr0 (fun W' hS => by go_simp) rfl ?_
    refine hd_take 5 (v := .int .i64 1) rfl (by kernel_rfl) (by kernel_rfl) (by kernel_rfl) rfl hSr0 (fun W' hS => by go_simp) rfl ?_
    refine hd_take 6 (v := .pointer (some ⟨p1, 3, none⟩)) rfl (by kernel_rfl) (by kernel_rfl) (by kernel_rfl) rfl hSr0 (fun W' hS => by go_simp) rfl ?_
    try simp only [Act.put, List.setIfInBounds_toArray, List.set_cons_zero, List.set_cons_succ]
    refine hd_take 3 (v := .pointer (some ⟨gl, 0, none⟩)) rfl (by kernel_rfl) (by kernel_rfl) (by kernel_rfl) rfl hSr0 (fun W' hS => by go_simp) rfl ?_
    refine hd_take 7 (v := .string ⟨A.toArray⟩) rfl (by kernel_rfl) (by kernel_rfl) (by kernel_rfl) rfl hSr0 (fun W' hS => by obtain ⟨s0, s1, s2, s3, s4, s5, s6, s7, s8, s9, s10⟩ := hS; go_simp) rfl ?_
    try simp only [Act.put, List.setIfInBounds_toArray, List.set_cons_zero, List.set_cons_succ]
    refine hd_take 4 (v := .agg #[.int .i64 3, .int .i64 1, .int .i64 60, .int .i64 10001, .int .i64 1, .string ⟨A.toArray⟩]) rfl (by kernel_rfl) (by kernel_rfl) (by kernel_rfl) rfl hSr0 (fun W' hS => by obtain ⟨s0, s1, s2, s3, s4, s5, s6, s7, s8, s9, s10⟩ := hS; go_simp) rfl ?_
    try simp only [Act.put, List.setIfInBounds_toArray, List.set_cons_zero, List.set_cons_succ]
    refine hd_take 8 (v := .agg #[.int .i64 3, .int .i64 1, .int .i64 60, .int .i64 10001, .int .i64 1, .string ⟨A.toArray⟩]) rfl (by kernel_rfl) (by kernel_rfl) (by kernel_rfl) rfl hSr0 (fun W' hS => by go_simp) rfl ?_
    try simp only [Act.put, List.setIfInBounds_toArray, List.set_cons_zero, List.set_cons_succ]
    refine hd_take 9 (v := .bool true) rfl (by kernel_rfl) (by kernel_rfl) (by kernel_rfl) rfl hSr0 (fun W' hS => by go_simp) rfl ?_
    try simp only [Act.put, List.setIfInBounds_toArray, List.set_cons_zero, List.set_cons_succ]
    refine hd_take 10 (v := .bool true) rfl (by kernel_rfl) (by kernel_rfl) (by kernel_rfl) rfl hSr0 (fun W' hS => by go_simp) rfl ?_
    try simp only [Act.put, List.setIfInBounds_toArray, List.set_cons_zero, List.set_cons_succ]
    refine hd_take 11 (v := .bool true) rfl (by kernel_rfl) (by kernel_rfl) (by kernel_rfl) rfl hSr0 (fun W' hS => by go_simp) rfl ?_
    try simp only [Act.put, List.setIfInBounds_toArray, List.set_cons_zero, List.set_cons_succ]
    refine hd_take 12 (v := .agg #[.int .i64 10001, .int .i64 0, .int .i64 0, .string ⟨A.toArray⟩, .slice none 0 0]) rfl (by kernel_rfl) (by kernel_rfl) (by kernel_rfl) rfl hSr0 (fun W' hS => by obtain ⟨s0, s1, s2, s3, s4, s5, s6, s7, s8, s9, s10⟩ := hS; go_simp) rfl ?_
    try simp only [Act.put, List.setIfInBounds_toArray, List.set_cons_zero, List.set_cons_succ]
    have hvl := valid30_any (.agg #[.int .i64 10001, .int .i64 0, .int .i64 0, .string ⟨A.toArray⟩, .slice none 0 0]) ⟨10001, 0, 0, A, []⟩ z2.drew ⟨_, rfl, Trs.nil _⟩ HS1.out (HT.out.t.fr (HZ.out.trans gr0 (by simp)))
    rw [HV1.out] at hvl
    refine hd_one 13 (by kernel_rfl) rfl (by kernel_rfl) rfl (fun K' hK => ?_)
    go_simp
    refine (hvl).mono ?_
    rintro e yr1 ⟨rfl, hbb⟩
    have gr1 : Fr [] z2 yr1 := gr0.below hbb gr0.size
    clear hbb
    have hSr1 : yr1.cell? ⟨p1, 0, none⟩ = some (.int .i64 10001) ∧ yr1.cell? ⟨p1, 1, none⟩ = some (.int .i64 0) ∧ yr1.cell? ⟨p1, 2, none⟩ = some (.int .i64 0) ∧ yr1.cell? ⟨p1, 3, none⟩ = some (.string ⟨A.toArray⟩) ∧ yr1.cell? ⟨p1, 4, none⟩ = some (.slice none 0 0) ∧ yr1.cell? ⟨gl, 0, none⟩ = some (.int .i64 3) ∧ yr1.cell? ⟨gl, 1, none⟩ = some (.int .i64 1) ∧ yr1.cell? ⟨gl, 2, none⟩ = some (.int .i64 60) ∧ yr1.cell? ⟨gl, 3, none⟩ = some (.int .i64 10001) ∧ yr1.cell? ⟨gl, 4, none⟩ = some (.int .i64 1) ∧ yr1.cell? ⟨gl, 5, none⟩ = some (.string ⟨A.toArray⟩) := ⟨gr1.cell d0 (by simp), gr1.cell d1 (by simp), gr1.cell d2 (by simp), gr1.cell d3 (by simp), gr1.cell d4 (by simp), gr1.cell c0 (by simp), gr1.cell c1 (by simp), gr1.cell c2 (by simp), gr1.cell c3 (by simp), gr1.cell c4 (by simp), gr1.cell c5 (by simp)⟩
    refine hK.out _ _ (fun _ => hSr1) ?_
    clear hK K'
    try simp only [Act.put, List.setIfInBounds_toArray, List.set_cons_zero, List.set_cons_succ]
    clear hvl
    refine hd_take 14 (v := .bool true) rfl (by kernel_rfl) (by kernel_rfl) (by kernel_rfl) rfl hSr1 (fun W' hS => by go_simp) rfl ?_
    try simp only [Act.put, List.setIfInBounds_toArray, List.set_cons_zero, List.set_cons_succ]
    refine hd_take 15 (v := .bool true) rfl (by kernel_rfl) (by kernel_rfl) (by kernel_rfl) rfl hSr1 (fun W' hS => by go_simp) rfl ?_
    try simp only [Act.put, List.setIfInBounds_toArray, List.set_cons_zero]
    refine held_done (by kernel_rfl) ?_
    go_wp2_with fail
    go_ret
    exact ⟨rfl, (HZ.out.trans gr1 (by simp)).toBelow (by simp)⟩
  case true =>
    have eK := EK.out
    have eJ := EJ.out
    simp only [if_true] at eK eJ
    subst eK eJ
    go_wp2_with fail
    have gr0 : Fr [] z2 z2.drew := (Fr.refl [] z2).drew
    have hSr0 : z2.drew.cell? ⟨p1, 0, none⟩ = some (.int .i64 10001) ∧ z2.drew.cell? ⟨p1, 1, none⟩ = some (.int .i64 0) ∧ z2.drew.cell? ⟨p1, 2, none⟩ = some (.int .i64 0) ∧ z2.drew.cell? ⟨p1, 3, none⟩ = some (.string ⟨A.toArray⟩) ∧ z2.drew.cell? ⟨p1, 4, none⟩ = some (.slice none 0 0) ∧ z2.drew.cell? ⟨gl, 0, none⟩ = some (.int .i64 3) ∧ z2.drew.cell? ⟨gl, 1, none⟩ = some (.int .i64 1) ∧ z2.drew.cell? ⟨gl, 2, none⟩ = some (.int .i64 60) ∧ z2.drew.cell? ⟨gl, 3, none⟩ = some (.int .i64 10001) ∧ z2.drew.cell? ⟨gl, 4, none⟩ = some (.int .i64 3) ∧ z2.drew.cell? ⟨gl, 5, none⟩ = some (.string ⟨A.toArray⟩) := ⟨gr0.cell d0 (by simp), gr0.cell d1 (by simp), gr0.cell d2 (by simp), gr0.cell d3 (by simp), gr0.cell d4 (by simp), gr0.cell c0 (by simp), gr0.cell c1 (by simp), gr0.cell c2 (by simp), gr0.cell c3 (by simp), gr0.cell c4 (by simp), gr0.cell c5 (by simp)⟩
    refine region_held 100 (fun W' => W'.cell? ⟨p1, 0, none⟩ = some (.int .i64 10001) ∧ W'.cell? ⟨p1, 1, none⟩ = some (.int .i64 0) ∧ W'.cell? ⟨p1, 2, none⟩ = some (.int .i64 0) ∧ W'.cell? ⟨p1, 3, none⟩ = some (.string ⟨A.toArray⟩) ∧ W'.cell? ⟨p1, 4, none⟩ = some (.slice none 0 0) ∧ W'.cell? ⟨gl, 0, none⟩ = some (.int .i64 3) ∧ W'.cell? ⟨gl, 1, none⟩ = some (.int .i64 1) ∧ W'.cell? ⟨gl, 2, none⟩ = some (.int .i64 60) ∧ W'.cell? ⟨gl, 3, none⟩ = some (.int .i64 10001) ∧ W'.cell? ⟨gl, 4, none⟩ = some (.int .i64 3) ∧ W'.cell? ⟨gl, 5, none⟩ = some (.string ⟨A.toArray⟩)) hmx ?_
    change Held _ _ _ _ _ _ 16 (Array.replicate 16 false) _ _
    refine hd_take 0 (v := .bool true) rfl (by kernel_rfl) (by kernel_rfl) (by kernel_rfl) rfl hSr0 (fun W' hS => by go_simp) rfl ?_
    try simp only [Act.put, List.setIfInBounds_toArray, List.set_cons_zero, List.set_cons_succ]
    refine hd_take 1 (v := .bool true) rfl (by kernel_rfl) (by kernel_rfl) (by kernel_rfl) rfl hSr0 (fun W' hS => by go_simp) rfl ?_
    try simp only [Act.put, List.setIfInBounds_toArray, List.set_cons_zero, List.set_cons_succ]
    refine hd_take 2 (v := .slice (some ⟨gl, 0, none⟩) G6.log.length lc) rfl (by kernel_rfl) (by kernel_rfl) (by kernel_rfl) rfl hSr0 (fun W' hS => by go_simp) rfl ?_
    refine hd_take 5 (v := .int .i64 3) rfl (by kernel_rfl) (by kernel_rfl) (by kernel_rfl) rfl hSr0 (fun W' hS => by go_simp) rfl ?_
    refine hd_take 6 (v := .pointer (some ⟨p1, 3, none⟩)) rfl (by kernel_rfl) (by kernel_rfl) (by kernel_rfl) rfl hSr0 (fun W' hS => by go_simp) rfl ?_
    try simp only [Act.put, List.setIfInBounds_toArray, List.set_cons_zero, List.set_cons_succ]
    refine hd_take 3 (v := .pointer (some ⟨gl, 0, none⟩)) rfl (by kernel_rfl) (by kernel_rfl) (by kernel_rfl) rfl hSr0 (fun W' hS => by go_simp) rfl ?_
    refine hd_take 7 (v := .string ⟨A.toArray⟩) rfl (by kernel_rfl) (by kernel_rfl) (by kernel_rfl) rfl hSr0 (fun W' hS => by obtain ⟨s0, s1, s2, s3, s4, s5, s6, s7, s8, s9, s10⟩ := hS; go_simp) rfl ?_
    try simp only [Act.put, List.setIfInBounds_toArray, List.set_cons_zero, List.set_cons_succ]
    refine hd_take 4 (v := .agg #[.int .i64 3, .int .i64 1, .int .i64 60, .int .i64 10001, .int .i64 3, .string ⟨A.toArray⟩]) rfl (by kernel_rfl) (by kernel_rfl) (by kernel_rfl) rfl hSr0 (fun W' hS => by obtain ⟨s0, s1, s2, s3, s4, s5, s6, s7, s8, s9, s10⟩ := hS; go_simp) rfl ?_
    try simp only [Act.put, List.setIfInBounds_toArray, List.set_cons_zero, List.set_cons_succ]
    refine hd_take 8 (v := .agg #[.int .i64 3, .int .i64 1, .int .i64 60, .int .i64 10001, .int .i64 3, .string ⟨A.toArray⟩]) rfl (by kernel_rfl) (by kernel_rfl) (by kernel_rfl) rfl hSr0 (fun W' hS => by go_simp) rfl ?_
    try simp only [Act.put, List.setIfInBounds_toArray, List.set_cons_zero, List.set_cons_succ]
    refine hd_take 9 (v := .bool true) rfl (by kernel_rfl) (by kernel_rfl) (by kernel_rfl) rfl hSr0 (fun W' hS => by go_simp) rfl ?_
    try simp only [Act.put, List.setIfInBounds_toArray, List.set_cons_zero, List.set_cons_succ]
    refine hd_take 10 (v := .bool true) rfl (by kernel_rfl) (by kernel_rfl) (by kernel_rfl) rfl hSr0 (fun W' hS => by go_simp) rfl ?_
    try simp only [Act.put, List.setIfInBounds_toArray, List.set_cons_zero, List.set_cons_succ]
    refine hd_take 11 (v := .bool true) rfl (by kernel_rfl) (by kernel_rfl) (by kernel_rfl) rfl hSr0 (fun W' hS => by go_simp) rfl ?_
    try simp only [Act.put, List.setIfInBounds_toArray, List.set_cons_zero, List.set_cons_succ]
    refine hd_take 12 (v := .agg #[.int .i64 10001, .int .i64 0, .int .i64 0, .string ⟨A.toArray⟩, .slice none 0 0]) rfl (by kernel_rfl) (by kernel_rfl) (by kernel_rfl) rfl hSr0 (fun W' hS => by obtain ⟨s0, s1, s2, s3, s4, s5, s6, s7, s8, s9, s10⟩ := hS; go_simp) rfl ?_
    try simp only [Act.put, List.setIfInBounds_toArray, List.set_cons_zero, List.set_cons_succ]
    have hvl := valid30_any (.agg #[.int .i64 10001, .int .i64 0, .int .i64 0, .string ⟨A.toArray⟩, .slice none 0 0]) ⟨10001, 0, 0, A, []⟩ z2.drew ⟨_, rfl, Trs.nil _⟩ HS1.out (HT.out.t.fr (HZ.out.trans gr0 (by simp)))
    rw [HV1.out] at hvl
    refine hd_one 13 (by kernel_rfl) rfl (by kernel_rfl) rfl (fun K' hK => ?_)
    go_simp
    refine (hvl).mono ?_
    rintro e yr1 ⟨rfl, hbb⟩
    have gr1 : Fr [] z2 yr1 := gr0.below hbb gr0.size
    clear hbb
    have hSr1 : yr1.cell? ⟨p1, 0, none⟩ = some (.int .i64 10001) ∧ yr1.cell? ⟨p1, 1, none⟩ = some (.int .i64 0) ∧ yr1.cell? ⟨p1, 2, none⟩ = some (.int .i64 0) ∧ yr1.cell? ⟨p1, 3, none⟩ = some (.string ⟨A.toArray⟩) ∧ yr1.cell? ⟨p1, 4, none⟩ = some (.slice none 0 0) ∧ yr1.cell? ⟨gl, 0, none⟩ = some (.int .i64 3) ∧ yr1.cell? ⟨gl, 1, none⟩ = some (.int .i64 1) ∧ yr1.cell? ⟨gl, 2, none⟩ = some (.int .i64 60) ∧ yr1.cell? ⟨gl, 3, none⟩ = some (.int .i64 10001) ∧ yr1.cell? ⟨gl, 4, none⟩ = some (.int .i64 3) ∧ yr1.cell? ⟨gl, 5, none⟩ = some (.string ⟨A.toArray⟩) := ⟨gr1.cell d0 (by simp), gr1.cell d1 (by simp), gr1.cell d2 (by simp), gr1.cell d3 (by simp), gr1.cell d4 (by simp), gr1.cell c0 (by simp), gr1.cell c1 (by simp), gr1.cell c2 (by simp), gr1.cell c3 (by simp), gr1.cell c4 (by simp), gr1.cell c5 (by simp)⟩
    refine hK.out _ _ (fun _ => hSr1) ?_
    clear hK K'
    try simp only [Act.put, List.setIfInBounds_toArray, List.set_cons_zero, List.set_cons_succ]
    clear hvl
    refine hd_take 14 (v := .bool true) rfl (by kernel_rfl) (by kernel_rfl) (by kernel_rfl) rfl hSr1 (fun W' hS => by go_simp) rfl ?_
    try simp only [Act.put, List.setIfInBounds_toArray, List.set_cons_zero, List.set_cons_succ]
    refine hd_take 15 (v := .bool true) rfl (by kernel_rfl) (by kernel_rfl) (by kernel_rfl) rfl hSr1 (fun W' hS => by go_simp) rfl ?_
    try simp only [Act.put, List.setIfInBounds_toArray, List.set_cons_zero]
    refine held_done (by kernel_rfl) ?_
    go_wp2_with fail
    go_ret
    exact ⟨rfl, (HZ.out.trans gr1 (by simp)).toBelow (by simp)⟩
end Go.Proofs.YtglgkdbhdjkeaaaGreatDoor
namespace Go.Proofs.YtglgkdbhdjkeaaaGreatDoor
open Go.RowKit

set_option maxRecDepth 100000 in
set_option maxHeartbeats 1000000 in
theorem gscan_nil (now : Int) (w : World) :
    Calls Tryz.prog 24 #[.pointer none, .agg #[.int .i64 0, .int .i64 0, .int .i64 0, .string ⟨#[]⟩, .slice none 0 0], .int .i64 now] w fun e w' => e = .returned (.tuple #[.int .i64 0, .int .i64 1]) ∧ Below w.heap.size w w' := by
  go_enter Tryz.func24, Tryz.ntmps24
  go_wp2_with fail
  refine (come_nil now _).mono ?_
  rintro e w1 ⟨rfl, rfl⟩
  go_wp2_with fail
  go_ret2
  exact ⟨rfl, (((Fr.refl [] w).alloc _).alloc _).toBelow (by simp)⟩
set_option maxRecDepth 100000 in
set_option maxHeartbeats 1000000 in
theorem gleave_nil (serial now : Int) (w : World) :
    Calls Tryz.prog 25 #[.pointer none, .int .i64 serial, .int .i64 now] w fun e w' => e = .returned (.int .i64 1) ∧ Below w.heap.size w w' := by
  go_enter Tryz.func25, Tryz.ntmps25
  go_wp2_with fail
  refine (come_nil now _).mono ?_
  rintro e w1 ⟨rfl, rfl⟩
  go_wp2_with fail
  go_ret
  exact ⟨rfl, Below.refl _ _⟩
set_option maxRecDepth 100000 in
set_option maxHeartbeats 1000000 in
theorem gsync_nil (now : Int) (w : World) :
    Calls Tryz.prog 26 #[.pointer none, .agg #[.int .i64 0, .int .i64 0, .slice none 0 0], .int .i64 now] w fun e w' => e = .returned (.int .i64 1) ∧ Below w.heap.size w w' := by
  have hq : ∀ w, (binOp .eql 25 (.pointer none) (.pointer none)).run Tryz.prog w = .ok (.bool true) w := fun _ => by kernel_rfl
  go_enter Tryz.func26, Tryz.ntmps26
  go_wp2_with fail
  refine (come_nil now _).mono ?_
  rintro e w1 ⟨rfl, rfl⟩
  go_wp2_with fail
  go_ret
  exact ⟨rfl, ((Fr.refl [] w).alloc _).toBelow (by simp)⟩
end Go.Proofs.YtglgkdbhdjkeaaaGreatDoor
