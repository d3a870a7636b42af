/-
  foyerref20.Heads, order, Publish.
  foyerref20.before, Add.
  foyerref20.wrong, Receipt, Included, SameRecords.
  foyerref20.Check.
  foyerlaw20.AuditMatchesReference.
-/
import Derived.Test.YtjddngbgbbbefaaGreatDoorAuV
import Derived.Test.YtjddngbgbbbefaaGreatDoorDrD
import Derived.Test.YtjddngbgbbbefaaGreatDoorEnM
import Derived.Test.YtjddngbgbbbefaaGreatDoorTrD
import Derived.Test.YtjddngbgbbbefaaGreatDoorEnK
import Derived.BigQuiet
import Derived.Test.YtjddngbgbbbefaaGreatDoorRefW
namespace Go.Proofs.YtjddngbgbbbefaaGreatDoor
open Go.RowKit
set_option maxRecDepth 100000

theorem Nums.cellN {w : World} {b off cap n : Nat} {l : List Nat} (h : Nums w (.slice (some ⟨b, off, none⟩) n cap) l) (hn : l.length = n) (k : Nat) (hk : k < n) : w.cell? ⟨b, off + k, none⟩ = some (.int .i64 (l.getD k 0 : Nat)) := by
  subst hn
  exact h.cell k hk
set_option maxHeartbeats 4000000 in
theorem rheads_any (v : Value) (l : List Pty) (w : World) (hv : Pts w v l) (hn : l.length ≤ 4000) :
    Calls Tryz.prog 84 #[v] w fun e w' => ∃ v', e = .returned v' ∧ OwnI w.heap.size w' v' (headsO (clsL l)) ∧ Below w.heap.size w w' := by
  have HCC := Lib.hid (rclasses_any v l w hv (by omega))
  obtain ⟨n, en⟩ : ∃ n, n = l.length := ⟨_, rfl⟩
  obtain ⟨a, cap, rfl, hlc, hcap, ha⟩ := hv.form
  rw [← en] at HCC hn hlc ⊢
  have HN := Lib.hid en
  clear hv en ha
  go_enter Tryz.func84, Tryz.ntmps84
  go_wp2_with fail
  refine HCC.out.mono ?_
  rintro e w1 ⟨cv, o, rfl, hcv, hcls, hb⟩
  have hln : o.length = n := by rw [hcls.len, HN.out]
  have HLN := Lib.hid hln
  have HCL : Hid (clsL l = o) := Lib.hid (clsL_eq hcls)
  have HF1 := Lib.hid (Fr.ofBelow (X := []) hb)
  obtain ⟨ca, cc, rfl, _, hca⟩ := hcv.nums.form
  have hnm := hcv.nums
  rw [hln] at hnm hca ⊢
  have HA0 := Lib.hid hnm
  clear hcls hb hcv hnm hln HCC
  go_wp2_with fail
  go_loopg [4, 5] (n + 1) (fun gh hv i wr => ∃ k : Nat, k ≤ n ∧ gh = n + 1 - k ∧ i = .int .i64 (k : Int) ∧ OwnI w1.heap.size wr hv (headsK o k) ∧ Fr [] w1 wr)
  case atStart => exact ⟨0, by omega, by omega, rfl, OwnI.nil, Fr.refl _ _⟩
  case round =>
    obtain ⟨k, hk, hgh, rfl, ho, hfr⟩ := hrel
    have HG := Lib.hid hgh
    have HO := Lib.hid ho
    have HF := Lib.hid hfr
    have hkl := headsK_le o k
    clear hgh ho hfr
    by_cases hlt : k < n
    · have t2 : decide ((k : Int) < (n : Int)) = true := by simp; omega
      obtain ⟨cb, co, rfl⟩ := hca k hlt
      have c0 := (HA0.out.fr0 HF.out).cellN HLN.out k hlt
      have i0 : (0 : Int) ≤ (k : Int) := by omega
      have i1 : (k : Int) < (n : Int) := by omega
      have hyes := headsK_yes (o := o) (k := k)
      have hno := headsK_no (o := o) (k := k)
      generalize o.getD k 0 = x at c0 hyes hno
      clear hca
      by_cases hh : x = k
      · have HY := Lib.hid (hyes hh)
        rw [hh] at c0
        have t3 : ((k : Int) == (k : Int)) = true := by simp
        clear hh
        clear hyes hno
        go_wp2_with (at_builtin; go_loud (refine wpList_appI rfl (.tmp 20) (.tmp 22) rfl w1.heap.size _ (headsK o k) k w1 rfl rfl HO.out HF.out (Nat.le_refl _) HF.out.size (by omega) ?_))
        rintro v' w' ho' hf' hx'
        have HO3 := Lib.hid ho'
        have HF3 := Lib.hid hf'
        clear ho' hf' hx'
        go_wp2_with fail
        go_roundg (n + 1 - (k + 1))
        case measure => have := HG.out; omega
        case rel => exact ⟨k + 1, by omega, rfl, by go_num, by rw [HY.out]; exact HO3.out, HF3.out⟩
      · have HY := Lib.hid (hno hh)
        have t3 : ((x : Int) == (k : Int)) = false := by rw [beq_eq_false_iff_ne]; omega
        clear hh hyes hno
        go_wp2_with fail
        go_roundg (n + 1 - (k + 1))
        case measure => have := HG.out; omega
        case rel => exact ⟨k + 1, by omega, rfl, by go_num, by rw [HY.out]; exact HO.out, HF.out⟩
    · obtain rfl : k = n := by omega
      have t2 : decide ((k : Int) < (k : Int)) = false := by simp
      have HOE : Hid (OwnI w1.heap.size wr _ (headsO o)) := Lib.hid (by have := HO.out; rwa [← HLN.out, headsK_all] at this)
      clear hkl
      go_wp2_with fail
      go_ret
      rw [HCL.out]
      exact ⟨_, rfl, HOE.out.mono HF1.out.size, (HF1.out.trans HF.out (by simp)).toBelow (by simp)⟩
set_option maxHeartbeats 4000000 in
theorem rorder_any (v : Value) (l : List Pty) (seed : List UInt8) (w : World) (hv : Pts w v l) (hn : l.length ≤ 4000) (hse : seed.length ≤ 1000000) :
    Calls Tryz.prog 39 #[v, .string ⟨seed.toArray⟩] w fun e w' => ∃ v', e = .returned v' ∧ OwnI w.heap.size w' v' (orderO (clsL l) seed) ∧ Below w.heap.size w w' := by
  have HSE := Lib.hid hse
  have HH := Lib.hid (rheads_any v l w hv hn)
  have hml : (headsO (clsL l)).length ≤ 4000 := by have h1 := headsK_le (clsL l) (clsL l).length; rw [headsK_all] at h1; have := clsL_len l; omega
  have HAT := Lib.hid (fun k hk => order_at (clsL l) seed (k := k) hk)
  obtain ⟨a, cap, rfl, _, _, _⟩ := hv.form
  obtain ⟨O, eO⟩ : ∃ q, q = orderO (clsL l) seed := ⟨_, rfl⟩
  have HOL : Hid (O.length = (headsO (clsL l)).length) := Lib.hid (by rw [eO, order_length])
  rw [← eO] at HAT ⊢
  generalize headsO (clsL l) = H at HH hml HAT HOL
  obtain ⟨m, em⟩ : ∃ q, q = H.length := ⟨_, rfl⟩
  rw [← em] at HAT HOL hml
  have EM := Lib.hid em
  clear hv hn hse eO em
  go_enter Tryz.func39, Tryz.ntmps39
  go_wp2_with fail
  refine HH.out.mono ?_
  rintro e w1 ⟨hvv, rfl, ho1, hb⟩
  have HF1 := Lib.hid (Fr.ofBelow (X := []) hb)
  obtain ⟨ah, ch, rfl, _, hao⟩ := ho1.nums.form
  have hnm := ho1.nums
  rw [← EM.out] at hnm hao ⊢
  have HN1 := Lib.hid hnm
  clear hb ho1 hnm HH
  go_wp2_with fail
  refine (rshuffle_any seed m w1 (by omega) HSE.out).mono ?_
  rintro e w2 ⟨sv, rfl, hs, hb⟩
  have HF12 := Lib.hid (Fr.ofBelow (X := []) hb)
  obtain ⟨asv, cs, rfl, _, has⟩ := hs.form
  have hsl := shufS_length seed m
  rw [hsl] at has hs ⊢
  have HS2 := Lib.hid hs
  have HSL := Lib.hid hsl
  have HN2 := Lib.hid (HN1.out.fr0 HF12.out)
  clear hs hb hsl
  go_wp2_with fail
  go_loopg [7, 8] (m + 1) (fun gh ov i wr => ∃ k : Nat, k ≤ m ∧ gh = m + 1 - k ∧ i = .int .i64 (k : Int) ∧ OwnI w2.heap.size wr ov (O.take k) ∧ Fr [] w2 wr)
  case atStart => exact ⟨0, by omega, by omega, rfl, OwnI.nil, Fr.refl _ _⟩
  case round =>
    obtain ⟨k, hk, hgh, rfl, ho, hfr⟩ := hrel
    have HG := Lib.hid hgh
    have HO := Lib.hid ho
    have HF := Lib.hid hfr
    clear hgh ho hfr
    by_cases hlt : k < m
    · have t2 : decide ((k : Int) < (m : Int)) = true := by simp; omega
      obtain ⟨sb, so, rfl⟩ := has k hlt
      have c0 := (HS2.out.fr0 HF.out).cellN HSL.out k hlt
      obtain ⟨hat1, hat2⟩ := HAT.out k hlt
      generalize (shufS seed m).getD k 0 = x at c0 hat1 hat2
      obtain ⟨hb5, ho5, rfl⟩ := hao x hat2
      have c1 := (HN2.out.fr0 HF.out).cellN EM.out.symm x hat2
      generalize H.getD x 0 = y at c1 hat1
      have HTK : Hid (O.take (k + 1) = O.take k ++ [y]) := Lib.hid (by
        rw [List.take_add_one, List.getElem?_eq_getElem (by rw [HOL.out]; exact hlt)]
        rw [List.getD_eq_getElem?_getD, List.getElem?_eq_getElem (by rw [HOL.out]; exact hlt)] at hat1
        simp at hat1
        simp [hat1])
      have htl : (O.take k).length ≤ 4000 := by rw [List.length_take]; omega
      generalize O.take k = L at HO HTK htl
      have i0 : (0 : Int) ≤ (k : Int) := by omega
      have i1 : (k : Int) < (m : Int) := by omega
      have i2 : (0 : Int) ≤ (x : Int) := by omega
      have i3 : (x : Int) < (m : Int) := by omega
      clear hat1 has hao
      go_wp2_with (at_builtin; go_loud (refine wpList_appI rfl (.tmp 21) (.tmp 29) rfl w2.heap.size _ L y w2 rfl rfl HO.out HF.out (Nat.le_refl _) HF.out.size (by omega) ?_))
      rintro v' w' ho' hf' hx'
      have HO3 := Lib.hid ho'
      have HF3 := Lib.hid hf'
      clear ho' hf' hx'
      go_wp2_with fail
      go_roundg (m + 1 - (k + 1))
      case measure => have := HG.out; omega
      case rel => exact ⟨k + 1, by omega, rfl, by go_num, by rw [HTK.out]; exact HO3.out, HF3.out⟩
    · obtain rfl : k = m := by omega
      have t2 : decide ((k : Int) < (k : Int)) = false := by simp
      have HOE : Hid (OwnI w2.heap.size wr _ O) := Lib.hid (by have := HO.out; rwa [List.take_of_length_le (by rw [HOL.out]; exact Nat.le_refl _)] at this)
      have HE := Lib.hid (HF1.out.trans (HF12.out.trans HF.out (by simp)) (by simp))
      have HSZ : Hid (w.heap.size ≤ w2.heap.size) := Lib.hid (HF1.out.trans HF12.out (by simp)).size
      clear HO
      go_wp2_with fail
      go_ret
      exact ⟨_, rfl, HOE.out.mono HSZ.out, HE.out.toBelow (by simp)⟩
/-- All of the first ones are valid. -/
theorem allV_succ {l : List Pty} {k : Nat} {x : Pty} (hx : l[k]? = some x) (h : (l.take k).all validB = true) (hv : validB x = true) : (l.take (k + 1)).all validB = true := by
  rw [List.take_add_one, hx, List.all_append, h]
  simp [hv]
theorem anyV_yes {l : List Pty} {k : Nat} {x : Pty} (hx : l[k]? = some x) (hv : validB x = false) : l.any (fun e => !validB e) = true :=
  List.any_eq_true.2 ⟨x, List.mem_of_getElem? hx, by rw [hv]; rfl⟩
theorem anyV_no {l : List Pty} (h : l.all validB = true) : l.any (fun e => !validB e) = false := by
  rw [List.any_eq_false]
  intro x hx
  rw [List.all_eq_true] at h
  rw [h x hx]
  decide
set_option maxHeartbeats 8000000 in
theorem rpublish_any (ev pv : Value) (es ps : List Pty) (w : World) (he : Pts w ev es) (hp : Pts w pv ps) (hl : EntS es) (hn : es.length ≤ 100000) (hps : ∀ p ∈ ps, p.name.length ≤ 1000000 ∧ p.rev.length ≤ 1000000) :
    Calls Tryz.prog 9 #[ev, pv] w fun e w' => ∃ v, e = .returned (.tuple #[v, .int .i64 (pubS (clsL es) es ps).2]) ∧ PblR w' v (pubS (clsL es) es ps).1 ∧ Below w.heap.size w w' := by
  have HE := Lib.hid he
  have HP := Lib.hid hp
  have HL := Lib.hid hl
  have HPS := Lib.hid hps
  obtain ⟨ea, ec, rfl, _, _, hea⟩ := he.form
  obtain ⟨pa, pc, rfl, _, _, _⟩ := hp.form
  clear he hp hl hps
  obtain ⟨W0, hW0⟩ : ∃ W0, W0 = w.alloc (.cells #[.slice none 0 0, .string ⟨#[]⟩, .slice none 0 0, .slice none 0 0, .slice none 0 0] 26) := ⟨_, rfl⟩
  obtain ⟨p, ep⟩ : ∃ p, p = w.heap.size := ⟨_, rfl⟩
  have f0 : Fr [] w W0 := by rw [hW0]; exact (Fr.refl [] w).alloc _
  have hp0 : W0.heap[p]? = some (.cells #[.slice none 0 0, .string ⟨#[]⟩, .slice none 0 0, .slice none 0 0, .slice none 0 0] 26 (0, 0)) := by rw [hW0]; exact heap_new ep
  have EP := Lib.hid ep
  have HF0 := Lib.hid f0
  have HP0 := Lib.hid hp0
  by_cases h4 : 4000 < es.length
  · have t1 : decide ((4000 : Int) < (es.length : Int)) = true := by simp; omega
    have HR : Hid (pubS (clsL es) es ps = (zeroPb, 3)) := Lib.hid (by unfold pubS; rw [if_pos h4])
    clear h4
    go_enter Tryz.func9, Tryz.ntmps9
    go_wp2_with fail
    rw [← hW0, ← ep]
    have m0 := row_cell hp0 0
    have m1 := row_cell hp0 1
    have m2 := row_cell hp0 2
    have m3 := row_cell hp0 3
    have m4 := row_cell hp0 4
    simp at m0 m1 m2 m3 m4
    clear hp0 f0 hW0 ep
    refine bodyPost_ret (v := .tuple #[.agg #[.slice none 0 0, .string ⟨#[]⟩, .slice none 0 0, .slice none 0 0, .slice none 0 0], .int .i64 3]) ?_ rfl ⟨_, by rw [HR.out], by rw [HR.out]; exact zeroPb_reads _, by rw [EP.out]; exact HF0.out.toBelow (by simp)⟩
    rw [results_cell_tmp rfl]
    go_simp
  have t1 : decide ((4000 : Int) < (es.length : Int)) = false := by simp; omega
  have HPUB : Hid (pubS (clsL es) es ps = if es.any (fun e => !validB e) then (zeroPb, 1) else if (seedS ps (rootL (textsE es))).2 ≠ 0 then (zeroPb, (seedS ps (rootL (textsE es))).2) else (⟨es, rootL (textsE es), ps, (orderO (clsL es) (seedS ps (rootL (textsE es))).1).map Int.ofNat, []⟩, 0)) := Lib.hid (by unfold pubS; rw [if_neg h4])
  have h40 : es.length ≤ 4000 := by omega
  obtain ⟨n, en⟩ : ∃ q, q = es.length := ⟨_, rfl⟩
  have EN := Lib.hid en
  rw [← en] at h40 t1 hea ⊢
  clear h4 en hn
  go_enter Tryz.func9, Tryz.ntmps9
  go_wp2_with fail
  rw [← hW0, ← ep]
  clear hW0 ep f0 hp0
  go_loopg [6] (n + 1) (fun gh i wr => ∃ k : Nat, k ≤ n ∧ gh = n + 1 - k ∧ i = .int .i64 (k : Int) ∧ (es.take k).all validB = true ∧ Fr [] W0 wr)
  case atStart => exact ⟨0, by omega, by omega, rfl, by simp, Fr.refl _ _⟩
  case round =>
    obtain ⟨k, hk, hgh, rfl, hall, hfr⟩ := hrel
    have HG := Lib.hid hgh
    have HF := Lib.hid hfr
    have HALL := Lib.hid hall
    have HFW := Lib.hid (HF0.out.trans hfr (by simp))
    clear hgh hall hfr
    by_cases hlt : k < n
    · have t2 : decide ((k : Int) < (n : Int)) = true := by simp; omega
      obtain ⟨b, off, rfl⟩ := hea k hlt
      obtain ⟨x, hx⟩ : ∃ x, es[k]? = some x := ⟨es[k]'(by rw [← EN.out]; exact hlt), List.getElem?_eq_getElem _⟩
      have hE := HE.out
      rw [← EN.out] at hE
      obtain ⟨c0, c1, c2⟩ := (hE.fr HFW.out).cells k x hx
      have HX := Lib.hid hx
      have hs := HL.out x (List.mem_of_getElem? hx)
      have HVC := Lib.hid (fun W => rvalidE_any x W hs.1 hs.2.1 hs.2.2)
      unfold ptyV at HVC
      have i0 : (0 : Int) ≤ (k : Int) := by omega
      have i1 : (k : Int) < (n : Int) := by omega
      clear hx hs hE hea
      go_wp2_with fail
      refine (HVC.out _).mono ?_
      rintro e w1 ⟨rfl, hb⟩
      have hfb := Fr.ofBelow (X := []) hb
      have HF1 := Lib.hid (HF.out.trans hfb (by simp))
      have HFW1 := Lib.hid (HFW.out.trans hfb (by simp))
      clear hb hfb c0 c1 c2 HVC
      obtain ⟨vb, evb⟩ : ∃ q, q = validB x := ⟨_, rfl⟩
      have EVB := Lib.hid evb
      rw [← evb]
      clear evb
      cases vb with
      | true =>
        go_wp2_with fail
        go_roundg (n + 1 - (k + 1))
        case measure => have := HG.out; omega
        case rel => exact ⟨k + 1, by omega, rfl, by go_num, allV_succ HX.out HALL.out EVB.out.symm, HF1.out⟩
      | false =>
        have HR : Hid (pubS (clsL es) es ps = (zeroPb, 1)) := Lib.hid (by rw [HPUB.out, if_pos (anyV_yes HX.out EVB.out.symm)])
        have hp1 := HF1.out.at HP0.out (by simp)
        have HP1 := Lib.hid hp1
        clear hp1
        have hset := set5P (.slice none 0 0) (.string ⟨#[]⟩) (.slice none 0 0) (.slice none 0 0) (.slice none 0 0) HP1.out HFW1.out (by have := EP.out; omega)
        have y0 := row_free HP1.out 0
        have y1 := row_free HP1.out 1
        have y2 := row_free HP1.out 2
        have y3 := row_free HP1.out 3
        have y4 := row_free HP1.out 4
        have z0 := row_cell HP1.out 0
        have z1 := row_cell HP1.out 1
        have z2 := row_cell HP1.out 2
        have z3 := row_cell HP1.out 3
        have z4 := row_cell HP1.out 4
        simp at z0 z1 z2 z3 z4
        have HSET := Lib.hid hset
        clear hset
        go_wp2_with fail
        obtain ⟨hfx, hrx⟩ := HSET.out
        have HFX := Lib.hid hfx
        have m0 := row_cell hrx 0
        have m1 := row_cell hrx 1
        have m2 := row_cell hrx 2
        have m3 := row_cell hrx 3
        have m4 := row_cell hrx 4
        simp at m0 m1 m2 m3 m4
        clear hfx hrx
        refine bodyPost_ret (v := .tuple #[.agg #[.slice none 0 0, .string ⟨#[]⟩, .slice none 0 0, .slice none 0 0, .slice none 0 0], .int .i64 1]) ?_ rfl ⟨_, by rw [HR.out], by rw [HR.out]; exact zeroPb_reads _, HFX.out.toBelow (by simp)⟩
        rw [results_cell_tmp rfl]
        go_simp
    · obtain rfl : k = n := by omega
      have t2 : decide ((k : Int) < (k : Int)) = false := by simp
      have HPU2 : Hid (pubS (clsL es) es ps = if (seedS ps (rootL (textsE es))).2 ≠ 0 then (zeroPb, (seedS ps (rootL (textsE es))).2) else (⟨es, rootL (textsE es), ps, (orderO (clsL es) (seedS ps (rootL (textsE es))).1).map Int.ofNat, []⟩, 0)) := Lib.hid (by
        rw [HPUB.out, anyV_no (by have := HALL.out; rwa [EN.out, List.take_length] at this), if_neg (by decide)])
      have hE := HE.out.fr HFW.out
      have HTX := Lib.hid (ctexts_any _ es wr hE (by have := EN.out; omega) HL.out)
      have hlt : (textsE es).length ≤ 100000 := by unfold textsE; rw [List.length_map, ← EN.out]; omega
      have HLT := Lib.hid hlt
      rw [← EN.out] at HTX
      clear HPUB HALL hE hlt
      go_wp2_with fail
      refine HTX.out.mono ?_
      rintro e w3 ⟨tv, rfl, htv, hb⟩
      have hf := Fr.ofBelow (X := []) hb
      have HF3 := Lib.hid (HF.out.trans hf (by simp))
      obtain ⟨ta, tc, rfl, _, _⟩ := htv.strs.form
      have HTV := Lib.hid htv.strs
      clear hb htv hf HTX
      go_wp2_with fail
      refine (rroot_any _ (textsE es) w3 HTV.out HLT.out (textsE_len es)).mono ?_
      rintro e w4 ⟨rfl, hb⟩
      have hf := Fr.ofBelow (X := []) hb
      have hf4 := HF3.out.trans hf (by simp)
      have HF4 := Lib.hid hf4
      have HFW4 := Lib.hid (HF0.out.trans hf4 (by simp))
      have hrl := rootL_len (textsE es)
      obtain ⟨rt, ert⟩ : ∃ q, q = rootL (textsE es) := ⟨_, rfl⟩
      rw [← ert] at HPU2 hrl ⊢
      clear hb hf hf4 ert
      go_wp2_with fail
      refine (rseed_any _ ps rt w4 (HP.out.fr HFW4.out) HPS.out (by omega)).mono ?_
      rintro e w7 ⟨rfl, hb⟩
      have hf := Fr.ofBelow (X := []) hb
      have hf7 := HF4.out.trans hf (by simp)
      have HF7 := Lib.hid hf7
      have HFW7 := Lib.hid (HF0.out.trans hf7 (by simp))
      have hsl := seedS_len ps rt
      obtain ⟨sd, er, esd⟩ : ∃ a b, seedS ps rt = (a, b) := ⟨_, _, rfl⟩
      rw [esd] at HPU2 hsl ⊢
      simp only at HPU2 hsl ⊢
      clear hb hf hf7 esd
      by_cases her : er = 0
      case neg =>
        have t3 : (er != 0) = true := by simpa using her
        have HR : Hid (pubS (clsL es) es ps = (zeroPb, er)) := Lib.hid (by rw [HPU2.out, if_pos her])
        have hp1 := HF7.out.at HP0.out (by simp)
        have HP1 := Lib.hid hp1
        clear hp1 her HPU2
        have hset := set5P (.slice none 0 0) (.string ⟨#[]⟩) (.slice none 0 0) (.slice none 0 0) (.slice none 0 0) HP1.out HFW7.out (by have := EP.out; omega)
        have y0 := row_free HP1.out 0
        have y1 := row_free HP1.out 1
        have y2 := row_free HP1.out 2
        have y3 := row_free HP1.out 3
        have y4 := row_free HP1.out 4
        have z0 := row_cell HP1.out 0
        have z1 := row_cell HP1.out 1
        have z2 := row_cell HP1.out 2
        have z3 := row_cell HP1.out 3
        have z4 := row_cell HP1.out 4
        simp at z0 z1 z2 z3 z4
        have HSET := Lib.hid hset
        clear hset
        go_wp2_with fail
        obtain ⟨hfx, hrx⟩ := HSET.out
        have HFX := Lib.hid hfx
        have m0 := row_cell hrx 0
        have m1 := row_cell hrx 1
        have m2 := row_cell hrx 2
        have m3 := row_cell hrx 3
        have m4 := row_cell hrx 4
        simp at m0 m1 m2 m3 m4
        clear hfx hrx
        refine bodyPost_ret (v := .tuple #[.agg #[.slice none 0 0, .string ⟨#[]⟩, .slice none 0 0, .slice none 0 0, .slice none 0 0], .int .i64 er]) ?_ rfl ⟨_, by rw [HR.out], by rw [HR.out]; exact zeroPb_reads _, HFX.out.toBelow (by simp)⟩
        rw [results_cell_tmp rfl]
        go_simp
      have t3 : (er != 0) = false := by simpa using her
      have HR : Hid (pubS (clsL es) es ps = (⟨es, rt, ps, (orderO (clsL es) sd).map Int.ofNat, []⟩, 0)) := Lib.hid (by rw [HPU2.out, if_neg (by simpa using her)])
      have HOC := Lib.hid (rorder_any _ es sd w7 (HE.out.fr HFW7.out) (by have := EN.out; omega) (by omega))
      rw [← EN.out] at HOC
      clear her HPU2
      go_wp2_with fail
      refine HOC.out.mono ?_
      rintro e w8 ⟨ov, rfl, hov, hb⟩
      have hf := Fr.ofBelow (X := []) hb
      have hf8 := HF7.out.trans hf (by simp)
      have HF8 := Lib.hid hf8
      have HFW8 := Lib.hid (HF0.out.trans hf8 (by simp))
      have HP8 := Lib.hid (hf8.at HP0.out (by simp))
      obtain ⟨oa, oc, rfl, _, _⟩ := hov.nums.form
      have HOV := Lib.hid hov
      clear hb hf hf8 HOC hov
      obtain ⟨on, eon⟩ : ∃ on, on = (orderO (clsL es) sd).length := ⟨_, rfl⟩
      rw [← eon] at HOV ⊢
      clear eon
      have hset := set5P (.slice ea k ec) (.string ⟨rt.toArray⟩) (.slice pa ps.length pc) (.slice oa on oc) (.slice none 0 0) HP8.out HFW8.out (by have := EP.out; omega)
      have hall : Fr [p] w8 (((((w8.setCell ⟨p, 0, none⟩ (.slice ea k ec)).setCell ⟨p, 1, none⟩ (.string ⟨rt.toArray⟩)).setCell ⟨p, 2, none⟩ (.slice pa ps.length pc)).setCell ⟨p, 3, none⟩ (.slice oa on oc)).setCell ⟨p, 4, none⟩ (.slice none 0 0)) := ((((((Fr.refl [p] w8).setCell _ _ (by simp)).setCell _ _ (by simp)).setCell _ _ (by simp)).setCell _ _ (by simp)).setCell _ _ (by simp))
      have HALL2 := Lib.hid hall
      have HSET := Lib.hid hset
      have y0 := row_free HP8.out 0
      have y1 := row_free HP8.out 1
      have y2 := row_free HP8.out 2
      have y3 := row_free HP8.out 3
      have y4 := row_free HP8.out 4
      have z0 := row_cell HP8.out 0
      have z1 := row_cell HP8.out 1
      have z2 := row_cell HP8.out 2
      have z3 := row_cell HP8.out 3
      have z4 := row_cell HP8.out 4
      simp at z0 z1 z2 z3 z4
      clear hset hall
      go_wp2_with fail
      obtain ⟨hfx, hrx⟩ := HSET.out
      have HFX := Lib.hid hfx
      have HRD : Hid (PblR (((((w8.setCell ⟨p, 0, none⟩ (.slice ea k ec)).setCell ⟨p, 1, none⟩ (.string ⟨rt.toArray⟩)).setCell ⟨p, 2, none⟩ (.slice pa ps.length pc)).setCell ⟨p, 3, none⟩ (.slice oa on oc)).setCell ⟨p, 4, none⟩ (.slice none 0 0)) (.agg #[.slice ea k ec, .string ⟨rt.toArray⟩, .slice pa ps.length pc, .slice oa on oc, .slice none 0 0]) ⟨es, rt, ps, (orderO (clsL es) sd).map Int.ofNat, []⟩) := Lib.hid (by
        have hE := HE.out.fr hfx
        rw [← EN.out] at hE
        refine ⟨_, _, _, _, rfl, hE, HP.out.fr hfx, (HOV.out.nums.frX HALL2.out (fun b hb hm => ?_)).zs, Or.inl ⟨rfl, none, rfl⟩⟩
        have h1 := (ownBlock_cells HOV.out b hb).1
        have h2 := HF7.out.size
        have h3 := lt_of_block HP0.out
        have h4 : b = p := by simpa using hm
        omega)
      have m0 := row_cell hrx 0
      have m1 := row_cell hrx 1
      have m2 := row_cell hrx 2
      have m3 := row_cell hrx 3
      have m4 := row_cell hrx 4
      simp at m0 m1 m2 m3 m4
      clear hfx hrx
      refine bodyPost_ret (v := .tuple #[.agg #[.slice ea k ec, .string ⟨rt.toArray⟩, .slice pa ps.length pc, .slice oa on oc, .slice none 0 0], .int .i64 0]) ?_ rfl ⟨_, by rw [HR.out], by rw [HR.out]; exact HRD.out, HFX.out.toBelow (by simp)⟩
      rw [results_cell_tmp rfl]
      go_simp
end Go.Proofs.YtjddngbgbbbefaaGreatDoor
namespace Go.Proofs.YtjddngbgbbbefaaGreatDoor
open Go.RowKit
set_option maxRecDepth 100000

set_option maxHeartbeats 2000000 in
theorem rbefore_any (x y : Aud) (w : World) :
    Calls Tryz.prog 93 #[.agg #[.int .i64 x.kind, .int .i64 x.a, .int .i64 x.b], .agg #[.int .i64 y.kind, .int .i64 y.a, .int .i64 y.b]] w fun e w' => e = .returned (.bool (ltA x y)) ∧ Below w.heap.size w w' := by
  obtain ⟨a, b, c⟩ := x
  obtain ⟨d, e, f⟩ := y
  simp only
  by_cases h1 : a = d
  case neg =>
    have t1 : (a != d) = true := by simpa using h1
    have HR : Hid (ltA ⟨a, b, c⟩ ⟨d, e, f⟩ = decide (a < d)) := Lib.hid (by unfold ltA; simp [h1])
    clear h1
    go_enter Tryz.func93, Tryz.ntmps93
    go_wp2_with fail
    go_ret
    exact ⟨by rw [HR.out]; rfl, (((Fr.refl [] w).alloc _).alloc _).toBelow (by simp)⟩
  have t1 : (a != d) = false := by simpa using h1
  by_cases h2 : b = e
  case neg =>
    have t2 : (b != e) = true := by simpa using h2
    have HR : Hid (ltA ⟨a, b, c⟩ ⟨d, e, f⟩ = decide (b < e)) := Lib.hid (by unfold ltA; simp [h1, h2])
    clear h1 h2
    go_enter Tryz.func93, Tryz.ntmps93
    go_wp2_with fail
    go_ret
    exact ⟨by rw [HR.out]; rfl, (((Fr.refl [] w).alloc _).alloc _).toBelow (by simp)⟩
  have t2 : (b != e) = false := by simpa using h2
  have HR : Hid (ltA ⟨a, b, c⟩ ⟨d, e, f⟩ = decide (c < f)) := Lib.hid (by unfold ltA; simp [h1, h2])
  clear h1 h2
  go_enter Tryz.func93, Tryz.ntmps93
  go_wp2_with fail
  go_ret
  exact ⟨by rw [HR.out]; rfl, (((Fr.refl [] w).alloc _).alloc _).toBelow (by simp)⟩
theorem Ads.pre {w : World} {b off n q cap : Nat} {l : List Aud} (h : Ads w (.slice (some ⟨b, off, none⟩) n cap) l) (hq : q ≤ n) : Ads w (.slice (some ⟨b, off, none⟩) q cap) (l.take q) := by
  rcases h with ⟨h, _⟩ | ⟨b', off', cap', hv, h1, h2, h3, h4⟩
  · cases h
  · cases hv
    refine Or.inr ⟨b, off, cap, by rw [List.length_take, Nat.min_eq_left hq], by rw [List.length_take]; omega, h2, h3, fun i p hp => h4 i p ?_⟩
    rw [List.getElem?_take] at hp
    split at hp
    · exact hp
    · cases hp
theorem Ads.post {w : World} {b off n q cap : Nat} {l : List Aud} (h : Ads w (.slice (some ⟨b, off, none⟩) n cap) l) (hq : q ≤ n) : Ads w (.slice (some ⟨b, off + q * 3, none⟩) (n - q) (cap - q)) (l.drop q) := by
  rcases h with ⟨h, _⟩ | ⟨b', off', cap', hv, h1, h2, h3, h4⟩
  · cases h
  · cases hv
    refine Or.inr ⟨b, off + q * 3, cap - q, by rw [List.length_drop], by rw [List.length_drop]; omega, by omega, h3, fun i p hp => ?_⟩
    rw [List.getElem?_drop] at hp
    have := h4 (q + i) p hp
    rw [show off + (q + i) * 3 = off + q * 3 + i * 3 by omega] at this
    exact this
theorem Ads.end {w : World} {b off n cap : Nat} {l : List Aud} (h : Ads w (.slice (some ⟨b, off, none⟩) n cap) l) (hn : l.length = n) (hq : n ≤ cap) : Ads w (.slice (some ⟨b, off, none⟩) 0 0) (l.drop cap) := by
  rcases h with ⟨h, _⟩ | ⟨b', off', cap', hv, h1, h2, h3, h4⟩
  · cases h
  · cases hv
    rw [List.drop_eq_nil_of_le (by omega)]
    exact Or.inr ⟨b, off, 0, rfl, by simp, by simp, h3, fun i p hp => by simp at hp⟩
theorem posAu_no {l : List Aud} {x y : Aud} {j : Nat} (hy : l[j]? = some y) (h : ltA x y = true) : posAu l x (j + 1) = posAu l x j := by
  rw [posAu, List.getD_eq_getElem?_getD, hy, Option.getD_some, if_pos h]
theorem posAu_yes {l : List Aud} {x y : Aud} {j : Nat} (hy : l[j]? = some y) (h : ltA x y = false) : posAu l x (j + 1) = j + 1 := by
  rw [posAu, List.getD_eq_getElem?_getD, hy, Option.getD_some, if_neg (by rw [h]; decide)]
set_option maxHeartbeats 8000000 in
theorem radd_any (v : Value) (l : List Aud) (x : Aud) (w : World) (hv : Ads w v l) (hn : l.length ≤ 100000) :
    Calls Tryz.prog 53 #[v, .agg #[.int .i64 x.kind, .int .i64 x.a, .int .i64 x.b]] w fun e w' => ∃ v', e = .returned v' ∧ Ads w' v' (addA l x) ∧ Below w.heap.size w w' := by
  have hmx : Tryz.prog.follows .mixedOrders = true := by kernel_rfl
  have HV := Lib.hid hv
  obtain ⟨a, cap, rfl, hlc, hcap, ha⟩ := hv.form
  obtain ⟨n, en⟩ : ∃ q, q = l.length := ⟨_, rfl⟩
  have EN := Lib.hid en
  obtain ⟨W0, hW0⟩ : ∃ W, W = w.alloc (.cells #[.int .i64 x.kind, .int .i64 x.a, .int .i64 x.b] 48) := ⟨_, rfl⟩
  obtain ⟨xb, exb⟩ : ∃ q, q = w.heap.size := ⟨_, rfl⟩
  have f0 : Fr [] w W0 := by rw [hW0]; exact (Fr.refl [] w).alloc _
  have hx0 : W0.heap[xb]? = some (.cells #[.int .i64 x.kind, .int .i64 x.a, .int .i64 x.b] 48 (0, 0)) := by rw [hW0]; exact heap_new exb
  have HX0 := Lib.hid hx0
  have HF0 := Lib.hid f0
  rw [← en] at HV hn hlc ha ⊢
  have HV0 : Hid (Ads W0 (.slice a n cap) l) := Lib.hid (HV.out.fr f0)
  clear hv en f0 hx0
  go_enter Tryz.func53, Tryz.ntmps53
  go_wp2_with fail
  rw [← hW0, ← exb]
  clear hW0 exb
  go_loopg [5] (n + 1) (fun gh at_ wr => ∃ q : Nat, q ≤ n ∧ gh = q + 1 ∧ at_ = .int .i64 (q : Int) ∧ posAu l x n = posAu l x q ∧ Fr [] W0 wr)
  case atStart => exact ⟨n, by omega, rfl, rfl, rfl, Fr.refl _ _⟩
  case round =>
    obtain ⟨q, hq, hgh, rfl, hpos, hfr⟩ := hrel
    have HG := Lib.hid hgh
    have HF := Lib.hid hfr
    have HPOS := Lib.hid hpos
    have hX := hfr.at HX0.out (by simp)
    have X0 := row_cell hX 0
    have X1 := row_cell hX 1
    have X2 := row_cell hX 2
    simp at X0 X1 X2
    clear hgh hpos hfr hX
    by_cases hq0 : q = 0
    · have t1 : decide ((0 : Int) < (q : Int)) = false := by simp; omega
      have t2 : decide (0 < q) = false := by simp; omega
      have HQ0 := Lib.hid hq0
      clear hq0
      go_wp2_with fail
      have gp0 : Fr [] wr wr.drew := (Fr.refl [] wr).drew
      have hSp0 : Fr [] wr wr.drew := gp0
      refine region_held 100 (fun W' => Fr [] wr W') hmx ?_
      change Held _ _ _ _ _ _ 11 (Array.replicate 11 false) _ _
      refine hd_take 0 (v := .int .i64 (q : Int)) rfl (by kernel_rfl) (by kernel_rfl) (by kernel_rfl) rfl hSp0 (fun W' hS => by go_simp) rfl ?_
      try simp only [Act.put, List.setIfInBounds_toArray, List.set_cons_zero, List.set_cons_succ]
      refine hd_take 1 (v := .bool false) rfl (by kernel_rfl) (by kernel_rfl) (by kernel_rfl) rfl hSp0 (fun W' hS => by go_simp) rfl ?_
      try simp only [Act.put, List.setIfInBounds_toArray, List.set_cons_zero, List.set_cons_succ]
      refine hd_take 2 (v := .bool false) rfl (by kernel_rfl) (by kernel_rfl) (by kernel_rfl) rfl hSp0 (fun W' hS => by go_simp) rfl ?_
      try simp only [Act.put, List.setIfInBounds_toArray, List.set_cons_zero, List.set_cons_succ]
      refine hd_skip 3 rfl (by kernel_rfl) (by kernel_rfl) (by kernel_rfl) rfl hSp0 rfl ?_
      refine hd_skip 4 rfl (by kernel_rfl) (by kernel_rfl) (by kernel_rfl) rfl hSp0 rfl ?_
      refine hd_skip 5 rfl (by kernel_rfl) (by kernel_rfl) (by kernel_rfl) rfl hSp0 rfl ?_
      refine hd_skip 6 rfl (by kernel_rfl) (by kernel_rfl) (by kernel_rfl) rfl hSp0 rfl ?_
      refine hd_skip 7 rfl (by kernel_rfl) (by kernel_rfl) (by kernel_rfl) rfl hSp0 rfl ?_
      refine hd_skip 8 rfl (by kernel_rfl) (by kernel_rfl) (by kernel_rfl) rfl hSp0 rfl ?_
      refine hd_skip 9 rfl (by kernel_rfl) (by kernel_rfl) (by kernel_rfl) rfl hSp0 rfl ?_
      try simp only [Act.put, List.setIfInBounds_toArray, List.set_cons_zero, List.set_cons_succ]
      refine hd_take 10 (v := .bool false) rfl (by kernel_rfl) (by kernel_rfl) (by kernel_rfl) rfl hSp0 (fun W' hS => by go_simp) rfl ?_
      try simp only [Act.put, List.setIfInBounds_toArray, List.set_cons_zero, List.set_cons_succ]
      refine held_done (by kernel_rfl) ?_
      have HF3 := Lib.hid (HF.out.trans gp0 (by simp))
      obtain ⟨W3, hW3⟩ : ∃ W, W = wr.drew := ⟨_, rfl⟩
      rw [← hW3] at HF3 ⊢
      clear hW3 X0 X1 X2
      go_wp2_with fail
      have gr0 : Fr [] W3 W3.drew := (Fr.refl [] W3).drew
      have hSr0 : Fr [] W3 W3.drew := gr0
      refine region_held 100 (fun W' => Fr [] W3 W') hmx ?_
      change Held _ _ _ _ _ _ 11 (Array.replicate 11 false) _ _
      refine hd_take 0 (v := .int .i64 (q : Int)) rfl (by kernel_rfl) (by kernel_rfl) (by kernel_rfl) rfl hSr0 (fun W' hS => by go_simp) rfl ?_
      try simp only [Act.put, List.setIfInBounds_toArray, List.set_cons_zero, List.set_cons_succ]
      refine hd_take 1 (v := .bool false) rfl (by kernel_rfl) (by kernel_rfl) (by kernel_rfl) rfl hSr0 (fun W' hS => by go_simp) rfl ?_
      try simp only [Act.put, List.setIfInBounds_toArray, List.set_cons_zero, List.set_cons_succ]
      refine hd_take 2 (v := .bool false) rfl (by kernel_rfl) (by kernel_rfl) (by kernel_rfl) rfl hSr0 (fun W' hS => by go_simp) rfl ?_
      try simp only [Act.put, List.setIfInBounds_toArray, List.set_cons_zero, List.set_cons_succ]
      refine hd_skip 3 rfl (by kernel_rfl) (by kernel_rfl) (by kernel_rfl) rfl hSr0 rfl ?_
      refine hd_skip 4 rfl (by kernel_rfl) (by kernel_rfl) (by kernel_rfl) rfl hSr0 rfl ?_
      refine hd_skip 5 rfl (by kernel_rfl) (by kernel_rfl) (by kernel_rfl) rfl hSr0 rfl ?_
      refine hd_skip 6 rfl (by kernel_rfl) (by kernel_rfl) (by kernel_rfl) rfl hSr0 rfl ?_
      refine hd_skip 7 rfl (by kernel_rfl) (by kernel_rfl) (by kernel_rfl) rfl hSr0 rfl ?_
      refine hd_skip 8 rfl (by kernel_rfl) (by kernel_rfl) (by kernel_rfl) rfl hSr0 rfl ?_
      refine hd_skip 9 rfl (by kernel_rfl) (by kernel_rfl) (by kernel_rfl) rfl hSr0 rfl ?_
      try simp only [Act.put, List.setIfInBounds_toArray, List.set_cons_zero, List.set_cons_succ]
      refine hd_take 10 (v := .bool false) rfl (by kernel_rfl) (by kernel_rfl) (by kernel_rfl) rfl hSr0 (fun W' hS => by go_simp) rfl ?_
      try simp only [Act.put, List.setIfInBounds_toArray, List.set_cons_zero, List.set_cons_succ]
      refine held_done (by kernel_rfl) ?_
      have HF4 := Lib.hid (HF3.out.trans gr0 (by simp))
      obtain ⟨W4, hW4⟩ : ∃ W, W = W3.drew := ⟨_, rfl⟩
      rw [← hW4] at HF4 ⊢
      clear hW4 gp0 gr0
      have hv4 := HV0.out.fr HF4.out
      have HV4 := Lib.hid hv4
      rcases hv4 with ⟨h1, h2⟩ | ⟨b, off, cap', h1, _⟩
      · cases h1
        have HL0 := Lib.hid h2
        obtain rfl : q = 0 := HQ0.out
        clear h2
        have HPRE := Lib.hid (fun W (h : Fr [] W4 W) => (show Ads W (.slice none 0 0) (l.take 0) from Or.inl ⟨rfl, by rw [HL0.out]; simp⟩))
        have HPST := Lib.hid (fun W (h : Fr [] W4 W) => (show Ads W (.slice none 0 0) (l.drop 0) from Or.inl ⟨rfl, by rw [HL0.out]; simp⟩))
        have HXW := Lib.hid (fun W (h : Fr [] W4 W) => (HF4.out.trans h (by simp)).at HX0.out (by simp))
        have HLQ : Hid ((l.take 0).length ≤ 100000 ∧ (l.drop 0).length ≤ 100000) := Lib.hid (by rw [List.length_take, List.length_drop]; have := EN.out; omega)
        go_wp2_with (at_builtin; go_loud (refine wpList_appA rfl (.tmp 34) (.tmp 37) rfl W4.heap.size _ _ [] (l.take 0) W4 rfl rfl (by exact HPRE.out _ ((Fr.refl [] W4).alloc _)) (ownA_empty (Nat.le_refl _)) ((Fr.refl [] W4).alloc _) (Nat.le_refl _) (by simp) (by have := HLQ.out; simp only [List.length_nil]; omega) ?_))
        intro v6 w6 ho6 hf6 _
        have HO6 := Lib.hid ho6
        have HF6 := Lib.hid hf6
        have hX := HXW.out w6 hf6
        have X0 := row_cell hX 0
        have X1 := row_cell hX 1
        have X2 := row_cell hX 2
        simp at X0 X1 X2
        clear ho6 hf6 hX
        go_wp2_with (at_builtin; go_loud (refine wpList_appA rfl (.tmp 39) (.tmp 41) rfl W4.heap.size _ _ (l.take 0) [x] W4 rfl rfl (ads1 (heap_new rfl)) (HO6.out.fr ((Fr.refl [] w6).alloc _) (by simp)) (HF6.out.alloc _) (Nat.le_refl _) (HF6.out.alloc _).size (by have := HLQ.out; simp only [List.length_nil, List.length_cons]; omega) ?_))
        intro v7 w7 ho7 hf7 _
        have HO7 := Lib.hid ho7
        have HF7 := Lib.hid hf7
        clear ho7 hf7 X0 X1 X2
        go_wp2_with (at_builtin; go_loud (refine wpList_appA rfl (.tmp 43) (.tmp 46) rfl W4.heap.size _ _ (l.take 0 ++ [x]) (l.drop 0) W4 rfl rfl (by first | exact HPST.out _ HF7.out | simpa using HPST.out _ HF7.out) HO7.out HF7.out (Nat.le_refl _) HF7.out.size (by have := HLQ.out; simp only [List.length_append, List.length_nil, List.length_cons]; omega) ?_))
        intro v8 w8 ho8 hf8 _
        have HO8 := Lib.hid ho8.ads
        have HF8 := Lib.hid (HF0.out.trans (HF4.out.trans hf8 (by simp)) (by simp))
        clear ho8 hf8
        go_wp2_with fail
        go_ret
        have hadd : addA l x = l.take 0 ++ x :: l.drop 0 := by
          rw [HL0.out]; rfl
        exact ⟨_, rfl, by rw [hadd]; exact HO8.out, HF8.out.toBelow (by simp)⟩
      · obtain rfl : a = some ⟨b, off, none⟩ := by cases h1; rfl
        clear h1
        by_cases hcq : cap = q
        · subst hcq
          have HPRE := Lib.hid (fun W (h : Fr [] W4 W) => (HV4.out.fr h).pre hq)
          have HPST := Lib.hid (fun W (h : Fr [] W4 W) => (HV4.out.fr h).end EN.out.symm hlc)
          have HXW := Lib.hid (fun W (h : Fr [] W4 W) => (HF4.out.trans h (by simp)).at HX0.out (by simp))
          have HLQ : Hid ((l.take cap).length ≤ 100000 ∧ (l.drop cap).length ≤ 100000) := Lib.hid (by rw [List.length_take, List.length_drop]; have := EN.out; omega)
          go_wp2_with (at_builtin; go_loud (refine wpList_appA rfl (.tmp 34) (.tmp 37) rfl W4.heap.size _ _ [] (l.take cap) W4 rfl rfl (by exact HPRE.out _ ((Fr.refl [] W4).alloc _)) (ownA_empty (Nat.le_refl _)) ((Fr.refl [] W4).alloc _) (Nat.le_refl _) (by simp) (by have := HLQ.out; simp only [List.length_nil]; omega) ?_))
          intro v6 w6 ho6 hf6 _
          have HO6 := Lib.hid ho6
          have HF6 := Lib.hid hf6
          have hX := HXW.out w6 hf6
          have X0 := row_cell hX 0
          have X1 := row_cell hX 1
          have X2 := row_cell hX 2
          simp at X0 X1 X2
          clear ho6 hf6 hX
          go_wp2_with (at_builtin; go_loud (refine wpList_appA rfl (.tmp 39) (.tmp 41) rfl W4.heap.size _ _ (l.take cap) [x] W4 rfl rfl (ads1 (heap_new rfl)) (HO6.out.fr ((Fr.refl [] w6).alloc _) (by simp)) (HF6.out.alloc _) (Nat.le_refl _) (HF6.out.alloc _).size (by have := HLQ.out; simp only [List.length_nil, List.length_cons]; omega) ?_))
          intro v7 w7 ho7 hf7 _
          have HO7 := Lib.hid ho7
          have HF7 := Lib.hid hf7
          clear ho7 hf7 X0 X1 X2
          go_wp2_with (at_builtin; go_loud (refine wpList_appA rfl (.tmp 43) (.tmp 46) rfl W4.heap.size _ _ (l.take cap ++ [x]) (l.drop cap) W4 rfl rfl (by first | exact HPST.out _ HF7.out | simpa using HPST.out _ HF7.out) HO7.out HF7.out (Nat.le_refl _) HF7.out.size (by have := HLQ.out; simp only [List.length_append, List.length_nil, List.length_cons]; omega) ?_))
          intro v8 w8 ho8 hf8 _
          have HO8 := Lib.hid ho8.ads
          have HF8 := Lib.hid (HF0.out.trans (HF4.out.trans hf8 (by simp)) (by simp))
          clear ho8 hf8
          go_wp2_with fail
          go_ret
          have hadd : addA l x = l.take cap ++ x :: l.drop cap := by
            have hp : posAu l x l.length = cap := by rw [← EN.out, HPOS.out, HQ0.out]; rfl
            unfold addA; rw [hp, if_neg (fun h => by have := h.1; have := HQ0.out; omega)]
          exact ⟨_, rfl, by rw [hadd]; exact HO8.out, HF8.out.toBelow (by simp)⟩
        · skip
          have HPRE := Lib.hid (fun W (h : Fr [] W4 W) => (HV4.out.fr h).pre hq)
          have HPST := Lib.hid (fun W (h : Fr [] W4 W) => (HV4.out.fr h).post hq)
          have HXW := Lib.hid (fun W (h : Fr [] W4 W) => (HF4.out.trans h (by simp)).at HX0.out (by simp))
          have HLQ : Hid ((l.take q).length ≤ 100000 ∧ (l.drop q).length ≤ 100000) := Lib.hid (by rw [List.length_take, List.length_drop]; have := EN.out; omega)
          go_wp2_with (at_builtin; go_loud (refine wpList_appA rfl (.tmp 34) (.tmp 37) rfl W4.heap.size _ _ [] (l.take q) W4 rfl rfl (by exact HPRE.out _ ((Fr.refl [] W4).alloc _)) (ownA_empty (Nat.le_refl _)) ((Fr.refl [] W4).alloc _) (Nat.le_refl _) (by simp) (by have := HLQ.out; simp only [List.length_nil]; omega) ?_))
          intro v6 w6 ho6 hf6 _
          have HO6 := Lib.hid ho6
          have HF6 := Lib.hid hf6
          have hX := HXW.out w6 hf6
          have X0 := row_cell hX 0
          have X1 := row_cell hX 1
          have X2 := row_cell hX 2
          simp at X0 X1 X2
          clear ho6 hf6 hX
          go_wp2_with (at_builtin; go_loud (refine wpList_appA rfl (.tmp 39) (.tmp 41) rfl W4.heap.size _ _ (l.take q) [x] W4 rfl rfl (ads1 (heap_new rfl)) (HO6.out.fr ((Fr.refl [] w6).alloc _) (by simp)) (HF6.out.alloc _) (Nat.le_refl _) (HF6.out.alloc _).size (by have := HLQ.out; simp only [List.length_nil, List.length_cons]; omega) ?_))
          intro v7 w7 ho7 hf7 _
          have HO7 := Lib.hid ho7
          have HF7 := Lib.hid hf7
          clear ho7 hf7 X0 X1 X2
          go_wp2_with (at_builtin; go_loud (refine wpList_appA rfl (.tmp 43) (.tmp 46) rfl W4.heap.size _ _ (l.take q ++ [x]) (l.drop q) W4 rfl rfl (by first | exact HPST.out _ HF7.out | simpa using HPST.out _ HF7.out) HO7.out HF7.out (Nat.le_refl _) HF7.out.size (by have := HLQ.out; simp only [List.length_append, List.length_nil, List.length_cons]; omega) ?_))
          intro v8 w8 ho8 hf8 _
          have HO8 := Lib.hid ho8.ads
          have HF8 := Lib.hid (HF0.out.trans (HF4.out.trans hf8 (by simp)) (by simp))
          clear ho8 hf8
          go_wp2_with fail
          go_ret
          have hadd : addA l x = l.take q ++ x :: l.drop q := by
            have hp : posAu l x l.length = q := by rw [← EN.out, HPOS.out, HQ0.out]; rfl
            unfold addA; rw [hp, if_neg (fun h => by have := h.1; have := HQ0.out; omega)]
          exact ⟨_, rfl, by rw [hadd]; exact HO8.out, HF8.out.toBelow (by simp)⟩
    · have t1 : decide ((0 : Int) < (q : Int)) = true := by simp; omega
      have t2 : decide (0 < q) = true := by simp; omega
      obtain ⟨j, ej⟩ : ∃ j, j = q - 1 := ⟨_, rfl⟩
      have q1 : IntKind.i64.wrap ((q : Int) - 1) = (j : Int) := by rw [show (q : Int) - 1 = (j : Int) by omega]; exact IntWalk.i64_in _ (by omega)
      have HJ : Hid (q = j + 1) := Lib.hid (by omega)
      have hjn : j < n := by omega
      obtain ⟨b, off, rfl⟩ := ha j hjn
      obtain ⟨y, hy⟩ : ∃ y, l[j]? = some y := ⟨l[j]'(by rw [← EN.out]; exact hjn), List.getElem?_eq_getElem _⟩
      obtain ⟨c0, c1, c2⟩ := (HV0.out.fr HF.out).cells j y hy
      have HY := Lib.hid hy
      have i0 : (0 : Int) ≤ (j : Int) := by omega
      have i1 : (j : Int) < (n : Int) := by omega
      have HBF := Lib.hid (fun W => rbefore_any x y W)
      obtain ⟨bf, ebf⟩ : ∃ q, q = ltA x y := ⟨_, rfl⟩
      rw [← ebf] at HBF
      have EBF := Lib.hid ebf
      clear hy ebf ej hjn ha hq0
      go_wp2_with fail
      have gp0 : Fr [] wr wr.drew := (Fr.refl [] wr).drew
      have hSp0 : Fr [] wr wr.drew := gp0
      refine region_held 100 (fun W' => Fr [] wr W') hmx ?_
      change Held _ _ _ _ _ _ 11 (Array.replicate 11 false) _ _
      refine hd_take 0 (v := .int .i64 (q : Int)) rfl (by kernel_rfl) (by kernel_rfl) (by kernel_rfl) rfl hSp0 (fun W' hS => by go_simp) rfl ?_
      try simp only [Act.put, List.setIfInBounds_toArray, List.set_cons_zero, List.set_cons_succ]
      refine hd_take 1 (v := .bool true) rfl (by kernel_rfl) (by kernel_rfl) (by kernel_rfl) rfl hSp0 (fun W' hS => by go_simp) rfl ?_
      try simp only [Act.put, List.setIfInBounds_toArray, List.set_cons_zero, List.set_cons_succ]
      refine hd_take 2 (v := .bool true) rfl (by kernel_rfl) (by kernel_rfl) (by kernel_rfl) rfl hSp0 (fun W' hS => by go_simp) rfl ?_
      try simp only [Act.put, List.setIfInBounds_toArray, List.set_cons_zero, List.set_cons_succ]
      refine hd_take 3 (v := .agg #[.int .i64 x.kind, .int .i64 x.a, .int .i64 x.b]) rfl (by kernel_rfl) (by kernel_rfl) (by kernel_rfl) rfl hSp0 (fun W' hS => by have s0 := hS.cell X0 (by simp); have s1 := hS.cell X1 (by simp); have s2 := hS.cell X2 (by simp); go_simp) rfl ?_
      refine hd_take 4 (v := .slice (some ⟨b, off, none⟩) n cap) rfl (by kernel_rfl) (by kernel_rfl) (by kernel_rfl) rfl hSp0 (fun W' hS => by go_simp) rfl ?_
      refine hd_take 5 (v := .int .i64 (q : Int)) rfl (by kernel_rfl) (by kernel_rfl) (by kernel_rfl) rfl hSp0 (fun W' hS => by go_simp) rfl ?_
      try simp only [Act.put, List.setIfInBounds_toArray, List.set_cons_zero, List.set_cons_succ]
      refine hd_take 6 (v := .int .i64 (j : Int)) rfl (by kernel_rfl) (by kernel_rfl) (by kernel_rfl) rfl hSp0 (fun W' hS => by go_simp) rfl ?_
      try simp only [Act.put, List.setIfInBounds_toArray, List.set_cons_zero, List.set_cons_succ]
      refine hd_take 7 (v := .pointer (some ⟨b, off + j * 3, none⟩)) rfl (by kernel_rfl) (by kernel_rfl) (by kernel_rfl) rfl hSp0 (fun W' hS => by go_simp) rfl ?_
      try simp only [Act.put, List.setIfInBounds_toArray, List.set_cons_zero, List.set_cons_succ]
      refine hd_take 8 (v := .agg #[.int .i64 y.kind, .int .i64 y.a, .int .i64 y.b]) rfl (by kernel_rfl) (by kernel_rfl) (by kernel_rfl) rfl hSp0 (fun W' hS => by have s0 := hS.cell c0 (by simp); have s1 := hS.cell c1 (by simp); have s2 := hS.cell c2 (by simp); go_simp) rfl ?_
      try simp only [Act.put, List.setIfInBounds_toArray, List.set_cons_zero, List.set_cons_succ]
      refine hd_one 9 (by kernel_rfl) rfl (by kernel_rfl) rfl (fun K' hK => ?_)
      go_simp
      refine (HBF.out wr.drew).mono ?_
      rintro e yp1 ⟨rfl, hbb⟩
      have gp1 : Fr [] wr yp1 := gp0.below hbb gp0.size
      clear hbb
      have hSp1 : Fr [] wr yp1 := gp1
      refine hK.out _ _ (fun _ => hSp1) ?_
      clear hK K'
      try simp only [Act.put, List.setIfInBounds_toArray, List.set_cons_zero, List.set_cons_succ]
      refine hd_take 10 (v := .bool bf) rfl (by kernel_rfl) (by kernel_rfl) (by kernel_rfl) rfl hSp1 (fun W' hS => by go_simp) rfl ?_
      try simp only [Act.put, List.setIfInBounds_toArray, List.set_cons_zero, List.set_cons_succ]
      refine held_done (by kernel_rfl) ?_
      have HF1 := Lib.hid (HF.out.trans gp1 (by simp))
      obtain ⟨W3, hW3⟩ : ∃ W, W = yp1 := ⟨_, rfl⟩
      rw [← hW3] at HF1 ⊢
      clear hW3
      cases bf with
      | true =>
        go_wp2_with fail
        go_roundg (j + 1)
        case measure => have := HG.out; have := HJ.out; omega
        case rel => exact ⟨j, by have := HJ.out; omega, rfl, by first | rfl | (rw [q1]), by rw [HPOS.out, HJ.out, posAu_no HY.out EBF.out.symm], HF1.out⟩
      | false =>
        have hX := HF1.out.at HX0.out (by simp)
        have X0 := row_cell hX 0
        have X1 := row_cell hX 1
        have X2 := row_cell hX 2
        simp at X0 X1 X2
        clear hX
        obtain ⟨c0, c1, c2⟩ := (HV0.out.fr HF1.out).cells j y HY.out
        obtain ⟨eb, eeb⟩ : ∃ q, q = decide (y = x) := ⟨_, rfl⟩
        have hqq : ∀ w, (Op.equalIn 10000 48 (.agg #[.int .i64 y.kind, .int .i64 y.a, .int .i64 y.b]) (.agg #[.int .i64 x.kind, .int .i64 x.a, .int .i64 x.b])).run Tryz.prog w = .ok eb w := fun w => by
          rw [eeb]
          exact aud_eq y x w
        have EEB := Lib.hid eeb
        clear eeb
        go_wp2_with fail
        have gr0 : Fr [] W3 W3.drew := (Fr.refl [] W3).drew
        have hSr0 : Fr [] W3 W3.drew := gr0
        refine region_held 100 (fun W' => Fr [] W3 W') hmx ?_
        change Held _ _ _ _ _ _ 11 (Array.replicate 11 false) _ _
        refine hd_take 0 (v := .int .i64 (q : Int)) rfl (by kernel_rfl) (by kernel_rfl) (by kernel_rfl) rfl hSr0 (fun W' hS => by go_simp) rfl ?_
        try simp only [Act.put, List.setIfInBounds_toArray, List.set_cons_zero, List.set_cons_succ]
        refine hd_take 1 (v := .bool true) rfl (by kernel_rfl) (by kernel_rfl) (by kernel_rfl) rfl hSr0 (fun W' hS => by go_simp) rfl ?_
        try simp only [Act.put, List.setIfInBounds_toArray, List.set_cons_zero, List.set_cons_succ]
        refine hd_take 2 (v := .bool true) rfl (by kernel_rfl) (by kernel_rfl) (by kernel_rfl) rfl hSr0 (fun W' hS => by go_simp) rfl ?_
        try simp only [Act.put, List.setIfInBounds_toArray, List.set_cons_zero, List.set_cons_succ]
        refine hd_take 3 (v := .slice (some ⟨b, off, none⟩) n cap) rfl (by kernel_rfl) (by kernel_rfl) (by kernel_rfl) rfl hSr0 (fun W' hS => by go_simp) rfl ?_
        refine hd_take 4 (v := .int .i64 (q : Int)) rfl (by kernel_rfl) (by kernel_rfl) (by kernel_rfl) rfl hSr0 (fun W' hS => by go_simp) rfl ?_
        refine hd_take 8 (v := .agg #[.int .i64 x.kind, .int .i64 x.a, .int .i64 x.b]) rfl (by kernel_rfl) (by kernel_rfl) (by kernel_rfl) rfl hSr0 (fun W' hS => by have s0 := hS.cell X0 (by simp); have s1 := hS.cell X1 (by simp); have s2 := hS.cell X2 (by simp); go_simp) rfl ?_
        try simp only [Act.put, List.setIfInBounds_toArray, List.set_cons_zero, List.set_cons_succ]
        refine hd_take 5 (v := .int .i64 (j : Int)) rfl (by kernel_rfl) (by kernel_rfl) (by kernel_rfl) rfl hSr0 (fun W' hS => by go_simp) rfl ?_
        try simp only [Act.put, List.setIfInBounds_toArray, List.set_cons_zero, List.set_cons_succ]
        refine hd_take 6 (v := .pointer (some ⟨b, off + j * 3, none⟩)) rfl (by kernel_rfl) (by kernel_rfl) (by kernel_rfl) rfl hSr0 (fun W' hS => by go_simp) rfl ?_
        try simp only [Act.put, List.setIfInBounds_toArray, List.set_cons_zero, List.set_cons_succ]
        refine hd_take 7 (v := .agg #[.int .i64 y.kind, .int .i64 y.a, .int .i64 y.b]) rfl (by kernel_rfl) (by kernel_rfl) (by kernel_rfl) rfl hSr0 (fun W' hS => by have s0 := hS.cell c0 (by simp); have s1 := hS.cell c1 (by simp); have s2 := hS.cell c2 (by simp); go_simp) rfl ?_
        try simp only [Act.put, List.setIfInBounds_toArray, List.set_cons_zero, List.set_cons_succ]
        refine hd_take 9 (v := .bool eb) rfl (by kernel_rfl) (by kernel_rfl) (by kernel_rfl) rfl hSr0 (fun W' hS => by go_simp) rfl ?_
        try simp only [Act.put, List.setIfInBounds_toArray, List.set_cons_zero, List.set_cons_succ]
        refine hd_take 10 (v := .bool eb) rfl (by kernel_rfl) (by kernel_rfl) (by kernel_rfl) rfl hSr0 (fun W' hS => by go_simp) rfl ?_
        try simp only [Act.put, List.setIfInBounds_toArray, List.set_cons_zero, List.set_cons_succ]
        refine held_done (by kernel_rfl) ?_
        have HF4 := Lib.hid (HF1.out.trans gr0 (by simp))
        obtain ⟨W4, hW4⟩ : ∃ W, W = W3.drew := ⟨_, rfl⟩
        rw [← hW4] at HF4 ⊢
        clear hW4 X0 X1 X2 c0 c1 c2 hqq gr0 gp0
        cases eb with
        | true =>
          go_wp2_with fail
          go_ret
          have hadd : addA l x = l := by
            have hp : posAu l x l.length = j + 1 := by rw [← EN.out, HPOS.out, HJ.out, posAu_yes HY.out EBF.out.symm]
            have hg : l.getD j ⟨0, 0, 0⟩ = x := by
              rw [List.getD_eq_getElem?_getD, HY.out]
              exact of_decide_eq_true EEB.out.symm
            unfold addA
            rw [hp, if_pos ⟨by omega, by rw [Nat.add_sub_cancel]; exact hg⟩]
          exact ⟨_, rfl, by rw [hadd]; exact HV0.out.fr HF4.out, (HF0.out.trans HF4.out (by simp)).toBelow (by simp)⟩
        | false =>
          have HV4 := Lib.hid (HV0.out.fr HF4.out)
          by_cases hcq : cap = q
          · subst hcq
            have HPRE := Lib.hid (fun W (h : Fr [] W4 W) => (HV4.out.fr h).pre hq)
            have HPST := Lib.hid (fun W (h : Fr [] W4 W) => (HV4.out.fr h).end EN.out.symm hlc)
            have HXW := Lib.hid (fun W (h : Fr [] W4 W) => (HF4.out.trans h (by simp)).at HX0.out (by simp))
            have HLQ : Hid ((l.take cap).length ≤ 100000 ∧ (l.drop cap).length ≤ 100000) := Lib.hid (by rw [List.length_take, List.length_drop]; have := EN.out; omega)
            go_wp2_with (at_builtin; go_loud (refine wpList_appA rfl (.tmp 34) (.tmp 37) rfl W4.heap.size _ _ [] (l.take cap) W4 rfl rfl (by exact HPRE.out _ ((Fr.refl [] W4).alloc _)) (ownA_empty (Nat.le_refl _)) ((Fr.refl [] W4).alloc _) (Nat.le_refl _) (by simp) (by have := HLQ.out; simp only [List.length_nil]; omega) ?_))
            intro v6 w6 ho6 hf6 _
            have HO6 := Lib.hid ho6
            have HF6 := Lib.hid hf6
            have hX := HXW.out w6 hf6
            have X0 := row_cell hX 0
            have X1 := row_cell hX 1
            have X2 := row_cell hX 2
            simp at X0 X1 X2
            clear ho6 hf6 hX
            go_wp2_with (at_builtin; go_loud (refine wpList_appA rfl (.tmp 39) (.tmp 41) rfl W4.heap.size _ _ (l.take cap) [x] W4 rfl rfl (ads1 (heap_new rfl)) (HO6.out.fr ((Fr.refl [] w6).alloc _) (by simp)) (HF6.out.alloc _) (Nat.le_refl _) (HF6.out.alloc _).size (by have := HLQ.out; simp only [List.length_nil, List.length_cons]; omega) ?_))
            intro v7 w7 ho7 hf7 _
            have HO7 := Lib.hid ho7
            have HF7 := Lib.hid hf7
            clear ho7 hf7 X0 X1 X2
            go_wp2_with (at_builtin; go_loud (refine wpList_appA rfl (.tmp 43) (.tmp 46) rfl W4.heap.size _ _ (l.take cap ++ [x]) (l.drop cap) W4 rfl rfl (by first | exact HPST.out _ HF7.out | simpa using HPST.out _ HF7.out) HO7.out HF7.out (Nat.le_refl _) HF7.out.size (by have := HLQ.out; simp only [List.length_append, List.length_nil, List.length_cons]; omega) ?_))
            intro v8 w8 ho8 hf8 _
            have HO8 := Lib.hid ho8.ads
            have HF8 := Lib.hid (HF0.out.trans (HF4.out.trans hf8 (by simp)) (by simp))
            clear ho8 hf8
            go_wp2_with fail
            go_ret
            have hadd : addA l x = l.take cap ++ x :: l.drop cap := by
              have hp : posAu l x l.length = cap := by rw [← EN.out, HPOS.out, HJ.out, posAu_yes HY.out EBF.out.symm]
              unfold addA; rw [hp, if_neg (fun h => of_decide_eq_false EEB.out.symm (by have h2 := h.2; rw [HJ.out, Nat.add_sub_cancel, List.getD_eq_getElem?_getD, HY.out] at h2; exact h2))]
            exact ⟨_, rfl, by rw [hadd]; exact HO8.out, HF8.out.toBelow (by simp)⟩
          · skip
            have HPRE := Lib.hid (fun W (h : Fr [] W4 W) => (HV4.out.fr h).pre hq)
            have HPST := Lib.hid (fun W (h : Fr [] W4 W) => (HV4.out.fr h).post hq)
            have HXW := Lib.hid (fun W (h : Fr [] W4 W) => (HF4.out.trans h (by simp)).at HX0.out (by simp))
            have HLQ : Hid ((l.take q).length ≤ 100000 ∧ (l.drop q).length ≤ 100000) := Lib.hid (by rw [List.length_take, List.length_drop]; have := EN.out; omega)
            go_wp2_with (at_builtin; go_loud (refine wpList_appA rfl (.tmp 34) (.tmp 37) rfl W4.heap.size _ _ [] (l.take q) W4 rfl rfl (by exact HPRE.out _ ((Fr.refl [] W4).alloc _)) (ownA_empty (Nat.le_refl _)) ((Fr.refl [] W4).alloc _) (Nat.le_refl _) (by simp) (by have := HLQ.out; simp only [List.length_nil]; omega) ?_))
            intro v6 w6 ho6 hf6 _
            have HO6 := Lib.hid ho6
            have HF6 := Lib.hid hf6
            have hX := HXW.out w6 hf6
            have X0 := row_cell hX 0
            have X1 := row_cell hX 1
            have X2 := row_cell hX 2
            simp at X0 X1 X2
            clear ho6 hf6 hX
            go_wp2_with (at_builtin; go_loud (refine wpList_appA rfl (.tmp 39) (.tmp 41) rfl W4.heap.size _ _ (l.take q) [x] W4 rfl rfl (ads1 (heap_new rfl)) (HO6.out.fr ((Fr.refl [] w6).alloc _) (by simp)) (HF6.out.alloc _) (Nat.le_refl _) (HF6.out.alloc _).size (by have := HLQ.out; simp only [List.length_nil, List.length_cons]; omega) ?_))
            intro v7 w7 ho7 hf7 _
            have HO7 := Lib.hid ho7
            have HF7 := Lib.hid hf7
            clear ho7 hf7 X0 X1 X2
            go_wp2_with (at_builtin; go_loud (refine wpList_appA rfl (.tmp 43) (.tmp 46) rfl W4.heap.size _ _ (l.take q ++ [x]) (l.drop q) W4 rfl rfl (by first | exact HPST.out _ HF7.out | simpa using HPST.out _ HF7.out) HO7.out HF7.out (Nat.le_refl _) HF7.out.size (by have := HLQ.out; simp only [List.length_append, List.length_nil, List.length_cons]; omega) ?_))
            intro v8 w8 ho8 hf8 _
            have HO8 := Lib.hid ho8.ads
            have HF8 := Lib.hid (HF0.out.trans (HF4.out.trans hf8 (by simp)) (by simp))
            clear ho8 hf8
            go_wp2_with fail
            go_ret
            have hadd : addA l x = l.take q ++ x :: l.drop q := by
              have hp : posAu l x l.length = q := by rw [← EN.out, HPOS.out, HJ.out, posAu_yes HY.out EBF.out.symm]
              unfold addA; rw [hp, if_neg (fun h => of_decide_eq_false EEB.out.symm (by have h2 := h.2; rw [HJ.out, Nat.add_sub_cancel, List.getD_eq_getElem?_getD, HY.out] at h2; exact h2))]
            exact ⟨_, rfl, by rw [hadd]; exact HO8.out, HF8.out.toBelow (by simp)⟩
end Go.Proofs.YtjddngbgbbbefaaGreatDoor
namespace Go.Proofs.YtjddngbgbbbefaaGreatDoor
open Go.RowKit
set_option maxRecDepth 100000

theorem dupAt_of {l : List Pty} {i : Nat} {x : Pty} (hx : l[i]? = some x) : dupAt l i = (l.take i).any fun q => q.name == x.name := by
  unfold dupAt; rw [hx]
theorem anyN_succ {l : List Pty} {k : Nat} {y : Pty} {s : List UInt8} (hy : l[k]? = some y) (h : (l.take k).any (fun q => q.name == s) = false) (hn : (y.name == s) = false) : (l.take (k + 1)).any (fun q => q.name == s) = false := by
  rw [List.take_add_one, hy, List.any_append, h]
  simp [hn]
theorem anyN_yes {l : List Pty} {i k : Nat} {y : Pty} {s : List UInt8} (hy : l[k]? = some y) (hk : k < i) (hn : (y.name == s) = true) : (l.take i).any (fun q => q.name == s) = true := by
  refine List.any_eq_true.2 ⟨y, List.mem_of_getElem? (i := k) ?_, hn⟩
  rw [List.getElem?_take, if_pos hk, hy]
set_option maxHeartbeats 4000000 in
theorem rwrong_any (v : Value) (l : List Pty) (i : Nat) (w : World) (hv : Pts w v l) (hi : i < l.length) (hn : l.length ≤ 100000) (hs : ∀ p ∈ l, p.name.length ≤ 1000000 ∧ p.rev.length ≤ 1000000) :
    Calls Tryz.prog 54 #[v, .int .i64 (i : Int)] w fun e w' => e = .returned (.bool (wrongB l i)) ∧ Below w.heap.size w w' := by
  have hmx : Tryz.prog.follows .mixedOrders = true := by kernel_rfl
  have HV := Lib.hid hv
  obtain ⟨a, cap, rfl, hlc, hcap, ha⟩ := hv.form
  obtain ⟨x, hx⟩ : ∃ x, l[i]? = some x := ⟨_, List.getElem?_eq_getElem hi⟩
  have HX := Lib.hid hx
  have HD := Lib.hid (dupAt_of hx)
  have HGX : Hid (l.getD i zP = x) := Lib.hid (by rw [List.getD_eq_getElem?_getD, hx]; rfl)
  have hxs := hs x (List.mem_of_getElem? hx)
  have HRG := Lib.hid (fun W => rright_any x W hxs.1 hxs.2)
  unfold ptyV at HRG
  obtain ⟨n, en⟩ : ∃ q, q = l.length := ⟨_, rfl⟩
  have EN := Lib.hid en
  rw [← en] at HV hi hn ha ⊢
  obtain ⟨xb, xo, rfl⟩ := ha i hi
  have j0 : (0 : Int) ≤ (i : Int) := by omega
  have j1 : (i : Int) < (n : Int) := by omega
  clear hv hx hxs hs en
  go_enter Tryz.func54, Tryz.ntmps54
  go_wp2_with fail
  go_loopg [5] (i + 1) (fun gh kv wr => ∃ k : Nat, k ≤ i ∧ gh = i + 1 - k ∧ kv = .int .i64 (k : Int) ∧ (l.take k).any (fun q => q.name == x.name) = false ∧ Fr [] w wr)
  case atStart => exact ⟨0, by omega, by omega, rfl, by simp, Fr.refl _ _⟩
  case round =>
    obtain ⟨k, hk, hgh, rfl, hno, hfr⟩ := hrel
    have HG := Lib.hid hgh
    have HF := Lib.hid hfr
    have HNO := Lib.hid hno
    obtain ⟨c0, c1, c2⟩ := (HV.out.fr HF.out).cells i x HX.out
    clear hgh hno hfr
    by_cases hlt : k < i
    · have t2 : decide ((k : Int) < (i : Int)) = true := by simp; omega
      obtain ⟨y, hy⟩ : ∃ x, l[k]? = some x := ⟨l[k]'(by rw [← EN.out]; omega), List.getElem?_eq_getElem _⟩
      have HY := Lib.hid hy
      obtain ⟨d0, d1, d2⟩ := (HV.out.fr HF.out).cells k y hy
      have i0 : (0 : Int) ≤ (k : Int) := by omega
      have i1 : (k : Int) < (n : Int) := by omega
      clear hy c1 c2 d1 d2
      obtain ⟨eb, eeb⟩ : ∃ q, q = (y.name == x.name) := ⟨_, rfl⟩
      have t3 := eeb.symm
      have EEB := Lib.hid eeb
      clear eeb
      cases eb with
      | true =>
        go_wp2_with fail
        go_quiet (fail)
        go_wp2_with fail
        go_ret
        have hw : wrongB l i = true := by unfold wrongB; rw [HD.out, anyN_yes HY.out hlt EEB.out.symm]; simp
        exact ⟨by rw [hw]; rfl, (HF.out.drewN _).toBelow (by simp)⟩
      | false =>
        go_wp2_with fail
        go_quiet (fail)
        go_wp2_with fail
        go_roundg (i + 1 - (k + 1))
        case measure => have := HG.out; omega
        case rel => exact ⟨k + 1, by omega, rfl, by go_num, anyN_succ HY.out HNO.out EEB.out.symm, HF.out.drewN _⟩
    · obtain rfl : k = i := by omega
      have t2 : decide ((k : Int) < (k : Int)) = false := by simp
      have HDF : Hid (wrongB l k = (decide (16 ≤ k) || !rightB x)) := Lib.hid (by unfold wrongB; rw [HD.out, HNO.out, HGX.out]; simp)
      obtain ⟨rb, erb⟩ : ∃ q, q = rightB x := ⟨_, rfl⟩
      rw [← erb] at HRG HDF
      clear erb
      by_cases h16 : 16 ≤ k
      · have t3 : decide ((16 : Int) ≤ (k : Int)) = true := by simp; omega
        have t4 : decide ((k : Int) < 16) = false := by simp; omega
        have HDT : Hid (wrongB l k = true) := Lib.hid (by rw [HDF.out]; simp [h16])
        clear h16
        go_wp2_with fail
        go_ret
        exact ⟨by rw [HDT.out]; rfl, HF.out.toBelow (by simp)⟩
      · have t3 : decide ((16 : Int) ≤ (k : Int)) = false := by simp; omega
        have t4 : decide ((k : Int) < 16) = true := by simp; omega
        have HDT : Hid (wrongB l k = !rb) := Lib.hid (by rw [HDF.out]; simp [h16])
        clear h16
        go_wp2_with fail
        refine (HRG.out _).mono ?_
        rintro e w1 ⟨rfl, hb⟩
        have HF1 := Lib.hid (HF.out.below hb HF.out.size)
        clear hb
        go_wp2_with fail
        go_ret
        exact ⟨by rw [HDT.out]; rfl, HF1.out.toBelow (by simp)⟩
set_option maxRecDepth 100000 in
set_option maxHeartbeats 1000000 in
theorem rreceipt_any (v : Value) (p : Pbl) (i : Int) (w : World) (hv : PblR w v p) (hl : EntS p.ents) (hn : p.ents.length ≤ 100000) :
    Calls Tryz.prog 11 #[v, .int .i64 i] w fun e w' => ∃ v' e', e = .returned (.tuple #[v', .int .i64 e']) ∧ ((i < 0 ∨ (p.ents.length : Int) ≤ i) → v' = .slice none 0 0 ∧ e' = 1) ∧
      (∀ k : Nat, i = (k : Int) → k < p.ents.length → e' = 0 ∧ OwnS w.heap.size w' v' (pathL ((textsE p.ents).map leafD) k)) ∧ Below w.heap.size w w' := by
  obtain ⟨ev, pv, ov, sv, rfl, h1, _, _, _⟩ := hv
  obtain ⟨ea, ec, rfl, _, _, _⟩ := h1.form
  have HE := Lib.hid h1
  have HL := Lib.hid hl
  have HLEN : Hid ((textsE p.ents).length = p.ents.length) := Lib.hid (by unfold textsE; rw [List.length_map])
  clear h1 hl
  go_enter Tryz.func11, Tryz.ntmps11
  go_wp2_with fail
  have f0 : Fr [] w (w.alloc (.cells #[.slice ea p.ents.length ec, .string ⟨p.root.toArray⟩, pv, ov, sv] 26)) := (Fr.refl [] w).alloc _
  generalize w.alloc (.cells #[.slice ea p.ents.length ec, .string ⟨p.root.toArray⟩, pv, ov, sv] 26) = w0 at f0 ⊢
  have HF0 := Lib.hid f0
  refine (ctexts_any _ p.ents w0 (HE.out.fr f0) hn HL.out).mono ?_
  rintro e w1 ⟨tv, rfl, htv, hb⟩
  have HF1 := Lib.hid (f0.below hb f0.size)
  obtain ⟨ta, tc, rfl, _, _⟩ := htv.strs.form
  have HTV := Lib.hid htv.strs
  clear hb htv f0
  go_wp2_with fail
  refine (rpath_any _ (textsE p.ents) i w1 HTV.out (by rw [HLEN.out]; omega) (textsE_len _)).mono ?_
  rintro e w2 ⟨v', e', rfl, ha, hb, hbl⟩
  rw [HLEN.out] at ha hb
  have HA := Lib.hid ha
  have HB := Lib.hid hb
  have HF2 := Lib.hid (HF1.out.below hbl HF1.out.size)
  have HS := Lib.hid HF1.out.size
  clear ha hb hbl
  go_wp2_with fail
  go_ret2
  exact ⟨v', e', rfl, HA.out, fun k h1 h2 => ⟨(HB.out k h1 h2).1, (HB.out k h1 h2).2.mono HS.out⟩, HF2.out.toBelow (by simp)⟩

set_option maxRecDepth 100000 in
set_option maxHeartbeats 1000000 in
theorem rincluded_any (root : List UInt8) (n i : Int) (p : Pty) (pv : Value) (path : List (List UInt8)) (w : World) (hn : -9223372036854775808 ≤ n ∧ n < 9223372036854775808) (hi : -9223372036854775808 ≤ i ∧ i < 9223372036854775808)
    (h0 : p.name.length ≤ 1000000) (h1 : p.com.length ≤ 1000000) (h2 : p.rev.length ≤ 1000000) (hp : Strs w pv path) (hps : ∀ s ∈ path, s.length ≤ 1000000) :
    Calls Tryz.prog 18 #[.string ⟨root.toArray⟩, .int .i64 n, .int .i64 i, ptyV p, pv] w fun e w' => e = .returned (.bool (validB p && chkB root n i (textS p) path)) ∧ Below w.heap.size w w' := by
  have HV := Lib.hid (fun W => rvalidE_any p W h0 h1 h2)
  have HX := Lib.hid (fun W => rtextE_any p W h0 h1 h2)
  have HP := Lib.hid hp
  have HPS := Lib.hid hps
  obtain ⟨pa, pc, rfl, _, _⟩ := hp.form
  have htl := textS_len p
  clear hp hps
  unfold ptyV at HV HX ⊢
  obtain ⟨W0, hW0⟩ : ∃ W0, W0 = w.alloc (.cells #[.string ⟨p.name.toArray⟩, .string ⟨p.com.toArray⟩, .string ⟨p.rev.toArray⟩] 43) := ⟨_, rfl⟩
  obtain ⟨q, eq⟩ : ∃ q, q = w.heap.size := ⟨_, rfl⟩
  have f0 : Fr [] w W0 := by rw [hW0]; exact (Fr.refl [] w).alloc _
  have hq0 : W0.heap[q]? = some (.cells #[.string ⟨p.name.toArray⟩, .string ⟨p.com.toArray⟩, .string ⟨p.rev.toArray⟩] 43 (0, 0)) := by rw [hW0]; exact heap_new eq
  have HF0 := Lib.hid f0
  have HQ0 := Lib.hid hq0
  obtain ⟨vb, evb⟩ : ∃ b, b = validB p := ⟨_, rfl⟩
  rw [← evb] at HV ⊢
  clear evb hq0
  go_enter Tryz.func18, Tryz.ntmps18
  go_wp2_with fail
  rw [← hW0, ← eq]
  clear hW0 eq
  refine (HV.out W0).mono ?_
  rintro e w1 ⟨rfl, hb⟩
  have HF1 := Lib.hid (f0.below hb f0.size)
  have hq1 := (Fr.ofBelow (X := []) hb).at HQ0.out (by simp)
  have x0 := row_cell hq1 0
  have x1 := row_cell hq1 1
  have x2 := row_cell hq1 2
  simp at x0 x1 x2
  clear hb f0 hq1
  cases vb with
  | false =>
    go_wp2_with fail
    go_ret
    exact ⟨rfl, HF1.out.toBelow (by simp)⟩
  | true =>
    go_wp2_with fail
    refine (HX.out w1).mono ?_
    rintro e w2 ⟨rfl, hb⟩
    have HF2 := Lib.hid (HF1.out.below hb HF1.out.size)
    clear hb x0 x1 x2
    obtain ⟨tx, etx⟩ : ∃ t, t = textS p := ⟨_, rfl⟩
    rw [← etx] at htl ⊢
    have ETX := Lib.hid etx
    clear etx
    go_wp2_with fail
    refine (rcheck_any root tx n i _ path w2 hn hi (HP.out.fr HF2.out (by simp)) (by omega) HPS.out).mono ?_
    rintro e w3 ⟨rfl, hb⟩
    have HF3 := Lib.hid (HF2.out.below hb HF2.out.size)
    clear hb
    go_wp2_with fail
    go_ret
    exact ⟨by rw [← ETX.out]; rfl, HF3.out.toBelow (by simp)⟩

theorem pty_eqT {t : TypeId} (hd : ∀ (x y : Pty) (w : World), (Op.equalIn 10000 t (.agg #[.string ⟨x.name.toArray⟩, .string ⟨x.com.toArray⟩, .string ⟨x.rev.toArray⟩]) (.agg #[.string ⟨y.name.toArray⟩, .string ⟨y.com.toArray⟩, .string ⟨y.rev.toArray⟩])).run Tryz.prog w = .ok (decide (x = y)) w) (x : Pty) (w : World) :
    (Op.equalIn 10000 t (.agg #[.string ⟨x.name.toArray⟩, .string ⟨x.com.toArray⟩, .string ⟨x.rev.toArray⟩]) (.agg #[.string ⟨x.name.toArray⟩, .string ⟨x.com.toArray⟩, .string ⟨x.rev.toArray⟩])).run Tryz.prog w = .ok true w := by
  rw [hd x x w]; simp
theorem party_eq (x y : Pty) (w : World) : (Op.equalIn 10000 46 (.agg #[.string ⟨x.name.toArray⟩, .string ⟨x.com.toArray⟩, .string ⟨x.rev.toArray⟩]) (.agg #[.string ⟨y.name.toArray⟩, .string ⟨y.com.toArray⟩, .string ⟨y.rev.toArray⟩])).run Tryz.prog w = .ok (decide (x = y)) w := by
  have u4 := Tryz.underlying9
  have a4 := Tryz.isAgg9
  have z4 := Tryz.sizeOf9
  rw [show (10000 : Nat) = 9999 + 1 from rfl, run_equalIn_agg _ _ _ _ _ (by kernel_rfl) (by kernel_rfl)]
  obtain ⟨a1, a2, a3⟩ := x
  obtain ⟨b1, b2, b3⟩ := y
  go_simp
  by_cases h1 : a1 = b1 <;> by_cases h2 : a2 = b2 <;> by_cases h3 : a3 = b3 <;> simp [h1, h2, h3]
set_option maxHeartbeats 4000000 in
theorem rsameP_any (av bv : Value) (p : Pbl) (w : World) (ha : PblR w av p) (hb : PblR w bv p) (hn : p.ents.length ≤ 100000) (hm : p.parts.length ≤ 100000) :
    Calls Tryz.prog 12 #[av, bv] w fun e w' => e = .returned (.bool true) ∧ Below w.heap.size w w' := by
  have hmx : Tryz.prog.follows .mixedOrders = true := by kernel_rfl
  obtain ⟨ea, ec, pa, pc, oa, oc, sa, sc, rfl, g1, g2, g3, g4⟩ := ha.form
  obtain ⟨fa, fc, qa, qc, ra, rc, ta, tc, rfl, k1, k2, k3, k4⟩ := hb.form
  obtain ⟨n, en⟩ : ∃ q, q = p.ents.length := ⟨_, rfl⟩
  obtain ⟨m, em⟩ : ∃ q, q = p.parts.length := ⟨_, rfl⟩
  obtain ⟨on, eon⟩ : ∃ q, q = p.order.length := ⟨_, rfl⟩
  obtain ⟨sn, esn⟩ : ∃ q, q = p.served.length := ⟨_, rfl⟩
  have hea : ∀ i, i < n → ∃ b off, ea = some ⟨b, off, none⟩ := by
    obtain ⟨a, c, hv, _, _, h⟩ := g1.form
    cases hv
    intro i hi; exact h i (by rw [← en]; exact hi)
  have hfa : ∀ i, i < n → ∃ b off, fa = some ⟨b, off, none⟩ := by
    obtain ⟨a, c, hv, _, _, h⟩ := k1.form
    cases hv
    intro i hi; exact h i (by rw [← en]; exact hi)
  have hpa : ∀ i, i < m → ∃ b off, pa = some ⟨b, off, none⟩ := by
    obtain ⟨a, c, hv, _, _, h⟩ := g2.form
    cases hv
    intro i hi; exact h i (by rw [← em]; exact hi)
  have hqa : ∀ i, i < m → ∃ b off, qa = some ⟨b, off, none⟩ := by
    obtain ⟨a, c, hv, _, _, h⟩ := k2.form
    cases hv
    intro i hi; exact h i (by rw [← em]; exact hi)
  rw [← en] at g1 k1 hn ⊢
  rw [← em] at g2 k2 hm ⊢
  rw [← eon] at g3 k3 ⊢
  rw [← esn] at g4 k4 ⊢
  have G1 := Lib.hid g1
  have G2 := Lib.hid g2
  have G3 := Lib.hid g3
  have G4 := Lib.hid g4
  have K1 := Lib.hid k1
  have K2 := Lib.hid k2
  have K3 := Lib.hid k3
  have K4 := Lib.hid k4
  have EN := Lib.hid en
  have EM := Lib.hid em
  obtain ⟨R, eR⟩ : ∃ q, q = p.root := ⟨_, rfl⟩
  rw [← eR]
  have HIN := Lib.hid (fun W (h : Fr [] w W) => zints_any _ _ p.order p.order W (G3.out.fr0 h) (K3.out.fr0 h))
  have HIM := Lib.hid (fun W (h : Fr [] w W) => zints_any _ _ p.served p.served W (G4.out.fr0 h) (K4.out.fr0 h))
  have d1 : decide (p.order = p.order) = true := by simp
  have d2 : decide (p.served = p.served) = true := by simp
  rw [d1] at HIN
  rw [d2] at HIM
  clear ha hb g1 g2 g3 g4 k1 k2 k3 k4 en em eon esn eR d1 d2
  obtain ⟨W0, hW0⟩ : ∃ W, W = (w.alloc (.cells #[.slice ea n ec, .string ⟨R.toArray⟩, .slice pa m pc, .slice oa on oc, .slice sa sn sc] 26)).alloc (.cells #[.slice fa n fc, .string ⟨R.toArray⟩, .slice qa m qc, .slice ra on rc, .slice ta sn tc] 26) := ⟨_, rfl⟩
  obtain ⟨xb, exb⟩ : ∃ q, q = w.heap.size := ⟨_, rfl⟩
  have f0 : Fr [] w W0 := by rw [hW0]; exact ((Fr.refl [] w).alloc _).alloc _
  have hx0 : W0.heap[xb]? = some (.cells #[.slice ea n ec, .string ⟨R.toArray⟩, .slice pa m pc, .slice oa on oc, .slice sa sn sc] 26 (0, 0)) := by rw [hW0]; exact ((Fr.refl [] _).alloc _).at (heap_new exb) (by simp)
  have hy0 : W0.heap[xb + 1]? = some (.cells #[.slice fa n fc, .string ⟨R.toArray⟩, .slice qa m qc, .slice ra on rc, .slice ta sn tc] 26 (0, 0)) := by rw [hW0]; exact heap_new (by simp [exb])
  have HX0 := Lib.hid hx0
  have HY0 := Lib.hid hy0
  have HF0 := Lib.hid f0
  have c0 := row_cell hx0 0
  have c1 := row_cell hx0 1
  have c2 := row_cell hx0 2
  have c3 := row_cell hy0 0
  have c4 := row_cell hy0 1
  have c5 := row_cell hy0 2
  simp at c0 c1 c2 c3 c4 c5
  rw [hW0, exb] at c0 c1 c2 c3 c4 c5
  have t0 : ((n : Int) != (n : Int)) = false := by simp
  have t1 : ((m : Int) != (m : Int)) = false := by simp
  have t2 : (R != R) = false := by simp
  clear f0 hx0 hy0
  go_enter Tryz.func12, Tryz.ntmps12
  go_wp2_with fail
  rw [← hW0, ← exb]
  clear hW0 exb c0 c1 c2 c3 c4 c5
  go_loopg [5] (n + 1) (fun gh iv wr => ∃ k : Nat, k ≤ n ∧ gh = n + 1 - k ∧ iv = .int .i64 (k : Int) ∧ Fr [] W0 wr)
  case atStart => exact ⟨0, by omega, by omega, rfl, Fr.refl _ _⟩
  case round =>
    obtain ⟨k, hk, hgh, rfl, hfr⟩ := hrel
    have HG := Lib.hid hgh
    have HF := Lib.hid hfr
    have HFW := Lib.hid (HF0.out.trans hfr (by simp))
    have hX := hfr.at HX0.out (by simp)
    have hY := hfr.at HY0.out (by simp)
    have c0 := row_cell hX 0
    have c2 := row_cell hX 2
    have c3 := row_cell hY 0
    have c5 := row_cell hY 2
    simp at c0 c2 c3 c5
    clear hgh hfr hX hY
    by_cases hlt : k < n
    · have t3 : decide ((k : Int) < (n : Int)) = true := by simp; omega
      obtain ⟨b1, o1, rfl⟩ := hea k hlt
      obtain ⟨b2, o2, rfl⟩ := hfa k hlt
      obtain ⟨x, hx⟩ : ∃ x, p.ents[k]? = some x := ⟨p.ents[k]'(by rw [← EN.out]; exact hlt), List.getElem?_eq_getElem _⟩
      obtain ⟨x0, x1, x2⟩ := (G1.out.fr HFW.out).cells k x hx
      obtain ⟨y0, y1, y2⟩ := (K1.out.fr HFW.out).cells k x hx
      have hqq := pty_eqT ent_eq x
      have i0 : (0 : Int) ≤ (k : Int) := by omega
      have i1 : (k : Int) < (n : Int) := by omega
      clear hx hea hfa
      go_wp2_with fail
      go_quiet (fail)
      go_wp2_with fail
      go_roundg (n + 1 - (k + 1))
      case measure => have := HG.out; omega
      case rel => exact ⟨k + 1, by omega, rfl, by go_num, HF.out.drewN _⟩
    · obtain rfl : k = n := by omega
      have t3 : decide ((k : Int) < (k : Int)) = false := by simp
      clear hea hfa
      go_wp2_with fail
      obtain ⟨W1, hW1⟩ : ∃ W : World, W = wr := ⟨_, rfl⟩
      rw [← hW1] at HF HFW ⊢
      clear hW1 c0 c2 c3 c5
      go_loopg [6] (m + 1) (fun gh iv wr => ∃ k : Nat, k ≤ m ∧ gh = m + 1 - k ∧ iv = .int .i64 (k : Int) ∧ Fr [] W1 wr)
      case atStart => exact ⟨0, by omega, by omega, rfl, Fr.refl _ _⟩
      case round =>
        obtain ⟨j, hj, hgj, rfl, hfr⟩ := hrel
        have HGJ := Lib.hid hgj
        have HFJ := Lib.hid hfr
        have HFX := Lib.hid (HF.out.trans hfr (by simp))
        have HFXW := Lib.hid (HFW.out.trans hfr (by simp))
        have hX := HFX.out.at HX0.out (by simp)
        have hY := HFX.out.at HY0.out (by simp)
        have c2 := row_cell hX 2
        have c3 := row_cell hX 3
        have c4 := row_cell hX 4
        have d2 := row_cell hY 2
        have d3 := row_cell hY 3
        have d4 := row_cell hY 4
        simp at c2 c3 c4 d2 d3 d4
        clear hgj hfr hX hY
        by_cases hlj : j < m
        · have t4 : decide ((j : Int) < (m : Int)) = true := by simp; omega
          obtain ⟨b1, o1, rfl⟩ := hpa j hlj
          obtain ⟨b2, o2, rfl⟩ := hqa j hlj
          obtain ⟨x, hx⟩ : ∃ x, p.parts[j]? = some x := ⟨p.parts[j]'(by rw [← EM.out]; exact hlj), List.getElem?_eq_getElem _⟩
          obtain ⟨x0, x1, x2⟩ := (G2.out.fr HFXW.out).cells j x hx
          obtain ⟨y0, y1, y2⟩ := (K2.out.fr HFXW.out).cells j x hx
          have hqq := pty_eqT party_eq x
          have i0 : (0 : Int) ≤ (j : Int) := by omega
          have i1 : (j : Int) < (m : Int) := by omega
          clear hx hpa hqa
          go_wp2_with fail
          go_quiet (fail)
          go_wp2_with fail
          go_roundg (m + 1 - (j + 1))
          case measure => have := HGJ.out; omega
          case rel => exact ⟨j + 1, by omega, rfl, by go_num, HFJ.out.drewN _⟩
        · obtain rfl : j = m := by omega
          have t4 : decide ((j : Int) < (j : Int)) = false := by simp
          clear hpa hqa
          go_wp2_with fail
          refine (HIN.out _ HFXW.out).mono ?_
          rintro e w2 ⟨rfl, hb⟩
          have hfb := Fr.ofBelow (X := []) hb
          have HF2 := Lib.hid (HFXW.out.trans hfb (by simp))
          have c4 := hfb.cell c4 (by simp)
          have d4 := hfb.cell d4 (by simp)
          clear hb hfb
          go_wp2_with fail
          refine (HIM.out _ HF2.out).mono ?_
          rintro e w3 ⟨rfl, hb⟩
          have HF3 := Lib.hid (HF2.out.below hb HF2.out.size)
          clear hb
          go_wp2_with fail
          go_ret
          exact ⟨rfl, HF3.out.toBelow (by simp)⟩
end Go.Proofs.YtjddngbgbbbefaaGreatDoor
namespace Go.Proofs.YtjddngbgbbbefaaGreatDoor
open Go.RowKit
set_option maxRecDepth 100000

theorem addA_len (l : List Aud) (x : Aud) : (addA l x).length ≤ l.length + 1 := by
  unfold addA
  split
  · omega
  · have := posAu_le l x l.length
    simp only [List.length_append, List.length_cons, List.length_take, List.length_drop]
    omega
theorem radd3_any (v : Value) (l : List Aud) (k a b : Int) (w : World) (hv : Ads w v l) (hn : l.length ≤ 100000) :
    Calls Tryz.prog 53 #[v, .agg #[.int .i64 k, .int .i64 a, .int .i64 b]] w fun e w' => ∃ v', e = .returned v' ∧ Ads w' v' (addA l ⟨k, a, b⟩) ∧ (addA l ⟨k, a, b⟩).length ≤ l.length + 1 ∧ Below w.heap.size w w' :=
  (radd_any v l ⟨k, a, b⟩ w hv hn).mono fun _ _ ⟨v', h1, h2, h3⟩ => ⟨v', h1, h2, addA_len _ _, h3⟩
set_option maxHeartbeats 40000000 in
theorem rcheck20_any (v : Value) (p : Pbl) (w : World) (hv : PblR w v p) (hs : PblS p) :
    Calls Tryz.prog 15 #[v] w fun e w' => ∃ v', e = .returned v' ∧ Ads w' v' (checkS (clsL p.ents) p) ∧ Below w.heap.size w w' := by
  have hmx : Tryz.prog.follows .mixedOrders = true := by kernel_rfl
  have HS := Lib.hid hs
  obtain ⟨ea, ec, pa, pc, oa, oc, sa, sc, rfl, g1, g2, g3, g4⟩ := hv.form
  have HCL := Lib.hid (fun W (h : Fr [] w W) => rclasses_any _ p.ents W (g1.fr h) (by have := hs.en; omega))
  have HTX := Lib.hid (fun W (h : Fr [] w W) => ctexts_any _ p.ents W (g1.fr h) (by have := hs.en; omega) hs.e)
  have HSEED := Lib.hid (fun W (h : Fr [] w W) => rseed_any _ p.parts p.root W (g2.fr h) hs.p hs.r)
  have HLT : Hid ((textsE p.ents).length ≤ 100000) := Lib.hid (by unfold textsE; rw [List.length_map]; have := hs.en; omega)
  obtain ⟨n, en⟩ : ∃ q, q = p.ents.length := ⟨_, rfl⟩
  obtain ⟨m, em⟩ : ∃ q, q = p.parts.length := ⟨_, rfl⟩
  obtain ⟨on, eon⟩ : ∃ q, q = p.order.length := ⟨_, rfl⟩
  obtain ⟨sn, esn⟩ : ∃ q, q = p.served.length := ⟨_, rfl⟩
  obtain ⟨R, eR⟩ : ∃ q, q = p.root := ⟨_, rfl⟩
  have hea : ∀ i, i < n → ∃ b off, ea = some ⟨b, off, none⟩ := by
    obtain ⟨a, c, hv, _, _, h⟩ := g1.form
    cases hv
    intro i hi; exact h i (by rw [← en]; exact hi)
  have hoa : ∀ i, i < on → ∃ b off, oa = some ⟨b, off, none⟩ := by
    obtain ⟨a, c, hv, _, _, h⟩ := g3.form
    cases hv
    intro i hi; exact h i (by rw [← eon]; exact hi)
  have hsa : ∀ i, i < sn → ∃ b off, sa = some ⟨b, off, none⟩ := by
    obtain ⟨a, c, hv, _, _, h⟩ := g4.form
    cases hv
    intro i hi; exact h i (by rw [← esn]; exact hi)
  rw [← en] at g1 HCL HTX ⊢
  rw [← em] at g2 HSEED ⊢
  rw [← eon] at g3 ⊢
  rw [← esn] at g4 ⊢
  rw [← eR] at HSEED ⊢
  have G1 := Lib.hid g1
  have G2 := Lib.hid g2
  have G3 := Lib.hid g3
  have G4 := Lib.hid g4
  have EN := Lib.hid en
  have EM := Lib.hid em
  have EON := Lib.hid eon
  have ESN := Lib.hid esn
  have ER := Lib.hid eR
  have HEN : Hid (n ≤ 1000) := Lib.hid (by have := hs.en; omega)
  have HMN : Hid (m ≤ 1000) := Lib.hid (by have := hs.pn; omega)
  have HON : Hid (on ≤ 1000) := Lib.hid (by have := hs.on; omega)
  have HSN : Hid (sn ≤ 1000) := Lib.hid (by have := hs.sn; omega)
  have hn9 : n ≤ 1000 := HEN.out
  have hm9 : m ≤ 1000 := HMN.out
  have ho9 : on ≤ 1000 := HON.out
  have hs9 : sn ≤ 1000 := HSN.out
  clear hv hs g1 g2 g3 g4 en em eon esn eR
  obtain ⟨W0, hW0⟩ : ∃ W, W = w.alloc (.cells #[.slice ea n ec, .string ⟨R.toArray⟩, .slice pa m pc, .slice oa on oc, .slice sa sn sc] 26) := ⟨_, rfl⟩
  obtain ⟨xb, exb⟩ : ∃ q, q = w.heap.size := ⟨_, rfl⟩
  have f0 : Fr [] w W0 := by rw [hW0]; exact (Fr.refl [] w).alloc _
  have hx0 : W0.heap[xb]? = some (.cells #[.slice ea n ec, .string ⟨R.toArray⟩, .slice pa m pc, .slice oa on oc, .slice sa sn sc] 26 (0, 0)) := by rw [hW0]; exact heap_new exb
  have HX0 := Lib.hid hx0
  have HF0 := Lib.hid f0
  clear f0 hx0
  go_enter Tryz.func15, Tryz.ntmps15
  go_wp2_with fail
  rw [← hW0, ← exb]
  clear hW0 exb
  go_loopg [3, 4] (n + 1) (fun gh ov kv wr => ∃ (k : Nat) (l : List Aud), k ≤ n ∧ gh = n + 1 - k ∧ kv = .int .i64 (k : Int) ∧ l = sortA (entK p.ents k) ∧ l.length ≤ k ∧ Ads wr ov l ∧ Fr [] W0 wr)
  case atStart => exact ⟨0, [], by omega, by omega, rfl, rfl, by simp, Or.inl ⟨rfl, rfl⟩, Fr.refl _ _⟩
  case round =>
    obtain ⟨k, l1, hk, hgh, rfl, hl1, hll, ha1, hfr⟩ := hrel
    have HG := Lib.hid hgh
    have HL0 := Lib.hid hl1
    have HLN0 := Lib.hid hll
    have HAK := Lib.hid ha1
    have HF := Lib.hid hfr
    have HFW := Lib.hid (HF0.out.trans hfr (by simp))
    have hX := HF.out.at HX0.out (by simp)
    have c0 := row_cell hX 0
    have c1 := row_cell hX 1
    simp at c0 c1
    clear hgh hl1 hll ha1 hfr hX
    by_cases hlt : k < n
    · have t1 : decide ((k : Int) < (n : Int)) = true := by simp; omega
      obtain ⟨b, off, rfl⟩ := hea k hlt
      obtain ⟨x, hx⟩ : ∃ x, p.ents[k]? = some x := ⟨p.ents[k]'(by rw [← EN.out]; exact hlt), List.getElem?_eq_getElem _⟩
      obtain ⟨x0, x1, x2⟩ := (G1.out.fr HFW.out).cells k x hx
      have HX := Lib.hid hx
      have hxs := HS.out.e x (List.mem_of_getElem? hx)
      have HVC := Lib.hid (fun W => rvalidE_any x W hxs.1 hxs.2.1 hxs.2.2)
      unfold ptyV at HVC
      obtain ⟨vb, evb⟩ : ∃ q, q = validB x := ⟨_, rfl⟩
      rw [← evb] at HVC
      have EVB := Lib.hid evb
      have i0 : (0 : Int) ≤ (k : Int) := by omega
      have i1 : (k : Int) < (n : Int) := by omega
      clear hx hxs hea evb c1
      go_wp2_with fail
      refine (HVC.out _).mono ?_
      rintro e w4 ⟨rfl, hb⟩
      have hfb := Fr.ofBelow (X := []) hb
      have HAK4 := Lib.hid (HAK.out.fr hfb)
      have HFR4 := Lib.hid (HF.out.trans hfb (by simp))
      clear hb hfb HVC c0 x0 x1 x2
      cases vb with
      | true =>
        go_wp2_with fail
        go_roundg (n + 1 - (k + 1))
        case measure => have := HG.out; omega
        case rel => exact ⟨k + 1, l1, by omega, rfl, by go_num, by rw [entK_yes HX.out EVB.out.symm]; exact HL0.out, by have := HLN0.out; omega, HAK4.out, HFR4.out⟩
      | false =>
        go_wp2_with fail
        refine (radd3_any _ l1 1 (k : Int) (-1) w4 HAK4.out (by have := HLN0.out; omega)).mono ?_
        rintro e w6 ⟨v6, rfl, ha6, hl6, hb⟩
        have HA6 := Lib.hid ha6
        have HL6 := Lib.hid hl6
        have HFE := Lib.hid (HFR4.out.below hb HFR4.out.size)
        clear ha6 hl6 hb
        go_wp2_with fail
        go_roundg (n + 1 - (k + 1))
        case measure => have := HG.out; omega
        case rel => exact ⟨k + 1, _, by omega, rfl, by go_num, by rw [entK_no HX.out EVB.out.symm, sortA_snoc, ← HL0.out], by have := HLN0.out; have := HL6.out; omega, HA6.out, HFE.out⟩
    · obtain rfl : n = k := by omega
      have t1 : decide ((n : Int) < (n : Int)) = false := by simp
      have HLE : Hid (l1 = sortA (entF p.ents)) := Lib.hid (by rw [HL0.out, EN.out]; rfl)
      have hrl := rootL_len (textsE p.ents)
      have HRF : Hid (rootF p = if R = rootL (textsE p.ents) then [] else [⟨3, -1, -1⟩]) := Lib.hid (by rw [ER.out]; rfl)
      have HRR := Lib.hid (fun W v (h : Strs W v (textsE p.ents)) => rroot_any v (textsE p.ents) W h HLT.out (textsE_len p.ents))
      obtain ⟨rt, ert⟩ : ∃ q, q = rootL (textsE p.ents) := ⟨_, rfl⟩
      rw [← ert] at HRF HRR hrl
      obtain ⟨rb, erb⟩ : ∃ q, q = (R != rt) := ⟨_, rfl⟩
      have t2 := erb.symm
      have t2b : (R == rt) = !rb := by rw [erb]; simp [bne]
      have ERB := Lib.hid erb
      clear ert erb hrl hea
      go_wp2_with fail
      have gr0 : Fr [] wr wr.drew := (Fr.refl [] wr).drew
      have hSr0 : Fr [] wr wr.drew := gr0
      refine region_held 100 (fun W' => Fr [] wr W') hmx ?_
      change Held _ _ _ _ _ _ 7 (Array.replicate 7 false) _ _
      refine hd_take 0 (v := .pointer (some ⟨xb, 1, none⟩)) rfl (by kernel_rfl) (by kernel_rfl) (by kernel_rfl) rfl hSr0 (fun W' hS => by go_simp) rfl ?_
      refine hd_take 2 (v := .pointer (some ⟨xb, 0, none⟩)) rfl (by kernel_rfl) (by kernel_rfl) (by kernel_rfl) rfl hSr0 (fun W' hS => by go_simp) rfl ?_
      try simp only [Act.put, List.setIfInBounds_toArray, List.set_cons_zero, List.set_cons_succ]
      refine hd_take 1 (v := .string ⟨R.toArray⟩) rfl (by kernel_rfl) (by kernel_rfl) (by kernel_rfl) rfl hSr0 (fun W' hS => by have s0 := hS.cell c1 (by simp); go_simp) rfl ?_
      refine hd_take 3 (v := .slice ea n ec) rfl (by kernel_rfl) (by kernel_rfl) (by kernel_rfl) rfl hSr0 (fun W' hS => by have s0 := hS.cell c0 (by simp); go_simp) rfl ?_
      try simp only [Act.put, List.setIfInBounds_toArray, List.set_cons_zero, List.set_cons_succ]
      refine hd_one 4 (by kernel_rfl) rfl (by kernel_rfl) rfl (fun K' hK => ?_)
      go_simp
      refine (HTX.out wr.drew (HFW.out.trans gr0 (by simp))).mono ?_
      rintro e yr1 ⟨tv, rfl, hto, hbb⟩
      have gr1 : Fr [] wr yr1 := gr0.below hbb gr0.size
      have HST := Lib.hid hto.strs
      clear hto
      clear hbb
      have hSr1 : Fr [] wr yr1 := gr1
      refine hK.out _ _ (fun _ => hSr1) ?_
      clear hK K'
      try simp only [Act.put, List.setIfInBounds_toArray, List.set_cons_zero, List.set_cons_succ]
      refine hd_one 5 (by kernel_rfl) rfl (by kernel_rfl) rfl (fun K' hK => ?_)
      go_simp
      refine (HRR.out yr1 _ HST.out).mono ?_
      rintro e yr2 ⟨rfl, hbb⟩
      have gr2 : Fr [] wr yr2 := gr1.below hbb gr1.size
      clear hbb
      have hSr2 : Fr [] wr yr2 := gr2
      refine hK.out _ _ (fun _ => hSr2) ?_
      clear hK K'
      try simp only [Act.put, List.setIfInBounds_toArray, List.set_cons_zero, List.set_cons_succ]
      refine hd_take 6 (v := .bool rb) rfl (by kernel_rfl) (by kernel_rfl) (by kernel_rfl) rfl hSr2 (fun W' hS => by go_simp) rfl ?_
      try simp only [Act.put, List.setIfInBounds_toArray, List.set_cons_zero, List.set_cons_succ]
      refine held_done (by kernel_rfl) ?_
      obtain ⟨W1, hW1⟩ : ∃ W, W = yr2 := ⟨_, rfl⟩
      have fW1 : Fr [] wr W1 := by rw [hW1]; exact gr2
      have HF1 := Lib.hid (HF.out.trans fW1 (by simp))
      have HFW1 := Lib.hid (HFW.out.trans fW1 (by simp))
      have HA1 := Lib.hid (HAK.out.fr fW1)
      rw [← hW1]
      clear hW1 fW1 gr2 gr0 gr1 HST t2 t2b c0 c1
      cases rb with
      | false =>
        have HL1 : Hid (l1 = sortA (entF p.ents ++ rootF p)) := Lib.hid (by rw [HLE.out, HRF.out, if_pos (by simpa using ERB.out.symm), List.append_nil])
        have HLL1 : Hid (l1.length ≤ 1001) := Lib.hid (by have := HLN0.out; omega)
        obtain ⟨W2, hW2⟩ : ∃ W : World, W = W1 := ⟨_, rfl⟩
        have HF2 : Hid (Fr [] W0 W2) := Lib.hid (by rw [hW2]; exact HF1.out)
        have HFW2 : Hid (Fr [] w W2) := Lib.hid (by rw [hW2]; exact HFW1.out)
        have HA2 : Hid (Ads W2 u3 l1) := Lib.hid (by rw [hW2]; exact HA1.out)
        rw [← hW2]
        clear hW2
        go_wp2_with fail
        go_loopg [3, 5] (m + 1) (fun gh ov kv wr => ∃ (k : Nat) (l : List Aud), k ≤ m ∧ gh = m + 1 - k ∧ kv = .int .i64 (k : Int) ∧ l = sortA (entF p.ents ++ rootF p ++ partK p.parts k) ∧ l.length ≤ 1001 + k ∧ Ads wr ov l ∧ Fr [] W2 wr)
        case atStart => exact ⟨0, _, by omega, by omega, rfl, by rw [show partK p.parts 0 = [] from rfl, List.append_nil]; exact HL1.out, by have := HLL1.out; omega, HA2.out, Fr.refl _ _⟩
        case round =>
          obtain ⟨k, l2, hk, hgh, rfl, hl2, hll, ha2, hfr⟩ := hrel
          have HG := Lib.hid hgh
          have HL2 := Lib.hid hl2
          have HLN2 := Lib.hid hll
          have HAK := Lib.hid ha2
          have HFR := Lib.hid hfr
          have HF4 := Lib.hid (HF2.out.trans hfr (by simp))
          have HFW4 := Lib.hid (HFW2.out.trans hfr (by simp))
          have hX := HF4.out.at HX0.out (by simp)
          have c0 := row_cell hX 0
          have c2 := row_cell hX 2
          simp at c0 c2
          clear hgh hl2 hll ha2 hfr hX
          by_cases hlt : k < m
          · have t4 : decide ((k : Int) < (m : Int)) = true := by simp; omega
            have HWR := Lib.hid (rwrong_any _ p.parts k wr (G2.out.fr HFW4.out) (by rw [← EM.out]; exact hlt) (by have := HS.out.pn; omega) HS.out.p)
            obtain ⟨wb, ewb⟩ : ∃ q, q = wrongB p.parts k := ⟨_, rfl⟩
            rw [← ewb] at HWR
            have EWB := Lib.hid ewb
            clear ewb
            go_wp2_with fail
            refine HWR.out.mono ?_
            rintro e w4 ⟨rfl, hb⟩
            have hfb := Fr.ofBelow (X := []) hb
            have HAK4 := Lib.hid (HAK.out.fr hfb)
            have HFR4 := Lib.hid (HFR.out.trans hfb (by simp))
            clear hb hfb HWR c0 c2
            cases wb with
            | false =>
              go_wp2_with fail
              go_roundg (m + 1 - (k + 1))
              case measure => have := HG.out; omega
              case rel => exact ⟨k + 1, l2, by omega, rfl, by go_num, by rw [partK_no EWB.out.symm]; exact HL2.out, by have := HLN2.out; omega, HAK4.out, HFR4.out⟩
            | true =>
              go_wp2_with fail
              refine (radd3_any _ l2 4 (k : Int) (-1) w4 HAK4.out (by have := HLN2.out; have := HMN.out; omega)).mono ?_
              rintro e w6 ⟨v6, rfl, ha6, hl6, hb⟩
              have HA6 := Lib.hid ha6
              have HL6 := Lib.hid hl6
              have HFE := Lib.hid (HFR4.out.below hb HFR4.out.size)
              clear ha6 hl6 hb
              go_wp2_with fail
              go_roundg (m + 1 - (k + 1))
              case measure => have := HG.out; omega
              case rel => exact ⟨k + 1, _, by omega, rfl, by go_num, by rw [partK_yes EWB.out.symm, ← List.append_assoc, sortA_snoc, ← HL2.out], by have := HLN2.out; have := HL6.out; omega, HA6.out, HFE.out⟩
          · obtain rfl : m = k := by omega
            have t4 : decide ((m : Int) < (m : Int)) = false := by simp
            have HL2B : Hid (l2 = sortA (recF p)) := Lib.hid (by rw [HL2.out, EM.out]; rfl)
            have HLN3 : Hid (l2.length ≤ 3000) := Lib.hid (by have := HLN2.out; have := HMN.out; omega)
            obtain ⟨la2, lc2, hov, _, _, _⟩ := HAK.out.form
            have HOV := Lib.hid hov
            clear hov
            by_cases hrec : recF p = []
            · have HREC := Lib.hid hrec
              have HL20 : Hid (l2 = []) := Lib.hid (by rw [HL2B.out, hrec]; rfl)
              have hlen : l2.length = 0 := by rw [HL20.out]; rfl
              obtain ⟨ov4, eov4⟩ : ∃ q, q = Value.slice la2 0 lc2 := ⟨_, rfl⟩
              have HA4 := HAK
              rw [HOV.out, hlen] at HA4 ⊢
              have t5 : decide ((n : Int) ≤ 4000) = true := by have := HEN.out; simp; omega
              clear hrec hlen eov4
              have hX := HF4.out.at HX0.out (by simp)
              have c0 := row_cell hX 0
              have c1 := row_cell hX 1
              have c2 := row_cell hX 2
              simp at c0 c1 c2
              clear hX
              go_wp2_with fail
              refine (HSEED.out _ HFW4.out).mono ?_
              rintro e w8 ⟨rfl, hb⟩
              have hfb := Fr.ofBelow (X := []) hb
              have HF8 := Lib.hid (HF4.out.trans hfb (by simp))
              have HFW8 := Lib.hid (HFW4.out.trans hfb (by simp))
              have HA8 := Lib.hid (HA4.out.fr hfb)
              have c0 := hfb.cell c0 (by simp)
              obtain ⟨sd, sr, esd⟩ : ∃ a b, seedS p.parts R = (a, b) := ⟨_, _, rfl⟩
              have HSD : Hid ((seedS p.parts R).1 = sd) := Lib.hid (by rw [esd])
              have hsl := seedS_len p.parts R
              rw [esd] at hsl ⊢
              simp only at hsl ⊢
              have HOC := Lib.hid (fun W (h : Fr [] w W) => rorder_any _ p.ents sd W (G1.out.fr h) (by have := EN.out; have := HEN.out; omega) (by omega))
              clear hb hfb esd c1 c2
              go_wp2_with fail
              refine (HOC.out _ HFW8.out).mono ?_
              rintro e w9 ⟨wv, rfl, hwv, hb⟩
              have hfb := Fr.ofBelow (X := []) hb
              have HF9 := Lib.hid (HF8.out.trans hfb (by simp))
              have HFW9 := Lib.hid (HFW8.out.trans hfb (by simp))
              have HA9 := Lib.hid (HA8.out.fr hfb)
              obtain ⟨wa, wc, rfl, _, hwa⟩ := hwv.nums.form
              have hnm := hwv.nums
              obtain ⟨WN, eWN⟩ : ∃ q, q = orderO (clsL p.ents) sd := ⟨_, rfl⟩
              rw [← eWN] at hnm hwa ⊢
              have HWI : Hid (wantI (clsL p.ents) p = WN.map Int.ofNat) := Lib.hid (by unfold wantI; rw [← ER.out, HSD.out, eWN])
              have HWLE : Hid (WN.length ≤ 1000) := Lib.hid (by
                rw [eWN, order_length]
                have h1 := headsK_le (clsL p.ents) (clsL p.ents).length
                rw [headsK_all] at h1
                have h2 := clsL_len p.ents
                have := HS.out.en
                omega)
              obtain ⟨wn, ewn⟩ : ∃ q, q = WN.length := ⟨_, rfl⟩
              rw [← ewn] at hnm hwa HWLE ⊢
              have EWN := Lib.hid ewn
              have hw9 : wn ≤ 1000 := HWLE.out
              have HN9 := Lib.hid hnm
              clear hb hfb hwv hnm eWN ewn HOC c0
              go_wp2_with fail
              obtain ⟨W9, hW9⟩ : ∃ W : World, W = w9 := ⟨_, rfl⟩
              rw [← hW9] at HF9 HFW9 HA9 HN9 ⊢
              clear hW9
              go_loopg [3, 9] (wn + 1) (fun gh ov kv wr => ∃ (k : Nat) (l : List Aud), k ≤ wn ∧ gh = wn + 1 - k ∧ kv = .int .i64 (k : Int) ∧ l = sortA (mvK WN p.order k) ∧ l.length ≤ k ∧ Ads wr ov l ∧ Fr [] W9 wr)
              case atStart => exact ⟨0, [], by omega, by omega, rfl, rfl, by simp, by have := HA9.out; rwa [HL20.out] at this, Fr.refl _ _⟩
              case round =>
                obtain ⟨k, l5, hk, hgh, rfl, hl5, hll, ha5, hfr⟩ := hrel
                have HG := Lib.hid hgh
                have HL5 := Lib.hid hl5
                have HLN5 := Lib.hid hll
                have HAD := Lib.hid ha5
                have HFR := Lib.hid hfr
                have HF6 := Lib.hid (HF9.out.trans hfr (by simp))
                have HFW6 := Lib.hid (HFW9.out.trans hfr (by simp))
                have hX := HF6.out.at HX0.out (by simp)
                have c3 := row_cell hX 3
                simp at c3
                clear hgh hl5 hll ha5 hfr hX
                by_cases hlt : k < wn
                · have t6 : decide ((k : Int) < (wn : Int)) = true := by simp; omega
                  obtain ⟨wb, wo, rfl⟩ := hwa k hlt
                  have d0 := (HN9.out.fr0 HFR.out).cellN EWN.out.symm k hlt
                  have HMV := Lib.hid (mvK_succ WN p.order k (by rw [← EWN.out]; exact hlt))
                  generalize WN.getD k 0 = x at d0 HMV
                  have HPL := Lib.hid (fun W (h : Fr [] wr W) => rplaceB_any _ p.order (x : Int) W (G3.out.fr0 (HFW6.out.trans h (by simp))))
                  have i0 : (0 : Int) ≤ (k : Int) := by omega
                  have i1 : (k : Int) < (wn : Int) := by omega
                  by_cases hko : k < on
                  · have t7 : decide ((on : Int) ≤ (k : Int)) = false := by simp; omega
                    have t8 : decide ((k : Int) < (on : Int)) = true := by simp; omega
                    have i2 : (k : Int) < (on : Int) := by omega
                    obtain ⟨ob, oo, rfl⟩ := hoa k hko
                    have e0 := (G3.out.fr0 HFW6.out).cell k (by rw [← EON.out]; exact hko)
                    have hkl : k < p.order.length := by rw [← EON.out]; exact hko
                    have HMV2 : Hid (mvK WN p.order (k + 1) = mvK WN p.order k ++ if p.order.getD k 0 = (x : Int) then [] else [⟨5, (x : Int), placeL p.order (x : Int)⟩]) := Lib.hid (by
                      rw [HMV.out]
                      by_cases hc : p.order.getD k 0 = (x : Int)
                      · rw [if_pos ⟨hkl, hc⟩, if_pos hc]
                      · rw [if_neg (fun h => hc h.2), if_neg hc])
                    generalize p.order.getD k 0 = y at e0 HMV2
                    clear hkl hoa hwa HMV
                    by_cases hc : y = (x : Int)
                    · have t9 : (y != (x : Int)) = false := by rw [hc]; simp
                      have HMV3 : Hid (mvK WN p.order (k + 1) = mvK WN p.order k) := Lib.hid (by rw [HMV2.out, if_pos hc, List.append_nil])
                      clear hc
                      go_wp2_with fail
                      go_quiet (fail)
                      go_wp2_with fail
                      go_roundg (wn + 1 - (k + 1))
                      case measure => have := HG.out; omega
                      case rel => exact ⟨k + 1, l5, by omega, rfl, by go_num, by rw [HL5.out, HMV3.out], by have := HLN5.out; omega, HAD.out.fr ((Fr.refl [] _).drewN _), HFR.out.drewN _⟩
                    · have t9 : (y != (x : Int)) = true := by rw [bne_iff_ne]; exact hc
                      have HMV3 : Hid (mvK WN p.order (k + 1) = mvK WN p.order k ++ [⟨5, (x : Int), placeL p.order (x : Int)⟩]) := Lib.hid (by rw [HMV2.out, if_neg hc])
                      clear hc
                      go_wp2_with fail
                      go_quiet (fail)
                      go_wp2_with fail
                      have k3 := c3
                      have kd := d0
                      obtain ⟨WQ, hWQ⟩ : ∃ W : World, Fr [] wr W ∧ W = wr.drewN nq := ⟨_, (Fr.refl [] wr).drewN nq, rfl⟩
                      have k3 := hWQ.1.cell k3 (by simp)
                      have kd := hWQ.1.cell kd (by simp)
                      have HFQ := Lib.hid hWQ.1
                      rw [← hWQ.2]
                      clear hWQ c3 d0
                      have gm0 : Fr [] WQ WQ.drew := (Fr.refl [] WQ).drew
                      have hSm0 : Fr [] WQ WQ.drew := gm0
                      refine region_held 100 (fun W' => Fr [] WQ W') hmx ?_
                      change Held _ _ _ _ _ _ 15 (Array.replicate 15 false) _ _
                      refine hd_take 0 (v := u3) rfl (by kernel_rfl) (by kernel_rfl) (by kernel_rfl) rfl hSm0 (fun W' hS => by go_simp) rfl ?_
                      refine hd_take 1 (v := .slice (some ⟨wb, wo, none⟩) wn wc) rfl (by kernel_rfl) (by kernel_rfl) (by kernel_rfl) rfl hSm0 (fun W' hS => by go_simp) rfl ?_
                      refine hd_take 2 (v := .int .i64 (k : Int)) rfl (by kernel_rfl) (by kernel_rfl) (by kernel_rfl) rfl hSm0 (fun W' hS => by go_simp) rfl ?_
                      refine hd_take 5 (v := .pointer (some ⟨xb, 3, none⟩)) rfl (by kernel_rfl) (by kernel_rfl) (by kernel_rfl) rfl hSm0 (fun W' hS => by go_simp) rfl ?_
                      refine hd_take 7 (v := .slice (some ⟨wb, wo, none⟩) wn wc) rfl (by kernel_rfl) (by kernel_rfl) (by kernel_rfl) rfl hSm0 (fun W' hS => by go_simp) rfl ?_
                      refine hd_take 8 (v := .int .i64 (k : Int)) rfl (by kernel_rfl) (by kernel_rfl) (by kernel_rfl) rfl hSm0 (fun W' hS => by go_simp) rfl ?_
                      try simp only [Act.put, List.setIfInBounds_toArray, List.set_cons_zero, List.set_cons_succ]
                      refine hd_take 3 (v := .pointer (some ⟨wb, wo + k, none⟩)) rfl (by kernel_rfl) (by kernel_rfl) (by kernel_rfl) rfl hSm0 (fun W' hS => by go_simp) rfl ?_
                      refine hd_take 9 (v := .pointer (some ⟨wb, wo + k, none⟩)) rfl (by kernel_rfl) (by kernel_rfl) (by kernel_rfl) rfl hSm0 (fun W' hS => by go_simp) rfl ?_
                      refine hd_take 6 (v := .slice (some ⟨ob, oo, none⟩) on oc) rfl (by kernel_rfl) (by kernel_rfl) (by kernel_rfl) rfl hSm0 (fun W' hS => by have s0 := hS.cell k3 (by simp); go_simp) rfl ?_
                      try simp only [Act.put, List.setIfInBounds_toArray, List.set_cons_zero, List.set_cons_succ]
                      refine hd_take 4 (v := .int .i64 (x : Int)) rfl (by kernel_rfl) (by kernel_rfl) (by kernel_rfl) rfl hSm0 (fun W' hS => by have s0 := hS.cell kd (by simp); go_simp) rfl ?_
                      refine hd_take 10 (v := .int .i64 (x : Int)) rfl (by kernel_rfl) (by kernel_rfl) (by kernel_rfl) rfl hSm0 (fun W' hS => by have s0 := hS.cell kd (by simp); go_simp) rfl ?_
                      try simp only [Act.put, List.setIfInBounds_toArray, List.set_cons_zero, List.set_cons_succ]
                      refine hd_one 11 (by kernel_rfl) rfl (by kernel_rfl) rfl (fun K' hK => ?_)
                      go_simp
                      refine (HPL.out WQ.drew (HFQ.out.trans gm0 (by simp))).mono ?_
                      rintro e ym1 ⟨rfl, hbb⟩
                      have gm1 : Fr [] WQ ym1 := gm0.below hbb gm0.size
                      clear hbb
                      have hSm1 : Fr [] WQ ym1 := gm1
                      refine hK.out _ _ (fun _ => hSm1) ?_
                      clear hK K'
                      try simp only [Act.put, List.setIfInBounds_toArray, List.set_cons_zero, List.set_cons_succ]
                      refine hd_take 12 (v := .agg #[.int .i64 5, .int .i64 (x : Int), .int .i64 (placeL p.order (x : Int))]) rfl (by kernel_rfl) (by kernel_rfl) (by kernel_rfl) rfl hSm1 (fun W' hS => by go_simp) rfl ?_
                      try simp only [Act.put, List.setIfInBounds_toArray, List.set_cons_zero, List.set_cons_succ]
                      refine hd_one 13 (by kernel_rfl) rfl (by kernel_rfl) rfl (fun K' hK => ?_)
                      go_simp
                      refine (radd3_any _ l5 5 (x : Int) (placeL p.order (x : Int)) ym1 (HAD.out.fr (HFQ.out.trans gm1 (by simp))) (by have := HLN5.out; have := HWLE.out; omega)).mono ?_
                      rintro e ym2 ⟨v9, rfl, ha9, hl9, hbb⟩
                      have gm2 : Fr [] WQ ym2 := gm1.below hbb gm1.size
                      have HA9 := Lib.hid ha9
                      have HL9 := Lib.hid hl9
                      clear ha9 hl9
                      clear hbb
                      have hSm2 : Fr [] WQ ym2 := gm2
                      refine hK.out _ _ (fun _ => hSm2) ?_
                      clear hK K'
                      try simp only [Act.put, List.setIfInBounds_toArray, List.set_cons_zero, List.set_cons_succ]
                      refine hd_one 14 (by kernel_rfl) rfl (by kernel_rfl) rfl (fun K' hK => ?_)
                      go_simp
                      refine hK.out _ _ (fun _ => hSm2) ?_
                      clear hK K'
                      refine held_done (by kernel_rfl) ?_
                      have HFE := Lib.hid (HFR.out.trans (HFQ.out.trans gm2 (by simp)) (by simp))
                      go_wp2_with fail
                      go_roundg (wn + 1 - (k + 1))
                      case measure => have := HG.out; omega
                      case rel => exact ⟨k + 1, _, by omega, rfl, by go_num, by rw [HMV3.out, sortA_snoc, ← HL5.out], by have := HLN5.out; have := HL9.out; omega, HA9.out, HFE.out⟩
                  · have t7 : decide ((on : Int) ≤ (k : Int)) = true := by simp; omega
                    have t8 : decide ((k : Int) < (on : Int)) = false := by simp; omega
                    have HMV3 : Hid (mvK WN p.order (k + 1) = mvK WN p.order k ++ [⟨5, (x : Int), placeL p.order (x : Int)⟩]) := Lib.hid (by rw [HMV.out, if_neg (fun h => hko (by rw [EON.out]; exact h.1))])
                    clear hoa hwa HMV
                    go_wp2_with fail
                    go_quiet (fail)
                    go_wp2_with fail
                    have k3 := c3
                    have kd := d0
                    obtain ⟨WQ, hWQ⟩ : ∃ W : World, Fr [] wr W ∧ W = wr.drewN nq := ⟨_, (Fr.refl [] wr).drewN nq, rfl⟩
                    have k3 := hWQ.1.cell k3 (by simp)
                    have kd := hWQ.1.cell kd (by simp)
                    have HFQ := Lib.hid hWQ.1
                    rw [← hWQ.2]
                    clear hWQ c3 d0
                    have gm0 : Fr [] WQ WQ.drew := (Fr.refl [] WQ).drew
                    have hSm0 : Fr [] WQ WQ.drew := gm0
                    refine region_held 100 (fun W' => Fr [] WQ W') hmx ?_
                    change Held _ _ _ _ _ _ 15 (Array.replicate 15 false) _ _
                    refine hd_take 0 (v := u3) rfl (by kernel_rfl) (by kernel_rfl) (by kernel_rfl) rfl hSm0 (fun W' hS => by go_simp) rfl ?_
                    refine hd_take 1 (v := .slice (some ⟨wb, wo, none⟩) wn wc) rfl (by kernel_rfl) (by kernel_rfl) (by kernel_rfl) rfl hSm0 (fun W' hS => by go_simp) rfl ?_
                    refine hd_take 2 (v := .int .i64 (k : Int)) rfl (by kernel_rfl) (by kernel_rfl) (by kernel_rfl) rfl hSm0 (fun W' hS => by go_simp) rfl ?_
                    refine hd_take 5 (v := .pointer (some ⟨xb, 3, none⟩)) rfl (by kernel_rfl) (by kernel_rfl) (by kernel_rfl) rfl hSm0 (fun W' hS => by go_simp) rfl ?_
                    refine hd_take 7 (v := .slice (some ⟨wb, wo, none⟩) wn wc) rfl (by kernel_rfl) (by kernel_rfl) (by kernel_rfl) rfl hSm0 (fun W' hS => by go_simp) rfl ?_
                    refine hd_take 8 (v := .int .i64 (k : Int)) rfl (by kernel_rfl) (by kernel_rfl) (by kernel_rfl) rfl hSm0 (fun W' hS => by go_simp) rfl ?_
                    try simp only [Act.put, List.setIfInBounds_toArray, List.set_cons_zero, List.set_cons_succ]
                    refine hd_take 3 (v := .pointer (some ⟨wb, wo + k, none⟩)) rfl (by kernel_rfl) (by kernel_rfl) (by kernel_rfl) rfl hSm0 (fun W' hS => by go_simp) rfl ?_
                    refine hd_take 9 (v := .pointer (some ⟨wb, wo + k, none⟩)) rfl (by kernel_rfl) (by kernel_rfl) (by kernel_rfl) rfl hSm0 (fun W' hS => by go_simp) rfl ?_
                    refine hd_take 6 (v := .slice oa on oc) rfl (by kernel_rfl) (by kernel_rfl) (by kernel_rfl) rfl hSm0 (fun W' hS => by have s0 := hS.cell k3 (by simp); go_simp) rfl ?_
                    try simp only [Act.put, List.setIfInBounds_toArray, List.set_cons_zero, List.set_cons_succ]
                    refine hd_take 4 (v := .int .i64 (x : Int)) rfl (by kernel_rfl) (by kernel_rfl) (by kernel_rfl) rfl hSm0 (fun W' hS => by have s0 := hS.cell kd (by simp); go_simp) rfl ?_
                    refine hd_take 10 (v := .int .i64 (x : Int)) rfl (by kernel_rfl) (by kernel_rfl) (by kernel_rfl) rfl hSm0 (fun W' hS => by have s0 := hS.cell kd (by simp); go_simp) rfl ?_
                    try simp only [Act.put, List.setIfInBounds_toArray, List.set_cons_zero, List.set_cons_succ]
                    refine hd_one 11 (by kernel_rfl) rfl (by kernel_rfl) rfl (fun K' hK => ?_)
                    go_simp
                    refine (HPL.out WQ.drew (HFQ.out.trans gm0 (by simp))).mono ?_
                    rintro e ym1 ⟨rfl, hbb⟩
                    have gm1 : Fr [] WQ ym1 := gm0.below hbb gm0.size
                    clear hbb
                    have hSm1 : Fr [] WQ ym1 := gm1
                    refine hK.out _ _ (fun _ => hSm1) ?_
                    clear hK K'
                    try simp only [Act.put, List.setIfInBounds_toArray, List.set_cons_zero, List.set_cons_succ]
                    refine hd_take 12 (v := .agg #[.int .i64 5, .int .i64 (x : Int), .int .i64 (placeL p.order (x : Int))]) rfl (by kernel_rfl) (by kernel_rfl) (by kernel_rfl) rfl hSm1 (fun W' hS => by go_simp) rfl ?_
                    try simp only [Act.put, List.setIfInBounds_toArray, List.set_cons_zero, List.set_cons_succ]
                    refine hd_one 13 (by kernel_rfl) rfl (by kernel_rfl) rfl (fun K' hK => ?_)
                    go_simp
                    refine (radd3_any _ l5 5 (x : Int) (placeL p.order (x : Int)) ym1 (HAD.out.fr (HFQ.out.trans gm1 (by simp))) (by have := HLN5.out; have := HWLE.out; omega)).mono ?_
                    rintro e ym2 ⟨v9, rfl, ha9, hl9, hbb⟩
                    have gm2 : Fr [] WQ ym2 := gm1.below hbb gm1.size
                    have HA9 := Lib.hid ha9
                    have HL9 := Lib.hid hl9
                    clear ha9 hl9
                    clear hbb
                    have hSm2 : Fr [] WQ ym2 := gm2
                    refine hK.out _ _ (fun _ => hSm2) ?_
                    clear hK K'
                    try simp only [Act.put, List.setIfInBounds_toArray, List.set_cons_zero, List.set_cons_succ]
                    refine hd_one 14 (by kernel_rfl) rfl (by kernel_rfl) rfl (fun K' hK => ?_)
                    go_simp
                    refine hK.out _ _ (fun _ => hSm2) ?_
                    clear hK K'
                    refine held_done (by kernel_rfl) ?_
                    have HFE := Lib.hid (HFR.out.trans (HFQ.out.trans gm2 (by simp)) (by simp))
                    go_wp2_with fail
                    go_roundg (wn + 1 - (k + 1))
                    case measure => have := HG.out; omega
                    case rel => exact ⟨k + 1, _, by omega, rfl, by go_num, by rw [HMV3.out, sortA_snoc, ← HL5.out], by have := HLN5.out; have := HL9.out; omega, HA9.out, HFE.out⟩
                · obtain rfl : wn = k := by omega
                  have t6 : decide ((wn : Int) < (wn : Int)) = false := by simp
                  clear hwa
                  go_wp2_with fail
                  obtain ⟨WA, hWA⟩ : ∃ W : World, W = wr := ⟨_, rfl⟩
                  rw [← hWA] at HF6 HFW6 HAD ⊢
                  clear hWA c3 HFR
                  go_loopg [3, 10] (on + 2) (fun gh ov kv wr => ∃ (j : Nat) (l : List Aud), j ≤ on - wn ∧ gh = on + 2 - j ∧ kv = .int .i64 ((wn + j : Nat) : Int) ∧ l = sortA (mvK WN p.order wn ++ mvT p.order wn j) ∧ l.length ≤ 1000 + j ∧ Ads wr ov l ∧ Fr [] WA wr)
                  case atStart => exact ⟨0, l5, by omega, by omega, rfl, by rw [show mvT p.order wn 0 = [] from rfl, List.append_nil]; exact HL5.out, by have := HLN5.out; have := HWLE.out; omega, HAD.out, Fr.refl _ _⟩
                  case round =>
                    obtain ⟨j, l7, hj, hgj, rfl, hl7, hll, ha7, hfr⟩ := hrel
                    have HGJ := Lib.hid hgj
                    have HL7 := Lib.hid hl7
                    have HLN7 := Lib.hid hll
                    have HAJ := Lib.hid ha7
                    have HFR := Lib.hid hfr
                    have HF10 := Lib.hid (HF6.out.trans hfr (by simp))
                    have HFW10 := Lib.hid (HFW6.out.trans hfr (by simp))
                    have hX := HF10.out.at HX0.out (by simp)
                    have c3 := row_cell hX 3
                    simp at c3
                    clear hgj hl7 hll ha7 hfr hX
                    obtain ⟨k, ek⟩ : ∃ k, k = wn + j := ⟨_, rfl⟩
                    rw [← ek]
                    by_cases hlt : k < on
                    · have t11 : decide ((k : Int) < (on : Int)) = true := by simp; omega
                      have t12 : decide (k < on) = true := by simp; omega
                      obtain ⟨ob, oo, rfl⟩ := hoa k hlt
                      have e0 := (G3.out.fr0 HFW10.out).cell k (by rw [← EON.out]; exact hlt)
                      have HMT : Hid (mvT p.order wn (j + 1) = mvT p.order wn j ++ [⟨5, p.order.getD k 0, (k : Int)⟩]) := Lib.hid (by rw [mvT_succ, ek])
                      generalize p.order.getD k 0 = y at e0 HMT
                      have i0 : (0 : Int) ≤ (k : Int) := by omega
                      have i1 : (k : Int) < (on : Int) := by omega
                      have EK := Lib.hid ek
                      clear ek hoa
                      go_wp2_with fail
                      refine (radd3_any _ l7 5 y (k : Int) wr HAJ.out (by have := HLN7.out; have := HON.out; omega)).mono ?_
                      rintro e w9 ⟨v9, rfl, ha9, hl9, hb⟩
                      have HA9 := Lib.hid ha9
                      have HL9 := Lib.hid hl9
                      have HFE := Lib.hid (HFR.out.below hb HFR.out.size)
                      clear ha9 hl9 hb
                      go_wp2_with fail
                      go_roundg (on + 2 - (j + 1))
                      case measure => have := HGJ.out; have := EK.out; omega
                      case rel => exact ⟨j + 1, _, by have := EK.out; omega, rfl, by have := EK.out; first | (rw [show wn + (j + 1) = k + 1 by omega]; go_num) | skip, by rw [HMT.out, ← List.append_assoc, sortA_snoc, ← HL7.out], by have := HLN7.out; have := HL9.out; omega, HA9.out, HFE.out⟩
                    · have t11 : decide ((k : Int) < (on : Int)) = false := by simp; omega
                      have t12 : decide (k < on) = false := by simp; omega
                      obtain rfl : j = on - wn := by omega
                      have HL3 : Hid (l7 = sortA (recF p ++ mvF (clsL p.ents) p)) := Lib.hid (by
                        rw [HL7.out, HREC.out, List.nil_append]
                        unfold mvF
                        rw [if_pos ⟨HREC.out, by have := HS.out.en; omega⟩, HWI.out]
                        unfold movedF mvK mvT
                        rw [List.length_map, EWN.out, EON.out])
                      have HLL3 : Hid (l7.length ≤ 3000) := Lib.hid (by have := HLN7.out; have := HON.out; omega)
                      have hX := HF10.out.at HX0.out (by simp)
                      have c0 := row_cell hX 0
                      simp at c0
                      clear hX
                      go_wp2_with fail
                      refine (HCL.out _ HFW10.out).mono ?_
                      rintro e w5 ⟨clv, o, rfl, hcl, hcls, hb⟩
                      have hfb := Fr.ofBelow (X := []) hb
                      have HF5 := Lib.hid (HF10.out.trans hfb (by simp))
                      have HFW5 := Lib.hid (HFW10.out.trans hfb (by simp))
                      have HA5 := Lib.hid (HAJ.out.fr hfb)
                      have hoeq := clsL_eq hcls
                      have HOL : Hid (o.length = n) := Lib.hid (by rw [hcls.len, EN.out])
                      obtain ⟨ka, kc, rfl, _, hka⟩ := hcl.nums.form
                      have hnm := hcl.nums
                      rw [HOL.out] at hnm hka ⊢
                      have HN5 := Lib.hid hnm
                      have HOQ : Hid (o = clsL p.ents) := Lib.hid hoeq.symm
                      obtain ⟨F3, eF3⟩ : ∃ F, F = (recF p ++ mvF (clsL p.ents) p) := ⟨_, rfl⟩
                      have HF3 : Hid (l7 = sortA F3) := Lib.hid (by rw [eF3]; exact HL3.out)
                      have EF3 := Lib.hid eF3
                      clear hcls hb hfb hcl hnm hoeq eF3 c0
                      go_wp2_with fail
                      obtain ⟨W5, hW5⟩ : ∃ W : World, W = w5 := ⟨_, rfl⟩
                      rw [← hW5] at HF5 HFW5 HA5 HN5 ⊢
                      clear hW5
                      go_loopg [3, 12] (on + 1) (fun gh ov kv wr => ∃ (k : Nat) (l : List Aud), k ≤ on ∧ gh = on + 1 - k ∧ kv = .int .i64 (k : Int) ∧ l = sortA (F3 ++ (p.order.take k).flatMap (twiceA o)) ∧ l.length ≤ 3000 + k ∧ Ads wr ov l ∧ Fr [] W5 wr)
                      case atStart => exact ⟨0, l7, by omega, by omega, rfl, by rw [List.take_zero, List.flatMap_nil, List.append_nil]; exact HF3.out, by have := HLL3.out; omega, HA5.out, Fr.refl _ _⟩
                      case round =>
                        obtain ⟨k, l5, hk, hgh, rfl, hl5, hll, ha5, hfr⟩ := hrel
                        have HG := Lib.hid hgh
                        have HL5 := Lib.hid hl5
                        have HLN5 := Lib.hid hll
                        have HAD := Lib.hid ha5
                        have HFR := Lib.hid hfr
                        have HF6 := Lib.hid (HF5.out.trans hfr (by simp))
                        have HFW6 := Lib.hid (HFW5.out.trans hfr (by simp))
                        have hX := HF6.out.at HX0.out (by simp)
                        have c0 := row_cell hX 0
                        have c3 := row_cell hX 3
                        have c4 := row_cell hX 4
                        simp at c0 c3 c4
                        clear hgh hl5 hll ha5 hfr hX
                        by_cases hlt : k < on
                        · have t6 : decide ((k : Int) < (on : Int)) = true := by simp; omega
                          obtain ⟨ob, oo, rfl⟩ := hoa k hlt
                          have d0 := (G3.out.fr0 HFW6.out).cell k (by rw [← EON.out]; exact hlt)
                          have hox : p.order[k]? = some (p.order.getD k 0) := by rw [List.getD_eq_getElem?_getD, List.getElem?_eq_getElem (by rw [← EON.out]; exact hlt)]; rfl
                          obtain ⟨x, ex⟩ : ∃ x, x = p.order.getD k 0 := ⟨_, rfl⟩
                          rw [← ex] at d0 hox
                          have hin := HS.out.oi x (List.mem_of_getElem? hox)
                          unfold inI at hin
                          have HTK : Hid ((p.order.take (k + 1)).flatMap (twiceA o) = (p.order.take k).flatMap (twiceA o) ++ twiceA o x) := Lib.hid (by rw [List.take_add_one, hox, List.flatMap_append]; simp)
                          have i0 : (0 : Int) ≤ (k : Int) := by omega
                          have i1 : (k : Int) < (on : Int) := by omega
                          clear ex hox hoa
                          by_cases hx0 : 0 ≤ x
                          case neg =>
                            have t7 : decide ((0 : Int) ≤ x) = false := by simp; omega
                            have t8 : decide (x < 0) = true := by simp; omega
                            have HTW : Hid (twiceA o x = []) := Lib.hid (by unfold twiceA; rw [if_neg (by omega)])
                            clear hx0 hin
                            go_wp2_with fail
                            go_roundg (on + 1 - (k + 1))
                            case measure => have := HG.out; omega
                            case rel => exact ⟨k + 1, l5, by omega, rfl, by go_num, by rw [HL5.out, HTK.out, HTW.out, List.append_nil], by have := HLN5.out; omega, HAD.out, HFR.out⟩
                          have t7 : decide ((0 : Int) ≤ x) = true := by simp; omega
                          have t8 : decide (x < 0) = false := by simp; omega
                          by_cases hxn : x < (n : Int)
                          case neg =>
                            have t9 : decide (x < (n : Int)) = false := by simp; omega
                            have HTW : Hid (twiceA o x = []) := Lib.hid (by unfold twiceA; rw [if_neg (by rw [HOL.out]; omega)])
                            clear hx0 hin hxn
                            go_wp2_with fail
                            go_roundg (on + 1 - (k + 1))
                            case measure => have := HG.out; omega
                            case rel => exact ⟨k + 1, l5, by omega, rfl, by go_num, by rw [HL5.out, HTK.out, HTW.out, List.append_nil], by have := HLN5.out; omega, HAD.out, HFR.out⟩
                          obtain ⟨j, rfl⟩ : ∃ j : Nat, x = (j : Int) := ⟨x.toNat, by omega⟩
                          have hjn : j < n := by omega
                          have t9 : decide ((j : Int) < (n : Int)) = true := by simp; omega
                          obtain ⟨kb, ko, rfl⟩ := hka j hjn
                          have e0 := (HN5.out.fr0 HFR.out).cellN HOL.out j hjn
                          have HTW0 : Hid (twiceA o (j : Int) = if o.getD j 0 ≠ j then [⟨2, (o.getD j 0 : Nat), (j : Int)⟩] else []) := Lib.hid (by
                            unfold twiceA
                            rw [Int.toNat_natCast]
                            by_cases hc : o.getD j 0 = j
                            · rw [if_neg (by omega), if_neg (by omega)]
                            · rw [if_pos ⟨by omega, by rw [HOL.out]; omega, by omega⟩, if_pos hc])
                          generalize o.getD j 0 = c at e0 HTW0
                          have i2 : (0 : Int) ≤ (j : Int) := by omega
                          have i3 : (j : Int) < (n : Int) := by omega
                          clear hx0 hin hxn hka
                          by_cases hc : c = j
                          · have t10 : ((c : Int) != (j : Int)) = false := by rw [hc]; simp
                            have HTW : Hid (twiceA o (j : Int) = []) := Lib.hid (by rw [HTW0.out, if_neg (by omega)])
                            clear hc
                            go_wp2_with fail
                            go_roundg (on + 1 - (k + 1))
                            case measure => have := HG.out; omega
                            case rel => exact ⟨k + 1, l5, by omega, rfl, by go_num, by rw [HL5.out, HTK.out, HTW.out, List.append_nil], by have := HLN5.out; omega, HAD.out, HFR.out⟩
                          · have t10 : ((c : Int) != (j : Int)) = true := by rw [bne_iff_ne]; omega
                            have HTW : Hid (twiceA o (j : Int) = [⟨2, (c : Int), (j : Int)⟩]) := Lib.hid (by rw [HTW0.out, if_pos hc])
                            clear hc
                            go_wp2_with fail
                            refine (radd3_any _ l5 2 (c : Int) (j : Int) wr HAD.out (by have := HLN5.out; omega)).mono ?_
                            rintro e w6 ⟨v6, rfl, ha6, hl6, hb⟩
                            have HA6 := Lib.hid ha6
                            have HL6 := Lib.hid hl6
                            have HFE := Lib.hid (HFR.out.below hb HFR.out.size)
                            clear ha6 hl6 hb
                            go_wp2_with fail
                            go_roundg (on + 1 - (k + 1))
                            case measure => have := HG.out; omega
                            case rel => exact ⟨k + 1, _, by omega, rfl, by go_num, by rw [HTK.out, HTW.out, ← List.append_assoc, sortA_snoc, ← HL5.out], by have := HLN5.out; have := HL6.out; omega, HA6.out, HFE.out⟩
                        · obtain rfl : on = k := by omega
                          have t6 : decide ((on : Int) < (on : Int)) = false := by simp
                          have HL5B : Hid (l5 = sortA (F3 ++ twiceF o p.order)) := Lib.hid (by rw [HL5.out, EON.out, List.take_length]; rfl)
                          obtain ⟨F4, eF4⟩ : ∃ F, F = F3 ++ twiceF o p.order := ⟨_, rfl⟩
                          rw [← eF4] at HL5B
                          have EF4 := Lib.hid eF4
                          clear eF4 c0
                          go_wp2_with fail
                          obtain ⟨W7, hW7⟩ : ∃ W : World, W = wr := ⟨_, rfl⟩
                          rw [← hW7] at HF6 HFW6 HAD ⊢
                          clear hW7 c3 c4 HFR
                          go_loopg [3, 14, 15] (sn + 1) (fun gh ov lv kv wr => ∃ (k : Nat) (l : List Aud), k ≤ sn ∧ gh = sn + 1 - k ∧ kv = .int .i64 (k : Int) ∧ lv = .int .i64 (servedSt p.order p.served k).1 ∧ l = sortA (F4 ++ (servedSt p.order p.served k).2) ∧ l.length ≤ 3000 + on + k ∧ Ads wr ov l ∧ Fr [] W7 wr)
                          case atStart => exact ⟨0, l5, by omega, by omega, rfl, rfl, by rw [servedSt, List.append_nil]; exact HL5B.out, by have := HLN5.out; omega, HAD.out, Fr.refl _ _⟩
                          case round =>
                            obtain ⟨q, l6, hq, hgq, rfl, rfl, hl6, hll, ha6, hfr⟩ := hrel
                            have HGQ := Lib.hid hgq
                            have HL6 := Lib.hid hl6
                            have HLN6 := Lib.hid hll
                            have HAQ := Lib.hid ha6
                            have HFR := Lib.hid hfr
                            have HF8 := Lib.hid (HF6.out.trans hfr (by simp))
                            have HFW8 := Lib.hid (HFW6.out.trans hfr (by simp))
                            have hX := HF8.out.at HX0.out (by simp)
                            have c3 := row_cell hX 3
                            have c4 := row_cell hX 4
                            simp at c3 c4
                            clear hgq hl6 hll ha6 hfr hX
                            by_cases hlq : q < sn
                            · have t11 : decide ((q : Int) < (sn : Int)) = true := by simp; omega
                              obtain ⟨sb, so, rfl⟩ := hsa q hlq
                              have d0 := (G4.out.fr0 HFW8.out).cell q (by rw [← ESN.out]; exact hlq)
                              have HST : Hid (servedSt p.order p.served (q + 1) = if (servedSt p.order p.served q).1 < placeL p.order (p.served.getD q 0) then (placeL p.order (p.served.getD q 0), (servedSt p.order p.served q).2) else ((servedSt p.order p.served q).1, (servedSt p.order p.served q).2 ++ [⟨6, p.served.getD q 0, (q : Int)⟩])) := Lib.hid (by rw [servedSt])
                              generalize servedSt p.order p.served q = st at HST HL6
                              obtain ⟨la, sl⟩ := st
                              simp only at HST HL6 ⊢
                              generalize p.served.getD q 0 = x at d0 HST
                              have HPL := Lib.hid (fun W (h : Fr [] W7 W) => rplaceB_any _ p.order x W (G3.out.fr0 (HFW6.out.trans h (by simp))))
                              generalize placeL p.order x = at_ at HST HPL
                              have i0 : (0 : Int) ≤ (q : Int) := by omega
                              have i1 : (q : Int) < (sn : Int) := by omega
                              clear hsa
                              go_wp2_with fail
                              have gs0 : Fr [] wr wr.drew := (Fr.refl [] wr).drew
                              have hSs0 : Fr [] wr wr.drew := gs0
                              refine region_held 100 (fun W' => Fr [] wr W') hmx ?_
                              change Held _ _ _ _ _ _ 9 (Array.replicate 9 false) _ _
                              refine hd_take 0 (v := .pointer (some ⟨xb, 3, none⟩)) rfl (by kernel_rfl) (by kernel_rfl) (by kernel_rfl) rfl hSs0 (fun W' hS => by go_simp) rfl ?_
                              refine hd_take 2 (v := .pointer (some ⟨xb, 4, none⟩)) rfl (by kernel_rfl) (by kernel_rfl) (by kernel_rfl) rfl hSs0 (fun W' hS => by go_simp) rfl ?_
                              refine hd_take 4 (v := .int .i64 (q : Int)) rfl (by kernel_rfl) (by kernel_rfl) (by kernel_rfl) rfl hSs0 (fun W' hS => by go_simp) rfl ?_
                              try simp only [Act.put, List.setIfInBounds_toArray, List.set_cons_zero, List.set_cons_succ]
                              refine hd_take 1 (v := .slice oa on oc) rfl (by kernel_rfl) (by kernel_rfl) (by kernel_rfl) rfl hSs0 (fun W' hS => by have s0 := hS.cell c3 (by simp); go_simp) rfl ?_
                              refine hd_take 3 (v := .slice (some ⟨sb, so, none⟩) sn sc) rfl (by kernel_rfl) (by kernel_rfl) (by kernel_rfl) rfl hSs0 (fun W' hS => by have s0 := hS.cell c4 (by simp); go_simp) rfl ?_
                              try simp only [Act.put, List.setIfInBounds_toArray, List.set_cons_zero, List.set_cons_succ]
                              refine hd_take 5 (v := .pointer (some ⟨sb, so + q, none⟩)) rfl (by kernel_rfl) (by kernel_rfl) (by kernel_rfl) rfl hSs0 (fun W' hS => by go_simp) rfl ?_
                              try simp only [Act.put, List.setIfInBounds_toArray, List.set_cons_zero, List.set_cons_succ]
                              refine hd_take 6 (v := .int .i64 x) rfl (by kernel_rfl) (by kernel_rfl) (by kernel_rfl) rfl hSs0 (fun W' hS => by have s0 := hS.cell d0 (by simp); go_simp) rfl ?_
                              try simp only [Act.put, List.setIfInBounds_toArray, List.set_cons_zero, List.set_cons_succ]
                              refine hd_one 7 (by kernel_rfl) rfl (by kernel_rfl) rfl (fun K' hK => ?_)
                              go_simp
                              refine (HPL.out wr.drew (HFR.out.trans gs0 (by simp))).mono ?_
                              rintro e ys1 ⟨rfl, hbb⟩
                              have gs1 : Fr [] wr ys1 := gs0.below hbb gs0.size
                              clear hbb
                              have hSs1 : Fr [] wr ys1 := gs1
                              refine hK.out _ _ (fun _ => hSs1) ?_
                              clear hK K'
                              try simp only [Act.put, List.setIfInBounds_toArray, List.set_cons_zero, List.set_cons_succ]
                              refine hd_one 8 (by kernel_rfl) rfl (by kernel_rfl) rfl (fun K' hK => ?_)
                              go_simp
                              refine hK.out _ _ (fun _ => hSs1) ?_
                              clear hK K'
                              refine held_done (by kernel_rfl) ?_
                              obtain ⟨W8, hW8⟩ : ∃ W, W = ys1 := ⟨_, rfl⟩
                              have f8 : Fr [] wr W8 := by rw [hW8]; exact gs1
                              have HA8 : Hid (Ads W8 u3 l6) := Lib.hid (HAQ.out.fr f8)
                              have HF9 := Lib.hid (HFR.out.trans f8 (by simp))
                              have c4 := f8.cell c4 (by simp)
                              have d0 := f8.cell d0 (by simp)
                              rw [← hW8]
                              clear hW8 f8 c3 gs1 gs0
                              by_cases hpl : la < at_
                              · have t12 : decide (at_ ≤ la) = false := by simp; omega
                                have t13 : decide (la < at_) = true := by simp; omega
                                have HST2 : Hid (servedSt p.order p.served (q + 1) = (at_, sl)) := Lib.hid (by rw [HST.out, if_pos hpl])
                                clear hpl
                                go_wp2_with fail
                                go_roundg (sn + 1 - (q + 1))
                                case measure => have := HGQ.out; omega
                                case rel => exact ⟨q + 1, l6, by omega, rfl, by go_num, by rw [HST2.out], by rw [HST2.out]; exact HL6.out, by have := HLN6.out; omega, HA8.out, HF9.out⟩
                              · have t12 : decide (at_ ≤ la) = true := by simp; omega
                                have t13 : decide (la < at_) = false := by simp; omega
                                have HST2 : Hid (servedSt p.order p.served (q + 1) = (la, sl ++ [⟨6, x, (q : Int)⟩])) := Lib.hid (by rw [HST.out, if_neg hpl])
                                clear hpl
                                go_wp2_with fail
                                refine (radd3_any _ l6 6 x (q : Int) W8 HA8.out (by have := HLN6.out; omega)).mono ?_
                                rintro e w9 ⟨v9, rfl, ha9, hl9, hb⟩
                                have HA9 := Lib.hid ha9
                                have HL9 := Lib.hid hl9
                                have HFE := Lib.hid (HF9.out.below hb HF9.out.size)
                                clear ha9 hl9 hb
                                go_wp2_with fail
                                go_roundg (sn + 1 - (q + 1))
                                case measure => have := HGQ.out; omega
                                case rel => exact ⟨q + 1, _, by omega, rfl, by go_num, by rw [HST2.out], by rw [HST2.out, ← List.append_assoc, sortA_snoc, ← HL6.out], by have := HLN6.out; have := HL9.out; omega, HA9.out, HFE.out⟩
                            · obtain rfl : sn = q := by omega
                              have t11 : decide ((sn : Int) < (sn : Int)) = false := by simp
                              have HRES : Hid (l6 = checkS (clsL p.ents) p) := Lib.hid (by
                                rw [HL6.out, EF4.out, EF3.out, HOQ.out, ESN.out]
                                rfl)
                              clear c3
                              go_wp2_with fail
                              go_ret
                              exact ⟨_, rfl, by rw [← HRES.out]; exact HAQ.out, HFW8.out.toBelow (by simp)⟩
            · have HREC := Lib.hid hrec
              clear hrec
              have HLNE : Hid (l2.length ≠ 0) := Lib.hid (fun h => HREC.out ((sortA_nil_iff (recF p)).1 (by rw [← HL2B.out]; exact List.length_eq_zero_iff.1 h)))
              obtain ⟨ln2, eln2⟩ : ∃ q, q = l2.length := ⟨_, rfl⟩
              have t5 : ((ln2 : Int) == 0) = false := by rw [beq_eq_false_iff_ne]; have := HLNE.out; omega
              have HA4 := HAK
              rw [HOV.out, ← eln2] at HA4 ⊢
              have HL3 : Hid (l2 = sortA (recF p ++ mvF (clsL p.ents) p)) := Lib.hid (by rw [HL2B.out]; unfold mvF; rw [if_neg (fun h => HREC.out h.1), List.append_nil])
              clear eln2
              have hX := HF4.out.at HX0.out (by simp)
              have c0 := row_cell hX 0
              simp at c0
              clear hX
              go_wp2_with fail
              refine (HCL.out _ HFW4.out).mono ?_
              rintro e w5 ⟨clv, o, rfl, hcl, hcls, hb⟩
              have hfb := Fr.ofBelow (X := []) hb
              have HF5 := Lib.hid (HF4.out.trans hfb (by simp))
              have HFW5 := Lib.hid (HFW4.out.trans hfb (by simp))
              have HA5 := Lib.hid (HA4.out.fr hfb)
              have hoeq := clsL_eq hcls
              have HOL : Hid (o.length = n) := Lib.hid (by rw [hcls.len, EN.out])
              obtain ⟨ka, kc, rfl, _, hka⟩ := hcl.nums.form
              have hnm := hcl.nums
              rw [HOL.out] at hnm hka ⊢
              have HN5 := Lib.hid hnm
              have HOQ : Hid (o = clsL p.ents) := Lib.hid hoeq.symm
              obtain ⟨F3, eF3⟩ : ∃ F, F = (recF p ++ mvF (clsL p.ents) p) := ⟨_, rfl⟩
              have HF3 : Hid (l2 = sortA F3) := Lib.hid (by rw [eF3]; exact HL3.out)
              have EF3 := Lib.hid eF3
              clear hcls hb hfb hcl hnm hoeq eF3 c0
              go_wp2_with fail
              obtain ⟨W5, hW5⟩ : ∃ W : World, W = w5 := ⟨_, rfl⟩
              rw [← hW5] at HF5 HFW5 HA5 HN5 ⊢
              clear hW5
              go_loopg [3, 12] (on + 1) (fun gh ov kv wr => ∃ (k : Nat) (l : List Aud), k ≤ on ∧ gh = on + 1 - k ∧ kv = .int .i64 (k : Int) ∧ l = sortA (F3 ++ (p.order.take k).flatMap (twiceA o)) ∧ l.length ≤ 3000 + k ∧ Ads wr ov l ∧ Fr [] W5 wr)
              case atStart => exact ⟨0, l2, by omega, by omega, rfl, by rw [List.take_zero, List.flatMap_nil, List.append_nil]; exact HF3.out, by have := HLN3.out; omega, HA5.out, Fr.refl _ _⟩
              case round =>
                obtain ⟨k, l5, hk, hgh, rfl, hl5, hll, ha5, hfr⟩ := hrel
                have HG := Lib.hid hgh
                have HL5 := Lib.hid hl5
                have HLN5 := Lib.hid hll
                have HAD := Lib.hid ha5
                have HFR := Lib.hid hfr
                have HF6 := Lib.hid (HF5.out.trans hfr (by simp))
                have HFW6 := Lib.hid (HFW5.out.trans hfr (by simp))
                have hX := HF6.out.at HX0.out (by simp)
                have c0 := row_cell hX 0
                have c3 := row_cell hX 3
                have c4 := row_cell hX 4
                simp at c0 c3 c4
                clear hgh hl5 hll ha5 hfr hX
                by_cases hlt : k < on
                · have t6 : decide ((k : Int) < (on : Int)) = true := by simp; omega
                  obtain ⟨ob, oo, rfl⟩ := hoa k hlt
                  have d0 := (G3.out.fr0 HFW6.out).cell k (by rw [← EON.out]; exact hlt)
                  have hox : p.order[k]? = some (p.order.getD k 0) := by rw [List.getD_eq_getElem?_getD, List.getElem?_eq_getElem (by rw [← EON.out]; exact hlt)]; rfl
                  obtain ⟨x, ex⟩ : ∃ x, x = p.order.getD k 0 := ⟨_, rfl⟩
                  rw [← ex] at d0 hox
                  have hin := HS.out.oi x (List.mem_of_getElem? hox)
                  unfold inI at hin
                  have HTK : Hid ((p.order.take (k + 1)).flatMap (twiceA o) = (p.order.take k).flatMap (twiceA o) ++ twiceA o x) := Lib.hid (by rw [List.take_add_one, hox, List.flatMap_append]; simp)
                  have i0 : (0 : Int) ≤ (k : Int) := by omega
                  have i1 : (k : Int) < (on : Int) := by omega
                  clear ex hox hoa
                  by_cases hx0 : 0 ≤ x
                  case neg =>
                    have t7 : decide ((0 : Int) ≤ x) = false := by simp; omega
                    have t8 : decide (x < 0) = true := by simp; omega
                    have HTW : Hid (twiceA o x = []) := Lib.hid (by unfold twiceA; rw [if_neg (by omega)])
                    clear hx0 hin
                    go_wp2_with fail
                    go_roundg (on + 1 - (k + 1))
                    case measure => have := HG.out; omega
                    case rel => exact ⟨k + 1, l5, by omega, rfl, by go_num, by rw [HL5.out, HTK.out, HTW.out, List.append_nil], by have := HLN5.out; omega, HAD.out, HFR.out⟩
                  have t7 : decide ((0 : Int) ≤ x) = true := by simp; omega
                  have t8 : decide (x < 0) = false := by simp; omega
                  by_cases hxn : x < (n : Int)
                  case neg =>
                    have t9 : decide (x < (n : Int)) = false := by simp; omega
                    have HTW : Hid (twiceA o x = []) := Lib.hid (by unfold twiceA; rw [if_neg (by rw [HOL.out]; omega)])
                    clear hx0 hin hxn
                    go_wp2_with fail
                    go_roundg (on + 1 - (k + 1))
                    case measure => have := HG.out; omega
                    case rel => exact ⟨k + 1, l5, by omega, rfl, by go_num, by rw [HL5.out, HTK.out, HTW.out, List.append_nil], by have := HLN5.out; omega, HAD.out, HFR.out⟩
                  obtain ⟨j, rfl⟩ : ∃ j : Nat, x = (j : Int) := ⟨x.toNat, by omega⟩
                  have hjn : j < n := by omega
                  have t9 : decide ((j : Int) < (n : Int)) = true := by simp; omega
                  obtain ⟨kb, ko, rfl⟩ := hka j hjn
                  have e0 := (HN5.out.fr0 HFR.out).cellN HOL.out j hjn
                  have HTW0 : Hid (twiceA o (j : Int) = if o.getD j 0 ≠ j then [⟨2, (o.getD j 0 : Nat), (j : Int)⟩] else []) := Lib.hid (by
                    unfold twiceA
                    rw [Int.toNat_natCast]
                    by_cases hc : o.getD j 0 = j
                    · rw [if_neg (by omega), if_neg (by omega)]
                    · rw [if_pos ⟨by omega, by rw [HOL.out]; omega, by omega⟩, if_pos hc])
                  generalize o.getD j 0 = c at e0 HTW0
                  have i2 : (0 : Int) ≤ (j : Int) := by omega
                  have i3 : (j : Int) < (n : Int) := by omega
                  clear hx0 hin hxn hka
                  by_cases hc : c = j
                  · have t10 : ((c : Int) != (j : Int)) = false := by rw [hc]; simp
                    have HTW : Hid (twiceA o (j : Int) = []) := Lib.hid (by rw [HTW0.out, if_neg (by omega)])
                    clear hc
                    go_wp2_with fail
                    go_roundg (on + 1 - (k + 1))
                    case measure => have := HG.out; omega
                    case rel => exact ⟨k + 1, l5, by omega, rfl, by go_num, by rw [HL5.out, HTK.out, HTW.out, List.append_nil], by have := HLN5.out; omega, HAD.out, HFR.out⟩
                  · have t10 : ((c : Int) != (j : Int)) = true := by rw [bne_iff_ne]; omega
                    have HTW : Hid (twiceA o (j : Int) = [⟨2, (c : Int), (j : Int)⟩]) := Lib.hid (by rw [HTW0.out, if_pos hc])
                    clear hc
                    go_wp2_with fail
                    refine (radd3_any _ l5 2 (c : Int) (j : Int) wr HAD.out (by have := HLN5.out; omega)).mono ?_
                    rintro e w6 ⟨v6, rfl, ha6, hl6, hb⟩
                    have HA6 := Lib.hid ha6
                    have HL6 := Lib.hid hl6
                    have HFE := Lib.hid (HFR.out.below hb HFR.out.size)
                    clear ha6 hl6 hb
                    go_wp2_with fail
                    go_roundg (on + 1 - (k + 1))
                    case measure => have := HG.out; omega
                    case rel => exact ⟨k + 1, _, by omega, rfl, by go_num, by rw [HTK.out, HTW.out, ← List.append_assoc, sortA_snoc, ← HL5.out], by have := HLN5.out; have := HL6.out; omega, HA6.out, HFE.out⟩
                · obtain rfl : on = k := by omega
                  have t6 : decide ((on : Int) < (on : Int)) = false := by simp
                  have HL5B : Hid (l5 = sortA (F3 ++ twiceF o p.order)) := Lib.hid (by rw [HL5.out, EON.out, List.take_length]; rfl)
                  obtain ⟨F4, eF4⟩ : ∃ F, F = F3 ++ twiceF o p.order := ⟨_, rfl⟩
                  rw [← eF4] at HL5B
                  have EF4 := Lib.hid eF4
                  clear eF4 c0
                  go_wp2_with fail
                  obtain ⟨W7, hW7⟩ : ∃ W : World, W = wr := ⟨_, rfl⟩
                  rw [← hW7] at HF6 HFW6 HAD ⊢
                  clear hW7 c3 c4 HFR
                  go_loopg [3, 14, 15] (sn + 1) (fun gh ov lv kv wr => ∃ (k : Nat) (l : List Aud), k ≤ sn ∧ gh = sn + 1 - k ∧ kv = .int .i64 (k : Int) ∧ lv = .int .i64 (servedSt p.order p.served k).1 ∧ l = sortA (F4 ++ (servedSt p.order p.served k).2) ∧ l.length ≤ 3000 + on + k ∧ Ads wr ov l ∧ Fr [] W7 wr)
                  case atStart => exact ⟨0, l5, by omega, by omega, rfl, rfl, by rw [servedSt, List.append_nil]; exact HL5B.out, by have := HLN5.out; omega, HAD.out, Fr.refl _ _⟩
                  case round =>
                    obtain ⟨q, l6, hq, hgq, rfl, rfl, hl6, hll, ha6, hfr⟩ := hrel
                    have HGQ := Lib.hid hgq
                    have HL6 := Lib.hid hl6
                    have HLN6 := Lib.hid hll
                    have HAQ := Lib.hid ha6
                    have HFR := Lib.hid hfr
                    have HF8 := Lib.hid (HF6.out.trans hfr (by simp))
                    have HFW8 := Lib.hid (HFW6.out.trans hfr (by simp))
                    have hX := HF8.out.at HX0.out (by simp)
                    have c3 := row_cell hX 3
                    have c4 := row_cell hX 4
                    simp at c3 c4
                    clear hgq hl6 hll ha6 hfr hX
                    by_cases hlq : q < sn
                    · have t11 : decide ((q : Int) < (sn : Int)) = true := by simp; omega
                      obtain ⟨sb, so, rfl⟩ := hsa q hlq
                      have d0 := (G4.out.fr0 HFW8.out).cell q (by rw [← ESN.out]; exact hlq)
                      have HST : Hid (servedSt p.order p.served (q + 1) = if (servedSt p.order p.served q).1 < placeL p.order (p.served.getD q 0) then (placeL p.order (p.served.getD q 0), (servedSt p.order p.served q).2) else ((servedSt p.order p.served q).1, (servedSt p.order p.served q).2 ++ [⟨6, p.served.getD q 0, (q : Int)⟩])) := Lib.hid (by rw [servedSt])
                      generalize servedSt p.order p.served q = st at HST HL6
                      obtain ⟨la, sl⟩ := st
                      simp only at HST HL6 ⊢
                      generalize p.served.getD q 0 = x at d0 HST
                      have HPL := Lib.hid (fun W (h : Fr [] W7 W) => rplaceB_any _ p.order x W (G3.out.fr0 (HFW6.out.trans h (by simp))))
                      generalize placeL p.order x = at_ at HST HPL
                      have i0 : (0 : Int) ≤ (q : Int) := by omega
                      have i1 : (q : Int) < (sn : Int) := by omega
                      clear hsa
                      go_wp2_with fail
                      have gs0 : Fr [] wr wr.drew := (Fr.refl [] wr).drew
                      have hSs0 : Fr [] wr wr.drew := gs0
                      refine region_held 100 (fun W' => Fr [] wr W') hmx ?_
                      change Held _ _ _ _ _ _ 9 (Array.replicate 9 false) _ _
                      refine hd_take 0 (v := .pointer (some ⟨xb, 3, none⟩)) rfl (by kernel_rfl) (by kernel_rfl) (by kernel_rfl) rfl hSs0 (fun W' hS => by go_simp) rfl ?_
                      refine hd_take 2 (v := .pointer (some ⟨xb, 4, none⟩)) rfl (by kernel_rfl) (by kernel_rfl) (by kernel_rfl) rfl hSs0 (fun W' hS => by go_simp) rfl ?_
                      refine hd_take 4 (v := .int .i64 (q : Int)) rfl (by kernel_rfl) (by kernel_rfl) (by kernel_rfl) rfl hSs0 (fun W' hS => by go_simp) rfl ?_
                      try simp only [Act.put, List.setIfInBounds_toArray, List.set_cons_zero, List.set_cons_succ]
                      refine hd_take 1 (v := .slice oa on oc) rfl (by kernel_rfl) (by kernel_rfl) (by kernel_rfl) rfl hSs0 (fun W' hS => by have s0 := hS.cell c3 (by simp); go_simp) rfl ?_
                      refine hd_take 3 (v := .slice (some ⟨sb, so, none⟩) sn sc) rfl (by kernel_rfl) (by kernel_rfl) (by kernel_rfl) rfl hSs0 (fun W' hS => by have s0 := hS.cell c4 (by simp); go_simp) rfl ?_
                      try simp only [Act.put, List.setIfInBounds_toArray, List.set_cons_zero, List.set_cons_succ]
                      refine hd_take 5 (v := .pointer (some ⟨sb, so + q, none⟩)) rfl (by kernel_rfl) (by kernel_rfl) (by kernel_rfl) rfl hSs0 (fun W' hS => by go_simp) rfl ?_
                      try simp only [Act.put, List.setIfInBounds_toArray, List.set_cons_zero, List.set_cons_succ]
                      refine hd_take 6 (v := .int .i64 x) rfl (by kernel_rfl) (by kernel_rfl) (by kernel_rfl) rfl hSs0 (fun W' hS => by have s0 := hS.cell d0 (by simp); go_simp) rfl ?_
                      try simp only [Act.put, List.setIfInBounds_toArray, List.set_cons_zero, List.set_cons_succ]
                      refine hd_one 7 (by kernel_rfl) rfl (by kernel_rfl) rfl (fun K' hK => ?_)
                      go_simp
                      refine (HPL.out wr.drew (HFR.out.trans gs0 (by simp))).mono ?_
                      rintro e ys1 ⟨rfl, hbb⟩
                      have gs1 : Fr [] wr ys1 := gs0.below hbb gs0.size
                      clear hbb
                      have hSs1 : Fr [] wr ys1 := gs1
                      refine hK.out _ _ (fun _ => hSs1) ?_
                      clear hK K'
                      try simp only [Act.put, List.setIfInBounds_toArray, List.set_cons_zero, List.set_cons_succ]
                      refine hd_one 8 (by kernel_rfl) rfl (by kernel_rfl) rfl (fun K' hK => ?_)
                      go_simp
                      refine hK.out _ _ (fun _ => hSs1) ?_
                      clear hK K'
                      refine held_done (by kernel_rfl) ?_
                      obtain ⟨W8, hW8⟩ : ∃ W, W = ys1 := ⟨_, rfl⟩
                      have f8 : Fr [] wr W8 := by rw [hW8]; exact gs1
                      have HA8 : Hid (Ads W8 u3 l6) := Lib.hid (HAQ.out.fr f8)
                      have HF9 := Lib.hid (HFR.out.trans f8 (by simp))
                      have c4 := f8.cell c4 (by simp)
                      have d0 := f8.cell d0 (by simp)
                      rw [← hW8]
                      clear hW8 f8 c3 gs1 gs0
                      by_cases hpl : la < at_
                      · have t12 : decide (at_ ≤ la) = false := by simp; omega
                        have t13 : decide (la < at_) = true := by simp; omega
                        have HST2 : Hid (servedSt p.order p.served (q + 1) = (at_, sl)) := Lib.hid (by rw [HST.out, if_pos hpl])
                        clear hpl
                        go_wp2_with fail
                        go_roundg (sn + 1 - (q + 1))
                        case measure => have := HGQ.out; omega
                        case rel => exact ⟨q + 1, l6, by omega, rfl, by go_num, by rw [HST2.out], by rw [HST2.out]; exact HL6.out, by have := HLN6.out; omega, HA8.out, HF9.out⟩
                      · have t12 : decide (at_ ≤ la) = true := by simp; omega
                        have t13 : decide (la < at_) = false := by simp; omega
                        have HST2 : Hid (servedSt p.order p.served (q + 1) = (la, sl ++ [⟨6, x, (q : Int)⟩])) := Lib.hid (by rw [HST.out, if_neg hpl])
                        clear hpl
                        go_wp2_with fail
                        refine (radd3_any _ l6 6 x (q : Int) W8 HA8.out (by have := HLN6.out; omega)).mono ?_
                        rintro e w9 ⟨v9, rfl, ha9, hl9, hb⟩
                        have HA9 := Lib.hid ha9
                        have HL9 := Lib.hid hl9
                        have HFE := Lib.hid (HF9.out.below hb HF9.out.size)
                        clear ha9 hl9 hb
                        go_wp2_with fail
                        go_roundg (sn + 1 - (q + 1))
                        case measure => have := HGQ.out; omega
                        case rel => exact ⟨q + 1, _, by omega, rfl, by go_num, by rw [HST2.out], by rw [HST2.out, ← List.append_assoc, sortA_snoc, ← HL6.out], by have := HLN6.out; have := HL9.out; omega, HA9.out, HFE.out⟩
                    · obtain rfl : sn = q := by omega
                      have t11 : decide ((sn : Int) < (sn : Int)) = false := by simp
                      have HRES : Hid (l6 = checkS (clsL p.ents) p) := Lib.hid (by
                        rw [HL6.out, EF4.out, EF3.out, HOQ.out, ESN.out]
                        rfl)
                      clear c3
                      go_wp2_with fail
                      go_ret
                      exact ⟨_, rfl, by rw [← HRES.out]; exact HAQ.out, HFW8.out.toBelow (by simp)⟩
      | true =>
        have HRNE : Hid (recF p ≠ []) := Lib.hid (fun h => by
          have h1 := HRF.out
          rw [if_neg (by have := ERB.out.symm; simpa using this)] at h1
          unfold recF at h
          rw [h1] at h
          simp at h)
        go_wp2_with fail
        refine (radd3_any _ l1 3 (-1) (-1) W1 HA1.out (by have := HLN0.out; omega)).mono ?_
        rintro e W2 ⟨v6, rfl, ha6, hl6, hb⟩
        have HA2 := Lib.hid ha6
        have HF2 := Lib.hid (HF1.out.below hb HF1.out.size)
        have HFW2 := Lib.hid (HFW1.out.below hb HFW1.out.size)
        have HL1 : Hid (addA l1 ⟨3, -1, -1⟩ = sortA (entF p.ents ++ rootF p)) := Lib.hid (by rw [HRF.out, if_neg (by have := ERB.out.symm; simpa using this), sortA_snoc, HLE.out])
        have HLL1 : Hid ((addA l1 ⟨3, -1, -1⟩).length ≤ 1001) := Lib.hid (by have := HLN0.out; omega)
        clear ha6 hl6 hb
        go_wp2_with fail
        go_loopg [3, 5] (m + 1) (fun gh ov kv wr => ∃ (k : Nat) (l : List Aud), k ≤ m ∧ gh = m + 1 - k ∧ kv = .int .i64 (k : Int) ∧ l = sortA (entF p.ents ++ rootF p ++ partK p.parts k) ∧ l.length ≤ 1001 + k ∧ Ads wr ov l ∧ Fr [] W2 wr)
        case atStart => exact ⟨0, _, by omega, by omega, rfl, by rw [show partK p.parts 0 = [] from rfl, List.append_nil]; exact HL1.out, by have := HLL1.out; omega, HA2.out, Fr.refl _ _⟩
        case round =>
          obtain ⟨k, l2, hk, hgh, rfl, hl2, hll, ha2, hfr⟩ := hrel
          have HG := Lib.hid hgh
          have HL2 := Lib.hid hl2
          have HLN2 := Lib.hid hll
          have HAK := Lib.hid ha2
          have HFR := Lib.hid hfr
          have HF4 := Lib.hid (HF2.out.trans hfr (by simp))
          have HFW4 := Lib.hid (HFW2.out.trans hfr (by simp))
          have hX := HF4.out.at HX0.out (by simp)
          have c0 := row_cell hX 0
          have c2 := row_cell hX 2
          simp at c0 c2
          clear hgh hl2 hll ha2 hfr hX
          by_cases hlt : k < m
          · have t4 : decide ((k : Int) < (m : Int)) = true := by simp; omega
            have HWR := Lib.hid (rwrong_any _ p.parts k wr (G2.out.fr HFW4.out) (by rw [← EM.out]; exact hlt) (by have := HS.out.pn; omega) HS.out.p)
            obtain ⟨wb, ewb⟩ : ∃ q, q = wrongB p.parts k := ⟨_, rfl⟩
            rw [← ewb] at HWR
            have EWB := Lib.hid ewb
            clear ewb
            go_wp2_with fail
            refine HWR.out.mono ?_
            rintro e w4 ⟨rfl, hb⟩
            have hfb := Fr.ofBelow (X := []) hb
            have HAK4 := Lib.hid (HAK.out.fr hfb)
            have HFR4 := Lib.hid (HFR.out.trans hfb (by simp))
            clear hb hfb HWR c0 c2
            cases wb with
            | false =>
              go_wp2_with fail
              go_roundg (m + 1 - (k + 1))
              case measure => have := HG.out; omega
              case rel => exact ⟨k + 1, l2, by omega, rfl, by go_num, by rw [partK_no EWB.out.symm]; exact HL2.out, by have := HLN2.out; omega, HAK4.out, HFR4.out⟩
            | true =>
              go_wp2_with fail
              refine (radd3_any _ l2 4 (k : Int) (-1) w4 HAK4.out (by have := HLN2.out; have := HMN.out; omega)).mono ?_
              rintro e w6 ⟨v6, rfl, ha6, hl6, hb⟩
              have HA6 := Lib.hid ha6
              have HL6 := Lib.hid hl6
              have HFE := Lib.hid (HFR4.out.below hb HFR4.out.size)
              clear ha6 hl6 hb
              go_wp2_with fail
              go_roundg (m + 1 - (k + 1))
              case measure => have := HG.out; omega
              case rel => exact ⟨k + 1, _, by omega, rfl, by go_num, by rw [partK_yes EWB.out.symm, ← List.append_assoc, sortA_snoc, ← HL2.out], by have := HLN2.out; have := HL6.out; omega, HA6.out, HFE.out⟩
          · obtain rfl : m = k := by omega
            have t4 : decide ((m : Int) < (m : Int)) = false := by simp
            have HL2B : Hid (l2 = sortA (recF p)) := Lib.hid (by rw [HL2.out, EM.out]; rfl)
            have HLN3 : Hid (l2.length ≤ 3000) := Lib.hid (by have := HLN2.out; have := HMN.out; omega)
            obtain ⟨la2, lc2, hov, _, _, _⟩ := HAK.out.form
            have HOV := Lib.hid hov
            clear hov
            have HREC : Hid (recF p ≠ []) := Lib.hid HRNE.out
            have HLNE : Hid (l2.length ≠ 0) := Lib.hid (fun h => HREC.out ((sortA_nil_iff (recF p)).1 (by rw [← HL2B.out]; exact List.length_eq_zero_iff.1 h)))
            obtain ⟨ln2, eln2⟩ : ∃ q, q = l2.length := ⟨_, rfl⟩
            have t5 : ((ln2 : Int) == 0) = false := by rw [beq_eq_false_iff_ne]; have := HLNE.out; omega
            have HA4 := HAK
            rw [HOV.out, ← eln2] at HA4 ⊢
            have HL3 : Hid (l2 = sortA (recF p ++ mvF (clsL p.ents) p)) := Lib.hid (by rw [HL2B.out]; unfold mvF; rw [if_neg (fun h => HREC.out h.1), List.append_nil])
            clear eln2
            have hX := HF4.out.at HX0.out (by simp)
            have c0 := row_cell hX 0
            simp at c0
            clear hX
            go_wp2_with fail
            refine (HCL.out _ HFW4.out).mono ?_
            rintro e w5 ⟨clv, o, rfl, hcl, hcls, hb⟩
            have hfb := Fr.ofBelow (X := []) hb
            have HF5 := Lib.hid (HF4.out.trans hfb (by simp))
            have HFW5 := Lib.hid (HFW4.out.trans hfb (by simp))
            have HA5 := Lib.hid (HA4.out.fr hfb)
            have hoeq := clsL_eq hcls
            have HOL : Hid (o.length = n) := Lib.hid (by rw [hcls.len, EN.out])
            obtain ⟨ka, kc, rfl, _, hka⟩ := hcl.nums.form
            have hnm := hcl.nums
            rw [HOL.out] at hnm hka ⊢
            have HN5 := Lib.hid hnm
            have HOQ : Hid (o = clsL p.ents) := Lib.hid hoeq.symm
            obtain ⟨F3, eF3⟩ : ∃ F, F = (recF p ++ mvF (clsL p.ents) p) := ⟨_, rfl⟩
            have HF3 : Hid (l2 = sortA F3) := Lib.hid (by rw [eF3]; exact HL3.out)
            have EF3 := Lib.hid eF3
            clear hcls hb hfb hcl hnm hoeq eF3 c0
            go_wp2_with fail
            obtain ⟨W5, hW5⟩ : ∃ W : World, W = w5 := ⟨_, rfl⟩
            rw [← hW5] at HF5 HFW5 HA5 HN5 ⊢
            clear hW5
            go_loopg [3, 12] (on + 1) (fun gh ov kv wr => ∃ (k : Nat) (l : List Aud), k ≤ on ∧ gh = on + 1 - k ∧ kv = .int .i64 (k : Int) ∧ l = sortA (F3 ++ (p.order.take k).flatMap (twiceA o)) ∧ l.length ≤ 3000 + k ∧ Ads wr ov l ∧ Fr [] W5 wr)
            case atStart => exact ⟨0, l2, by omega, by omega, rfl, by rw [List.take_zero, List.flatMap_nil, List.append_nil]; exact HF3.out, by have := HLN3.out; omega, HA5.out, Fr.refl _ _⟩
            case round =>
              obtain ⟨k, l5, hk, hgh, rfl, hl5, hll, ha5, hfr⟩ := hrel
              have HG := Lib.hid hgh
              have HL5 := Lib.hid hl5
              have HLN5 := Lib.hid hll
              have HAD := Lib.hid ha5
              have HFR := Lib.hid hfr
              have HF6 := Lib.hid (HF5.out.trans hfr (by simp))
              have HFW6 := Lib.hid (HFW5.out.trans hfr (by simp))
              have hX := HF6.out.at HX0.out (by simp)
              have c0 := row_cell hX 0
              have c3 := row_cell hX 3
              have c4 := row_cell hX 4
              simp at c0 c3 c4
              clear hgh hl5 hll ha5 hfr hX
              by_cases hlt : k < on
              · have t6 : decide ((k : Int) < (on : Int)) = true := by simp; omega
                obtain ⟨ob, oo, rfl⟩ := hoa k hlt
                have d0 := (G3.out.fr0 HFW6.out).cell k (by rw [← EON.out]; exact hlt)
                have hox : p.order[k]? = some (p.order.getD k 0) := by rw [List.getD_eq_getElem?_getD, List.getElem?_eq_getElem (by rw [← EON.out]; exact hlt)]; rfl
                obtain ⟨x, ex⟩ : ∃ x, x = p.order.getD k 0 := ⟨_, rfl⟩
                rw [← ex] at d0 hox
                have hin := HS.out.oi x (List.mem_of_getElem? hox)
                unfold inI at hin
                have HTK : Hid ((p.order.take (k + 1)).flatMap (twiceA o) = (p.order.take k).flatMap (twiceA o) ++ twiceA o x) := Lib.hid (by rw [List.take_add_one, hox, List.flatMap_append]; simp)
                have i0 : (0 : Int) ≤ (k : Int) := by omega
                have i1 : (k : Int) < (on : Int) := by omega
                clear ex hox hoa
                by_cases hx0 : 0 ≤ x
                case neg =>
                  have t7 : decide ((0 : Int) ≤ x) = false := by simp; omega
                  have t8 : decide (x < 0) = true := by simp; omega
                  have HTW : Hid (twiceA o x = []) := Lib.hid (by unfold twiceA; rw [if_neg (by omega)])
                  clear hx0 hin
                  go_wp2_with fail
                  go_roundg (on + 1 - (k + 1))
                  case measure => have := HG.out; omega
                  case rel => exact ⟨k + 1, l5, by omega, rfl, by go_num, by rw [HL5.out, HTK.out, HTW.out, List.append_nil], by have := HLN5.out; omega, HAD.out, HFR.out⟩
                have t7 : decide ((0 : Int) ≤ x) = true := by simp; omega
                have t8 : decide (x < 0) = false := by simp; omega
                by_cases hxn : x < (n : Int)
                case neg =>
                  have t9 : decide (x < (n : Int)) = false := by simp; omega
                  have HTW : Hid (twiceA o x = []) := Lib.hid (by unfold twiceA; rw [if_neg (by rw [HOL.out]; omega)])
                  clear hx0 hin hxn
                  go_wp2_with fail
                  go_roundg (on + 1 - (k + 1))
                  case measure => have := HG.out; omega
                  case rel => exact ⟨k + 1, l5, by omega, rfl, by go_num, by rw [HL5.out, HTK.out, HTW.out, List.append_nil], by have := HLN5.out; omega, HAD.out, HFR.out⟩
                obtain ⟨j, rfl⟩ : ∃ j : Nat, x = (j : Int) := ⟨x.toNat, by omega⟩
                have hjn : j < n := by omega
                have t9 : decide ((j : Int) < (n : Int)) = true := by simp; omega
                obtain ⟨kb, ko, rfl⟩ := hka j hjn
                have e0 := (HN5.out.fr0 HFR.out).cellN HOL.out j hjn
                have HTW0 : Hid (twiceA o (j : Int) = if o.getD j 0 ≠ j then [⟨2, (o.getD j 0 : Nat), (j : Int)⟩] else []) := Lib.hid (by
                  unfold twiceA
                  rw [Int.toNat_natCast]
                  by_cases hc : o.getD j 0 = j
                  · rw [if_neg (by omega), if_neg (by omega)]
                  · rw [if_pos ⟨by omega, by rw [HOL.out]; omega, by omega⟩, if_pos hc])
                generalize o.getD j 0 = c at e0 HTW0
                have i2 : (0 : Int) ≤ (j : Int) := by omega
                have i3 : (j : Int) < (n : Int) := by omega
                clear hx0 hin hxn hka
                by_cases hc : c = j
                · have t10 : ((c : Int) != (j : Int)) = false := by rw [hc]; simp
                  have HTW : Hid (twiceA o (j : Int) = []) := Lib.hid (by rw [HTW0.out, if_neg (by omega)])
                  clear hc
                  go_wp2_with fail
                  go_roundg (on + 1 - (k + 1))
                  case measure => have := HG.out; omega
                  case rel => exact ⟨k + 1, l5, by omega, rfl, by go_num, by rw [HL5.out, HTK.out, HTW.out, List.append_nil], by have := HLN5.out; omega, HAD.out, HFR.out⟩
                · have t10 : ((c : Int) != (j : Int)) = true := by rw [bne_iff_ne]; omega
                  have HTW : Hid (twiceA o (j : Int) = [⟨2, (c : Int), (j : Int)⟩]) := Lib.hid (by rw [HTW0.out, if_pos hc])
                  clear hc
                  go_wp2_with fail
                  refine (radd3_any _ l5 2 (c : Int) (j : Int) wr HAD.out (by have := HLN5.out; omega)).mono ?_
                  rintro e w6 ⟨v6, rfl, ha6, hl6, hb⟩
                  have HA6 := Lib.hid ha6
                  have HL6 := Lib.hid hl6
                  have HFE := Lib.hid (HFR.out.below hb HFR.out.size)
                  clear ha6 hl6 hb
                  go_wp2_with fail
                  go_roundg (on + 1 - (k + 1))
                  case measure => have := HG.out; omega
                  case rel => exact ⟨k + 1, _, by omega, rfl, by go_num, by rw [HTK.out, HTW.out, ← List.append_assoc, sortA_snoc, ← HL5.out], by have := HLN5.out; have := HL6.out; omega, HA6.out, HFE.out⟩
              · obtain rfl : on = k := by omega
                have t6 : decide ((on : Int) < (on : Int)) = false := by simp
                have HL5B : Hid (l5 = sortA (F3 ++ twiceF o p.order)) := Lib.hid (by rw [HL5.out, EON.out, List.take_length]; rfl)
                obtain ⟨F4, eF4⟩ : ∃ F, F = F3 ++ twiceF o p.order := ⟨_, rfl⟩
                rw [← eF4] at HL5B
                have EF4 := Lib.hid eF4
                clear eF4 c0
                go_wp2_with fail
                obtain ⟨W7, hW7⟩ : ∃ W : World, W = wr := ⟨_, rfl⟩
                rw [← hW7] at HF6 HFW6 HAD ⊢
                clear hW7 c3 c4 HFR
                go_loopg [3, 14, 15] (sn + 1) (fun gh ov lv kv wr => ∃ (k : Nat) (l : List Aud), k ≤ sn ∧ gh = sn + 1 - k ∧ kv = .int .i64 (k : Int) ∧ lv = .int .i64 (servedSt p.order p.served k).1 ∧ l = sortA (F4 ++ (servedSt p.order p.served k).2) ∧ l.length ≤ 3000 + on + k ∧ Ads wr ov l ∧ Fr [] W7 wr)
                case atStart => exact ⟨0, l5, by omega, by omega, rfl, rfl, by rw [servedSt, List.append_nil]; exact HL5B.out, by have := HLN5.out; omega, HAD.out, Fr.refl _ _⟩
                case round =>
                  obtain ⟨q, l6, hq, hgq, rfl, rfl, hl6, hll, ha6, hfr⟩ := hrel
                  have HGQ := Lib.hid hgq
                  have HL6 := Lib.hid hl6
                  have HLN6 := Lib.hid hll
                  have HAQ := Lib.hid ha6
                  have HFR := Lib.hid hfr
                  have HF8 := Lib.hid (HF6.out.trans hfr (by simp))
                  have HFW8 := Lib.hid (HFW6.out.trans hfr (by simp))
                  have hX := HF8.out.at HX0.out (by simp)
                  have c3 := row_cell hX 3
                  have c4 := row_cell hX 4
                  simp at c3 c4
                  clear hgq hl6 hll ha6 hfr hX
                  by_cases hlq : q < sn
                  · have t11 : decide ((q : Int) < (sn : Int)) = true := by simp; omega
                    obtain ⟨sb, so, rfl⟩ := hsa q hlq
                    have d0 := (G4.out.fr0 HFW8.out).cell q (by rw [← ESN.out]; exact hlq)
                    have HST : Hid (servedSt p.order p.served (q + 1) = if (servedSt p.order p.served q).1 < placeL p.order (p.served.getD q 0) then (placeL p.order (p.served.getD q 0), (servedSt p.order p.served q).2) else ((servedSt p.order p.served q).1, (servedSt p.order p.served q).2 ++ [⟨6, p.served.getD q 0, (q : Int)⟩])) := Lib.hid (by rw [servedSt])
                    generalize servedSt p.order p.served q = st at HST HL6
                    obtain ⟨la, sl⟩ := st
                    simp only at HST HL6 ⊢
                    generalize p.served.getD q 0 = x at d0 HST
                    have HPL := Lib.hid (fun W (h : Fr [] W7 W) => rplaceB_any _ p.order x W (G3.out.fr0 (HFW6.out.trans h (by simp))))
                    generalize placeL p.order x = at_ at HST HPL
                    have i0 : (0 : Int) ≤ (q : Int) := by omega
                    have i1 : (q : Int) < (sn : Int) := by omega
                    clear hsa
                    go_wp2_with fail
                    have gs0 : Fr [] wr wr.drew := (Fr.refl [] wr).drew
                    have hSs0 : Fr [] wr wr.drew := gs0
                    refine region_held 100 (fun W' => Fr [] wr W') hmx ?_
                    change Held _ _ _ _ _ _ 9 (Array.replicate 9 false) _ _
                    refine hd_take 0 (v := .pointer (some ⟨xb, 3, none⟩)) rfl (by kernel_rfl) (by kernel_rfl) (by kernel_rfl) rfl hSs0 (fun W' hS => by go_simp) rfl ?_
                    refine hd_take 2 (v := .pointer (some ⟨xb, 4, none⟩)) rfl (by kernel_rfl) (by kernel_rfl) (by kernel_rfl) rfl hSs0 (fun W' hS => by go_simp) rfl ?_
                    refine hd_take 4 (v := .int .i64 (q : Int)) rfl (by kernel_rfl) (by kernel_rfl) (by kernel_rfl) rfl hSs0 (fun W' hS => by go_simp) rfl ?_
                    try simp only [Act.put, List.setIfInBounds_toArray, List.set_cons_zero, List.set_cons_succ]
                    refine hd_take 1 (v := .slice oa on oc) rfl (by kernel_rfl) (by kernel_rfl) (by kernel_rfl) rfl hSs0 (fun W' hS => by have s0 := hS.cell c3 (by simp); go_simp) rfl ?_
                    refine hd_take 3 (v := .slice (some ⟨sb, so, none⟩) sn sc) rfl (by kernel_rfl) (by kernel_rfl) (by kernel_rfl) rfl hSs0 (fun W' hS => by have s0 := hS.cell c4 (by simp); go_simp) rfl ?_
                    try simp only [Act.put, List.setIfInBounds_toArray, List.set_cons_zero, List.set_cons_succ]
                    refine hd_take 5 (v := .pointer (some ⟨sb, so + q, none⟩)) rfl (by kernel_rfl) (by kernel_rfl) (by kernel_rfl) rfl hSs0 (fun W' hS => by go_simp) rfl ?_
                    try simp only [Act.put, List.setIfInBounds_toArray, List.set_cons_zero, List.set_cons_succ]
                    refine hd_take 6 (v := .int .i64 x) rfl (by kernel_rfl) (by kernel_rfl) (by kernel_rfl) rfl hSs0 (fun W' hS => by have s0 := hS.cell d0 (by simp); go_simp) rfl ?_
                    try simp only [Act.put, List.setIfInBounds_toArray, List.set_cons_zero, List.set_cons_succ]
                    refine hd_one 7 (by kernel_rfl) rfl (by kernel_rfl) rfl (fun K' hK => ?_)
                    go_simp
                    refine (HPL.out wr.drew (HFR.out.trans gs0 (by simp))).mono ?_
                    rintro e ys1 ⟨rfl, hbb⟩
                    have gs1 : Fr [] wr ys1 := gs0.below hbb gs0.size
                    clear hbb
                    have hSs1 : Fr [] wr ys1 := gs1
                    refine hK.out _ _ (fun _ => hSs1) ?_
                    clear hK K'
                    try simp only [Act.put, List.setIfInBounds_toArray, List.set_cons_zero, List.set_cons_succ]
                    refine hd_one 8 (by kernel_rfl) rfl (by kernel_rfl) rfl (fun K' hK => ?_)
                    go_simp
                    refine hK.out _ _ (fun _ => hSs1) ?_
                    clear hK K'
                    refine held_done (by kernel_rfl) ?_
                    obtain ⟨W8, hW8⟩ : ∃ W, W = ys1 := ⟨_, rfl⟩
                    have f8 : Fr [] wr W8 := by rw [hW8]; exact gs1
                    have HA8 : Hid (Ads W8 u3 l6) := Lib.hid (HAQ.out.fr f8)
                    have HF9 := Lib.hid (HFR.out.trans f8 (by simp))
                    have c4 := f8.cell c4 (by simp)
                    have d0 := f8.cell d0 (by simp)
                    rw [← hW8]
                    clear hW8 f8 c3 gs1 gs0
                    by_cases hpl : la < at_
                    · have t12 : decide (at_ ≤ la) = false := by simp; omega
                      have t13 : decide (la < at_) = true := by simp; omega
                      have HST2 : Hid (servedSt p.order p.served (q + 1) = (at_, sl)) := Lib.hid (by rw [HST.out, if_pos hpl])
                      clear hpl
                      go_wp2_with fail
                      go_roundg (sn + 1 - (q + 1))
                      case measure => have := HGQ.out; omega
                      case rel => exact ⟨q + 1, l6, by omega, rfl, by go_num, by rw [HST2.out], by rw [HST2.out]; exact HL6.out, by have := HLN6.out; omega, HA8.out, HF9.out⟩
                    · have t12 : decide (at_ ≤ la) = true := by simp; omega
                      have t13 : decide (la < at_) = false := by simp; omega
                      have HST2 : Hid (servedSt p.order p.served (q + 1) = (la, sl ++ [⟨6, x, (q : Int)⟩])) := Lib.hid (by rw [HST.out, if_neg hpl])
                      clear hpl
                      go_wp2_with fail
                      refine (radd3_any _ l6 6 x (q : Int) W8 HA8.out (by have := HLN6.out; omega)).mono ?_
                      rintro e w9 ⟨v9, rfl, ha9, hl9, hb⟩
                      have HA9 := Lib.hid ha9
                      have HL9 := Lib.hid hl9
                      have HFE := Lib.hid (HF9.out.below hb HF9.out.size)
                      clear ha9 hl9 hb
                      go_wp2_with fail
                      go_roundg (sn + 1 - (q + 1))
                      case measure => have := HGQ.out; omega
                      case rel => exact ⟨q + 1, _, by omega, rfl, by go_num, by rw [HST2.out], by rw [HST2.out, ← List.append_assoc, sortA_snoc, ← HL6.out], by have := HLN6.out; have := HL9.out; omega, HA9.out, HFE.out⟩
                  · obtain rfl : sn = q := by omega
                    have t11 : decide ((sn : Int) < (sn : Int)) = false := by simp
                    have HRES : Hid (l6 = checkS (clsL p.ents) p) := Lib.hid (by
                      rw [HL6.out, EF4.out, EF3.out, HOQ.out, ESN.out]
                      rfl)
                    clear c3
                    go_wp2_with fail
                    go_ret
                    exact ⟨_, rfl, by rw [← HRES.out]; exact HAQ.out, HFW8.out.toBelow (by simp)⟩
end Go.Proofs.YtjddngbgbbbefaaGreatDoor
namespace Go.Proofs.YtjddngbgbbbefaaGreatDoor
open Go.RowKit
set_option maxRecDepth 100000

/-- The receipt of the entry i: the path, or an error. -/
def rcP (p : Pbl) (i : Int) : List (List UInt8) × Int := if 0 ≤ i ∧ i < (p.ents.length : Int) then (pathL ((textsE p.ents).map leafD) i.toNat, 0) else ([], 1)
theorem rc_of {p : Pbl} {i : Int} {W W' : World} {v : Value} {e : Int} (h1 : (i < 0 ∨ (p.ents.length : Int) ≤ i) → v = .slice none 0 0 ∧ e = 1) (h2 : ∀ k : Nat, i = (k : Int) → k < p.ents.length → e = 0 ∧ OwnS W.heap.size W' v (pathL ((textsE p.ents).map leafD) k)) : e = (rcP p i).2 ∧ Strs W' v (rcP p i).1 := by
  unfold rcP
  by_cases h : 0 ≤ i ∧ i < (p.ents.length : Int)
  · rw [if_pos h]
    obtain ⟨a, b⟩ := h2 i.toNat (by omega) (by omega)
    exact ⟨a, b.strs⟩
  · rw [if_neg h]
    obtain ⟨a, b⟩ := h1 (by omega)
    exact ⟨b, by rw [a]; exact Or.inl ⟨rfl, rfl⟩⟩
theorem rcv_any (v : Value) (p : Pbl) (i : Int) (w : World) (hv : PblR w v p) (hl : EntS p.ents) (hn : p.ents.length ≤ 100000) (hT : Tabs w) (n : Nat) (hr : (rcP p i).1.length = n) :
    Calls Tryz.prog 10 #[v, .int .i64 i] w fun e w' => ∃ ra rc, e = .returned (.tuple #[.slice ra n rc, .int .i64 (rcP p i).2]) ∧ Strs w' (.slice ra n rc) (rcP p i).1 ∧ Below w.heap.size w w' :=
  (receipt_any v p i w hv hl hn hT).mono fun e w' ⟨v', e', he, h1, h2, h3⟩ => by
    obtain ⟨k1, k2⟩ := rc_of h1 h2
    obtain ⟨ra, rc, rfl, _, _⟩ := k2.form
    rw [hr] at he k2
    exact ⟨ra, rc, by rw [he, k1], k2, h3⟩
theorem rrcv_any (v : Value) (p : Pbl) (i : Int) (w : World) (hv : PblR w v p) (hl : EntS p.ents) (hn : p.ents.length ≤ 100000) (n : Nat) (hr : (rcP p i).1.length = n) :
    Calls Tryz.prog 11 #[v, .int .i64 i] w fun e w' => ∃ ra rc, e = .returned (.tuple #[.slice ra n rc, .int .i64 (rcP p i).2]) ∧ Strs w' (.slice ra n rc) (rcP p i).1 ∧ Below w.heap.size w w' :=
  (rreceipt_any v p i w hv hl hn).mono fun e w' ⟨v', e', he, h1, h2, h3⟩ => by
    obtain ⟨k1, k2⟩ := rc_of h1 h2
    obtain ⟨ra, rc, rfl, _, _⟩ := k2.form
    rw [hr] at he k2
    exact ⟨ra, rc, by rw [he, k1], k2, h3⟩
theorem rc_small (p : Pbl) (i : Int) : ∀ s ∈ (rcP p i).1, s.length ≤ 1000000 := by
  unfold rcP
  split
  · exact path_small _ _ (fun t ht => by obtain ⟨u, _, rfl⟩ := List.mem_map.1 ht; unfold leafD dlist; rw [dsum_length]; decide)
  · intro s hs; cases hs
theorem rinclB_any (root : List UInt8) (n i : Int) (p : Pty) (pv : Value) (path : List (List UInt8)) (w : World) (b : Bool) (hn : -9223372036854775808 ≤ n ∧ n < 9223372036854775808) (hi : -9223372036854775808 ≤ i ∧ i < 9223372036854775808)
    (h0 : p.name.length ≤ 1000000) (h1 : p.com.length ≤ 1000000) (h2 : p.rev.length ≤ 1000000) (hp : Strs w pv path) (hps : ∀ s ∈ path, s.length ≤ 1000000) (hb : (validB p && chkB root n i (textS p) path) = b) :
    Calls Tryz.prog 18 #[.string ⟨root.toArray⟩, .int .i64 n, .int .i64 i, ptyV p, pv] w fun e w' => e = .returned (.bool b) ∧ Below w.heap.size w w' := (rincluded_any root n i p pv path w hn hi h0 h1 h2 hp hps).mono fun e w' h => ⟨by rw [h.1, hb], h.2⟩
theorem pubN_any (ev pv : Value) (es ps : List Pty) (w : World) (he : Pts w ev es) (hp : Pts w pv ps) (hl : EntS es) (hn : es.length ≤ 100000) (hpn : ps.length ≤ 100000) (hps : ∀ p ∈ ps, p.name.length ≤ 1000000 ∧ p.rev.length ≤ 1000000) (hT : Tabs w)
    (P : Pbl) (er : Int) (hP : pubS (clsL es) es ps = (P, er)) (n m on sn : Nat) (h1 : P.ents.length = n) (h2 : P.parts.length = m) (h3 : P.order.length = on) (h4 : P.served.length = sn) :
    Calls Tryz.prog 8 #[ev, pv] w fun e w' => ∃ ea ec pa pc oa oc sa sc, e = .returned (.tuple #[.agg #[.slice ea n ec, .string ⟨P.root.toArray⟩, .slice pa m pc, .slice oa on oc, .slice sa sn sc], .int .i64 er]) ∧
      PblR w' (.agg #[.slice ea n ec, .string ⟨P.root.toArray⟩, .slice pa m pc, .slice oa on oc, .slice sa sn sc]) P ∧ Below w.heap.size w w' :=
  (publish_any ev pv es ps w he hp hl hn hpn hps hT).mono fun e w' ⟨v, he, hr, hb⟩ => by
    rw [hP] at he hr
    obtain ⟨ea, ec, pa, pc, oa, oc, sa, sc, rfl, _⟩ := hr.form
    rw [h1, h2, h3, h4] at he hr
    exact ⟨ea, ec, pa, pc, oa, oc, sa, sc, he, hr, hb⟩
theorem rpubN_any (ev pv : Value) (es ps : List Pty) (w : World) (he : Pts w ev es) (hp : Pts w pv ps) (hl : EntS es) (hn : es.length ≤ 100000) (hps : ∀ p ∈ ps, p.name.length ≤ 1000000 ∧ p.rev.length ≤ 1000000)
    (P : Pbl) (er : Int) (hP : pubS (clsL es) es ps = (P, er)) (n m on sn : Nat) (h1 : P.ents.length = n) (h2 : P.parts.length = m) (h3 : P.order.length = on) (h4 : P.served.length = sn) :
    Calls Tryz.prog 9 #[ev, pv] w fun e w' => ∃ ea ec pa pc oa oc sa sc, e = .returned (.tuple #[.agg #[.slice ea n ec, .string ⟨P.root.toArray⟩, .slice pa m pc, .slice oa on oc, .slice sa sn sc], .int .i64 er]) ∧
      PblR w' (.agg #[.slice ea n ec, .string ⟨P.root.toArray⟩, .slice pa m pc, .slice oa on oc, .slice sa sn sc]) P ∧ Below w.heap.size w w' :=
  (rpublish_any ev pv es ps w he hp hl hn hps).mono fun e w' ⟨v, he, hr, hb⟩ => by
    rw [hP] at he hr
    obtain ⟨ea, ec, pa, pc, oa, oc, sa, sc, rfl, _⟩ := hr.form
    rw [h1, h2, h3, h4] at he hr
    exact ⟨ea, ec, pa, pc, oa, oc, sa, sc, he, hr, hb⟩
theorem rchkN_any (v : Value) (p : Pbl) (L : List Aud) (n : Nat) (w : World) (hv : PblR w v p) (hs : PblS p) (hL : checkS (clsL p.ents) p = L) (hn : L.length = n) :
    Calls Tryz.prog 15 #[v] w fun e w' => ∃ ca cc, e = .returned (.slice ca n cc) ∧ Ads w' (.slice ca n cc) L ∧ Below w.heap.size w w' := (rcheck20_any v p w hv hs).mono fun e w' ⟨v', he, ha, hb⟩ => by
  rw [hL] at ha
  obtain ⟨x, c, e', _⟩ := ha.form
  rw [hn] at e'
  subst e'
  exact ⟨x, c, he, ha, hb⟩
theorem few60 {l : List (List UInt8)} (h : fewB l 60 = true) : ∀ s ∈ l, s.length ≤ 1000000 := by
  simp only [fewB, Bool.and_eq_true, List.all_eq_true, decide_eq_true_eq] at h
  exact fun s hs => Nat.le_trans (h.1 s hs) (by decide)

set_option maxHeartbeats 32000000 in
theorem auditMatchesReference_any (v : Value) (p : Pbl) (i : Int) (pv : Value) (path : List (List UInt8)) (w : World) (hi : -9223372036854775808 ≤ i ∧ i < 9223372036854775808) (hT : Tabs w) (hv : PblR w v p) (ho : ∀ k ∈ p.order, inI k) (hs : ∀ k ∈ p.served, inI k) (hpv : Strs w pv path) :
    Calls Tryz.prog 3 #[v, .int .i64 i, pv] w fun e w' => e = .returned (.bool true) ∧ Below w.heap.size w w' := by
  have hmx : Tryz.prog.follows .mixedOrders = true := by kernel_rfl
  have HT := Lib.hid hT
  have HI := Lib.hid hi
  have HV := Lib.hid (fun W (h : Fr [] w W) => hv.fr h)
  obtain ⟨ea, ec, pa, pc, oa, oc, sa, sc, rfl, g1, g2, g3, g4⟩ := hv.form
  have HQV := Lib.hid (fun W (h : Fr [] w W) => hpv.fr0 h)
  obtain ⟨qa, qc, rfl, _, _⟩ := hpv.form
  obtain ⟨qn, eqn⟩ : ∃ q, q = path.length := ⟨_, rfl⟩
  obtain ⟨n, en⟩ : ∃ q, q = p.ents.length := ⟨_, rfl⟩
  obtain ⟨m, em⟩ : ∃ q, q = p.parts.length := ⟨_, rfl⟩
  obtain ⟨on, eon⟩ : ∃ q, q = p.order.length := ⟨_, rfl⟩
  obtain ⟨sn, esn⟩ : ∃ q, q = p.served.length := ⟨_, rfl⟩
  obtain ⟨R, eR⟩ : ∃ q, q = p.root := ⟨_, rfl⟩
  have hea : ∀ i, i < n → ∃ b off, ea = some ⟨b, off, none⟩ := by
    obtain ⟨a, c, hv, _, _, h⟩ := g1.form
    cases hv
    intro i hi; exact h i (by rw [← en]; exact hi)
  rw [← eqn] at HQV ⊢
  rw [← en] at g1 HV ⊢
  rw [← em] at g2 HV ⊢
  rw [← eon] at HV ⊢
  rw [← esn] at HV ⊢
  rw [← eR] at HV ⊢
  have HG1 := Lib.hid (fun W (h : Fr [] w W) => g1.fr h)
  have HG2 := Lib.hid (fun W (h : Fr [] w W) => g2.fr h)
  have HFEW := Lib.hid (fun W (h : Fr [] w W) => few20_any _ p 20 W (HV.out W h))
  have HFP := Lib.hid (fun W (h : Fr [] w W) => few_any _ path 60 W (HQV.out W h))
  have EN := Lib.hid en
  have EM := Lib.hid em
  have HIO := Lib.hid ho
  have HIS := Lib.hid hs
  clear hv hT hi hpv g1 g2 g3 g4 ho hs en em eon esn eR eqn
  obtain ⟨W0, hW0⟩ : ∃ W, W = w.alloc (.cells #[.slice ea n ec, .string ⟨R.toArray⟩, .slice pa m pc, .slice oa on oc, .slice sa sn sc] 26) := ⟨_, rfl⟩
  obtain ⟨xb, exb⟩ : ∃ q, q = w.heap.size := ⟨_, rfl⟩
  have f0 : Fr [] w W0 := by rw [hW0]; exact (Fr.refl [] w).alloc _
  have hx0 : W0.heap[xb]? = some (.cells #[.slice ea n ec, .string ⟨R.toArray⟩, .slice pa m pc, .slice oa on oc, .slice sa sn sc] 26 (0, 0)) := by rw [hW0]; exact heap_new exb
  have HX0 := Lib.hid hx0
  have HF0 := Lib.hid f0
  clear f0 hx0
  go_enter Tryz.func3, Tryz.ntmps3
  go_wp2_with fail
  rw [← hW0, ← exb]
  clear hW0 exb
  refine (head20_any W0 (HT.out.fr HF0.out)).mono ?_
  rintro e w1 ⟨rfl, hb⟩
  have HF1 := Lib.hid (Fr.ofBelow (X := []) hb)
  have hX := HF1.out.at HX0.out (by simp)
  have P0 := row_cell hX 0
  have P1 := row_cell hX 1
  have P2 := row_cell hX 2
  have P3 := row_cell hX 3
  have P4 := row_cell hX 4
  simp at P0 P1 P2 P3 P4
  clear hb hX
  go_wp2_with fail
  refine (HFEW.out w1 (HF0.out.trans HF1.out (by simp))).mono ?_
  rintro e w2 ⟨rfl, hb⟩
  have HF2 := Lib.hid (HF1.out.below hb HF1.out.size)
  have HFW2 := Lib.hid (HF0.out.trans HF2.out (by simp))
  clear hb HFEW P0 P1 P2 P3 P4
  obtain ⟨fb, efb⟩ : ∃ q, q = few20B p 20 := ⟨_, rfl⟩
  rw [← efb]
  cases fb with
  | false =>
    clear efb
    go_wp2_with fail
    go_ret
    exact ⟨rfl, HFW2.out.toBelow (by simp)⟩
  | true =>
  have HOK := Lib.hid (few20_ok efb.symm HIO.out HIS.out)
  clear efb
  have HEN : Hid (n ≤ 20) := Lib.hid (by rw [EN.out]; exact HOK.out.2.1)
  have HPN : Hid (m ≤ 20) := Lib.hid (by rw [EM.out]; exact HOK.out.2.2.1)
  by_cases h20 : 20 < qn
  · have t1 : decide ((20 : Int) < (qn : Int)) = true := by simp; omega
    clear h20
    go_wp2_with fail
    go_ret
    exact ⟨rfl, HFW2.out.toBelow (by simp)⟩
  have t1 : decide ((20 : Int) < (qn : Int)) = false := by simp; omega
  clear h20
  go_wp2_with fail
  refine (HFP.out w2 HFW2.out).mono ?_
  rintro e w3 ⟨rfl, hb⟩
  have HF3 := Lib.hid (HF2.out.below hb HF2.out.size)
  have HFW3 := Lib.hid (HF0.out.trans HF3.out (by simp))
  clear hb HFP
  obtain ⟨fp, efp⟩ : ∃ q, q = fewB path 60 := ⟨_, rfl⟩
  rw [← efp]
  cases fp with
  | false =>
    clear efp
    go_wp2_with fail
    go_ret
    exact ⟨rfl, HFW3.out.toBelow (by simp)⟩
  | true =>
  have HPT := Lib.hid (few60 efp.symm)
  clear efp
  obtain ⟨Pb, er, hP⟩ : ∃ a b, pubS (clsL p.ents) p.ents p.parts = (a, b) := ⟨_, _, rfl⟩
  obtain ⟨n1, e1⟩ : ∃ q, q = Pb.ents.length := ⟨_, rfl⟩
  obtain ⟨n2, e2⟩ : ∃ q, q = Pb.parts.length := ⟨_, rfl⟩
  obtain ⟨n3, e3⟩ : ∃ q, q = Pb.order.length := ⟨_, rfl⟩
  obtain ⟨n4, e4⟩ : ∃ q, q = Pb.served.length := ⟨_, rfl⟩
  have hne : n1 ≤ 100000 ∧ n2 ≤ 100000 := by
    have h := HOK.out
    rw [e1, e2]
    have hz : Pb = zeroPb ∨ (Pb.ents = p.ents ∧ Pb.parts = p.parts) := by
      rcases pub_two (clsL p.ents) p.ents p.parts with ⟨P', h1, _, h2, h3, _⟩ | hbad
      · rw [hP] at h1
        cases h1
        exact Or.inr ⟨h2, h3⟩
      · have := pub_bad hbad
        rw [hP] at this
        exact Or.inl this
    rcases hz with rfl | ⟨h2, h3⟩
    · exact ⟨by decide, by decide⟩
    · rw [h2, h3]
      exact ⟨by omega, by omega⟩
  have HNE := Lib.hid hne
  have HPA := Lib.hid (fun W (h : Fr [] w W) => pubN_any _ _ p.ents p.parts W (HG1.out W h) (HG2.out W h) HOK.out.1.e (by have := HOK.out.2.1; omega) (by have := HOK.out.2.2.1; omega) HOK.out.1.p (HT.out.fr h) Pb er hP n1 n2 n3 n4 e1.symm e2.symm e3.symm e4.symm)
  have HPB := Lib.hid (fun W (h : Fr [] w W) => rpubN_any _ _ p.ents p.parts W (HG1.out W h) (HG2.out W h) HOK.out.1.e (by have := HOK.out.2.1; omega) HOK.out.1.p Pb er hP n1 n2 n3 n4 e1.symm e2.symm e3.symm e4.symm)
  obtain ⟨R1, eR1⟩ : ∃ q, q = Pb.root := ⟨_, rfl⟩
  rw [← eR1] at HPA HPB
  have E1 := Lib.hid e1
  have E2 := Lib.hid e2
  clear hP e1 e2 e3 e4 eR1 hne
  have hX := HF3.out.at HX0.out (by simp)
  have P0 := row_cell hX 0
  have P2 := row_cell hX 2
  simp at P0 P2
  clear hX
  go_wp2_with fail
  refine (HPA.out w3 HFW3.out).mono ?_
  rintro e w4 ⟨a1, c1, a2, c2, a3, c3, a4, c4, rfl, hra, hb⟩
  have f4 := Fr.ofBelow (X := []) hb
  obtain ⟨W4, hW4⟩ : ∃ W, W = w4.alloc (.cells #[.slice a1 n1 c1, .string ⟨R1.toArray⟩, .slice a2 n2 c2, .slice a3 n3 c3, .slice a4 n4 c4] 26) := ⟨_, rfl⟩
  obtain ⟨ab, eab⟩ : ∃ q, q = w4.heap.size := ⟨_, rfl⟩
  have f44 : Fr [] w4 W4 := by rw [hW4]; exact (Fr.refl [] w4).alloc _
  have hab : W4.heap[ab]? = some (.cells #[.slice a1 n1 c1, .string ⟨R1.toArray⟩, .slice a2 n2 c2, .slice a3 n3 c3, .slice a4 n4 c4] 26 (0, 0)) := by rw [hW4]; exact heap_new eab
  have HAB := Lib.hid hab
  have HRA := Lib.hid (hra.fr f44)
  have HF4 := Lib.hid (HF3.out.trans (f4.trans f44 (by simp)) (by simp))
  have HFW4 := Lib.hid (HF0.out.trans HF4.out (by simp))
  have hX := HF4.out.at HX0.out (by simp)
  have P0 := row_cell hX 0
  have P2 := row_cell hX 2
  simp at P0 P2
  rw [hW4] at P0 P2
  have E4 := Lib.hid hW4
  have EAB := Lib.hid eab
  clear hX hb f4 f44 hab hra hW4 eab HPA
  go_wp2_with fail
  rw [← E4.out, ← EAB.out]
  refine (HPB.out W4 HFW4.out).mono ?_
  rintro e w5 ⟨b1, d1, b2, d2, b3, d3, b4, d4, rfl, hrb, hb⟩
  have f5 := Fr.ofBelow (X := []) hb
  obtain ⟨W5, hW5⟩ : ∃ W, W = w5.alloc (.cells #[.slice b1 n1 d1, .string ⟨R1.toArray⟩, .slice b2 n2 d2, .slice b3 n3 d3, .slice b4 n4 d4] 26) := ⟨_, rfl⟩
  obtain ⟨bb, ebb⟩ : ∃ q, q = w5.heap.size := ⟨_, rfl⟩
  have f55 : Fr [] w5 W5 := by rw [hW5]; exact (Fr.refl [] w5).alloc _
  have hbk : W5.heap[bb]? = some (.cells #[.slice b1 n1 d1, .string ⟨R1.toArray⟩, .slice b2 n2 d2, .slice b3 n3 d3, .slice b4 n4 d4] 26 (0, 0)) := by rw [hW5]; exact heap_new ebb
  have HBK := Lib.hid hbk
  have HRB := Lib.hid (hrb.fr f55)
  have HF45 := Lib.hid (f5.trans f55 (by simp))
  have HF5 := Lib.hid (HF4.out.trans HF45.out (by simp))
  have HFW5 := Lib.hid (HF0.out.trans HF5.out (by simp))
  have hX := HF5.out.at HX0.out (by simp)
  have P0 := row_cell hX 0
  have P1 := row_cell hX 1
  have P2 := row_cell hX 2
  have P3 := row_cell hX 3
  have P4 := row_cell hX 4
  simp at P0 P1 P2 P3 P4
  rw [hW5] at P0 P1 P2 P3 P4
  have E5 := Lib.hid hW5
  have EBB := Lib.hid ebb
  clear hX hb f5 f55 hbk hrb hW5 ebb HPB
  obtain ⟨rn, ern⟩ : ∃ q, q = (rcP p i).1.length := ⟨_, rfl⟩
  have HRC := Lib.hid (fun W (h : Fr [] w W) => rcv_any _ p i W (HV.out W h) HOK.out.1.e (by have := HOK.out.2.1; omega) (HT.out.fr h) rn ern.symm)
  have HRD := Lib.hid (fun W (h : Fr [] w W) => rrcv_any _ p i W (HV.out W h) HOK.out.1.e (by have := HOK.out.2.1; omega) rn ern.symm)
  have HRS := Lib.hid (rc_small p i)
  obtain ⟨RL, rer, hRL⟩ : ∃ a b, rcP p i = (a, b) := ⟨_, _, rfl⟩
  rw [hRL] at HRC HRD HRS
  simp only at HRC HRD HRS
  clear ern hRL
  go_wp2_with fail
  rw [← E5.out, ← EBB.out]
  refine (HRC.out W5 HFW5.out).mono ?_
  rintro e w6 ⟨ra, rc, rfl, hrs, hb⟩
  have f6 := Fr.ofBelow (X := []) hb
  have HF56 := Lib.hid f6
  have HF6 := Lib.hid (HF5.out.trans f6 (by simp))
  have HFW6 := Lib.hid (HF0.out.trans HF6.out (by simp))
  have HRS6 := Lib.hid hrs
  have hX := HF6.out.at HX0.out (by simp)
  have P0 := row_cell hX 0
  have P1 := row_cell hX 1
  have P2 := row_cell hX 2
  have P3 := row_cell hX 3
  have P4 := row_cell hX 4
  simp at P0 P1 P2 P3 P4
  clear hX hb f6 hrs HRC
  go_wp2_with fail
  refine (HRD.out w6 HFW6.out).mono ?_
  rintro e W7 ⟨ta, tc, rfl, hts, hb⟩
  have f7 := Fr.ofBelow (X := []) hb
  have HF7 := Lib.hid (HF6.out.trans f7 (by simp))
  have HFW7 := Lib.hid (HF0.out.trans HF7.out (by simp))
  have HRS7 := Lib.hid (HRS6.out.fr0 f7)
  have HTS7 := Lib.hid hts
  have hX := HF7.out.at HX0.out (by simp)
  have P0 := row_cell hX 0
  have P1 := row_cell hX 1
  have P2 := row_cell hX 2
  have P3 := row_cell hX 3
  have P4 := row_cell hX 4
  simp at P0 P1 P2 P3 P4
  have f57 := HF56.out.trans f7 (by simp)
  have f47 := HF45.out.trans f57 (by simp)
  have hA := f47.at HAB.out (by simp)
  have A0 := row_cell hA 0
  have A1 := row_cell hA 1
  have A2 := row_cell hA 2
  have A3 := row_cell hA 3
  have A4 := row_cell hA 4
  simp at A0 A1 A2 A3 A4
  have hB := f57.at HBK.out (by simp)
  have B0 := row_cell hB 0
  have B1 := row_cell hB 1
  have B2 := row_cell hB 2
  have B3 := row_cell hB 3
  have B4 := row_cell hB 4
  simp at B0 B1 B2 B3 B4
  have HRA7 := Lib.hid (HRA.out.fr f47)
  have HRB7 := Lib.hid (HRB.out.fr f57)
  have HSR := Lib.hid (fun W (h : Fr [] W7 W) => rsameP_any _ _ Pb W (HRA7.out.fr h) (HRB7.out.fr h) (by rw [← E1.out]; exact HNE.out.1) (by rw [← E2.out]; exact HNE.out.2))
  obtain ⟨LC, eLC⟩ : ∃ q, q = checkS (clsL p.ents) p := ⟨_, rfl⟩
  obtain ⟨lcn, elcn⟩ : ∃ q, q = LC.length := ⟨_, rfl⟩
  have HCA := Lib.hid (fun W (h : Fr [] W7 W) => chkN_any _ p LC lcn W (HV.out W (HFW7.out.trans h (by simp))) HOK.out.1 (HT.out.fr (HFW7.out.trans h (by simp))) eLC.symm elcn.symm)
  have HCB := Lib.hid (fun W (h : Fr [] W7 W) => rchkN_any _ p LC lcn W (HV.out W (HFW7.out.trans h (by simp))) HOK.out.1 eLC.symm elcn.symm)
  have HS2 := Lib.hid (fun W (h : Fr [] W7 W) => rsame2_any _ _ RL RL W (HRS7.out.fr0 h) (HTS7.out.fr0 h))
  rw [show decide (RL = RL) = true by simp] at HS2
  clear hX hb f7 hts HRD eLC elcn f57 f47 hA hB
  go_wp2_with fail
  have gp0 : Fr [] W7 W7.drew := (Fr.refl [] W7).drew
  have hSp0 : Fr [] W7 W7.drew := gp0
  refine region_held 100 (fun W' => Fr [] W7 W') hmx ?_
  change Held _ _ _ _ _ _ 28 (Array.replicate 28 false) _ _
  refine hd_take 0 (v := .int .i64 er) rfl (by kernel_rfl) (by kernel_rfl) (by kernel_rfl) rfl hSp0 (fun W' hS => by go_simp) rfl ?_
  refine hd_take 1 (v := .int .i64 er) rfl (by kernel_rfl) (by kernel_rfl) (by kernel_rfl) rfl hSp0 (fun W' hS => by go_simp) rfl ?_
  try simp only [Act.put, List.setIfInBounds_toArray, List.set_cons_zero, List.set_cons_succ]
  refine hd_take 2 (v := .bool false) rfl (by kernel_rfl) (by kernel_rfl) (by kernel_rfl) rfl hSp0 (fun W' hS => by go_simp) rfl ?_
  try simp only [Act.put, List.setIfInBounds_toArray, List.set_cons_zero, List.set_cons_succ]
  refine hd_take 3 (v := .bool false) rfl (by kernel_rfl) (by kernel_rfl) (by kernel_rfl) rfl hSp0 (fun W' hS => by go_simp) rfl ?_
  try simp only [Act.put, List.setIfInBounds_toArray, List.set_cons_zero, List.set_cons_succ]
  refine hd_take 4 (v := .agg #[.slice a1 n1 c1, .string ⟨R1.toArray⟩, .slice a2 n2 c2, .slice a3 n3 c3, .slice a4 n4 c4]) rfl (by kernel_rfl) (by kernel_rfl) (by kernel_rfl) rfl hSp0 (fun W' hS => by have s0 := hS.cell A0 (by simp); have s1 := hS.cell A1 (by simp); have s2 := hS.cell A2 (by simp); have s3 := hS.cell A3 (by simp); have s4 := hS.cell A4 (by simp); go_simp) rfl ?_
  refine hd_take 5 (v := .agg #[.slice b1 n1 d1, .string ⟨R1.toArray⟩, .slice b2 n2 d2, .slice b3 n3 d3, .slice b4 n4 d4]) rfl (by kernel_rfl) (by kernel_rfl) (by kernel_rfl) rfl hSp0 (fun W' hS => by have s0 := hS.cell B0 (by simp); have s1 := hS.cell B1 (by simp); have s2 := hS.cell B2 (by simp); have s3 := hS.cell B3 (by simp); have s4 := hS.cell B4 (by simp); go_simp) rfl ?_
  try simp only [Act.put, List.setIfInBounds_toArray, List.set_cons_zero, List.set_cons_succ]
  refine hd_one 6 (by kernel_rfl) rfl (by kernel_rfl) rfl (fun K' hK => ?_)
  go_simp
  refine (HSR.out W7.drew gp0).mono ?_
  rintro e yp1 ⟨rfl, hbb⟩
  have gp1 : Fr [] W7 yp1 := gp0.below hbb gp0.size
  clear hbb
  have hSp1 : Fr [] W7 yp1 := gp1
  refine hK.out _ _ (fun _ => hSp1) ?_
  clear hK K'
  try simp only [Act.put, List.setIfInBounds_toArray, List.set_cons_zero, List.set_cons_succ]
  refine hd_take 7 (v := .bool false) rfl (by kernel_rfl) (by kernel_rfl) (by kernel_rfl) rfl hSp1 (fun W' hS => by go_simp) rfl ?_
  try simp only [Act.put, List.setIfInBounds_toArray, List.set_cons_zero, List.set_cons_succ]
  refine hd_take 8 (v := .bool false) rfl (by kernel_rfl) (by kernel_rfl) (by kernel_rfl) rfl hSp1 (fun W' hS => by go_simp) rfl ?_
  try simp only [Act.put, List.setIfInBounds_toArray, List.set_cons_zero, List.set_cons_succ]
  refine hd_take 9 (v := .bool false) rfl (by kernel_rfl) (by kernel_rfl) (by kernel_rfl) rfl hSp1 (fun W' hS => by go_simp) rfl ?_
  try simp only [Act.put, List.setIfInBounds_toArray, List.set_cons_zero, List.set_cons_succ]
  refine hd_take 10 (v := .agg #[.slice ea n ec, .string ⟨R.toArray⟩, .slice pa m pc, .slice oa on oc, .slice sa sn sc]) rfl (by kernel_rfl) (by kernel_rfl) (by kernel_rfl) rfl hSp1 (fun W' hS => by have s0 := hS.cell P0 (by simp); have s1 := hS.cell P1 (by simp); have s2 := hS.cell P2 (by simp); have s3 := hS.cell P3 (by simp); have s4 := hS.cell P4 (by simp); go_simp) rfl ?_
  refine hd_take 12 (v := .agg #[.slice ea n ec, .string ⟨R.toArray⟩, .slice pa m pc, .slice oa on oc, .slice sa sn sc]) rfl (by kernel_rfl) (by kernel_rfl) (by kernel_rfl) rfl hSp1 (fun W' hS => by have s0 := hS.cell P0 (by simp); have s1 := hS.cell P1 (by simp); have s2 := hS.cell P2 (by simp); have s3 := hS.cell P3 (by simp); have s4 := hS.cell P4 (by simp); go_simp) rfl ?_
  try simp only [Act.put, List.setIfInBounds_toArray, List.set_cons_zero, List.set_cons_succ]
  refine hd_one 11 (by kernel_rfl) rfl (by kernel_rfl) rfl (fun K' hK => ?_)
  go_simp
  refine (HCA.out yp1 gp1).mono ?_
  rintro e yp2 ⟨ca, cc, rfl, hads, hbb⟩
  have gp2 : Fr [] W7 yp2 := gp1.below hbb gp1.size
  have HC1 := Lib.hid hads
  clear hads
  clear hbb
  have hSp2 : Fr [] W7 yp2 := gp2
  refine hK.out _ _ (fun _ => hSp2) ?_
  clear hK K'
  try simp only [Act.put, List.setIfInBounds_toArray, List.set_cons_zero, List.set_cons_succ]
  refine hd_one 13 (by kernel_rfl) rfl (by kernel_rfl) rfl (fun K' hK => ?_)
  go_simp
  refine (HCB.out yp2 gp2).mono ?_
  rintro e yp3 ⟨cb, cd, rfl, hads, hbb⟩
  have gp3 : Fr [] W7 yp3 := gp2.below hbb gp2.size
  have HC2 := Lib.hid hads
  have HC1 := Lib.hid (HC1.out.fr (Fr.ofBelow hbb))
  clear hads
  clear hbb
  have hSp3 : Fr [] W7 yp3 := gp3
  refine hK.out _ _ (fun _ => hSp3) ?_
  clear hK K'
  try simp only [Act.put, List.setIfInBounds_toArray, List.set_cons_zero, List.set_cons_succ]
  refine hd_one 14 (by kernel_rfl) rfl (by kernel_rfl) rfl (fun K' hK => ?_)
  go_simp
  refine (rsameT_any _ _ _ yp3 HC1.out HC2.out).mono ?_
  rintro e yp4 ⟨rfl, hbb⟩
  have gp4 : Fr [] W7 yp4 := gp3.below hbb gp3.size
  clear hbb
  have hSp4 : Fr [] W7 yp4 := gp4
  refine hK.out _ _ (fun _ => hSp4) ?_
  clear hK K'
  try simp only [Act.put, List.setIfInBounds_toArray, List.set_cons_zero, List.set_cons_succ]
  refine hd_take 15 (v := .bool false) rfl (by kernel_rfl) (by kernel_rfl) (by kernel_rfl) rfl hSp4 (fun W' hS => by go_simp) rfl ?_
  try simp only [Act.put, List.setIfInBounds_toArray, List.set_cons_zero, List.set_cons_succ]
  refine hd_take 16 (v := .bool false) rfl (by kernel_rfl) (by kernel_rfl) (by kernel_rfl) rfl hSp4 (fun W' hS => by go_simp) rfl ?_
  try simp only [Act.put, List.setIfInBounds_toArray, List.set_cons_zero, List.set_cons_succ]
  refine hd_take 17 (v := .bool false) rfl (by kernel_rfl) (by kernel_rfl) (by kernel_rfl) rfl hSp4 (fun W' hS => by go_simp) rfl ?_
  try simp only [Act.put, List.setIfInBounds_toArray, List.set_cons_zero, List.set_cons_succ]
  refine hd_take 18 (v := .int .i64 rer) rfl (by kernel_rfl) (by kernel_rfl) (by kernel_rfl) rfl hSp4 (fun W' hS => by go_simp) rfl ?_
  refine hd_take 19 (v := .int .i64 rer) rfl (by kernel_rfl) (by kernel_rfl) (by kernel_rfl) rfl hSp4 (fun W' hS => by go_simp) rfl ?_
  try simp only [Act.put, List.setIfInBounds_toArray, List.set_cons_zero, List.set_cons_succ]
  refine hd_take 20 (v := .bool false) rfl (by kernel_rfl) (by kernel_rfl) (by kernel_rfl) rfl hSp4 (fun W' hS => by go_simp) rfl ?_
  try simp only [Act.put, List.setIfInBounds_toArray, List.set_cons_zero, List.set_cons_succ]
  refine hd_take 21 (v := .bool false) rfl (by kernel_rfl) (by kernel_rfl) (by kernel_rfl) rfl hSp4 (fun W' hS => by go_simp) rfl ?_
  try simp only [Act.put, List.setIfInBounds_toArray, List.set_cons_zero, List.set_cons_succ]
  refine hd_take 22 (v := .bool false) rfl (by kernel_rfl) (by kernel_rfl) (by kernel_rfl) rfl hSp4 (fun W' hS => by go_simp) rfl ?_
  try simp only [Act.put, List.setIfInBounds_toArray, List.set_cons_zero, List.set_cons_succ]
  refine hd_take 23 (v := .slice ra rn rc) rfl (by kernel_rfl) (by kernel_rfl) (by kernel_rfl) rfl hSp4 (fun W' hS => by go_simp) rfl ?_
  refine hd_take 24 (v := .slice ta rn tc) rfl (by kernel_rfl) (by kernel_rfl) (by kernel_rfl) rfl hSp4 (fun W' hS => by go_simp) rfl ?_
  try simp only [Act.put, List.setIfInBounds_toArray, List.set_cons_zero, List.set_cons_succ]
  refine hd_one 25 (by kernel_rfl) rfl (by kernel_rfl) rfl (fun K' hK => ?_)
  go_simp
  refine (HS2.out yp4 gp4).mono ?_
  rintro e yp5 ⟨rfl, hbb⟩
  have gp5 : Fr [] W7 yp5 := gp4.below hbb gp4.size
  clear hbb
  have hSp5 : Fr [] W7 yp5 := gp5
  refine hK.out _ _ (fun _ => hSp5) ?_
  clear hK K'
  try simp only [Act.put, List.setIfInBounds_toArray, List.set_cons_zero, List.set_cons_succ]
  refine hd_take 26 (v := .bool false) rfl (by kernel_rfl) (by kernel_rfl) (by kernel_rfl) rfl hSp5 (fun W' hS => by go_simp) rfl ?_
  try simp only [Act.put, List.setIfInBounds_toArray, List.set_cons_zero, List.set_cons_succ]
  refine hd_take 27 (v := .bool false) rfl (by kernel_rfl) (by kernel_rfl) (by kernel_rfl) rfl hSp5 (fun W' hS => by go_simp) rfl ?_
  try simp only [Act.put, List.setIfInBounds_toArray, List.set_cons_zero, List.set_cons_succ]
  refine held_done (by kernel_rfl) ?_
  have HF8 := Lib.hid (HF7.out.trans gp5 (by simp))
  have HF78 := Lib.hid gp5
  have HFW8 := Lib.hid (HF0.out.trans HF8.out (by simp))
  obtain ⟨W8, hW8⟩ : ∃ W, W = yp5 := ⟨_, rfl⟩
  rw [← hW8] at HF8 HF78 HFW8 ⊢
  have HRS8 := Lib.hid (HRS7.out.fr0 HF78.out)
  have HTS8 := Lib.hid (HTS7.out.fr0 HF78.out)
  clear hW8 P0 P1 P2 P3 P4 A0 A1 A2 A3 A4 B0 B1 B2 B3 B4 HC1 HC2 gp0 gp5 HSR HCA HCB HS2
  go_wp2_with fail
  go_loopg [16] (n + 1) (fun gh kv wr => ∃ k : Nat, k ≤ n ∧ gh = n + 1 - k ∧ kv = .int .i64 (k : Int) ∧ Fr [] W8 wr)
  case atStart => exact ⟨0, by omega, by omega, rfl, Fr.refl _ _⟩
  case round =>
    obtain ⟨k, hk, hgh, rfl, hfr⟩ := hrel
    have HG := Lib.hid hgh
    have HFR := Lib.hid hfr
    have HFW9 := Lib.hid (HFW8.out.trans hfr (by simp))
    have hX := (HF8.out.trans hfr (by simp)).at HX0.out (by simp)
    have c0 := row_cell hX 0
    have c1 := row_cell hX 1
    simp at c0 c1
    clear hgh hfr hX
    by_cases hlt : k < n
    · have hn20 : n ≤ 20 := HEN.out
      have t2 : decide ((k : Int) < (n : Int)) = true := by simp; omega
      obtain ⟨eb, eo, rfl⟩ := hea k hlt
      obtain ⟨x, hx⟩ : ∃ x, p.ents[k]? = some x := ⟨p.ents[k]'(by rw [← EN.out]; exact hlt), List.getElem?_eq_getElem _⟩
      obtain ⟨x0, x1, x2⟩ := (HG1.out wr HFW9.out).cells k x hx
      have hxs := HOK.out.1.e x (List.mem_of_getElem? hx)
      have hkb : -9223372036854775808 ≤ (k : Int) ∧ (k : Int) < 9223372036854775808 := by have := HEN.out; omega
      have hnb : -9223372036854775808 ≤ (n : Int) ∧ (n : Int) < 9223372036854775808 := by have := HEN.out; omega
      obtain ⟨q1, e1⟩ : ∃ q, q = (validB x && chkB R (n : Int) i (textS x) RL) := ⟨_, rfl⟩
      obtain ⟨q2, e2⟩ : ∃ q, q = (validB x && chkB R (n : Int) (k : Int) (textS x) path) := ⟨_, rfl⟩
      have HI1 := Lib.hid (fun W (h : Fr [] wr W) => inclB_any R n i x _ RL W q1 hnb HI.out hxs.1 hxs.2.1 hxs.2.2 (HRS8.out.fr0 (HFR.out.trans h (by simp))) HRS.out (HT.out.fr (HFW9.out.trans h (by simp))) e1.symm)
      have HI2 := Lib.hid (fun W (h : Fr [] wr W) => rinclB_any R n i x _ RL W q1 hnb HI.out hxs.1 hxs.2.1 hxs.2.2 (HTS8.out.fr0 (HFR.out.trans h (by simp))) HRS.out e1.symm)
      have HI3 := Lib.hid (fun W (h : Fr [] wr W) => inclB_any R n k x _ path W q2 hnb hkb hxs.1 hxs.2.1 hxs.2.2 (HQV.out W (HFW9.out.trans h (by simp))) HPT.out (HT.out.fr (HFW9.out.trans h (by simp))) e2.symm)
      have HI4 := Lib.hid (fun W (h : Fr [] wr W) => rinclB_any R n k x _ path W q2 hnb hkb hxs.1 hxs.2.1 hxs.2.2 (HQV.out W (HFW9.out.trans h (by simp))) HPT.out e2.symm)
      unfold ptyV at HI1 HI2 HI3 HI4
      have i0 : (0 : Int) ≤ (k : Int) := by omega
      have i1 : (k : Int) < (n : Int) := by omega
      have t3 : (q1 != q1) = false := by simp
      have t4 : (q2 != q2) = false := by simp
      clear hx hxs hea e1 e2 hkb hnb
      go_wp2_with fail
      have gq0 : Fr [] wr wr.drew := (Fr.refl [] wr).drew
      have hSq0 : Fr [] wr wr.drew := gq0
      refine region_held 100 (fun W' => Fr [] wr W') hmx ?_
      change Held _ _ _ _ _ _ 56 (Array.replicate 56 false) _ _
      refine hd_take 0 (v := .pointer (some ⟨xb, 1, none⟩)) rfl (by kernel_rfl) (by kernel_rfl) (by kernel_rfl) rfl hSq0 (fun W' hS => by go_simp) rfl ?_
      refine hd_take 2 (v := .pointer (some ⟨xb, 0, none⟩)) rfl (by kernel_rfl) (by kernel_rfl) (by kernel_rfl) rfl hSq0 (fun W' hS => by go_simp) rfl ?_
      refine hd_take 6 (v := .pointer (some ⟨xb, 0, none⟩)) rfl (by kernel_rfl) (by kernel_rfl) (by kernel_rfl) rfl hSq0 (fun W' hS => by go_simp) rfl ?_
      refine hd_take 8 (v := .int .i64 (k : Int)) rfl (by kernel_rfl) (by kernel_rfl) (by kernel_rfl) rfl hSq0 (fun W' hS => by go_simp) rfl ?_
      refine hd_take 5 (v := .int .i64 i) rfl (by kernel_rfl) (by kernel_rfl) (by kernel_rfl) rfl hSq0 (fun W' hS => by go_simp) rfl ?_
      refine hd_take 11 (v := .slice ra rn rc) rfl (by kernel_rfl) (by kernel_rfl) (by kernel_rfl) rfl hSq0 (fun W' hS => by go_simp) rfl ?_
      try simp only [Act.put, List.setIfInBounds_toArray, List.set_cons_zero, List.set_cons_succ]
      refine hd_take 1 (v := .string ⟨R.toArray⟩) rfl (by kernel_rfl) (by kernel_rfl) (by kernel_rfl) rfl hSq0 (fun W' hS => by have s0 := hS.cell c1 (by simp); go_simp) rfl ?_
      refine hd_take 3 (v := .slice (some ⟨eb, eo, none⟩) n ec) rfl (by kernel_rfl) (by kernel_rfl) (by kernel_rfl) rfl hSq0 (fun W' hS => by have s0 := hS.cell c0 (by simp); go_simp) rfl ?_
      refine hd_take 7 (v := .slice (some ⟨eb, eo, none⟩) n ec) rfl (by kernel_rfl) (by kernel_rfl) (by kernel_rfl) rfl hSq0 (fun W' hS => by have s0 := hS.cell c0 (by simp); go_simp) rfl ?_
      try simp only [Act.put, List.setIfInBounds_toArray, List.set_cons_zero, List.set_cons_succ]
      refine hd_take 4 (v := .int .i64 (n : Int)) rfl (by kernel_rfl) (by kernel_rfl) (by kernel_rfl) rfl hSq0 (fun W' hS => by go_simp) rfl ?_
      refine hd_take 9 (v := .pointer (some ⟨eb, eo + k * 3, none⟩)) rfl (by kernel_rfl) (by kernel_rfl) (by kernel_rfl) rfl hSq0 (fun W' hS => by go_simp) rfl ?_
      try simp only [Act.put, List.setIfInBounds_toArray, List.set_cons_zero, List.set_cons_succ]
      refine hd_take 10 (v := .agg #[.string ⟨x.name.toArray⟩, .string ⟨x.com.toArray⟩, .string ⟨x.rev.toArray⟩]) rfl (by kernel_rfl) (by kernel_rfl) (by kernel_rfl) rfl hSq0 (fun W' hS => by have s0 := hS.cell x0 (by simp); have s1 := hS.cell x1 (by simp); have s2 := hS.cell x2 (by simp); go_simp) rfl ?_
      try simp only [Act.put, List.setIfInBounds_toArray, List.set_cons_zero, List.set_cons_succ]
      refine hd_take 13 (v := .pointer (some ⟨xb, 1, none⟩)) rfl (by kernel_rfl) (by kernel_rfl) (by kernel_rfl) rfl hSq0 (fun W' hS => by go_simp) rfl ?_
      refine hd_take 15 (v := .pointer (some ⟨xb, 0, none⟩)) rfl (by kernel_rfl) (by kernel_rfl) (by kernel_rfl) rfl hSq0 (fun W' hS => by go_simp) rfl ?_
      refine hd_take 19 (v := .pointer (some ⟨xb, 0, none⟩)) rfl (by kernel_rfl) (by kernel_rfl) (by kernel_rfl) rfl hSq0 (fun W' hS => by go_simp) rfl ?_
      refine hd_take 21 (v := .int .i64 (k : Int)) rfl (by kernel_rfl) (by kernel_rfl) (by kernel_rfl) rfl hSq0 (fun W' hS => by go_simp) rfl ?_
      refine hd_take 18 (v := .int .i64 i) rfl (by kernel_rfl) (by kernel_rfl) (by kernel_rfl) rfl hSq0 (fun W' hS => by go_simp) rfl ?_
      refine hd_take 24 (v := .slice ta rn tc) rfl (by kernel_rfl) (by kernel_rfl) (by kernel_rfl) rfl hSq0 (fun W' hS => by go_simp) rfl ?_
      try simp only [Act.put, List.setIfInBounds_toArray, List.set_cons_zero, List.set_cons_succ]
      refine hd_take 14 (v := .string ⟨R.toArray⟩) rfl (by kernel_rfl) (by kernel_rfl) (by kernel_rfl) rfl hSq0 (fun W' hS => by have s0 := hS.cell c1 (by simp); go_simp) rfl ?_
      refine hd_take 16 (v := .slice (some ⟨eb, eo, none⟩) n ec) rfl (by kernel_rfl) (by kernel_rfl) (by kernel_rfl) rfl hSq0 (fun W' hS => by have s0 := hS.cell c0 (by simp); go_simp) rfl ?_
      refine hd_take 20 (v := .slice (some ⟨eb, eo, none⟩) n ec) rfl (by kernel_rfl) (by kernel_rfl) (by kernel_rfl) rfl hSq0 (fun W' hS => by have s0 := hS.cell c0 (by simp); go_simp) rfl ?_
      try simp only [Act.put, List.setIfInBounds_toArray, List.set_cons_zero, List.set_cons_succ]
      refine hd_take 17 (v := .int .i64 (n : Int)) rfl (by kernel_rfl) (by kernel_rfl) (by kernel_rfl) rfl hSq0 (fun W' hS => by go_simp) rfl ?_
      refine hd_take 22 (v := .pointer (some ⟨eb, eo + k * 3, none⟩)) rfl (by kernel_rfl) (by kernel_rfl) (by kernel_rfl) rfl hSq0 (fun W' hS => by go_simp) rfl ?_
      try simp only [Act.put, List.setIfInBounds_toArray, List.set_cons_zero, List.set_cons_succ]
      refine hd_take 23 (v := .agg #[.string ⟨x.name.toArray⟩, .string ⟨x.com.toArray⟩, .string ⟨x.rev.toArray⟩]) rfl (by kernel_rfl) (by kernel_rfl) (by kernel_rfl) rfl hSq0 (fun W' hS => by have s0 := hS.cell x0 (by simp); have s1 := hS.cell x1 (by simp); have s2 := hS.cell x2 (by simp); go_simp) rfl ?_
      try simp only [Act.put, List.setIfInBounds_toArray, List.set_cons_zero, List.set_cons_succ]
      refine hd_one 12 (by kernel_rfl) rfl (by kernel_rfl) rfl (fun K' hK => ?_)
      go_simp
      refine (HI1.out wr.drew gq0).mono ?_
      rintro e yq1 ⟨rfl, hbb⟩
      have gq1 : Fr [] wr yq1 := gq0.below hbb gq0.size
      clear hbb
      have hSq1 : Fr [] wr yq1 := gq1
      refine hK.out _ _ (fun _ => hSq1) ?_
      clear hK K'
      try simp only [Act.put, List.setIfInBounds_toArray, List.set_cons_zero, List.set_cons_succ]
      refine hd_one 25 (by kernel_rfl) rfl (by kernel_rfl) rfl (fun K' hK => ?_)
      go_simp
      refine (HI2.out yq1 gq1).mono ?_
      rintro e yq2 ⟨rfl, hbb⟩
      have gq2 : Fr [] wr yq2 := gq1.below hbb gq1.size
      clear hbb
      have hSq2 : Fr [] wr yq2 := gq2
      refine hK.out _ _ (fun _ => hSq2) ?_
      clear hK K'
      try simp only [Act.put, List.setIfInBounds_toArray, List.set_cons_zero, List.set_cons_succ]
      refine hd_take 26 (v := .bool false) rfl (by kernel_rfl) (by kernel_rfl) (by kernel_rfl) rfl hSq2 (fun W' hS => by go_simp) rfl ?_
      try simp only [Act.put, List.setIfInBounds_toArray, List.set_cons_zero, List.set_cons_succ]
      refine hd_take 27 (v := .bool false) rfl (by kernel_rfl) (by kernel_rfl) (by kernel_rfl) rfl hSq2 (fun W' hS => by go_simp) rfl ?_
      try simp only [Act.put, List.setIfInBounds_toArray, List.set_cons_zero, List.set_cons_succ]
      refine hd_take 28 (v := .pointer (some ⟨xb, 1, none⟩)) rfl (by kernel_rfl) (by kernel_rfl) (by kernel_rfl) rfl hSq2 (fun W' hS => by go_simp) rfl ?_
      refine hd_take 30 (v := .pointer (some ⟨xb, 0, none⟩)) rfl (by kernel_rfl) (by kernel_rfl) (by kernel_rfl) rfl hSq2 (fun W' hS => by go_simp) rfl ?_
      refine hd_take 34 (v := .pointer (some ⟨xb, 0, none⟩)) rfl (by kernel_rfl) (by kernel_rfl) (by kernel_rfl) rfl hSq2 (fun W' hS => by go_simp) rfl ?_
      refine hd_take 36 (v := .int .i64 (k : Int)) rfl (by kernel_rfl) (by kernel_rfl) (by kernel_rfl) rfl hSq2 (fun W' hS => by go_simp) rfl ?_
      refine hd_take 33 (v := .int .i64 (k : Int)) rfl (by kernel_rfl) (by kernel_rfl) (by kernel_rfl) rfl hSq2 (fun W' hS => by go_simp) rfl ?_
      refine hd_take 39 (v := .slice qa qn qc) rfl (by kernel_rfl) (by kernel_rfl) (by kernel_rfl) rfl hSq2 (fun W' hS => by go_simp) rfl ?_
      try simp only [Act.put, List.setIfInBounds_toArray, List.set_cons_zero, List.set_cons_succ]
      refine hd_take 29 (v := .string ⟨R.toArray⟩) rfl (by kernel_rfl) (by kernel_rfl) (by kernel_rfl) rfl hSq2 (fun W' hS => by have s0 := hS.cell c1 (by simp); go_simp) rfl ?_
      refine hd_take 31 (v := .slice (some ⟨eb, eo, none⟩) n ec) rfl (by kernel_rfl) (by kernel_rfl) (by kernel_rfl) rfl hSq2 (fun W' hS => by have s0 := hS.cell c0 (by simp); go_simp) rfl ?_
      refine hd_take 35 (v := .slice (some ⟨eb, eo, none⟩) n ec) rfl (by kernel_rfl) (by kernel_rfl) (by kernel_rfl) rfl hSq2 (fun W' hS => by have s0 := hS.cell c0 (by simp); go_simp) rfl ?_
      try simp only [Act.put, List.setIfInBounds_toArray, List.set_cons_zero, List.set_cons_succ]
      refine hd_take 32 (v := .int .i64 (n : Int)) rfl (by kernel_rfl) (by kernel_rfl) (by kernel_rfl) rfl hSq2 (fun W' hS => by go_simp) rfl ?_
      refine hd_take 37 (v := .pointer (some ⟨eb, eo + k * 3, none⟩)) rfl (by kernel_rfl) (by kernel_rfl) (by kernel_rfl) rfl hSq2 (fun W' hS => by go_simp) rfl ?_
      try simp only [Act.put, List.setIfInBounds_toArray, List.set_cons_zero, List.set_cons_succ]
      refine hd_take 38 (v := .agg #[.string ⟨x.name.toArray⟩, .string ⟨x.com.toArray⟩, .string ⟨x.rev.toArray⟩]) rfl (by kernel_rfl) (by kernel_rfl) (by kernel_rfl) rfl hSq2 (fun W' hS => by have s0 := hS.cell x0 (by simp); have s1 := hS.cell x1 (by simp); have s2 := hS.cell x2 (by simp); go_simp) rfl ?_
      try simp only [Act.put, List.setIfInBounds_toArray, List.set_cons_zero, List.set_cons_succ]
      refine hd_take 41 (v := .pointer (some ⟨xb, 1, none⟩)) rfl (by kernel_rfl) (by kernel_rfl) (by kernel_rfl) rfl hSq2 (fun W' hS => by go_simp) rfl ?_
      refine hd_take 43 (v := .pointer (some ⟨xb, 0, none⟩)) rfl (by kernel_rfl) (by kernel_rfl) (by kernel_rfl) rfl hSq2 (fun W' hS => by go_simp) rfl ?_
      refine hd_take 47 (v := .pointer (some ⟨xb, 0, none⟩)) rfl (by kernel_rfl) (by kernel_rfl) (by kernel_rfl) rfl hSq2 (fun W' hS => by go_simp) rfl ?_
      refine hd_take 49 (v := .int .i64 (k : Int)) rfl (by kernel_rfl) (by kernel_rfl) (by kernel_rfl) rfl hSq2 (fun W' hS => by go_simp) rfl ?_
      refine hd_take 46 (v := .int .i64 (k : Int)) rfl (by kernel_rfl) (by kernel_rfl) (by kernel_rfl) rfl hSq2 (fun W' hS => by go_simp) rfl ?_
      refine hd_take 52 (v := .slice qa qn qc) rfl (by kernel_rfl) (by kernel_rfl) (by kernel_rfl) rfl hSq2 (fun W' hS => by go_simp) rfl ?_
      try simp only [Act.put, List.setIfInBounds_toArray, List.set_cons_zero, List.set_cons_succ]
      refine hd_take 42 (v := .string ⟨R.toArray⟩) rfl (by kernel_rfl) (by kernel_rfl) (by kernel_rfl) rfl hSq2 (fun W' hS => by have s0 := hS.cell c1 (by simp); go_simp) rfl ?_
      refine hd_take 44 (v := .slice (some ⟨eb, eo, none⟩) n ec) rfl (by kernel_rfl) (by kernel_rfl) (by kernel_rfl) rfl hSq2 (fun W' hS => by have s0 := hS.cell c0 (by simp); go_simp) rfl ?_
      refine hd_take 48 (v := .slice (some ⟨eb, eo, none⟩) n ec) rfl (by kernel_rfl) (by kernel_rfl) (by kernel_rfl) rfl hSq2 (fun W' hS => by have s0 := hS.cell c0 (by simp); go_simp) rfl ?_
      try simp only [Act.put, List.setIfInBounds_toArray, List.set_cons_zero, List.set_cons_succ]
      refine hd_take 45 (v := .int .i64 (n : Int)) rfl (by kernel_rfl) (by kernel_rfl) (by kernel_rfl) rfl hSq2 (fun W' hS => by go_simp) rfl ?_
      refine hd_take 50 (v := .pointer (some ⟨eb, eo + k * 3, none⟩)) rfl (by kernel_rfl) (by kernel_rfl) (by kernel_rfl) rfl hSq2 (fun W' hS => by go_simp) rfl ?_
      try simp only [Act.put, List.setIfInBounds_toArray, List.set_cons_zero, List.set_cons_succ]
      refine hd_take 51 (v := .agg #[.string ⟨x.name.toArray⟩, .string ⟨x.com.toArray⟩, .string ⟨x.rev.toArray⟩]) rfl (by kernel_rfl) (by kernel_rfl) (by kernel_rfl) rfl hSq2 (fun W' hS => by have s0 := hS.cell x0 (by simp); have s1 := hS.cell x1 (by simp); have s2 := hS.cell x2 (by simp); go_simp) rfl ?_
      try simp only [Act.put, List.setIfInBounds_toArray, List.set_cons_zero, List.set_cons_succ]
      refine hd_one 40 (by kernel_rfl) rfl (by kernel_rfl) rfl (fun K' hK => ?_)
      go_simp
      refine (HI3.out yq2 gq2).mono ?_
      rintro e yq3 ⟨rfl, hbb⟩
      have gq3 : Fr [] wr yq3 := gq2.below hbb gq2.size
      clear hbb
      have hSq3 : Fr [] wr yq3 := gq3
      refine hK.out _ _ (fun _ => hSq3) ?_
      clear hK K'
      try simp only [Act.put, List.setIfInBounds_toArray, List.set_cons_zero, List.set_cons_succ]
      refine hd_one 53 (by kernel_rfl) rfl (by kernel_rfl) rfl (fun K' hK => ?_)
      go_simp
      refine (HI4.out yq3 gq3).mono ?_
      rintro e yq4 ⟨rfl, hbb⟩
      have gq4 : Fr [] wr yq4 := gq3.below hbb gq3.size
      clear hbb
      have hSq4 : Fr [] wr yq4 := gq4
      refine hK.out _ _ (fun _ => hSq4) ?_
      clear hK K'
      try simp only [Act.put, List.setIfInBounds_toArray, List.set_cons_zero, List.set_cons_succ]
      refine hd_take 54 (v := .bool false) rfl (by kernel_rfl) (by kernel_rfl) (by kernel_rfl) rfl hSq4 (fun W' hS => by go_simp) rfl ?_
      try simp only [Act.put, List.setIfInBounds_toArray, List.set_cons_zero, List.set_cons_succ]
      refine hd_take 55 (v := .bool false) rfl (by kernel_rfl) (by kernel_rfl) (by kernel_rfl) rfl hSq4 (fun W' hS => by go_simp) rfl ?_
      try simp only [Act.put, List.setIfInBounds_toArray, List.set_cons_zero, List.set_cons_succ]
      refine held_done (by kernel_rfl) ?_
      have HFE := Lib.hid (HFR.out.trans gq4 (by simp))
      go_wp2_with fail
      go_roundg (n + 1 - (k + 1))
      case measure => have := HG.out; omega
      case rel => exact ⟨k + 1, by omega, rfl, by go_num, HFE.out⟩
    · obtain rfl : k = n := by omega
      have t2 : decide ((k : Int) < (k : Int)) = false := by simp
      go_wp2_with fail
      go_ret
      exact ⟨rfl, HFW9.out.toBelow (by simp)⟩
end Go.Proofs.YtjddngbgbbbefaaGreatDoor
