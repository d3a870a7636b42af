/-
  foyerlaw31: RevealMatchesReference.
-/
import Derived.Test.YtmhejcndkplepaaDoorRvZ
import Derived.Deep.DeepCutAuto
import Derived.Deep.RegionHeld3
namespace Go.Proofs.YtmhejcndkplepaaDoor
open Go.RowKit

set_option maxRecDepth 100000 in
set_option maxHeartbeats 8000000 in
theorem revealMatchesReference_any (v : Value) (fields : List (List UInt8)) (s : List UInt8) (iv : Value) (which : List Int) (root : List UInt8) (dv : Value) (d : Disc) (w : World) (hs9 : s.length ≤ 140737488355328) (hr9 : root.length ≤ 140737488355328)
    (hT : Tabs w) (hv : Strs w v fields) (hiv : Zs w iv which) (hdv : DiscW w dv d) (hdn : -9223372036854775808 ≤ d.count ∧ d.count < 9223372036854775808) :
    Calls Tryd.prog 3 #[v, .string ⟨s.toArray⟩, iv, .string ⟨root.toArray⟩, dv] w fun e w' => e = .returned (.bool true) ∧ Below w.heap.size w w' := by
  have hmx : Tryd.prog.follows .mixedOrders = true := by kernel_rfl
  have HT := Lib.hid hT
  have HV := Lib.hid hv
  have HIV := Lib.hid hiv
  have HDV := Lib.hid hdv
  obtain ⟨fa, fcap, rfl, hfl, hfa⟩ := hv.form
  obtain ⟨ia, icap, rfl, hil, hic, hia⟩ := hiv.form
  obtain ⟨wv, qv, pv, rfl, hw, hq, hp⟩ := hdv
  obtain ⟨wa, wcap, rfl, hwl, hwc, hwa⟩ := hw.form
  obtain ⟨qa, qcap, rfl, hql, hqa⟩ := hq.form
  obtain ⟨pa, pcap, rfl, hpl, hpc, hpa⟩ := hp.form
  clear hT hv hiv hw hq hp
  go_enter Tryd.func3, Tryd.ntmps3
  go_wp2_with fail
  have f0 : Fr [] w (w.alloc (.cells #[.int .i64 d.count, .slice wa d.which.length wcap, .slice qa d.fields.length qcap, .slice pa d.paths.length pcap] 26)) := (Fr.refl [] w).alloc _
  have q0 : DAt w.heap.size (.int .i64 d.count) (.slice wa d.which.length wcap) (.slice qa d.fields.length qcap) (.slice pa d.paths.length pcap) (w.alloc (.cells #[.int .i64 d.count, .slice wa d.which.length wcap, .slice qa d.fields.length qcap, .slice pa d.paths.length pcap] 26)) := DAt.of (heap_new rfl)
  generalize w.alloc (.cells #[.int .i64 d.count, .slice wa d.which.length wcap, .slice qa d.fields.length qcap, .slice pa d.paths.length pcap] 26) = w0 at f0 q0 ⊢
  obtain ⟨db, edb⟩ : ∃ b, b = w.heap.size := ⟨_, rfl⟩
  rw [← edb] at q0 ⊢
  have EDB := Lib.hid edb
  have Q0 := Lib.hid q0
  clear q0 edb
  refine (head31_any w0 (HT.out.fr f0)).mono ?_
  rintro e w1 ⟨rfl, hb1⟩
  have f1 : Fr [] w0 w1 := Fr.ofBelow hb1
  have hf1 : Fr [] w w1 := f0.trans f1 (by simp)
  have Q1 := Lib.hid (Q0.out.fr f1 (by simp))
  clear hb1 f1 f0
  go_wp2_with fail
  refine (short_any _ fields 30 w1 (HV.out.fr0 hf1)).mono ?_
  rintro e w2 ⟨rfl, hb2⟩
  have f12 : Fr [] w1 w2 := Fr.ofBelow hb2
  have hf2 : Fr [] w w2 := hf1.trans f12 (by simp)
  obtain ⟨c0, c1, c2, c3⟩ := Q1.out.fr f12 (by simp)
  clear hb2 hf1
  cases hsh : shortB fields 30 with
  | false => go_wp2_with fail; go_ret; exact ⟨rfl, hf2.toBelow (by simp)⟩
  | true => ?_
  have HSH := Lib.hid (shortB_all hsh)
  clear hsh
  have x1 : IntKind.i64.wrap ((s.length : Int) + (root.length : Int)) = (s.length : Int) + (root.length : Int) := IntWalk.i64_in _ (by omega)
  by_cases h1 : 300 < s.length + root.length
  · have t1 : decide ((300 : Int) < (s.length : Int) + (root.length : Int)) = true := by simp; omega
    go_wp2_with fail
    go_ret
    exact ⟨rfl, hf2.toBelow (by simp)⟩
  have t1 : decide ((300 : Int) < (s.length : Int) + (root.length : Int)) = false := by simp; omega
  by_cases h2 : 40 < which.length
  · have t2 : decide ((40 : Int) < (which.length : Int)) = true := by simp; omega
    go_wp2_with fail
    go_ret
    exact ⟨rfl, hf2.toBelow (by simp)⟩
  have t2 : decide ((40 : Int) < (which.length : Int)) = false := by simp; omega
  go_wp2_with fail
  refine (few31_any _ d w2 (HDV.out.fr hf2)).mono ?_
  rintro e w3 ⟨rfl, hb3⟩
  have f23 : Fr [] w2 w3 := Fr.ofBelow hb3
  have hf3 : Fr [] w w3 := hf2.trans f23 (by simp)
  have Q3 := Lib.hid (Q1.out.fr (f12.trans f23 (by simp)) (by simp))
  clear hb3 hf2 c0 c1 c2 c3 f12 f23
  cases hfw : fewD d with
  | false => go_wp2_with fail; go_ret; exact ⟨rfl, hf3.toBelow (by simp)⟩
  | true => ?_
  have HFW := Lib.hid (few_parts hfw)
  have HFS : Hid (∀ f ∈ fields, f.length ≤ 100000) := Lib.hid (fun f hf => by have := HSH.out.1 f hf; omega)
  clear hfw x1 t1 t2
  go_wp2_with fail
  refine (show_any _ _ fields s which w3 (HV.out.fr0 hf3) (HIV.out.fr0 hf3) (by have := HSH.out.2; omega) (by omega) HFS.out (HT.out.fr hf3)).mono ?_
  rintro e w4 ⟨xv, rfl, hxd, hb4⟩
  have f34 : Fr [] w3 w4 := Fr.ofBelow hb4
  obtain ⟨se, ese⟩ : ∃ x, x = showE fields which := ⟨_, rfl⟩
  obtain ⟨sd, esd⟩ : ∃ x, x = showD fields s which := ⟨_, rfl⟩
  rw [← esd] at hxd
  rw [← ese]
  have ESD := Lib.hid esd
  have ESE := Lib.hid ese
  clear esd ese hb4
  obtain ⟨xw, xg, xp, rfl, hxw, hxg, hxp⟩ := hxd
  obtain ⟨xwa, xwn, xwc, rfl⟩ : ∃ a n c, xw = .slice a n c := by rcases hxw with ⟨h, _⟩ | ⟨b, off, cap, h, _⟩ <;> exact ⟨_, _, _, h⟩
  obtain ⟨xga, xgn, xgc, rfl⟩ : ∃ a n c, xg = .slice a n c := by rcases hxg with ⟨h, _⟩ | ⟨b, off, cap, h, _⟩ <;> exact ⟨_, _, _, h⟩
  obtain ⟨xpa, xpn, xpc, rfl⟩ : ∃ a n c, xp = .slice a n c := by rcases hxp with ⟨h, _⟩ | ⟨b, off, cap, h, _⟩ <;> exact ⟨_, _, _, h⟩
  have HxD : Hid (DiscR w4 (.agg #[.int .i64 sd.count, .slice xwa xwn xwc, .slice xga xgn xgc, .slice xpa xpn xpc]) sd) := Lib.hid ⟨_, _, _, rfl, hxw, hxg, hxp⟩
  clear hxw hxg hxp
  go_upto_region 5 with (fail)
  have fx : Fr [] w4 (w4.alloc (.cells #[.int .i64 sd.count, .slice xwa xwn xwc, .slice xga xgn xgc, .slice xpa xpn xpc] 26)) := (Fr.refl [] w4).alloc _
  have qx : DAt w4.heap.size (.int .i64 sd.count) (.slice xwa xwn xwc) (.slice xga xgn xgc) (.slice xpa xpn xpc) (w4.alloc (.cells #[.int .i64 sd.count, .slice xwa xwn xwc, .slice xga xgn xgc, .slice xpa xpn xpc] 26)) := DAt.of (heap_new rfl)
  generalize w4.alloc (.cells #[.int .i64 sd.count, .slice xwa xwn xwc, .slice xga xgn xgc, .slice xpa xpn xpc] 26) = w5 at fx qx ⊢
  obtain ⟨xb, exb⟩ : ∃ b, b = w4.heap.size := ⟨_, rfl⟩
  rw [← exb] at qx ⊢
  have EXB := Lib.hid exb
  have QX := Lib.hid qx
  have f35 : Fr [] w3 w5 := f34.trans fx (by simp)
  have hf5 : Fr [] w w5 := hf3.trans f35 (by simp)
  have HXD5 := Lib.hid (HxD.out.fr fx)
  clear exb qx f34 fx HxD
  go_wp2_with fail
  refine (rshow_any _ _ fields s which w5 (HV.out.fr0 hf5) (HIV.out.fr0 hf5) (by have := HSH.out.2; omega) (by omega) HFS.out).mono ?_
  rintro e w6 ⟨yv, rfl, hyd, hb6⟩
  have f56 : Fr [] w5 w6 := Fr.ofBelow hb6
  rw [← ESD.out] at hyd
  rw [← ESE.out]
  clear hb6
  obtain ⟨yw, yg, yp, rfl, hyw, hyg, hyp⟩ := hyd
  obtain ⟨ywa, ywn, ywc, rfl⟩ : ∃ a n c, yw = .slice a n c := by rcases hyw with ⟨h, _⟩ | ⟨b, off, cap, h, _⟩ <;> exact ⟨_, _, _, h⟩
  obtain ⟨yga, ygn, ygc, rfl⟩ : ∃ a n c, yg = .slice a n c := by rcases hyg with ⟨h, _⟩ | ⟨b, off, cap, h, _⟩ <;> exact ⟨_, _, _, h⟩
  obtain ⟨ypa, ypn, ypc, rfl⟩ : ∃ a n c, yp = .slice a n c := by rcases hyp with ⟨h, _⟩ | ⟨b, off, cap, h, _⟩ <;> exact ⟨_, _, _, h⟩
  have HyD : Hid (DiscR w6 (.agg #[.int .i64 sd.count, .slice ywa ywn ywc, .slice yga ygn ygc, .slice ypa ypn ypc]) sd) := Lib.hid ⟨_, _, _, rfl, hyw, hyg, hyp⟩
  clear hyw hyg hyp
  go_upto_region 6 with (fail)
  have fy : Fr [] w6 (w6.alloc (.cells #[.int .i64 sd.count, .slice ywa ywn ywc, .slice yga ygn ygc, .slice ypa ypn ypc] 26)) := (Fr.refl [] w6).alloc _
  have qy : DAt w6.heap.size (.int .i64 sd.count) (.slice ywa ywn ywc) (.slice yga ygn ygc) (.slice ypa ypn ypc) (w6.alloc (.cells #[.int .i64 sd.count, .slice ywa ywn ywc, .slice yga ygn ygc, .slice ypa ypn ypc] 26)) := DAt.of (heap_new rfl)
  generalize w6.alloc (.cells #[.int .i64 sd.count, .slice ywa ywn ywc, .slice yga ygn ygc, .slice ypa ypn ypc] 26) = w7 at fy qy ⊢
  obtain ⟨yb, eyb⟩ : ∃ b, b = w6.heap.size := ⟨_, rfl⟩
  rw [← eyb] at qy ⊢
  have EYB := Lib.hid eyb
  have f57 : Fr [] w5 w7 := f56.trans fy (by simp)
  have f37 : Fr [] w3 w7 := f35.trans f57 (by simp)
  have hf7 : Fr [] w w7 := hf5.trans f57 (by simp)
  have HXD7 := Lib.hid (HXD5.out.fr f57)
  have HYD7 := Lib.hid (HyD.out.fr fy)
  obtain ⟨c0, c1, c2, c3⟩ := Q3.out.fr f37 (by simp)
  obtain ⟨xb0, xb1, xb2, xb3⟩ := QX.out.fr f57 (by simp)
  obtain ⟨yb0, yb1, yb2, yb3⟩ := qy
  obtain ⟨rt, ert⟩ : ∃ r, r = sealS fields s := ⟨_, rfl⟩
  obtain ⟨cb, ecb⟩ : ∃ r, r = chkD root d := ⟨_, rfl⟩
  have HDS : Hid (DSmall d) := Lib.hid ⟨hdn, fun x hx => by have := HFW.out.2.2.1 x hx; omega, fun l hl x hx => by have := (HFW.out.2.2.2.2 l hl).1 x hx; omega⟩
  have HC1 : Hid (∀ W, Fr [] w7 W → Calls Tryd.prog 21 #[.slice fa fields.length fcap, .string ⟨s.toArray⟩] W fun e w' => e = .returned (.string ⟨rt.toArray⟩) ∧ Below W.heap.size W w') := Lib.hid (fun W hW => by
    rw [ert]
    exact seal_any _ fields s W (HV.out.fr0 (hf7.trans hW (by simp))) (by have := HSH.out.2; omega) (by omega) HFS.out (HT.out.fr (hf7.trans hW (by simp))))
  have HC2 : Hid (∀ W, Fr [] w7 W → Calls Tryd.prog 22 #[.slice fa fields.length fcap, .string ⟨s.toArray⟩] W fun e w' => e = .returned (.string ⟨rt.toArray⟩) ∧ Below W.heap.size W w') := Lib.hid (fun W hW => by
    rw [ert]
    exact rseal_any _ fields s W (HV.out.fr0 (hf7.trans hW (by simp))) (by have := HSH.out.2; omega) (by omega) HFS.out)
  have HC3 : Hid (∀ W, Fr [] w7 W → Calls Tryd.prog 23 #[.agg #[.int .i64 sd.count, .slice xwa xwn xwc, .slice xga xgn xgc, .slice xpa xpn xpc], .agg #[.int .i64 sd.count, .slice ywa ywn ywc, .slice yga ygn ygc, .slice ypa ypn ypc]] W fun e w' => e = .returned (.bool true) ∧ Below W.heap.size W w') := Lib.hid (fun W hW => by
    have h := rsame31_any _ _ sd sd W (HXD7.out.fr hW) (HYD7.out.fr hW)
    rwa [show sameD sd sd = true from decide_eq_true ⟨rfl, rfl, rfl, rfl⟩] at h)
  have HC4 : Hid (∀ W, Fr [] w7 W → Calls Tryd.prog 24 #[.string ⟨root.toArray⟩, .agg #[.int .i64 d.count, .slice wa d.which.length wcap, .slice qa d.fields.length qcap, .slice pa d.paths.length pcap]] W fun e w' => e = .returned (.bool cb) ∧ Below W.heap.size W w') := Lib.hid (fun W hW => by
    rw [ecb]
    exact checkW_any root _ d W (HDV.out.fr (hf7.trans hW (by simp))) HDS.out (HT.out.fr (hf7.trans hW (by simp))))
  have HC5 : Hid (∀ W, Fr [] w7 W → Calls Tryd.prog 25 #[.string ⟨root.toArray⟩, .agg #[.int .i64 d.count, .slice wa d.which.length wcap, .slice qa d.fields.length qcap, .slice pa d.paths.length pcap]] W fun e w' => e = .returned (.bool cb) ∧ Below W.heap.size W w') := Lib.hid (fun W hW => by
    rw [ecb]
    exact rcheckW_any root _ d W (HDV.out.fr (hf7.trans hW (by simp))) HDS.out)
  have hd : Fr [] w7 w7.drew := (Fr.refl [] w7).drew
  have t1 : (rt == rt) = true := by simp
  have t2 : (se == se) = true := by simp
  have t3 : (cb == cb) = true := by simp
  clear ert ecb eyb f57 f37 fy f56 f35
  go_region_held3 (fun W => W.cell? ⟨xb, 0, none⟩ = some (.int .i64 sd.count) ∧ W.cell? ⟨xb, 1, none⟩ = some (.slice xwa xwn xwc) ∧ W.cell? ⟨xb, 2, none⟩ = some (.slice xga xgn xgc) ∧ W.cell? ⟨xb, 3, none⟩ = some (.slice xpa xpn xpc) ∧ W.cell? ⟨yb, 0, none⟩ = some (.int .i64 sd.count) ∧ W.cell? ⟨yb, 1, none⟩ = some (.slice ywa ywn ywc) ∧ W.cell? ⟨yb, 2, none⟩ = some (.slice yga ygn ygc) ∧ W.cell? ⟨yb, 3, none⟩ = some (.slice ypa ypn ypc) ∧ W.cell? ⟨db, 0, none⟩ = some (.int .i64 d.count) ∧ W.cell? ⟨db, 1, none⟩ = some (.slice wa d.which.length wcap) ∧ W.cell? ⟨db, 2, none⟩ = some (.slice qa d.fields.length qcap) ∧ W.cell? ⟨db, 3, none⟩ = some (.slice pa d.paths.length pcap))
    (with_reducible (first | exact ⟨hF5.cell xb0 (by simp), hF5.cell xb1 (by simp), hF5.cell xb2 (by simp), hF5.cell xb3 (by simp), hF5.cell yb0 (by simp), hF5.cell yb1 (by simp), hF5.cell yb2 (by simp), hF5.cell yb3 (by simp), hF5.cell c0 (by simp), hF5.cell c1 (by simp), hF5.cell c2 (by simp), hF5.cell c3 (by simp)⟩ | exact ⟨hF4.cell xb0 (by simp), hF4.cell xb1 (by simp), hF4.cell xb2 (by simp), hF4.cell xb3 (by simp), hF4.cell yb0 (by simp), hF4.cell yb1 (by simp), hF4.cell yb2 (by simp), hF4.cell yb3 (by simp), hF4.cell c0 (by simp), hF4.cell c1 (by simp), hF4.cell c2 (by simp), hF4.cell c3 (by simp)⟩ | exact ⟨hF3.cell xb0 (by simp), hF3.cell xb1 (by simp), hF3.cell xb2 (by simp), hF3.cell xb3 (by simp), hF3.cell yb0 (by simp), hF3.cell yb1 (by simp), hF3.cell yb2 (by simp), hF3.cell yb3 (by simp), hF3.cell c0 (by simp), hF3.cell c1 (by simp), hF3.cell c2 (by simp), hF3.cell c3 (by simp)⟩ | exact ⟨hF2.cell xb0 (by simp), hF2.cell xb1 (by simp), hF2.cell xb2 (by simp), hF2.cell xb3 (by simp), hF2.cell yb0 (by simp), hF2.cell yb1 (by simp), hF2.cell yb2 (by simp), hF2.cell yb3 (by simp), hF2.cell c0 (by simp), hF2.cell c1 (by simp), hF2.cell c2 (by simp), hF2.cell c3 (by simp)⟩ | exact ⟨hF1.cell xb0 (by simp), hF1.cell xb1 (by simp), hF1.cell xb2 (by simp), hF1.cell xb3 (by simp), hF1.cell yb0 (by simp), hF1.cell yb1 (by simp), hF1.cell yb2 (by simp), hF1.cell yb3 (by simp), hF1.cell c0 (by simp), hF1.cell c1 (by simp), hF1.cell c2 (by simp), hF1.cell c3 (by simp)⟩ | exact ⟨hd.cell xb0 (by simp), hd.cell xb1 (by simp), hd.cell xb2 (by simp), hd.cell xb3 (by simp), hd.cell yb0 (by simp), hd.cell yb1 (by simp), hd.cell yb2 (by simp), hd.cell yb3 (by simp), hd.cell c0 (by simp), hd.cell c1 (by simp), hd.cell c2 (by simp), hd.cell c3 (by simp)⟩))
    ((first
      | ((with_reducible refine (HC1.out _ hd).mono ?_)
         rintro e W1 ⟨rfl, hb1⟩
         have hF1 : Fr [] w7 W1 := hd.below hb1 hd.size)
      | ((with_reducible refine (HC2.out _ hF1).mono ?_)
         rintro e W2 ⟨rfl, hb2⟩
         have hF2 : Fr [] w7 W2 := hF1.below hb2 hF1.size)
      | ((with_reducible refine (HC3.out _ hF2).mono ?_)
         rintro e W3 ⟨rfl, hb3⟩
         have hF3 : Fr [] w7 W3 := hF2.below hb3 hF2.size)
      | ((with_reducible refine (HC4.out _ hF3).mono ?_)
         rintro e W4 ⟨rfl, hb4⟩
         have hF4 : Fr [] w7 W4 := hF3.below hb4 hF3.size)
      | ((with_reducible refine (HC5.out _ hF4).mono ?_)
         rintro e W5 ⟨rfl, hb5⟩
         have hF5 : Fr [] w7 W5 := hF4.below hb5 hF4.size)))
  go_wp2_with fail
  go_ret
  exact ⟨rfl, (hf7.trans hF5 (by simp)).toBelow (by simp)⟩
end Go.Proofs.YtmhejcndkplepaaDoor
