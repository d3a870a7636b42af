/-
  foyerlaw30.TitleMatchesReference.
-/
import Derived.Test.YtcblpfepkkkilaaGreatDoorHeT
import Derived.Test.YtcblpfepkkkilaaGreatDoorRtP
import Derived.Test.YtcblpfepkkkilaaGreatDoorRtQ
namespace Go.Proofs.YtcblpfepkkkilaaGreatDoor
open Go.RowKit
set_option maxRecDepth 100000 in
set_option maxHeartbeats 8000000 in
theorem titleMatchesReference_any (tv : Value) (t : Ttl) (ov : Value) (o : Ttl) (tk se text : List UInt8) (w : World) (hT : TabsU w) (ht : TtlR w tv t) (hnt : TNum t) (ho : TtlR w ov o) (hno : TNum o) :
    Calls Tryz.prog 3 #[tv, ov, .string ⟨tk.toArray⟩, .string ⟨se.toArray⟩, .string ⟨text.toArray⟩] w fun e w' => e = .returned (.bool true) ∧ Below w.heap.size w w' := by
  have hmx : Tryz.prog.follows .mixedOrders = true := by kernel_rfl
  obtain ⟨vt, rfl, hct⟩ := ht
  obtain ⟨a_t, kt, rfl, _, _, _⟩ := hct.form
  obtain ⟨vo, rfl, hco⟩ := ho
  obtain ⟨ao, ko, rfl, _, _, _⟩ := hco.form
  have HT := Lib.hid hT
  have HN := Lib.hid (And.intro hnt hno)
  clear hT hnt hno
  obtain ⟨W0, hW0⟩ : ∃ W0, W0 = (w.alloc (.cells #[.int .i64 t.serial, .int .i64 t.shw, .int .i64 t.place, .string ⟨t.first.toArray⟩, .slice a_t t.chain.length kt] 24)).alloc (.cells #[.int .i64 o.serial, .int .i64 o.shw, .int .i64 o.place, .string ⟨o.first.toArray⟩, .slice ao o.chain.length ko] 24) := ⟨_, rfl⟩
  obtain ⟨p, ep⟩ : ∃ p, p = w.heap.size := ⟨_, rfl⟩
  have fW0 : Fr [] w W0 := by rw [hW0]; exact ((Fr.refl [] w).alloc _).alloc _
  have hbt : W0.heap[p]? = some (.cells #[.int .i64 t.serial, .int .i64 t.shw, .int .i64 t.place, .string ⟨t.first.toArray⟩, .slice a_t t.chain.length kt] 24 (0, 0)) := by rw [hW0, ep]; exact heap_past _ (heap_new rfl)
  have hbo : W0.heap[p + 1]? = some (.cells #[.int .i64 o.serial, .int .i64 o.shw, .int .i64 o.place, .string ⟨o.first.toArray⟩, .slice ao o.chain.length ko] 24 (0, 0)) := by rw [hW0, ep]; exact heap_new (by simp)
  have Ht := Lib.hid (hct.fr fW0)
  have Ho := Lib.hid (hco.fr fW0)
  clear hct hco
  go_enter Tryz.func3, Tryz.ntmps3
  go_wp2_with fail
  rw [← hW0, ← ep]
  clear hW0 ep
  refine (head30_any W0 (HT.out.fr fW0)).mono ?_
  rintro e y1 ⟨rfl, hbb⟩
  have hf : Fr [] W0 y1 := Fr.ofBelow hbb
  have hbt := hf.at hbt (by simp)
  have hbo := hf.at hbo (by simp)
  have Ht := Lib.hid (Ht.out.fr hf)
  have Ho := Lib.hid (Ho.out.fr hf)
  have fy1 := fW0.trans hf (by simp)
  clear hbb hf fW0
  have c0 := row_cell hbt 0
  have c1 := row_cell hbt 1
  have c2 := row_cell hbt 2
  have c3 := row_cell hbt 3
  have c4 := row_cell hbt 4
  simp at c0 c1 c2 c3 c4
  have d0 := row_cell hbo 0
  have d1 := row_cell hbo 1
  have d2 := row_cell hbo 2
  have d3 := row_cell hbo 3
  have d4 := row_cell hbo 4
  simp at d0 d1 d2 d3 d4
  go_wp2_with fail
  obtain ⟨W2, hW2⟩ : ∃ W2, W2 = (y1.alloc (.cells #[.int .i64 t.serial, .int .i64 t.shw, .int .i64 t.place, .string ⟨t.first.toArray⟩, .slice a_t t.chain.length kt, .int .i64 o.serial, .int .i64 o.shw, .int .i64 o.place, .string ⟨o.first.toArray⟩, .slice ao o.chain.length ko] 24)).alloc (.cells #[.string ⟨tk.toArray⟩, .string ⟨se.toArray⟩] 9) := ⟨_, rfl⟩
  have hf : Fr [] y1 W2 := by rw [hW2]; exact ((Fr.refl [] y1).alloc _).alloc _
  have hbt := hf.at hbt (by simp)
  have hbo := hf.at hbo (by simp)
  have Ht := Lib.hid (Ht.out.fr hf)
  have Ho := Lib.hid (Ho.out.fr hf)
  have fW2 := fy1.trans hf (by simp)
  have hrow : W2.heap[y1.heap.size]? = some (.cells #[.int .i64 t.serial, .int .i64 t.shw, .int .i64 t.place, .string ⟨t.first.toArray⟩, .slice a_t t.chain.length kt, .int .i64 o.serial, .int .i64 o.shw, .int .i64 o.place, .string ⟨o.first.toArray⟩, .slice ao o.chain.length ko] 24 (0, 0)) := by rw [hW2]; exact heap_past _ (heap_new rfl)
  have hstr : Strs W2 (.slice (some ⟨y1.heap.size + 1, 0, none⟩) 2 2) [tk, se] := by rw [hW2]; exact strs_two (heap_new (by simp))
  rw [← hW2]
  clear c0 c1 c2 c3 c4 d0 d1 d2 d3 d4
  have htts : Tts W2 (.slice (some ⟨y1.heap.size, 0, none⟩) 2 2) [t, o] := tts_row hrow rfl (by decide) (fun i x hx => by
    match i with
    | 0 => obtain rfl : t = x := by simpa using hx
           exact ⟨rfl, rfl, rfl, rfl, a_t, kt, rfl, Ht.out⟩
    | 1 => obtain rfl : o = x := by simpa using hx
           exact ⟨rfl, rfl, rfl, rfl, ao, ko, rfl, Ho.out⟩
    | i + 2 => simp at hx)
  have HTTS := Lib.hid (And.intro htts hstr)
  clear htts hrow hstr hW2 hf fy1
  refine (small30_any _ _ [t, o] [tk, se] W2 HTTS.out.1 HTTS.out.2).mono ?_
  rintro e y2 ⟨rfl, hbb⟩
  have hf : Fr [] W2 y2 := Fr.ofBelow hbb
  have hbt := hf.at hbt (by simp)
  have hbo := hf.at hbo (by simp)
  have Ht := Lib.hid (Ht.out.fr hf)
  have Ho := Lib.hid (Ho.out.fr hf)
  have fy2 := fW2.trans hf (by simp)
  clear hbb hf fW2
  clear HTTS
  obtain ⟨sm, hsm⟩ : ∃ q, q = smallT [t, o] [tk, se] := ⟨_, rfl⟩
  rw [← hsm]
  cases sm with
  | false =>
    clear hsm
    go_wp2_with fail
    go_ret
    exact ⟨rfl, fy2.toBelow (by simp)⟩
  | true =>
    have hsp := smallT_parts hsm.symm
    have HST := Lib.hid (fewT_small (hsp.1 t (by simp)) (by decide) HN.out.1)
    have HTK := Lib.hid (And.intro (hsp.2 tk (by simp)) (hsp.2 se (by simp)))
    clear hsm hsp
    by_cases htx : 3000 < text.length
    · have u1 : decide ((3000 : Int) < (text.length : Int)) = true := by simp; omega
      clear htx
      go_wp2_with fail
      go_ret
      exact ⟨rfl, fy2.toBelow (by simp)⟩
    have u1 : decide ((3000 : Int) < (text.length : Int)) = false := by simp; omega
    have HTX := Lib.hid htx
    clear htx
    have c0 := row_cell hbt 0
    have c1 := row_cell hbt 1
    have c2 := row_cell hbt 2
    have c3 := row_cell hbt 3
    have c4 := row_cell hbt 4
    simp at c0 c1 c2 c3 c4
    go_wp2_with fail
    obtain ⟨x, er, hxe⟩ : ∃ x er, passR t tk se = (x, er) := ⟨_, _, rfl⟩
    have HXE := Lib.hid hxe
    clear hxe
    refine (pass_any _ t tk se y2 ⟨_, rfl, Ht.out⟩ HST.out (by have := HTK.out; omega) (by have := HTK.out; omega) (HT.out.t.fr fy2)).mono ?_
    rintro e y3 ⟨vv, rfl, hv, hbb⟩
    rw [HXE.out] at hv ⊢
    clear c0 c1 c2 c3 c4
    have hf : Fr [] y2 y3 := Fr.ofBelow hbb
    have hbt := hf.at hbt (by simp)
    have hbo := hf.at hbo (by simp)
    have Ht := Lib.hid (Ht.out.fr hf)
    have Ho := Lib.hid (Ho.out.fr hf)
    have fy3 := fy2.trans hf (by simp)
    clear hbb hf
    have hv : TtlR y3 vv x := hv
    obtain ⟨vx, rfl, hcx⟩ := hv
    obtain ⟨ax, kx, rfl, _, _, _⟩ := hcx.form
    have Hx := Lib.hid hcx
    clear hcx
    obtain ⟨W3, hW3⟩ : ∃ W, W = y3.alloc (.cells #[.int .i64 x.serial, .int .i64 x.shw, .int .i64 x.place, .string ⟨x.first.toArray⟩, .slice ax x.chain.length kx] 24) := ⟨_, rfl⟩
    obtain ⟨b1, eb1⟩ : ∃ q, q = y3.heap.size := ⟨_, rfl⟩
    have hf : Fr [] y3 W3 := by rw [hW3]; exact (Fr.refl [] y3).alloc _
    have hbt := hf.at hbt (by simp)
    have hbo := hf.at hbo (by simp)
    have Ht := Lib.hid (Ht.out.fr hf)
    have Ho := Lib.hid (Ho.out.fr hf)
    have Hx := Lib.hid (Hx.out.fr hf)
    have hbx : W3.heap[b1]? = some (.cells #[.int .i64 x.serial, .int .i64 x.shw, .int .i64 x.place, .string ⟨x.first.toArray⟩, .slice ax x.chain.length kx] 24 (0, 0)) := by rw [hW3]; exact heap_new eb1
    have fW3 := fy3.trans hf (by simp)
    clear hf
    have c0 := row_cell hbt 0
    have c1 := row_cell hbt 1
    have c2 := row_cell hbt 2
    have c3 := row_cell hbt 3
    have c4 := row_cell hbt 4
    simp at c0 c1 c2 c3 c4
    rw [hW3] at c0 c1 c2 c3 c4
    go_wp2_with fail
    rw [← hW3, ← eb1]
    clear hW3 eb1
    clear c0 c1 c2 c3 c4
    refine (rpass30_any _ t tk se W3 ⟨_, rfl, Ht.out⟩ HST.out (by have := HTK.out; omega) (by have := HTK.out; omega)).mono ?_
    rintro e y4 ⟨vv, rfl, hv, hbb⟩
    rw [HXE.out] at hv ⊢
    have hf : Fr [] W3 y4 := Fr.ofBelow hbb
    have hbt := hf.at hbt (by simp)
    have hbo := hf.at hbo (by simp)
    have hbx := hf.at hbx (by simp)
    have Ht := Lib.hid (Ht.out.fr hf)
    have Ho := Lib.hid (Ho.out.fr hf)
    have Hx := Lib.hid (Hx.out.fr hf)
    have fy4 := fW3.trans hf (by simp)
    clear hbb hf
    have hv : TtlR y4 vv x := hv
    obtain ⟨vy, rfl, hcy⟩ := hv
    obtain ⟨ay, ky, rfl, _, _, _⟩ := hcy.form
    have Hy := Lib.hid hcy
    clear hcy
    obtain ⟨W4, hW4⟩ : ∃ W, W = y4.alloc (.cells #[.int .i64 x.serial, .int .i64 x.shw, .int .i64 x.place, .string ⟨x.first.toArray⟩, .slice ay x.chain.length ky] 24) := ⟨_, rfl⟩
    obtain ⟨b2, eb2⟩ : ∃ q, q = y4.heap.size := ⟨_, rfl⟩
    have hf : Fr [] y4 W4 := by rw [hW4]; exact (Fr.refl [] y4).alloc _
    have hbt := hf.at hbt (by simp)
    have hbo := hf.at hbo (by simp)
    have hbx := hf.at hbx (by simp)
    have Ht := Lib.hid (Ht.out.fr hf)
    have Ho := Lib.hid (Ho.out.fr hf)
    have Hx := Lib.hid (Hx.out.fr hf)
    have Hy := Lib.hid (Hy.out.fr hf)
    have hby : W4.heap[b2]? = some (.cells #[.int .i64 x.serial, .int .i64 x.shw, .int .i64 x.place, .string ⟨x.first.toArray⟩, .slice ay x.chain.length ky] 24 (0, 0)) := by rw [hW4]; exact heap_new eb2
    have fW4 := fy4.trans hf (by simp)
    clear hf
    go_wp2_with fail
    rw [← hW4, ← eb2]
    clear hW4 eb2
    refine (tparse_any text W4 (by have := HTX.out; omega) (HT.out.fr fW4)).mono ?_
    rintro e y5 ⟨o1, hpa, vv, rfl, hv, hbb⟩
    have hf : Fr [] W4 y5 := Fr.ofBelow hbb
    have hbt := hf.at hbt (by simp)
    have hbo := hf.at hbo (by simp)
    have hbx := hf.at hbx (by simp)
    have hby := hf.at hby (by simp)
    have Ht := Lib.hid (Ht.out.fr hf)
    have Ho := Lib.hid (Ho.out.fr hf)
    have Hx := Lib.hid (Hx.out.fr hf)
    have Hy := Lib.hid (Hy.out.fr hf)
    have fy5 := fW4.trans hf (by simp)
    clear hbb hf
    obtain ⟨g, hg⟩ : ∃ g, g = o1.getD zeroTtl := ⟨_, rfl⟩
    obtain ⟨eg, heg⟩ : ∃ q : Int, q = if o1.isSome then 0 else 4 := ⟨_, rfl⟩
    rw [← hg] at hv
    rw [← heg]
    have HGE := Lib.hid (And.intro hg heg)
    have HPA := Lib.hid hpa
    clear hg heg hpa
    obtain ⟨vg, rfl, hcg⟩ := hv
    obtain ⟨ag, kg, rfl, _, _, _⟩ := hcg.form
    have Hg := Lib.hid hcg
    clear hcg
    obtain ⟨W5, hW5⟩ : ∃ W, W = y5.alloc (.cells #[.int .i64 g.serial, .int .i64 g.shw, .int .i64 g.place, .string ⟨g.first.toArray⟩, .slice ag g.chain.length kg] 24) := ⟨_, rfl⟩
    obtain ⟨b3, eb3⟩ : ∃ q, q = y5.heap.size := ⟨_, rfl⟩
    have hf : Fr [] y5 W5 := by rw [hW5]; exact (Fr.refl [] y5).alloc _
    have hbt := hf.at hbt (by simp)
    have hbo := hf.at hbo (by simp)
    have hbx := hf.at hbx (by simp)
    have hby := hf.at hby (by simp)
    have Ht := Lib.hid (Ht.out.fr hf)
    have Ho := Lib.hid (Ho.out.fr hf)
    have Hx := Lib.hid (Hx.out.fr hf)
    have Hy := Lib.hid (Hy.out.fr hf)
    have Hg := Lib.hid (Hg.out.fr hf)
    have hbg : W5.heap[b3]? = some (.cells #[.int .i64 g.serial, .int .i64 g.shw, .int .i64 g.place, .string ⟨g.first.toArray⟩, .slice ag g.chain.length kg] 24 (0, 0)) := by rw [hW5]; exact heap_new eb3
    have fW5 := fy5.trans hf (by simp)
    clear hf
    go_wp2_with fail
    rw [← hW5, ← eb3]
    clear hW5 eb3
    refine (rparse30_any text W5 (by have := HTX.out; omega)).mono ?_
    rintro e y6 ⟨o2, hpb, vv, rfl, hv, hbb⟩
    obtain rfl : o2 = o1 := hpb.eq HPA.out
    clear hpb
    have hf : Fr [] W5 y6 := Fr.ofBelow hbb
    have hbt := hf.at hbt (by simp)
    have hbo := hf.at hbo (by simp)
    have hbx := hf.at hbx (by simp)
    have hby := hf.at hby (by simp)
    have hbg := hf.at hbg (by simp)
    have Ht := Lib.hid (Ht.out.fr hf)
    have Ho := Lib.hid (Ho.out.fr hf)
    have Hx := Lib.hid (Hx.out.fr hf)
    have Hy := Lib.hid (Hy.out.fr hf)
    have Hg := Lib.hid (Hg.out.fr hf)
    have fy6 := fW5.trans hf (by simp)
    clear hbb hf
    rw [← HGE.out.1] at hv
    rw [← HGE.out.2]
    obtain ⟨vh, rfl, hch⟩ := hv
    obtain ⟨ah, kh, rfl, _, _, _⟩ := hch.form
    have Hh := Lib.hid hch
    clear hch
    obtain ⟨W6, hW6⟩ : ∃ W, W = y6.alloc (.cells #[.int .i64 g.serial, .int .i64 g.shw, .int .i64 g.place, .string ⟨g.first.toArray⟩, .slice ah g.chain.length kh] 24) := ⟨_, rfl⟩
    obtain ⟨b4, eb4⟩ : ∃ q, q = y6.heap.size := ⟨_, rfl⟩
    have hf : Fr [] y6 W6 := by rw [hW6]; exact (Fr.refl [] y6).alloc _
    have hbt := hf.at hbt (by simp)
    have hbo := hf.at hbo (by simp)
    have hbx := hf.at hbx (by simp)
    have hby := hf.at hby (by simp)
    have hbg := hf.at hbg (by simp)
    have Ht := Lib.hid (Ht.out.fr hf)
    have Ho := Lib.hid (Ho.out.fr hf)
    have Hx := Lib.hid (Hx.out.fr hf)
    have Hy := Lib.hid (Hy.out.fr hf)
    have Hg := Lib.hid (Hg.out.fr hf)
    have Hh := Lib.hid (Hh.out.fr hf)
    have hbh : W6.heap[b4]? = some (.cells #[.int .i64 g.serial, .int .i64 g.shw, .int .i64 g.place, .string ⟨g.first.toArray⟩, .slice ah g.chain.length kh] 24 (0, 0)) := by rw [hW6]; exact heap_new eb4
    have fW6 := fy6.trans hf (by simp)
    clear hf
    go_wp2_with fail
    rw [← hW6, ← eb4]
    clear hW6 eb4
    have c0 := row_cell hbt 0
    have c1 := row_cell hbt 1
    have c2 := row_cell hbt 2
    have c3 := row_cell hbt 3
    have c4 := row_cell hbt 4
    simp at c0 c1 c2 c3 c4
    have d0 := row_cell hbo 0
    have d1 := row_cell hbo 1
    have d2 := row_cell hbo 2
    have d3 := row_cell hbo 3
    have d4 := row_cell hbo 4
    simp at d0 d1 d2 d3 d4
    have k0 := row_cell hbx 0
    have k1 := row_cell hbx 1
    have k2 := row_cell hbx 2
    have k3 := row_cell hbx 3
    have k4 := row_cell hbx 4
    simp at k0 k1 k2 k3 k4
    have l0 := row_cell hby 0
    have l1 := row_cell hby 1
    have l2 := row_cell hby 2
    have l3 := row_cell hby 3
    have l4 := row_cell hby 4
    simp at l0 l1 l2 l3 l4
    have m0 := row_cell hbg 0
    have m1 := row_cell hbg 1
    have m2 := row_cell hbg 2
    have m3 := row_cell hbg 3
    have m4 := row_cell hbg 4
    simp at m0 m1 m2 m3 m4
    have n0 := row_cell hbh 0
    have n1 := row_cell hbh 1
    have n2 := row_cell hbh 2
    have n3 := row_cell hbh 3
    have n4 := row_cell hbh 4
    simp at n0 n1 n2 n3 n4
    have gr0 : Fr [] W6 W6.drew := (Fr.refl [] W6).drew
    have hSr0 : W6.drew.cell? ⟨p, 0, none⟩ = some (.int .i64 t.serial) ∧ W6.drew.cell? ⟨p, 1, none⟩ = some (.int .i64 t.shw) ∧ W6.drew.cell? ⟨p, 2, none⟩ = some (.int .i64 t.place) ∧ W6.drew.cell? ⟨p, 3, none⟩ = some (.string ⟨t.first.toArray⟩) ∧ W6.drew.cell? ⟨p, 4, none⟩ = some (.slice a_t t.chain.length kt) ∧ W6.drew.cell? ⟨b1, 0, none⟩ = some (.int .i64 x.serial) ∧ W6.drew.cell? ⟨b1, 1, none⟩ = some (.int .i64 x.shw) ∧ W6.drew.cell? ⟨b1, 2, none⟩ = some (.int .i64 x.place) ∧ W6.drew.cell? ⟨b1, 3, none⟩ = some (.string ⟨x.first.toArray⟩) ∧ W6.drew.cell? ⟨b1, 4, none⟩ = some (.slice ax x.chain.length kx) ∧ W6.drew.cell? ⟨b2, 0, none⟩ = some (.int .i64 x.serial) ∧ W6.drew.cell? ⟨b2, 1, none⟩ = some (.int .i64 x.shw) ∧ W6.drew.cell? ⟨b2, 2, none⟩ = some (.int .i64 x.place) ∧ W6.drew.cell? ⟨b2, 3, none⟩ = some (.string ⟨x.first.toArray⟩) ∧ W6.drew.cell? ⟨b2, 4, none⟩ = some (.slice ay x.chain.length ky) ∧ W6.drew.cell? ⟨b3, 0, none⟩ = some (.int .i64 g.serial) ∧ W6.drew.cell? ⟨b3, 1, none⟩ = some (.int .i64 g.shw) ∧ W6.drew.cell? ⟨b3, 2, none⟩ = some (.int .i64 g.place) ∧ W6.drew.cell? ⟨b3, 3, none⟩ = some (.string ⟨g.first.toArray⟩) ∧ W6.drew.cell? ⟨b3, 4, none⟩ = some (.slice ag g.chain.length kg) ∧ W6.drew.cell? ⟨b4, 0, none⟩ = some (.int .i64 g.serial) ∧ W6.drew.cell? ⟨b4, 1, none⟩ = some (.int .i64 g.shw) ∧ W6.drew.cell? ⟨b4, 2, none⟩ = some (.int .i64 g.place) ∧ W6.drew.cell? ⟨b4, 3, none⟩ = some (.string ⟨g.first.toArray⟩) ∧ W6.drew.cell? ⟨b4, 4, none⟩ = some (.slice ah g.chain.length kh) := ⟨gr0.cell c0 (by simp), gr0.cell c1 (by simp), gr0.cell c2 (by simp), gr0.cell c3 (by simp), gr0.cell c4 (by simp), gr0.cell k0 (by simp), gr0.cell k1 (by simp), gr0.cell k2 (by simp), gr0.cell k3 (by simp), gr0.cell k4 (by simp), gr0.cell l0 (by simp), gr0.cell l1 (by simp), gr0.cell l2 (by simp), gr0.cell l3 (by simp), gr0.cell l4 (by simp), gr0.cell m0 (by simp), gr0.cell m1 (by simp), gr0.cell m2 (by simp), gr0.cell m3 (by simp), gr0.cell m4 (by simp), gr0.cell n0 (by simp), gr0.cell n1 (by simp), gr0.cell n2 (by simp), gr0.cell n3 (by simp), gr0.cell n4 (by simp)⟩
    refine region_held 100 (fun W' => W'.cell? ⟨p, 0, none⟩ = some (.int .i64 t.serial) ∧ W'.cell? ⟨p, 1, none⟩ = some (.int .i64 t.shw) ∧ W'.cell? ⟨p, 2, none⟩ = some (.int .i64 t.place) ∧ W'.cell? ⟨p, 3, none⟩ = some (.string ⟨t.first.toArray⟩) ∧ W'.cell? ⟨p, 4, none⟩ = some (.slice a_t t.chain.length kt) ∧ W'.cell? ⟨b1, 0, none⟩ = some (.int .i64 x.serial) ∧ W'.cell? ⟨b1, 1, none⟩ = some (.int .i64 x.shw) ∧ W'.cell? ⟨b1, 2, none⟩ = some (.int .i64 x.place) ∧ W'.cell? ⟨b1, 3, none⟩ = some (.string ⟨x.first.toArray⟩) ∧ W'.cell? ⟨b1, 4, none⟩ = some (.slice ax x.chain.length kx) ∧ W'.cell? ⟨b2, 0, none⟩ = some (.int .i64 x.serial) ∧ W'.cell? ⟨b2, 1, none⟩ = some (.int .i64 x.shw) ∧ W'.cell? ⟨b2, 2, none⟩ = some (.int .i64 x.place) ∧ W'.cell? ⟨b2, 3, none⟩ = some (.string ⟨x.first.toArray⟩) ∧ W'.cell? ⟨b2, 4, none⟩ = some (.slice ay x.chain.length ky) ∧ W'.cell? ⟨b3, 0, none⟩ = some (.int .i64 g.serial) ∧ W'.cell? ⟨b3, 1, none⟩ = some (.int .i64 g.shw) ∧ W'.cell? ⟨b3, 2, none⟩ = some (.int .i64 g.place) ∧ W'.cell? ⟨b3, 3, none⟩ = some (.string ⟨g.first.toArray⟩) ∧ W'.cell? ⟨b3, 4, none⟩ = some (.slice ag g.chain.length kg) ∧ W'.cell? ⟨b4, 0, none⟩ = some (.int .i64 g.serial) ∧ W'.cell? ⟨b4, 1, none⟩ = some (.int .i64 g.shw) ∧ W'.cell? ⟨b4, 2, none⟩ = some (.int .i64 g.place) ∧ W'.cell? ⟨b4, 3, none⟩ = some (.string ⟨g.first.toArray⟩) ∧ W'.cell? ⟨b4, 4, none⟩ = some (.slice ah g.chain.length kh)) hmx ?_
    change Held _ _ _ _ _ _ 35 (Array.replicate 35 false) _ _
    refine hd_take 0 (v := .int .i64 er) rfl (by kernel_rfl) (by kernel_rfl) (by kernel_rfl) rfl hSr0 (fun W' hS => by go_simp) rfl ?_
    refine hd_take 1 (v := .int .i64 er) rfl (by kernel_rfl) (by kernel_rfl) (by kernel_rfl) rfl hSr0 (fun W' hS => by go_simp) rfl ?_
    try simp only [Act.put, List.setIfInBounds_toArray, List.set_cons_zero, List.set_cons_succ]
    refine hd_take 2 (v := .bool true) rfl (by kernel_rfl) (by kernel_rfl) (by kernel_rfl) rfl hSr0 (fun W' hS => by go_simp) rfl ?_
    try simp only [Act.put, List.setIfInBounds_toArray, List.set_cons_zero, List.set_cons_succ]
    refine hd_take 3 (v := .bool true) rfl (by kernel_rfl) (by kernel_rfl) (by kernel_rfl) rfl hSr0 (fun W' hS => by go_simp) rfl ?_
    try simp only [Act.put, List.setIfInBounds_toArray, List.set_cons_zero, List.set_cons_succ]
    refine hd_take 4 (v := .agg #[.int .i64 x.serial, .int .i64 x.shw, .int .i64 x.place, .string ⟨x.first.toArray⟩, .slice ax x.chain.length kx]) rfl (by kernel_rfl) (by kernel_rfl) (by kernel_rfl) rfl hSr0 (fun W' hS => by obtain ⟨s0, s1, s2, s3, s4, s5, s6, s7, s8, s9, s10, s11, s12, s13, s14, s15, s16, s17, s18, s19, s20, s21, s22, s23, s24⟩ := hS; go_simp) rfl ?_
    refine hd_take 5 (v := .agg #[.int .i64 x.serial, .int .i64 x.shw, .int .i64 x.place, .string ⟨x.first.toArray⟩, .slice ay x.chain.length ky]) rfl (by kernel_rfl) (by kernel_rfl) (by kernel_rfl) rfl hSr0 (fun W' hS => by obtain ⟨s0, s1, s2, s3, s4, s5, s6, s7, s8, s9, s10, s11, s12, s13, s14, s15, s16, s17, s18, s19, s20, s21, s22, s23, s24⟩ := hS; go_simp) rfl ?_
    try simp only [Act.put, List.setIfInBounds_toArray, List.set_cons_zero, List.set_cons_succ]
    refine hd_one 6 (by kernel_rfl) rfl (by kernel_rfl) rfl (fun K' hK => ?_)
    go_simp
    refine (rsame30_any _ _ x x W6.drew ⟨_, rfl, Hx.out.fr gr0⟩ ⟨_, rfl, Hy.out.fr gr0⟩).mono ?_
    rintro e yr1 ⟨rfl, hbb⟩
    have gr1 : Fr [] W6 yr1 := gr0.below hbb gr0.size
    clear hbb
    have hSr1 : yr1.cell? ⟨p, 0, none⟩ = some (.int .i64 t.serial) ∧ yr1.cell? ⟨p, 1, none⟩ = some (.int .i64 t.shw) ∧ yr1.cell? ⟨p, 2, none⟩ = some (.int .i64 t.place) ∧ yr1.cell? ⟨p, 3, none⟩ = some (.string ⟨t.first.toArray⟩) ∧ yr1.cell? ⟨p, 4, none⟩ = some (.slice a_t t.chain.length kt) ∧ yr1.cell? ⟨b1, 0, none⟩ = some (.int .i64 x.serial) ∧ yr1.cell? ⟨b1, 1, none⟩ = some (.int .i64 x.shw) ∧ yr1.cell? ⟨b1, 2, none⟩ = some (.int .i64 x.place) ∧ yr1.cell? ⟨b1, 3, none⟩ = some (.string ⟨x.first.toArray⟩) ∧ yr1.cell? ⟨b1, 4, none⟩ = some (.slice ax x.chain.length kx) ∧ yr1.cell? ⟨b2, 0, none⟩ = some (.int .i64 x.serial) ∧ yr1.cell? ⟨b2, 1, none⟩ = some (.int .i64 x.shw) ∧ yr1.cell? ⟨b2, 2, none⟩ = some (.int .i64 x.place) ∧ yr1.cell? ⟨b2, 3, none⟩ = some (.string ⟨x.first.toArray⟩) ∧ yr1.cell? ⟨b2, 4, none⟩ = some (.slice ay x.chain.length ky) ∧ yr1.cell? ⟨b3, 0, none⟩ = some (.int .i64 g.serial) ∧ yr1.cell? ⟨b3, 1, none⟩ = some (.int .i64 g.shw) ∧ yr1.cell? ⟨b3, 2, none⟩ = some (.int .i64 g.place) ∧ yr1.cell? ⟨b3, 3, none⟩ = some (.string ⟨g.first.toArray⟩) ∧ yr1.cell? ⟨b3, 4, none⟩ = some (.slice ag g.chain.length kg) ∧ yr1.cell? ⟨b4, 0, none⟩ = some (.int .i64 g.serial) ∧ yr1.cell? ⟨b4, 1, none⟩ = some (.int .i64 g.shw) ∧ yr1.cell? ⟨b4, 2, none⟩ = some (.int .i64 g.place) ∧ yr1.cell? ⟨b4, 3, none⟩ = some (.string ⟨g.first.toArray⟩) ∧ yr1.cell? ⟨b4, 4, none⟩ = some (.slice ah g.chain.length kh) := ⟨gr1.cell c0 (by simp), gr1.cell c1 (by simp), gr1.cell c2 (by simp), gr1.cell c3 (by simp), gr1.cell c4 (by simp), gr1.cell k0 (by simp), gr1.cell k1 (by simp), gr1.cell k2 (by simp), gr1.cell k3 (by simp), gr1.cell k4 (by simp), gr1.cell l0 (by simp), gr1.cell l1 (by simp), gr1.cell l2 (by simp), gr1.cell l3 (by simp), gr1.cell l4 (by simp), gr1.cell m0 (by simp), gr1.cell m1 (by simp), gr1.cell m2 (by simp), gr1.cell m3 (by simp), gr1.cell m4 (by simp), gr1.cell n0 (by simp), gr1.cell n1 (by simp), gr1.cell n2 (by simp), gr1.cell n3 (by simp), gr1.cell n4 (by simp)⟩
    refine hK.out _ _ (fun _ => hSr1) ?_
    clear hK K'
    try simp only [Act.put, List.setIfInBounds_toArray, List.set_cons_zero, List.set_cons_succ]
    rw [sameT_refl]
    refine hd_take 7 (v := .bool true) rfl (by kernel_rfl) (by kernel_rfl) (by kernel_rfl) rfl hSr1 (fun W' hS => by go_simp) rfl ?_
    try simp only [Act.put, List.setIfInBounds_toArray, List.set_cons_zero, List.set_cons_succ]
    refine hd_take 8 (v := .bool true) rfl (by kernel_rfl) (by kernel_rfl) (by kernel_rfl) rfl hSr1 (fun W' hS => by go_simp) rfl ?_
    try simp only [Act.put, List.setIfInBounds_toArray, List.set_cons_zero, List.set_cons_succ]
    refine hd_take 9 (v := .int .i64 eg) rfl (by kernel_rfl) (by kernel_rfl) (by kernel_rfl) rfl hSr1 (fun W' hS => by go_simp) rfl ?_
    refine hd_take 10 (v := .int .i64 eg) rfl (by kernel_rfl) (by kernel_rfl) (by kernel_rfl) rfl hSr1 (fun W' hS => by go_simp) rfl ?_
    try simp only [Act.put, List.setIfInBounds_toArray, List.set_cons_zero, List.set_cons_succ]
    refine hd_take 11 (v := .bool true) rfl (by kernel_rfl) (by kernel_rfl) (by kernel_rfl) rfl hSr1 (fun W' hS => by go_simp) rfl ?_
    try simp only [Act.put, List.setIfInBounds_toArray, List.set_cons_zero, List.set_cons_succ]
    refine hd_take 12 (v := .bool true) rfl (by kernel_rfl) (by kernel_rfl) (by kernel_rfl) rfl hSr1 (fun W' hS => by go_simp) rfl ?_
    try simp only [Act.put, List.setIfInBounds_toArray, List.set_cons_zero, List.set_cons_succ]
    refine hd_take 13 (v := .bool true) rfl (by kernel_rfl) (by kernel_rfl) (by kernel_rfl) rfl hSr1 (fun W' hS => by go_simp) rfl ?_
    try simp only [Act.put, List.setIfInBounds_toArray, List.set_cons_zero, List.set_cons_succ]
    refine hd_take 14 (v := .agg #[.int .i64 g.serial, .int .i64 g.shw, .int .i64 g.place, .string ⟨g.first.toArray⟩, .slice ag g.chain.length kg]) rfl (by kernel_rfl) (by kernel_rfl) (by kernel_rfl) rfl hSr1 (fun W' hS => by obtain ⟨s0, s1, s2, s3, s4, s5, s6, s7, s8, s9, s10, s11, s12, s13, s14, s15, s16, s17, s18, s19, s20, s21, s22, s23, s24⟩ := hS; go_simp) rfl ?_
    refine hd_take 15 (v := .agg #[.int .i64 g.serial, .int .i64 g.shw, .int .i64 g.place, .string ⟨g.first.toArray⟩, .slice ah g.chain.length kh]) rfl (by kernel_rfl) (by kernel_rfl) (by kernel_rfl) rfl hSr1 (fun W' hS => by obtain ⟨s0, s1, s2, s3, s4, s5, s6, s7, s8, s9, s10, s11, s12, s13, s14, s15, s16, s17, s18, s19, s20, s21, s22, s23, s24⟩ := hS; go_simp) rfl ?_
    try simp only [Act.put, List.setIfInBounds_toArray, List.set_cons_zero, List.set_cons_succ]
    refine hd_one 16 (by kernel_rfl) rfl (by kernel_rfl) rfl (fun K' hK => ?_)
    go_simp
    refine (rsame30_any _ _ g g yr1 ⟨_, rfl, Hg.out.fr gr1⟩ ⟨_, rfl, Hh.out.fr gr1⟩).mono ?_
    rintro e yr2 ⟨rfl, hbb⟩
    have gr2 : Fr [] W6 yr2 := gr1.below hbb gr1.size
    clear hbb
    have hSr2 : yr2.cell? ⟨p, 0, none⟩ = some (.int .i64 t.serial) ∧ yr2.cell? ⟨p, 1, none⟩ = some (.int .i64 t.shw) ∧ yr2.cell? ⟨p, 2, none⟩ = some (.int .i64 t.place) ∧ yr2.cell? ⟨p, 3, none⟩ = some (.string ⟨t.first.toArray⟩) ∧ yr2.cell? ⟨p, 4, none⟩ = some (.slice a_t t.chain.length kt) ∧ yr2.cell? ⟨b1, 0, none⟩ = some (.int .i64 x.serial) ∧ yr2.cell? ⟨b1, 1, none⟩ = some (.int .i64 x.shw) ∧ yr2.cell? ⟨b1, 2, none⟩ = some (.int .i64 x.place) ∧ yr2.cell? ⟨b1, 3, none⟩ = some (.string ⟨x.first.toArray⟩) ∧ yr2.cell? ⟨b1, 4, none⟩ = some (.slice ax x.chain.length kx) ∧ yr2.cell? ⟨b2, 0, none⟩ = some (.int .i64 x.serial) ∧ yr2.cell? ⟨b2, 1, none⟩ = some (.int .i64 x.shw) ∧ yr2.cell? ⟨b2, 2, none⟩ = some (.int .i64 x.place) ∧ yr2.cell? ⟨b2, 3, none⟩ = some (.string ⟨x.first.toArray⟩) ∧ yr2.cell? ⟨b2, 4, none⟩ = some (.slice ay x.chain.length ky) ∧ yr2.cell? ⟨b3, 0, none⟩ = some (.int .i64 g.serial) ∧ yr2.cell? ⟨b3, 1, none⟩ = some (.int .i64 g.shw) ∧ yr2.cell? ⟨b3, 2, none⟩ = some (.int .i64 g.place) ∧ yr2.cell? ⟨b3, 3, none⟩ = some (.string ⟨g.first.toArray⟩) ∧ yr2.cell? ⟨b3, 4, none⟩ = some (.slice ag g.chain.length kg) ∧ yr2.cell? ⟨b4, 0, none⟩ = some (.int .i64 g.serial) ∧ yr2.cell? ⟨b4, 1, none⟩ = some (.int .i64 g.shw) ∧ yr2.cell? ⟨b4, 2, none⟩ = some (.int .i64 g.place) ∧ yr2.cell? ⟨b4, 3, none⟩ = some (.string ⟨g.first.toArray⟩) ∧ yr2.cell? ⟨b4, 4, none⟩ = some (.slice ah g.chain.length kh) := ⟨gr2.cell c0 (by simp), gr2.cell c1 (by simp), gr2.cell c2 (by simp), gr2.cell c3 (by simp), gr2.cell c4 (by simp), gr2.cell k0 (by simp), gr2.cell k1 (by simp), gr2.cell k2 (by simp), gr2.cell k3 (by simp), gr2.cell k4 (by simp), gr2.cell l0 (by simp), gr2.cell l1 (by simp), gr2.cell l2 (by simp), gr2.cell l3 (by simp), gr2.cell l4 (by simp), gr2.cell m0 (by simp), gr2.cell m1 (by simp), gr2.cell m2 (by simp), gr2.cell m3 (by simp), gr2.cell m4 (by simp), gr2.cell n0 (by simp), gr2.cell n1 (by simp), gr2.cell n2 (by simp), gr2.cell n3 (by simp), gr2.cell n4 (by simp)⟩
    refine hK.out _ _ (fun _ => hSr2) ?_
    clear hK K'
    try simp only [Act.put, List.setIfInBounds_toArray, List.set_cons_zero, List.set_cons_succ]
    rw [sameT_refl]
    refine hd_take 17 (v := .bool true) rfl (by kernel_rfl) (by kernel_rfl) (by kernel_rfl) rfl hSr2 (fun W' hS => by go_simp) rfl ?_
    try simp only [Act.put, List.setIfInBounds_toArray, List.set_cons_zero, List.set_cons_succ]
    refine hd_take 18 (v := .bool true) rfl (by kernel_rfl) (by kernel_rfl) (by kernel_rfl) rfl hSr2 (fun W' hS => by go_simp) rfl ?_
    try simp only [Act.put, List.setIfInBounds_toArray, List.set_cons_zero, List.set_cons_succ]
    refine hd_take 19 (v := .agg #[.int .i64 t.serial, .int .i64 t.shw, .int .i64 t.place, .string ⟨t.first.toArray⟩, .slice a_t t.chain.length kt]) rfl (by kernel_rfl) (by kernel_rfl) (by kernel_rfl) rfl hSr2 (fun W' hS => by obtain ⟨s0, s1, s2, s3, s4, s5, s6, s7, s8, s9, s10, s11, s12, s13, s14, s15, s16, s17, s18, s19, s20, s21, s22, s23, s24⟩ := hS; go_simp) rfl ?_
    refine hd_take 20 (v := .string ⟨tk.toArray⟩) rfl (by kernel_rfl) (by kernel_rfl) (by kernel_rfl) rfl hSr2 (fun W' hS => by go_simp) rfl ?_
    refine hd_take 22 (v := .agg #[.int .i64 t.serial, .int .i64 t.shw, .int .i64 t.place, .string ⟨t.first.toArray⟩, .slice a_t t.chain.length kt]) rfl (by kernel_rfl) (by kernel_rfl) (by kernel_rfl) rfl hSr2 (fun W' hS => by obtain ⟨s0, s1, s2, s3, s4, s5, s6, s7, s8, s9, s10, s11, s12, s13, s14, s15, s16, s17, s18, s19, s20, s21, s22, s23, s24⟩ := hS; go_simp) rfl ?_
    refine hd_take 23 (v := .string ⟨tk.toArray⟩) rfl (by kernel_rfl) (by kernel_rfl) (by kernel_rfl) rfl hSr2 (fun W' hS => by go_simp) rfl ?_
    try simp only [Act.put, List.setIfInBounds_toArray, List.set_cons_zero, List.set_cons_succ]
    refine hd_one 21 (by kernel_rfl) rfl (by kernel_rfl) rfl (fun K' hK => ?_)
    go_simp
    refine (message_any _ t tk yr2 ⟨_, rfl, Ht.out.fr gr2⟩ HST.out (by have := HTK.out; omega) (HT.out.t.fr (fW6.trans gr2 (by simp)))).mono ?_
    rintro e yr3 ⟨rfl, hbb⟩
    have gr3 : Fr [] W6 yr3 := gr2.below hbb gr2.size
    clear hbb
    have hSr3 : yr3.cell? ⟨p, 0, none⟩ = some (.int .i64 t.serial) ∧ yr3.cell? ⟨p, 1, none⟩ = some (.int .i64 t.shw) ∧ yr3.cell? ⟨p, 2, none⟩ = some (.int .i64 t.place) ∧ yr3.cell? ⟨p, 3, none⟩ = some (.string ⟨t.first.toArray⟩) ∧ yr3.cell? ⟨p, 4, none⟩ = some (.slice a_t t.chain.length kt) ∧ yr3.cell? ⟨b1, 0, none⟩ = some (.int .i64 x.serial) ∧ yr3.cell? ⟨b1, 1, none⟩ = some (.int .i64 x.shw) ∧ yr3.cell? ⟨b1, 2, none⟩ = some (.int .i64 x.place) ∧ yr3.cell? ⟨b1, 3, none⟩ = some (.string ⟨x.first.toArray⟩) ∧ yr3.cell? ⟨b1, 4, none⟩ = some (.slice ax x.chain.length kx) ∧ yr3.cell? ⟨b2, 0, none⟩ = some (.int .i64 x.serial) ∧ yr3.cell? ⟨b2, 1, none⟩ = some (.int .i64 x.shw) ∧ yr3.cell? ⟨b2, 2, none⟩ = some (.int .i64 x.place) ∧ yr3.cell? ⟨b2, 3, none⟩ = some (.string ⟨x.first.toArray⟩) ∧ yr3.cell? ⟨b2, 4, none⟩ = some (.slice ay x.chain.length ky) ∧ yr3.cell? ⟨b3, 0, none⟩ = some (.int .i64 g.serial) ∧ yr3.cell? ⟨b3, 1, none⟩ = some (.int .i64 g.shw) ∧ yr3.cell? ⟨b3, 2, none⟩ = some (.int .i64 g.place) ∧ yr3.cell? ⟨b3, 3, none⟩ = some (.string ⟨g.first.toArray⟩) ∧ yr3.cell? ⟨b3, 4, none⟩ = some (.slice ag g.chain.length kg) ∧ yr3.cell? ⟨b4, 0, none⟩ = some (.int .i64 g.serial) ∧ yr3.cell? ⟨b4, 1, none⟩ = some (.int .i64 g.shw) ∧ yr3.cell? ⟨b4, 2, none⟩ = some (.int .i64 g.place) ∧ yr3.cell? ⟨b4, 3, none⟩ = some (.string ⟨g.first.toArray⟩) ∧ yr3.cell? ⟨b4, 4, none⟩ = some (.slice ah g.chain.length kh) := ⟨gr3.cell c0 (by simp), gr3.cell c1 (by simp), gr3.cell c2 (by simp), gr3.cell c3 (by simp), gr3.cell c4 (by simp), gr3.cell k0 (by simp), gr3.cell k1 (by simp), gr3.cell k2 (by simp), gr3.cell k3 (by simp), gr3.cell k4 (by simp), gr3.cell l0 (by simp), gr3.cell l1 (by simp), gr3.cell l2 (by simp), gr3.cell l3 (by simp), gr3.cell l4 (by simp), gr3.cell m0 (by simp), gr3.cell m1 (by simp), gr3.cell m2 (by simp), gr3.cell m3 (by simp), gr3.cell m4 (by simp), gr3.cell n0 (by simp), gr3.cell n1 (by simp), gr3.cell n2 (by simp), gr3.cell n3 (by simp), gr3.cell n4 (by simp)⟩
    refine hK.out _ _ (fun _ => hSr3) ?_
    clear hK K'
    try simp only [Act.put, List.setIfInBounds_toArray, List.set_cons_zero, List.set_cons_succ]
    obtain ⟨ms, hms⟩ : ∃ q, q = msgT t tk := ⟨_, rfl⟩
    rw [← hms]
    refine hd_one 24 (by kernel_rfl) rfl (by kernel_rfl) rfl (fun K' hK => ?_)
    go_simp
    refine (rmessage30_any _ t tk yr3 ⟨_, rfl, Ht.out.fr gr3⟩ HST.out (by have := HTK.out; omega)).mono ?_
    rintro e yr4 ⟨rfl, hbb⟩
    have gr4 : Fr [] W6 yr4 := gr3.below hbb gr3.size
    clear hbb
    have hSr4 : yr4.cell? ⟨p, 0, none⟩ = some (.int .i64 t.serial) ∧ yr4.cell? ⟨p, 1, none⟩ = some (.int .i64 t.shw) ∧ yr4.cell? ⟨p, 2, none⟩ = some (.int .i64 t.place) ∧ yr4.cell? ⟨p, 3, none⟩ = some (.string ⟨t.first.toArray⟩) ∧ yr4.cell? ⟨p, 4, none⟩ = some (.slice a_t t.chain.length kt) ∧ yr4.cell? ⟨b1, 0, none⟩ = some (.int .i64 x.serial) ∧ yr4.cell? ⟨b1, 1, none⟩ = some (.int .i64 x.shw) ∧ yr4.cell? ⟨b1, 2, none⟩ = some (.int .i64 x.place) ∧ yr4.cell? ⟨b1, 3, none⟩ = some (.string ⟨x.first.toArray⟩) ∧ yr4.cell? ⟨b1, 4, none⟩ = some (.slice ax x.chain.length kx) ∧ yr4.cell? ⟨b2, 0, none⟩ = some (.int .i64 x.serial) ∧ yr4.cell? ⟨b2, 1, none⟩ = some (.int .i64 x.shw) ∧ yr4.cell? ⟨b2, 2, none⟩ = some (.int .i64 x.place) ∧ yr4.cell? ⟨b2, 3, none⟩ = some (.string ⟨x.first.toArray⟩) ∧ yr4.cell? ⟨b2, 4, none⟩ = some (.slice ay x.chain.length ky) ∧ yr4.cell? ⟨b3, 0, none⟩ = some (.int .i64 g.serial) ∧ yr4.cell? ⟨b3, 1, none⟩ = some (.int .i64 g.shw) ∧ yr4.cell? ⟨b3, 2, none⟩ = some (.int .i64 g.place) ∧ yr4.cell? ⟨b3, 3, none⟩ = some (.string ⟨g.first.toArray⟩) ∧ yr4.cell? ⟨b3, 4, none⟩ = some (.slice ag g.chain.length kg) ∧ yr4.cell? ⟨b4, 0, none⟩ = some (.int .i64 g.serial) ∧ yr4.cell? ⟨b4, 1, none⟩ = some (.int .i64 g.shw) ∧ yr4.cell? ⟨b4, 2, none⟩ = some (.int .i64 g.place) ∧ yr4.cell? ⟨b4, 3, none⟩ = some (.string ⟨g.first.toArray⟩) ∧ yr4.cell? ⟨b4, 4, none⟩ = some (.slice ah g.chain.length kh) := ⟨gr4.cell c0 (by simp), gr4.cell c1 (by simp), gr4.cell c2 (by simp), gr4.cell c3 (by simp), gr4.cell c4 (by simp), gr4.cell k0 (by simp), gr4.cell k1 (by simp), gr4.cell k2 (by simp), gr4.cell k3 (by simp), gr4.cell k4 (by simp), gr4.cell l0 (by simp), gr4.cell l1 (by simp), gr4.cell l2 (by simp), gr4.cell l3 (by simp), gr4.cell l4 (by simp), gr4.cell m0 (by simp), gr4.cell m1 (by simp), gr4.cell m2 (by simp), gr4.cell m3 (by simp), gr4.cell m4 (by simp), gr4.cell n0 (by simp), gr4.cell n1 (by simp), gr4.cell n2 (by simp), gr4.cell n3 (by simp), gr4.cell n4 (by simp)⟩
    refine hK.out _ _ (fun _ => hSr4) ?_
    clear hK K'
    try simp only [Act.put, List.setIfInBounds_toArray, List.set_cons_zero, List.set_cons_succ]
    rw [← hms]
    clear hms
    refine hd_take 25 (v := .bool true) rfl (by kernel_rfl) (by kernel_rfl) (by kernel_rfl) rfl hSr4 (fun W' hS => by go_simp) rfl ?_
    try simp only [Act.put, List.setIfInBounds_toArray, List.set_cons_zero, List.set_cons_succ]
    refine hd_take 26 (v := .bool true) rfl (by kernel_rfl) (by kernel_rfl) (by kernel_rfl) rfl hSr4 (fun W' hS => by go_simp) rfl ?_
    try simp only [Act.put, List.setIfInBounds_toArray, List.set_cons_zero, List.set_cons_succ]
    refine hd_take 27 (v := .bool true) rfl (by kernel_rfl) (by kernel_rfl) (by kernel_rfl) rfl hSr4 (fun W' hS => by go_simp) rfl ?_
    try simp only [Act.put, List.setIfInBounds_toArray, List.set_cons_zero, List.set_cons_succ]
    refine hd_take 28 (v := .agg #[.int .i64 t.serial, .int .i64 t.shw, .int .i64 t.place, .string ⟨t.first.toArray⟩, .slice a_t t.chain.length kt]) rfl (by kernel_rfl) (by kernel_rfl) (by kernel_rfl) rfl hSr4 (fun W' hS => by obtain ⟨s0, s1, s2, s3, s4, s5, s6, s7, s8, s9, s10, s11, s12, s13, s14, s15, s16, s17, s18, s19, s20, s21, s22, s23, s24⟩ := hS; go_simp) rfl ?_
    refine hd_take 30 (v := .agg #[.int .i64 t.serial, .int .i64 t.shw, .int .i64 t.place, .string ⟨t.first.toArray⟩, .slice a_t t.chain.length kt]) rfl (by kernel_rfl) (by kernel_rfl) (by kernel_rfl) rfl hSr4 (fun W' hS => by obtain ⟨s0, s1, s2, s3, s4, s5, s6, s7, s8, s9, s10, s11, s12, s13, s14, s15, s16, s17, s18, s19, s20, s21, s22, s23, s24⟩ := hS; go_simp) rfl ?_
    try simp only [Act.put, List.setIfInBounds_toArray, List.set_cons_zero, List.set_cons_succ]
    refine hd_one 29 (by kernel_rfl) rfl (by kernel_rfl) rfl (fun K' hK => ?_)
    go_simp
    refine (owner_any _ t yr4 ⟨_, rfl, Ht.out.fr gr4⟩).mono ?_
    rintro e yr5 ⟨rfl, hbb⟩
    have gr5 : Fr [] W6 yr5 := gr4.below hbb gr4.size
    clear hbb
    have hSr5 : yr5.cell? ⟨p, 0, none⟩ = some (.int .i64 t.serial) ∧ yr5.cell? ⟨p, 1, none⟩ = some (.int .i64 t.shw) ∧ yr5.cell? ⟨p, 2, none⟩ = some (.int .i64 t.place) ∧ yr5.cell? ⟨p, 3, none⟩ = some (.string ⟨t.first.toArray⟩) ∧ yr5.cell? ⟨p, 4, none⟩ = some (.slice a_t t.chain.length kt) ∧ yr5.cell? ⟨b1, 0, none⟩ = some (.int .i64 x.serial) ∧ yr5.cell? ⟨b1, 1, none⟩ = some (.int .i64 x.shw) ∧ yr5.cell? ⟨b1, 2, none⟩ = some (.int .i64 x.place) ∧ yr5.cell? ⟨b1, 3, none⟩ = some (.string ⟨x.first.toArray⟩) ∧ yr5.cell? ⟨b1, 4, none⟩ = some (.slice ax x.chain.length kx) ∧ yr5.cell? ⟨b2, 0, none⟩ = some (.int .i64 x.serial) ∧ yr5.cell? ⟨b2, 1, none⟩ = some (.int .i64 x.shw) ∧ yr5.cell? ⟨b2, 2, none⟩ = some (.int .i64 x.place) ∧ yr5.cell? ⟨b2, 3, none⟩ = some (.string ⟨x.first.toArray⟩) ∧ yr5.cell? ⟨b2, 4, none⟩ = some (.slice ay x.chain.length ky) ∧ yr5.cell? ⟨b3, 0, none⟩ = some (.int .i64 g.serial) ∧ yr5.cell? ⟨b3, 1, none⟩ = some (.int .i64 g.shw) ∧ yr5.cell? ⟨b3, 2, none⟩ = some (.int .i64 g.place) ∧ yr5.cell? ⟨b3, 3, none⟩ = some (.string ⟨g.first.toArray⟩) ∧ yr5.cell? ⟨b3, 4, none⟩ = some (.slice ag g.chain.length kg) ∧ yr5.cell? ⟨b4, 0, none⟩ = some (.int .i64 g.serial) ∧ yr5.cell? ⟨b4, 1, none⟩ = some (.int .i64 g.shw) ∧ yr5.cell? ⟨b4, 2, none⟩ = some (.int .i64 g.place) ∧ yr5.cell? ⟨b4, 3, none⟩ = some (.string ⟨g.first.toArray⟩) ∧ yr5.cell? ⟨b4, 4, none⟩ = some (.slice ah g.chain.length kh) := ⟨gr5.cell c0 (by simp), gr5.cell c1 (by simp), gr5.cell c2 (by simp), gr5.cell c3 (by simp), gr5.cell c4 (by simp), gr5.cell k0 (by simp), gr5.cell k1 (by simp), gr5.cell k2 (by simp), gr5.cell k3 (by simp), gr5.cell k4 (by simp), gr5.cell l0 (by simp), gr5.cell l1 (by simp), gr5.cell l2 (by simp), gr5.cell l3 (by simp), gr5.cell l4 (by simp), gr5.cell m0 (by simp), gr5.cell m1 (by simp), gr5.cell m2 (by simp), gr5.cell m3 (by simp), gr5.cell m4 (by simp), gr5.cell n0 (by simp), gr5.cell n1 (by simp), gr5.cell n2 (by simp), gr5.cell n3 (by simp), gr5.cell n4 (by simp)⟩
    refine hK.out _ _ (fun _ => hSr5) ?_
    clear hK K'
    try simp only [Act.put, List.setIfInBounds_toArray, List.set_cons_zero, List.set_cons_succ]
    obtain ⟨ow, how⟩ : ∃ q, q = ownerT t := ⟨_, rfl⟩
    rw [← how]
    refine hd_one 31 (by kernel_rfl) rfl (by kernel_rfl) rfl (fun K' hK => ?_)
    go_simp
    refine (rowner30_any _ t yr5 ⟨_, rfl, Ht.out.fr gr5⟩).mono ?_
    rintro e yr6 ⟨rfl, hbb⟩
    have gr6 : Fr [] W6 yr6 := gr5.below hbb gr5.size
    clear hbb
    have hSr6 : yr6.cell? ⟨p, 0, none⟩ = some (.int .i64 t.serial) ∧ yr6.cell? ⟨p, 1, none⟩ = some (.int .i64 t.shw) ∧ yr6.cell? ⟨p, 2, none⟩ = some (.int .i64 t.place) ∧ yr6.cell? ⟨p, 3, none⟩ = some (.string ⟨t.first.toArray⟩) ∧ yr6.cell? ⟨p, 4, none⟩ = some (.slice a_t t.chain.length kt) ∧ yr6.cell? ⟨b1, 0, none⟩ = some (.int .i64 x.serial) ∧ yr6.cell? ⟨b1, 1, none⟩ = some (.int .i64 x.shw) ∧ yr6.cell? ⟨b1, 2, none⟩ = some (.int .i64 x.place) ∧ yr6.cell? ⟨b1, 3, none⟩ = some (.string ⟨x.first.toArray⟩) ∧ yr6.cell? ⟨b1, 4, none⟩ = some (.slice ax x.chain.length kx) ∧ yr6.cell? ⟨b2, 0, none⟩ = some (.int .i64 x.serial) ∧ yr6.cell? ⟨b2, 1, none⟩ = some (.int .i64 x.shw) ∧ yr6.cell? ⟨b2, 2, none⟩ = some (.int .i64 x.place) ∧ yr6.cell? ⟨b2, 3, none⟩ = some (.string ⟨x.first.toArray⟩) ∧ yr6.cell? ⟨b2, 4, none⟩ = some (.slice ay x.chain.length ky) ∧ yr6.cell? ⟨b3, 0, none⟩ = some (.int .i64 g.serial) ∧ yr6.cell? ⟨b3, 1, none⟩ = some (.int .i64 g.shw) ∧ yr6.cell? ⟨b3, 2, none⟩ = some (.int .i64 g.place) ∧ yr6.cell? ⟨b3, 3, none⟩ = some (.string ⟨g.first.toArray⟩) ∧ yr6.cell? ⟨b3, 4, none⟩ = some (.slice ag g.chain.length kg) ∧ yr6.cell? ⟨b4, 0, none⟩ = some (.int .i64 g.serial) ∧ yr6.cell? ⟨b4, 1, none⟩ = some (.int .i64 g.shw) ∧ yr6.cell? ⟨b4, 2, none⟩ = some (.int .i64 g.place) ∧ yr6.cell? ⟨b4, 3, none⟩ = some (.string ⟨g.first.toArray⟩) ∧ yr6.cell? ⟨b4, 4, none⟩ = some (.slice ah g.chain.length kh) := ⟨gr6.cell c0 (by simp), gr6.cell c1 (by simp), gr6.cell c2 (by simp), gr6.cell c3 (by simp), gr6.cell c4 (by simp), gr6.cell k0 (by simp), gr6.cell k1 (by simp), gr6.cell k2 (by simp), gr6.cell k3 (by simp), gr6.cell k4 (by simp), gr6.cell l0 (by simp), gr6.cell l1 (by simp), gr6.cell l2 (by simp), gr6.cell l3 (by simp), gr6.cell l4 (by simp), gr6.cell m0 (by simp), gr6.cell m1 (by simp), gr6.cell m2 (by simp), gr6.cell m3 (by simp), gr6.cell m4 (by simp), gr6.cell n0 (by simp), gr6.cell n1 (by simp), gr6.cell n2 (by simp), gr6.cell n3 (by simp), gr6.cell n4 (by simp)⟩
    refine hK.out _ _ (fun _ => hSr6) ?_
    clear hK K'
    try simp only [Act.put, List.setIfInBounds_toArray, List.set_cons_zero, List.set_cons_succ]
    rw [← how]
    clear how
    refine hd_take 32 (v := .bool true) rfl (by kernel_rfl) (by kernel_rfl) (by kernel_rfl) rfl hSr6 (fun W' hS => by go_simp) rfl ?_
    try simp only [Act.put, List.setIfInBounds_toArray, List.set_cons_zero, List.set_cons_succ]
    refine hd_take 33 (v := .bool true) rfl (by kernel_rfl) (by kernel_rfl) (by kernel_rfl) rfl hSr6 (fun W' hS => by go_simp) rfl ?_
    try simp only [Act.put, List.setIfInBounds_toArray, List.set_cons_zero, List.set_cons_succ]
    refine hd_take 34 (v := .bool true) rfl (by kernel_rfl) (by kernel_rfl) (by kernel_rfl) rfl hSr6 (fun W' hS => by go_simp) rfl ?_
    try simp only [Act.put, List.setIfInBounds_toArray, List.set_cons_zero, List.set_cons_succ]
    refine held_done (by kernel_rfl) ?_
    have hf : Fr [] W6 yr6 := gr6
    have hbt := hf.at hbt (by simp)
    have hbo := hf.at hbo (by simp)
    have Ht := Lib.hid (Ht.out.fr hf)
    have Ho := Lib.hid (Ho.out.fr hf)
    have fz := fW6.trans hf (by simp)
    generalize yr6 = z at hbt hbo Ht Ho fz ⊢
    clear c0 c1 c2 c3 c4 d0 d1 d2 d3 d4 k0 k1 k2 k3 k4 l0 l1 l2 l3 l4 m0 m1 m2 m3 m4 n0 n1 n2 n3 n4
    clear hf fW6 gr0 gr1 gr2 gr3 gr4 gr5 gr6 hSr0 hSr1 hSr2 hSr3 hSr4 hSr5 hSr6
    have c0 := row_cell hbt 0
    have c1 := row_cell hbt 1
    have c2 := row_cell hbt 2
    have c3 := row_cell hbt 3
    have c4 := row_cell hbt 4
    simp at c0 c1 c2 c3 c4
    have d0 := row_cell hbo 0
    have d1 := row_cell hbo 1
    have d2 := row_cell hbo 2
    have d3 := row_cell hbo 3
    have d4 := row_cell hbo 4
    simp at d0 d1 d2 d3 d4
    go_wp2_with fail
    have gs0 : Fr [] z z.drew := (Fr.refl [] z).drew
    have hSs0 : z.drew.cell? ⟨p, 0, none⟩ = some (.int .i64 t.serial) ∧ z.drew.cell? ⟨p, 1, none⟩ = some (.int .i64 t.shw) ∧ z.drew.cell? ⟨p, 2, none⟩ = some (.int .i64 t.place) ∧ z.drew.cell? ⟨p, 3, none⟩ = some (.string ⟨t.first.toArray⟩) ∧ z.drew.cell? ⟨p, 4, none⟩ = some (.slice a_t t.chain.length kt) ∧ z.drew.cell? ⟨p + 1, 0, none⟩ = some (.int .i64 o.serial) ∧ z.drew.cell? ⟨p + 1, 1, none⟩ = some (.int .i64 o.shw) ∧ z.drew.cell? ⟨p + 1, 2, none⟩ = some (.int .i64 o.place) ∧ z.drew.cell? ⟨p + 1, 3, none⟩ = some (.string ⟨o.first.toArray⟩) ∧ z.drew.cell? ⟨p + 1, 4, none⟩ = some (.slice ao o.chain.length ko) := ⟨gs0.cell c0 (by simp), gs0.cell c1 (by simp), gs0.cell c2 (by simp), gs0.cell c3 (by simp), gs0.cell c4 (by simp), gs0.cell d0 (by simp), gs0.cell d1 (by simp), gs0.cell d2 (by simp), gs0.cell d3 (by simp), gs0.cell d4 (by simp)⟩
    refine region_held 100 (fun W' => W'.cell? ⟨p, 0, none⟩ = some (.int .i64 t.serial) ∧ W'.cell? ⟨p, 1, none⟩ = some (.int .i64 t.shw) ∧ W'.cell? ⟨p, 2, none⟩ = some (.int .i64 t.place) ∧ W'.cell? ⟨p, 3, none⟩ = some (.string ⟨t.first.toArray⟩) ∧ W'.cell? ⟨p, 4, none⟩ = some (.slice a_t t.chain.length kt) ∧ W'.cell? ⟨p + 1, 0, none⟩ = some (.int .i64 o.serial) ∧ W'.cell? ⟨p + 1, 1, none⟩ = some (.int .i64 o.shw) ∧ W'.cell? ⟨p + 1, 2, none⟩ = some (.int .i64 o.place) ∧ W'.cell? ⟨p + 1, 3, none⟩ = some (.string ⟨o.first.toArray⟩) ∧ W'.cell? ⟨p + 1, 4, none⟩ = some (.slice ao o.chain.length ko)) hmx ?_
    change Held _ _ _ _ _ _ 28 (Array.replicate 28 false) _ _
    refine hd_take 0 (v := .bool true) rfl (by kernel_rfl) (by kernel_rfl) (by kernel_rfl) rfl hSs0 (fun W' hS => by go_simp) rfl ?_
    try simp only [Act.put, List.setIfInBounds_toArray, List.set_cons_zero, List.set_cons_succ]
    refine hd_take 1 (v := .bool true) rfl (by kernel_rfl) (by kernel_rfl) (by kernel_rfl) rfl hSs0 (fun W' hS => by go_simp) rfl ?_
    try simp only [Act.put, List.setIfInBounds_toArray, List.set_cons_zero, List.set_cons_succ]
    refine hd_take 2 (v := .bool true) rfl (by kernel_rfl) (by kernel_rfl) (by kernel_rfl) rfl hSs0 (fun W' hS => by go_simp) rfl ?_
    try simp only [Act.put, List.setIfInBounds_toArray, List.set_cons_zero, List.set_cons_succ]
    refine hd_take 3 (v := .bool true) rfl (by kernel_rfl) (by kernel_rfl) (by kernel_rfl) rfl hSs0 (fun W' hS => by go_simp) rfl ?_
    try simp only [Act.put, List.setIfInBounds_toArray, List.set_cons_zero, List.set_cons_succ]
    refine hd_take 4 (v := .bool true) rfl (by kernel_rfl) (by kernel_rfl) (by kernel_rfl) rfl hSs0 (fun W' hS => by go_simp) rfl ?_
    try simp only [Act.put, List.setIfInBounds_toArray, List.set_cons_zero, List.set_cons_succ]
    refine hd_take 5 (v := .agg #[.int .i64 t.serial, .int .i64 t.shw, .int .i64 t.place, .string ⟨t.first.toArray⟩, .slice a_t t.chain.length kt]) rfl (by kernel_rfl) (by kernel_rfl) (by kernel_rfl) rfl hSs0 (fun W' hS => by obtain ⟨s0, s1, s2, s3, s4, s5, s6, s7, s8, s9⟩ := hS; go_simp) rfl ?_
    refine hd_take 7 (v := .agg #[.int .i64 t.serial, .int .i64 t.shw, .int .i64 t.place, .string ⟨t.first.toArray⟩, .slice a_t t.chain.length kt]) rfl (by kernel_rfl) (by kernel_rfl) (by kernel_rfl) rfl hSs0 (fun W' hS => by obtain ⟨s0, s1, s2, s3, s4, s5, s6, s7, s8, s9⟩ := hS; go_simp) rfl ?_
    try simp only [Act.put, List.setIfInBounds_toArray, List.set_cons_zero, List.set_cons_succ]
    refine hd_one 6 (by kernel_rfl) rfl (by kernel_rfl) rfl (fun K' hK => ?_)
    go_simp
    refine (valid30_any _ t z.drew ⟨_, rfl, Ht.out.fr gs0⟩ HST.out (HT.out.t.fr (fz.trans gs0 (by simp)))).mono ?_
    rintro e ys1 ⟨rfl, hbb⟩
    have gs1 : Fr [] z ys1 := gs0.below hbb gs0.size
    clear hbb
    have hSs1 : ys1.cell? ⟨p, 0, none⟩ = some (.int .i64 t.serial) ∧ ys1.cell? ⟨p, 1, none⟩ = some (.int .i64 t.shw) ∧ ys1.cell? ⟨p, 2, none⟩ = some (.int .i64 t.place) ∧ ys1.cell? ⟨p, 3, none⟩ = some (.string ⟨t.first.toArray⟩) ∧ ys1.cell? ⟨p, 4, none⟩ = some (.slice a_t t.chain.length kt) ∧ ys1.cell? ⟨p + 1, 0, none⟩ = some (.int .i64 o.serial) ∧ ys1.cell? ⟨p + 1, 1, none⟩ = some (.int .i64 o.shw) ∧ ys1.cell? ⟨p + 1, 2, none⟩ = some (.int .i64 o.place) ∧ ys1.cell? ⟨p + 1, 3, none⟩ = some (.string ⟨o.first.toArray⟩) ∧ ys1.cell? ⟨p + 1, 4, none⟩ = some (.slice ao o.chain.length ko) := ⟨gs1.cell c0 (by simp), gs1.cell c1 (by simp), gs1.cell c2 (by simp), gs1.cell c3 (by simp), gs1.cell c4 (by simp), gs1.cell d0 (by simp), gs1.cell d1 (by simp), gs1.cell d2 (by simp), gs1.cell d3 (by simp), gs1.cell d4 (by simp)⟩
    refine hK.out _ _ (fun _ => hSs1) ?_
    clear hK K'
    try simp only [Act.put, List.setIfInBounds_toArray, List.set_cons_zero, List.set_cons_succ]
    obtain ⟨vb, hvb⟩ : ∃ q, q = validT t := ⟨_, rfl⟩
    rw [← hvb]
    refine hd_one 8 (by kernel_rfl) rfl (by kernel_rfl) rfl (fun K' hK => ?_)
    go_simp
    refine (rvalid30_any _ t ys1 ⟨_, rfl, Ht.out.fr gs1⟩ HST.out).mono ?_
    rintro e ys2 ⟨rfl, hbb⟩
    have gs2 : Fr [] z ys2 := gs1.below hbb gs1.size
    clear hbb
    have hSs2 : ys2.cell? ⟨p, 0, none⟩ = some (.int .i64 t.serial) ∧ ys2.cell? ⟨p, 1, none⟩ = some (.int .i64 t.shw) ∧ ys2.cell? ⟨p, 2, none⟩ = some (.int .i64 t.place) ∧ ys2.cell? ⟨p, 3, none⟩ = some (.string ⟨t.first.toArray⟩) ∧ ys2.cell? ⟨p, 4, none⟩ = some (.slice a_t t.chain.length kt) ∧ ys2.cell? ⟨p + 1, 0, none⟩ = some (.int .i64 o.serial) ∧ ys2.cell? ⟨p + 1, 1, none⟩ = some (.int .i64 o.shw) ∧ ys2.cell? ⟨p + 1, 2, none⟩ = some (.int .i64 o.place) ∧ ys2.cell? ⟨p + 1, 3, none⟩ = some (.string ⟨o.first.toArray⟩) ∧ ys2.cell? ⟨p + 1, 4, none⟩ = some (.slice ao o.chain.length ko) := ⟨gs2.cell c0 (by simp), gs2.cell c1 (by simp), gs2.cell c2 (by simp), gs2.cell c3 (by simp), gs2.cell c4 (by simp), gs2.cell d0 (by simp), gs2.cell d1 (by simp), gs2.cell d2 (by simp), gs2.cell d3 (by simp), gs2.cell d4 (by simp)⟩
    refine hK.out _ _ (fun _ => hSs2) ?_
    clear hK K'
    try simp only [Act.put, List.setIfInBounds_toArray, List.set_cons_zero, List.set_cons_succ]
    rw [← hvb]
    clear hvb
    refine hd_take 9 (v := .bool true) rfl (by kernel_rfl) (by kernel_rfl) (by kernel_rfl) rfl hSs2 (fun W' hS => by go_simp) rfl ?_
    try simp only [Act.put, List.setIfInBounds_toArray, List.set_cons_zero, List.set_cons_succ]
    refine hd_take 10 (v := .bool true) rfl (by kernel_rfl) (by kernel_rfl) (by kernel_rfl) rfl hSs2 (fun W' hS => by go_simp) rfl ?_
    try simp only [Act.put, List.setIfInBounds_toArray, List.set_cons_zero, List.set_cons_succ]
    refine hd_take 11 (v := .bool true) rfl (by kernel_rfl) (by kernel_rfl) (by kernel_rfl) rfl hSs2 (fun W' hS => by go_simp) rfl ?_
    try simp only [Act.put, List.setIfInBounds_toArray, List.set_cons_zero, List.set_cons_succ]
    refine hd_take 12 (v := .agg #[.int .i64 t.serial, .int .i64 t.shw, .int .i64 t.place, .string ⟨t.first.toArray⟩, .slice a_t t.chain.length kt]) rfl (by kernel_rfl) (by kernel_rfl) (by kernel_rfl) rfl hSs2 (fun W' hS => by obtain ⟨s0, s1, s2, s3, s4, s5, s6, s7, s8, s9⟩ := hS; go_simp) rfl ?_
    refine hd_take 13 (v := .agg #[.int .i64 o.serial, .int .i64 o.shw, .int .i64 o.place, .string ⟨o.first.toArray⟩, .slice ao o.chain.length ko]) rfl (by kernel_rfl) (by kernel_rfl) (by kernel_rfl) rfl hSs2 (fun W' hS => by obtain ⟨s0, s1, s2, s3, s4, s5, s6, s7, s8, s9⟩ := hS; go_simp) rfl ?_
    refine hd_take 15 (v := .agg #[.int .i64 t.serial, .int .i64 t.shw, .int .i64 t.place, .string ⟨t.first.toArray⟩, .slice a_t t.chain.length kt]) rfl (by kernel_rfl) (by kernel_rfl) (by kernel_rfl) rfl hSs2 (fun W' hS => by obtain ⟨s0, s1, s2, s3, s4, s5, s6, s7, s8, s9⟩ := hS; go_simp) rfl ?_
    refine hd_take 16 (v := .agg #[.int .i64 o.serial, .int .i64 o.shw, .int .i64 o.place, .string ⟨o.first.toArray⟩, .slice ao o.chain.length ko]) rfl (by kernel_rfl) (by kernel_rfl) (by kernel_rfl) rfl hSs2 (fun W' hS => by obtain ⟨s0, s1, s2, s3, s4, s5, s6, s7, s8, s9⟩ := hS; go_simp) rfl ?_
    try simp only [Act.put, List.setIfInBounds_toArray, List.set_cons_zero, List.set_cons_succ]
    refine hd_one 14 (by kernel_rfl) rfl (by kernel_rfl) rfl (fun K' hK => ?_)
    go_simp
    refine (extends_any _ _ t o ys2 ⟨_, rfl, Ht.out.fr gs2⟩ ⟨_, rfl, Ho.out.fr gs2⟩ HN.out.1 HN.out.2 (HT.out.t.fr (fz.trans gs2 (by simp)))).mono ?_
    rintro e ys3 ⟨rfl, hbb⟩
    have gs3 : Fr [] z ys3 := gs2.below hbb gs2.size
    clear hbb
    have hSs3 : ys3.cell? ⟨p, 0, none⟩ = some (.int .i64 t.serial) ∧ ys3.cell? ⟨p, 1, none⟩ = some (.int .i64 t.shw) ∧ ys3.cell? ⟨p, 2, none⟩ = some (.int .i64 t.place) ∧ ys3.cell? ⟨p, 3, none⟩ = some (.string ⟨t.first.toArray⟩) ∧ ys3.cell? ⟨p, 4, none⟩ = some (.slice a_t t.chain.length kt) ∧ ys3.cell? ⟨p + 1, 0, none⟩ = some (.int .i64 o.serial) ∧ ys3.cell? ⟨p + 1, 1, none⟩ = some (.int .i64 o.shw) ∧ ys3.cell? ⟨p + 1, 2, none⟩ = some (.int .i64 o.place) ∧ ys3.cell? ⟨p + 1, 3, none⟩ = some (.string ⟨o.first.toArray⟩) ∧ ys3.cell? ⟨p + 1, 4, none⟩ = some (.slice ao o.chain.length ko) := ⟨gs3.cell c0 (by simp), gs3.cell c1 (by simp), gs3.cell c2 (by simp), gs3.cell c3 (by simp), gs3.cell c4 (by simp), gs3.cell d0 (by simp), gs3.cell d1 (by simp), gs3.cell d2 (by simp), gs3.cell d3 (by simp), gs3.cell d4 (by simp)⟩
    refine hK.out _ _ (fun _ => hSs3) ?_
    clear hK K'
    try simp only [Act.put, List.setIfInBounds_toArray, List.set_cons_zero, List.set_cons_succ]
    obtain ⟨xb, hxb⟩ : ∃ q, q = extT t o := ⟨_, rfl⟩
    rw [← hxb]
    refine hd_one 17 (by kernel_rfl) rfl (by kernel_rfl) rfl (fun K' hK => ?_)
    go_simp
    refine (rext30_any _ _ t o ys3 ⟨_, rfl, Ht.out.fr gs3⟩ ⟨_, rfl, Ho.out.fr gs3⟩).mono ?_
    rintro e ys4 ⟨rfl, hbb⟩
    have gs4 : Fr [] z ys4 := gs3.below hbb gs3.size
    clear hbb
    have hSs4 : ys4.cell? ⟨p, 0, none⟩ = some (.int .i64 t.serial) ∧ ys4.cell? ⟨p, 1, none⟩ = some (.int .i64 t.shw) ∧ ys4.cell? ⟨p, 2, none⟩ = some (.int .i64 t.place) ∧ ys4.cell? ⟨p, 3, none⟩ = some (.string ⟨t.first.toArray⟩) ∧ ys4.cell? ⟨p, 4, none⟩ = some (.slice a_t t.chain.length kt) ∧ ys4.cell? ⟨p + 1, 0, none⟩ = some (.int .i64 o.serial) ∧ ys4.cell? ⟨p + 1, 1, none⟩ = some (.int .i64 o.shw) ∧ ys4.cell? ⟨p + 1, 2, none⟩ = some (.int .i64 o.place) ∧ ys4.cell? ⟨p + 1, 3, none⟩ = some (.string ⟨o.first.toArray⟩) ∧ ys4.cell? ⟨p + 1, 4, none⟩ = some (.slice ao o.chain.length ko) := ⟨gs4.cell c0 (by simp), gs4.cell c1 (by simp), gs4.cell c2 (by simp), gs4.cell c3 (by simp), gs4.cell c4 (by simp), gs4.cell d0 (by simp), gs4.cell d1 (by simp), gs4.cell d2 (by simp), gs4.cell d3 (by simp), gs4.cell d4 (by simp)⟩
    refine hK.out _ _ (fun _ => hSs4) ?_
    clear hK K'
    try simp only [Act.put, List.setIfInBounds_toArray, List.set_cons_zero, List.set_cons_succ]
    rw [← hxb]
    clear hxb
    refine hd_take 18 (v := .bool true) rfl (by kernel_rfl) (by kernel_rfl) (by kernel_rfl) rfl hSs4 (fun W' hS => by go_simp) rfl ?_
    try simp only [Act.put, List.setIfInBounds_toArray, List.set_cons_zero, List.set_cons_succ]
    refine hd_take 19 (v := .bool true) rfl (by kernel_rfl) (by kernel_rfl) (by kernel_rfl) rfl hSs4 (fun W' hS => by go_simp) rfl ?_
    try simp only [Act.put, List.setIfInBounds_toArray, List.set_cons_zero, List.set_cons_succ]
    refine hd_take 20 (v := .bool true) rfl (by kernel_rfl) (by kernel_rfl) (by kernel_rfl) rfl hSs4 (fun W' hS => by go_simp) rfl ?_
    try simp only [Act.put, List.setIfInBounds_toArray, List.set_cons_zero, List.set_cons_succ]
    refine hd_take 21 (v := .agg #[.int .i64 t.serial, .int .i64 t.shw, .int .i64 t.place, .string ⟨t.first.toArray⟩, .slice a_t t.chain.length kt]) rfl (by kernel_rfl) (by kernel_rfl) (by kernel_rfl) rfl hSs4 (fun W' hS => by obtain ⟨s0, s1, s2, s3, s4, s5, s6, s7, s8, s9⟩ := hS; go_simp) rfl ?_
    refine hd_take 23 (v := .agg #[.int .i64 t.serial, .int .i64 t.shw, .int .i64 t.place, .string ⟨t.first.toArray⟩, .slice a_t t.chain.length kt]) rfl (by kernel_rfl) (by kernel_rfl) (by kernel_rfl) rfl hSs4 (fun W' hS => by obtain ⟨s0, s1, s2, s3, s4, s5, s6, s7, s8, s9⟩ := hS; go_simp) rfl ?_
    try simp only [Act.put, List.setIfInBounds_toArray, List.set_cons_zero, List.set_cons_succ]
    refine hd_one 22 (by kernel_rfl) rfl (by kernel_rfl) rfl (fun K' hK => ?_)
    go_simp
    refine (ttext_any _ t ys4 ⟨_, rfl, Ht.out.fr gs4⟩ HST.out (HT.out.t.fr (fz.trans gs4 (by simp)))).mono ?_
    rintro e ys5 ⟨rfl, hbb⟩
    have gs5 : Fr [] z ys5 := gs4.below hbb gs4.size
    clear hbb
    have hSs5 : ys5.cell? ⟨p, 0, none⟩ = some (.int .i64 t.serial) ∧ ys5.cell? ⟨p, 1, none⟩ = some (.int .i64 t.shw) ∧ ys5.cell? ⟨p, 2, none⟩ = some (.int .i64 t.place) ∧ ys5.cell? ⟨p, 3, none⟩ = some (.string ⟨t.first.toArray⟩) ∧ ys5.cell? ⟨p, 4, none⟩ = some (.slice a_t t.chain.length kt) ∧ ys5.cell? ⟨p + 1, 0, none⟩ = some (.int .i64 o.serial) ∧ ys5.cell? ⟨p + 1, 1, none⟩ = some (.int .i64 o.shw) ∧ ys5.cell? ⟨p + 1, 2, none⟩ = some (.int .i64 o.place) ∧ ys5.cell? ⟨p + 1, 3, none⟩ = some (.string ⟨o.first.toArray⟩) ∧ ys5.cell? ⟨p + 1, 4, none⟩ = some (.slice ao o.chain.length ko) := ⟨gs5.cell c0 (by simp), gs5.cell c1 (by simp), gs5.cell c2 (by simp), gs5.cell c3 (by simp), gs5.cell c4 (by simp), gs5.cell d0 (by simp), gs5.cell d1 (by simp), gs5.cell d2 (by simp), gs5.cell d3 (by simp), gs5.cell d4 (by simp)⟩
    refine hK.out _ _ (fun _ => hSs5) ?_
    clear hK K'
    try simp only [Act.put, List.setIfInBounds_toArray, List.set_cons_zero, List.set_cons_succ]
    obtain ⟨xt, hxt⟩ : ∃ q, q = textT t := ⟨_, rfl⟩
    rw [← hxt]
    refine hd_one 24 (by kernel_rfl) rfl (by kernel_rfl) rfl (fun K' hK => ?_)
    go_simp
    refine (rtext30_any _ t ys5 ⟨_, rfl, Ht.out.fr gs5⟩ HST.out).mono ?_
    rintro e ys6 ⟨rfl, hbb⟩
    have gs6 : Fr [] z ys6 := gs5.below hbb gs5.size
    clear hbb
    have hSs6 : ys6.cell? ⟨p, 0, none⟩ = some (.int .i64 t.serial) ∧ ys6.cell? ⟨p, 1, none⟩ = some (.int .i64 t.shw) ∧ ys6.cell? ⟨p, 2, none⟩ = some (.int .i64 t.place) ∧ ys6.cell? ⟨p, 3, none⟩ = some (.string ⟨t.first.toArray⟩) ∧ ys6.cell? ⟨p, 4, none⟩ = some (.slice a_t t.chain.length kt) ∧ ys6.cell? ⟨p + 1, 0, none⟩ = some (.int .i64 o.serial) ∧ ys6.cell? ⟨p + 1, 1, none⟩ = some (.int .i64 o.shw) ∧ ys6.cell? ⟨p + 1, 2, none⟩ = some (.int .i64 o.place) ∧ ys6.cell? ⟨p + 1, 3, none⟩ = some (.string ⟨o.first.toArray⟩) ∧ ys6.cell? ⟨p + 1, 4, none⟩ = some (.slice ao o.chain.length ko) := ⟨gs6.cell c0 (by simp), gs6.cell c1 (by simp), gs6.cell c2 (by simp), gs6.cell c3 (by simp), gs6.cell c4 (by simp), gs6.cell d0 (by simp), gs6.cell d1 (by simp), gs6.cell d2 (by simp), gs6.cell d3 (by simp), gs6.cell d4 (by simp)⟩
    refine hK.out _ _ (fun _ => hSs6) ?_
    clear hK K'
    try simp only [Act.put, List.setIfInBounds_toArray, List.set_cons_zero, List.set_cons_succ]
    rw [← hxt]
    clear hxt
    refine hd_take 25 (v := .bool true) rfl (by kernel_rfl) (by kernel_rfl) (by kernel_rfl) rfl hSs6 (fun W' hS => by go_simp) rfl ?_
    try simp only [Act.put, List.setIfInBounds_toArray, List.set_cons_zero, List.set_cons_succ]
    refine hd_take 26 (v := .bool true) rfl (by kernel_rfl) (by kernel_rfl) (by kernel_rfl) rfl hSs6 (fun W' hS => by go_simp) rfl ?_
    try simp only [Act.put, List.setIfInBounds_toArray, List.set_cons_zero, List.set_cons_succ]
    refine hd_take 27 (v := .bool true) rfl (by kernel_rfl) (by kernel_rfl) (by kernel_rfl) rfl hSs6 (fun W' hS => by go_simp) rfl ?_
    try simp only [Act.put, List.setIfInBounds_toArray, List.set_cons_zero, List.set_cons_succ]
    refine held_done (by kernel_rfl) ?_
    have fe := fz.trans gs6 (by simp)
    go_wp2_with fail
    go_ret
    exact ⟨rfl, fe.toBelow (by simp)⟩
end Go.Proofs.YtcblpfepkkkilaaGreatDoor
