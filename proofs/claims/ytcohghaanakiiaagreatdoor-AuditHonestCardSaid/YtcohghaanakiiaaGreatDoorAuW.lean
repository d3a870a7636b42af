/-
  foyerlaw20.AuditHonest.
-/
import Derived.Test.YtcohghaanakiiaaGreatDoorAuU
import Derived.Test.YtcohghaanakiiaaGreatDoorTabB
namespace Go.Proofs.YtcohghaanakiiaaGreatDoor
open Go.RowKit
set_option maxRecDepth 100000

set_option maxHeartbeats 8000000 in
theorem publish2_any (ev pv : Value) (es ps : List Pty) (w : World) (he : Pts w ev es) (hp : Pts w pv ps) (hl : EntS es) (hn : es.length ≤ 100000) (hpn : ps.length ≤ 100000) (hps : ∀ p ∈ ps, p.name.length ≤ 1000000 ∧ p.rev.length ≤ 1000000) (hT : Tabs w) :
    Calls Tryz.prog 13 #[ev, pv] w fun e w' => ∃ v, e = .returned (.tuple #[v, .int .i64 (pubS (clsL es) es ps).2]) ∧ PblR w' v (pubS (clsL es) es ps).1 ∧ Below w.heap.size w w' ∧ ∃ r ev pv ov, v = .agg #[ev, .string r, pv, ov, .slice none 0 0] := by
  have HE := Lib.hid he
  have HP := Lib.hid hp
  have HL := Lib.hid hl
  have HPS := Lib.hid hps
  have HT := Lib.hid hT
  obtain ⟨ea, ec, rfl, _, _, _⟩ := he.form
  obtain ⟨pa, pc, rfl, _, _, _⟩ := hp.form
  clear he hp hl hps hT
  obtain ⟨W0, hW0⟩ : ∃ W0, W0 = w.alloc (.cells #[.slice none 0 0, .string ⟨#[]⟩, .slice none 0 0, .slice none 0 0, .slice none 0 0] 26) := ⟨_, rfl⟩
  obtain ⟨p, ep⟩ : ∃ p, p = w.heap.size := ⟨_, rfl⟩
  have f0 : Fr [] w W0 := by rw [hW0]; exact (Fr.refl [] w).alloc _
  have hp0 : W0.heap[p]? = some (.cells #[.slice none 0 0, .string ⟨#[]⟩, .slice none 0 0, .slice none 0 0, .slice none 0 0] 26 (0, 0)) := by rw [hW0]; exact heap_new ep
  have EP := Lib.hid ep
  have HF0 := Lib.hid f0
  have HP0 := Lib.hid hp0
  by_cases h4 : 4000 < es.length
  · have t1 : decide ((4000 : Int) < (es.length : Int)) = true := by simp; omega
    have HR : Hid (pubS (clsL es) es ps = (zeroPb, 3)) := Lib.hid (by unfold pubS; rw [if_pos h4])
    clear h4
    go_enter Tryz.func13, Tryz.ntmps13
    go_wp2_with fail
    rw [← hW0, ← ep]
    have m0 := row_cell hp0 0
    have m1 := row_cell hp0 1
    have m2 := row_cell hp0 2
    have m3 := row_cell hp0 3
    have m4 := row_cell hp0 4
    simp at m0 m1 m2 m3 m4
    clear hp0 f0 hW0 ep
    refine bodyPost_ret (v := .tuple #[.agg #[.slice none 0 0, .string ⟨#[]⟩, .slice none 0 0, .slice none 0 0, .slice none 0 0], .int .i64 3]) ?_ rfl ⟨_, by rw [HR.out], by rw [HR.out]; exact zeroPb_reads _, by rw [EP.out]; exact HF0.out.toBelow (by simp), _, _, _, _, rfl⟩
    rw [results_cell_tmp rfl]
    go_simp
  have t1 : decide ((4000 : Int) < (es.length : Int)) = false := by simp; omega
  have HPUB : Hid (pubS (clsL es) es ps = if es.any (fun e => !validB e) then (zeroPb, 1) else if (seedS ps (rootL (textsE es))).2 ≠ 0 then (zeroPb, (seedS ps (rootL (textsE es))).2) else (⟨es, rootL (textsE es), ps, (orderO (clsL es) (seedS ps (rootL (textsE es))).1).map Int.ofNat, []⟩, 0)) := Lib.hid (by unfold pubS; rw [if_neg h4])
  have h40 : es.length ≤ 4000 := by omega
  clear h4
  go_enter Tryz.func13, Tryz.ntmps13
  go_wp2_with fail
  rw [← hW0, ← ep]
  clear hW0 ep
  refine (containsE_any _ es 38 #[] (fun e => !validB e) W0 (HE.out.fr HF0.out) entersP1 (fun q W hq _ => ?_)).mono ?_
  · have h := HL.out q hq
    exact apub1_any q W h.1 h.2.1 h.2.2
  rintro e w1 ⟨rfl, hb⟩
  have HF1 := Lib.hid (HF0.out.below hb HF0.out.size)
  have HP1 := Lib.hid ((Fr.ofBelow (X := []) hb).at HP0.out (by simp))
  clear hb hp0 f0
  obtain ⟨vb, evb⟩ : ∃ q, q = es.any (fun e => !validB e) := ⟨_, rfl⟩
  rw [← evb] at HPUB ⊢
  clear evb
  cases vb with
  | true =>
    have HR : Hid (pubS (clsL es) es ps = (zeroPb, 1)) := HPUB
    have hset := set5P (.slice none 0 0) (.string ⟨#[]⟩) (.slice none 0 0) (.slice none 0 0) (.slice none 0 0) HP1.out HF1.out (by have := EP.out; omega)
    have y0 := row_free HP1.out 0
    have y1 := row_free HP1.out 1
    have y2 := row_free HP1.out 2
    have y3 := row_free HP1.out 3
    have y4 := row_free HP1.out 4
    have z0 := row_cell HP1.out 0
    have z1 := row_cell HP1.out 1
    have z2 := row_cell HP1.out 2
    have z3 := row_cell HP1.out 3
    have z4 := row_cell HP1.out 4
    simp at z0 z1 z2 z3 z4
    have HSET := Lib.hid hset
    clear hset HPUB
    go_wp2_with fail
    obtain ⟨hfx, hrx⟩ := HSET.out
    have HFX := Lib.hid hfx
    have m0 := row_cell hrx 0
    have m1 := row_cell hrx 1
    have m2 := row_cell hrx 2
    have m3 := row_cell hrx 3
    have m4 := row_cell hrx 4
    simp at m0 m1 m2 m3 m4
    clear hfx hrx
    refine bodyPost_ret (v := .tuple #[.agg #[.slice none 0 0, .string ⟨#[]⟩, .slice none 0 0, .slice none 0 0, .slice none 0 0], .int .i64 1]) ?_ rfl ⟨_, by rw [HR.out], by rw [HR.out]; exact zeroPb_reads _, HFX.out.toBelow (by simp), _, _, _, _, rfl⟩
    rw [results_cell_tmp rfl]
    go_simp
  | false =>
    go_wp2_with fail
    refine (cloneE_any _ es w1 (HE.out.fr HF1.out) hn).mono ?_
    rintro e w2 ⟨ev2, rfl, hev2, hbe, hb⟩
    have HF2 := Lib.hid (HF1.out.below hb HF1.out.size)
    have HP2 := Lib.hid ((Fr.ofBelow (X := []) hb).at HP1.out (by simp))
    obtain ⟨ea2, ec2, rfl, _, _, _⟩ := hev2.form
    have HE2 := Lib.hid hev2
    have HBE0 : Hid (∀ b, (Value.slice ea2 es.length ec2).ownBlock = some b → b < w2.heap.size ∧ b ≠ p) := Lib.hid (fun b hb => by have h1 := hbe b hb; have h2 := lt_of_block HP1.out; omega)
    clear hb hev2 hbe
    go_wp2_with fail
    refine (atexts_any _ es w2 (HE.out.fr HF2.out) hn HL.out).mono ?_
    rintro e w3 ⟨tv, rfl, htv, hb⟩
    have hf := Fr.ofBelow (X := []) hb
    have HF3 := Lib.hid (HF2.out.trans hf (by simp))
    have HP3 := Lib.hid (hf.at HP2.out (by simp))
    have HE3 := Lib.hid (HE2.out.fr hf)
    obtain ⟨ta, tc, rfl, _, _⟩ := htv.strs.form
    have HTV := Lib.hid htv.strs
    have HS23 : Hid (w2.heap.size ≤ w3.heap.size) := Lib.hid hf.size
    clear hb htv hf
    go_wp2_with fail
    refine (root_any _ (textsE es) w3 HTV.out (by unfold textsE; rw [List.length_map]; omega) (textsE_len es) (HT.out.fr HF3.out)).mono ?_
    rintro e w4 ⟨rfl, hb⟩
    have hf := Fr.ofBelow (X := []) hb
    have HF4 := Lib.hid (HF3.out.trans hf (by simp))
    have HP4 := Lib.hid (hf.at HP3.out (by simp))
    have HE4 := Lib.hid (HE3.out.fr hf)
    have hrl := rootL_len (textsE es)
    have HS34 : Hid (w3.heap.size ≤ w4.heap.size) := Lib.hid hf.size
    obtain ⟨rt, ert⟩ : ∃ q, q = rootL (textsE es) := ⟨_, rfl⟩
    rw [← ert] at HPUB hrl ⊢
    clear hb hf ert
    go_wp2_with fail
    refine (cloneQ_any _ ps w4 (HP.out.fr HF4.out) hpn).mono ?_
    rintro e w5 ⟨pv2, rfl, hpv2, hbq, hb⟩
    have hf := Fr.ofBelow (X := []) hb
    have HF5 := Lib.hid (HF4.out.trans hf (by simp))
    have HP5 := Lib.hid (hf.at HP4.out (by simp))
    have HE5 := Lib.hid (HE4.out.fr hf)
    obtain ⟨pa2, pc2, rfl, _, _, _⟩ := hpv2.form
    have HQ5 := Lib.hid hpv2
    have hs25 : w2.heap.size ≤ w5.heap.size := by have := hf.size; have := HS23.out; have := HS34.out; omega
    have HBQ0 : Hid (∀ b, (Value.slice pa2 ps.length pc2).ownBlock = some b → b < w5.heap.size ∧ b ≠ p) := Lib.hid (fun b hb => by have h1 := hbq b hb; have h2 := lt_of_block HP4.out; omega)
    clear hb hf hpv2 hbq
    obtain ⟨W6, hW6⟩ : ∃ W6, W6 = w5.alloc (.cells #[.slice ea2 es.length ec2, .string ⟨rt.toArray⟩, .slice pa2 ps.length pc2, .slice none 0 0, .slice none 0 0] 26) := ⟨_, rfl⟩
    obtain ⟨q, eq⟩ : ∃ q, q = w5.heap.size := ⟨_, rfl⟩
    have f56 : Fr [] w5 W6 := by rw [hW6]; exact (Fr.refl [] w5).alloc _
    have hq6 : W6.heap[q]? = some (.cells #[.slice ea2 es.length ec2, .string ⟨rt.toArray⟩, .slice pa2 ps.length pc2, .slice none 0 0, .slice none 0 0] 26 (0, 0)) := by rw [hW6]; exact heap_new eq
    have HF6 := Lib.hid (HF5.out.trans f56 (by simp))
    have HP6 := Lib.hid (f56.at HP5.out (by simp))
    have HE6 := Lib.hid (HE5.out.fr f56)
    have HQ6 := Lib.hid (HQ5.out.fr f56)
    have HQB := Lib.hid hq6
    have HBE : Hid (∀ b, (Value.slice ea2 es.length ec2).ownBlock = some b → b ≠ p ∧ b ≠ q) := Lib.hid (fun b hb => by have h1 := HBE0.out b hb; omega)
    have HBQ : Hid (∀ b, (Value.slice pa2 ps.length pc2).ownBlock = some b → b ≠ p ∧ b ≠ q) := Lib.hid (fun b hb => by have h1 := HBQ0.out b hb; omega)
    clear hs25
    have HQP : Hid (q ≠ p ∧ w.heap.size ≤ q) := Lib.hid (by have := lt_of_block HP5.out; have := HF5.out.size; omega)
    have b1 := row_cell hq6 1
    simp at b1
    rw [hW6, eq] at b1
    clear f56 hq6
    go_wp2_with fail
    rw [← hW6, ← eq]
    clear b1 hW6 eq
    refine (seed_any _ ps rt W6 (HP.out.fr HF6.out) HPS.out (by omega) (HT.out.fr HF6.out)).mono ?_
    rintro e w7 ⟨rfl, hb⟩
    have hf := Fr.ofBelow (X := []) hb
    have HF7 := Lib.hid (HF6.out.trans hf (by simp))
    have HP7 := Lib.hid (hf.at HP6.out (by simp))
    have HE7 := Lib.hid (HE6.out.fr hf)
    have HQ7 := Lib.hid (HQ6.out.fr hf)
    have HQB7 := Lib.hid (hf.at HQB.out (by simp))
    have hsl := seedS_len ps rt
    obtain ⟨sd, er, esd⟩ : ∃ a b, seedS ps rt = (a, b) := ⟨_, _, rfl⟩
    rw [esd] at HPUB hsl ⊢
    simp only at HPUB hsl ⊢
    clear hb hf esd
    by_cases her : er = 0
    case neg =>
      have t2 : (er != 0) = true := by simpa using her
      have HR : Hid (pubS (clsL es) es ps = (zeroPb, er)) := Lib.hid (by rw [HPUB.out, if_neg (by decide), if_pos her])
      clear her
      have hset := set5P (.slice none 0 0) (.string ⟨#[]⟩) (.slice none 0 0) (.slice none 0 0) (.slice none 0 0) HP7.out HF7.out (by have := EP.out; omega)
      have y0 := row_free HP7.out 0
      have y1 := row_free HP7.out 1
      have y2 := row_free HP7.out 2
      have y3 := row_free HP7.out 3
      have y4 := row_free HP7.out 4
      have z0 := row_cell HP7.out 0
      have z1 := row_cell HP7.out 1
      have z2 := row_cell HP7.out 2
      have z3 := row_cell HP7.out 3
      have z4 := row_cell HP7.out 4
      simp at z0 z1 z2 z3 z4
      have HSET := Lib.hid hset
      clear hset HPUB
      go_wp2_with fail
      obtain ⟨hfx, hrx⟩ := HSET.out
      have HFX := Lib.hid hfx
      have m0 := row_cell hrx 0
      have m1 := row_cell hrx 1
      have m2 := row_cell hrx 2
      have m3 := row_cell hrx 3
      have m4 := row_cell hrx 4
      simp at m0 m1 m2 m3 m4
      clear hfx hrx
      refine bodyPost_ret (v := .tuple #[.agg #[.slice none 0 0, .string ⟨#[]⟩, .slice none 0 0, .slice none 0 0, .slice none 0 0], .int .i64 er]) ?_ rfl ⟨_, by rw [HR.out], by rw [HR.out]; exact zeroPb_reads _, HFX.out.toBelow (by simp), _, _, _, _, rfl⟩
      rw [results_cell_tmp rfl]
      go_simp
    have t2 : (er != 0) = false := by simpa using her
    have HR : Hid (pubS (clsL es) es ps = (⟨es, rt, ps, (orderO (clsL es) sd).map Int.ofNat, []⟩, 0)) := Lib.hid (by rw [HPUB.out, if_neg (by decide), if_neg (by simpa using her)])
    clear her HPUB
    go_wp2_with fail
    refine (aorder_any _ es sd w7 (HE.out.fr HF7.out) h40 HL.out (by omega) (HT.out.fr HF7.out)).mono ?_
    rintro e w8 ⟨g, rfl, hg, hag, hb⟩
    have hf := Fr.ofBelow (X := []) hb
    have HF8 := Lib.hid (HF7.out.trans hf (by simp))
    have hp8 := hf.at HP7.out (by simp)
    have hq8 := hf.at HQB7.out (by simp)
    have HE8 := Lib.hid (HE7.out.fr hf)
    have HQ8 := Lib.hid (HQ7.out.fr hf)
    have HOL : Hid ((orderO (clsL es) sd).length ≤ 100000) := Lib.hid (by rw [order_length]; have := headsK_le (clsL es) (clsL es).length; rw [headsK_all] at this; have := clsL_len es; omega)
    have HOR : Hid (Zs w8 (.slice (some ⟨g, 0, none⟩) (orderO (clsL es) sd).length (orderO (clsL es) sd).length) ((orderO (clsL es) sd).map Int.ofNat)) := Lib.hid (hag.nums rfl (by have := HOL.out; omega)).zs
    have HGN : Hid (g ≠ p ∧ g ≠ q) := Lib.hid (by have := lt_of_block HP7.out; have := lt_of_block HQB7.out; omega)
    obtain ⟨on, eon⟩ : ∃ on, on = (orderO (clsL es) sd).length := ⟨_, rfl⟩
    rw [← eon] at HOR ⊢
    clear hb hf hg hag eon
    have x3o := row_cell hq8 3
    simp at x3o
    have y3o := row_free hq8 3
    have hq9 := row_set hq8 3 (.slice (some ⟨g, 0, none⟩) on on)
    have hp9 := heap_other hp8 ⟨q, 3, none⟩ (.slice (some ⟨g, 0, none⟩) on on) (by simpa using HQP.out.1)
    have hf9 : Fr [] w (w8.setCell ⟨q, 3, none⟩ (.slice (some ⟨g, 0, none⟩) on on)) := HF8.out.setCell _ _ (Or.inr HQP.out.2)
    have hg9 : Fr [q] w8 (w8.setCell ⟨q, 3, none⟩ (.slice (some ⟨g, 0, none⟩) on on)) := (Fr.refl [q] w8).setCell _ _ (by simp)
    have hset := set5P (.slice ea2 es.length ec2) (.string ⟨rt.toArray⟩) (.slice pa2 ps.length pc2) (.slice (some ⟨g, 0, none⟩) on on) (.slice none 0 0) hp9 hf9 (by have := EP.out; omega)
    have hall : Fr [q, p] w8 (((((((w8.setCell ⟨q, 3, none⟩ (.slice (some ⟨g, 0, none⟩) on on))).setCell ⟨p, 0, none⟩ (.slice ea2 es.length ec2)).setCell ⟨p, 1, none⟩ (.string ⟨rt.toArray⟩)).setCell ⟨p, 2, none⟩ (.slice pa2 ps.length pc2)).setCell ⟨p, 3, none⟩ (.slice (some ⟨g, 0, none⟩) on on)).setCell ⟨p, 4, none⟩ (.slice none 0 0)) := (((((hg9.mono (Y := [q, p]) (fun x hx => Or.inl (by rw [List.mem_singleton.1 hx]; simp))).setCell _ _ (by simp)).setCell _ _ (by simp)).setCell _ _ (by simp)).setCell _ _ (by simp)).setCell _ _ (by simp)
    have HSET := Lib.hid hset
    have HALL := Lib.hid hall
    have q0 := row_cell hq9 0
    have q1 := row_cell hq9 1
    have q2 := row_cell hq9 2
    have q3 := row_cell hq9 3
    have q4 := row_cell hq9 4
    simp at q0 q1 q2 q3 q4
    have y0 := row_free hp9 0
    have y1 := row_free hp9 1
    have y2 := row_free hp9 2
    have y3 := row_free hp9 3
    have y4 := row_free hp9 4
    have z0 := row_cell hp9 0
    have z1 := row_cell hp9 1
    have z2 := row_cell hp9 2
    have z3 := row_cell hp9 3
    have z4 := row_cell hp9 4
    simp at z0 z1 z2 z3 z4
    clear hq9 hp9 hf9 hg9 hset hall hp8 hq8
    go_wp2_with fail
    obtain ⟨hfx, hrx⟩ := HSET.out
    have HFX := Lib.hid hfx
    have HRD : Hid (PblR (((((((w8.setCell ⟨q, 3, none⟩ (.slice (some ⟨g, 0, none⟩) on on))).setCell ⟨p, 0, none⟩ (.slice ea2 es.length ec2)).setCell ⟨p, 1, none⟩ (.string ⟨rt.toArray⟩)).setCell ⟨p, 2, none⟩ (.slice pa2 ps.length pc2)).setCell ⟨p, 3, none⟩ (.slice (some ⟨g, 0, none⟩) on on)).setCell ⟨p, 4, none⟩ (.slice none 0 0)) (.agg #[.slice ea2 es.length ec2, .string ⟨rt.toArray⟩, .slice pa2 ps.length pc2, .slice (some ⟨g, 0, none⟩) on on, .slice none 0 0]) ⟨es, rt, ps, (orderO (clsL es) sd).map Int.ofNat, []⟩) := Lib.hid
      ⟨_, _, _, _, rfl, HE8.out.frX HALL.out (fun b hb hm => by
        have h1 := HBE.out b hb
        simp at hm
        omega), HQ8.out.frX HALL.out (fun b hb hm => by
        have h1 := HBQ.out b hb
        simp at hm
        omega), HOR.out.fr HALL.out (fun b hb hm => by
        obtain rfl : g = b := by simpa [Value.ownBlock] using hb
        have h1 := HGN.out
        simp at hm
        omega), Or.inl ⟨rfl, none, rfl⟩⟩
    have m0 := row_cell hrx 0
    have m1 := row_cell hrx 1
    have m2 := row_cell hrx 2
    have m3 := row_cell hrx 3
    have m4 := row_cell hrx 4
    simp at m0 m1 m2 m3 m4
    clear hfx hrx
    refine bodyPost_ret (v := .tuple #[.agg #[.slice ea2 es.length ec2, .string ⟨rt.toArray⟩, .slice pa2 ps.length pc2, .slice (some ⟨g, 0, none⟩) on on, .slice none 0 0], .int .i64 0]) ?_ rfl ⟨_, by rw [HR.out], by rw [HR.out]; exact HRD.out, HFX.out.toBelow (by simp), _, _, _, _, rfl⟩
    rw [results_cell_tmp rfl]
    go_simp

/-- Publish, where it answers without an error; nothing is served. -/
theorem pubNew_any (ev pv : Value) (es ps : List Pty) (P : Pbl) (w : World) (he : Pts w ev es) (hp : Pts w pv ps) (hl : EntS es) (hn : es.length ≤ 100000) (hpn : ps.length ≤ 100000) (hps : ∀ p ∈ ps, p.name.length ≤ 1000000 ∧ p.rev.length ≤ 1000000) (hT : Tabs w)
    (hP : pubS (clsL es) es ps = (P, 0)) (n m on : Nat) (h1 : P.ents.length = n) (h2 : P.parts.length = m) (h3 : P.order.length = on) :
    Calls Tryz.prog 13 #[ev, pv] w fun e w' => ∃ ea ec pa pc oa oc, e = .returned (.tuple #[.agg #[.slice ea n ec, .string ⟨P.root.toArray⟩, .slice pa m pc, .slice oa on oc, .slice none 0 0], .int .i64 0]) ∧
      Pts w' (.slice ea n ec) P.ents ∧ Pts w' (.slice pa m pc) P.parts ∧ Zs w' (.slice oa on oc) P.order ∧ Below w.heap.size w w' :=
  (publish2_any ev pv es ps w he hp hl hn hpn hps hT).mono fun e w' ⟨v, he, hr, hb, r, x1, x2, x3, hv⟩ => by
    rw [hP] at he hr
    obtain ⟨ea, ec, pa, pc, oa, oc, sa, sc, rfl, g1, g2, g3, g4⟩ := hr.form
    rw [h1, h2, h3] at he
    rw [h1] at g1
    rw [h2] at g2
    rw [h3] at g3
    simp at hv
    obtain ⟨_, _, _, _, e1, e2, e3⟩ := hv
    subst e1 e3
    rw [e2] at he
    exact ⟨ea, ec, pa, pc, oa, oc, he, g1, g2, g3, hb⟩
theorem nodupN_len : ∀ {l m : List Nat}, l.Nodup → (∀ x ∈ l, x ∈ m) → l.length ≤ m.length
  | [], _, _, _ => Nat.zero_le _
  | x :: l, m, h, hs => by
    have h' := List.nodup_cons.1 h
    have hx := hs x (by simp)
    have ih := nodupN_len (l := l) (m := m.erase x) h'.2 (fun y hy => (List.mem_erase_of_ne (fun e => h'.1 (by rw [← e]; exact hy))).2 (hs y (List.mem_cons_of_mem _ hy)))
    rw [List.length_erase_of_mem hx] at ih
    have := List.length_pos_of_mem hx
    rw [List.length_cons]
    omega
theorem perm_mem {l : List Nat} {n : Nat} (h : Perm l n) {j : Nat} (hj : j < n) : j ∈ l := by
  obtain ⟨h1, h2, h3⟩ := h
  have hnd : l.Nodup := List.pairwise_iff_getElem.2 (fun a b ha hb hab e => by
    have := h3 a b (by omega) (by omega) (by rw [List.getD_eq_getElem?_getD, List.getElem?_eq_getElem ha, List.getD_eq_getElem?_getD, List.getElem?_eq_getElem hb]; simpa using e)
    omega)
  by_cases hm : j ∈ l
  · exact hm
  · exfalso
    have hs : ∀ x ∈ l, x ∈ (List.range n).erase j := fun x hx => by
      have hne : x ≠ j := fun e => hm (by rw [← e]; exact hx)
      obtain ⟨k, hk, rfl⟩ := List.getElem_of_mem hx
      have := h2 k (by omega)
      rw [List.getD_eq_getElem?_getD, List.getElem?_eq_getElem hk] at this
      exact (List.mem_erase_of_ne hne).2 (List.mem_range.2 (by simpa using this))
    have := nodupN_len hnd hs
    rw [List.length_erase_of_mem (List.mem_range.2 hj), List.length_range] at this
    omega
theorem orderN_nodup (o : List Nat) (seed : List UInt8) : (orderO o seed).Nodup := by
  have h := order_nodup o seed
  refine List.pairwise_iff_getElem.2 (fun i j hi hj hij e => ?_)
  have := List.pairwise_iff_getElem.1 h i j (by simpa using hi) (by simpa using hj) hij
  rw [List.getElem_map, List.getElem_map] at this
  exact this (by rw [e])
theorem heads_in_order {o : List Nat} (seed : List UInt8) {i : Nat} (hi : i < o.length) (h : o.getD i 0 = i) : i ∈ orderO o seed := by
  obtain ⟨j, hj, e⟩ := List.getElem_of_mem (heads_mem hi h)
  unfold orderO
  refine List.mem_map.2 ⟨j, perm_mem (perm_S seed (headsO o).length) hj, ?_⟩
  rw [List.getD_eq_getElem?_getD, List.getElem?_eq_getElem hj, e]
  rfl
/-- How often each number stands among the first k. -/
def cntsN (W : List Nat) (n k : Nat) : List Nat := (List.range n).map fun i => (W.take k).count i
theorem cntsN_at (W : List Nat) {n i : Nat} (k : Nat) (hi : i < n) : (cntsN W n k).getD i 0 = (W.take k).count i := by
  unfold cntsN
  rw [List.getD_eq_getElem?_getD, List.getElem?_map, List.getElem?_range hi]
  rfl
theorem cntsN_zero (W : List Nat) (n : Nat) : cntsN W n 0 = List.replicate n 0 := by
  unfold cntsN
  refine List.ext_getElem (by simp) (fun i h1 h2 => by simp)
theorem cntsN_len (W : List Nat) (n k : Nat) : (cntsN W n k).length = n := by simp [cntsN]
theorem cntsN_step (W : List Nat) {n k x : Nat} (hk : k < W.length) (hx : W.getD k 0 = x) : (cntsN W n k).set x ((W.take k).count x + 1) = cntsN W n (k + 1) := by
  refine List.ext_getElem (by simp [cntsN]) (fun i h1 h2 => ?_)
  have hi : i < n := by simpa [cntsN] using h2
  have ht := take_snoc' W k 0 hk
  rw [hx] at ht
  rw [List.getElem_set]
  have e2 : (cntsN W n (k + 1))[i] = (W.take (k + 1)).count i := by simp [cntsN]
  rw [e2, ht, List.count_append]
  by_cases h : x = i
  · subst h
    simp
  · rw [if_neg h]
    have : ([x] : List Nat).count i = 0 := by
      rw [List.count_eq_zero]
      simp
      exact fun e => h e.symm
    rw [this]
    simp [cntsN]
theorem count_le' (W : List Nat) (k i : Nat) : (W.take k).count i ≤ k := Nat.le_trans List.count_le_length (by rw [List.length_take]; exact Nat.min_le_left _ _)
theorem count_head {o : List Nat} {seed : List UInt8} {i : Nat} (hi : i < o.length) (h : o.getD i 0 = i) : (orderO o seed).count i = 1 := by
  have h1 := heads_in_order seed hi h
  have h2 := orderN_nodup o seed
  have h3 : (orderO o seed).count i ≤ 1 := List.nodup_iff_count.1 h2 i
  have h4 := List.count_pos_iff.2 h1
  omega

set_option maxHeartbeats 16000000 in
theorem auditHonest_any (ev0 : Value) (es : List Pty) (pv0 : Value) (ps : List Pty) (bv0 : Value) (which : List Bool) (w : World) (hT : Tabs w) (he : Pts w ev0 es) (hp : Pts w pv0 ps) (hz : Bools w bv0 which) :
    Calls Tryz.prog 4 #[ev0, pv0, bv0] w fun e w' => e = .returned (.bool true) ∧ Below w.heap.size w w' := by
  have HT := Lib.hid hT
  have HE0 := Lib.hid he
  have HP0 := Lib.hid hp
  have HB0 := Lib.hid hz
  have HFEW := Lib.hid (fun (W : World) (hf : Fr [] w W) => few20_any _ (⟨es, [], ps, [], []⟩ : Pbl) 20 W ⟨ev0, pv0, .slice none 0 0, .slice none 0 0, rfl, he.fr hf, hp.fr hf, Or.inl ⟨rfl, none, rfl⟩, Or.inl ⟨rfl, none, rfl⟩⟩)
  obtain ⟨ea0, ec0, rfl, _, _, _⟩ := he.form
  obtain ⟨pa0, pc0, rfl, _, _, _⟩ := hp.form
  obtain ⟨za, zc, rfl, _, hza⟩ := hz.form
  have hmx : Tryz.prog.follows .mixedOrders = true := by kernel_rfl
  obtain ⟨bn, ebn⟩ : ∃ n, n = which.length := ⟨_, rfl⟩
  rw [← ebn] at hza HB0 ⊢
  have EBN := Lib.hid ebn
  clear hT he hp hz ebn
  go_enter Tryz.func4, Tryz.ntmps4
  go_wp2_with fail
  refine (head20_any w HT.out).mono ?_
  rintro e w1 ⟨rfl, hb⟩
  have HF1 := Lib.hid (Fr.ofBelow (X := []) hb)
  clear hb
  go_wp2_with fail
  refine (HFEW.out w1 HF1.out).mono ?_
  rintro e w2 ⟨rfl, hb⟩
  have HF2 := Lib.hid (HF1.out.below hb HF1.out.size)
  clear hb HFEW
  obtain ⟨fb, efb⟩ : ∃ q, q = few20B (⟨es, [], ps, [], []⟩ : Pbl) 20 := ⟨_, rfl⟩
  rw [← efb]
  cases fb with
  | false =>
    clear efb
    go_wp2_with fail
    go_ret
    exact ⟨rfl, HF2.out.toBelow (by simp)⟩
  | true =>
  have HOK := Lib.hid (few20_ok efb.symm (fun k hk => by cases hk) (fun k hk => by cases hk))
  clear efb
  by_cases hbn : bn ≤ 60
  case neg =>
    have t0 : decide ((60 : Int) < (bn : Int)) = true := by simp; omega
    clear hbn
    go_wp2_with fail
    go_ret
    exact ⟨rfl, HF2.out.toBelow (by simp)⟩
  have t0 : decide ((60 : Int) < (bn : Int)) = false := by simp; omega
  have HPZ := Lib.hid (pub_two (clsL es) es ps)
  have HCL : Hid ((clsL es).length ≤ 1000) := Lib.hid (by have h1 := clsL_len es; have h2 := HOK.out.2.1; simp only at h2; omega)
  have HEN : Hid (es.length ≤ 20) := Lib.hid HOK.out.2.1
  have HPN : Hid (ps.length ≤ 20) := Lib.hid HOK.out.2.2.1
  rcases HPZ.out with ⟨P, hP, hgood, hpe, hpp, hps, hpo, hpr⟩ | hbad
  case inr =>
    obtain ⟨er, eer⟩ : ∃ q, q = (pubS (clsL es) es ps).2 := ⟨_, rfl⟩
    have t1 : (er != 0) = true := by rw [eer]; simpa using hbad
    have HN := Lib.hid (pubNo_any _ _ es ps er w2 (HE0.out.fr HF2.out) (HP0.out.fr HF2.out) HOK.out.1.e (by have := HEN.out; omega) (by have := HPN.out; omega) HOK.out.1.p (HT.out.fr HF2.out) eer.symm (by rw [eer]; exact hbad))
    clear eer hbad
    go_wp2_with fail
    refine HN.out.mono ?_
    rintro e w3 ⟨ea, ec, pa, pc, oa, oc, sa, sc, rfl, hb⟩
    have HF3 := Lib.hid (HF2.out.below hb HF2.out.size)
    obtain ⟨W4, hW4⟩ : ∃ W, W = w3.alloc (.cells #[.slice ea 0 ec, .string ⟨#[]⟩, .slice pa 0 pc, .slice oa 0 oc, .slice sa 0 sc] 26) := ⟨_, rfl⟩
    obtain ⟨pb, epb⟩ : ∃ q, q = w3.heap.size := ⟨_, rfl⟩
    have hp4 : W4.heap[pb]? = some (.cells #[.slice ea 0 ec, .string ⟨#[]⟩, .slice pa 0 pc, .slice oa 0 oc, .slice sa 0 sc] 26 (0, 0)) := by rw [hW4]; exact heap_new epb
    have a1 := row_cell hp4 1
    have a3 := row_cell hp4 3
    simp at a1 a3
    rw [hW4, epb] at a1 a3
    clear hb HN hW4 epb hp4
    go_wp2_with fail
    go_ret
    exact ⟨rfl, (HF3.out.alloc _).toBelow (by simp)⟩
  obtain ⟨W, hW⟩ : ∃ W : List Nat, W = orderO (clsL es) (seedS P.parts P.root).1 := ⟨_, rfl⟩
  have hPO : P.order = W.map Int.ofNat := by rw [hpo, hW]; rfl
  obtain ⟨wn, ewn⟩ : ∃ q, q = W.length := ⟨_, rfl⟩
  obtain ⟨n, en⟩ : ∃ q, q = es.length := ⟨_, rfl⟩
  obtain ⟨m, em⟩ : ∃ q, q = ps.length := ⟨_, rfl⟩
  have hwn : wn ≤ 1000 := by have h1 := wantI_len (clsL es) P; have h2 := HCL.out; rw [← hpo, hPO, List.length_map] at h1; omega
  have hn20 : n ≤ 20 := by rw [en]; exact HEN.out
  have HOK2 := Lib.hid (pubNew_any _ _ es ps P w2 (HE0.out.fr HF2.out) (HP0.out.fr HF2.out) HOK.out.1.e (by have := HEN.out; omega) (by have := HPN.out; omega) HOK.out.1.p (HT.out.fr HF2.out) hP n m wn (by rw [hpe, en]) (by rw [hpp, em]) (by rw [hPO, List.length_map, ewn]))
  have HPQ : Hid (P.ents = es ∧ P.parts = ps ∧ P.order = W.map Int.ofNat) := Lib.hid ⟨hpe, hpp, hPO⟩
  have HWX : Hid (∀ k, k < wn → W.getD k 0 < n ∧ (clsL es).getD (W.getD k 0) 0 = W.getD k 0) := Lib.hid (fun k hk => by
    have h1 := heads_order (by rw [← hW]; exact getD_mem W k 0 (by rw [← ewn]; exact hk))
    have h2 := clsL_len es
    exact ⟨by omega, h1.2⟩)
  have HCNT : Hid (∀ i, i < (clsL es).length → (clsL es).getD i 0 = i → W.count i = 1) := Lib.hid (fun i h1 h2 => by rw [hW]; exact count_head h1 h2)
  have HFIN : Hid (∀ sv : List Int, sv = servB (W.map Int.ofNat) which wn → PblS ⟨es, P.root, ps, W.map Int.ofNat, sv⟩ ∧ checkS (clsL es) ⟨es, P.root, ps, W.map Int.ofNat, sv⟩ = []) := Lib.hid (fun sv hsv => by
    have hg2 : GoodR ⟨es, P.root, ps, W.map Int.ofNat, sv⟩ := by
      obtain ⟨g1, g2, g3, g4⟩ := hgood
      rw [hpe] at g1 g2 g3
      rw [hpp] at g4
      exact ⟨g1, g2, g3, g4⟩
    have hor : (⟨es, P.root, ps, W.map Int.ofNat, sv⟩ : Pbl).order = wantI (clsL es) ⟨es, P.root, ps, W.map Int.ofNat, sv⟩ := by
      unfold wantI
      simp only
      rw [hW, hpp]
    have hnd : (W.map Int.ofNat).Nodup := by rw [hW]; exact order_nodup _ _
    have hlen : (W.map Int.ofNat).length = wn := by rw [List.length_map, ewn]
    have hsl : sv.length ≤ wn := by rw [hsv]; exact servB_len _ _ _
    have hin : ∀ k ∈ W.map Int.ofNat, inI k := by rw [← hPO, hpo]; exact wantI_in HCL.out
    have h := HOK.out.1
    have h16 := rootL_len (textsE es)
    rw [← hpr] at h16
    refine ⟨⟨h.e, h.en, h.p, h.pn, by simp only; omega, by simp only; omega, hin, by simp only; omega, fun k hk => ?_⟩, ?_⟩
    · simp only at hk
      rw [hsv] at hk
      unfold servB at hk
      obtain ⟨j, hj, hk⟩ := List.mem_flatMap.1 hk
      split at hk
      · rw [List.mem_singleton.1 hk]
        exact hin _ (getD_mem _ _ _ (by rw [hlen]; exact List.mem_range.1 hj))
      · cases hk
    · unfold checkS
      rw [check_good hg2 hor]
      have := (served_none hnd which wn (by rw [hlen]; exact Nat.le_refl _)).1
      simp only
      rw [hsv, this]
      rfl)
  have EWN := Lib.hid ewn
  have EN := Lib.hid en
  have EM := Lib.hid em
  obtain ⟨R, eR⟩ : ∃ q, q = P.root := ⟨_, rfl⟩
  rw [← eR] at HOK2 HFIN
  obtain ⟨i0, hi, hz0, hz1, hz2⟩ := info_parts iInfoD
  clear hP hgood hpe hpp hps hpo hpr ewn en em eR hW hPO
  go_wp2_with fail
  refine HOK2.out.mono ?_
  rintro e w3 ⟨ea, ec, pa, pc, oa, oc, rfl, g1, g2, g3, hb⟩
  rw [HPQ.out.1] at g1
  rw [HPQ.out.2.1] at g2
  rw [HPQ.out.2.2] at g3
  have HF3 := Lib.hid (HF2.out.below hb HF2.out.size)
  have HE3 := Lib.hid g1
  have HP3 := Lib.hid g2
  have HO3 := Lib.hid g3
  have hoa : ∀ i, i < wn → ∃ b off, oa = some ⟨b, off, none⟩ := by
    obtain ⟨_, _, eo, _, _, hx⟩ := g3.form
    rw [List.length_map, ← EWN.out] at eo hx
    cases eo
    exact hx
  obtain ⟨W4, hW4⟩ : ∃ W, W = w3.alloc (.cells #[.slice ea n ec, .string ⟨R.toArray⟩, .slice pa m pc, .slice oa wn oc, .slice none 0 0] 26) := ⟨_, rfl⟩
  obtain ⟨pb, epb⟩ : ∃ q, q = w3.heap.size := ⟨_, rfl⟩
  have HP4 := Lib.hid (show W4.heap[pb]? = some (.cells #[.slice ea n ec, .string ⟨R.toArray⟩, .slice pa m pc, .slice oa wn oc, .slice none 0 0] 26 (0, 0)) by rw [hW4]; exact heap_new epb)
  have f34 : Fr [] w3 W4 := by rw [hW4]; exact (Fr.refl [] w3).alloc _
  have F34 := Lib.hid f34
  have HF4 := Lib.hid (HF3.out.trans f34 (by simp))
  have E4 := Lib.hid hW4
  have EPB := Lib.hid epb
  clear hb g1 g2 g3 hW4 epb f34
  go_wp2_with fail
  rw [← E4.out, ← EPB.out]
  refine (classes_any _ es W4 (HE0.out.fr HF4.out) (by have := HEN.out; omega) (fun q hq => ⟨(HOK.out.1.e q hq).1, (HOK.out.1.e q hq).2.1⟩)).mono ?_
  rintro e w5 ⟨g, o, rfl, hg, ha, hc, hb⟩
  have hcl : clsL es = o := clsL_eq hc
  have HCLO := Lib.hid hcl
  have f45 := Fr.ofBelow (X := []) hb
  have F35 := Lib.hid (F34.out.trans f45 (by simp))
  have HF5 := Lib.hid (HF4.out.trans f45 (by simp))
  have HP5 := Lib.hid (f45.at HP4.out (by simp))
  have HA5 := Lib.hid ha
  have HOL : Hid (o.length = n) := Lib.hid (by rw [hc.len, EN.out])
  have HGB : Hid (pb < g ∧ g < w5.heap.size ∧ w3.heap.size ≤ pb) := Lib.hid (by have h1 := lt_of_block HP4.out; have h2 := lt_of_block ha; have h3 := EPB.out; omega)
  rw [hcl] at HWX HCNT HFIN
  rw [← EN.out]
  have t3 : ((n : Int) != (n : Int)) = false := by simp
  have HHI := Lib.hid hi
  clear hg ha hc hb hcl f45
  go_wp2_with (at_make; go_loud (refine wpList_make_full _ rfl (.tmp 55) (.tmp 55) 24 rfl w5.heap.size 3 i0 (.int .i64 0) 1 Tryz.underlying24 hi hz0 hz1 .i64 .i64 (n : Int) (n : Int) n rfl rfl rfl rfl (by rw [hz2]; omega) (by unfold maxLen; omega) (Nat.le_refl _) ?_))
  intro w6 hown hgrow
  have f56 : Fr [] w5 w6 := (Fr.refl [] w5).grown hgrow (fun r e => by cases e)
  rw [toList_madeCells_one, show List.replicate n (Value.int .i64 0) = (cntsN W n 0).map fun n : Nat => Value.int .i64 (n : Int) by rw [cntsN_zero]; simp] at hown
  have harr := (arr_of_own hown).2
  obtain ⟨cb, ecb⟩ : ∃ q, q = w5.heap.size := ⟨_, rfl⟩
  rw [← ecb] at harr ⊢
  have HC6 := Lib.hid harr
  have HF6 := Lib.hid (HF5.out.trans f56 (by simp))
  have F36 := Lib.hid (F35.out.trans f56 (by simp))
  have HP6 := Lib.hid (f56.at HP5.out (by simp))
  have HA6 := Lib.hid (HA5.out.fr f56 (by simp))
  have HBB : Hid (pb ≠ cb ∧ g ≠ pb ∧ g ≠ cb ∧ w3.heap.size ≤ pb ∧ w3.heap.size ≤ cb ∧ pb < w6.heap.size ∧ cb < w6.heap.size ∧ w3.heap.size ≤ w6.heap.size) := Lib.hid (by
    have h1 := HGB.out
    have h2 := lt_of_block harr
    have h3 := lt_of_block HP6.out
    have h4 := F36.out.size
    omega)
  clear hown hgrow f56 harr ecb hi hz0 hz1 hz2 t3
  go_wp2_with fail
  go_loopg [12] (wn + 1) (fun gh i wr => ∃ (k : Nat) (sva : Option Addr) (svc : Nat), k ≤ wn ∧ gh = wn + 1 - k ∧ i = .int .i64 (k : Int) ∧ ArrN wr cb (cntsN W n k) ∧
    wr.heap[pb]? = some (.cells #[.slice ea n ec, .string ⟨R.toArray⟩, .slice pa m pc, .slice oa wn oc, .slice sva (servB (W.map Int.ofNat) which k).length svc] 26 (0, 0)) ∧
    OwnZ w6.heap.size wr (.slice sva (servB (W.map Int.ofNat) which k).length svc) (servB (W.map Int.ofNat) which k) ∧ Fr [pb, cb] w6 wr)
  case atStart => exact ⟨0, none, 0, by omega, by omega, rfl, HC6.out, HP6.out, ⟨rfl, Or.inl ⟨rfl, rfl⟩⟩, Fr.refl _ _⟩
  case round =>
    obtain ⟨k, sva, svc, hk, hgh, rfl, har, hpr, hov, hfr⟩ := hrel
    have HG := Lib.hid hgh
    have HAR := Lib.hid har
    have HPR := Lib.hid hpr
    have HOV := Lib.hid hov
    have HFR := Lib.hid hfr
    have F3R : Hid (Fr [] w3 wr) := Lib.hid (F36.out.trans hfr (fun y hy => Or.inr (by have := HBB.out; simp at hy; omega)))
    have HWR : Hid (Fr [] w wr) := Lib.hid (HF3.out.trans F3R.out (by simp))
    have hsl := servB_len (W.map Int.ofNat) which k
    by_cases hlt : k < wn
    · have t2 : decide ((k : Int) < (wn : Int)) = true := by simp; omega
      have t2' : decide (k < wn) = true := by simp; omega
      obtain ⟨hxn, hxo⟩ := HWX.out k hlt
      obtain ⟨x, ex⟩ : ∃ x, x = W.getD k 0 := ⟨_, rfl⟩
      rw [← ex] at hxn hxo
      obtain ⟨ob, oo, rfl⟩ := hoa k hlt
      have co := (HO3.out.fr0 F3R.out).cell k (by rw [List.length_map, ← EWN.out]; exact hlt)
      have eox : (W.map Int.ofNat).getD k 0 = (x : Int) := by
        rw [ex, List.getD_eq_getElem?_getD, List.getElem?_map, List.getD_eq_getElem?_getD, List.getElem?_eq_getElem (by rw [← EWN.out]; exact hlt)]
        rfl
      rw [eox] at co
      have cg := (HA6.out.fr HFR.out (by have := HBB.out; simp; omega)).cell x (by rw [HOL.out]; exact hxn)
      rw [hxo] at cg
      have cc := HAR.out.cell x (by rw [cntsN_len]; exact hxn)
      rw [cntsN_at W k hxn] at cc
      have hstep := cntsN_step W (n := n) (k := k) (x := x) (by rw [← EWN.out]; exact hlt) ex.symm
      have hcl := count_le' W k x
      obtain ⟨c, ec⟩ : ∃ q, q = (W.take k).count x := ⟨_, rfl⟩
      rw [← ec] at cc hstep hcl
      have hss := servB_succ (W.map Int.ofNat) which k
      rw [eox] at hss
      have p3 := row_cell HPR.out 3
      have p4 := row_cell HPR.out 4
      simp at p3 p4
      have fc := row_free HAR.out x
      have i0 : (0 : Int) ≤ (x : Int) := by omega
      have i1 : (x : Int) < (n : Int) := by omega
      have i2 : (0 : Int) ≤ (k : Int) := by omega
      have i3 : (k : Int) < (wn : Int) := by omega
      have t3 : decide ((x : Int) < 0) = false := by simp
      have t4 : decide ((n : Int) ≤ (x : Int)) = false := by simp; omega
      have t4' : decide (n ≤ x) = false := by simp; omega
      have t5 : ((x : Int) != (x : Int)) = false := by simp
      obtain ⟨W7, hW7⟩ : ∃ V, V = wr.setCell ⟨cb, x, none⟩ (.int .i64 ((c : Int) + 1)) := ⟨_, rfl⟩
      have f7 : Fr [cb] wr W7 := by rw [hW7]; exact (Fr.refl [cb] wr).setCell _ _ (by simp)
      have HA7 : Hid (ArrN W7 cb (cntsN W n (k + 1))) := Lib.hid (by
        have h := HAR.out.set x (c + 1)
        rw [hstep, show (((c + 1 : Nat)) : Int) = (c : Int) + 1 by omega, ← hW7] at h
        exact h)
      have hpc : pb ∉ [cb] := by have := HBB.out; simp; omega
      have HP7 := Lib.hid (f7.at HPR.out hpc)
      have HSB : Hid (∀ b, (Value.slice sva (servB (W.map Int.ofNat) which k).length svc).ownBlock = some b → w6.heap.size ≤ b) := Lib.hid (fun b hb2 => (ownBlock_cells HOV.out b hb2).1)
      have HO7 : Hid (OwnZ w6.heap.size W7 (.slice sva (servB (W.map Int.ofNat) which k).length svc) (servB (W.map Int.ofNat) which k)) := Lib.hid (HOV.out.fr f7 (fun b hb2 hm => by have h1 := HSB.out b hb2; have h2 := HBB.out; rw [List.mem_singleton.1 hm] at h1; omega))
      have F67 := Lib.hid (HFR.out.trans f7 (fun y hy => Or.inl (by rw [List.mem_singleton.1 hy]; simp)))
      have F37 : Hid (Fr [] w3 W7) := Lib.hid (F3R.out.trans f7 (fun y hy => Or.inr (by have := HBB.out; rw [List.mem_singleton.1 hy]; omega)))
      have E7 := Lib.hid hW7
      have HSS := Lib.hid hss
      clear hgh har hpr hov hfr hstep ex ec hss hxo hpc eox
      by_cases hkb : k < bn
      case neg =>
        have t6 : decide ((k : Int) < (bn : Int)) = false := by simp; omega
        have t6' : decide (k < bn) = false := by simp; omega
        have HS2 : Hid (servB (W.map Int.ofNat) which (k + 1) = servB (W.map Int.ofNat) which k) := Lib.hid (by
          rw [HSS.out, List.getD_eq_getElem?_getD, List.getElem?_eq_none (by rw [← EBN.out]; omega)]
          simp)
        clear hkb f7 hW7
        go_wp2_with fail
        rw [← E7.out]
        go_roundg (wn + 1 - (k + 1))
        case measure => have := HG.out; omega
        case rel => exact ⟨k + 1, sva, svc, by omega, rfl, by go_num, HA7.out, by rw [HS2.out]; exact HP7.out, by rw [HS2.out]; exact HO7.out, F67.out⟩
      case pos =>
        have t6 : decide ((k : Int) < (bn : Int)) = true := by simp; omega
        have t6' : decide (k < bn) = true := by simp; omega
        obtain ⟨zb, zo, rfl⟩ := hza k hkb
        have cz := (HB0.out.fr (HF3.out.trans F37.out (by simp))).cell k (by rw [← EBN.out]; exact hkb)
        have i4 : (k : Int) < (bn : Int) := by omega
        obtain ⟨wb, ewb⟩ : ∃ q, q = which.getD k false := ⟨_, rfl⟩
        rw [← ewb] at cz HSS
        have p47 := row_cell HP7.out 4
        simp at p47
        rw [hW7] at cz p47
        clear ewb
        cases wb with
        | false =>
          have HS2 : Hid (servB (W.map Int.ofNat) which (k + 1) = servB (W.map Int.ofNat) which k) := Lib.hid (by rw [HSS.out]; simp)
          clear hkb f7 hW7
          go_wp2_with fail
          rw [← E7.out]
          go_roundg (wn + 1 - (k + 1))
          case measure => have := HG.out; omega
          case rel => exact ⟨k + 1, sva, svc, by omega, rfl, by go_num, HA7.out, by rw [HS2.out]; exact HP7.out, by rw [HS2.out]; exact HO7.out, F67.out⟩
        | true =>
          have HS2 : Hid (servB (W.map Int.ofNat) which (k + 1) = servB (W.map Int.ofNat) which k ++ [(x : Int)]) := Lib.hid (by rw [HSS.out]; simp)
          have HL3 : Hid (Fr [] w3 (W7.alloc (.cells #[.int .i64 (x : Int)] 3))) := Lib.hid (F37.out.alloc _)
          have HO7a : Hid (OwnZ w6.heap.size (W7.alloc (.cells #[.int .i64 (x : Int)] 3)) (.slice sva (servB (W.map Int.ofNat) which k).length svc) (servB (W.map Int.ofNat) which k)) := Lib.hid (HO7.out.fr ((Fr.refl [] W7).alloc _) (by simp))
          have HSZ : Hid (w6.heap.size ≤ (W7.alloc (.cells #[.int .i64 (x : Int)] 3)).heap.size) := Lib.hid (by have h1 := F67.out.size; simp; omega)
          have HZ1 : Hid (Zs (W7.alloc (.cells #[.int .i64 (x : Int)] 3)) (.slice (some ⟨W7.heap.size, 0, none⟩) 1 1) [(x : Int)]) := Lib.hid (zs_oneA (heap_new rfl))
          have hw7s : W7.heap.size = wr.heap.size := by rw [hW7]; simp [World.setCell]
          rw [hW7] at HL3 HO7a HSZ HZ1
          have HZ1' : Hid (Zs ((wr.setCell ⟨cb, x, none⟩ (.int .i64 ((c : Int) + 1))).alloc (.cells #[.int .i64 (x : Int)] 3)) (.slice (some ⟨wr.heap.size, 0, none⟩) 1 1) [(x : Int)]) := Lib.hid (by
            have h := HZ1.out
            rw [← hW7, hw7s] at h
            rw [← hW7]
            exact h)
          clear hkb f7
          clear hW7 hw7s HZ1
          go_wp2_with (at_builtin; go_loud (refine wpList_appZ rfl (.tmp 102) (.tmp 104) rfl w6.heap.size _ _ (servB (W.map Int.ofNat) which k) [(x : Int)] w3 rfl rfl (by exact HZ1'.out) (by exact HO7a.out) (by exact HL3.out) (by have := HBB.out; omega) (by exact HSZ.out) (by simp; omega) ?_))
          intro v8 w8 ho8 hf8 hx8
          rw [← HS2.out] at ho8
          obtain ⟨sva2, svc2, rfl⟩ : ∃ a c, v8 = .slice a (servB (W.map Int.ofNat) which (k + 1)).length c := by
            obtain ⟨a, c, h, _⟩ := ho8.zs.form
            exact ⟨a, c, h⟩
          have hx8' : Fr (Value.slice sva (servB (W.map Int.ofNat) which k).length svc).ownBlock.toList (W7.alloc (.cells #[.int .i64 (x : Int)] 3)) w8 := by rw [E7.out]; exact hx8
          have HNB : Hid (∀ j, j < w6.heap.size → j ∉ (Value.slice sva (servB (W.map Int.ofNat) which k).length svc).ownBlock.toList) := Lib.hid (fun j hj hm => by
            have := HSB.out j (Option.mem_toList.1 hm)
            omega)
          have hp8 := hx8'.at (((Fr.refl [] W7).alloc _).at HP7.out (by simp)) (HNB.out pb (by have := HBB.out; omega))
          have ha8 := (HA7.out.fr ((Fr.refl [] W7).alloc (.cells #[.int .i64 (x : Int)] 3)) (by simp)).fr hx8' (HNB.out cb (by have := HBB.out; omega))
          have F68 : Fr [pb, cb] w6 w8 := (F67.out.alloc (.cells #[.int .i64 (x : Int)] 3)).trans hx8' (fun y hy => Or.inr (HSB.out y (Option.mem_toList.1 hy)))
          have p48 := row_cell hp8 4
          have y48 := row_free hp8 4
          simp at p48
          obtain ⟨W9, hW9⟩ : ∃ V, V = w8.setCell ⟨pb, 4, none⟩ (.slice sva2 (servB (W.map Int.ofNat) which (k + 1)).length svc2) := ⟨_, rfl⟩
          have f9 : Fr [pb] w8 W9 := by rw [hW9]; exact (Fr.refl [pb] w8).setCell _ _ (by simp)
          have HP9 : Hid (W9.heap[pb]? = some (.cells #[.slice ea n ec, .string ⟨R.toArray⟩, .slice pa m pc, .slice (some ⟨ob, oo, none⟩) wn oc, .slice sva2 (servB (W.map Int.ofNat) which (k + 1)).length svc2] 26 (0, 0))) := Lib.hid (by rw [hW9]; exact row_set hp8 4 _)
          have HA9 : Hid (ArrN W9 cb (cntsN W n (k + 1))) := Lib.hid (ha8.fr f9 (by have := HBB.out; simp; omega))
          have HO9 : Hid (OwnZ w6.heap.size W9 (.slice sva2 (servB (W.map Int.ofNat) which (k + 1)).length svc2) (servB (W.map Int.ofNat) which (k + 1))) := Lib.hid (ho8.fr f9 (fun b hb2 hm => by
            have h1 := (ownBlock_cells ho8 b hb2).1
            have h2 := HBB.out
            rw [List.mem_singleton.1 hm] at h1
            omega))
          have F69 : Hid (Fr [pb, cb] w6 W9) := Lib.hid (F68.trans f9 (fun y hy => Or.inl (by rw [List.mem_singleton.1 hy]; simp)))
          have E9 := Lib.hid hW9
          clear ho8 hf8 hx8 hx8' hp8 ha8 F68 hW9 f9 cz p47 p3 p4 co cg cc fc
          go_wp2_with fail
          rw [← E9.out]
          go_roundg (wn + 1 - (k + 1))
          case measure => have := HG.out; omega
          case rel => exact ⟨k + 1, sva2, svc2, by omega, rfl, by go_num, HA9.out, HP9.out, HO9.out, F69.out⟩
    · obtain rfl : k = wn := by omega
      have t2 : decide ((k : Int) < (k : Int)) = false := by simp
      have p3 := row_cell HPR.out 3
      simp at p3
      clear hgh har hpr hov hfr
      obtain ⟨sn, esn⟩ : ∃ q, q = (servB (W.map Int.ofNat) which k).length := ⟨_, rfl⟩
      have ESN := Lib.hid esn
      rw [← esn] at HPR HOV
      clear esn hsl
      go_wp2_with fail
      clear p3
      obtain ⟨wo, rfl⟩ : ∃ wo : World, wo = wr := ⟨_, rfl⟩
      go_loopg [14] (n + 1) (fun gh i wr => ∃ q : Nat, q ≤ n ∧ gh = n + 1 - q ∧ i = .int .i64 (q : Int) ∧ Fr [] wo wr)
      case atStart => exact ⟨0, by omega, by omega, rfl, Fr.refl _ _⟩
      case round =>
        obtain ⟨q, hq, hgq, rfl, hfq⟩ := hrel
        have HGQ := Lib.hid hgq
        have HFQ := Lib.hid hfq
        have hgn : g ∉ [pb, cb] := by have := HBB.out; simp; omega
        clear hgq hfq
        by_cases hltq : q < n
        · have t6 : decide ((q : Int) < (n : Int)) = true := by simp; omega
          have t6' : decide (q < n) = true := by simp; omega
          have cg := (((HA6.out.fr HFR.out hgn).fr HFQ.out (by simp))).cell q (by rw [HOL.out]; exact hltq)
          have cc := (HAR.out.fr HFQ.out (by simp)).cell q (by rw [cntsN_len]; exact hltq)
          rw [cntsN_at W k hltq, EWN.out, List.take_length] at cc
          have HQ1 := Lib.hid (HCNT.out q (by rw [HOL.out]; exact hltq))
          obtain ⟨y, ey⟩ : ∃ r, r = o.getD q 0 := ⟨_, rfl⟩
          obtain ⟨c, ec⟩ : ∃ r, r = W.count q := ⟨_, rfl⟩
          rw [← ey] at cg HQ1
          rw [← ec] at cc HQ1
          have i0 : (0 : Int) ≤ (q : Int) := by omega
          have i1 : (q : Int) < (n : Int) := by omega
          clear ey ec hgn
          by_cases hyq : y = q
          · have t7 : ((y : Int) == (q : Int)) = true := by simp [hyq]
            have hc1 : c = 1 := HQ1.out hyq
            have t8 : ((c : Int) != 1) = false := by simp [hc1]
            clear hyq hc1
            go_wp2_with fail
            go_roundg (n + 1 - (q + 1))
            case measure => have := HGQ.out; omega
            case rel => exact ⟨q + 1, by omega, rfl, by go_num, HFQ.out⟩
          · have t7 : ((y : Int) == (q : Int)) = false := by rw [beq_eq_false_iff_ne]; omega
            clear hyq
            go_wp2_with fail
            go_roundg (n + 1 - (q + 1))
            case measure => have := HGQ.out; omega
            case rel => exact ⟨q + 1, by omega, rfl, by go_num, HFQ.out⟩
        · obtain rfl : q = n := by omega
          have t6 : decide ((q : Int) < (q : Int)) = false := by simp
          have F3Q : Hid (Fr [] w3 wr) := Lib.hid (F3R.out.trans HFQ.out (by simp))
          have HPQ2 := HFQ.out.at HPR.out (by simp)
          have p0 := row_cell HPQ2 0
          have p1 := row_cell HPQ2 1
          have p2 := row_cell HPQ2 2
          have p3 := row_cell HPQ2 3
          have p4 := row_cell HPQ2 4
          simp at p0 p1 p2 p3 p4
          have HRR : Hid (PblR wr (.agg #[.slice ea q ec, .string ⟨R.toArray⟩, .slice pa m pc, .slice oa k oc, .slice sva sn svc]) ⟨es, R, ps, W.map Int.ofNat, servB (W.map Int.ofNat) which k⟩) := Lib.hid ⟨_, _, _, _, rfl, HE3.out.fr F3Q.out, HP3.out.fr F3Q.out, HO3.out.fr0 F3Q.out, HOV.out.zs.fr0 HFQ.out⟩
          have HFN := Lib.hid (HFIN.out _ rfl)
          clear HPQ2 hgn
          go_wp2_with fail
          refine (check20_any _ _ wr HRR.out HFN.out.1 (HT.out.fr (HWR.out.trans HFQ.out (by simp)))).mono ?_
          rintro e w10 ⟨cv, rfl, hcv, hb⟩
          rw [HCLO.out] at hcv
          have hck := HFN.out.2
          have hcv2 : Ads w10 cv [] := by rw [← hck]; exact hcv
          obtain ⟨xa, xc, rfl, _⟩ := hcv2.form
          have HFE := Lib.hid ((HWR.out.trans HFQ.out (by simp)).below hb (HWR.out.trans HFQ.out (by simp)).size)
          clear hcv hcv2 hck hb p0 p1 p2 p3 p4
          go_wp2_with fail
          go_ret
          exact ⟨rfl, HFE.out.toBelow (by simp)⟩
end Go.Proofs.YtcohghaanakiiaaGreatDoor
