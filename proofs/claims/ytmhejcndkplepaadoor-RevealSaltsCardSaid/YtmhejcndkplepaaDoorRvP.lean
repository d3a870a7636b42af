/-
  foyerlaw31: RevealSalts.
-/
import Derived.Test.YtmhejcndkplepaaDoorRvO
import Derived.Test.YtmhejcndkplepaaDoorRvM
namespace Go.Proofs.YtmhejcndkplepaaDoor
open Go.RowKit

set_option maxRecDepth 100000 in
set_option maxHeartbeats 8000000 in
theorem revealSalts_any (v : Value) (fields : List (List UInt8)) (ov : Value) (others : List (List UInt8)) (s t : List UInt8) (w : World) (hs9 : s.length ≤ 140737488355328) (ht9 : t.length ≤ 140737488355328) (hT : Tabs w) (hv : Strs w v fields) (ho : Strs w ov others) :
    Calls Tryd.prog 9 #[v, ov, .string ⟨s.toArray⟩, .string ⟨t.toArray⟩] w fun e w' => e = .returned (.bool true) ∧ Below w.heap.size w w' := by
  have hmx : Tryd.prog.follows .mixedOrders = true := by kernel_rfl
  have HT := Lib.hid hT
  have HV := Lib.hid hv
  have HO := Lib.hid ho
  obtain ⟨fa, fcap, rfl, hfl, hfa⟩ := hv.form
  obtain ⟨oa, ocap, rfl, hol, hoa⟩ := ho.form
  clear hT hv ho
  go_enter Tryd.func9, Tryd.ntmps9
  go_wp2_with fail
  refine (head31_any w HT.out).mono ?_
  rintro e w1 ⟨rfl, hb1⟩
  have hf1 : Fr [] w w1 := (Fr.refl [] w).below hb1 (Nat.le_refl _)
  clear hb1
  go_wp2_with fail
  refine (short_any _ fields 30 w1 (HV.out.fr0 hf1)).mono ?_
  rintro e w2 ⟨rfl, hb2⟩
  have hf2 : Fr [] w w2 := hf1.below hb2 hf1.size
  clear hb2 hf1
  cases hsh : shortB fields 30 with
  | false => go_wp2_with fail; go_ret; exact ⟨rfl, hf2.toBelow (by simp)⟩
  | true => ?_
  have HSH := Lib.hid (shortB_all hsh)
  clear hsh
  go_wp2_with fail
  refine (short_any _ others 30 w2 (HO.out.fr0 hf2)).mono ?_
  rintro e w3 ⟨rfl, hb3⟩
  have hf3 : Fr [] w w3 := hf2.below hb3 hf2.size
  clear hb3 hf2
  cases hsh : shortB others 30 with
  | false => go_wp2_with fail; go_ret; exact ⟨rfl, hf3.toBelow (by simp)⟩
  | true => ?_
  have HSO := Lib.hid (shortB_all hsh)
  clear hsh
  by_cases hll : fields.length = others.length
  case neg =>
    have t0 : ((fields.length : Int) != (others.length : Int)) = true := by simp; omega
    have t0' : (fields.length != others.length) = true := by simp; omega
    go_wp2_with fail
    go_ret
    exact ⟨rfl, hf3.toBelow (by simp)⟩
  have t0 : ((fields.length : Int) != (others.length : Int)) = false := by simp; omega
  have t0' : (fields.length != others.length) = false := by simp; omega
  have HLL := Lib.hid hll
  clear hll
  have x1 : IntKind.i64.wrap ((s.length : Int) + (t.length : Int)) = (s.length : Int) + (t.length : Int) := IntWalk.i64_in _ (by omega)
  by_cases h1 : 300 < s.length + t.length
  · have t1 : decide ((300 : Int) < (s.length : Int) + (t.length : Int)) = true := by simp; omega
    go_wp2_with fail
    go_ret
    exact ⟨rfl, hf3.toBelow (by simp)⟩
  have t1 : decide ((300 : Int) < (s.length : Int) + (t.length : Int)) = false := by simp; omega
  go_wp2_with fail
  refine (seal_any _ fields s w3 (HV.out.fr0 hf3) (by have := HSH.out.2; omega) (by omega) (fun f hf => by have := HSH.out.1 f hf; omega) (HT.out.fr hf3)).mono ?_
  rintro e w4 ⟨rfl, hb4⟩
  have hf4 : Fr [] w w4 := hf3.below hb4 hf3.size
  clear hb4 hf3
  go_wp2_with fail
  refine (seal_any _ others t w4 (HO.out.fr0 hf4) (by have := HSO.out.2; omega) (by omega) (fun f hf => by have := HSO.out.1 f hf; omega) (HT.out.fr hf4)).mono ?_
  rintro e w5 ⟨rfl, hb5⟩
  have hf5 : Fr [] w w5 := hf4.below hb5 hf4.size
  clear hb5 hf4
  obtain ⟨r1, er1⟩ : ∃ r, r = sealS fields s := ⟨_, rfl⟩
  obtain ⟨r2, er2⟩ : ∃ r, r = sealS others t := ⟨_, rfl⟩
  rw [← er1, ← er2]
  by_cases hr : r1 = r2
  case neg =>
    have t2 : (r1 != r2) = true := by simpa using hr
    have t3 : (r1 == r2) = false := by simpa using hr
    clear er1 er2
    go_wp2_with fail
    go_ret
    exact ⟨rfl, hf5.toBelow (by simp)⟩
  have HR : Hid (sealS fields s = sealS others t) := Lib.hid (by rw [← er1, ← er2]; exact hr)
  have t2 : (r2 != r2) = false := by simp
  subst hr
  clear er1 er2
  go_wp2_with fail
  refine (elements31_any _ fields s w5 (HV.out.fr0 hf5) (by have := HSH.out.2; omega) (by omega) (fun f hf => by have := HSH.out.1 f hf; omega) (HT.out.fr hf5)).mono ?_
  rintro e w6 ⟨lv, rfl, hl6, hb6⟩
  have hf6 : Fr [] w w6 := hf5.below hb6 hf5.size
  have HL6 := Lib.hid hl6.strs
  clear hb6 hf5 hl6
  go_wp2_with fail
  refine (elements31_any _ others t w6 (HO.out.fr0 hf6) (by have := HSO.out.2; omega) (by omega) (fun f hf => by have := HSO.out.1 f hf; omega) (HT.out.fr hf6)).mono ?_
  rintro e w7 ⟨mv, rfl, hm7, hb7⟩
  have hf7 : Fr [] w w7 := hf6.below hb7 hf6.size
  have HM7 := Lib.hid hm7.strs
  have HL7 := Lib.hid (HL6.out.fr0 (Fr.ofBelow (X := []) hb7))
  clear hb7 hf6 hm7 HL6
  obtain ⟨la, lcap, rfl, hlln, hla⟩ : ∃ a c, lv = .slice a fields.length c ∧ fields.length ≤ 9223372036854775807 ∧ (∀ i, i < fields.length → ∃ b off, a = some ⟨b, off, none⟩) := by
    obtain ⟨a, c, h1, h2, h3⟩ := HL7.out.form
    simp only [elemsL_length] at h1 h2 h3
    exact ⟨a, c, h1, h2, h3⟩
  obtain ⟨ma, mcap, rfl, hmln, hma⟩ : ∃ a c, mv = .slice a fields.length c ∧ fields.length ≤ 9223372036854775807 ∧ (∀ i, i < fields.length → ∃ b off, a = some ⟨b, off, none⟩) := by
    obtain ⟨a, c, h1, h2, h3⟩ := HM7.out.form
    simp only [elemsL_length, ← HLL.out] at h1 h2 h3
    exact ⟨a, c, h1, h2, h3⟩
  go_wp2_with fail
  go_loopg [12] (fields.length + 1) (fun gh i wr => ∃ k : Nat, k ≤ fields.length ∧ gh = fields.length + 1 - k ∧ i = .int .i64 (k : Int) ∧ Fr [] w7 wr)
  case atStart => exact ⟨0, by omega, by omega, rfl, Fr.refl _ _⟩
  case round =>
    obtain ⟨k, hk, hgh, rfl, hfr⟩ := hrel
    have HG := Lib.hid hgh
    clear hgh t0 t0' t1 t2 x1
    by_cases hlt : k < fields.length
    · have t1 : decide ((k : Int) < (fields.length : Int)) = true := by simp; omega
      go_wp2_with fail
      refine (path_any _ (elemsL others t) (k : Int) wr (HM7.out.fr0 hfr) (by rw [elemsL_length]; have := HSO.out.2; omega) (elemsL_short (fun f hf => by have := HSO.out.1 f hf; omega)) (HT.out.fr (hf7.trans hfr (by simp)))).mono ?_
      rintro e w8 ⟨pt, ep, rfl, _, hpt, hb8⟩
      obtain ⟨rfl, hop⟩ := hpt k rfl (by rw [elemsL_length, ← HLL.out]; exact hlt)
      have hf8 : Fr [] w7 w8 := hfr.below hb8 hfr.size
      have HP := Lib.hid hop.strs
      clear hb8 hop hpt hfr t1
      obtain ⟨lb, lo, rfl⟩ := hfa k hlt
      obtain ⟨ob, oo, rfl⟩ := hoa k (by rw [← HLL.out]; exact hlt)
      obtain ⟨mb, mo, rfl⟩ := hma k hlt
      have c0 := (hf7.trans hf8 (by simp)).cell (HV.out.cell k hlt) (by simp)
      have c1 := (hf7.trans hf8 (by simp)).cell (HO.out.cell k (by rw [← HLL.out]; exact hlt)) (by simp)
      have c2 := hf8.cell (HM7.out.cellN (by rw [elemsL_length, HLL.out]) k hlt) (by simp)
      rw [elemsL_at (by rw [← HLL.out]; exact hlt)] at c2
      have HLAW : Hid (foundL (elemsL fields s) k (eleS others t k) (pathL ((elemsL others t).map leafD) k) = false → fields.getD k [] = others.getD k [] ∧ saltS s k = saltS t k) := Lib.hid (salts_law HLL.out HR.out hlt)
      have hsl := saltS_length s k
      have htl := saltS_length t k
      have HPL : Hid ((pathL ((elemsL others t).map leafD) k).length ≤ 100000) := Lib.hid (by rw [pathL_length]; have := plen_le ((elemsL others t).map leafD).length k; rw [List.length_map, elemsL_length] at this; rw [List.length_map, elemsL_length]; have := HSO.out.2; omega)
      have HPS : Hid (∀ x ∈ pathL ((elemsL others t).map leafD) k, x.length ≤ 1000000) := Lib.hid (fun x hx => by
        have := pathL_isD ((elemsL others t).map leafD) k (fun y hy => by obtain ⟨z, _, rfl⟩ := List.mem_map.1 hy; exact dsum_isD _) x hx
        rw [isD_l16 this]; decide)
      have HES : Hid ((eleS others t k).length ≤ 1000000) := Lib.hid (by unfold eleS; rw [List.length_append, htl]; have := getD_short (i := k) HSO.out.1; omega)
      have HLS : Hid (∀ x ∈ elemsL fields s, x.length ≤ 1000000) := Lib.hid (elemsL_short (fun f hf => by have := HSH.out.1 f hf; omega))
      have HFO : Hid (∀ W, Fr [] w8 W → Calls Tryd.prog 29 #[.slice la fields.length lcap, .int .i64 (k : Int), .string ⟨(eleS others t k).toArray⟩, pt] W fun e w' => e = .returned (.bool (foundL (elemsL fields s) k (eleS others t k) (pathL ((elemsL others t).map leafD) k))) ∧ Below W.heap.size W w') := Lib.hid (fun W hW =>
        found_any _ (elemsL fields s) k (eleS others t k) pt (pathL ((elemsL others t).map leafD) k) W (HL7.out.fr0 (hf8.trans hW (by simp))) (HP.out.fr0 hW) (by rw [elemsL_length]; exact hlt) (by rw [elemsL_length]; have := HSH.out.2; omega) HLS.out HES.out HPS.out HPL.out (HT.out.fr ((hf7.trans hf8 (by simp)).trans hW (by simp))))
      have HSA : Hid (∀ W, Fr [] w8 W → Calls Tryd.prog 28 #[.string ⟨s.toArray⟩, .int .i64 (k : Int)] W fun e w' => e = .returned (.string ⟨(saltS s k).toArray⟩) ∧ Below W.heap.size W w') := Lib.hid (fun W hW =>
        salt31_any s k W (by have := HSH.out.2; omega) (by omega) (HT.out.fr ((hf7.trans hf8 (by simp)).trans hW (by simp))))
      have HSB : Hid (∀ W, Fr [] w8 W → Calls Tryd.prog 28 #[.string ⟨t.toArray⟩, .int .i64 (k : Int)] W fun e w' => e = .returned (.string ⟨(saltS t k).toArray⟩) ∧ Below W.heap.size W w') := Lib.hid (fun W hW =>
        salt31_any t k W (by have := HSH.out.2; omega) (by omega) (HT.out.fr ((hf7.trans hf8 (by simp)).trans hW (by simp))))
      generalize eleS others t k = e0 at c2 HLAW HES HFO
      generalize foundL (elemsL fields s) k e0 (pathL ((elemsL others t).map leafD) k) = fd at HLAW HFO
      generalize saltS s k = sx at HLAW HSA hsl
      generalize saltS t k = sy at HLAW HSB htl
      generalize fields.getD k [] = f at c0 HLAW
      generalize others.getD k [] = g at c1 HLAW
      have g0 : (0 : Int) ≤ (k : Int) := by omega
      have g1 : (k : Int) < (fields.length : Int) := by omega
      have g2 : (k : Int) < (others.length : Int) := by have := HLL.out; omega
      have hd : Fr [] w8 w8.drew := (Fr.refl [] w8).drew
      clear hsl htl HPL HPS HES HLS
      by_cases hfg : f = g
      · have t2 : (g != g) = false := by simp
        have t3 : (g == g) = true := by simp
        subst hfg
        by_cases hxy : sx = sy
        · have t4 : (sy != sy) = false := by simp
          have t5 : (sy == sy) = true := by simp
          subst hxy
          clear HLAW
          go_wp2_with fail
          have hc0 := c0
          have hc1 := c1
          have hc2 := c2
          have hh0 : Fr [] w8 w8.drew := (Fr.refl [] w8).drew
          have hS0 : w8.drew.cell? ⟨lb, lo + k, none⟩ = some (.string ⟨f.toArray⟩) ∧ w8.drew.cell? ⟨ob, oo + k, none⟩ = some (.string ⟨f.toArray⟩) ∧ w8.drew.cell? ⟨mb, mo + k, none⟩ = some (.string ⟨e0.toArray⟩) := ⟨hh0.cell hc0 (by simp), hh0.cell hc1 (by simp), hh0.cell hc2 (by simp)⟩
          refine region_held 100 (fun W' => W'.cell? ⟨lb, lo + k, none⟩ = some (.string ⟨f.toArray⟩) ∧ W'.cell? ⟨ob, oo + k, none⟩ = some (.string ⟨f.toArray⟩) ∧ W'.cell? ⟨mb, mo + k, none⟩ = some (.string ⟨e0.toArray⟩)) hmx ?_
          change Held _ _ _ _ _ _ 33 (Array.replicate 33 false) _ _
          refine hd_take 0 (v := .int .i64 0) rfl (by kernel_rfl) (by kernel_rfl) (by kernel_rfl) rfl hS0 (fun W' hS => by go_simp) rfl ?_
          simp only [Act.put, List.setIfInBounds_toArray, List.set_cons_zero, List.set_cons_succ]
          refine hd_take 1 (v := .bool false) rfl (by kernel_rfl) (by kernel_rfl) (by kernel_rfl) rfl hS0 (fun W' hS => by go_simp) rfl ?_
          simp only [Act.put, List.setIfInBounds_toArray, List.set_cons_zero, List.set_cons_succ]
          refine hd_take 2 (v := .bool false) rfl (by kernel_rfl) (by kernel_rfl) (by kernel_rfl) rfl hS0 (fun W' hS => by go_simp) rfl ?_
          simp only [Act.put, List.setIfInBounds_toArray, List.set_cons_zero, List.set_cons_succ]
          refine hd_take 3 (v := .slice (some ⟨lb, lo, none⟩) fields.length fcap) rfl (by kernel_rfl) (by kernel_rfl) (by kernel_rfl) rfl hS0 (fun W' hS => by go_simp) rfl ?_
          refine hd_take 4 (v := .int .i64 (k : Int)) rfl (by kernel_rfl) (by kernel_rfl) (by kernel_rfl) rfl hS0 (fun W' hS => by go_simp) rfl ?_
          refine hd_take 7 (v := .slice (some ⟨ob, oo, none⟩) others.length ocap) rfl (by kernel_rfl) (by kernel_rfl) (by kernel_rfl) rfl hS0 (fun W' hS => by go_simp) rfl ?_
          refine hd_take 8 (v := .int .i64 (k : Int)) rfl (by kernel_rfl) (by kernel_rfl) (by kernel_rfl) rfl hS0 (fun W' hS => by go_simp) rfl ?_
          simp only [Act.put, List.setIfInBounds_toArray, List.set_cons_zero, List.set_cons_succ]
          refine hd_take 5 (v := .pointer (some ⟨lb, lo + k, none⟩)) rfl (by kernel_rfl) (by kernel_rfl) (by kernel_rfl) rfl hS0 (fun W' hS => by first | (go_simp; done) | (go_simp; intro hix; omega)) rfl ?_
          refine hd_take 9 (v := .pointer (some ⟨ob, oo + k, none⟩)) rfl (by kernel_rfl) (by kernel_rfl) (by kernel_rfl) rfl hS0 (fun W' hS => by first | (go_simp; done) | (go_simp; intro hix; omega)) rfl ?_
          simp only [Act.put, List.setIfInBounds_toArray, List.set_cons_zero, List.set_cons_succ]
          refine hd_take 6 (v := .string ⟨f.toArray⟩) rfl (by kernel_rfl) (by kernel_rfl) (by kernel_rfl) rfl hS0 (fun W' hS => by obtain ⟨h0, h1, h2⟩ := hS; go_simp) rfl ?_
          refine hd_take 10 (v := .string ⟨f.toArray⟩) rfl (by kernel_rfl) (by kernel_rfl) (by kernel_rfl) rfl hS0 (fun W' hS => by obtain ⟨h0, h1, h2⟩ := hS; go_simp) rfl ?_
          simp only [Act.put, List.setIfInBounds_toArray, List.set_cons_zero, List.set_cons_succ]
          refine hd_take 11 (v := .bool false) rfl (by kernel_rfl) (by kernel_rfl) (by kernel_rfl) rfl hS0 (fun W' hS => by go_simp) rfl ?_
          simp only [Act.put, List.setIfInBounds_toArray, List.set_cons_zero, List.set_cons_succ]
          refine hd_take 12 (v := .bool false) rfl (by kernel_rfl) (by kernel_rfl) (by kernel_rfl) rfl hS0 (fun W' hS => by go_simp) rfl ?_
          simp only [Act.put, List.setIfInBounds_toArray, List.set_cons_zero, List.set_cons_succ]
          refine hd_take 13 (v := .string ⟨s.toArray⟩) rfl (by kernel_rfl) (by kernel_rfl) (by kernel_rfl) rfl hS0 (fun W' hS => by go_simp) rfl ?_
          refine hd_take 14 (v := .int .i64 (k : Int)) rfl (by kernel_rfl) (by kernel_rfl) (by kernel_rfl) rfl hS0 (fun W' hS => by go_simp) rfl ?_
          refine hd_take 16 (v := .string ⟨t.toArray⟩) rfl (by kernel_rfl) (by kernel_rfl) (by kernel_rfl) rfl hS0 (fun W' hS => by go_simp) rfl ?_
          refine hd_take 17 (v := .int .i64 (k : Int)) rfl (by kernel_rfl) (by kernel_rfl) (by kernel_rfl) rfl hS0 (fun W' hS => by go_simp) rfl ?_
          simp only [Act.put, List.setIfInBounds_toArray, List.set_cons_zero, List.set_cons_succ]
          refine hd_one 15 (by kernel_rfl) rfl (by kernel_rfl) rfl (fun K' hK => ?_)
          go_simp
          refine (HSA.out w8.drew hh0).mono ?_
          rintro e wq1 ⟨rfl, hb⟩
          have hh1 : Fr [] w8 wq1 := hh0.below hb hh0.size
          clear hb
          have hS1 : wq1.cell? ⟨lb, lo + k, none⟩ = some (.string ⟨f.toArray⟩) ∧ wq1.cell? ⟨ob, oo + k, none⟩ = some (.string ⟨f.toArray⟩) ∧ wq1.cell? ⟨mb, mo + k, none⟩ = some (.string ⟨e0.toArray⟩) := ⟨hh1.cell hc0 (by simp), hh1.cell hc1 (by simp), hh1.cell hc2 (by simp)⟩
          refine hK.out _ _ (fun _ => hS1) ?_
          clear hK K'
          try simp only [Act.put, List.setIfInBounds_toArray, List.set_cons_zero, List.set_cons_succ]
          refine hd_one 18 (by kernel_rfl) rfl (by kernel_rfl) rfl (fun K' hK => ?_)
          go_simp
          refine (HSB.out wq1 hh1).mono ?_
          rintro e wq2 ⟨rfl, hb⟩
          have hh2 : Fr [] w8 wq2 := hh1.below hb hh1.size
          clear hb
          have hS2 : wq2.cell? ⟨lb, lo + k, none⟩ = some (.string ⟨f.toArray⟩) ∧ wq2.cell? ⟨ob, oo + k, none⟩ = some (.string ⟨f.toArray⟩) ∧ wq2.cell? ⟨mb, mo + k, none⟩ = some (.string ⟨e0.toArray⟩) := ⟨hh2.cell hc0 (by simp), hh2.cell hc1 (by simp), hh2.cell hc2 (by simp)⟩
          refine hK.out _ _ (fun _ => hS2) ?_
          clear hK K'
          try simp only [Act.put, List.setIfInBounds_toArray, List.set_cons_zero, List.set_cons_succ]
          refine hd_take 19 (v := .bool false) rfl (by kernel_rfl) (by kernel_rfl) (by kernel_rfl) rfl hS2 (fun W' hS => by go_simp) rfl ?_
          simp only [Act.put, List.setIfInBounds_toArray, List.set_cons_zero, List.set_cons_succ]
          refine hd_take 20 (v := .bool false) rfl (by kernel_rfl) (by kernel_rfl) (by kernel_rfl) rfl hS2 (fun W' hS => by go_simp) rfl ?_
          simp only [Act.put, List.setIfInBounds_toArray, List.set_cons_zero, List.set_cons_succ]
          refine hd_take 21 (v := .bool false) rfl (by kernel_rfl) (by kernel_rfl) (by kernel_rfl) rfl hS2 (fun W' hS => by go_simp) rfl ?_
          simp only [Act.put, List.setIfInBounds_toArray, List.set_cons_zero, List.set_cons_succ]
          refine hd_skip 22 rfl (by kernel_rfl) (by kernel_rfl) (by kernel_rfl) rfl hS2 rfl ?_
          refine hd_skip 23 rfl (by kernel_rfl) (by kernel_rfl) (by kernel_rfl) rfl hS2 rfl ?_
          refine hd_skip 24 rfl (by kernel_rfl) (by kernel_rfl) (by kernel_rfl) rfl hS2 rfl ?_
          refine hd_skip 25 rfl (by kernel_rfl) (by kernel_rfl) (by kernel_rfl) rfl hS2 rfl ?_
          refine hd_skip 28 rfl (by kernel_rfl) (by kernel_rfl) (by kernel_rfl) rfl hS2 rfl ?_
          simp only [Act.put, List.setIfInBounds_toArray, List.set_cons_zero, List.set_cons_succ]
          refine hd_skip 26 rfl (by kernel_rfl) (by kernel_rfl) (by kernel_rfl) rfl hS2 rfl ?_
          simp only [Act.put, List.setIfInBounds_toArray, List.set_cons_zero, List.set_cons_succ]
          refine hd_skip 27 rfl (by kernel_rfl) (by kernel_rfl) (by kernel_rfl) rfl hS2 rfl ?_
          simp only [Act.put, List.setIfInBounds_toArray, List.set_cons_zero, List.set_cons_succ]
          refine hd_skip 29 rfl (by kernel_rfl) (by kernel_rfl) (by kernel_rfl) rfl hS2 rfl ?_
          simp only [Act.put, List.setIfInBounds_toArray, List.set_cons_zero, List.set_cons_succ]
          refine hd_skip 30 rfl (by kernel_rfl) (by kernel_rfl) (by kernel_rfl) rfl hS2 rfl ?_
          simp only [Act.put, List.setIfInBounds_toArray, List.set_cons_zero, List.set_cons_succ]
          refine hd_take 31 (v := .bool false) rfl (by kernel_rfl) (by kernel_rfl) (by kernel_rfl) rfl hS2 (fun W' hS => by go_simp) rfl ?_
          simp only [Act.put, List.setIfInBounds_toArray, List.set_cons_zero, List.set_cons_succ]
          refine hd_take 32 (v := .bool false) rfl (by kernel_rfl) (by kernel_rfl) (by kernel_rfl) rfl hS2 (fun W' hS => by go_simp) rfl ?_
          simp only [Act.put, List.setIfInBounds_toArray, List.set_cons_zero, List.set_cons_succ]
          refine held_done (by kernel_rfl) ?_
          have HH : Fr [] w8 wq2 := hh2
          go_wp2_with fail
          go_roundg (fields.length + 1 - (k + 1))
          case measure => have := HG.out; omega
          case rel => exact ⟨k + 1, by omega, rfl, by go_num, hf8.trans HH (by simp)⟩
        · have t4 : (sx != sy) = true := by simpa using hxy
          have t5 : (sx == sy) = false := by simpa using hxy
          obtain rfl : fd = true := by
            cases fd
            · exact absurd (HLAW.out rfl).2 hxy
            · rfl
          clear HLAW hxy
          go_wp2_with fail
          have hc0 := c0
          have hc1 := c1
          have hc2 := c2
          have hh0 : Fr [] w8 w8.drew := (Fr.refl [] w8).drew
          have hS0 : w8.drew.cell? ⟨lb, lo + k, none⟩ = some (.string ⟨f.toArray⟩) ∧ w8.drew.cell? ⟨ob, oo + k, none⟩ = some (.string ⟨f.toArray⟩) ∧ w8.drew.cell? ⟨mb, mo + k, none⟩ = some (.string ⟨e0.toArray⟩) := ⟨hh0.cell hc0 (by simp), hh0.cell hc1 (by simp), hh0.cell hc2 (by simp)⟩
          refine region_held 100 (fun W' => W'.cell? ⟨lb, lo + k, none⟩ = some (.string ⟨f.toArray⟩) ∧ W'.cell? ⟨ob, oo + k, none⟩ = some (.string ⟨f.toArray⟩) ∧ W'.cell? ⟨mb, mo + k, none⟩ = some (.string ⟨e0.toArray⟩)) hmx ?_
          change Held _ _ _ _ _ _ 33 (Array.replicate 33 false) _ _
          refine hd_take 0 (v := .int .i64 0) rfl (by kernel_rfl) (by kernel_rfl) (by kernel_rfl) rfl hS0 (fun W' hS => by go_simp) rfl ?_
          simp only [Act.put, List.setIfInBounds_toArray, List.set_cons_zero, List.set_cons_succ]
          refine hd_take 1 (v := .bool false) rfl (by kernel_rfl) (by kernel_rfl) (by kernel_rfl) rfl hS0 (fun W' hS => by go_simp) rfl ?_
          simp only [Act.put, List.setIfInBounds_toArray, List.set_cons_zero, List.set_cons_succ]
          refine hd_take 2 (v := .bool false) rfl (by kernel_rfl) (by kernel_rfl) (by kernel_rfl) rfl hS0 (fun W' hS => by go_simp) rfl ?_
          simp only [Act.put, List.setIfInBounds_toArray, List.set_cons_zero, List.set_cons_succ]
          refine hd_take 3 (v := .slice (some ⟨lb, lo, none⟩) fields.length fcap) rfl (by kernel_rfl) (by kernel_rfl) (by kernel_rfl) rfl hS0 (fun W' hS => by go_simp) rfl ?_
          refine hd_take 4 (v := .int .i64 (k : Int)) rfl (by kernel_rfl) (by kernel_rfl) (by kernel_rfl) rfl hS0 (fun W' hS => by go_simp) rfl ?_
          refine hd_take 7 (v := .slice (some ⟨ob, oo, none⟩) others.length ocap) rfl (by kernel_rfl) (by kernel_rfl) (by kernel_rfl) rfl hS0 (fun W' hS => by go_simp) rfl ?_
          refine hd_take 8 (v := .int .i64 (k : Int)) rfl (by kernel_rfl) (by kernel_rfl) (by kernel_rfl) rfl hS0 (fun W' hS => by go_simp) rfl ?_
          simp only [Act.put, List.setIfInBounds_toArray, List.set_cons_zero, List.set_cons_succ]
          refine hd_take 5 (v := .pointer (some ⟨lb, lo + k, none⟩)) rfl (by kernel_rfl) (by kernel_rfl) (by kernel_rfl) rfl hS0 (fun W' hS => by first | (go_simp; done) | (go_simp; intro hix; omega)) rfl ?_
          refine hd_take 9 (v := .pointer (some ⟨ob, oo + k, none⟩)) rfl (by kernel_rfl) (by kernel_rfl) (by kernel_rfl) rfl hS0 (fun W' hS => by first | (go_simp; done) | (go_simp; intro hix; omega)) rfl ?_
          simp only [Act.put, List.setIfInBounds_toArray, List.set_cons_zero, List.set_cons_succ]
          refine hd_take 6 (v := .string ⟨f.toArray⟩) rfl (by kernel_rfl) (by kernel_rfl) (by kernel_rfl) rfl hS0 (fun W' hS => by obtain ⟨h0, h1, h2⟩ := hS; go_simp) rfl ?_
          refine hd_take 10 (v := .string ⟨f.toArray⟩) rfl (by kernel_rfl) (by kernel_rfl) (by kernel_rfl) rfl hS0 (fun W' hS => by obtain ⟨h0, h1, h2⟩ := hS; go_simp) rfl ?_
          simp only [Act.put, List.setIfInBounds_toArray, List.set_cons_zero, List.set_cons_succ]
          refine hd_take 11 (v := .bool false) rfl (by kernel_rfl) (by kernel_rfl) (by kernel_rfl) rfl hS0 (fun W' hS => by go_simp) rfl ?_
          simp only [Act.put, List.setIfInBounds_toArray, List.set_cons_zero, List.set_cons_succ]
          refine hd_take 12 (v := .bool false) rfl (by kernel_rfl) (by kernel_rfl) (by kernel_rfl) rfl hS0 (fun W' hS => by go_simp) rfl ?_
          simp only [Act.put, List.setIfInBounds_toArray, List.set_cons_zero, List.set_cons_succ]
          refine hd_take 13 (v := .string ⟨s.toArray⟩) rfl (by kernel_rfl) (by kernel_rfl) (by kernel_rfl) rfl hS0 (fun W' hS => by go_simp) rfl ?_
          refine hd_take 14 (v := .int .i64 (k : Int)) rfl (by kernel_rfl) (by kernel_rfl) (by kernel_rfl) rfl hS0 (fun W' hS => by go_simp) rfl ?_
          refine hd_take 16 (v := .string ⟨t.toArray⟩) rfl (by kernel_rfl) (by kernel_rfl) (by kernel_rfl) rfl hS0 (fun W' hS => by go_simp) rfl ?_
          refine hd_take 17 (v := .int .i64 (k : Int)) rfl (by kernel_rfl) (by kernel_rfl) (by kernel_rfl) rfl hS0 (fun W' hS => by go_simp) rfl ?_
          simp only [Act.put, List.setIfInBounds_toArray, List.set_cons_zero, List.set_cons_succ]
          refine hd_one 15 (by kernel_rfl) rfl (by kernel_rfl) rfl (fun K' hK => ?_)
          go_simp
          refine (HSA.out w8.drew hh0).mono ?_
          rintro e wq1 ⟨rfl, hb⟩
          have hh1 : Fr [] w8 wq1 := hh0.below hb hh0.size
          clear hb
          have hS1 : wq1.cell? ⟨lb, lo + k, none⟩ = some (.string ⟨f.toArray⟩) ∧ wq1.cell? ⟨ob, oo + k, none⟩ = some (.string ⟨f.toArray⟩) ∧ wq1.cell? ⟨mb, mo + k, none⟩ = some (.string ⟨e0.toArray⟩) := ⟨hh1.cell hc0 (by simp), hh1.cell hc1 (by simp), hh1.cell hc2 (by simp)⟩
          refine hK.out _ _ (fun _ => hS1) ?_
          clear hK K'
          try simp only [Act.put, List.setIfInBounds_toArray, List.set_cons_zero, List.set_cons_succ]
          refine hd_one 18 (by kernel_rfl) rfl (by kernel_rfl) rfl (fun K' hK => ?_)
          go_simp
          refine (HSB.out wq1 hh1).mono ?_
          rintro e wq2 ⟨rfl, hb⟩
          have hh2 : Fr [] w8 wq2 := hh1.below hb hh1.size
          clear hb
          have hS2 : wq2.cell? ⟨lb, lo + k, none⟩ = some (.string ⟨f.toArray⟩) ∧ wq2.cell? ⟨ob, oo + k, none⟩ = some (.string ⟨f.toArray⟩) ∧ wq2.cell? ⟨mb, mo + k, none⟩ = some (.string ⟨e0.toArray⟩) := ⟨hh2.cell hc0 (by simp), hh2.cell hc1 (by simp), hh2.cell hc2 (by simp)⟩
          refine hK.out _ _ (fun _ => hS2) ?_
          clear hK K'
          try simp only [Act.put, List.setIfInBounds_toArray, List.set_cons_zero, List.set_cons_succ]
          refine hd_take 19 (v := .bool true) rfl (by kernel_rfl) (by kernel_rfl) (by kernel_rfl) rfl hS2 (fun W' hS => by go_simp) rfl ?_
          simp only [Act.put, List.setIfInBounds_toArray, List.set_cons_zero, List.set_cons_succ]
          refine hd_take 20 (v := .bool true) rfl (by kernel_rfl) (by kernel_rfl) (by kernel_rfl) rfl hS2 (fun W' hS => by go_simp) rfl ?_
          simp only [Act.put, List.setIfInBounds_toArray, List.set_cons_zero, List.set_cons_succ]
          refine hd_take 21 (v := .bool true) rfl (by kernel_rfl) (by kernel_rfl) (by kernel_rfl) rfl hS2 (fun W' hS => by go_simp) rfl ?_
          simp only [Act.put, List.setIfInBounds_toArray, List.set_cons_zero, List.set_cons_succ]
          refine hd_take 22 (v := .slice la fields.length lcap) rfl (by kernel_rfl) (by kernel_rfl) (by kernel_rfl) rfl hS2 (fun W' hS => by go_simp) rfl ?_
          refine hd_take 23 (v := .int .i64 (k : Int)) rfl (by kernel_rfl) (by kernel_rfl) (by kernel_rfl) rfl hS2 (fun W' hS => by go_simp) rfl ?_
          refine hd_take 24 (v := .slice (some ⟨mb, mo, none⟩) fields.length mcap) rfl (by kernel_rfl) (by kernel_rfl) (by kernel_rfl) rfl hS2 (fun W' hS => by go_simp) rfl ?_
          refine hd_take 25 (v := .int .i64 (k : Int)) rfl (by kernel_rfl) (by kernel_rfl) (by kernel_rfl) rfl hS2 (fun W' hS => by go_simp) rfl ?_
          refine hd_take 28 (v := pt) rfl (by kernel_rfl) (by kernel_rfl) (by kernel_rfl) rfl hS2 (fun W' hS => by go_simp) rfl ?_
          simp only [Act.put, List.setIfInBounds_toArray, List.set_cons_zero, List.set_cons_succ]
          refine hd_take 26 (v := .pointer (some ⟨mb, mo + k, none⟩)) rfl (by kernel_rfl) (by kernel_rfl) (by kernel_rfl) rfl hS2 (fun W' hS => by first | (go_simp; done) | (go_simp; intro hix; omega)) rfl ?_
          simp only [Act.put, List.setIfInBounds_toArray, List.set_cons_zero, List.set_cons_succ]
          refine hd_take 27 (v := .string ⟨e0.toArray⟩) rfl (by kernel_rfl) (by kernel_rfl) (by kernel_rfl) rfl hS2 (fun W' hS => by obtain ⟨h0, h1, h2⟩ := hS; go_simp) rfl ?_
          simp only [Act.put, List.setIfInBounds_toArray, List.set_cons_zero, List.set_cons_succ]
          refine hd_one 29 (by kernel_rfl) rfl (by kernel_rfl) rfl (fun K' hK => ?_)
          go_simp
          refine (HFO.out wq2 hh2).mono ?_
          rintro e wq3 ⟨rfl, hb⟩
          have hh3 : Fr [] w8 wq3 := hh2.below hb hh2.size
          clear hb
          have hS3 : wq3.cell? ⟨lb, lo + k, none⟩ = some (.string ⟨f.toArray⟩) ∧ wq3.cell? ⟨ob, oo + k, none⟩ = some (.string ⟨f.toArray⟩) ∧ wq3.cell? ⟨mb, mo + k, none⟩ = some (.string ⟨e0.toArray⟩) := ⟨hh3.cell hc0 (by simp), hh3.cell hc1 (by simp), hh3.cell hc2 (by simp)⟩
          refine hK.out _ _ (fun _ => hS3) ?_
          clear hK K'
          try simp only [Act.put, List.setIfInBounds_toArray, List.set_cons_zero, List.set_cons_succ]
          refine hd_take 30 (v := .bool false) rfl (by kernel_rfl) (by kernel_rfl) (by kernel_rfl) rfl hS3 (fun W' hS => by go_simp) rfl ?_
          simp only [Act.put, List.setIfInBounds_toArray, List.set_cons_zero, List.set_cons_succ]
          refine hd_take 31 (v := .bool false) rfl (by kernel_rfl) (by kernel_rfl) (by kernel_rfl) rfl hS3 (fun W' hS => by go_simp) rfl ?_
          simp only [Act.put, List.setIfInBounds_toArray, List.set_cons_zero, List.set_cons_succ]
          refine hd_take 32 (v := .bool false) rfl (by kernel_rfl) (by kernel_rfl) (by kernel_rfl) rfl hS3 (fun W' hS => by go_simp) rfl ?_
          simp only [Act.put, List.setIfInBounds_toArray, List.set_cons_zero, List.set_cons_succ]
          refine held_done (by kernel_rfl) ?_
          have HH : Fr [] w8 wq3 := hh3
          go_wp2_with fail
          go_roundg (fields.length + 1 - (k + 1))
          case measure => have := HG.out; omega
          case rel => exact ⟨k + 1, by omega, rfl, by go_num, hf8.trans HH (by simp)⟩
      · have t2 : (f != g) = true := by simpa using hfg
        have t3 : (f == g) = false := by simpa using hfg
        obtain rfl : fd = true := by
          cases fd
          · exact absurd (HLAW.out rfl).1 hfg
          · rfl
        clear HLAW hfg
        go_wp2_with fail
        have hc0 := c0
        have hc1 := c1
        have hc2 := c2
        have hh0 : Fr [] w8 w8.drew := (Fr.refl [] w8).drew
        have hS0 : w8.drew.cell? ⟨lb, lo + k, none⟩ = some (.string ⟨f.toArray⟩) ∧ w8.drew.cell? ⟨ob, oo + k, none⟩ = some (.string ⟨g.toArray⟩) ∧ w8.drew.cell? ⟨mb, mo + k, none⟩ = some (.string ⟨e0.toArray⟩) := ⟨hh0.cell hc0 (by simp), hh0.cell hc1 (by simp), hh0.cell hc2 (by simp)⟩
        refine region_held 100 (fun W' => W'.cell? ⟨lb, lo + k, none⟩ = some (.string ⟨f.toArray⟩) ∧ W'.cell? ⟨ob, oo + k, none⟩ = some (.string ⟨g.toArray⟩) ∧ W'.cell? ⟨mb, mo + k, none⟩ = some (.string ⟨e0.toArray⟩)) hmx ?_
        change Held _ _ _ _ _ _ 33 (Array.replicate 33 false) _ _
        refine hd_take 0 (v := .int .i64 0) rfl (by kernel_rfl) (by kernel_rfl) (by kernel_rfl) rfl hS0 (fun W' hS => by go_simp) rfl ?_
        simp only [Act.put, List.setIfInBounds_toArray, List.set_cons_zero, List.set_cons_succ]
        refine hd_take 1 (v := .bool false) rfl (by kernel_rfl) (by kernel_rfl) (by kernel_rfl) rfl hS0 (fun W' hS => by go_simp) rfl ?_
        simp only [Act.put, List.setIfInBounds_toArray, List.set_cons_zero, List.set_cons_succ]
        refine hd_take 2 (v := .bool false) rfl (by kernel_rfl) (by kernel_rfl) (by kernel_rfl) rfl hS0 (fun W' hS => by go_simp) rfl ?_
        simp only [Act.put, List.setIfInBounds_toArray, List.set_cons_zero, List.set_cons_succ]
        refine hd_take 3 (v := .slice (some ⟨lb, lo, none⟩) fields.length fcap) rfl (by kernel_rfl) (by kernel_rfl) (by kernel_rfl) rfl hS0 (fun W' hS => by go_simp) rfl ?_
        refine hd_take 4 (v := .int .i64 (k : Int)) rfl (by kernel_rfl) (by kernel_rfl) (by kernel_rfl) rfl hS0 (fun W' hS => by go_simp) rfl ?_
        refine hd_take 7 (v := .slice (some ⟨ob, oo, none⟩) others.length ocap) rfl (by kernel_rfl) (by kernel_rfl) (by kernel_rfl) rfl hS0 (fun W' hS => by go_simp) rfl ?_
        refine hd_take 8 (v := .int .i64 (k : Int)) rfl (by kernel_rfl) (by kernel_rfl) (by kernel_rfl) rfl hS0 (fun W' hS => by go_simp) rfl ?_
        simp only [Act.put, List.setIfInBounds_toArray, List.set_cons_zero, List.set_cons_succ]
        refine hd_take 5 (v := .pointer (some ⟨lb, lo + k, none⟩)) rfl (by kernel_rfl) (by kernel_rfl) (by kernel_rfl) rfl hS0 (fun W' hS => by first | (go_simp; done) | (go_simp; intro hix; omega)) rfl ?_
        refine hd_take 9 (v := .pointer (some ⟨ob, oo + k, none⟩)) rfl (by kernel_rfl) (by kernel_rfl) (by kernel_rfl) rfl hS0 (fun W' hS => by first | (go_simp; done) | (go_simp; intro hix; omega)) rfl ?_
        simp only [Act.put, List.setIfInBounds_toArray, List.set_cons_zero, List.set_cons_succ]
        refine hd_take 6 (v := .string ⟨f.toArray⟩) rfl (by kernel_rfl) (by kernel_rfl) (by kernel_rfl) rfl hS0 (fun W' hS => by obtain ⟨h0, h1, h2⟩ := hS; go_simp) rfl ?_
        refine hd_take 10 (v := .string ⟨g.toArray⟩) rfl (by kernel_rfl) (by kernel_rfl) (by kernel_rfl) rfl hS0 (fun W' hS => by obtain ⟨h0, h1, h2⟩ := hS; go_simp) rfl ?_
        simp only [Act.put, List.setIfInBounds_toArray, List.set_cons_zero, List.set_cons_succ]
        refine hd_take 11 (v := .bool true) rfl (by kernel_rfl) (by kernel_rfl) (by kernel_rfl) rfl hS0 (fun W' hS => by go_simp) rfl ?_
        simp only [Act.put, List.setIfInBounds_toArray, List.set_cons_zero, List.set_cons_succ]
        refine hd_take 12 (v := .bool true) rfl (by kernel_rfl) (by kernel_rfl) (by kernel_rfl) rfl hS0 (fun W' hS => by go_simp) rfl ?_
        simp only [Act.put, List.setIfInBounds_toArray, List.set_cons_zero, List.set_cons_succ]
        refine hd_skip 13 rfl (by kernel_rfl) (by kernel_rfl) (by kernel_rfl) rfl hS0 rfl ?_
        refine hd_skip 14 rfl (by kernel_rfl) (by kernel_rfl) (by kernel_rfl) rfl hS0 rfl ?_
        refine hd_skip 16 rfl (by kernel_rfl) (by kernel_rfl) (by kernel_rfl) rfl hS0 rfl ?_
        refine hd_skip 17 rfl (by kernel_rfl) (by kernel_rfl) (by kernel_rfl) rfl hS0 rfl ?_
        simp only [Act.put, List.setIfInBounds_toArray, List.set_cons_zero, List.set_cons_succ]
        refine hd_skip 15 rfl (by kernel_rfl) (by kernel_rfl) (by kernel_rfl) rfl hS0 rfl ?_
        simp only [Act.put, List.setIfInBounds_toArray, List.set_cons_zero, List.set_cons_succ]
        refine hd_skip 18 rfl (by kernel_rfl) (by kernel_rfl) (by kernel_rfl) rfl hS0 rfl ?_
        simp only [Act.put, List.setIfInBounds_toArray, List.set_cons_zero, List.set_cons_succ]
        refine hd_skip 19 rfl (by kernel_rfl) (by kernel_rfl) (by kernel_rfl) rfl hS0 rfl ?_
        simp only [Act.put, List.setIfInBounds_toArray, List.set_cons_zero, List.set_cons_succ]
        refine hd_take 20 (v := .bool true) rfl (by kernel_rfl) (by kernel_rfl) (by kernel_rfl) rfl hS0 (fun W' hS => by go_simp) rfl ?_
        simp only [Act.put, List.setIfInBounds_toArray, List.set_cons_zero, List.set_cons_succ]
        refine hd_take 21 (v := .bool true) rfl (by kernel_rfl) (by kernel_rfl) (by kernel_rfl) rfl hS0 (fun W' hS => by go_simp) rfl ?_
        simp only [Act.put, List.setIfInBounds_toArray, List.set_cons_zero, List.set_cons_succ]
        refine hd_take 22 (v := .slice la fields.length lcap) rfl (by kernel_rfl) (by kernel_rfl) (by kernel_rfl) rfl hS0 (fun W' hS => by go_simp) rfl ?_
        refine hd_take 23 (v := .int .i64 (k : Int)) rfl (by kernel_rfl) (by kernel_rfl) (by kernel_rfl) rfl hS0 (fun W' hS => by go_simp) rfl ?_
        refine hd_take 24 (v := .slice (some ⟨mb, mo, none⟩) fields.length mcap) rfl (by kernel_rfl) (by kernel_rfl) (by kernel_rfl) rfl hS0 (fun W' hS => by go_simp) rfl ?_
        refine hd_take 25 (v := .int .i64 (k : Int)) rfl (by kernel_rfl) (by kernel_rfl) (by kernel_rfl) rfl hS0 (fun W' hS => by go_simp) rfl ?_
        refine hd_take 28 (v := pt) rfl (by kernel_rfl) (by kernel_rfl) (by kernel_rfl) rfl hS0 (fun W' hS => by go_simp) rfl ?_
        simp only [Act.put, List.setIfInBounds_toArray, List.set_cons_zero, List.set_cons_succ]
        refine hd_take 26 (v := .pointer (some ⟨mb, mo + k, none⟩)) rfl (by kernel_rfl) (by kernel_rfl) (by kernel_rfl) rfl hS0 (fun W' hS => by first | (go_simp; done) | (go_simp; intro hix; omega)) rfl ?_
        simp only [Act.put, List.setIfInBounds_toArray, List.set_cons_zero, List.set_cons_succ]
        refine hd_take 27 (v := .string ⟨e0.toArray⟩) rfl (by kernel_rfl) (by kernel_rfl) (by kernel_rfl) rfl hS0 (fun W' hS => by obtain ⟨h0, h1, h2⟩ := hS; go_simp) rfl ?_
        simp only [Act.put, List.setIfInBounds_toArray, List.set_cons_zero, List.set_cons_succ]
        refine hd_one 29 (by kernel_rfl) rfl (by kernel_rfl) rfl (fun K' hK => ?_)
        go_simp
        refine (HFO.out w8.drew hh0).mono ?_
        rintro e wq1 ⟨rfl, hb⟩
        have hh1 : Fr [] w8 wq1 := hh0.below hb hh0.size
        clear hb
        have hS1 : wq1.cell? ⟨lb, lo + k, none⟩ = some (.string ⟨f.toArray⟩) ∧ wq1.cell? ⟨ob, oo + k, none⟩ = some (.string ⟨g.toArray⟩) ∧ wq1.cell? ⟨mb, mo + k, none⟩ = some (.string ⟨e0.toArray⟩) := ⟨hh1.cell hc0 (by simp), hh1.cell hc1 (by simp), hh1.cell hc2 (by simp)⟩
        refine hK.out _ _ (fun _ => hS1) ?_
        clear hK K'
        try simp only [Act.put, List.setIfInBounds_toArray, List.set_cons_zero, List.set_cons_succ]
        refine hd_take 30 (v := .bool false) rfl (by kernel_rfl) (by kernel_rfl) (by kernel_rfl) rfl hS1 (fun W' hS => by go_simp) rfl ?_
        simp only [Act.put, List.setIfInBounds_toArray, List.set_cons_zero, List.set_cons_succ]
        refine hd_take 31 (v := .bool false) rfl (by kernel_rfl) (by kernel_rfl) (by kernel_rfl) rfl hS1 (fun W' hS => by go_simp) rfl ?_
        simp only [Act.put, List.setIfInBounds_toArray, List.set_cons_zero, List.set_cons_succ]
        refine hd_take 32 (v := .bool false) rfl (by kernel_rfl) (by kernel_rfl) (by kernel_rfl) rfl hS1 (fun W' hS => by go_simp) rfl ?_
        simp only [Act.put, List.setIfInBounds_toArray, List.set_cons_zero, List.set_cons_succ]
        refine held_done (by kernel_rfl) ?_
        have HH : Fr [] w8 wq1 := hh1
        go_wp2_with fail
        go_roundg (fields.length + 1 - (k + 1))
        case measure => have := HG.out; omega
        case rel => exact ⟨k + 1, by omega, rfl, by go_num, hf8.trans HH (by simp)⟩
    · obtain rfl : k = fields.length := by omega
      have t1 : decide ((fields.length : Int) < (fields.length : Int)) = false := by simp
      go_wp2_with fail
      go_ret
      exact ⟨rfl, (hf7.trans hfr (by simp)).toBelow (by simp)⟩
end Go.Proofs.YtmhejcndkplepaaDoor
