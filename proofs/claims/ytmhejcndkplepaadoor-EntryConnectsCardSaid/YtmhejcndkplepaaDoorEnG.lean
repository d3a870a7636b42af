/-
  foyerlaw18: EntryClasses.
-/
import Derived.Test.YtmhejcndkplepaaDoorEnE
import Derived.Deep.RegionHeld3
import Derived.Deep.RegionHeld3
namespace Go.Proofs.YtmhejcndkplepaaDoor
open Go.RowKit

def lnkB (p q : Pty) : Bool := p.name == q.name || p.com == q.com
theorem lnkB_iff {l : List Pty} {i j : Nat} {p q : Pty} (hp : l[i]? = some p) (hq : l[j]? = some q) : lnkB p q = true ↔ Lnk l i j := by
  unfold lnkB
  rw [Bool.or_eq_true, beq_iff_eq, beq_iff_eq]
  constructor
  · intro h; exact ⟨p, q, hp, hq, h⟩
  · rintro ⟨a, b, ha, hb, h⟩
    rw [hp] at ha; rw [hq] at hb
    cases ha; cases hb; exact h

set_option maxRecDepth 100000 in
set_option maxHeartbeats 8000000 in
theorem entryClasses_any (lv : Value) (l : List Pty) (w : World) (hT : TabsM w) (hl : Pts w lv l) :
    Calls Tryd.prog 12 #[lv] w fun e w' => e = .returned (.bool true) ∧ Below w.heap.size w w' := by
  have hmx : Tryd.prog.follows .mixedOrders = true := by kernel_rfl
  have HT := Lib.hid hT
  have HL := Lib.hid hl
  obtain ⟨la, lcap, rfl, hlc, hcap, hla⟩ := hl.form
  clear hT hl
  go_enter Tryd.func12, Tryd.ntmps12
  go_wp2_with fail
  refine (head18_any w HT.out).mono ?_
  rintro e w1 ⟨rfl, hb1⟩
  have hf1 : Fr [] w w1 := (Fr.refl [] w).below hb1 (Nat.le_refl _)
  go_wp2_with fail
  refine (few18_any _ l 60 w1 (HL.out.fr hf1)).mono ?_
  rintro e w2 ⟨rfl, hb2⟩
  have hf2 : Fr [] w w2 := hf1.below hb2 hf1.size
  cases hfl : few18B l 60 with
  | false => go_wp2_with fail; go_ret; exact ⟨rfl, hf2.toBelow (by simp)⟩
  | true => ?_
  have HFL := Lib.hid (few18_all hfl)
  clear hfl hb1 hb2 hf1
  go_wp2_with fail
  refine (classes_any _ l w2 (HL.out.fr hf2) (by have := HFL.out.2; omega) (fun p hp => by have := HFL.out.1 p hp; omega)).mono ?_
  rintro e w3 ⟨g, o, rfl, hgw, ha3, hc3, hb3⟩
  have hf3 : Fr [] w w3 := hf2.below hb3 hf2.size
  have HA := Lib.hid ha3
  have HC := Lib.hid hc3
  clear hb3 hf2 ha3 hc3 hgw
  have t0 : ((l.length : Int) != (l.length : Int)) = false := by simp
  go_wp2_with fail
  go_loopg [5] (l.length + 1) (fun gh i wr => ∃ k : Nat, k ≤ l.length ∧ gh = l.length + 1 - k ∧ i = .int .i64 (k : Int) ∧ Fr [] w3 wr)
  case atStart => exact ⟨0, by omega, by omega, rfl, Fr.refl _ _⟩
  case round =>
    obtain ⟨i, hi, hgh, rfl, hfr⟩ := hrel
    have HG1 := Lib.hid hgh
    clear hgh
    by_cases hlt : i < l.length
    · obtain ⟨b, off, rfl⟩ := hla i hlt
      have t1 : decide ((i : Int) < (l.length : Int)) = true := by simp; omega
      obtain ⟨p, hp⟩ : ∃ p, l[i]? = some p := ⟨l[i], List.getElem?_eq_getElem hlt⟩
      have HP := Lib.hid hp
      have hx := HC.out.le i hlt
      have HX := Lib.hid (HC.out.fix hlt)
      have cx := HA.out.cell i (by rw [HC.out.len]; exact hlt)
      have cx2 := HA.out.cell (o.getD i 0) (by rw [HC.out.len]; omega)
      rw [HX.out] at cx2
      have HXE := Lib.hid (rfl : o.getD i 0 = o.getD i 0)
      obtain ⟨x, ex⟩ : ∃ x, o.getD i 0 = x := ⟨_, rfl⟩
      rw [ex] at cx cx2 hx
      have HEX := Lib.hid ex
      have c1 := hfr.cell cx (by simp)
      have c2 := hfr.cell cx2 (by simp)
      have t2 : decide ((x : Int) < 0) = false := by simp
      have t3 : decide ((i : Int) < (x : Int)) = false := by simp; omega
      have t3' : decide (i < x) = false := by simp; omega
      have t4 : ((x : Int) != (x : Int)) = false := by simp
      have ii0 : (0 : Int) ≤ (i : Int) := by omega
      have ii1 : (i : Int) < (l.length : Int) := by omega
      have xx0 : (0 : Int) ≤ (x : Int) := by omega
      have xx1 : (x : Int) < (l.length : Int) := by omega
      clear ex hp HXE
      go_wp2_with fail
      go_quiet (fail)
      go_wp2_with fail
      clear c1 c2 t2 t3 t3' t4
      go_loopg [6, 7] (l.length + 1) (fun gh a k wr => ∃ (kk : Nat) (al : Bool), kk ≤ l.length ∧ gh = l.length + 1 - kk ∧ k = .int .i64 (kk : Int) ∧ a = .bool al ∧ (al = true → ∀ j, j < kk → j ≠ i → ¬ Lnk l i j) ∧ Fr [] w3 wr)
      case atStart => exact ⟨0, true, by omega, by omega, rfl, rfl, fun _ j hj => absurd hj (Nat.not_lt_zero _), hfr.drewN _⟩
      case round =>
        clear hfr
        obtain ⟨k, al, hk, hgh, rfl, rfl, hal, hfr⟩ := hrel
        have HG2 := Lib.hid hgh
        have HAL := Lib.hid hal
        clear hgh hal
        by_cases hltk : k < l.length
        · have t5 : decide ((k : Int) < (l.length : Int)) = true := by simp; omega
          by_cases hki : k = i
          · subst hki
            have t6 : ((k : Int) == (k : Int)) = true := by simp
            have HR : Hid (al = true → ∀ j, j < k + 1 → j ≠ k → ¬ Lnk l k j) := Lib.hid (fun h j hj hne => HAL.out h j (by omega) hne)
            go_wp2_with fail
            go_roundg (l.length + 1 - (k + 1))
            case measure => have := HG2.out; omega
            case rel => exact ⟨k + 1, al, by omega, rfl, by go_num, rfl, HR.out, hfr⟩
          · have t6 : ((k : Int) == (i : Int)) = false := by simp; omega
            obtain ⟨q, hq⟩ : ∃ q, l[k]? = some q := ⟨l[k], List.getElem?_eq_getElem hltk⟩
            have HQ := Lib.hid hq
            obtain ⟨y, ey⟩ : ∃ y, o.getD k 0 = y := ⟨_, rfl⟩
            have cxi := hfr.cell cx (by simp)
            have cyk := hfr.cell (HA.out.cell k (by rw [HC.out.len]; exact hltk)) (by simp)
            rw [ey] at cyk
            have HEY := Lib.hid ey
            obtain ⟨cp0, cp1, cp2⟩ := ((HL.out.fr hf3).fr hfr).cells i p HP.out
            obtain ⟨cq0, cq1, cq2⟩ := ((HL.out.fr hf3).fr hfr).cells k q HQ.out
            have HCL := Lib.hid (fun W => linked_any p q W)
            rw [show (p.name == q.name || p.com == q.com) = lnkB p q from rfl] at HCL
            unfold ptyV at HCL
            have HLN : Hid (lnkB p q = true → x = y) := Lib.hid (fun h => by
              rw [← HEX.out, ← HEY.out]
              exact HC.out.lnk i k ((lnkB_iff HP.out HQ.out).1 h))
            have HR : Hid (∀ a2 : Bool, a2 = (al && !lnkB p q) → a2 = true → ∀ j, j < k + 1 → j ≠ i → ¬ Lnk l i j) := Lib.hid (fun a2 h1 h2 j hj hne => by
              rw [h1, Bool.and_eq_true] at h2
              rcases Nat.lt_or_ge j k with h3 | h3
              · exact HAL.out h2.1 j h3 hne
              · obtain rfl : j = k := by omega
                intro h4
                have := (lnkB_iff HP.out HQ.out).2 h4
                rw [this] at h2; simp at h2)
            have kk0 : (0 : Int) ≤ (k : Int) := by omega
            have kk1 : (k : Int) < (l.length : Int) := by omega
            generalize lnkB p q = r at HCL HLN HR
            clear hq ey
            cases al with
            | true =>
              go_wp2_with fail
              go_region_held3 (fun W' => W'.cell? ⟨b, off + i * 3, none⟩ = some (.string ⟨p.name.toArray⟩) ∧ W'.cell? ⟨b, off + i * 3 + 1, none⟩ = some (.string ⟨p.com.toArray⟩) ∧ W'.cell? ⟨b, off + i * 3 + 2, none⟩ = some (.string ⟨p.rev.toArray⟩) ∧ W'.cell? ⟨b, off + k * 3, none⟩ = some (.string ⟨q.name.toArray⟩) ∧ W'.cell? ⟨b, off + k * 3 + 1, none⟩ = some (.string ⟨q.com.toArray⟩) ∧ W'.cell? ⟨b, off + k * 3 + 2, none⟩ = some (.string ⟨q.rev.toArray⟩))
                (first
                  | exact ⟨hf5.cell cp0 (by simp), hf5.cell cp1 (by simp), hf5.cell cp2 (by simp), hf5.cell cq0 (by simp), hf5.cell cq1 (by simp), hf5.cell cq2 (by simp)⟩
                  | go_keep)
                ((refine (HCL.out _).mono ?_; rintro e w5 ⟨rfl, hb5⟩; have hf5 : Fr [] wr w5 := ((Fr.refl [] wr).drew).below hb5 (Nat.le_refl _)))
              have d0 := hf5.cell cp0 (by simp)
              have d1 := hf5.cell cp1 (by simp)
              have d2 := hf5.cell cp2 (by simp)
              have d3 := hf5.cell cq0 (by simp)
              have d4 := hf5.cell cq1 (by simp)
              have d5 := hf5.cell cq2 (by simp)
              have d6 := hf5.cell cxi (by simp)
              have d7 := hf5.cell cyk (by simp)
              have HHR : Hid ((!r) = true → ∀ j, j < k + 1 → j ≠ i → ¬ Lnk l i j) := Lib.hid (fun h => HR.out (!r) (by simp) h)
              have hfw5 : Fr [] w3 w5 := hfr.trans hf5 (by simp)
              clear cp0 cp1 cp2 cq0 cq1 cq2 cxi cyk hfr
              cases r with
              | true =>
                obtain rfl := HLN.out rfl
                have t9 : ((x : Int) != (x : Int)) = false := by simp
                go_wp2_with fail
                go_region_held3 (fun W' => W'.cell? ⟨b, off + i * 3, none⟩ = some (.string ⟨p.name.toArray⟩) ∧ W'.cell? ⟨b, off + i * 3 + 1, none⟩ = some (.string ⟨p.com.toArray⟩) ∧ W'.cell? ⟨b, off + i * 3 + 2, none⟩ = some (.string ⟨p.rev.toArray⟩) ∧ W'.cell? ⟨b, off + k * 3, none⟩ = some (.string ⟨q.name.toArray⟩) ∧ W'.cell? ⟨b, off + k * 3 + 1, none⟩ = some (.string ⟨q.com.toArray⟩) ∧ W'.cell? ⟨b, off + k * 3 + 2, none⟩ = some (.string ⟨q.rev.toArray⟩) ∧ W'.cell? ⟨g, i, none⟩ = some (.int .i64 (x : Int)) ∧ W'.cell? ⟨g, k, none⟩ = some (.int .i64 (x : Int)))
                  (first
                    | exact ⟨h6.cell d0 (by simp), h6.cell d1 (by simp), h6.cell d2 (by simp), h6.cell d3 (by simp), h6.cell d4 (by simp), h6.cell d5 (by simp), h6.cell d6 (by simp), h6.cell d7 (by simp)⟩
                    | go_keep)
                  ((refine (HCL.out _).mono ?_; rintro e w6 ⟨rfl, hb6⟩; have h6 : Fr [] w5 w6 := ((Fr.refl [] w5).drew).below hb6 (Nat.le_refl _)))
                go_wp2_with fail
                go_roundg (l.length + 1 - (k + 1))
                case measure => have := HG2.out; omega
                case rel => exact ⟨k + 1, false, by omega, rfl, by go_num, rfl, HHR.out, hfw5.trans h6 (by simp)⟩
              | false =>
                go_wp2_with fail
                have hc0 := d0
                have hc1 := d1
                have hc2 := d2
                have hc3 := d3
                have hc4 := d4
                have hc5 := d5
                have hh0 : Fr [] w5 w5.drew := (Fr.refl [] w5).drew
                have hS0 : w5.drew.cell? ⟨b, off + i * 3, none⟩ = some (.string ⟨p.name.toArray⟩) ∧ w5.drew.cell? ⟨b, off + i * 3 + 1, none⟩ = some (.string ⟨p.com.toArray⟩) ∧ w5.drew.cell? ⟨b, off + i * 3 + 2, none⟩ = some (.string ⟨p.rev.toArray⟩) ∧ w5.drew.cell? ⟨b, off + k * 3, none⟩ = some (.string ⟨q.name.toArray⟩) ∧ w5.drew.cell? ⟨b, off + k * 3 + 1, none⟩ = some (.string ⟨q.com.toArray⟩) ∧ w5.drew.cell? ⟨b, off + k * 3 + 2, none⟩ = some (.string ⟨q.rev.toArray⟩) := ⟨hh0.cell hc0 (by simp), hh0.cell hc1 (by simp), hh0.cell hc2 (by simp), hh0.cell hc3 (by simp), hh0.cell hc4 (by simp), hh0.cell hc5 (by simp)⟩
                refine region_held 100 (fun W' => W'.cell? ⟨b, off + i * 3, none⟩ = some (.string ⟨p.name.toArray⟩) ∧ W'.cell? ⟨b, off + i * 3 + 1, none⟩ = some (.string ⟨p.com.toArray⟩) ∧ W'.cell? ⟨b, off + i * 3 + 2, none⟩ = some (.string ⟨p.rev.toArray⟩) ∧ W'.cell? ⟨b, off + k * 3, none⟩ = some (.string ⟨q.name.toArray⟩) ∧ W'.cell? ⟨b, off + k * 3 + 1, none⟩ = some (.string ⟨q.com.toArray⟩) ∧ W'.cell? ⟨b, off + k * 3 + 2, none⟩ = some (.string ⟨q.rev.toArray⟩)) hmx ?_
                change Held _ _ _ _ _ _ 20 (Array.replicate 20 false) _ _
                refine hd_take 0 (v := .slice (some ⟨b, off, none⟩) l.length lcap) rfl (by kernel_rfl) (by kernel_rfl) (by kernel_rfl) rfl hS0 (fun W' hS => by go_simp) rfl ?_
                refine hd_take 1 (v := .int .i64 (i : Int)) rfl (by kernel_rfl) (by kernel_rfl) (by kernel_rfl) rfl hS0 (fun W' hS => by go_simp) rfl ?_
                refine hd_take 4 (v := .slice (some ⟨b, off, none⟩) l.length lcap) rfl (by kernel_rfl) (by kernel_rfl) (by kernel_rfl) rfl hS0 (fun W' hS => by go_simp) rfl ?_
                refine hd_take 5 (v := .int .i64 (k : Int)) rfl (by kernel_rfl) (by kernel_rfl) (by kernel_rfl) rfl hS0 (fun W' hS => by go_simp) rfl ?_
                simp only [Act.put, List.setIfInBounds_toArray, List.set_cons_zero, List.set_cons_succ]
                refine hd_take 2 (v := .pointer (some ⟨b, off + i * 3, none⟩)) rfl (by kernel_rfl) (by kernel_rfl) (by kernel_rfl) rfl hS0 (fun W' hS => by first | (go_simp; done) | (go_simp; intro hix; omega)) rfl ?_
                refine hd_take 6 (v := .pointer (some ⟨b, off + k * 3, none⟩)) rfl (by kernel_rfl) (by kernel_rfl) (by kernel_rfl) rfl hS0 (fun W' hS => by first | (go_simp; done) | (go_simp; intro hix; omega)) rfl ?_
                simp only [Act.put, List.setIfInBounds_toArray, List.set_cons_zero, List.set_cons_succ]
                refine hd_take 3 (v := .agg #[.string ⟨p.name.toArray⟩, .string ⟨p.com.toArray⟩, .string ⟨p.rev.toArray⟩]) rfl (by kernel_rfl) (by kernel_rfl) (by kernel_rfl) rfl hS0 (fun W' hS => by obtain ⟨h0, h1, h2, h3, h4, h5⟩ := hS; go_simp) rfl ?_
                refine hd_take 7 (v := .agg #[.string ⟨q.name.toArray⟩, .string ⟨q.com.toArray⟩, .string ⟨q.rev.toArray⟩]) rfl (by kernel_rfl) (by kernel_rfl) (by kernel_rfl) rfl hS0 (fun W' hS => by obtain ⟨h0, h1, h2, h3, h4, h5⟩ := hS; go_simp) rfl ?_
                simp only [Act.put, List.setIfInBounds_toArray, List.set_cons_zero, List.set_cons_succ]
                refine hd_one 8 (by kernel_rfl) rfl (by kernel_rfl) rfl (fun K' hK => ?_)
                go_simp
                refine (HCL.out _).mono ?_
                rintro e w6 ⟨rfl, hb⟩
                have hh1 : Fr [] w5 w6 := hh0.below hb hh0.size
                clear hb
                have hS1 : w6.cell? ⟨b, off + i * 3, none⟩ = some (.string ⟨p.name.toArray⟩) ∧ w6.cell? ⟨b, off + i * 3 + 1, none⟩ = some (.string ⟨p.com.toArray⟩) ∧ w6.cell? ⟨b, off + i * 3 + 2, none⟩ = some (.string ⟨p.rev.toArray⟩) ∧ w6.cell? ⟨b, off + k * 3, none⟩ = some (.string ⟨q.name.toArray⟩) ∧ w6.cell? ⟨b, off + k * 3 + 1, none⟩ = some (.string ⟨q.com.toArray⟩) ∧ w6.cell? ⟨b, off + k * 3 + 2, none⟩ = some (.string ⟨q.rev.toArray⟩) := ⟨hh1.cell hc0 (by simp), hh1.cell hc1 (by simp), hh1.cell hc2 (by simp), hh1.cell hc3 (by simp), hh1.cell hc4 (by simp), hh1.cell hc5 (by simp)⟩
                refine hK.out _ _ (fun _ => hS1) ?_
                clear hK K'
                try simp only [Act.put, List.setIfInBounds_toArray, List.set_cons_zero, List.set_cons_succ]
                refine hd_take 9 (v := .bool false) rfl (by kernel_rfl) (by kernel_rfl) (by kernel_rfl) rfl hS1 (fun W' hS => by go_simp) rfl ?_
                simp only [Act.put, List.setIfInBounds_toArray, List.set_cons_zero, List.set_cons_succ]
                refine hd_skip 10 rfl (by kernel_rfl) (by kernel_rfl) (by kernel_rfl) rfl hS1 rfl ?_
                refine hd_skip 11 rfl (by kernel_rfl) (by kernel_rfl) (by kernel_rfl) rfl hS1 rfl ?_
                refine hd_skip 14 rfl (by kernel_rfl) (by kernel_rfl) (by kernel_rfl) rfl hS1 rfl ?_
                refine hd_skip 15 rfl (by kernel_rfl) (by kernel_rfl) (by kernel_rfl) rfl hS1 rfl ?_
                simp only [Act.put, List.setIfInBounds_toArray, List.set_cons_zero, List.set_cons_succ]
                refine hd_skip 12 rfl (by kernel_rfl) (by kernel_rfl) (by kernel_rfl) rfl hS1 rfl ?_
                refine hd_skip 16 rfl (by kernel_rfl) (by kernel_rfl) (by kernel_rfl) rfl hS1 rfl ?_
                simp only [Act.put, List.setIfInBounds_toArray, List.set_cons_zero, List.set_cons_succ]
                refine hd_skip 13 rfl (by kernel_rfl) (by kernel_rfl) (by kernel_rfl) rfl hS1 rfl ?_
                refine hd_skip 17 rfl (by kernel_rfl) (by kernel_rfl) (by kernel_rfl) rfl hS1 rfl ?_
                simp only [Act.put, List.setIfInBounds_toArray, List.set_cons_zero, List.set_cons_succ]
                refine hd_skip 18 rfl (by kernel_rfl) (by kernel_rfl) (by kernel_rfl) rfl hS1 rfl ?_
                simp only [Act.put, List.setIfInBounds_toArray, List.set_cons_zero, List.set_cons_succ]
                refine hd_take 19 (v := .bool false) rfl (by kernel_rfl) (by kernel_rfl) (by kernel_rfl) rfl hS1 (fun W' hS => by go_simp) rfl ?_
                simp only [Act.put, List.setIfInBounds_toArray, List.set_cons_zero, List.set_cons_succ]
                refine held_done (by kernel_rfl) ?_
                have h6 := hh1
                go_wp2_with fail
                go_roundg (l.length + 1 - (k + 1))
                case measure => have := HG2.out; omega
                case rel => exact ⟨k + 1, true, by omega, rfl, by go_num, rfl, HHR.out, hfw5.trans h6 (by simp)⟩
            | false =>
              go_wp2_with fail
              go_quiet (fail)
              rename_i nq
              have HHR : Hid (false = true → ∀ j, j < k + 1 → j ≠ i → ¬ Lnk l i j) := Lib.hid (fun h => by cases h)
              have hfn : Fr [] wr (wr.drewN _) := (Fr.refl [] wr).drewN nq
              generalize wr.drewN nq = wn at hfn ⊢
              have d0 := hfn.cell cp0 (by simp)
              have d1 := hfn.cell cp1 (by simp)
              have d2 := hfn.cell cp2 (by simp)
              have d3 := hfn.cell cq0 (by simp)
              have d4 := hfn.cell cq1 (by simp)
              have d5 := hfn.cell cq2 (by simp)
              have d6 := hfn.cell cxi (by simp)
              have d7 := hfn.cell cyk (by simp)
              have hfw5 : Fr [] w3 wn := hfr.trans hfn (by simp)
              clear cp0 cp1 cp2 cq0 cq1 cq2 cxi cyk hfr
              cases r with
              | true =>
                obtain rfl := HLN.out rfl
                have t9 : ((x : Int) != (x : Int)) = false := by simp
                go_wp2_with fail
                go_region_held3 (fun W' => W'.cell? ⟨b, off + i * 3, none⟩ = some (.string ⟨p.name.toArray⟩) ∧ W'.cell? ⟨b, off + i * 3 + 1, none⟩ = some (.string ⟨p.com.toArray⟩) ∧ W'.cell? ⟨b, off + i * 3 + 2, none⟩ = some (.string ⟨p.rev.toArray⟩) ∧ W'.cell? ⟨b, off + k * 3, none⟩ = some (.string ⟨q.name.toArray⟩) ∧ W'.cell? ⟨b, off + k * 3 + 1, none⟩ = some (.string ⟨q.com.toArray⟩) ∧ W'.cell? ⟨b, off + k * 3 + 2, none⟩ = some (.string ⟨q.rev.toArray⟩) ∧ W'.cell? ⟨g, i, none⟩ = some (.int .i64 (x : Int)) ∧ W'.cell? ⟨g, k, none⟩ = some (.int .i64 (x : Int)))
                  (first
                    | exact ⟨h6.cell d0 (by simp), h6.cell d1 (by simp), h6.cell d2 (by simp), h6.cell d3 (by simp), h6.cell d4 (by simp), h6.cell d5 (by simp), h6.cell d6 (by simp), h6.cell d7 (by simp)⟩
                    | go_keep)
                  ((refine (HCL.out _).mono ?_; rintro e w6 ⟨rfl, hb6⟩; have h6 : Fr [] wn w6 := ((Fr.refl [] wn).drew).below hb6 (Nat.le_refl _)))
                go_wp2_with fail
                go_roundg (l.length + 1 - (k + 1))
                case measure => have := HG2.out; omega
                case rel => exact ⟨k + 1, false, by omega, rfl, by go_num, rfl, HHR.out, hfw5.trans h6 (by simp)⟩
              | false =>
                go_wp2_with fail
                have hc0 := d0
                have hc1 := d1
                have hc2 := d2
                have hc3 := d3
                have hc4 := d4
                have hc5 := d5
                have hh0 : Fr [] wn wn.drew := (Fr.refl [] wn).drew
                have hS0 : wn.drew.cell? ⟨b, off + i * 3, none⟩ = some (.string ⟨p.name.toArray⟩) ∧ wn.drew.cell? ⟨b, off + i * 3 + 1, none⟩ = some (.string ⟨p.com.toArray⟩) ∧ wn.drew.cell? ⟨b, off + i * 3 + 2, none⟩ = some (.string ⟨p.rev.toArray⟩) ∧ wn.drew.cell? ⟨b, off + k * 3, none⟩ = some (.string ⟨q.name.toArray⟩) ∧ wn.drew.cell? ⟨b, off + k * 3 + 1, none⟩ = some (.string ⟨q.com.toArray⟩) ∧ wn.drew.cell? ⟨b, off + k * 3 + 2, none⟩ = some (.string ⟨q.rev.toArray⟩) := ⟨hh0.cell hc0 (by simp), hh0.cell hc1 (by simp), hh0.cell hc2 (by simp), hh0.cell hc3 (by simp), hh0.cell hc4 (by simp), hh0.cell hc5 (by simp)⟩
                refine region_held 100 (fun W' => W'.cell? ⟨b, off + i * 3, none⟩ = some (.string ⟨p.name.toArray⟩) ∧ W'.cell? ⟨b, off + i * 3 + 1, none⟩ = some (.string ⟨p.com.toArray⟩) ∧ W'.cell? ⟨b, off + i * 3 + 2, none⟩ = some (.string ⟨p.rev.toArray⟩) ∧ W'.cell? ⟨b, off + k * 3, none⟩ = some (.string ⟨q.name.toArray⟩) ∧ W'.cell? ⟨b, off + k * 3 + 1, none⟩ = some (.string ⟨q.com.toArray⟩) ∧ W'.cell? ⟨b, off + k * 3 + 2, none⟩ = some (.string ⟨q.rev.toArray⟩)) hmx ?_
                change Held _ _ _ _ _ _ 20 (Array.replicate 20 false) _ _
                refine hd_take 0 (v := .slice (some ⟨b, off, none⟩) l.length lcap) rfl (by kernel_rfl) (by kernel_rfl) (by kernel_rfl) rfl hS0 (fun W' hS => by go_simp) rfl ?_
                refine hd_take 1 (v := .int .i64 (i : Int)) rfl (by kernel_rfl) (by kernel_rfl) (by kernel_rfl) rfl hS0 (fun W' hS => by go_simp) rfl ?_
                refine hd_take 4 (v := .slice (some ⟨b, off, none⟩) l.length lcap) rfl (by kernel_rfl) (by kernel_rfl) (by kernel_rfl) rfl hS0 (fun W' hS => by go_simp) rfl ?_
                refine hd_take 5 (v := .int .i64 (k : Int)) rfl (by kernel_rfl) (by kernel_rfl) (by kernel_rfl) rfl hS0 (fun W' hS => by go_simp) rfl ?_
                simp only [Act.put, List.setIfInBounds_toArray, List.set_cons_zero, List.set_cons_succ]
                refine hd_take 2 (v := .pointer (some ⟨b, off + i * 3, none⟩)) rfl (by kernel_rfl) (by kernel_rfl) (by kernel_rfl) rfl hS0 (fun W' hS => by first | (go_simp; done) | (go_simp; intro hix; omega)) rfl ?_
                refine hd_take 6 (v := .pointer (some ⟨b, off + k * 3, none⟩)) rfl (by kernel_rfl) (by kernel_rfl) (by kernel_rfl) rfl hS0 (fun W' hS => by first | (go_simp; done) | (go_simp; intro hix; omega)) rfl ?_
                simp only [Act.put, List.setIfInBounds_toArray, List.set_cons_zero, List.set_cons_succ]
                refine hd_take 3 (v := .agg #[.string ⟨p.name.toArray⟩, .string ⟨p.com.toArray⟩, .string ⟨p.rev.toArray⟩]) rfl (by kernel_rfl) (by kernel_rfl) (by kernel_rfl) rfl hS0 (fun W' hS => by obtain ⟨h0, h1, h2, h3, h4, h5⟩ := hS; go_simp) rfl ?_
                refine hd_take 7 (v := .agg #[.string ⟨q.name.toArray⟩, .string ⟨q.com.toArray⟩, .string ⟨q.rev.toArray⟩]) rfl (by kernel_rfl) (by kernel_rfl) (by kernel_rfl) rfl hS0 (fun W' hS => by obtain ⟨h0, h1, h2, h3, h4, h5⟩ := hS; go_simp) rfl ?_
                simp only [Act.put, List.setIfInBounds_toArray, List.set_cons_zero, List.set_cons_succ]
                refine hd_one 8 (by kernel_rfl) rfl (by kernel_rfl) rfl (fun K' hK => ?_)
                go_simp
                refine (HCL.out _).mono ?_
                rintro e w6 ⟨rfl, hb⟩
                have hh1 : Fr [] wn w6 := hh0.below hb hh0.size
                clear hb
                have hS1 : w6.cell? ⟨b, off + i * 3, none⟩ = some (.string ⟨p.name.toArray⟩) ∧ w6.cell? ⟨b, off + i * 3 + 1, none⟩ = some (.string ⟨p.com.toArray⟩) ∧ w6.cell? ⟨b, off + i * 3 + 2, none⟩ = some (.string ⟨p.rev.toArray⟩) ∧ w6.cell? ⟨b, off + k * 3, none⟩ = some (.string ⟨q.name.toArray⟩) ∧ w6.cell? ⟨b, off + k * 3 + 1, none⟩ = some (.string ⟨q.com.toArray⟩) ∧ w6.cell? ⟨b, off + k * 3 + 2, none⟩ = some (.string ⟨q.rev.toArray⟩) := ⟨hh1.cell hc0 (by simp), hh1.cell hc1 (by simp), hh1.cell hc2 (by simp), hh1.cell hc3 (by simp), hh1.cell hc4 (by simp), hh1.cell hc5 (by simp)⟩
                refine hK.out _ _ (fun _ => hS1) ?_
                clear hK K'
                try simp only [Act.put, List.setIfInBounds_toArray, List.set_cons_zero, List.set_cons_succ]
                refine hd_take 9 (v := .bool false) rfl (by kernel_rfl) (by kernel_rfl) (by kernel_rfl) rfl hS1 (fun W' hS => by go_simp) rfl ?_
                simp only [Act.put, List.setIfInBounds_toArray, List.set_cons_zero, List.set_cons_succ]
                refine hd_skip 10 rfl (by kernel_rfl) (by kernel_rfl) (by kernel_rfl) rfl hS1 rfl ?_
                refine hd_skip 11 rfl (by kernel_rfl) (by kernel_rfl) (by kernel_rfl) rfl hS1 rfl ?_
                refine hd_skip 14 rfl (by kernel_rfl) (by kernel_rfl) (by kernel_rfl) rfl hS1 rfl ?_
                refine hd_skip 15 rfl (by kernel_rfl) (by kernel_rfl) (by kernel_rfl) rfl hS1 rfl ?_
                simp only [Act.put, List.setIfInBounds_toArray, List.set_cons_zero, List.set_cons_succ]
                refine hd_skip 12 rfl (by kernel_rfl) (by kernel_rfl) (by kernel_rfl) rfl hS1 rfl ?_
                refine hd_skip 16 rfl (by kernel_rfl) (by kernel_rfl) (by kernel_rfl) rfl hS1 rfl ?_
                simp only [Act.put, List.setIfInBounds_toArray, List.set_cons_zero, List.set_cons_succ]
                refine hd_skip 13 rfl (by kernel_rfl) (by kernel_rfl) (by kernel_rfl) rfl hS1 rfl ?_
                refine hd_skip 17 rfl (by kernel_rfl) (by kernel_rfl) (by kernel_rfl) rfl hS1 rfl ?_
                simp only [Act.put, List.setIfInBounds_toArray, List.set_cons_zero, List.set_cons_succ]
                refine hd_skip 18 rfl (by kernel_rfl) (by kernel_rfl) (by kernel_rfl) rfl hS1 rfl ?_
                simp only [Act.put, List.setIfInBounds_toArray, List.set_cons_zero, List.set_cons_succ]
                refine hd_take 19 (v := .bool false) rfl (by kernel_rfl) (by kernel_rfl) (by kernel_rfl) rfl hS1 (fun W' hS => by go_simp) rfl ?_
                simp only [Act.put, List.setIfInBounds_toArray, List.set_cons_zero, List.set_cons_succ]
                refine held_done (by kernel_rfl) ?_
                have h6 := hh1
                go_wp2_with fail
                go_roundg (l.length + 1 - (k + 1))
                case measure => have := HG2.out; omega
                case rel => exact ⟨k + 1, false, by omega, rfl, by go_num, rfl, HHR.out, hfw5.trans h6 (by simp)⟩
        · obtain rfl : k = l.length := by omega
          have t5 : decide ((l.length : Int) < (l.length : Int)) = false := by simp
          cases al with
          | false =>
            go_wp2_with fail
            go_roundg (l.length + 1 - (i + 1))
            case measure => have := HG1.out; omega
            case rel => exact ⟨i + 1, by omega, rfl, by go_num, hfr⟩
          | true =>
            have HALO : Hid (∀ k, k < l.length → k ≠ i → o.getD k 0 ≠ x) := Lib.hid (fun k hk hne => by
              rw [← HEX.out]
              exact HC.out.alone hlt hk (fun j hne2 hl2 => HAL.out rfl j hl2.lt.2 hne2 hl2) hne)
            go_wp2_with fail
            go_loopg [8] (l.length + 1) (fun gh k wr => ∃ kk : Nat, kk ≤ l.length ∧ gh = l.length + 1 - kk ∧ k = .int .i64 (kk : Int) ∧ Fr [] w3 wr)
            case atStart => exact ⟨0, by omega, by omega, rfl, hfr⟩
            case round =>
              clear hfr
              obtain ⟨k, hk, hgh, rfl, hfr⟩ := hrel
              have HG3 := Lib.hid hgh
              clear hgh
              by_cases hltk : k < l.length
              · have t6 : decide ((k : Int) < (l.length : Int)) = true := by simp; omega
                by_cases hki : k = i
                · subst hki
                  have t7 : ((k : Int) != (k : Int)) = false := by simp
                  go_wp2_with fail
                  go_quiet (fail)
                  go_wp2_with fail
                  go_roundg (l.length + 1 - (k + 1))
                  case measure => have := HG3.out; omega
                  case rel => exact ⟨k + 1, by omega, rfl, by go_num, hfr.drewN _⟩
                · have t7 : ((k : Int) != (i : Int)) = true := by simp; omega
                  have hne := HALO.out k hltk hki
                  obtain ⟨y, ey⟩ : ∃ y, o.getD k 0 = y := ⟨_, rfl⟩
                  have cxi := hfr.cell cx (by simp)
                  have cyk := hfr.cell (HA.out.cell k (by rw [HC.out.len]; exact hltk)) (by simp)
                  rw [ey] at cyk hne
                  have t8 : ((y : Int) == (x : Int)) = false := by simp; omega
                  have kk0 : (0 : Int) ≤ (k : Int) := by omega
                  have kk1 : (k : Int) < (l.length : Int) := by omega
                  clear ey hne
                  go_wp2_with fail
                  go_quiet (fail)
                  go_wp2_with fail
                  go_roundg (l.length + 1 - (k + 1))
                  case measure => have := HG3.out; omega
                  case rel => exact ⟨k + 1, by omega, rfl, by go_num, hfr.drewN _⟩
              · obtain rfl : k = l.length := by omega
                have t6 : decide ((l.length : Int) < (l.length : Int)) = false := by simp
                go_wp2_with fail
                go_roundg (l.length + 1 - (i + 1))
                case measure => have := HG1.out; omega
                case rel => exact ⟨i + 1, by omega, rfl, by go_num, hfr⟩
    · obtain rfl : i = l.length := by omega
      have t1 : decide ((l.length : Int) < (l.length : Int)) = false := by simp
      go_wp2_with fail
      go_ret
      exact ⟨rfl, (hf3.trans hfr (by simp)).toBelow (by simp)⟩
end Go.Proofs.YtmhejcndkplepaaDoor
