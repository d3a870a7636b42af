/-
  foyerlaw18: EntryMatchesReference.
-/
import Derived.Test.YtmhejcndkplepaaDoorEnP
import Derived.Test.YtmhejcndkplepaaDoorEnL
import Derived.Test.YtmhejcndkplepaaDoorEnE
namespace Go.Proofs.YtmhejcndkplepaaDoor
open Go.RowKit

set_option maxRecDepth 100000 in
set_option maxHeartbeats 8000000 in
theorem entryMatchesReference_any (lv : Value) (l : List Pty) (ps ss t : List UInt8) (w : World) (hT : TabsM w) (hl : Pts w lv l) :
    Calls Tryd.prog 10 #[lv, .string ⟨ps.toArray⟩, .string ⟨ss.toArray⟩, .string ⟨t.toArray⟩] w fun e w' => e = .returned (.bool true) ∧ Below w.heap.size w w' := by
  have hmx : Tryd.prog.follows .mixedOrders = true := by kernel_rfl
  have HT := Lib.hid hT
  have HL := Lib.hid hl
  obtain ⟨la, lcap, rfl, hlc, hcap, hla⟩ := hl.form
  clear hT hl
  go_enter Tryd.func10, Tryd.ntmps10
  go_wp2_with fail
  refine (head18_any w HT.out).mono ?_
  rintro e w1 ⟨rfl, hb1⟩
  have hf1 : Fr [] w w1 := (Fr.refl [] w).below hb1 (Nat.le_refl _)
  go_wp2_with fail
  refine (few18_any _ l 60 w1 (HL.out.fr hf1)).mono ?_
  rintro e w2 ⟨rfl, hb2⟩
  have hf2 : Fr [] w w2 := hf1.below hb2 hf1.size
  cases hfl : few18B l 60 with
  | false => go_wp2_with fail; go_ret; exact ⟨rfl, hf2.toBelow (by simp)⟩
  | true => ?_
  have HFL := Lib.hid (few18_all hfl)
  clear hfl hb1 hb2 hf1
  by_cases h1 : ps.length ≤ 300
  case neg =>
    have t1 : decide ((300 : Int) < (ps.length : Int)) = true := by simp; omega
    go_wp2_with fail
    go_ret
    exact ⟨rfl, hf2.toBelow (by simp)⟩
  have t1 : decide ((300 : Int) < (ps.length : Int)) = false := by simp; omega
  by_cases h2 : ss.length ≤ 300
  case neg =>
    have t2 : decide ((300 : Int) < (ss.length : Int)) = true := by simp; omega
    go_wp2_with fail
    go_ret
    exact ⟨rfl, hf2.toBelow (by simp)⟩
  have t2 : decide ((300 : Int) < (ss.length : Int)) = false := by simp; omega
  by_cases h3 : t.length ≤ 300
  case neg =>
    have t3 : decide ((300 : Int) < (t.length : Int)) = true := by simp; omega
    go_wp2_with fail
    go_ret
    exact ⟨rfl, hf2.toBelow (by simp)⟩
  have t3 : decide ((300 : Int) < (t.length : Int)) = false := by simp; omega
  go_wp2_with fail
  refine (parse_any t w2 (by omega) (HT.out.fr hf2)).mono ?_
  rintro e w3 ⟨rfl, hb3⟩
  have hf3 : Fr [] w w3 := hf2.below hb3 hf2.size
  clear hb3 hf2
  unfold ptyV
  obtain ⟨W3, hW3⟩ : ∃ W3, W3 = w3.alloc (.cells #[.string ⟨(parseS t).1.name.toArray⟩, .string ⟨(parseS t).1.com.toArray⟩, .string ⟨(parseS t).1.rev.toArray⟩] 55) := ⟨_, rfl⟩
  have he3 : W3.heap[w3.heap.size]? = some (.cells #[.string ⟨(parseS t).1.name.toArray⟩, .string ⟨(parseS t).1.com.toArray⟩, .string ⟨(parseS t).1.rev.toArray⟩] 55 (0, 0)) := by rw [hW3]; exact heap_new rfl
  have hF3 : Fr [] w W3 := by rw [hW3]; exact hf3.alloc _
  go_wp2_with fail
  rw [← hW3]
  clear hW3
  generalize w3.heap.size = be at he3 ⊢
  refine (rparse_any t W3 (by omega)).mono ?_
  rintro e w4 ⟨rfl, hb4⟩
  have hf34 : Fr [] W3 w4 := Fr.ofBelow hb4
  have hf4 : Fr [] w w4 := hF3.trans hf34 (by simp)
  have he4 := hf34.at he3 (by simp)
  clear hb4 hf34 he3 hF3 hf3
  unfold ptyV
  generalize (parseS t).1.name = y0 at he4 ⊢
  generalize (parseS t).1.com = y1 at he4 ⊢
  generalize (parseS t).1.rev = y2 at he4 ⊢
  generalize (parseS t).2 = ee
  obtain ⟨W4, hW4⟩ : ∃ W4, W4 = w4.alloc (.cells #[.string ⟨y0.toArray⟩, .string ⟨y1.toArray⟩, .string ⟨y2.toArray⟩] 55) := ⟨_, rfl⟩
  have hg4 : W4.heap[w4.heap.size]? = some (.cells #[.string ⟨y0.toArray⟩, .string ⟨y1.toArray⟩, .string ⟨y2.toArray⟩] 55 (0, 0)) := by rw [hW4]; exact heap_new rfl
  have he5 : W4.heap[be]? = some (.cells #[.string ⟨y0.toArray⟩, .string ⟨y1.toArray⟩, .string ⟨y2.toArray⟩] 55 (0, 0)) := by rw [hW4]; exact heap_past _ he4
  have hF4 : Fr [] w W4 := by rw [hW4]; exact hf4.alloc _
  go_wp2_with fail
  rw [← hW4]
  clear hW4 he4 hf4
  generalize w4.heap.size = bg at hg4 ⊢
  have HE := Lib.hid he5
  have HG := Lib.hid hg4
  clear he5 hg4
  go_loopg [14] (l.length + 1) (fun gh i wr => ∃ k : Nat, k ≤ l.length ∧ gh = l.length + 1 - k ∧ i = .int .i64 (k : Int) ∧ Fr [] W4 wr)
  case atStart => exact ⟨0, by omega, by omega, rfl, Fr.refl _ _⟩
  case round =>
    obtain ⟨i, hi, hgh, rfl, hfr⟩ := hrel
    have HGH := Lib.hid hgh
    clear hgh
    by_cases hlt : i < l.length
    · obtain ⟨b, off, rfl⟩ := hla i hlt
      have t4 : decide ((i : Int) < (l.length : Int)) = true := by simp; omega
      obtain ⟨p, hp⟩ : ∃ p, l[i]? = some p := ⟨l[i], List.getElem?_eq_getElem hlt⟩
      have hfw : Fr [] w wr := hF4.trans hfr (by simp)
      obtain ⟨c0, c1, c2⟩ := (HL.out.fr hfw).cells i p hp
      have hp3 := HFL.out.1 p (List.mem_of_getElem? hp)
      have HC1 := Lib.hid (fun W => validE_any p W (by omega) (by omega) (by omega))
      have HC2 := Lib.hid (fun W => rvalidE_any p W (by omega) (by omega) (by omega))
      have HC3 := Lib.hid (fun W => textE_any p W (by omega) (by omega) (by omega))
      have HC4 := Lib.hid (fun W => rtextE_any p W (by omega) (by omega) (by omega))
      unfold ptyV at HC1 HC2 HC3 HC4
      generalize validB p = vb at HC1 HC2
      generalize textS p = tx at HC3 HC4
      have u1 : (tx == tx) = true := by simp
      have u2 : (tx != tx) = false := by simp
      have u3 : (vb != vb) = false := by simp
      have ii0 : (0 : Int) ≤ (i : Int) := by omega
      have ii1 : (i : Int) < (l.length : Int) := by omega
      clear hp hp3 hfw
      go_wp2_with fail
      go_region_held3 (fun W' => W'.cell? ⟨b, off + i * 3, none⟩ = some (.string ⟨p.name.toArray⟩) ∧ W'.cell? ⟨b, off + i * 3 + 1, none⟩ = some (.string ⟨p.com.toArray⟩) ∧ W'.cell? ⟨b, off + i * 3 + 2, none⟩ = some (.string ⟨p.rev.toArray⟩))
        (first
          | exact ⟨k4.cell c0 (by simp), k4.cell c1 (by simp), k4.cell c2 (by simp)⟩
          | exact ⟨k3.cell c0 (by simp), k3.cell c1 (by simp), k3.cell c2 (by simp)⟩
          | exact ⟨k2.cell c0 (by simp), k2.cell c1 (by simp), k2.cell c2 (by simp)⟩
          | exact ⟨k1.cell c0 (by simp), k1.cell c1 (by simp), k1.cell c2 (by simp)⟩
          | go_keep)
        (first
          | ((with_reducible refine (HC1.out _).mono ?_); rintro e w5 ⟨rfl, hb5⟩; have k1 : Fr [] wr w5 := ((Fr.refl [] wr).drew).below hb5 (Nat.le_refl _))
          | ((with_reducible refine (HC2.out _).mono ?_); rintro e w6 ⟨rfl, hb6⟩; have k2 : Fr [] wr w6 := k1.below hb6 k1.size)
          | ((with_reducible refine (HC3.out _).mono ?_); rintro e w7 ⟨rfl, hb7⟩; have k3 : Fr [] wr w7 := k2.below hb7 k2.size)
          | ((with_reducible refine (HC4.out _).mono ?_); rintro e w8 ⟨rfl, hb8⟩; have k4 : Fr [] wr w8 := k3.below hb8 k3.size))
      go_wp2_with fail
      go_roundg (l.length + 1 - (i + 1))
      case measure => have := HGH.out; omega
      case rel => exact ⟨i + 1, by omega, rfl, by go_num, hfr.trans k4 (by simp)⟩
    · obtain rfl : i = l.length := by omega
      have t4 : decide ((l.length : Int) < (l.length : Int)) = false := by simp
      have hfw : Fr [] w wr := hF4.trans hfr (by simp)
      obtain ⟨a0, a1, a2⟩ := three_cells (hfr.at HE.out (by simp))
      obtain ⟨b0, b1, b2⟩ := three_cells (hfr.at HG.out (by simp))
      have HC1 := Lib.hid (fun W hT => commit_any ps ss W (by omega) (by omega) hT)
      have HC2 := Lib.hid (fun W => rcommit_any ps ss W (by omega) (by omega))
      have HC3 := Lib.hid (fun W hv => classes_any (.slice la l.length lcap) l W hv (by have := HFL.out.2; omega) (fun p hp => by have := HFL.out.1 p hp; omega))
      have HC4 := Lib.hid (fun W hv => rclasses_any (.slice la l.length lcap) l W hv (by have := HFL.out.2; omega))
      have v1 : (ee == ee) = true := by simp
      have v2 : (dlist [ps, ss] == dlist [ps, ss]) = true := by simp
      go_wp2_with fail
      refine (HC1.out wr (HT.out.fr hfw).t).mono ?_
      rintro e w5 ⟨rfl, hb5⟩
      have k5 : Fr [] w w5 := hfw.below hb5 hfw.size
      clear a0 a1 a2 b0 b1 b2
      go_wp2_with fail
      refine (HC2.out w5).mono ?_
      rintro e w6 ⟨rfl, hb6⟩
      have k6 : Fr [] w w6 := k5.below hb6 k5.size
      go_wp2_with fail
      refine (HC3.out w6 (HL.out.fr k6)).mono ?_
      rintro e w7 ⟨g, o, rfl, hgw, ha7, hc7, hb7⟩
      have k7 : Fr [] w w7 := k6.below hb7 k6.size
      have HA := Lib.hid ha7
      have HC := Lib.hid hc7
      clear ha7 hc7 hb7 hgw
      go_wp2_with fail
      refine (HC4.out w7 (HL.out.fr k7)).mono ?_
      rintro e w8 ⟨v', o', rfl, ho8, hc8, hb8⟩
      obtain rfl : o = o' := HC.out.unique hc8
      have k78 : Fr [] w7 w8 := Fr.ofBelow hb8
      have k8 : Fr [] w w8 := k7.trans k78 (by simp)
      have HO8 := Lib.hid ho8
      clear ho8 hc8 hb8
      go_wp2_with fail
      refine (ints_any _ _ o o w8 ((HA.out.fr k78 (by simp)).nums HC.out.len (by omega)) HO8.out.nums).mono ?_
      rintro e w9 ⟨rfl, hb9⟩
      have k9 : Fr [] w w9 := k8.below hb9 k8.size
      rw [show decide (o = o) = true by simp]
      go_wp2_with fail
      go_ret
      exact ⟨rfl, k9.toBelow (by simp)⟩
end Go.Proofs.YtmhejcndkplepaaDoor
