/-
  foyerlaw31: RevealComplete.
-/
import Derived.Test.YtmhejcndkplepaaDoorPlnRv
import Derived.Test.YtmhejcndkplepaaDoorRound
import Derived.BigQuiet
import Derived.Deep.RegionHeld3
namespace Go.Proofs.YtmhejcndkplepaaDoor
open Go.RowKit

theorem getD_short {l : List (List UInt8)} {i n : Nat} (h : ∀ f ∈ l, f.length ≤ n) : (l.getD i []).length ≤ n := by
  by_cases hi : i < l.length
  · exact h _ (getD_mem l i [] hi)
  · rw [List.getD_eq_getElem?_getD, List.getElem?_eq_none (by omega)]; simp
/-- What Show answers is short. -/
theorem dsmall_ok {fields : List (List UInt8)} {s : List UInt8} {L : List Int} {F : List (List UInt8)} (hn : fields.length ≤ 50000) (hf : ∀ f ∈ F, f.length ≤ 100000) : DSmall ⟨fields.length, L, F, L.map (pathF fields s)⟩ where
  n := by simp only; omega
  f := hf
  p := fun l hl x hx => by
    obtain ⟨z, _, rfl⟩ := List.mem_map.1 hl
    have := pathF_isD fields s z x hx
    simp only [isD, Bool.and_eq_true, beq_iff_eq] at this
    omega
theorem shown_short {fields : List (List UInt8)} {L : List Int} (hf : ∀ f ∈ fields, f.length ≤ 100000) : ∀ f ∈ L.map (fun i => fields.getD i.toNat []), f.length ≤ 100000 := by
  intro f h
  obtain ⟨z, _, rfl⟩ := List.mem_map.1 h
  exact getD_short hf
/-- The cells of a disclosure that lies in a block of its own. -/
def DAt (b : Nat) (x0 x1 x2 x3 : Value) (W : World) : Prop := W.cell? ⟨b, 0, none⟩ = some x0 ∧ W.cell? ⟨b, 1, none⟩ = some x1 ∧ W.cell? ⟨b, 2, none⟩ = some x2 ∧ W.cell? ⟨b, 3, none⟩ = some x3
theorem DAt.of {b : Nat} {x0 x1 x2 x3 : Value} {W : World} {t : TypeId} (h : W.heap[b]? = some (.cells #[x0, x1, x2, x3] t (0, 0))) : DAt b x0 x1 x2 x3 W :=
  ⟨by rw [row_cell h 0]; rfl, by rw [row_cell h 1]; rfl, by rw [row_cell h 2]; rfl, by rw [row_cell h 3]; rfl⟩
theorem DAt.fr {X : List Nat} {b : Nat} {x0 x1 x2 x3 : Value} {W W' : World} (h : DAt b x0 x1 x2 x3 W) (hf : Fr X W W') (hb : b ∉ X) : DAt b x0 x1 x2 x3 W' :=
  ⟨hf.cell h.1 hb, hf.cell h.2.1 hb, hf.cell h.2.2.1 hb, hf.cell h.2.2.2 hb⟩

set_option maxRecDepth 100000 in
set_option maxHeartbeats 8000000 in
theorem revealComplete_any (v : Value) (fields : List (List UInt8)) (s : List UInt8) (bv : Value) (bl : List Bool) (w : World) (hT : Tabs w) (hv : Strs w v fields) (hb : Bools w bv bl) :
    Calls Tryd.prog 4 #[v, .string ⟨s.toArray⟩, bv] w fun e w' => e = .returned (.bool true) ∧ Below w.heap.size w w' := by
  have hmx : Tryd.prog.follows .mixedOrders = true := by kernel_rfl
  have HT := Lib.hid hT
  have HV := Lib.hid hv
  have HB := Lib.hid hb
  obtain ⟨fa, fcap, rfl, hfl, hfa⟩ := hv.form
  clear hT hv hb
  go_enter Tryd.func4, Tryd.ntmps4
  go_wp2_with fail
  refine (head31_any w HT.out).mono ?_
  rintro e w1 ⟨rfl, hb1⟩
  have hf1 : Fr [] w w1 := (Fr.refl [] w).below hb1 (Nat.le_refl _)
  clear hb1
  go_wp2_with fail
  refine (short_any _ fields 30 w1 (HV.out.fr0 hf1)).mono ?_
  rintro e w2 ⟨rfl, hb2⟩
  have hf2 : Fr [] w w2 := hf1.below hb2 hf1.size
  clear hb2 hf1
  cases hsh : shortB fields 30 with
  | false => go_wp2_with fail; go_ret; exact ⟨rfl, hf2.toBelow (by simp)⟩
  | true => ?_
  have HSH := Lib.hid (shortB_all hsh)
  clear hsh
  by_cases h0 : fields.length = 0
  · have t0 : ((fields.length : Int) == 0) = true := by rw [beq_iff_eq]; omega
    have t0' : (fields.length == 0) = true := by rw [beq_iff_eq]; omega
    go_wp2_with fail
    go_ret
    exact ⟨rfl, hf2.toBelow (by simp)⟩
  have t0 : ((fields.length : Int) == 0) = false := by rw [beq_eq_false_iff_ne]; omega
  have t0' : (fields.length == 0) = false := by rw [beq_eq_false_iff_ne]; omega
  by_cases h1 : 200 < s.length
  · have t1 : decide ((200 : Int) < (s.length : Int)) = true := by simp; omega
    go_wp2_with fail
    go_ret
    exact ⟨rfl, hf2.toBelow (by simp)⟩
  have t1 : decide ((200 : Int) < (s.length : Int)) = false := by simp; omega
  go_wp2_with fail
  refine (chosen_any fields.length bv bl w2 (HB.out.fr hf2) (by have := HSH.out.2; omega)).mono ?_
  rintro e w3 ⟨lv, rfl, hz3, hb3⟩
  have hf3 : Fr [] w w3 := hf2.below hb3 hf2.size
  have HINC := Lib.hid (inc_chosen bl (show 0 < fields.length by omega))
  obtain ⟨L, eL⟩ : ∃ L, L = chosenL fields.length bl := ⟨_, rfl⟩
  rw [← eL] at hz3 HINC
  have HZ := Lib.hid hz3
  obtain ⟨la, lcap, rfl, hlc, hlcap, hla⟩ := hz3.form
  clear hb3 hf2 eL hz3 t0 t0' t1
  go_wp2_with fail
  refine (show_any _ _ fields s L w3 (HV.out.fr0 hf3) HZ.out (by have := HSH.out.2; omega) (by omega) (fun f hf => by have := HSH.out.1 f hf; omega) (HT.out.fr hf3)).mono ?_
  rintro e w4 ⟨dv, rfl, hd, hb4⟩
  have hf4 : Fr [] w w4 := hf3.below hb4 hf3.size
  have hz4 := HZ.out.fr0 (Fr.ofBelow (X := []) hb4)
  have HZ4 := Lib.hid hz4
  rw [show_ok HINC.out] at hd
  rw [showE_ok HINC.out]
  obtain ⟨dw, df, dp, rfl, hdw, hdf, hdp⟩ := hd
  obtain ⟨dwa, dwc, rfl, hdwl, hdwcap, hdwa⟩ : ∃ a c, dw = .slice a L.length c ∧ L.length ≤ c ∧ c ≤ 9223372036854775807 ∧ (∀ i, i < L.length → ∃ b off, a = some ⟨b, off, none⟩) := hdw.form
  obtain ⟨dfa, dfc, rfl, hdfl, hdfa⟩ : ∃ a c, df = .slice a L.length c ∧ L.length ≤ 9223372036854775807 ∧ (∀ i, i < L.length → ∃ b off, a = some ⟨b, off, none⟩) := by
    obtain ⟨a, c, h1, h2, h3⟩ := hdf.form
    simp only [List.length_map] at h1 h2 h3
    exact ⟨a, c, h1, h2, h3⟩
  obtain ⟨dpa, dpc, rfl⟩ : ∃ a c, dp = .slice a L.length c := by
    obtain ⟨a, c, h1, _⟩ := hdp.form
    simp only [List.length_map] at h1
    exact ⟨a, c, h1⟩
  have HDW := Lib.hid hdw
  have HDF := Lib.hid hdf
  have HDP := Lib.hid hdp
  have t2 : ((L.length : Int) != (L.length : Int)) = false := by simp
  have t3 : ((fields.length : Int) != (fields.length : Int)) = false := by simp
  clear hb4 hf3 HZ hdw hdf hdp hz4
  go_wp2_with fail
  have f5 : Fr [] w4 (w4.alloc (.cells #[.int .i64 (fields.length : Int), .slice dwa L.length dwc, .slice dfa L.length dfc, .slice dpa L.length dpc] 26)) := (Fr.refl [] w4).alloc _
  have q5 : DAt w4.heap.size (.int .i64 (fields.length : Int)) (.slice dwa L.length dwc) (.slice dfa L.length dfc) (.slice dpa L.length dpc) (w4.alloc (.cells #[.int .i64 (fields.length : Int), .slice dwa L.length dwc, .slice dfa L.length dfc, .slice dpa L.length dpc] 26)) := DAt.of (heap_new rfl)
  generalize w4.alloc (.cells #[.int .i64 (fields.length : Int), .slice dwa L.length dwc, .slice dfa L.length dfc, .slice dpa L.length dpc] 26) = w5 at f5 q5 ⊢
  obtain ⟨db, edb⟩ : ∃ b, b = w4.heap.size := ⟨_, rfl⟩
  rw [← edb] at q5 ⊢
  have EDB := Lib.hid edb
  have Q5 := Lib.hid q5
  have F5 := Lib.hid f5
  have hf5 : Fr [] w w5 := hf4.trans f5 (by simp)
  clear edb q5 f5 t2 t3 hf4
  go_loopg [11] (L.length + 1) (fun gh i wr => ∃ k : Nat, k ≤ L.length ∧ gh = L.length + 1 - k ∧ i = .int .i64 (k : Int) ∧ Fr [] w5 wr)
  case atStart => exact ⟨0, by omega, by omega, rfl, Fr.refl _ _⟩
  case round =>
    obtain ⟨k, hk, hgh, rfl, hfr⟩ := hrel
    have HG := Lib.hid hgh
    clear hgh
    have h4r : Fr [] w4 wr := F5.out.trans hfr (by simp)
    by_cases hlt : k < L.length
    · have t1 : decide ((k : Int) < (L.length : Int)) = true := by simp; omega
      obtain ⟨wb, wo, rfl⟩ := hdwa k hlt
      obtain ⟨fb, fo, rfl⟩ := hdfa k hlt
      obtain ⟨lb, lo, rfl⟩ := hla k hlt
      have cl := h4r.cell (HZ4.out.cell k hlt) (by simp)
      have cw := h4r.cell (HDW.out.cell k hlt) (by simp)
      have cf := h4r.cell (HDF.out.cellN (by simp) k hlt) (by simp)
      rw [map_getD' (fun i : Int => fields.getD i.toNat []) L k 0 [] hlt] at cf
      have hz := incB_in HINC.out (by decide) _ (getD_mem L k 0 hlt)
      obtain ⟨m, hm⟩ : ∃ m : Nat, L.getD k 0 = (m : Int) := ⟨(L.getD k 0).toNat, by omega⟩
      rw [hm] at cl cw cf hz
      rw [Int.toNat_natCast] at cf
      obtain ⟨xb, xo, rfl⟩ := hfa m (by omega)
      have cx := (hf5.trans hfr (by simp)).cell (HV.out.cell m (by omega)) (by simp)
      generalize fields.getD m [] = f at cf cx
      obtain ⟨c0, c1, c2, c3⟩ := Q5.out.fr hfr (by simp)
      have g0 : (0 : Int) ≤ (k : Int) := by omega
      have g1 : (k : Int) < (L.length : Int) := by omega
      have g2 : (0 : Int) ≤ (m : Int) := by omega
      have g3 : (m : Int) < (fields.length : Int) := by omega
      have t2 : (f != f) = false := by simp
      have t3 : ((m : Int) != (m : Int)) = false := by simp
      clear hm hz h4r
      go_wp2_with fail
      go_quiet (fail)
      go_wp2_with fail
      go_roundg (L.length + 1 - (k + 1))
      case measure => have := HG.out; omega
      case rel => exact ⟨k + 1, by omega, rfl, by go_num, hfr.drewN _⟩
    · obtain rfl : k = L.length := by omega
      have t1 : decide ((L.length : Int) < (L.length : Int)) = false := by simp
      obtain ⟨root, er⟩ : ∃ r, r = sealS fields s := ⟨_, rfl⟩
      have HSE : Hid (∀ W, Fr [] wr W → Calls Tryd.prog 21 #[.slice fa fields.length fcap, .string ⟨s.toArray⟩] W fun e w' => e = .returned (.string ⟨root.toArray⟩) ∧ Below W.heap.size W w') := Lib.hid (fun W hW => by
        rw [er]
        exact seal_any _ fields s W (HV.out.fr0 ((hf5.trans hfr (by simp)).trans hW (by simp))) (by have := HSH.out.2; omega) (by omega) (fun f hf => by have := HSH.out.1 f hf; omega) (HT.out.fr ((hf5.trans hfr (by simp)).trans hW (by simp))))
      have HCH : Hid (∀ W, Fr [] wr W → Calls Tryd.prog 24 #[.string ⟨root.toArray⟩, .agg #[.int .i64 (fields.length : Int), .slice dwa L.length dwc, .slice dfa L.length dfc, .slice dpa L.length dpc]] W fun e w' => e = .returned (.bool true) ∧ Below W.heap.size W w') := Lib.hid (fun W hW => by
        have hck : chkD root ⟨fields.length, L, L.map (fun i => fields.getD i.toNat []), L.map (pathF fields s)⟩ = true := by
          have := chk_show (s := s) HINC.out
          rwa [show_ok HINC.out, ← er] at this
        have h4 : Fr [] w4 W := (F5.out.trans hfr (by simp)).trans hW (by simp)
        have := checkD_any root _ ⟨fields.length, L, L.map (fun i => fields.getD i.toNat []), L.map (pathF fields s)⟩ W ⟨_, _, _, rfl, HDW.out.fr0 h4, HDF.out.fr0 h4, HDP.out.fr0 h4⟩ (dsmall_ok (by have := HSH.out.2; omega) (shown_short (fun f hf => by have := HSH.out.1 f hf; omega))) (HT.out.fr ((hf5.trans hfr (by simp)).trans hW (by simp)))
        rwa [hck] at this)
      obtain ⟨c0, c1, c2, c3⟩ := Q5.out.fr hfr (by simp)
      have hd : Fr [] wr wr.drew := (Fr.refl [] wr).drew
      clear er
      go_wp2_with fail
      go_region_held3 (fun W => W.cell? ⟨db, 0, none⟩ = some (.int .i64 (fields.length : Int)) ∧ W.cell? ⟨db, 1, none⟩ = some (.slice dwa L.length dwc) ∧ W.cell? ⟨db, 2, none⟩ = some (.slice dfa L.length dfc) ∧ W.cell? ⟨db, 3, none⟩ = some (.slice dpa L.length dpc))
        (with_reducible (first | exact ⟨hF2.cell c0 (by simp), hF2.cell c1 (by simp), hF2.cell c2 (by simp), hF2.cell c3 (by simp)⟩ | exact ⟨hF1.cell c0 (by simp), hF1.cell c1 (by simp), hF1.cell c2 (by simp), hF1.cell c3 (by simp)⟩ | exact ⟨hd.cell c0 (by simp), hd.cell c1 (by simp), hd.cell c2 (by simp), hd.cell c3 (by simp)⟩))
        ((first
          | ((with_reducible refine (HSE.out _ hd).mono ?_)
             rintro e W1 ⟨rfl, hb1⟩
             have hF1 : Fr [] wr W1 := hd.below hb1 hd.size)
          | ((with_reducible refine (HCH.out _ hF1).mono ?_)
             rintro e W2 ⟨rfl, hb2⟩
             have hF2 : Fr [] wr W2 := hF1.below hb2 hF1.size)))
      go_wp2_with fail
      go_ret
      exact ⟨rfl, ((hf5.trans hfr (by simp)).trans hF2 (by simp)).toBelow (by simp)⟩
end Go.Proofs.YtmhejcndkplepaaDoor
