/-
  foyerref31.Same.
-/
import Derived.Test.YtmhejcndkplepaaDoorRvH
import Derived.Test.YtmhejcndkplepaaDoorRound
namespace Go.Proofs.YtmhejcndkplepaaDoor
open Go.RowKit

/-- Two disclosures are equal. -/
def sameD (a b : Disc) : Bool := decide (a.count = b.count ∧ a.which = b.which ∧ a.fields = b.fields ∧ a.paths = b.paths)
theorem eq_of_at {T : Type} {z : T} {a b : List T} (hl : a.length = b.length) (h : ∀ j, j < a.length → a.getD j z = b.getD j z) : a = b := by
  refine List.ext_getElem hl (fun i h1 h2 => ?_)
  have := h i h1
  simpa [List.getD_eq_getElem?_getD, h1, h2] using this

set_option maxRecDepth 100000 in
set_option maxHeartbeats 4000000 in
theorem rsame31_any (va vb : Value) (a b : Disc) (w : World) (ha : DiscR w va a) (hb : DiscR w vb b) :
    Calls Tryd.prog 23 #[va, vb] w fun e w' => e = .returned (.bool (sameD a b)) ∧ Below w.heap.size w w' := by
  have hmx : Tryd.prog.follows .mixedOrders = true := by kernel_rfl
  obtain ⟨wva, fva, pva, rfl, hwA, hfA, hpA⟩ := ha
  obtain ⟨wvb, fvb, pvb, rfl, hwB, hfB, hpB⟩ := hb
  obtain ⟨waa, wacap, rfl, hwal, hwac, hwaa⟩ := hwA.form
  obtain ⟨faa, facap, rfl, hfal, hfaa⟩ := hfA.form
  obtain ⟨paa, pacap, rfl, hpal, hpac, hpaa⟩ := hpA.form
  obtain ⟨wba, wbcap, rfl, hwbl, hwbc, hwba⟩ := hwB.form
  obtain ⟨fba, fbcap, rfl, hfbl, hfba⟩ := hfB.form
  obtain ⟨pba, pbcap, rfl, hpbl, hpbc, hpba⟩ := hpB.form
  have HWA := Lib.hid hwA
  have HFA := Lib.hid hfA
  have HPA := Lib.hid hpA
  have HWB := Lib.hid hwB
  have HFB := Lib.hid hfB
  have HPB := Lib.hid hpB
  clear hwA hfA hpA hwB hfB hpB
  obtain ⟨r, er⟩ : ∃ r, r = sameD a b := ⟨_, rfl⟩
  have HR := Lib.hid er
  rw [← er]
  clear er
  by_cases hc : a.count = b.count
  case neg =>
    have HF : Hid (r = false) := Lib.hid (by rw [HR.out]; exact decide_eq_false (fun h => hc h.1))
    have t0 : (a.count == b.count) = false := by rw [beq_eq_false_iff_ne]; exact hc
    go_enter Tryd.func23, Tryd.ntmps23
    go_wp2_with fail
    go_ret
    exact ⟨by rw [HF.out]; rfl, (((Fr.refl [] w).alloc _).alloc _).toBelow (by simp)⟩
  rw [hc]
  by_cases hl : a.which.length = b.which.length
  case neg =>
    have HF : Hid (r = false) := Lib.hid (by rw [HR.out]; exact decide_eq_false (fun h => hl (by rw [h.2.1])))
    have t0 : ((a.which.length : Int) == (b.which.length : Int)) = false := by rw [beq_eq_false_iff_ne]; omega
    clear hc
    go_enter Tryd.func23, Tryd.ntmps23
    go_wp2_with fail
    go_ret
    exact ⟨by rw [HF.out]; rfl, (((Fr.refl [] w).alloc _).alloc _).toBelow (by simp)⟩
  rw [hl]
  have HC := Lib.hid hc
  have HL := Lib.hid hl
  clear hc hl
  by_cases hf : a.fields = b.fields
  case neg =>
    have HF : Hid (r = false) := Lib.hid (by rw [HR.out]; exact decide_eq_false (fun h => hf h.2.2.1))
    have HNF := Lib.hid (decide_eq_false hf)
    clear hf
    go_enter Tryd.func23, Tryd.ntmps23
    go_wp2_with fail
    have f1 : Fr [] w (w.alloc (.cells #[.int .i64 b.count, .slice waa b.which.length wacap, .slice faa a.fields.length facap, .slice paa a.paths.length pacap] 26)) := (Fr.refl [] w).alloc _
    have q1 : (w.alloc (.cells #[.int .i64 b.count, .slice waa b.which.length wacap, .slice faa a.fields.length facap, .slice paa a.paths.length pacap] 26)).heap[w.heap.size]? = some (.cells #[.int .i64 b.count, .slice waa b.which.length wacap, .slice faa a.fields.length facap, .slice paa a.paths.length pacap] 26 (0, 0)) := heap_new rfl
    have z1 : (w.alloc (.cells #[.int .i64 b.count, .slice waa b.which.length wacap, .slice faa a.fields.length facap, .slice paa a.paths.length pacap] 26)).heap.size = w.heap.size + 1 := by simp
    generalize w.alloc (.cells #[.int .i64 b.count, .slice waa b.which.length wacap, .slice faa a.fields.length facap, .slice paa a.paths.length pacap] 26) = w1 at f1 q1 z1 ⊢
    have f2 : Fr [] w1 (w1.alloc (.cells #[.int .i64 b.count, .slice wba b.which.length wbcap, .slice fba b.fields.length fbcap, .slice pba b.paths.length pbcap] 26)) := (Fr.refl [] w1).alloc _
    have q2 : (w1.alloc (.cells #[.int .i64 b.count, .slice wba b.which.length wbcap, .slice fba b.fields.length fbcap, .slice pba b.paths.length pbcap] 26)).heap[w1.heap.size]? = some (.cells #[.int .i64 b.count, .slice wba b.which.length wbcap, .slice fba b.fields.length fbcap, .slice pba b.paths.length pbcap] 26 (0, 0)) := heap_new rfl
    have q3 := f2.at q1 (by simp)
    rw [z1] at q2
    generalize w1.alloc (.cells #[.int .i64 b.count, .slice wba b.which.length wbcap, .slice fba b.fields.length fbcap, .slice pba b.paths.length pbcap] 26) = w0 at f2 q2 q3 ⊢
    have hf0 : Fr [] w w0 := f1.trans f2 (by simp)
    clear f1 f2 q1 z1
    have Q2 := Lib.hid q2
    have Q3 := Lib.hid q3
    clear q2 q3
    obtain ⟨da, eda⟩ : ∃ da, da = w.heap.size := ⟨_, rfl⟩
    obtain ⟨db, edb⟩ : ∃ db, db = w.heap.size + 1 := ⟨_, rfl⟩
    rw [← edb] at Q2 ⊢
    rw [← eda] at Q3 ⊢
    have EDA := Lib.hid eda
    have EDB := Lib.hid edb
    clear eda edb
    refine (rsame4_any _ _ a.fields b.fields w0 (HFA.out.fr0 hf0) (HFB.out.fr0 hf0)).mono ?_
    rintro e w2 ⟨rfl, hb2⟩
    have hf2 : Fr [] w w2 := hf0.below hb2 hf0.size
    have q2 := (Fr.ofBelow (X := []) hb2).at Q2.out (by simp)
    have q3 := (Fr.ofBelow (X := []) hb2).at Q3.out (by simp)
    clear hb2 hf0
    have Q2 := Lib.hid q2
    have Q3 := Lib.hid q3
    rw [HNF.out]
    go_wp2_with fail
    go_ret
    exact ⟨by rw [HF.out]; rfl, hf2.toBelow (by simp)⟩
  have HYF := Lib.hid (decide_eq_true hf)
  have HEF := Lib.hid hf
  clear hf
  by_cases hp : a.paths.length = b.paths.length
  case neg =>
    have HF : Hid (r = false) := Lib.hid (by rw [HR.out]; exact decide_eq_false (fun h => hp (by rw [h.2.2.2])))
    have t0 : ((a.paths.length : Int) == (b.paths.length : Int)) = false := by rw [beq_eq_false_iff_ne]; omega
    go_enter Tryd.func23, Tryd.ntmps23
    go_wp2_with fail
    have f1 : Fr [] w (w.alloc (.cells #[.int .i64 b.count, .slice waa b.which.length wacap, .slice faa a.fields.length facap, .slice paa a.paths.length pacap] 26)) := (Fr.refl [] w).alloc _
    have q1 : (w.alloc (.cells #[.int .i64 b.count, .slice waa b.which.length wacap, .slice faa a.fields.length facap, .slice paa a.paths.length pacap] 26)).heap[w.heap.size]? = some (.cells #[.int .i64 b.count, .slice waa b.which.length wacap, .slice faa a.fields.length facap, .slice paa a.paths.length pacap] 26 (0, 0)) := heap_new rfl
    have z1 : (w.alloc (.cells #[.int .i64 b.count, .slice waa b.which.length wacap, .slice faa a.fields.length facap, .slice paa a.paths.length pacap] 26)).heap.size = w.heap.size + 1 := by simp
    generalize w.alloc (.cells #[.int .i64 b.count, .slice waa b.which.length wacap, .slice faa a.fields.length facap, .slice paa a.paths.length pacap] 26) = w1 at f1 q1 z1 ⊢
    have f2 : Fr [] w1 (w1.alloc (.cells #[.int .i64 b.count, .slice wba b.which.length wbcap, .slice fba b.fields.length fbcap, .slice pba b.paths.length pbcap] 26)) := (Fr.refl [] w1).alloc _
    have q2 : (w1.alloc (.cells #[.int .i64 b.count, .slice wba b.which.length wbcap, .slice fba b.fields.length fbcap, .slice pba b.paths.length pbcap] 26)).heap[w1.heap.size]? = some (.cells #[.int .i64 b.count, .slice wba b.which.length wbcap, .slice fba b.fields.length fbcap, .slice pba b.paths.length pbcap] 26 (0, 0)) := heap_new rfl
    have q3 := f2.at q1 (by simp)
    rw [z1] at q2
    generalize w1.alloc (.cells #[.int .i64 b.count, .slice wba b.which.length wbcap, .slice fba b.fields.length fbcap, .slice pba b.paths.length pbcap] 26) = w0 at f2 q2 q3 ⊢
    have hf0 : Fr [] w w0 := f1.trans f2 (by simp)
    clear f1 f2 q1 z1
    have Q2 := Lib.hid q2
    have Q3 := Lib.hid q3
    clear q2 q3
    obtain ⟨da, eda⟩ : ∃ da, da = w.heap.size := ⟨_, rfl⟩
    obtain ⟨db, edb⟩ : ∃ db, db = w.heap.size + 1 := ⟨_, rfl⟩
    rw [← edb] at Q2 ⊢
    rw [← eda] at Q3 ⊢
    have EDA := Lib.hid eda
    have EDB := Lib.hid edb
    clear eda edb
    refine (rsame4_any _ _ a.fields b.fields w0 (HFA.out.fr0 hf0) (HFB.out.fr0 hf0)).mono ?_
    rintro e w2 ⟨rfl, hb2⟩
    have hf2 : Fr [] w w2 := hf0.below hb2 hf0.size
    have q2 := (Fr.ofBelow (X := []) hb2).at Q2.out (by simp)
    have q3 := (Fr.ofBelow (X := []) hb2).at Q3.out (by simp)
    clear hb2 hf0
    have Q2 := Lib.hid q2
    have Q3 := Lib.hid q3
    rw [HYF.out]
    have c3 : w2.cell? ⟨da, 3, none⟩ = some (.slice paa a.paths.length pacap) := by rw [row_cell q3 3]; rfl
    have c4 : w2.cell? ⟨db, 3, none⟩ = some (.slice pba b.paths.length pbcap) := by rw [row_cell q2 3]; rfl
    clear q2 q3
    go_wp2_with fail
    go_ret
    exact ⟨by rw [HF.out]; rfl, hf2.toBelow (by simp)⟩
  rw [hp]
  have HPL := Lib.hid hp
  clear hp
  go_enter Tryd.func23, Tryd.ntmps23
  go_wp2_with fail
  have f1 : Fr [] w (w.alloc (.cells #[.int .i64 b.count, .slice waa b.which.length wacap, .slice faa a.fields.length facap, .slice paa b.paths.length pacap] 26)) := (Fr.refl [] w).alloc _
  have q1 : (w.alloc (.cells #[.int .i64 b.count, .slice waa b.which.length wacap, .slice faa a.fields.length facap, .slice paa b.paths.length pacap] 26)).heap[w.heap.size]? = some (.cells #[.int .i64 b.count, .slice waa b.which.length wacap, .slice faa a.fields.length facap, .slice paa b.paths.length pacap] 26 (0, 0)) := heap_new rfl
  have z1 : (w.alloc (.cells #[.int .i64 b.count, .slice waa b.which.length wacap, .slice faa a.fields.length facap, .slice paa b.paths.length pacap] 26)).heap.size = w.heap.size + 1 := by simp
  generalize w.alloc (.cells #[.int .i64 b.count, .slice waa b.which.length wacap, .slice faa a.fields.length facap, .slice paa b.paths.length pacap] 26) = w1 at f1 q1 z1 ⊢
  have f2 : Fr [] w1 (w1.alloc (.cells #[.int .i64 b.count, .slice wba b.which.length wbcap, .slice fba b.fields.length fbcap, .slice pba b.paths.length pbcap] 26)) := (Fr.refl [] w1).alloc _
  have q2 : (w1.alloc (.cells #[.int .i64 b.count, .slice wba b.which.length wbcap, .slice fba b.fields.length fbcap, .slice pba b.paths.length pbcap] 26)).heap[w1.heap.size]? = some (.cells #[.int .i64 b.count, .slice wba b.which.length wbcap, .slice fba b.fields.length fbcap, .slice pba b.paths.length pbcap] 26 (0, 0)) := heap_new rfl
  have q3 := f2.at q1 (by simp)
  rw [z1] at q2
  generalize w1.alloc (.cells #[.int .i64 b.count, .slice wba b.which.length wbcap, .slice fba b.fields.length fbcap, .slice pba b.paths.length pbcap] 26) = w0 at f2 q2 q3 ⊢
  have hf0 : Fr [] w w0 := f1.trans f2 (by simp)
  clear f1 f2 q1 z1
  have Q2 := Lib.hid q2
  have Q3 := Lib.hid q3
  clear q2 q3
  obtain ⟨da, eda⟩ : ∃ da, da = w.heap.size := ⟨_, rfl⟩
  obtain ⟨db, edb⟩ : ∃ db, db = w.heap.size + 1 := ⟨_, rfl⟩
  rw [← edb] at Q2 ⊢
  rw [← eda] at Q3 ⊢
  have EDA := Lib.hid eda
  have EDB := Lib.hid edb
  clear eda edb
  refine (rsame4_any _ _ a.fields b.fields w0 (HFA.out.fr0 hf0) (HFB.out.fr0 hf0)).mono ?_
  rintro e w2 ⟨rfl, hb2⟩
  have hf2 : Fr [] w w2 := hf0.below hb2 hf0.size
  have q2 := (Fr.ofBelow (X := []) hb2).at Q2.out (by simp)
  have q3 := (Fr.ofBelow (X := []) hb2).at Q3.out (by simp)
  clear hb2 hf0
  have Q2 := Lib.hid q2
  have Q3 := Lib.hid q3
  rw [HYF.out]
  have c3 : w2.cell? ⟨da, 3, none⟩ = some (.slice paa b.paths.length pacap) := by rw [row_cell q3 3]; rfl
  have c4 : w2.cell? ⟨db, 3, none⟩ = some (.slice pba b.paths.length pbcap) := by rw [row_cell q2 3]; rfl
  clear q2 q3
  go_wp2_with fail
  clear c3 c4
  go_loopg [5] (b.which.length + 1) (fun g iv wr => ∃ k : Nat, k ≤ b.which.length ∧ g = b.which.length + 1 - k ∧ iv = .int .i64 (k : Int) ∧ (∀ j, j < k → a.which.getD j 0 = b.which.getD j 0) ∧ Fr [] w2 wr)
  case atStart => exact ⟨0, by omega, by omega, rfl, fun j hj => absurd hj (Nat.not_lt_zero _), Fr.refl _ _⟩
  case round =>
    obtain ⟨k, hk, hg, rfl, heq, hfr⟩ := hrel
    have HG := Lib.hid hg
    have HEQ := Lib.hid heq
    clear hg heq
    have q2 := hfr.at Q2.out (by simp)
    have q3 := hfr.at Q3.out (by simp)
    have c1 : wr.cell? ⟨da, 1, none⟩ = some (.slice waa b.which.length wacap) := by rw [row_cell q3 1]; rfl
    have c2 : wr.cell? ⟨db, 1, none⟩ = some (.slice wba b.which.length wbcap) := by rw [row_cell q2 1]; rfl
    have c3 : wr.cell? ⟨da, 3, none⟩ = some (.slice paa b.paths.length pacap) := by rw [row_cell q3 3]; rfl
    clear q2 q3
    by_cases hlt : k < b.which.length
    · have t1 : decide ((k : Int) < (b.which.length : Int)) = true := by simp; omega
      obtain ⟨ab, ao, rfl⟩ := hwaa k (by rw [HL.out]; exact hlt)
      obtain ⟨bb, bo, rfl⟩ := hwba k hlt
      have ca := (hf2.trans hfr (by simp)).cell (HWA.out.cell k (by rw [HL.out]; exact hlt)) (by simp)
      have cb := (hf2.trans hfr (by simp)).cell (HWB.out.cell k hlt) (by simp)
      have g0 : (0 : Int) ≤ (k : Int) := by omega
      have g1 : (k : Int) < (b.which.length : Int) := by omega
      have hwk : k + 1 ≤ 9223372036854775807 := by omega
      by_cases he : a.which.getD k 0 = b.which.getD k 0
      · have HEQ2 : Hid (∀ j, j < k + 1 → a.which.getD j 0 = b.which.getD j 0) := Lib.hid (fun j hj => by
          by_cases h : j < k
          · exact HEQ.out j h
          · rw [show j = k by omega]; exact he)
        have t2 : (b.which.getD k 0 == b.which.getD k 0) = true := by simp
        rw [he] at ca
        clear he
        generalize b.which.getD k 0 = z at ca cb t2
        go_wp2_with fail
        go_quiet (fail)
        go_wp2_with fail
        go_roundg (b.which.length + 1 - (k + 1))
        case measure => have := HG.out; omega
        case rel => exact ⟨k + 1, by omega, rfl, by go_num, HEQ2.out, hfr.drewN _⟩
      · have HF : Hid (r = false) := Lib.hid (by rw [HR.out]; exact decide_eq_false (fun h => he (by rw [h.2.1])))
        have t2 : (a.which.getD k 0 == b.which.getD k 0) = false := by rw [beq_eq_false_iff_ne]; exact he
        generalize a.which.getD k 0 = z at ca t2 he
        generalize b.which.getD k 0 = y at cb t2 he
        go_wp2_with fail
        go_quiet (fail)
        go_wp2_with fail
        go_ret
        exact ⟨by rw [HF.out]; rfl, (hf2.trans (hfr.drewN _) (by simp)).toBelow (by simp)⟩
    · obtain rfl : k = b.which.length := by omega
      have t1 : decide ((b.which.length : Int) < (b.which.length : Int)) = false := by simp
      have HEW : Hid (a.which = b.which) := Lib.hid (eq_of_at HL.out (fun j hj => HEQ.out j (by rw [← HL.out]; exact hj)))
      clear HEQ HG
      have hf3 := hf2.trans hfr (by simp)
      have Q4 := Lib.hid (hfr.at Q2.out (by simp))
      have Q5 := Lib.hid (hfr.at Q3.out (by simp))
      clear Q2 Q3 hfr hf2
      go_wp2_with fail
      clear c1 c2 c3
      go_loopg [6] (b.paths.length + 1) (fun g iv wx => ∃ k : Nat, k ≤ b.paths.length ∧ g = b.paths.length + 1 - k ∧ iv = .int .i64 (k : Int) ∧ (∀ j, j < k → a.paths.getD j [] = b.paths.getD j []) ∧ Fr [] wr wx)
      case atStart => exact ⟨0, by omega, by omega, rfl, fun j hj => absurd hj (Nat.not_lt_zero _), Fr.refl _ _⟩
      case round =>
        obtain ⟨k, hk, hg, rfl, heq, hfr⟩ := hrel
        have HG := Lib.hid hg
        have HEQ := Lib.hid heq
        clear hg heq t1
        have q2 := hfr.at Q4.out (by simp)
        have q3 := hfr.at Q5.out (by simp)
        have c3 : wr.cell? ⟨da, 3, none⟩ = some (.slice paa b.paths.length pacap) := by rw [row_cell q3 3]; rfl
        have c4 : wr.cell? ⟨db, 3, none⟩ = some (.slice pba b.paths.length pbcap) := by rw [row_cell q2 3]; rfl
        clear q2 q3
        by_cases hlt : k < b.paths.length
        · have t1 : decide ((k : Int) < (b.paths.length : Int)) = true := by simp; omega
          obtain ⟨ab, ao, rfl⟩ := hpaa k (by rw [HPL.out]; exact hlt)
          obtain ⟨bb, bo, rfl⟩ := hpba k hlt
          have hfw := hf3.trans hfr (by simp)
          obtain ⟨ua, cu0, hua⟩ := HPA.out.cell k (by rw [HPL.out]; exact hlt)
          obtain ⟨ub, cv0, hub⟩ := HPB.out.cell k hlt
          have c5 := hfw.cell cu0 (by simp)
          have c6 := hfw.cell cv0 (by simp)
          have hua2 := hua.fr0 hfw
          have hub2 := hub.fr0 hfw
          obtain ⟨xa, xac, rfl, _, _⟩ := hua2.form
          obtain ⟨xb, xbc, rfl, _, _⟩ := hub2.form
          have g0 : (0 : Int) ≤ (k : Int) := by omega
          have g1 : (k : Int) < (b.paths.length : Int) := by omega
          have hwk : k + 1 ≤ 9223372036854775807 := by omega
          have HGP : Hid (a.paths.getD k [] ≠ b.paths.getD k [] → r = false) := Lib.hid (fun he => by rw [HR.out]; exact decide_eq_false (fun h => he (by rw [h.2.2.2])))
          have HGE : Hid (a.paths.getD k [] = b.paths.getD k [] → ∀ j, j < k + 1 → a.paths.getD j [] = b.paths.getD j []) := Lib.hid (fun he j hj => by
            by_cases h : j < k
            · exact HEQ.out j h
            · rw [show j = k by omega]; exact he)
          have HUA := Lib.hid hua2
          have HUB := Lib.hid hub2
          clear hua2 hub2 hua hub cu0 cv0
          generalize a.paths.getD k [] = p at c5 HUA HGP HGE
          generalize b.paths.getD k [] = q at c6 HUB HGP HGE
          obtain ⟨np, enp⟩ : ∃ np, np = p.length := ⟨_, rfl⟩
          obtain ⟨nq, enq⟩ : ∃ nq, nq = q.length := ⟨_, rfl⟩
          rw [← enp] at c5 HUA
          rw [← enq] at c6 HUB
          clear enp enq
          obtain ⟨bq, ebq⟩ : ∃ bq, bq = decide (p = q) := ⟨_, rfl⟩
          have EBQ := Lib.hid ebq
          clear ebq
          cases bq with
          | true =>
            have HE2 := Lib.hid (HGE.out (of_decide_eq_true EBQ.out.symm))
            go_wp2_with fail
            have hc0 := c3
            have hc1 := c4
            have hc2 := c5
            have hc3 := c6
            have hh0 : Fr [] wr wr.drew := (Fr.refl [] wr).drew
            have hS0 : wr.drew.cell? ⟨da, 3, none⟩ = some (.slice (some ⟨ab, ao, none⟩) b.paths.length pacap) ∧ wr.drew.cell? ⟨db, 3, none⟩ = some (.slice (some ⟨bb, bo, none⟩) b.paths.length pbcap) ∧ wr.drew.cell? ⟨ab, ao + k, none⟩ = some (.slice xa np xac) ∧ wr.drew.cell? ⟨bb, bo + k, none⟩ = some (.slice xb nq xbc) := ⟨hh0.cell hc0 (by simp), hh0.cell hc1 (by simp), hh0.cell hc2 (by simp), hh0.cell hc3 (by simp)⟩
            refine region_held 100 (fun W' => W'.cell? ⟨da, 3, none⟩ = some (.slice (some ⟨ab, ao, none⟩) b.paths.length pacap) ∧ W'.cell? ⟨db, 3, none⟩ = some (.slice (some ⟨bb, bo, none⟩) b.paths.length pbcap) ∧ W'.cell? ⟨ab, ao + k, none⟩ = some (.slice xa np xac) ∧ W'.cell? ⟨bb, bo + k, none⟩ = some (.slice xb nq xbc)) hmx ?_
            change Held _ _ _ _ _ _ 12 (Array.replicate 12 false) _ _
            refine hd_take 0 (v := .pointer (some ⟨da, 3, none⟩)) rfl (by kernel_rfl) (by kernel_rfl) (by kernel_rfl) rfl hS0 (fun W' hS => by go_simp) rfl ?_
            refine hd_take 2 (v := .int .i64 (k : Int)) rfl (by kernel_rfl) (by kernel_rfl) (by kernel_rfl) rfl hS0 (fun W' hS => by go_simp) rfl ?_
            refine hd_take 5 (v := .pointer (some ⟨db, 3, none⟩)) rfl (by kernel_rfl) (by kernel_rfl) (by kernel_rfl) rfl hS0 (fun W' hS => by go_simp) rfl ?_
            refine hd_take 7 (v := .int .i64 (k : Int)) rfl (by kernel_rfl) (by kernel_rfl) (by kernel_rfl) rfl hS0 (fun W' hS => by go_simp) rfl ?_
            simp only [Act.put, List.setIfInBounds_toArray, List.set_cons_zero, List.set_cons_succ]
            refine hd_take 1 (v := .slice (some ⟨ab, ao, none⟩) b.paths.length pacap) rfl (by kernel_rfl) (by kernel_rfl) (by kernel_rfl) rfl hS0 (fun W' hS => by obtain ⟨h0, h1, h2, h3⟩ := hS; go_simp) rfl ?_
            refine hd_take 6 (v := .slice (some ⟨bb, bo, none⟩) b.paths.length pbcap) rfl (by kernel_rfl) (by kernel_rfl) (by kernel_rfl) rfl hS0 (fun W' hS => by obtain ⟨h0, h1, h2, h3⟩ := hS; go_simp) rfl ?_
            simp only [Act.put, List.setIfInBounds_toArray, List.set_cons_zero, List.set_cons_succ]
            refine hd_take 3 (v := .pointer (some ⟨ab, ao + k, none⟩)) rfl (by kernel_rfl) (by kernel_rfl) (by kernel_rfl) rfl hS0 (fun W' hS => by first | (go_simp; done) | (go_simp; intro hix; omega)) rfl ?_
            refine hd_take 8 (v := .pointer (some ⟨bb, bo + k, none⟩)) rfl (by kernel_rfl) (by kernel_rfl) (by kernel_rfl) rfl hS0 (fun W' hS => by first | (go_simp; done) | (go_simp; intro hix; omega)) rfl ?_
            simp only [Act.put, List.setIfInBounds_toArray, List.set_cons_zero, List.set_cons_succ]
            refine hd_take 4 (v := .slice xa np xac) rfl (by kernel_rfl) (by kernel_rfl) (by kernel_rfl) rfl hS0 (fun W' hS => by obtain ⟨h0, h1, h2, h3⟩ := hS; go_simp) rfl ?_
            refine hd_take 9 (v := .slice xb nq xbc) rfl (by kernel_rfl) (by kernel_rfl) (by kernel_rfl) rfl hS0 (fun W' hS => by obtain ⟨h0, h1, h2, h3⟩ := hS; go_simp) rfl ?_
            simp only [Act.put, List.setIfInBounds_toArray, List.set_cons_zero, List.set_cons_succ]
            refine hd_one 10 (by kernel_rfl) rfl (by kernel_rfl) rfl (fun K' hK => ?_)
            go_simp
            refine (rsame4_any _ _ p q wr.drew (HUA.out.fr0 hh0) (HUB.out.fr0 hh0)).mono ?_
            rintro e wq1 ⟨rfl, hb⟩
            rw [← EBQ.out]
            have hh1 : Fr [] wr wq1 := hh0.below hb hh0.size
            clear hb
            have hS1 : wq1.cell? ⟨da, 3, none⟩ = some (.slice (some ⟨ab, ao, none⟩) b.paths.length pacap) ∧ wq1.cell? ⟨db, 3, none⟩ = some (.slice (some ⟨bb, bo, none⟩) b.paths.length pbcap) ∧ wq1.cell? ⟨ab, ao + k, none⟩ = some (.slice xa np xac) ∧ wq1.cell? ⟨bb, bo + k, none⟩ = some (.slice xb nq xbc) := ⟨hh1.cell hc0 (by simp), hh1.cell hc1 (by simp), hh1.cell hc2 (by simp), hh1.cell hc3 (by simp)⟩
            refine hK.out _ _ (fun _ => hS1) ?_
            clear hK K'
            try simp only [Act.put, List.setIfInBounds_toArray, List.set_cons_zero, List.set_cons_succ]
            refine hd_take 11 (v := .bool false) rfl (by kernel_rfl) (by kernel_rfl) (by kernel_rfl) rfl hS1 (fun W' hS => by go_simp) rfl ?_
            simp only [Act.put, List.setIfInBounds_toArray, List.set_cons_zero, List.set_cons_succ]
            refine held_done (by kernel_rfl) ?_
            go_wp2_with fail
            go_roundg (b.paths.length + 1 - (k + 1))
            case measure => have := HG.out; omega
            case rel => exact ⟨k + 1, by omega, rfl, by go_num, HE2.out, hfr.trans hh1 (by simp)⟩
          | false =>
            have HF : Hid (r = false) := Lib.hid (HGP.out (of_decide_eq_false EBQ.out.symm))
            go_wp2_with fail
            have hc0 := c3
            have hc1 := c4
            have hc2 := c5
            have hc3 := c6
            have hh0 : Fr [] wr wr.drew := (Fr.refl [] wr).drew
            have hS0 : wr.drew.cell? ⟨da, 3, none⟩ = some (.slice (some ⟨ab, ao, none⟩) b.paths.length pacap) ∧ wr.drew.cell? ⟨db, 3, none⟩ = some (.slice (some ⟨bb, bo, none⟩) b.paths.length pbcap) ∧ wr.drew.cell? ⟨ab, ao + k, none⟩ = some (.slice xa np xac) ∧ wr.drew.cell? ⟨bb, bo + k, none⟩ = some (.slice xb nq xbc) := ⟨hh0.cell hc0 (by simp), hh0.cell hc1 (by simp), hh0.cell hc2 (by simp), hh0.cell hc3 (by simp)⟩
            refine region_held 100 (fun W' => W'.cell? ⟨da, 3, none⟩ = some (.slice (some ⟨ab, ao, none⟩) b.paths.length pacap) ∧ W'.cell? ⟨db, 3, none⟩ = some (.slice (some ⟨bb, bo, none⟩) b.paths.length pbcap) ∧ W'.cell? ⟨ab, ao + k, none⟩ = some (.slice xa np xac) ∧ W'.cell? ⟨bb, bo + k, none⟩ = some (.slice xb nq xbc)) hmx ?_
            change Held _ _ _ _ _ _ 12 (Array.replicate 12 false) _ _
            refine hd_take 0 (v := .pointer (some ⟨da, 3, none⟩)) rfl (by kernel_rfl) (by kernel_rfl) (by kernel_rfl) rfl hS0 (fun W' hS => by go_simp) rfl ?_
            refine hd_take 2 (v := .int .i64 (k : Int)) rfl (by kernel_rfl) (by kernel_rfl) (by kernel_rfl) rfl hS0 (fun W' hS => by go_simp) rfl ?_
            refine hd_take 5 (v := .pointer (some ⟨db, 3, none⟩)) rfl (by kernel_rfl) (by kernel_rfl) (by kernel_rfl) rfl hS0 (fun W' hS => by go_simp) rfl ?_
            refine hd_take 7 (v := .int .i64 (k : Int)) rfl (by kernel_rfl) (by kernel_rfl) (by kernel_rfl) rfl hS0 (fun W' hS => by go_simp) rfl ?_
            simp only [Act.put, List.setIfInBounds_toArray, List.set_cons_zero, List.set_cons_succ]
            refine hd_take 1 (v := .slice (some ⟨ab, ao, none⟩) b.paths.length pacap) rfl (by kernel_rfl) (by kernel_rfl) (by kernel_rfl) rfl hS0 (fun W' hS => by obtain ⟨h0, h1, h2, h3⟩ := hS; go_simp) rfl ?_
            refine hd_take 6 (v := .slice (some ⟨bb, bo, none⟩) b.paths.length pbcap) rfl (by kernel_rfl) (by kernel_rfl) (by kernel_rfl) rfl hS0 (fun W' hS => by obtain ⟨h0, h1, h2, h3⟩ := hS; go_simp) rfl ?_
            simp only [Act.put, List.setIfInBounds_toArray, List.set_cons_zero, List.set_cons_succ]
            refine hd_take 3 (v := .pointer (some ⟨ab, ao + k, none⟩)) rfl (by kernel_rfl) (by kernel_rfl) (by kernel_rfl) rfl hS0 (fun W' hS => by first | (go_simp; done) | (go_simp; intro hix; omega)) rfl ?_
            refine hd_take 8 (v := .pointer (some ⟨bb, bo + k, none⟩)) rfl (by kernel_rfl) (by kernel_rfl) (by kernel_rfl) rfl hS0 (fun W' hS => by first | (go_simp; done) | (go_simp; intro hix; omega)) rfl ?_
            simp only [Act.put, List.setIfInBounds_toArray, List.set_cons_zero, List.set_cons_succ]
            refine hd_take 4 (v := .slice xa np xac) rfl (by kernel_rfl) (by kernel_rfl) (by kernel_rfl) rfl hS0 (fun W' hS => by obtain ⟨h0, h1, h2, h3⟩ := hS; go_simp) rfl ?_
            refine hd_take 9 (v := .slice xb nq xbc) rfl (by kernel_rfl) (by kernel_rfl) (by kernel_rfl) rfl hS0 (fun W' hS => by obtain ⟨h0, h1, h2, h3⟩ := hS; go_simp) rfl ?_
            simp only [Act.put, List.setIfInBounds_toArray, List.set_cons_zero, List.set_cons_succ]
            refine hd_one 10 (by kernel_rfl) rfl (by kernel_rfl) rfl (fun K' hK => ?_)
            go_simp
            refine (rsame4_any _ _ p q wr.drew (HUA.out.fr0 hh0) (HUB.out.fr0 hh0)).mono ?_
            rintro e wq1 ⟨rfl, hb⟩
            rw [← EBQ.out]
            have hh1 : Fr [] wr wq1 := hh0.below hb hh0.size
            clear hb
            have hS1 : wq1.cell? ⟨da, 3, none⟩ = some (.slice (some ⟨ab, ao, none⟩) b.paths.length pacap) ∧ wq1.cell? ⟨db, 3, none⟩ = some (.slice (some ⟨bb, bo, none⟩) b.paths.length pbcap) ∧ wq1.cell? ⟨ab, ao + k, none⟩ = some (.slice xa np xac) ∧ wq1.cell? ⟨bb, bo + k, none⟩ = some (.slice xb nq xbc) := ⟨hh1.cell hc0 (by simp), hh1.cell hc1 (by simp), hh1.cell hc2 (by simp), hh1.cell hc3 (by simp)⟩
            refine hK.out _ _ (fun _ => hS1) ?_
            clear hK K'
            try simp only [Act.put, List.setIfInBounds_toArray, List.set_cons_zero, List.set_cons_succ]
            refine hd_take 11 (v := .bool true) rfl (by kernel_rfl) (by kernel_rfl) (by kernel_rfl) rfl hS1 (fun W' hS => by go_simp) rfl ?_
            simp only [Act.put, List.setIfInBounds_toArray, List.set_cons_zero, List.set_cons_succ]
            refine held_done (by kernel_rfl) ?_
            go_wp2_with fail
            go_ret
            exact ⟨by rw [HF.out]; rfl, (hfw.trans hh1 (by simp)).toBelow (by simp)⟩
        · obtain rfl : k = b.paths.length := by omega
          have t1 : decide ((b.paths.length : Int) < (b.paths.length : Int)) = false := by simp
          have HT2 : Hid (r = true) := Lib.hid (by rw [HR.out]; exact decide_eq_true ⟨HC.out, HEW.out, HEF.out, eq_of_at HPL.out (fun j hj => HEQ.out j (by rw [← HPL.out]; exact hj))⟩)
          go_wp2_with fail
          go_ret
          exact ⟨by rw [HT2.out]; rfl, (hf3.trans hfr (by simp)).toBelow (by simp)⟩
end Go.Proofs.YtmhejcndkplepaaDoor
