/-
  (*strings.Builder).Grow at a fresh builder; strings.Join of three strings.
-/
import Derived.Test.YtjddngbgbbbefaaGreatDoorOwn
import Derived.BigRegion
namespace Go.Proofs.YtjddngbgbbbefaaGreatDoor
open Go.RowKit Go.Shelf

set_option maxHeartbeats 4000000 in
set_option maxRecDepth 100000 in
theorem grow_fresh (B b n : Nat) (w : World) (hB : B ≤ b) (hbk : w.heap[b]? = some (.cells #[.pointer (some ⟨b, 0, none⟩), .slice none 0 0] 90 (0, 0))) (hBw : B ≤ w.heap.size) (hn : n ≤ 281474976710656) :
    Calls Tryz.prog 141 #[.pointer (some ⟨b, 0, none⟩), .int .i64 (n : Int)] w fun e w' => e = .returned (.tuple #[]) ∧ (Lib.BuilderAt 90 5 B b (.pointer (some ⟨b, 0, none⟩)) [] w' ∧ Below B w w') := by
  obtain ⟨i0, hi0, hz0, hz1, hz2⟩ := info_parts bInfoByte
  have hsz : ∀ W : World, (sizeOf 5).run Tryz.prog W = .ok 1 W := fun _ => by kernel_rfl
  obtain ⟨cs, hrun, hle, hmax⟩ := Lib.run_makeNoZero (P := Tryz.prog) w.drew #[3] 88 5 Tryz.underlying88 n hn
  have hw : IntKind.i64.wrap (IntKind.i64.wrap 0 + (n : Int)) = n := by
    rw [IntKind.wrap_i64, IntKind.wrap_i64]
    omega
  have hcall : (callFunc 157 #[.int .i64 (n : Int)]).run Tryz.prog w.drew = .ok (.value (.slice (some ⟨w.drew.heap.size, 0, none⟩) n cs.size)) (w.drew.drew.drew.alloc (.cells cs 5)) := by
    rw [run_callFunc_extern Tryz.func157 (by kernel_rfl) (by kernel_rfl) (by kernel_rfl) (e := Extern.BytealgMakeNoZero.makeNoZero #[3] #[88]) (by kernel_rfl), hrun]
    rfl
  have hcall2 : (callFunc 157 #[.int .i64 (IntKind.i64.wrap (IntKind.i64.wrap 0 + (n : Int)))]).run Tryz.prog w.drew = .ok (.value (.slice (some ⟨w.drew.heap.size, 0, none⟩) n cs.size)) (w.drew.drew.drew.alloc (.cells cs 5)) := by
    rw [hw]; exact hcall
  have hlt : b < w.heap.size := lt_of_block hbk
  have c1 : w.drew.cell? ⟨b, 1, none⟩ = some (.slice none 0 0) := by
    have : w.drew.heap[b]? = _ := hbk
    rw [Lib.cell_of_heap this]; rfl
  have c2 : (w.alloc (.cells cs 5)).cell? ⟨b, 1, none⟩ = some (.slice none 0 0) := by
    have : (w.alloc (.cells cs 5)).heap[b]? = _ := (Lib.alloc_old w _ b hlt).trans hbk
    rw [Lib.cell_of_heap this]; rfl
  have f2 : (w.alloc (.cells cs 5)).frozen? ⟨b, 1, none⟩ = false := Lib.frozen_of_heap ((Lib.alloc_old w _ b hlt).trans hbk) 1
  have hcopy : ∀ W : World, (Builtin.copy_ #[88, 88] 3 #[.slice (some ⟨w.heap.size, 0, none⟩) 0 cs.size, .slice none 0 0]).run Tryz.prog W = .ok (goInt 0) W :=
    fun W => run_copy_none W 88 88 3 5 _ _ 0 cs.size 0 0 Tryz.underlying88 (by kernel_rfl) rfl
  have hfin := Lib.grown_fresh (T := 90) (e := 5) (cs := cs) hB hbk hBw (hmax (by unfold maxLen; omega)) (by decide)
  have HF := Lib.hid hfin
  clear hw hfin hlt
  go_enter Tryz.func141, Tryz.ntmps141
  go_wp2
  go_region
  all_goals (go_wp2; go_end0; exact ⟨rfl, HF.out⟩)

set_option maxHeartbeats 4000000 in
set_option maxRecDepth 100000 in
theorem Grow_fresh (B b n : Nat) (w : World) (hB : B ≤ b) (hbk : w.heap[b]? = some (.cells #[.pointer none, .slice none 0 0] 90 (0, 0))) (hBw : B ≤ w.heap.size) (hn : n ≤ 281474976710656) :
    Calls Tryz.prog 117 #[.pointer (some ⟨b, 0, none⟩), .int .i64 (n : Int)] w fun e w' => e = .returned (.tuple #[]) ∧ (Lib.BuilderAt 90 5 B b (.pointer (some ⟨b, 0, none⟩)) [] w' ∧ Below B w w') := by
  have hbk1 : (w.setCell ⟨b, 0, none⟩ (.pointer (some ⟨b, 0, none⟩))).heap[b]? = some (.cells #[.pointer (some ⟨b, 0, none⟩), .slice none 0 0] 90 (0, 0)) := row_set hbk 0 _
  have c1 : (w.setCell ⟨b, 0, none⟩ (.pointer (some ⟨b, 0, none⟩))).cell? ⟨b, 1, none⟩ = some (.slice none 0 0) := by rw [Lib.cell_of_heap hbk1]; rfl
  have c1' : (w.setCell ⟨b, 0, none⟩ (.pointer (some ⟨b, 0, none⟩))).drew.cell? ⟨b, 1, none⟩ = some (.slice none 0 0) := c1
  have hb1 : Below B w (w.setCell ⟨b, 0, none⟩ (.pointer (some ⟨b, 0, none⟩))) := (Below.refl B w).setCell (p := ⟨b, 0, none⟩) hB _
  have hU : Lib.BuilderAt 90 5 B b (.pointer (some ⟨b, 0, none⟩)) [] (w.setCell ⟨b, 0, none⟩ (.pointer (some ⟨b, 0, none⟩))) := ⟨hB, .slice none 0 0, hbk1, World.ownsRow_nil _ _ _ _, by simp [Value.ownBlock]⟩
  have HU := Lib.hid hU
  have HBK := Lib.hid hbk
  have HBK1 := Lib.hid hbk1
  clear hU hbk hbk1
  go_enter Tryz.func117, Tryz.ntmps117
  go_wp2_with fail
  refine (copyCheck_fresh b w (by rw [Lib.cell_of_heap HBK.out]; rfl) (by simp [World.shape?, HBK.out]) (Lib.frozen_of_heap HBK.out 0)).mono ?_
  rintro e w' ⟨rfl, rfl⟩
  by_cases h0 : 0 < n
  · have t1 : decide ((n : Int) < 0) = false := by simp
    have t2 : decide ((0 : Int) < (n : Int)) = true := by simp; omega
    go_wp2_with fail
    go_region
    all_goals go_wp2_with fail
    all_goals
      refine (grow_fresh B b n (w.setCell ⟨b, 0, none⟩ (.pointer (some ⟨b, 0, none⟩))).drew hB HBK1.out (by simpa [World.setCell, World.drew, -World.drew_eq] using hBw) hn).mono ?_
      rintro e w' ⟨rfl, h1, h2⟩
      go_wp2_with fail
      go_end0
      exact ⟨rfl, h1, hb1.drew.trans h2⟩
  · obtain rfl : n = 0 := by omega
    go_wp2_with fail
    go_region
    all_goals go_wp2_with fail
    all_goals go_end0
    all_goals exact ⟨rfl, HU.out.drew, hb1.drew⟩

set_option maxHeartbeats 8000000 in
set_option maxRecDepth 100000 in
/-- strings.Join of three strings, with one sign between them. -/
theorem join3_any (b : Nat) (x y z : List UInt8) (w : World) (hx : x.length ≤ 1000000) (hy : y.length ≤ 1000000) (hz : z.length ≤ 1000000) (hs : Strs w (.slice (some ⟨b, 0, none⟩) 3 3) [x, y, z]) :
    Calls Tryz.prog 97 #[.slice (some ⟨b, 0, none⟩) 3 3, .string ⟨#[32]⟩] w fun e w' => e = .returned (.string ⟨(x ++ 32 :: y ++ 32 :: z).toArray⟩) ∧ Below w.heap.size w w' := by
  have c0 : w.cell? ⟨b, 0, none⟩ = some (.string ⟨x.toArray⟩) := by have := hs.cellN rfl 0 (by decide); simpa using this
  have c1 : w.cell? ⟨b, 1, none⟩ = some (.string ⟨y.toArray⟩) := by have := hs.cellN rfl 1 (by decide); simpa using this
  have c2 : w.cell? ⟨b, 2, none⟩ = some (.string ⟨z.toArray⟩) := by have := hs.cellN rfl 2 (by decide); simpa using this
  have HC0 := Lib.hid c0
  have HC1 := Lib.hid c1
  have HC2 := Lib.hid c2
  clear hs
  have hsx : (ByteArray.mk x.toArray).size = x.length := ba_size x
  have hsy : (ByteArray.mk y.toArray).size = y.length := ba_size y
  have hsz : (ByteArray.mk z.toArray).size = z.length := ba_size z
  have q1 : decide ((1 : Int) ≥ 4611686018427387903) = false := by decide
  go_enter Tryz.func97, Tryz.ntmps97
  go_wp2_with fail
  refine wp_loop_rounds 4 ?_; rw [rounds_succ]
  go_wp2_with fail
  rw [rounds_succ]
  go_wp2_with fail
  rw [rounds_succ]
  go_wp2_with fail
  rw [rounds_succ]
  go_wp2_with fail
  refine (Grow_fresh w.heap.size w.heap.size (2 + x.length + y.length + z.length) _ (Nat.le_refl _) (heap_new rfl) (by simp) (by omega)).mono ?_
  rintro e w1 ⟨rfl, hu1, hb1⟩
  have hf1 : Fr [] w w1 := ((Fr.refl [] w).alloc (.cells #[.pointer none, .slice none 0 0] 90)).below hb1 (Nat.le_refl _)
  have HB1 : Hid (Lib.IsBuilder 90 5 w.heap.size w.heap.size (Lib.byteCells []) w1) := Lib.hid (Or.inr hu1)
  have d0 := hf1.cell HC0.out (by simp)
  have d1 := hf1.cell HC1.out (by simp)
  have d2 := hf1.cell HC2.out (by simp)
  clear hu1 hb1 c0 c1 c2
  go_wp2_with fail
  refine (writeString_any w.heap.size w.heap.size (Lib.byteCells []) ⟨x.toArray⟩ w1 HB1.out (by simp [Lib.byteCells_length, ByteArray.size]; omega) hf1.size).mono ?_
  rintro e w2 ⟨rfl, hu2, hb2⟩
  have hf2 : Fr [] w w2 := hf1.below hb2 (Nat.le_refl _)
  have HB2 : Hid (Lib.IsBuilder 90 5 w.heap.size w.heap.size (Lib.byteCells ([] ++ x)) w2) := Lib.hid (by have := hu2; rwa [show Lib.strCells ⟨x.toArray⟩ = Lib.byteCells x from by simp [Lib.strCells, Lib.byteCells], ← Lib.byteCells_append] at this)
  clear hu2 hb2
  have e1 := hf2.cell HC1.out (by simp)
  have e2 := hf2.cell HC2.out (by simp)
  clear d0 d1 d2 HB1
  go_wp2_with fail
  refine wp_loop_rounds 3 ?_; rw [rounds_succ]
  go_wp2_with fail
  refine (writeString_any w.heap.size w.heap.size (Lib.byteCells ([] ++ x)) ⟨#[32]⟩ w2 HB2.out (by simp [Lib.byteCells_length, ByteArray.size]; omega) hf2.size).mono ?_
  rintro e w3 ⟨rfl, hu3, hb3⟩
  have hf3 : Fr [] w w3 := hf2.below hb3 (Nat.le_refl _)
  have HB3 : Hid (Lib.IsBuilder 90 5 w.heap.size w.heap.size (Lib.byteCells (([] ++ x) ++ [32])) w3) := Lib.hid (by have := hu3; rwa [show Lib.strCells ⟨#[32]⟩ = Lib.byteCells [32] from by simp [Lib.strCells, Lib.byteCells], ← Lib.byteCells_append] at this)
  clear hu3 hb3
  clear e1 e2 HB2
  have g2 := hf3.cell HC2.out (by simp)
  go_wp2_with fail
  refine (writeString_any w.heap.size w.heap.size (Lib.byteCells (([] ++ x) ++ [32])) ⟨y.toArray⟩ w3 HB3.out (by simp [Lib.byteCells_length, ByteArray.size]; omega) hf3.size).mono ?_
  rintro e w4 ⟨rfl, hu4, hb4⟩
  have hf4 : Fr [] w w4 := hf3.below hb4 (Nat.le_refl _)
  have HB4 : Hid (Lib.IsBuilder 90 5 w.heap.size w.heap.size (Lib.byteCells ((([] ++ x) ++ [32]) ++ y)) w4) := Lib.hid (by have := hu4; rwa [show Lib.strCells ⟨y.toArray⟩ = Lib.byteCells y from by simp [Lib.strCells, Lib.byteCells], ← Lib.byteCells_append] at this)
  clear hu4 hb4
  clear g2 HB3
  have g2 := hf4.cell HC2.out (by simp)
  go_wp2_with fail
  rw [rounds_succ]
  go_wp2_with fail
  refine (writeString_any w.heap.size w.heap.size (Lib.byteCells ((([] ++ x) ++ [32]) ++ y)) ⟨#[32]⟩ w4 HB4.out (by simp [Lib.byteCells_length, ByteArray.size]; omega) hf4.size).mono ?_
  rintro e w5 ⟨rfl, hu5, hb5⟩
  have hf5 : Fr [] w w5 := hf4.below hb5 (Nat.le_refl _)
  have HB5 : Hid (Lib.IsBuilder 90 5 w.heap.size w.heap.size (Lib.byteCells (((([] ++ x) ++ [32]) ++ y) ++ [32])) w5) := Lib.hid (by have := hu5; rwa [show Lib.strCells ⟨#[32]⟩ = Lib.byteCells [32] from by simp [Lib.strCells, Lib.byteCells], ← Lib.byteCells_append] at this)
  clear hu5 hb5
  clear g2 HB4
  go_wp2_with fail
  refine (writeString_any w.heap.size w.heap.size (Lib.byteCells (((([] ++ x) ++ [32]) ++ y) ++ [32])) ⟨z.toArray⟩ w5 HB5.out (by simp [Lib.byteCells_length, ByteArray.size]; omega) hf5.size).mono ?_
  rintro e w6 ⟨rfl, hu6, hb6⟩
  have hf6 : Fr [] w w6 := hf5.below hb6 (Nat.le_refl _)
  have HB6 : Hid (Lib.IsBuilder 90 5 w.heap.size w.heap.size (Lib.byteCells ((((([] ++ x) ++ [32]) ++ y) ++ [32]) ++ z)) w6) := Lib.hid (by have := hu6; rwa [show Lib.strCells ⟨z.toArray⟩ = Lib.byteCells z from by simp [Lib.strCells, Lib.byteCells], ← Lib.byteCells_append] at this)
  clear hu6 hb6
  clear HB5
  go_wp2_with fail
  rw [rounds_succ]
  go_wp2_with fail
  refine (Tryz.Builder_String_any w.heap.size w.heap.size _ w6 HB6.out hf6.size).mono ?_
  rintro e w7 ⟨rfl, hb7⟩
  go_wp2_with fail
  go_ret
  exact ⟨by simp, (hf6.below hb7 (Nat.le_refl _)).toBelow (by simp)⟩
end Go.Proofs.YtjddngbgbbbefaaGreatDoor
