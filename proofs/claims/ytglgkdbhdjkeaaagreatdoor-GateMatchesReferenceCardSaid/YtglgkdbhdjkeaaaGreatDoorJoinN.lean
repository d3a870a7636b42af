/-
  (*strings.Builder).Grow at a fresh builder; strings.Join of two strings or more, with spaces between them.
-/
import Derived.Test.YtglgkdbhdjkeaaaGreatDoorOwn
import Derived.Test.YtglgkdbhdjkeaaaGreatDoorPlnHv
import Derived.BigRegion
namespace Go.Proofs.YtglgkdbhdjkeaaaGreatDoor
open Go.RowKit Go.Shelf

set_option maxHeartbeats 4000000 in
set_option maxRecDepth 100000 in
theorem grow_fresh (B b n : Nat) (w : World) (hB : B ≤ b) (hbk : w.heap[b]? = some (.cells #[.pointer (some ⟨b, 0, none⟩), .slice none 0 0] 120 (0, 0))) (hBw : B ≤ w.heap.size) (hn : n ≤ 281474976710656) :
    Calls Tryz.prog 136 #[.pointer (some ⟨b, 0, none⟩), .int .i64 (n : Int)] w fun e w' => e = .returned (.tuple #[]) ∧ (Lib.BuilderAt 120 5 B b (.pointer (some ⟨b, 0, none⟩)) [] w' ∧ Below B w w') := by
  obtain ⟨i0, hi0, hz0, hz1, hz2⟩ := info_parts bInfoByte
  have hsz : ∀ W : World, (sizeOf 5).run Tryz.prog W = .ok 1 W := fun _ => by kernel_rfl
  obtain ⟨cs, hrun, hle, hmax⟩ := Lib.run_makeNoZero (P := Tryz.prog) w.drew #[3] 118 5 Tryz.underlying118 n hn
  have hw : IntKind.i64.wrap (IntKind.i64.wrap 0 + (n : Int)) = n := by
    rw [IntKind.wrap_i64, IntKind.wrap_i64]
    omega
  have hcall : (callFunc 154 #[.int .i64 (n : Int)]).run Tryz.prog w.drew = .ok (.value (.slice (some ⟨w.drew.heap.size, 0, none⟩) n cs.size)) (w.drew.drew.drew.alloc (.cells cs 5)) := by
    rw [run_callFunc_extern Tryz.func154 (by kernel_rfl) (by kernel_rfl) (by kernel_rfl) (e := Extern.BytealgMakeNoZero.makeNoZero #[3] #[118]) (by kernel_rfl), hrun]
    rfl
  have hcall2 : (callFunc 154 #[.int .i64 (IntKind.i64.wrap (IntKind.i64.wrap 0 + (n : Int)))]).run Tryz.prog w.drew = .ok (.value (.slice (some ⟨w.drew.heap.size, 0, none⟩) n cs.size)) (w.drew.drew.drew.alloc (.cells cs 5)) := by
    rw [hw]; exact hcall
  have hlt : b < w.heap.size := lt_of_block hbk
  have c1 : w.drew.cell? ⟨b, 1, none⟩ = some (.slice none 0 0) := by
    have : w.drew.heap[b]? = _ := hbk
    rw [Lib.cell_of_heap this]; rfl
  have c2 : (w.alloc (.cells cs 5)).cell? ⟨b, 1, none⟩ = some (.slice none 0 0) := by
    have : (w.alloc (.cells cs 5)).heap[b]? = _ := (Lib.alloc_old w _ b hlt).trans hbk
    rw [Lib.cell_of_heap this]; rfl
  have f2 : (w.alloc (.cells cs 5)).frozen? ⟨b, 1, none⟩ = false := Lib.frozen_of_heap ((Lib.alloc_old w _ b hlt).trans hbk) 1
  have hcopy : ∀ W : World, (Builtin.copy_ #[118, 118] 3 #[.slice (some ⟨w.heap.size, 0, none⟩) 0 cs.size, .slice none 0 0]).run Tryz.prog W = .ok (goInt 0) W :=
    fun W => run_copy_none W 118 118 3 5 _ _ 0 cs.size 0 0 Tryz.underlying118 (by kernel_rfl) rfl
  have hfin := Lib.grown_fresh (T := 120) (e := 5) (cs := cs) hB hbk hBw (hmax (by unfold maxLen; omega)) (by decide)
  have HF := Lib.hid hfin
  clear hw hfin hlt
  go_enter Tryz.func136, Tryz.ntmps136
  go_wp2
  go_region
  all_goals (go_wp2; go_end0; exact ⟨rfl, HF.out⟩)

set_option maxHeartbeats 4000000 in
set_option maxRecDepth 100000 in
theorem Grow_fresh (B b n : Nat) (w : World) (hB : B ≤ b) (hbk : w.heap[b]? = some (.cells #[.pointer none, .slice none 0 0] 120 (0, 0))) (hBw : B ≤ w.heap.size) (hn : n ≤ 281474976710656) :
    Calls Tryz.prog 106 #[.pointer (some ⟨b, 0, none⟩), .int .i64 (n : Int)] w fun e w' => e = .returned (.tuple #[]) ∧ (Lib.BuilderAt 120 5 B b (.pointer (some ⟨b, 0, none⟩)) [] w' ∧ Below B w w') := by
  have hbk1 : (w.setCell ⟨b, 0, none⟩ (.pointer (some ⟨b, 0, none⟩))).heap[b]? = some (.cells #[.pointer (some ⟨b, 0, none⟩), .slice none 0 0] 120 (0, 0)) := row_set hbk 0 _
  have c1 : (w.setCell ⟨b, 0, none⟩ (.pointer (some ⟨b, 0, none⟩))).cell? ⟨b, 1, none⟩ = some (.slice none 0 0) := by rw [Lib.cell_of_heap hbk1]; rfl
  have c1' : (w.setCell ⟨b, 0, none⟩ (.pointer (some ⟨b, 0, none⟩))).drew.cell? ⟨b, 1, none⟩ = some (.slice none 0 0) := c1
  have hb1 : Below B w (w.setCell ⟨b, 0, none⟩ (.pointer (some ⟨b, 0, none⟩))) := (Below.refl B w).setCell (p := ⟨b, 0, none⟩) hB _
  have hU : Lib.BuilderAt 120 5 B b (.pointer (some ⟨b, 0, none⟩)) [] (w.setCell ⟨b, 0, none⟩ (.pointer (some ⟨b, 0, none⟩))) := ⟨hB, .slice none 0 0, hbk1, World.ownsRow_nil _ _ _ _, by simp [Value.ownBlock]⟩
  have HU := Lib.hid hU
  have HBK := Lib.hid hbk
  have HBK1 := Lib.hid hbk1
  clear hU hbk hbk1
  go_enter Tryz.func106, Tryz.ntmps106
  go_wp2_with fail
  refine (copyCheck_fresh b w (by rw [Lib.cell_of_heap HBK.out]; rfl) (by simp [World.shape?, HBK.out]) (Lib.frozen_of_heap HBK.out 0)).mono ?_
  rintro e w' ⟨rfl, rfl⟩
  by_cases h0 : 0 < n
  · have t1 : decide ((n : Int) < 0) = false := by simp
    have t2 : decide ((0 : Int) < (n : Int)) = true := by simp; omega
    go_wp2_with fail
    go_region
    all_goals go_wp2_with fail
    all_goals
      refine (grow_fresh B b n (w.setCell ⟨b, 0, none⟩ (.pointer (some ⟨b, 0, none⟩))).drew hB HBK1.out (by simpa [World.setCell, World.drew, -World.drew_eq] using hBw) hn).mono ?_
      rintro e w' ⟨rfl, h1, h2⟩
      go_wp2_with fail
      go_end0
      exact ⟨rfl, h1, hb1.drew.trans h2⟩
  · obtain rfl : n = 0 := by omega
    go_wp2_with fail
    go_region
    all_goals go_wp2_with fail
    all_goals go_end0
    all_goals exact ⟨rfl, HU.out.drew, hb1.drew⟩

theorem lens_le : ∀ (l : List (List UInt8)) (B : Nat), (∀ w ∈ l, w.length ≤ B) → Lib.lens l ≤ l.length * B
  | [], B, _ => by simp [Lib.lens]
  | w :: l, B, h => by
    have h1 := lens_le l B (fun x hx => h x (by simp [hx]))
    have h2 := h w (by simp)
    have h3 : Lib.lens (w :: l) = w.length + Lib.lens l := by simp [Lib.lens]
    rw [List.length_cons, Nat.add_mul, Nat.one_mul]
    omega
theorem spS_lens : ∀ (l : List (List UInt8)), l ≠ [] → (spS l).length + 1 = l.length + Lib.lens l
  | [], h => absurd rfl h
  | [w], _ => by simp [spS, Lib.lens]; omega
  | w :: v :: ws, _ => by
    have h1 := spS_lens (v :: ws) (by simp)
    have h2 : (spS (w :: v :: ws)).length = w.length + 1 + (spS (v :: ws)).length := by
      show (w ++ 32 :: spS (v :: ws)).length = _
      rw [List.length_append, List.length_cons]; omega
    have h3 : Lib.lens (w :: v :: ws) = w.length + Lib.lens (v :: ws) := by simp [Lib.lens]
    rw [List.length_cons]
    omega
set_option maxHeartbeats 8000000 in
set_option maxRecDepth 100000 in
/-- strings.Join of two strings or more, with spaces between them. -/
theorem joinN_any (b off cap : Nat) (l : List (List UInt8)) (w : World) (hl2 : 2 ≤ l.length) (hcap : l.length ≤ cap) (hcap9 : cap ≤ 9223372036854775807) (hl9 : l.length ≤ 1000000) (hlen : l.length + Lib.lens l ≤ 100000000) (hs : Strs w (.slice (some ⟨b, off, none⟩) l.length cap) l) :
    Calls Tryz.prog 84 #[.slice (some ⟨b, off, none⟩) l.length cap, .string ⟨#[32]⟩] w fun e w' => e = .returned (.string ⟨(spS l).toArray⟩) ∧ Below w.heap.size w w' := by
  have HS := Lib.hid hs
  clear hs
  have c0 := HS.out.cell 0 (by omega)
  obtain ⟨x0, hx0⟩ : ∃ x0, x0 = l.getD 0 [] := ⟨_, rfl⟩
  rw [← hx0, Nat.add_zero] at c0
  have hsx0 : (ByteArray.mk x0.toArray).size = x0.length := ba_size x0
  have HX0 : Hid (spS (l.take 1) = x0) := Lib.hid (by
    rw [take_snoc' l 0 [] (by omega), ← hx0]; rfl)
  have hx0l : x0.length ≤ Lib.lens l := by
    have := Lib.lens_take_le l 1
    have h1 := Lib.lens_take_succ l 0 (l.getD 0 []) (by rw [List.getD_eq_getElem?_getD, List.getElem?_eq_getElem (show 0 < l.length by omega)]; rfl)
    rw [Nat.zero_add, ← hx0] at h1
    omega
  obtain ⟨n1, hn1⟩ : ∃ n1 : Nat, l.length = n1 + 1 := ⟨l.length - 1, by omega⟩
  have HN1 := Lib.hid hn1
  have e1 : (l.length : Int) - 1 = (n1 : Int) := by omega
  have e2 : IntKind.i64.wrap (n1 : Int) = (n1 : Int) := IntWalk.i64_in _ (by omega)
  have e3 : ((l.length : Int) == 0) = false := by rw [beq_eq_false_iff_ne]; omega
  have e4 : ((l.length : Int) == 1) = false := by rw [beq_eq_false_iff_ne]; omega
  have e5 : (1 : Int) < 9223372036854775807 / (n1 : Int) := by
    have : (9223372036854775807 : Int) / (n1 : Int) = ((9223372036854775807 / n1 : Nat) : Int) := by rw [Int.natCast_ediv]; rfl
    rw [this]
    have h2 : 9223372036854775807 / 1000000 ≤ 9223372036854775807 / n1 := Nat.div_le_div_left (by omega) (by omega)
    generalize 9223372036854775807 / n1 = Z at h2 ⊢
    rw [show 9223372036854775807 / 1000000 = 9223372036854 by decide] at h2
    omega
  obtain ⟨qq, eqq, eqt⟩ : ∃ qq : Int, 9223372036854775807 / (n1 : Int) = qq ∧ (9223372036854775807 : Int).tdiv (n1 : Int) = qq := ⟨_, rfl, Int.tdiv_eq_ediv_of_nonneg (by decide)⟩
  rw [eqq] at e5
  have e6 : decide ((1 : Int) ≥ qq) = false := decide_eq_false (by omega)
  have e7 : decide (qq ≤ (1 : Int)) = false := decide_eq_false (by omega)
  have e8 : IntKind.i64.wrap qq = qq := by
    refine IntWalk.i64_in _ ?_
    have : (9223372036854775807 : Int) / (n1 : Int) = ((9223372036854775807 / n1 : Nat) : Int) := by rw [Int.natCast_ediv]; rfl
    have h2 := Nat.div_le_self 9223372036854775807 n1
    omega
  have e9 : ¬ ((n1 : Int) = 0) := by omega
  have e10 : ((n1 : Int) == 0) = false := by rw [beq_eq_false_iff_ne]; omega
  have hn1b : n1 ≤ 1000000 := by omega
  clear hx0 hn1 eqq
  go_enter Tryz.func84, Tryz.ntmps84
  go_wp2_with fail
  go_loopg [5, 41] l.length (fun gh n i wr => ∃ k : Nat, k ≤ l.length ∧ gh = l.length - k ∧ i = .int .i64 (k : Int) ∧ n = .int .i64 ((n1 + Lib.lens (l.take k) : Nat) : Int) ∧ w = wr)
  case atStart => exact ⟨0, by omega, by omega, rfl, by simp [Lib.lens], rfl⟩
  case round =>
    obtain ⟨k, hk, hgh, rfl, rfl, rfl⟩ := hrel
    have HG := Lib.hid hgh
    clear hgh
    by_cases hlt : k < l.length
    · have t1 : decide ((k : Int) < (l.length : Int)) = true := by simp; omega
      have ck := HS.out.cell k hlt
      have hsucc := Lib.lens_take_succ l k (l.getD k []) (by rw [List.getD_eq_getElem?_getD, List.getElem?_eq_getElem hlt]; rfl)
      have htl := Lib.lens_take_le l (k + 1)
      generalize l.getD k [] = x at ck hsucc
      have hsx : (ByteArray.mk x.toArray).size = x.length := ba_size x
      have HSU : Hid (n1 + Lib.lens (l.take (k + 1)) = (n1 + Lib.lens (l.take k)) + x.length) := Lib.hid (by omega)
      have hNN : n1 + Lib.lens (l.take k) + x.length ≤ 100000000 := by have := HN1.out; omega
      clear hsucc htl
      generalize n1 + Lib.lens (l.take k) = N at HSU hNN ⊢
      have w1 : IntKind.i64.wrap (9223372036854775807 - (N : Int)) = 9223372036854775807 - (N : Int) := IntWalk.i64_in _ (by omega)
      have w2 : IntKind.i64.wrap ((N : Int) + (x.length : Int)) = (N : Int) + (x.length : Int) := IntWalk.i64_in _ (by omega)
      have t2 : decide (9223372036854775807 - (N : Int) < (x.length : Int)) = false := decide_eq_false (by omega)
      have i0 : (0 : Int) ≤ (k : Int) := by omega
      have i1 : (k : Int) < (l.length : Int) := by omega
      go_wp2_with fail
      go_roundg (l.length - (k + 1))
      case measure => have := HG.out; omega
      case rel => exact ⟨k + 1, by omega, rfl, by go_num, by rw [HSU.out]; go_num, rfl⟩
    · obtain rfl : k = l.length := by omega
      have t1 : decide ((l.length : Int) < (l.length : Int)) = false := by simp
      rw [List.take_length]
      obtain ⟨N, hN, hN9⟩ : ∃ N, n1 + Lib.lens l = N ∧ N ≤ 100000000 := ⟨_, rfl, by have := HN1.out; omega⟩
      rw [hN]
      have HNN := Lib.hid hN
      clear hN
      go_wp2_with fail
      clear e1 e2 e3 e4 e5 e6 e7 e8 e9 e10 eqt
      refine (Grow_fresh w.heap.size w.heap.size N _ (Nat.le_refl _) (heap_new rfl) (by simp) (by omega)).mono ?_
      rintro e w1 ⟨rfl, hu1, hb1⟩
      have hf1 : Fr [] w w1 := ((Fr.refl [] w).alloc (.cells #[.pointer none, .slice none 0 0] 120)).below hb1 (Nat.le_refl _)
      have HB1 : Hid (Lib.IsBuilder 120 5 w.heap.size w.heap.size (Lib.byteCells []) w1) := Lib.hid (Or.inr hu1)
      have d0 := hf1.cell c0 (by simp)
      clear hu1 hb1 c0
      go_wp2_with fail
      refine (writeString_any w.heap.size w.heap.size (Lib.byteCells []) ⟨x0.toArray⟩ w1 HB1.out (by simp [Lib.byteCells_length, ByteArray.size]; omega) hf1.size).mono ?_
      rintro e w2 ⟨rfl, hu2, hb2⟩
      have hf2 : Fr [] w w2 := hf1.below hb2 (Nat.le_refl _)
      have HB2 : Hid (Lib.IsBuilder 120 5 w.heap.size w.heap.size (Lib.byteCells (spS (l.take 1))) w2) := Lib.hid (by rw [HX0.out]; have := hu2; rwa [show Lib.strCells ⟨x0.toArray⟩ = Lib.byteCells x0 from by simp [Lib.strCells, Lib.byteCells], ← Lib.byteCells_append, List.nil_append] at this)
      clear hu2 hb2 d0 HB1
      have hc1 : ¬ (cap = 1) := by omega
      have hc2 : ¬ (cap ≤ 1) := by omega
      have hc3 : (1 : Int) ≤ (cap : Int) := by omega
      have hc4 : (1 : Int) ≤ (l.length : Int) := by omega
      have hc5 : l.length - 1 = n1 := by have := HN1.out; omega
      go_wp2_with fail
      have HC5 := Lib.hid hc5
      clear hc5
      go_loopg [65] n1 (fun gh i wr => ∃ k : Nat, k ≤ n1 ∧ gh = n1 - k ∧ i = .int .i64 (k : Int) ∧ Lib.IsBuilder 120 5 w.heap.size w.heap.size (Lib.byteCells (spS (l.take (k + 1)))) wr ∧ Fr [] w wr)
      case atStart => exact ⟨0, by omega, by omega, rfl, HB2.out, hf2⟩
      case round =>
        obtain ⟨k, hk, hgh, rfl, hbk, hfr⟩ := hrel
        have HG := Lib.hid hgh
        have HBK := Lib.hid hbk
        clear hgh hbk HB2 hf2 hf1
        have hln : l.length = n1 + 1 := HN1.out
        by_cases hlt : k < n1
        · have t1 : decide ((k : Int) < (n1 : Int)) = true := decide_eq_true (by omega)
          have ck := hfr.cell (HS.out.cell (k + 1) (by omega)) (by simp)
          have HSN : Hid (spS (l.take (k + 1 + 1)) = (spS (l.take (k + 1)) ++ [32]) ++ l.getD (k + 1) []) := Lib.hid (by
            rw [take_snoc' l (k + 1) [] (by omega), spS_snoc _ _ (by rw [Ne, ← List.length_eq_zero_iff, List.length_take]; omega), List.append_assoc]; rfl)
          have hbound : (spS (l.take (k + 1 + 1))).length ≤ 100000000 := by
            have h1 := spS_lens (l.take (k + 1 + 1)) (by rw [Ne, ← List.length_eq_zero_iff, List.length_take]; omega)
            have h2 := Lib.lens_take_le l (k + 1 + 1)
            rw [List.length_take] at h1
            omega
          rw [HSN.out, List.length_append, List.length_append, List.length_singleton] at hbound
          rw [show off + (k + 1) = off + 1 + k by omega] at ck
          generalize l.getD (k + 1) [] = x at ck HSN hbound
          generalize spS (l.take (k + 1)) = pre at HBK HSN hbound
          have hsx : (ByteArray.mk x.toArray).size = x.length := ba_size x
          have i0 : (0 : Int) ≤ (k : Int) := by omega
          have i1 : (k : Int) < (n1 : Int) := by omega
          have HLN := Lib.hid hln
          clear hln
          go_wp2_with fail
          refine (writeString_any w.heap.size w.heap.size (Lib.byteCells pre) ⟨#[32]⟩ wr HBK.out (by simp [Lib.byteCells_length, ByteArray.size]; omega) hfr.size).mono ?_
          rintro e w3 ⟨rfl, hu3, hb3⟩
          have hf3 : Fr [] w w3 := hfr.below hb3 (Nat.le_refl _)
          have HB3 : Hid (Lib.IsBuilder 120 5 w.heap.size w.heap.size (Lib.byteCells (pre ++ [32])) w3) := Lib.hid (by have := hu3; rwa [show Lib.strCells ⟨#[32]⟩ = Lib.byteCells [32] from by simp [Lib.strCells, Lib.byteCells], ← Lib.byteCells_append] at this)
          clear hu3 hb3 ck
          go_wp2_with fail
          refine (writeString_any w.heap.size w.heap.size (Lib.byteCells (pre ++ [32])) ⟨x.toArray⟩ w3 HB3.out (by simp [Lib.byteCells_length, ByteArray.size]; omega) hf3.size).mono ?_
          rintro e w4 ⟨rfl, hu4, hb4⟩
          have hf4 : Fr [] w w4 := hf3.below hb4 (Nat.le_refl _)
          have HB4 : Hid (Lib.IsBuilder 120 5 w.heap.size w.heap.size (Lib.byteCells ((pre ++ [32]) ++ x)) w4) := Lib.hid (by have := hu4; rwa [show Lib.strCells ⟨x.toArray⟩ = Lib.byteCells x from by simp [Lib.strCells, Lib.byteCells], ← Lib.byteCells_append] at this)
          clear hu4 hb4
          go_wp2_with fail
          go_roundg (n1 - (k + 1))
          case measure => have := HG.out; omega
          case rel => exact ⟨k + 1, by omega, rfl, by go_num, by rw [HSN.out]; exact HB4.out, hf4⟩
        · obtain rfl : k = n1 := by omega
          have t1 : decide ((k : Int) < (k : Int)) = false := by simp
          have HE : Hid (spS (l.take (k + 1)) = spS l) := Lib.hid (by rw [List.take_of_length_le (by rw [hln]; exact Nat.le_refl _)])
          rw [HE.out] at HBK
          have HLN := Lib.hid hln
          clear hln
          go_wp2_with fail
          refine (Tryz.Builder_String_any w.heap.size w.heap.size _ wr HBK.out hfr.size).mono ?_
          rintro e w7 ⟨rfl, hb7⟩
          go_wp2_with fail
          go_ret
          exact ⟨rfl, (hfr.below hb7 (Nat.le_refl _)).toBelow (by simp)⟩
end Go.Proofs.YtglgkdbhdjkeaaaGreatDoor
