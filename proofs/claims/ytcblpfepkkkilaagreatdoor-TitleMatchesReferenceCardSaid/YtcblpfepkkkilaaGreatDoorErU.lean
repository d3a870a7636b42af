/-
  The variables that title.Parse reads; strconv.Atoi and strings.Split there.
-/
import Derived.Test.YtcblpfepkkkilaaGreatDoorErC
import Derived.Test.YtcblpfepkkkilaaGreatDoorOwn
import Derived.Test.YtcblpfepkkkilaaGreatDoorPlnNm
import Derived.Test.YtcblpfepkkkilaaGreatDoorPlnSq
import Derived.Lib.AtoiAllCases
namespace Go.Proofs.YtcblpfepkkkilaaGreatDoor
open Go.RowKit
set_option maxRecDepth 100000

structure TabsU (w : World) : Prop where
  t : Tabs w
  m : ∃ m, w.cell? ⟨3, 0, none⟩ = some (.int .i64 m)
  s : ErrCell w 1
  r : ErrCell w 2
theorem TabsU.fr {w w' : World} (h : TabsU w) (hf : Fr [] w w') : TabsU w' := ⟨h.t.fr hf, let ⟨m, hm⟩ := h.m; ⟨m, hf.cell hm (by simp)⟩, h.s.fr hf, h.r.fr hf⟩
theorem tabsU_of {w : World} {d1 d2 : DataW Unit} (hT : Tabs w) (h : w.ShapedOpen Tryz.prog) (h1 : Lib.VarReads Tryz.prog w "strconv.ErrSyntax" d1) (h2 : Lib.VarReads Tryz.prog w "strconv.ErrRange" d2) : TabsU w :=
  ⟨hT, Go.Proofs.cell_of_shapedOpen_int (zero := #[.int .i64 0]) (t := 3) h (of_decide_eq_true (by kernel_rfl)) (by kernel_rfl) rfl (by kernel_rfl) (by kernel_rfl) Tryz.underlying3, errCell_of_reads (by kernel_rfl) (by kernel_rfl) h1, errCell_of_reads (by kernel_rfl) (by kernel_rfl) h2⟩
/-- strconv.Atoi of any string: the number of a numeral, or some number. -/
theorem atoiU_any (l : List UInt8) (w : World) (hl : l.length ≤ 1000000) (hT : TabsU w) :
    Calls Tryz.prog 43 #[.string ⟨l.toArray⟩] w fun e w' => ∃ (n : Int) (ev : Value), e = .returned (.tuple #[.int .i64 n, ev]) ∧ (-9223372036854775808 ≤ n ∧ n ≤ 9223372036854775807) ∧ (∀ m : Int, -1000000000000000000 < m → m < 1000000000000000000 → l = Lib.itoa m → n = m) ∧ Below w.heap.size w w' := by
  have hs : (ByteArray.mk l.toArray).size ≤ 281474976710656 := by rw [ba_size]; omega
  cases h : Lib.atoiAll (ByteArray.mk l.toArray).data.toList with
  | ok v =>
    have hv : ∀ m : Int, -1000000000000000000 < m → m < 1000000000000000000 → l = Lib.itoa m → v = m := fun m h1 h2 e => by
      have h3 : Lib.atoiAll l = .ok v := h
      rw [e, atoi_itoa m h1 h2] at h3
      cases h3; rfl
    have hr : -9223372036854775808 ≤ v ∧ v ≤ 9223372036854775807 := Lib.atoiAll_bounds h
    refine (Tryz.strconv_Atoi_ok _ (Nat.le_trans hs (by decide)) v h w).mono ?_
    rintro e w' ⟨rfl, rfl | ⟨t, rfl⟩⟩
    · exact ⟨v, _, rfl, hr, hv, Below.refl _ _⟩
    · exact ⟨v, _, rfl, hr, hv, Lib.bytesWorld_below _ _ _⟩
  | range =>
    obtain ⟨ev, h1, h2⟩ := hT.r
    refine (Tryz.strconv_Atoi_range _ hs h ev w h1 h2).mono ?_
    rintro e w' ⟨N, rfl, _, _, hb⟩
    refine ⟨_, _, rfl, Lib.atoiSat_bounds _, fun m h3 h4 e => ?_, hb⟩
    have h5 : Lib.atoiAll l = .range := h
    rw [e, atoi_itoa m h3 h4] at h5
    cases h5
  | _ =>
    obtain ⟨ev, h1, h2⟩ := hT.s
    refine (Any.strconv_Atoi_syntax Tryz.laysC172 _ hs h ev w h1 h2).mono ?_
    rintro e w' ⟨N, rfl, _, _, hb⟩
    refine ⟨_, _, rfl, by omega, fun m h3 h4 e => ?_, hb⟩
    have h5 : Lib.atoiAll l = _ := h
    rw [e, atoi_itoa m h3 h4] at h5
    cases h5
theorem splitU_any (text : List UInt8) (w : World) (ht : text.length ≤ 1000000) (hT : TabsU w) :
    Calls Tryz.prog 40 #[.string ⟨text.toArray⟩, .string ⟨#[32]⟩] w fun e w' => e = .returned (.slice (some ⟨w.heap.size, 0, none⟩) (splitS text).length (splitS text).length) ∧ w' = w.alloc (.cells ((splitS text).map strV).toArray 9) := by
  obtain ⟨m, hm⟩ := hT.m
  refine (Tryz.strings_Split ⟨text.toArray⟩ ⟨#[32]⟩ m w (by rw [ba_size]; omega) hm (by decide)).mono ?_
  rintro e w' ⟨rfl, rfl⟩
  have h1 := split_lib text
  have h2 : ((Lib.splitB ⟨#[32]⟩ 0 (Lib.countB ⟨text.toArray⟩ ⟨#[32]⟩) ⟨text.toArray⟩).map Value.string) = (splitS text).map strV := by
    rw [← h1, List.map_map]
    refine List.map_congr_left (fun x _ => ?_)
    show _ = Value.string ⟨x.data.toList.toArray⟩
    simp
  have h3 : (Lib.countB ⟨text.toArray⟩ ⟨#[32]⟩) + 1 = (splitS text).length := by
    rw [← h1, List.length_map]
    exact (Lib.splitB_all ⟨#[32]⟩ (by decide) 0 _ _ rfl).symm
  rw [h2, h3]
  exact ⟨rfl, rfl⟩
theorem strsU_map {w : World} {b : Nat} {l : List (List UInt8)} (h : w.heap[b]? = some (.cells (l.map strV).toArray 9 (0, 0))) (hl : l.length ≤ 1000000) : Strs w (.slice (some ⟨b, 0, none⟩) l.length l.length) l := by
  refine Or.inr ⟨b, 0, l.length, rfl, Nat.le_refl _, by omega, lt_of_block h, fun i hi => ?_⟩
  rw [row_cell h, Nat.zero_add, List.getElem?_toArray, List.getElem?_map, List.getElem?_eq_getElem hi, List.getD_eq_getElem?_getD, List.getElem?_eq_getElem hi]
  rfl
end Go.Proofs.YtcblpfepkkkilaaGreatDoor
