/-
  The variables ErrSyntax and ErrRange hold some error.
-/
import Derived.Test.YtnmakpiddfhhnaaGreatDoorPuX
namespace Go.Proofs.YtnmakpiddfhhnaaGreatDoor
open Go.RowKit
set_option maxRecDepth 100000

/-- Some error, or none. -/
def ErrCell (w : World) (g : Nat) : Prop := ∃ ev, w.cell? ⟨g, 0, none⟩ = some ev ∧ (ev = .nilIface ∨ ∃ te pe, ev = .iface te pe)
theorem ErrCell.fr {w w' : World} {g : Nat} (h : ErrCell w g) (hf : Fr [] w w') : ErrCell w' g := let ⟨ev, h1, h2⟩ := h; ⟨ev, hf.cell h1 (by simp), h2⟩
structure TabsG (w : World) : Prop where
  f : TabsF w
  s : ErrCell w 1
  r : ErrCell w 2
theorem TabsG.fr {w w' : World} (h : TabsG w) (hf : Fr [] w w') : TabsG w' := ⟨h.f.fr hf, h.s.fr hf, h.r.fr hf⟩
theorem errCell_of_reads {w : World} {n : String} {g : Nat} {d : DataW Unit} (hg : Tryz.prog.globalNamed n = some g) (ht : (Tryz.prog.globals[g]?).map (·.type) = some 53) (h : Lib.VarReads Tryz.prog w n d) : ErrCell w g := by
  obtain ⟨g', t, cs, fuel, p, h1, h2, h3, h4⟩ := h
  obtain rfl : g' = g := by rw [hg] at h1; exact (Option.some.inj h1).symm
  obtain rfl : t = 53 := by rw [ht] at h2; exact (Option.some.inj h2).symm
  have hc : ∃ ev, cs.toList = [ev] ∧ (ev = .nilIface ∨ ∃ te pe, ev = .iface te pe) := by
    cases fuel with
    | zero => simp [DataW.trod] at h4
    | succ f =>
      unfold DataW.trod at h4
      rw [Tryz.underlying53] at h4
      rcases hl : cs.toList with _ | ⟨v, _ | ⟨v2, r⟩⟩
      · rw [hl] at h4; simp at h4
      · rw [hl] at h4
        cases v with
        | nilIface => exact ⟨_, rfl, Or.inl rfl⟩
        | iface te pe => exact ⟨_, rfl, Or.inr ⟨_, _, rfl⟩⟩
        | _ => simp at h4
      · rw [hl] at h4; simp at h4
  obtain ⟨ev, hl, hev⟩ := hc
  refine ⟨ev, ?_, hev⟩
  unfold World.var? at h3
  simp only [hg, Option.bind_some] at h3
  have hcs : cs = #[ev] := by rw [← hl]
  subst hcs
  unfold World.cell?
  cases hh : w.heap[g']? with
  | none => rw [hh] at h3; cases h3
  | some o =>
    rw [hh] at h3
    cases o with
    | cells xs ty fz => simp at h3; simp [h3]
    | _ => simp at h3
theorem tabsG_of {w : World} {d1 d2 : DataW Unit} (hT : TabsF w) (h1 : Lib.VarReads Tryz.prog w "strconv.ErrSyntax" d1) (h2 : Lib.VarReads Tryz.prog w "strconv.ErrRange" d2) : TabsG w :=
  ⟨hT, errCell_of_reads (by kernel_rfl) (by kernel_rfl) h1, errCell_of_reads (by kernel_rfl) (by kernel_rfl) h2⟩

/-- strconv.Atoi of any string: some number, some error. -/
theorem atoiX_any (l : List UInt8) (w : World) (hl : l.length ≤ 1000000) (hT : TabsG w) :
    Calls Tryz.prog 30 #[.string ⟨l.toArray⟩] w fun e w' => ∃ (n : Int) (ev : Value), e = .returned (.tuple #[.int .i64 n, ev]) ∧ Below w.heap.size w w' := by
  have hs : (ByteArray.mk l.toArray).size ≤ 281474976710656 := by rw [ba_size]; omega
  cases h : Lib.atoiAll (ByteArray.mk l.toArray).data.toList with
  | ok v =>
    refine (Tryz.strconv_Atoi_ok _ (Nat.le_trans hs (by decide)) v h w).mono ?_
    rintro e w' ⟨rfl, rfl | ⟨t, rfl⟩⟩
    · exact ⟨v, _, rfl, Below.refl _ _⟩
    · exact ⟨v, _, rfl, Lib.bytesWorld_below _ _ _⟩
  | range =>
    obtain ⟨ev, h1, h2⟩ := hT.r
    refine (Tryz.strconv_Atoi_range _ hs h ev w h1 h2).mono ?_
    rintro e w' ⟨N, rfl, _, _, hb⟩
    exact ⟨_, _, rfl, hb⟩
  | _ =>
    obtain ⟨ev, h1, h2⟩ := hT.s
    refine (Any.strconv_Atoi_syntax Tryz.laysC172 _ hs h ev w h1 h2).mono ?_
    rintro e w' ⟨N, rfl, _, _, hb⟩
    exact ⟨_, _, rfl, hb⟩
/-- strconv.ParseUint (base 16) of any string: some number, some error. -/
theorem puXS_any (l : List UInt8) (w : World) (hl : l.length ≤ 1000000) (hT : TabsG w) :
    Calls Tryz.prog 31 #[.string ⟨l.toArray⟩, .int .i64 16, .int .i64 64] w fun e w' => ∃ (m : Nat) (ev : Value), m < 18446744073709551616 ∧ e = .returned (.tuple #[.int .u64 (m : Int), ev]) ∧ Below w.heap.size w w' := by
  have hs : (ByteArray.mk l.toArray).size ≤ 281474976710656 := by rw [ba_size]; omega
  have h0 := puX_any l w hl
  clear hl
  have HT := Lib.hid hT
  go_enter Tryz.func31, Tryz.ntmps31
  go_wp2_with fail
  refine h0.mono ?_
  rintro e w1 ⟨m, ev, hm, rfl, hev, hb1⟩
  rcases hev with rfl | ⟨k, rfl | rfl, rfl⟩
  · go_wp2_with fail
    go_ret2
    exact ⟨m, _, hm, rfl, hb1⟩
  · obtain ⟨ev, h1, h2⟩ := (HT.out.fr (Fr.ofBelow hb1)).r
    go_wp2_with fail
    refine (Tryz.strconv_toError_range _ _ _ _ ev w1 hs h1 h2).mono ?_
    rintro e w2 ⟨N, rfl, _, _, hb2⟩
    have hf := ((Fr.ofBelow (X := []) hb1).below hb2 (Fr.ofBelow (X := []) hb1).size).toBelow (by simp)
    clear h1 h2 hb1 hb2
    go_wp2_with fail
    go_ret2
    exact ⟨m, _, hm, rfl, hf⟩
  · obtain ⟨ev, h1, h2⟩ := (HT.out.fr (Fr.ofBelow hb1)).s
    go_wp2_with fail
    refine (Tryz.strconv_toError_syntax _ _ _ _ ev w1 hs h1 h2).mono ?_
    rintro e w2 ⟨N, rfl, _, _, hb2⟩
    have hf := ((Fr.ofBelow (X := []) hb1).below hb2 (Fr.ofBelow (X := []) hb1).size).toBelow (by simp)
    clear h1 h2 hb1 hb2
    go_wp2_with fail
    go_ret2
    exact ⟨m, _, hm, rfl, hf⟩
end Go.Proofs.YtnmakpiddfhhnaaGreatDoor
