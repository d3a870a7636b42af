/-
  Published records that a statement hands in.
-/
import Derived.Test.YtcohghaanakiiaaGreatDoorTabP
import Derived.Test.YtcohghaanakiiaaGreatDoorTabY
import Derived.Test.YtcohghaanakiiaaGreatDoorAuE
import Derived.Deep.Slices
import Derived.Lib.SmallJoins
namespace Go.Proofs.YtcohghaanakiiaaGreatDoor
open Go.RowKit Go.ChangeShapes Go.WideShapes Go.ChangeAt Go.ChangeMaps Go.Deep
set_option maxRecDepth 100000

theorem array5P {α : Type} {cs : Array α} (h : cs.size = 5) : ∃ c0 c1 c2 c3 c4, cs = #[c0, c1, c2, c3, c4] := by
  obtain ⟨l⟩ := cs
  match l, h with
  | [c0, c1, c2, c3, c4], _ => exact ⟨c0, c1, c2, c3, c4, rfl⟩
theorem pblCells : Tryz.prog.cellTypes Tryz.prog.depth 26 = some [22, 9, 23, 24, 24] := by kernel_rfl
theorem pbl_of_trod {H : Type} {enc : TypeId × Value → H} {W : World} {base : Nat} {v : Value} {d : DataW H} {p : List MemPlace} (hval : Value.okWide Tryz.prog W .any base 26 v)
    (h : DataW.Trod enc Tryz.prog W 0 (fun _ => true) true 26 v d p) :
    ∃ x : Pbl, PblR W v x ∧ (∀ z ∈ x.order, inI z) ∧ ∀ z ∈ x.served, inI z := by
  have hval0 := hval
  obtain ⟨cs0, rfl, hsz⟩ := okWide_struct Tryz.underlying26 hval
  have hC : Tryz.prog.cellsOf 26 = 5 := by kernel_rfl
  obtain ⟨c0, c1, c2, c3, c4, rfl⟩ := array5P (hsz.trans hC)
  obtain ⟨fuel, hf⟩ := h
  obtain ⟨xs, n, _, _, _, hlen, h⟩ := DataW.trod_struct Tryz.underlying26 hf
  unfold Value.okWide at hval0
  rw [Tryz.underlying26] at hval0
  obtain ⟨cs, hcs, _, ts, hts, _, hall⟩ := hval0
  rw [pblCells] at hts
  cases hts
  cases hcs
  have e0 : Value.okWide Tryz.prog W .any base 22 c0 := by
    obtain ⟨u, hu, h1⟩ := hall 0 c0 rfl
    cases hu
    unfold Value.okWide
    rw [Tryz.underlying22]
    exact h1
  have e2 : Value.okWide Tryz.prog W .any base 23 c2 := by
    obtain ⟨u, hu, h1⟩ := hall 2 c2 rfl
    cases hu
    unfold Value.okWide
    rw [Tryz.underlying23]
    exact h1
  have k3 : Cell.ok Tryz.prog W .any base 24 c3 := by
    obtain ⟨u, hu, h1⟩ := hall 3 c3 rfl
    cases hu
    simpa only [Cell.okWide, Tryz.underlying24] using h1
  have k4 : Cell.ok Tryz.prog W .any base 24 c4 := by
    obtain ⟨u, hu, h1⟩ := hall 4 c4 rfl
    cases hu
    simpa only [Cell.okWide, Tryz.underlying24] using h1
  match xs, hlen with
  | [y0, y1, y2, y3, y4], _ =>
    have g0 := h 0 _ rfl
    have g1 := h 1 _ rfl
    have g2 := h 2 _ rfl
    have g3 := h 3 _ rfl
    have g4 := h 4 _ rfl
    have q1 : Tryz.prog.cellsOf 24 = 1 := by kernel_rfl
    have q2 : Tryz.prog.cellsOf 9 = 1 := by kernel_rfl
    have q3 : Tryz.prog.cellsOf 22 = 1 := by kernel_rfl
    have q4 : Tryz.prog.cellsOf 23 = 1 := by kernel_rfl
    simp [q1, q2, q3, q4] at g0 g1 g2 g3 g4
    obtain ⟨s1, e1, _⟩ := DataW.trod_string Tryz.underlying9 g1
    obtain rfl := (List.cons.inj e1).1
    obtain ⟨a0, n0, p0, rfl⟩ := okWide_slice Tryz.underlying22 e0
    obtain ⟨a2, n2, p2, rfl⟩ := okWide_slice Tryz.underlying23 e2
    obtain ⟨l0, h0⟩ := ens_of_trod e0 ⟨_, g0⟩
    obtain ⟨l2, h2⟩ := pts_of_trod e2 ⟨_, g2⟩
    obtain ⟨l3, h3, r3⟩ := zs_of_ok k3 g3
    obtain ⟨l4, h4, r4⟩ := zs_of_ok k4 g4
    exact ⟨⟨l0, s1.data.toList, l2, l3, l4⟩, ⟨_, _, _, _, by rw [str_mk s1], h0, h2, h3, h4⟩, fun z hz => by have := r3 z hz; unfold inI; omega, fun z hz => by have := r4 z hz; unfold inI; omega⟩
end Go.Proofs.YtcohghaanakiiaaGreatDoor
