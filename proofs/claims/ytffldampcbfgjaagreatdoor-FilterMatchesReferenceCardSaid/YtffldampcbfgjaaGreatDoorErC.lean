/-
  A variable that holds some error.
-/
import Derived.Test.YtffldampcbfgjaaGreatDoorTab
namespace Go.Proofs.YtffldampcbfgjaaGreatDoor
open Go.RowKit
set_option maxRecDepth 100000

/-- Some error, or none. -/
def ErrCell (w : World) (g : Nat) : Prop := ∃ ev, w.cell? ⟨g, 0, none⟩ = some ev ∧ (ev = .nilIface ∨ ∃ te pe, ev = .iface te pe)
theorem ErrCell.fr {w w' : World} {g : Nat} (h : ErrCell w g) (hf : Fr [] w w') : ErrCell w' g := let ⟨ev, h1, h2⟩ := h; ⟨ev, hf.cell h1 (by simp), h2⟩
theorem errCell_of_reads {w : World} {n : String} {g : Nat} {d : DataW Unit} (hg : Tryz.prog.globalNamed n = some g) (ht : (Tryz.prog.globals[g]?).map (·.type) = some 84) (h : Lib.VarReads Tryz.prog w n d) : ErrCell w g := by
  obtain ⟨g', t, cs, fuel, p, h1, h2, h3, h4⟩ := h
  obtain rfl : g' = g := by rw [hg] at h1; exact (Option.some.inj h1).symm
  obtain rfl : t = 84 := by rw [ht] at h2; exact (Option.some.inj h2).symm
  have hc : ∃ ev, cs.toList = [ev] ∧ (ev = .nilIface ∨ ∃ te pe, ev = .iface te pe) := by
    cases fuel with
    | zero => simp [DataW.trod] at h4
    | succ f =>
      unfold DataW.trod at h4
      rw [Tryz.underlying84] at h4
      rcases hl : cs.toList with _ | ⟨v, _ | ⟨v2, r⟩⟩
      · rw [hl] at h4; simp at h4
      · rw [hl] at h4
        cases v with
        | nilIface => exact ⟨_, rfl, Or.inl rfl⟩
        | iface te pe => exact ⟨_, rfl, Or.inr ⟨_, _, rfl⟩⟩
        | _ => simp at h4
      · rw [hl] at h4; simp at h4
  obtain ⟨ev, hl, hev⟩ := hc
  refine ⟨ev, ?_, hev⟩
  unfold World.var? at h3
  simp only [hg, Option.bind_some] at h3
  have hcs : cs = #[ev] := by rw [← hl]
  subst hcs
  unfold World.cell?
  cases hh : w.heap[g']? with
  | none => rw [hh] at h3; cases h3
  | some o =>
    rw [hh] at h3
    cases o with
    | cells xs ty fz => simp at h3; simp [h3]
    | _ => simp at h3
end Go.Proofs.YtffldampcbfgjaaGreatDoor
