/-
  Plain laws for GateAlternates: what the scans of a log are like, and what the maps of the law hold.
-/
import Derived.Test.YtglgkdbhdjkeaaaGreatDoorOps
import Derived.Test.YtglgkdbhdjkeaaaGreatDoorPlnGa
namespace Go.Proofs.YtglgkdbhdjkeaaaGreatDoor
open Go.RowKit

/-- The scans of a log have serial numbers of Go and short owners. -/
def LogN (log : List Scn) : Prop := ∀ s ∈ log, isI s.serial ∧ s.owner.length ≤ 100000
theorem LogN.nil : LogN [] := fun s hs => by cases hs
theorem insR_mem (k : Int) (ow : List UInt8) : ∀ log : List Scn, insR log k = some ow → ∃ s ∈ log, s.owner = ow := by
  intro log
  induction hn : log.length generalizing log with
  | zero =>
    intro h
    rw [List.length_eq_zero_iff.1 hn] at h
    cases h
  | succ n ih =>
    intro h
    obtain ⟨l, s, rfl⟩ : ∃ l s, log = l ++ [s] := ⟨log.dropLast, log.getLast (by intro e; rw [e] at hn; cases hn), (List.dropLast_concat_getLast _).symm⟩
    rw [insR_snoc] at h
    unfold insS at h
    have ih' := ih l (by simpa using hn)
    split at h
    · split at h
      · exact ⟨s, by simp, by cases h; rfl⟩
      · split at h
        · cases h
        · obtain ⟨x, hx, e⟩ := ih' h
          exact ⟨x, by simp [hx], e⟩
    · obtain ⟨x, hx, e⟩ := ih' h
      exact ⟨x, by simp [hx], e⟩
theorem LogN.done {g : Gst} (h : LogN g.log) {o : GOp} (ho : OpS o) : LogN (doG g o).1.log := by
  have hp : ∀ k s ow now, isI s → ow.length ≤ 100000 → LogN (putG g k s ow now).log := by
    intro k s ow now h1 h2 x hx
    unfold putG at hx
    simp only [List.mem_append, List.mem_singleton] at hx
    rcases hx with hx | rfl
    · exact h x hx
    · exact ⟨h1, h2⟩
  by_cases he : (doG g o).2.2 = 0
  · by_cases hr : o.kind % 4 = 0
    · obtain ⟨_, _, _, _, h5⟩ := scan_ok hr he
      rw [h5]
      exact hp _ _ _ _ ho.t.s (ownerT_small ho.st)
    by_cases hr1 : o.kind % 4 = 1
    · obtain ⟨ow, h0, _, _, h5⟩ := leave_ok hr1 he
      rw [h5]
      obtain ⟨x, hx, rfl⟩ := insR_mem _ _ _ h0
      exact hp _ _ _ _ ho.s (h x hx).2
    · obtain ⟨_, _, _, h5⟩ := sync_ok (by omega) he
      rw [h5]
      exact h
  · rw [(do_bad he).1]
    exact h
/-- The next step of who is inside. -/
theorem ins_next {log : List Scn} {i : Nat} {s : Scn} (h : log[i]? = some s) (k : Int) : insR (log.take (i + 1)) k = insS k (insR (log.take i) k) s := by
  rw [List.take_add_one, h]
  exact insR_snoc _ _ _
end Go.Proofs.YtglgkdbhdjkeaaaGreatDoor
