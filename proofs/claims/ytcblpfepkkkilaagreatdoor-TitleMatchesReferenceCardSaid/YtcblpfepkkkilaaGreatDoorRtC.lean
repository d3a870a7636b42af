/-
  foyerref30.Cut.
-/
import Derived.Test.YtcblpfepkkkilaaGreatDoorTtI
namespace Go.Proofs.YtcblpfepkkkilaaGreatDoor
open Go.RowKit

set_option maxRecDepth 100000 in
set_option maxHeartbeats 2000000 in
theorem rcut30_any (v : Value) (t : Ttl) (k : Nat) (w : World) (hv : TtlR w v t) (hk : k ≤ t.chain.length) :
    Calls Tryz.prog 53 #[v, .int .i64 (k : Nat)] w fun e w' => (∃ v', e = .returned v' ∧ TtlR w' v' (cutT t k)) ∧ Below w.heap.size w w' := by
  obtain ⟨cv, rfl, hc⟩ := hv
  obtain ⟨a, cap, rfl, hlc, hcap, ha⟩ := hc.form
  obtain ⟨W0, hW0⟩ : ∃ W0, W0 = (w.alloc (.cells #[.int .i64 t.serial, .int .i64 t.shw, .int .i64 t.place, .string ⟨t.first.toArray⟩, .slice a t.chain.length cap] 24)).alloc (.cells #[.int .i64 0, .int .i64 0, .int .i64 0, .string ⟨#[]⟩, .slice none 0 0] 24) := ⟨_, rfl⟩
  obtain ⟨p, ep⟩ : ∃ p, p = w.heap.size := ⟨_, rfl⟩
  have h0 : Fr [] w W0 := by rw [hW0]; exact ((Fr.refl [] w).alloc _).alloc _
  have hq0 : W0.heap[p]? = some (.cells #[.int .i64 t.serial, .int .i64 t.shw, .int .i64 t.place, .string ⟨t.first.toArray⟩, .slice a t.chain.length cap] 24 (0, 0)) := by rw [hW0, ep]; exact heap_past _ (heap_new rfl)
  have hq1 : W0.heap[p + 1]? = some (.cells #[.int .i64 0, .int .i64 0, .int .i64 0, .string ⟨#[]⟩, .slice none 0 0] 24 (0, 0)) := by rw [hW0, ep]; exact heap_new (by simp)
  have c4 := row_cell hq0 4
  have f4 := row_free hq0 4
  simp at c4
  rw [hW0, ep] at c4 f4
  have i0 : (0 : Int) ≤ (k : Int) := by omega
  have i1 : (k : Int) ≤ (cap : Int) := by omega
  have i2 : (k : Int) ≤ (t.chain.length : Int) := by omega
  obtain ⟨a', ha', htr⟩ : ∃ a', a' = a ∧ Trs w (.slice a' k cap) (t.chain.take k) := ⟨a, rfl, hc.take k hk⟩
  subst ha'
  have HTR := Lib.hid htr
  clear htr hc ha
  go_enter Tryz.func53, Tryz.ntmps53
  go_wp2_with fail
  have hz : ((w.alloc (.cells #[.int .i64 t.serial, .int .i64 t.shw, .int .i64 t.place, .string ⟨t.first.toArray⟩, .slice a' k cap] 24)).alloc (.cells #[.int .i64 t.serial, .int .i64 t.shw, .int .i64 t.place, .string ⟨t.first.toArray⟩, .slice a' k cap] 24)).heap[w.heap.size + 1]? = some (.cells #[.int .i64 t.serial, .int .i64 t.shw, .int .i64 t.place, .string ⟨t.first.toArray⟩, .slice a' k cap] 24 (0, 0)) := heap_new (by simp)
  have z0 := row_cell hz 0
  have z1 := row_cell hz 1
  have z2 := row_cell hz 2
  have z3 := row_cell hz 3
  have z4 := row_cell hz 4
  simp at z0 z1 z2 z3 z4
  have hf : Fr [] w ((w.alloc (.cells #[.int .i64 t.serial, .int .i64 t.shw, .int .i64 t.place, .string ⟨t.first.toArray⟩, .slice a' k cap] 24)).alloc (.cells #[.int .i64 t.serial, .int .i64 t.shw, .int .i64 t.place, .string ⟨t.first.toArray⟩, .slice a' k cap] 24)) := ((Fr.refl [] w).alloc _).alloc _
  refine bodyPost_ret (v := .agg #[.int .i64 t.serial, .int .i64 t.shw, .int .i64 t.place, .string ⟨t.first.toArray⟩, .slice a' k cap]) ?_ rfl ⟨⟨_, rfl, ⟨_, by unfold cutT; rfl, HTR.out.fr hf⟩⟩, hf.toBelow (by simp)⟩
  simp only [results]
  go_simp
end Go.Proofs.YtcblpfepkkkilaaGreatDoor
