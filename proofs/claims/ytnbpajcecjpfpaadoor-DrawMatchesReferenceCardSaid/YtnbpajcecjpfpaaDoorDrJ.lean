/-
  The reference of layer 19: Right.
-/
import Derived.Test.YtnbpajcecjpfpaaDoorDrH
namespace Go.Proofs.YtnbpajcecjpfpaaDoor
open Go.RowKit
set_option maxRecDepth 100000 in
set_option maxHeartbeats 1000000 in
theorem rright_any (p : Pty) (w : World) (hn : p.name.length ≤ 1000000) (hr : p.rev.length ≤ 1000000) :
    Calls Tryd.prog 12 #[ptyV p] w fun e w' => e = .returned (.bool (rightB p)) ∧ Below w.heap.size w w' := by
  obtain ⟨a, c, r⟩ := p
  unfold ptyV rightB
  simp only at hn hr ⊢
  go_enter Tryd.func12, Tryd.ntmps12
  go_wp2_with fail
  have hf0 : Fr [] w (w.alloc (.cells #[.string ⟨a.toArray⟩, .string ⟨c.toArray⟩, .string ⟨r.toArray⟩] 27)) := (Fr.refl [] w).alloc _
  have k0 : (w.alloc (.cells #[.string ⟨a.toArray⟩, .string ⟨c.toArray⟩, .string ⟨r.toArray⟩] 27)).cell? ⟨w.heap.size, 0, none⟩ = some (.string ⟨a.toArray⟩) := by rw [row_cell (heap_new rfl) 0]; rfl
  have k1 : (w.alloc (.cells #[.string ⟨a.toArray⟩, .string ⟨c.toArray⟩, .string ⟨r.toArray⟩] 27)).cell? ⟨w.heap.size, 1, none⟩ = some (.string ⟨c.toArray⟩) := by rw [row_cell (heap_new rfl) 1]; rfl
  have k2 : (w.alloc (.cells #[.string ⟨a.toArray⟩, .string ⟨c.toArray⟩, .string ⟨r.toArray⟩] 27)).cell? ⟨w.heap.size, 2, none⟩ = some (.string ⟨r.toArray⟩) := by rw [row_cell (heap_new rfl) 2]; rfl
  generalize w.heap.size = b at k0 k1 k2 ⊢
  generalize w.alloc (.cells #[.string ⟨a.toArray⟩, .string ⟨c.toArray⟩, .string ⟨r.toArray⟩] 27) = w0 at hf0 k0 k1 k2 ⊢
  have hmx : Tryd.prog.follows .mixedOrders = true := by kernel_rfl
  have HJ : Hid (capN [a, r] ≤ 140737488355328) := Lib.hid (by have := capN_le [a, r] 1000000 (fun s hs => by simp only [List.mem_cons, List.not_mem_nil, or_false] at hs; rcases hs with rfl | rfl <;> assumption); simp at this; omega)
  have hc0 := k0
  have hc1 := k1
  have hc2 := k2
  have hh0 : Fr [] w0 w0.drew := (Fr.refl [] w0).drew
  have hS0 : w0.drew.cell? ⟨b, 0, none⟩ = some (.string ⟨a.toArray⟩) ∧ w0.drew.cell? ⟨b, 1, none⟩ = some (.string ⟨c.toArray⟩) ∧ w0.drew.cell? ⟨b, 2, none⟩ = some (.string ⟨r.toArray⟩) := ⟨hh0.cell hc0 (by simp), hh0.cell hc1 (by simp), hh0.cell hc2 (by simp)⟩
  refine region_held 9 (fun W' => W'.cell? ⟨b, 0, none⟩ = some (.string ⟨a.toArray⟩) ∧ W'.cell? ⟨b, 1, none⟩ = some (.string ⟨c.toArray⟩) ∧ W'.cell? ⟨b, 2, none⟩ = some (.string ⟨r.toArray⟩)) hmx ?_
  change Held _ _ _ _ _ _ 10 (Array.replicate 10 false) _ _
  refine held_take 0 (v := .pointer (some ⟨b, 1, none⟩)) rfl (by kernel_rfl) (by kernel_rfl) (by kernel_rfl) rfl hS0 (fun W' hS => by go_simp) rfl ?_
  refine held_take 2 (v := .pointer (some ⟨b, 0, none⟩)) rfl (by kernel_rfl) (by kernel_rfl) (by kernel_rfl) rfl hS0 (fun W' hS => by go_simp) rfl ?_
  refine held_take 4 (v := .pointer (some ⟨b, 2, none⟩)) rfl (by kernel_rfl) (by kernel_rfl) (by kernel_rfl) rfl hS0 (fun W' hS => by go_simp) rfl ?_
  simp only [Act.put]
  refine held_take 1 (v := .string ⟨c.toArray⟩) rfl (by kernel_rfl) (by kernel_rfl) (by kernel_rfl) rfl hS0 (fun W' hS => by obtain ⟨h0, h1, h2⟩ := hS; go_simp) rfl ?_
  refine held_take 3 (v := .string ⟨a.toArray⟩) rfl (by kernel_rfl) (by kernel_rfl) (by kernel_rfl) rfl hS0 (fun W' hS => by obtain ⟨h0, h1, h2⟩ := hS; go_simp) rfl ?_
  refine held_take 5 (v := .string ⟨r.toArray⟩) rfl (by kernel_rfl) (by kernel_rfl) (by kernel_rfl) rfl hS0 (fun W' hS => by obtain ⟨h0, h1, h2⟩ := hS; go_simp) rfl ?_
  simp only [Act.put]
  refine held_one 6 (by kernel_rfl) rfl rfl rfl (fun K' hK => ?_)
  go_simp
  have hh1 := hh0.alloc (.cells #[.string ⟨a.toArray⟩, .string ⟨r.toArray⟩] 9)
  have hS1 : (w0.drew.alloc (.cells #[.string ⟨a.toArray⟩, .string ⟨r.toArray⟩] 9)).cell? ⟨b, 0, none⟩ = some (.string ⟨a.toArray⟩) ∧ (w0.drew.alloc (.cells #[.string ⟨a.toArray⟩, .string ⟨r.toArray⟩] 9)).cell? ⟨b, 1, none⟩ = some (.string ⟨c.toArray⟩) ∧ (w0.drew.alloc (.cells #[.string ⟨a.toArray⟩, .string ⟨r.toArray⟩] 9)).cell? ⟨b, 2, none⟩ = some (.string ⟨r.toArray⟩) := ⟨hh1.cell hc0 (by simp), hh1.cell hc1 (by simp), hh1.cell hc2 (by simp)⟩
  refine hK.out _ _ (fun _ => hS1) ?_
  clear hK K'
  try simp only [Act.put]
  refine held_one 7 (by kernel_rfl) rfl rfl rfl (fun K' hK => ?_)
  go_simp
  refine (rlist_any _ [a, r] _ (strs_two (W := (w0.alloc (.cells #[.string ⟨a.toArray⟩, .string ⟨r.toArray⟩] 9)).drew) (heap_drew (heap_new rfl))) HJ.out).mono ?_
  rintro e wq2 ⟨rfl, hb⟩
  have hh2 : Fr [] w0 wq2 := hh1.below hb hh1.size
  clear hb
  have hS2 : wq2.cell? ⟨b, 0, none⟩ = some (.string ⟨a.toArray⟩) ∧ wq2.cell? ⟨b, 1, none⟩ = some (.string ⟨c.toArray⟩) ∧ wq2.cell? ⟨b, 2, none⟩ = some (.string ⟨r.toArray⟩) := ⟨hh2.cell hc0 (by simp), hh2.cell hc1 (by simp), hh2.cell hc2 (by simp)⟩
  refine hK.out _ _ (fun _ => hS2) ?_
  clear hK K'
  try simp only [Act.put]
  refine held_take 8 (v := .bool (c == dlist [a, r])) rfl (by kernel_rfl) (by kernel_rfl) (by kernel_rfl) rfl hS2 (fun W' hS => by go_simp) rfl ?_
  simp only [Act.put]
  refine held_one 9 (by kernel_rfl) rfl rfl rfl (fun K' hK => ?_)
  go_simp
  refine hK.out _ _ (fun h => absurd rfl h) ?_
  clear hK K'
  refine held_done (by kernel_rfl) ?_
  go_wp2_with fail
  go_ret
  exact ⟨rfl, (hf0.trans hh2 (by simp)).toBelow (by simp)⟩
end Go.Proofs.YtnbpajcecjpfpaaDoor
