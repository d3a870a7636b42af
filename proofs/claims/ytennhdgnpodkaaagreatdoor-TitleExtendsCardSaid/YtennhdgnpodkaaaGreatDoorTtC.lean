/-
  title.Message.
-/
import Derived.Test.YtennhdgnpodkaaaGreatDoorTtB
import Derived.Test.YtennhdgnpodkaaaGreatDoorItI
import Derived.Test.YtennhdgnpodkaaaGreatDoorSgnD
import Derived.Test.YtennhdgnpodkaaaGreatDoorRound
namespace Go.Proofs.YtennhdgnpodkaaaGreatDoor
open Go.RowKit

/-- The first strings of a message. -/
theorem fieldsT_len (t : Ttl) (tk : List UInt8) : (fieldsT t tk).length = t.chain.length + 4 := by
  simp [fieldsT]
theorem fieldsT_three (t : Ttl) (tk : List UInt8) : (fieldsT t tk).take 3 = [Lib.itoa t.serial, Lib.itoa t.shw, t.first] := by simp [fieldsT]
theorem fieldsT_snoc (t : Ttl) (tk : List UInt8) (k : Nat) (x : Trf) (hx : t.chain[k]? = some x) : (fieldsT t tk).take (k + 1 + 3) = (fieldsT t tk).take (k + 3) ++ [x.nk] := by
  have hk := (List.getElem?_eq_some_iff.1 hx).1
  have hl := fieldsT_len t tk
  rw [show k + 1 + 3 = (k + 3) + 1 by omega, take_snoc' _ (k + 3) [] (by omega)]
  congr 2
  unfold fieldsT
  rw [List.getD_eq_getElem?_getD, List.append_assoc, List.getElem?_append_right (by simp), List.getElem?_append_left (by simpa using hk)]
  simp [hx]
theorem fieldsT_end (t : Ttl) (tk : List UInt8) : (fieldsT t tk).take (t.chain.length + 3) ++ [tk] = fieldsT t tk := by
  unfold fieldsT
  rw [List.take_append_of_le_length (by simp), List.take_of_length_le (by simp)]
theorem fieldsT_small {t : Ttl} (h : TSmall t) {tk : List UInt8} (hto : tk.length ≤ 100000) : ∀ s ∈ fieldsT t tk, s.length ≤ 100000 := by
  intro s hs
  unfold fieldsT at hs
  rcases List.mem_append.1 hs with hs | hs
  · rcases List.mem_append.1 hs with hs | hs
    · simp only [List.mem_cons, List.not_mem_nil, or_false] at hs
      rcases hs with rfl | rfl | rfl
      · have := Lib.itoa_length_le t.serial h.s.1 h.s.2; omega
      · have := Lib.itoa_length_le t.shw h.h.1 h.h.2; omega
      · exact h.f
    · obtain ⟨x, hx, rfl⟩ := List.mem_map.1 hs
      exact (h.c x hx).1
  · rw [List.mem_singleton.1 hs]; exact hto
theorem fieldsT_join {t : Ttl} (h : TSmall t) {tk : List UInt8} (hto : tk.length ≤ 100000) : (joinL (fieldsT t tk)).length ≤ 140737488355328 := by
  have h1 := joinL_bound (fieldsT t tk) 100000 (by decide) (fieldsT_small h hto)
  rw [fieldsT_len] at h1
  have h2 := h.n
  have h3 : (t.chain.length + 4) * (100000 + 22) ≤ 1004 * 100022 := Nat.mul_le_mul_right _ (by omega)
  omega
set_option maxRecDepth 100000 in
set_option maxHeartbeats 4000000 in
theorem message_any (v : Value) (t : Ttl) (tk : List UInt8) (w : World) (hv : TtlR w v t) (hS : TSmall t) (hto : tk.length ≤ 100000) (hT : Tabs w) :
    Calls Tryz.prog 16 #[v, .string ⟨tk.toArray⟩] w fun e w' => e = .returned (.string ⟨(msgT t tk).toArray⟩) ∧ Below w.heap.size w w' := by
  have hmx : Tryz.prog.follows .mixedOrders = true := by kernel_rfl
  obtain ⟨cv, rfl, hc⟩ := hv
  obtain ⟨a, cap, rfl, hlc, hcap, ha⟩ := hc.form
  have HC := Lib.hid hc
  have HT := Lib.hid hT
  have HS := Lib.hid hS
  have hs1 := hS.s.1
  have hs2 := hS.s.2
  have hh1 := hS.h.1
  have hh2 := hS.h.2
  have hp1 := hS.p.1
  have hp2 := hS.p.2
  have hn100 := hS.n
  clear hc hT hS
  have HJ := Lib.hid (fieldsT_join HS.out hto)
  obtain ⟨W0, hW0⟩ : ∃ W0, W0 = w.alloc (.cells #[.int .i64 t.serial, .int .i64 t.shw, .int .i64 t.place, .string ⟨t.first.toArray⟩, .slice a t.chain.length cap] 24) := ⟨_, rfl⟩
  obtain ⟨p, ep⟩ : ∃ p, p = w.heap.size := ⟨_, rfl⟩
  have h0 : Fr [] w W0 := by rw [hW0]; exact (Fr.refl [] w).alloc _
  have hp0 : W0.heap[p]? = some (.cells #[.int .i64 t.serial, .int .i64 t.shw, .int .i64 t.place, .string ⟨t.first.toArray⟩, .slice a t.chain.length cap] 24 (0, 0)) := by rw [hW0, ep]; exact heap_new rfl
  go_enter Tryz.func16, Tryz.ntmps16
  go_wp2_with fail
  rw [← hW0, ← ep]
  clear hW0 ep
  have c0 := row_cell hp0 0
  have c1 := row_cell hp0 1
  have c3 := row_cell hp0 3
  simp at c0 c1 c3
  have hD : Fr [] W0 W0.drew := (Fr.refl [] W0).drew
  have hS0 : W0.drew.cell? ⟨p, 0, none⟩ = some (.int .i64 t.serial) ∧ W0.drew.cell? ⟨p, 1, none⟩ = some (.int .i64 t.shw) ∧ W0.drew.cell? ⟨p, 3, none⟩ = some (.string ⟨t.first.toArray⟩) := ⟨hD.cell c0 (by simp), hD.cell c1 (by simp), hD.cell c3 (by simp)⟩
  refine region_held 9 (fun W' => W'.cell? ⟨p, 0, none⟩ = some (.int .i64 t.serial) ∧ W'.cell? ⟨p, 1, none⟩ = some (.int .i64 t.shw) ∧ W'.cell? ⟨p, 3, none⟩ = some (.string ⟨t.first.toArray⟩)) hmx ?_
  change Held _ _ _ _ _ _ 10 (Array.replicate 10 false) _ _
  refine hd_take 0 (v := .pointer (some ⟨p, 0, none⟩)) rfl (by kernel_rfl) (by kernel_rfl) (by kernel_rfl) rfl hS0 (fun W' hS => by go_simp) rfl ?_
  refine hd_take 3 (v := .pointer (some ⟨p, 1, none⟩)) rfl (by kernel_rfl) (by kernel_rfl) (by kernel_rfl) rfl hS0 (fun W' hS => by go_simp) rfl ?_
  refine hd_take 6 (v := .pointer (some ⟨p, 3, none⟩)) rfl (by kernel_rfl) (by kernel_rfl) (by kernel_rfl) rfl hS0 (fun W' hS => by go_simp) rfl ?_
  try simp only [Act.put, List.setIfInBounds_toArray, List.set_cons_zero, List.set_cons_succ]
  refine hd_take 1 (v := .int .i64 t.serial) rfl (by kernel_rfl) (by kernel_rfl) (by kernel_rfl) rfl hS0 (fun W' hS => by obtain ⟨s0, s1, s2⟩ := hS; go_simp) rfl ?_
  refine hd_take 4 (v := .int .i64 t.shw) rfl (by kernel_rfl) (by kernel_rfl) (by kernel_rfl) rfl hS0 (fun W' hS => by obtain ⟨s0, s1, s2⟩ := hS; go_simp) rfl ?_
  refine hd_take 7 (v := .string ⟨t.first.toArray⟩) rfl (by kernel_rfl) (by kernel_rfl) (by kernel_rfl) rfl hS0 (fun W' hS => by obtain ⟨s0, s1, s2⟩ := hS; go_simp) rfl ?_
  try simp only [Act.put, List.setIfInBounds_toArray, List.set_cons_zero, List.set_cons_succ]
  refine hd_one 2 (by kernel_rfl) rfl (by kernel_rfl) rfl (fun K' hK => ?_)
  go_simp
  refine (itoaI_any t.serial _ hs1 hs2 ((HT.out.fr h0).fr hD)).mono ?_
  rintro e v1 ⟨rfl, hbb1⟩
  have hf1 : Fr [] W0 v1 := hD.below hbb1 hD.size
  refine hK.out _ _ (fun _ => ⟨hf1.cell c0 (by simp), hf1.cell c1 (by simp), hf1.cell c3 (by simp)⟩) ?_
  clear hK K'
  try simp only [Act.put, List.setIfInBounds_toArray, List.set_cons_zero, List.set_cons_succ]
  refine hd_one 5 (by kernel_rfl) rfl (by kernel_rfl) rfl (fun K' hK => ?_)
  go_simp
  refine (itoaI_any t.shw _ hh1 hh2 ((HT.out.fr h0).fr hf1)).mono ?_
  rintro e v2 ⟨rfl, hbb2⟩
  have hf2 : Fr [] W0 v2 := hf1.below hbb2 hf1.size
  refine hK.out _ _ (fun _ => ⟨hf2.cell c0 (by simp), hf2.cell c1 (by simp), hf2.cell c3 (by simp)⟩) ?_
  clear hK K'
  try simp only [Act.put, List.setIfInBounds_toArray, List.set_cons_zero, List.set_cons_succ]
  refine hd_one 8 (by kernel_rfl) rfl (by kernel_rfl) rfl (fun K' hK => ?_)
  go_simp
  have hfa := hf2.alloc (.cells #[.string ⟨(Lib.itoa t.serial).toArray⟩, .string ⟨(Lib.itoa t.shw).toArray⟩, .string ⟨t.first.toArray⟩] 9)
  refine hK.out _ _ (fun _ => ⟨hfa.cell c0 (by simp), hfa.cell c1 (by simp), hfa.cell c3 (by simp)⟩) ?_
  clear hK K'
  try simp only [Act.put, List.setIfInBounds_toArray, List.set_cons_zero, List.set_cons_succ]
  have hos : OwnS v2.heap.size (v2.alloc (.cells #[.string ⟨(Lib.itoa t.serial).toArray⟩, .string ⟨(Lib.itoa t.shw).toArray⟩, .string ⟨t.first.toArray⟩] 9)) (.slice (some ⟨v2.heap.size, 0, none⟩) 3 3) [(Lib.itoa t.serial), (Lib.itoa t.shw), t.first] := ⟨rfl, Or.inr ⟨v2.heap.size, 3, _, rfl, Nat.le_refl _, heap_new rfl, Nat.le_refl _, by decide, rfl, rfl⟩⟩
  obtain ⟨wz, hwz⟩ : ∃ wz, wz = v2.alloc (.cells #[.string ⟨(Lib.itoa t.serial).toArray⟩, .string ⟨(Lib.itoa t.shw).toArray⟩, .string ⟨t.first.toArray⟩] 9) := ⟨_, rfl⟩
  rw [← hwz] at hos hfa ⊢
  clear hwz
  refine hd_one 9 (by kernel_rfl) rfl (by kernel_rfl) rfl (fun K' hK => ?_)
  go_simp
  refine hK.out _ _ (fun h => absurd rfl h) ?_
  clear hK K'
  refine held_done (by kernel_rfl) ?_
  have HOS := Lib.hid (hos.mono (base' := W0.heap.size) hf2.size)
  have HFA := Lib.hid hfa
  clear hos hfa hS0 hD hf1 hf2 hbb1 hbb2
  have HP0 := Lib.hid hp0
  have H0 := Lib.hid h0
  have hqz := HFA.out.at HP0.out (by simp)
  have c4 := row_cell hqz 4
  simp at c4
  clear hqz c0 c1 c3 hp0
  go_wp2_with fail
  clear c4
  have h0s : w.heap.size ≤ W0.heap.size := h0.size
  have hzs : W0.heap.size ≤ wz.heap.size := HFA.out.size
  clear h0
  go_loopg [5, 7, 20] t.chain.length (fun gh out u i wr => ∃ k : Nat, k ≤ t.chain.length ∧ gh = t.chain.length - k ∧ i = .int .i64 (k : Int) ∧ OwnS W0.heap.size wr out ((fieldsT t tk).take (k + 3)) ∧ Fr [] w wr ∧ W0.heap.size ≤ wr.heap.size)
  case atStart => exact ⟨0, by omega, by omega, rfl, by rw [fieldsT_three]; exact HOS.out, H0.out.trans HFA.out (by simp), hzs⟩
  case round =>
    clear HOS HFA
    obtain ⟨k, hk, hgh, rfl, hos, hfr, hsz⟩ := hrel
    have HG := Lib.hid hgh
    have HOS := Lib.hid hos
    clear hgh hos
    have HLE : Hid (((fieldsT t tk).take (k + 3)).length = k + 3) := Lib.hid (by rw [List.length_take, fieldsT_len]; omega)
    by_cases hlt : k < t.chain.length
    · have t1 : decide ((k : Int) < (t.chain.length : Int)) = true := by simp; omega
      obtain ⟨b, off, rfl⟩ := ha k hlt
      obtain ⟨x, hx⟩ : ∃ x, t.chain[k]? = some x := ⟨_, List.getElem?_eq_getElem hlt⟩
      obtain ⟨e0, u, e1, hu⟩ := (HC.out.fr hfr).cells k x hx
      obtain ⟨sa, scap, rfl, _, _, _⟩ := hu.form
      have HSN := Lib.hid (fieldsT_snoc t tk k x hx)
      clear hx hu
      have hl2 : ((fieldsT t tk).take (k + 3)).length < 1000000 := by rw [HLE.out]; omega
      generalize (fieldsT t tk).take (k + 3) = L at HOS HSN hl2 HLE
      have hA := (Fr.refl [] wr).alloc (.cells #[.string ⟨x.nk.toArray⟩, .slice sa x.sig.length scap] 44)
      have HA := Lib.hid hA
      clear hA
      go_wp2_with (at_builtin; go_loud (refine wpList_appS rfl (.tmp 24) (.tmp 27) rfl W0.heap.size _ L x.nk w rfl (by rw [World.size_alloc]; rfl) (HOS.out.fr HA.out (by simp)) (hfr.trans HA.out (by simp)) h0s (Nat.le_trans hsz HA.out.size) hl2 ?_))
      intro v7 w7 g7 c7 hv7 ho7 hf7 hg7
      subst hv7
      have HO7 := Lib.hid ho7
      have hs7 : W0.heap.size ≤ w7.heap.size := Nat.le_trans (Nat.le_trans hsz HA.out.size) hg7.size
      clear ho7 hg7
      go_wp2_with fail
      go_roundg (t.chain.length - (k + 1))
      case measure => have := HG.out; omega
      case rel => exact ⟨k + 1, by omega, rfl, by go_num, by rw [HSN.out]; exact HO7.out, hf7, hs7⟩
    · obtain rfl : k = t.chain.length := by omega
      have t1 : decide ((t.chain.length : Int) < (t.chain.length : Int)) = false := by simp
      have HEN := Lib.hid (fieldsT_end t tk)
      have hl2 : ((fieldsT t tk).take (t.chain.length + 3)).length < 1000000 := by rw [HLE.out]; omega
      generalize (fieldsT t tk).take (t.chain.length + 3) = L at HOS HEN hl2 HLE
      go_wp2_with (at_builtin; go_loud (refine wpList_appS rfl (.tmp 30) (.tmp 32) rfl W0.heap.size _ L tk w rfl rfl HOS.out hfr h0s hsz hl2 ?_))
      intro v7 w7 g7 c7 hv7 ho7 hf7 _
      subst hv7
      rw [HEN.out] at ho7
      have HO7 := Lib.hid ho7
      clear ho7
      go_wp2_with fail
      refine (list_any _ (fieldsT t tk) w7 HO7.out.strs HJ.out (HT.out.fr hf7)).mono ?_
      rintro e w8 ⟨rfl, hb8⟩
      go_wp2_with fail
      go_ret
      exact ⟨rfl, (hf7.below hb8 hf7.size).toBelow (by simp)⟩
end Go.Proofs.YtennhdgnpodkaaaGreatDoor
