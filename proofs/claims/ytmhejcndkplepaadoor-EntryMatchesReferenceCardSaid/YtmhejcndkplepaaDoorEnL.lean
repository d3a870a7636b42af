/-
  foyerref18.Parse: the same answer as entry.Parse.
-/
import Derived.Test.YtmhejcndkplepaaDoorEnK
import Derived.Test.YtmhejcndkplepaaDoorPlnEt
import Derived.BigRegion
namespace Go.Proofs.YtmhejcndkplepaaDoor
open Go.RowKit

theorem ba_cutE (l : List UInt8) (i j : Nat) : (⟨l.toArray⟩ : ByteArray).extract i j = ⟨((l.drop i).take (j - i)).toArray⟩ := by
  apply ByteArray.ext
  simp [ByteArray.data_extract]
def rsplit (t : List UInt8) (n : Nat) : Pty := ⟨t.take n, (t.drop (n + 1)).take 16, t.drop (n + 18)⟩
theorem isD_16 {l : List UInt8} (h : isD l = true) : l.length = 16 := by
  simp only [isD, Bool.and_eq_true, beq_iff_eq] at h
  exact h.1
theorem text_parts (p : Pty) (h : validB p = true) : textS p = p.name ++ 32 :: (p.com ++ 32 :: p.rev) ∧ 1 ≤ p.name.length ∧ p.com.length = 16 ∧ p.rev.length = 16 := by
  have h0 := h
  simp only [validB, Bool.and_eq_true] at h
  refine ⟨by unfold textS; rw [if_pos h0]; simp, ?_, isD_16 h.1.2, isD_16 h.2⟩
  have h1 := h.1.1
  unfold nameB at h1
  rw [decide_eq_true_eq] at h1
  exact List.length_pos_iff.2 h1.2.1
theorem rsplit_text (p : Pty) (h : validB p = true) (n : Nat) (hn : (textS p).length = n + 34) : rsplit (textS p) n = p := by
  obtain ⟨e, h1, h2, h3⟩ := text_parts p h
  rw [e] at hn ⊢
  have hx : p.name.length = n := by simp at hn; omega
  obtain ⟨x, y, z⟩ := p
  simp only at hx h2 h3 ⊢
  subst hx
  unfold rsplit
  have d1 : (x ++ 32 :: (y ++ 32 :: z)).drop (x.length + 1) = y ++ 32 :: z := by
    rw [List.drop_append]; simp
  have d2 : (x ++ 32 :: (y ++ 32 :: z)).drop (x.length + 18) = z := by
    rw [show x.length + 18 = (x.length + 1) + 17 by omega, ← List.drop_drop, d1, show 17 = y.length + 1 by omega, List.drop_append]; simp
  rw [d1, d2, List.take_left, ← h2, List.take_left]
theorem parse_short (t : List UInt8) (h : t.length ≤ 34) : parseS t = (noE, 4) := by
  rcases parse_says t with ⟨_, h2, h3⟩ | ⟨h1, h2⟩
  · obtain ⟨e, h4, h5, h6⟩ := text_parts _ h2
    rw [h3] at e
    rw [e] at h
    simp at h
    omega
  · exact Prod.ext h2 h1
theorem parse_is (t : List UInt8) (n : Nat) (hn : t.length = n + 34) (h : textS (rsplit t n) = t) : parseS t = (rsplit t n, 0) := by
  have hv : validB (rsplit t n) = true := by
    cases hv : validB (rsplit t n) with
    | true => rfl
    | false => rw [text_none _ hv] at h; rw [← h] at hn; simp at hn
  have := parse_text _ hv
  rwa [h] at this
theorem parse_not (t : List UInt8) (n : Nat) (hn : t.length = n + 34) (h : textS (rsplit t n) ≠ t) : parseS t = (noE, 4) := by
  rcases parse_says t with ⟨_, h2, h3⟩ | ⟨h1, h2⟩
  · refine absurd ?_ h
    rw [← h3] at hn
    have := rsplit_text _ h2 n hn
    rw [h3] at this
    rw [this, h3]
  · exact Prod.ext h2 h1

set_option maxRecDepth 100000 in
set_option maxHeartbeats 4000000 in
theorem rparse_any (t : List UInt8) (w : World) (ht : t.length ≤ 1000000) :
    Calls Tryd.prog 36 #[.string ⟨t.toArray⟩] w fun e w' => e = .returned (.tuple #[ptyV (parseS t).1, .int .i64 (parseS t).2]) ∧ Below w.heap.size w w' := by
  have hmx : Tryd.prog.follows .mixedOrders = true := by kernel_rfl
  by_cases hlt : t.length ≤ 34
  · have HP := Lib.hid (parse_short t hlt)
    have t1 : decide ((t.length : Int) - 34 < 1) = true := by simp; omega
    go_enter Tryd.func36, Tryd.ntmps36
    have hr0 : (w.alloc (.cells #[.string ⟨#[]⟩, .string ⟨#[]⟩, .string ⟨#[]⟩] 55)).heap[w.heap.size]? = some (.cells #[.string ⟨#[]⟩, .string ⟨#[]⟩, .string ⟨#[]⟩] 55 (0, 0)) := heap_new rfl
    obtain ⟨s0, s1, s2⟩ := three_cells (x := []) (y := []) (z := []) hr0
    have q0 := row_free hr0 0
    have q1 := row_free hr0 1
    have q2 := row_free hr0 2
    have HR0 := Lib.hid hr0
    have HW0 : Hid (Fr [] w (w.alloc (.cells #[.string ⟨#[]⟩, .string ⟨#[]⟩, .string ⟨#[]⟩] 55))) := Lib.hid ((Fr.refl [] w).alloc _)
    clear hr0
    go_wp2_with fail
    obtain ⟨s0, s1, s2⟩ := three_cells (x := []) (y := []) (z := []) (three_set (x' := .string ⟨#[]⟩) (y' := .string ⟨#[]⟩) (z' := .string ⟨#[]⟩) HR0.out)
    exact bodyPost_ret (v := .tuple #[.agg #[.string ⟨#[]⟩, .string ⟨#[]⟩, .string ⟨#[]⟩], .int .i64 4]) (by simp [results, Tryd.results36, go_sem]) rfl ⟨by rw [HP.out]; rfl, by first | exact (fr_three HW0.out (Nat.le_refl _)).toBelow (by simp) | exact HW0.out.toBelow (by simp)⟩
  · obtain ⟨n, hn⟩ : ∃ n, t.length = n + 34 := ⟨t.length - 34, by omega⟩
    have hn1 : 1 ≤ n := by omega
    have e1 : (t.length : Int) - 34 = (n : Int) := by omega
    have t1 : decide ((n : Int) < 1) = false := by simp; omega
    obtain ⟨x, hx⟩ : ∃ x, x = t.take n := ⟨_, rfl⟩
    obtain ⟨y, hy⟩ : ∃ y, y = (t.drop (n + 1)).take 16 := ⟨_, rfl⟩
    obtain ⟨z, hz⟩ : ∃ z, z = t.drop (n + 18) := ⟨_, rfl⟩
    have HS : Hid (rsplit t n = ⟨x, y, z⟩) := Lib.hid (by unfold rsplit; rw [hx, hy, hz])
    have c1 : (⟨t.toArray⟩ : ByteArray).extract 0 n = ⟨x.toArray⟩ := by rw [ba_cutE, hx]; simp
    have c2 : (⟨t.toArray⟩ : ByteArray).extract (n + 1) (n + 17) = ⟨y.toArray⟩ := by rw [ba_cutE, show n + 17 - (n + 1) = 16 by omega, hy]
    have c3 : (⟨t.toArray⟩ : ByteArray).extract (n + 18) (n + 34) = ⟨z.toArray⟩ := by rw [ba_cutE, List.take_of_length_le (by rw [List.length_drop]; omega), hz]
    have HCE := Lib.hid (fun w => rtextE_any ⟨x, y, z⟩ w (by show x.length ≤ _; rw [hx, List.length_take]; omega) (by show y.length ≤ _; rw [hy, List.length_take]; omega) (by show z.length ≤ _; rw [hz, List.length_drop]; omega))
    have HQ := Lib.hid (parse_is t n hn)
    have HQN := Lib.hid (parse_not t n hn)
    unfold ptyV at HCE
    rw [HS.out] at HQ HQN
    generalize textS ⟨x, y, z⟩ = tx at HCE HQ HQN
    clear hx hy hz
    go_enter Tryd.func36, Tryd.ntmps36
    go_wp2_with fail
    go_region
    go_wp2_with fail
    obtain ⟨W0, hW0⟩ : ∃ W0, W0 = ((w.alloc (.cells #[.string ⟨#[]⟩, .string ⟨#[]⟩, .string ⟨#[]⟩] 55)).alloc (.cells #[.string ⟨x.toArray⟩, .string ⟨y.toArray⟩, .string ⟨z.toArray⟩] 55)).drew := ⟨_, rfl⟩
    rw [← hW0]
    have hr0 : W0.heap[w.heap.size]? = some (.cells #[.string ⟨#[]⟩, .string ⟨#[]⟩, .string ⟨#[]⟩] 55 (0, 0)) := by rw [hW0]; exact heap_past _ (heap_new rfl)
    have hk0 : W0.heap[w.heap.size + 1]? = some (.cells #[.string ⟨x.toArray⟩, .string ⟨y.toArray⟩, .string ⟨z.toArray⟩] 55 (0, 0)) := by rw [hW0]; exact heap_new (by simp)
    have hf0 : Fr [] w W0 := by rw [hW0]; exact (((Fr.refl [] w).alloc _).alloc _).drew
    clear hW0
    refine (HCE.out W0).mono ?_
    rintro e w4 ⟨rfl, hb4⟩
    have hf4 : Fr [] W0 w4 := Fr.ofBelow (X := []) hb4
    have hw4 : Fr [] w w4 := hf0.trans hf4 (by simp)
    obtain ⟨k0, k1, k2⟩ := three_cells (hf4.at hk0 (by simp))
    have hr4 := hf4.at hr0 (by simp)
    obtain ⟨r0, r1, r2⟩ := three_cells (x := []) (y := []) (z := []) hr4
    have q0 := row_free hr4 0
    have q1 := row_free hr4 1
    have q2 := row_free hr4 2
    have HR4 := Lib.hid hr4
    have HW4 := Lib.hid hw4
    have hbs : w.heap.size ≤ w.heap.size := Nat.le_refl _
    generalize w.heap.size + 1 = be at k0 k1 k2 ⊢
    clear hk0 hb4 hf4 hr4 hr0 hf0 hw4
    by_cases h2 : tx = t
    · have HP := Lib.hid (HQ.out h2)
      have u2 : (tx == t) = true := by simpa using h2
      have u3 : (tx != t) = false := by simpa using h2
      clear h2
      go_wp2_with fail
      obtain ⟨s0, s1, s2⟩ := three_cells (three_set (x' := .string ⟨x.toArray⟩) (y' := .string ⟨y.toArray⟩) (z' := .string ⟨z.toArray⟩) HR4.out)
      exact bodyPost_ret (v := .tuple #[.agg #[.string ⟨x.toArray⟩, .string ⟨y.toArray⟩, .string ⟨z.toArray⟩], .int .i64 0]) (by simp [results, Tryd.results36, go_sem, s0, s1, s2]) rfl ⟨by rw [HP.out]; rfl, (fr_three HW4.out hbs).toBelow (by simp)⟩
    · have HP := Lib.hid (HQN.out h2)
      have u2 : (tx == t) = false := by simpa using h2
      have u3 : (tx != t) = true := by simpa using h2
      clear h2
      go_wp2_with fail
      obtain ⟨s0, s1, s2⟩ := three_cells (x := []) (y := []) (z := []) (three_set (x' := .string ⟨#[]⟩) (y' := .string ⟨#[]⟩) (z' := .string ⟨#[]⟩) HR4.out)
      exact bodyPost_ret (v := .tuple #[.agg #[.string ⟨#[]⟩, .string ⟨#[]⟩, .string ⟨#[]⟩], .int .i64 4]) (by simp [results, Tryd.results36, go_sem, s0, s1, s2]) rfl ⟨by rw [HP.out]; rfl, (fr_three HW4.out hbs).toBelow (by simp)⟩
end Go.Proofs.YtmhejcndkplepaaDoor
