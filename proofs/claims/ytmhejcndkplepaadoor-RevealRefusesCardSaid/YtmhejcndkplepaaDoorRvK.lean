/-
  foyerlaw31.head.
-/
import Derived.Test.YtmhejcndkplepaaDoorRvJ
import Derived.Test.YtmhejcndkplepaaDoorTwo
import Derived.Test.YtmhejcndkplepaaDoorOwn
import Derived.Deep.DeepCutAuto
namespace Go.Proofs.YtmhejcndkplepaaDoor
open Go.RowKit

def fieldsH : List (List UInt8) := [[97, 110, 110], [49, 57, 57, 48], [109, 101, 109, 98, 101, 114]]
def saltH : List UInt8 := [115, 97, 108, 116]
theorem fieldsH_short : ∀ f ∈ fieldsH, f.length ≤ 100000 := by decide

theorem pathL_three (x y z : List UInt8) : pathL [x, y, z] 2 = [nodeD x y] := by
  rw [pathL.eq_def, if_pos (by simp), if_neg (by simp [bes]), List.nil_append, pathL.eq_def, if_pos (by simp [upL]), if_pos (by simp [upL, bes]), pathL.eq_def, if_neg (by simp [upL])]
  rfl
theorem topL_three (x y z : List UInt8) : topL [x, y, z] = nodeD (nodeD x y) z := by
  rw [topL.eq_def, if_pos (by simp), topL.eq_def, if_pos (by simp [upL]), topL.eq_def, if_neg (by simp [upL])]
  rfl
theorem ckL_three (a x : List UInt8) : ckL 3 2 a [x] = some (nodeD x a) := by
  rw [ck_skip (by decide) (by decide), ck_cons (by decide) (by decide), if_neg (by decide), ck_end (by decide), if_pos rfl]
theorem elemsH : elemsL fieldsH saltH = [eleS fieldsH saltH 0, eleS fieldsH saltH 1, eleS fieldsH saltH 2] := rfl
/-- The element of a path in the examples of the chapter. -/
def ndH : List UInt8 := nodeD (leafD (eleS fieldsH saltH 0)) (leafD (eleS fieldsH saltH 1))
theorem sealH : sealS fieldsH saltH = nodeD ndH (leafD (eleS fieldsH saltH 2)) := by
  unfold sealS; rw [elemsH]; unfold rootL
  rw [if_neg (by simp)]
  exact topL_three _ _ _
theorem rootH (g : List UInt8) : rootL [eleS fieldsH saltH 0, eleS fieldsH saltH 1, g] = nodeD ndH (leafD g) := by
  unfold rootL
  rw [if_neg (by simp)]
  exact topL_three _ _ _
def discH (m : List UInt8) : Disc := ⟨3, [2], [m], [[saltS saltH 2, ndH]]⟩
theorem showH : showD fieldsH saltH [2] = discH [109, 101, 109, 98, 101, 114] := by
  unfold showD discH
  rw [if_pos (by decide)]
  have : pathF fieldsH saltH 2 = [saltS saltH 2, ndH] := by
    unfold pathF
    rw [elemsH]
    show _ :: pathL [_, _, _] 2 = _
    rw [pathL_three]; rfl
  simp only [List.map_cons, List.map_nil, this]
  rfl
theorem chkH (root m : List UInt8) : chkD root (discH m) = (nodeD ndH (leafD (saltS saltH 2 ++ m)) == root) := by
  have h1 : isD (saltS saltH 2) = true := dsum_isD _
  have h2 : stepB root (discH m) 0 = (nodeD ndH (leafD (saltS saltH 2 ++ m)) == root) := by
    show (isD (saltS saltH 2) && chkB root 3 2 (saltS saltH 2 ++ m) [ndH]) = _
    rw [h1, Bool.true_and]
    unfold chkB
    show (_ && (ckL 3 2 (leafD (saltS saltH 2 ++ m)) [ndH] == some root)) = _
    rw [ckL_three]
    simp
  show (true && true && true && ([0].all (stepB root (discH m)))) = _
  simp [h2]
theorem zs_one {W : World} {b : Nat} {z : Int} {t : TypeId} (h : W.heap[b]? = some (.cells #[.int .i64 z] t (0, 0))) : Zs W (.slice (some ⟨b, 0, none⟩) 1 1) [z] := by
  refine Or.inr ⟨b, 0, 1, rfl, by simp, by decide, lt_of_block h, fun i hi => ?_⟩
  rw [Nat.zero_add, row_cell h i]
  match i, hi with
  | 0, _ => rfl

theorem ss_one {W : World} {b : Nat} {u : Value} {l : List (List UInt8)} {t : TypeId} (h : W.heap[b]? = some (.cells #[u] t (0, 0))) (hu : Strs W u l) : SS W (.slice (some ⟨b, 0, none⟩) 1 1) [l] := by
  refine Or.inr ⟨b, 0, 1, rfl, by simp, by decide, lt_of_block h, fun i hi => ?_⟩
  rw [Nat.zero_add, row_cell h i]
  match i, hi with
  | 0, _ => exact ⟨u, rfl, hu⟩
theorem Strs.pre2 {w : World} {b cap : Nat} {x y z : List UInt8} (h : Strs w (.slice (some ⟨b, 0, none⟩) 3 cap) [x, y, z]) : Strs w (.slice (some ⟨b, 0, none⟩) 2 cap) [x, y] := by
  have h1 := h.capOf
  have h2 := h.blk b rfl
  have h3 := h.cellN rfl
  refine Or.inr ⟨b, 0, cap, rfl, by simp; omega, h1.2, h2, fun i hi => ?_⟩
  have := h3 i (by simp at hi; omega)
  match i, hi with
  | 0, _ => exact this
  | 1, _ => exact this

set_option maxRecDepth 100000 in
set_option maxHeartbeats 4000000 in
theorem head31_any (w : World) (hT : Tabs w) :
    Calls Tryd.prog 16 #[] w fun e w' => e = .returned (.bool true) ∧ Below w.heap.size w w' := by
  have hmx : Tryd.prog.follows .mixedOrders = true := by kernel_rfl
  have HT := Lib.hid hT
  clear hT
  go_enter Tryd.func16, Tryd.ntmps16
  go_wp2_with fail
  have f0 : Fr [] w (w.alloc (.cells #[.string ⟨#[97, 110, 110]⟩, .string ⟨#[49, 57, 57, 48]⟩, .string ⟨#[109, 101, 109, 98, 101, 114]⟩] 9)) := (Fr.refl [] w).alloc _
  have s0 : Strs (w.alloc (.cells #[.string ⟨#[97, 110, 110]⟩, .string ⟨#[49, 57, 57, 48]⟩, .string ⟨#[109, 101, 109, 98, 101, 114]⟩] 9)) (.slice (some ⟨w.heap.size, 0, none⟩) 3 3) fieldsH := strs_three (heap_new rfl)
  generalize w.alloc (.cells #[.string ⟨#[97, 110, 110]⟩, .string ⟨#[49, 57, 57, 48]⟩, .string ⟨#[109, 101, 109, 98, 101, 114]⟩] 9) = w0 at f0 s0 ⊢
  obtain ⟨b0, eb0⟩ : ∃ b, b = w.heap.size := ⟨_, rfl⟩
  rw [← eb0] at s0 ⊢
  have S0 := Lib.hid s0
  have EB0 := Lib.hid eb0
  clear s0 eb0
  refine (seal_any _ fieldsH saltH w0 S0.out (by decide) (by decide) fieldsH_short (HT.out.fr f0)).mono ?_
  rintro e w1 ⟨rfl, hb1⟩
  have f1 : Fr [] w w1 := f0.below hb1 f0.size
  have S1 := Lib.hid (S0.out.fr0 (Fr.ofBelow hb1))
  clear hb1 f0 S0
  obtain ⟨root, er⟩ : ∃ r, r = sealS fieldsH saltH := ⟨_, rfl⟩
  rw [← er]
  have ER := Lib.hid er
  clear er
  go_wp2_with fail
  have fz : Fr [] w1 (w1.alloc (.cells #[.int .i64 2] 3)) := (Fr.refl [] w1).alloc _
  have z2 : Zs (w1.alloc (.cells #[.int .i64 2] 3)) (.slice (some ⟨w1.heap.size, 0, none⟩) 1 1) [2] := zs_one (heap_new rfl)
  generalize w1.alloc (.cells #[.int .i64 2] 3) = w2 at fz z2 ⊢
  refine (show_any _ _ fieldsH saltH [2] w2 (S1.out.fr0 fz) z2 (by decide) (by decide) fieldsH_short (HT.out.fr (f1.trans fz (by simp)))).mono ?_
  rintro e w3 ⟨dv, rfl, hd, hb3⟩
  have f3 : Fr [] w w3 := (f1.trans fz (by simp)).below hb3 (f1.trans fz (by simp)).size
  have S3 := Lib.hid ((S1.out.fr0 fz).fr0 (Fr.ofBelow hb3))
  rw [showH] at hd
  obtain ⟨dw, df, dp, rfl, hdw, hdf, hdp⟩ := hd
  obtain ⟨dwa, dwc, rfl⟩ : ∃ a c, dw = .slice a 1 c := by obtain ⟨a, c, h, _⟩ := hdw.form; exact ⟨a, c, h⟩
  obtain ⟨dfa, dfc, rfl⟩ : ∃ a c, df = .slice a 1 c := by obtain ⟨a, c, h, _⟩ := hdf.form; exact ⟨a, c, h⟩
  obtain ⟨dpa, dpc, rfl⟩ : ∃ a c, dp = .slice a 1 c := by obtain ⟨a, c, h, _⟩ := hdp.form; exact ⟨a, c, h⟩
  have HDW := Lib.hid hdw
  have HDF := Lib.hid hdf
  have HDP := Lib.hid hdp
  rw [show showE fieldsH [2] = 0 from rfl]
  rw [show (discH [109, 101, 109, 98, 101, 114]).count = 3 from rfl]
  clear hb3 fz z2 f1 S1 hdw hdf hdp
  go_wp2_with fail
  have f4 : Fr [] w3 (w3.alloc (.cells #[.int .i64 3, .slice dwa 1 dwc, .slice dfa 1 dfc, .slice dpa 1 dpc] 26)) := (Fr.refl [] w3).alloc _
  have q4 : (w3.alloc (.cells #[.int .i64 3, .slice dwa 1 dwc, .slice dfa 1 dfc, .slice dpa 1 dpc] 26)).heap[w3.heap.size]? = some (.cells #[.int .i64 3, .slice dwa 1 dwc, .slice dfa 1 dfc, .slice dpa 1 dpc] 26 (0, 0)) := heap_new rfl
  generalize w3.alloc (.cells #[.int .i64 3, .slice dwa 1 dwc, .slice dfa 1 dfc, .slice dpa 1 dpc] 26) = w4 at f4 q4 ⊢
  obtain ⟨db, edb⟩ : ∃ b, b = w3.heap.size := ⟨_, rfl⟩
  rw [← edb] at q4 ⊢
  have EDB := Lib.hid edb
  clear edb
  have f40 : Fr [] w w4 := f3.trans f4 (by simp)
  refine (show_any _ _ fieldsH saltH [] w4 (S3.out.fr0 f4) (Or.inl ⟨rfl, rfl⟩) (by decide) (by decide) fieldsH_short (HT.out.fr f40)).mono ?_
  rintro e w5 ⟨dv, rfl, hd, hb5⟩
  have f45 : Fr [] w4 w5 := Fr.ofBelow hb5
  have f35 : Fr [] w3 w5 := f4.trans f45 (by simp)
  have Q5 := Lib.hid (f45.at q4 (by simp))
  have S5 := Lib.hid (S3.out.fr0 f35)
  have HD5 : Hid (DiscR w5 (.agg #[.int .i64 3, .slice dwa 1 dwc, .slice dfa 1 dfc, .slice dpa 1 dpc]) (discH [109, 101, 109, 98, 101, 114])) := Lib.hid (DiscR.fr ⟨_, _, _, rfl, HDW.out, HDF.out, HDP.out⟩ f35)
  have f5 : Fr [] w w5 := f3.trans f35 (by simp)
  rw [show showE fieldsH [] = 1 from rfl]
  obtain ⟨nw, nf, np, rfl, hnw, hnf, hnp⟩ := hd
  obtain ⟨nwa, nwc, rfl⟩ : ∃ a c, nw = .slice a 0 c := by obtain ⟨a, c, h, _⟩ := hnw.form; exact ⟨a, c, h⟩
  obtain ⟨nfa, nfc, rfl⟩ : ∃ a c, nf = .slice a 0 c := by obtain ⟨a, c, h, _⟩ := hnf.form; exact ⟨a, c, h⟩
  obtain ⟨npa, npc, rfl⟩ : ∃ a c, np = .slice a 0 c := by obtain ⟨a, c, h, _⟩ := hnp.form; exact ⟨a, c, h⟩
  rw [show (showD fieldsH saltH []).count = 0 from rfl]
  clear hnw hnf hnp hb5 f45 f35 q4 f40 f4 f3 S3 HDW HDF HDP
  go_wp2_with fail
  have f6 : Fr [] w5 (w5.alloc (.cells #[.int .i64 0, .slice nwa 0 nwc, .slice nfa 0 nfc, .slice npa 0 npc] 26)) := (Fr.refl [] w5).alloc _
  generalize w5.alloc (.cells #[.int .i64 0, .slice nwa 0 nwc, .slice nfa 0 nfc, .slice npa 0 npc] 26) = w6 at f6 ⊢
  have f60 : Fr [] w w6 := f5.trans f6 (by simp)
  refine (elements31_any _ fieldsH saltH w6 (S5.out.fr0 f6) (by decide) (by decide) (fun f hf => Nat.le_trans (fieldsH_short f hf) (by decide)) (HT.out.fr f60)).mono ?_
  rintro e w7 ⟨ov, rfl, hov, hb7⟩
  have f67 : Fr [] w6 w7 := Fr.ofBelow hb7
  have f57 : Fr [] w5 w7 := f6.trans f67 (by simp)
  have f7 : Fr [] w w7 := f5.trans f57 (by simp)
  have Q7 := Lib.hid (f57.at Q5.out (by simp))
  have HD7 := Lib.hid (HD5.out.fr f57)
  rw [elemsH] at hov
  obtain ⟨ob, oc, rfl⟩ := hov.slice (n := 3) rfl (by decide)
  have HOV := Lib.hid hov.strs
  have hob := hov.strs.blk ob rfl
  have HOC := hov.strs.capOf
  have s16 := saltS_length saltH 2
  have l0 : (eleS fieldsH saltH 0).length ≤ 100 := by unfold eleS; rw [List.length_append, saltS_length]; decide
  have l1 : (eleS fieldsH saltH 1).length ≤ 100 := by unfold eleS; rw [List.length_append, saltS_length]; decide
  have c0 := hov.strs.cellN rfl 0 (by decide)
  have c1 := hov.strs.cellN rfl 1 (by decide)
  rw [Nat.zero_add] at c0 c1
  rw [show [eleS fieldsH saltH 0, eleS fieldsH saltH 1, eleS fieldsH saltH 2].getD 0 [] = eleS fieldsH saltH 0 from rfl] at c0
  rw [show [eleS fieldsH saltH 0, eleS fieldsH saltH 1, eleS fieldsH saltH 2].getD 1 [] = eleS fieldsH saltH 1 from rfl] at c1
  have HND : Hid (dlist [[110, 111, 100, 101], dlist [[108, 101, 97, 102], eleS fieldsH saltH 0], dlist [[108, 101, 97, 102], eleS fieldsH saltH 1]] = ndH) := Lib.hid rfl
  obtain ⟨x0, ex0⟩ : ∃ x, x = eleS fieldsH saltH 0 := ⟨_, rfl⟩
  obtain ⟨x1, ex1⟩ : ∃ x, x = eleS fieldsH saltH 1 := ⟨_, rfl⟩
  rw [← ex0] at l0 c0 HND
  rw [← ex1] at l1 c1 HND
  have EX0 := Lib.hid ex0
  have EX1 := Lib.hid ex1
  clear hov hb7 f67 f57 f60 f6 HD5 Q5 f5 S5 ex0 ex1
  go_wp2_with fail
  have HJ0 : Hid ((joinL [[108, 101, 97, 102], x0]).length ≤ 140737488355328) := Lib.hid (joinL_cap _ (by simp) (fun x hx => by
    rcases List.mem_cons.1 hx with rfl | hx
    · decide
    · rw [List.mem_singleton.1 hx]; omega))
  have HJ1 : Hid ((joinL [[108, 101, 97, 102], x1]).length ≤ 140737488355328) := Lib.hid (joinL_cap _ (by simp) (fun x hx => by
    rcases List.mem_cons.1 hx with rfl | hx
    · decide
    · rw [List.mem_singleton.1 hx]; omega))
  obtain ⟨d0, ed0⟩ : ∃ d, d = dlist [[108, 101, 97, 102], x0] := ⟨_, rfl⟩
  obtain ⟨d1, ed1⟩ : ∃ d, d = dlist [[108, 101, 97, 102], x1] := ⟨_, rfl⟩
  have HJ2 : Hid ((joinL [[110, 111, 100, 101], d0, d1]).length ≤ 140737488355328) := Lib.hid (joinL_cap _ (by simp) (fun x hx => by
    rcases List.mem_cons.1 hx with rfl | hx
    · decide
    · rcases List.mem_cons.1 hx with rfl | hx
      · rw [ed0, dlist_len]; decide
      · rw [List.mem_singleton.1 hx, ed1, dlist_len]; decide))
  rw [← ed0, ← ed1] at HND
  have ED0 := Lib.hid ed0
  have ED1 := Lib.hid ed1
  have F7 := Lib.hid f7
  clear ed0 ed1
  have hh0 : Fr [] w7 w7.drew := (Fr.refl [] w7).drew
  have hS0 : w7.drew.cell? ⟨ob, 0, none⟩ = some (.string ⟨x0.toArray⟩) ∧ w7.drew.cell? ⟨ob, 1, none⟩ = some (.string ⟨x1.toArray⟩) := ⟨c0, c1⟩
  refine region_held 12 (fun W' => W'.cell? ⟨ob, 0, none⟩ = some (.string ⟨x0.toArray⟩) ∧ W'.cell? ⟨ob, 1, none⟩ = some (.string ⟨x1.toArray⟩)) hmx ?_
  change Held _ _ _ _ _ _ 13 (Array.replicate 13 false) _ _
  refine hd_take 0 (v := .slice (some ⟨ob, 0, none⟩) 3 oc) rfl (by kernel_rfl) (by kernel_rfl) (by kernel_rfl) rfl hS0 (fun W' hS => by obtain ⟨h0, h1⟩ := hS; first | (go_simp; done) | (go_simp; intro hix; omega)) rfl ?_
  refine hd_take 5 (v := .slice (some ⟨ob, 0, none⟩) 3 oc) rfl (by kernel_rfl) (by kernel_rfl) (by kernel_rfl) rfl hS0 (fun W' hS => by obtain ⟨h0, h1⟩ := hS; first | (go_simp; done) | (go_simp; intro hix; omega)) rfl ?_
  simp only [Act.put, List.setIfInBounds_toArray, List.set_cons_zero, List.set_cons_succ]
  refine hd_take 1 (v := .pointer (some ⟨ob, 0, none⟩)) rfl (by kernel_rfl) (by kernel_rfl) (by kernel_rfl) rfl hS0 (fun W' hS => by obtain ⟨h0, h1⟩ := hS; first | (go_simp; done) | (go_simp; intro hix; omega)) rfl ?_
  refine hd_take 6 (v := .pointer (some ⟨ob, 1, none⟩)) rfl (by kernel_rfl) (by kernel_rfl) (by kernel_rfl) rfl hS0 (fun W' hS => by obtain ⟨h0, h1⟩ := hS; first | (go_simp; done) | (go_simp; intro hix; omega)) rfl ?_
  simp only [Act.put, List.setIfInBounds_toArray, List.set_cons_zero, List.set_cons_succ]
  refine hd_take 2 (v := .string ⟨x0.toArray⟩) rfl (by kernel_rfl) (by kernel_rfl) (by kernel_rfl) rfl hS0 (fun W' hS => by obtain ⟨h0, h1⟩ := hS; first | (go_simp; done) | (go_simp; intro hix; omega)) rfl ?_
  refine hd_take 7 (v := .string ⟨x1.toArray⟩) rfl (by kernel_rfl) (by kernel_rfl) (by kernel_rfl) rfl hS0 (fun W' hS => by obtain ⟨h0, h1⟩ := hS; first | (go_simp; done) | (go_simp; intro hix; omega)) rfl ?_
  simp only [Act.put, List.setIfInBounds_toArray, List.set_cons_zero, List.set_cons_succ]
  generalize w7.drew = W0 at hh0 hS0 ⊢
  have hso : ∀ W', Fr [] w7 W' → W'.cell? ⟨ob, 0, none⟩ = some (.string ⟨x0.toArray⟩) ∧ W'.cell? ⟨ob, 1, none⟩ = some (.string ⟨x1.toArray⟩) := fun W' h => ⟨h.cell c0 (by simp), h.cell c1 (by simp)⟩
  have hT7 : ∀ W', Fr [] w7 W' → Tabs W' := fun W' h => HT.out.fr (F7.out.trans h (by simp))
  have HSO := Lib.hid hso
  have HT7 := Lib.hid hT7
  clear hso hT7 hS0 c0 c1
  refine held_key 31 32 36 #[true, true, true, true, true, true, true, true, true, false, false, false, false] (fun x y z W' => (∃ g, x = .slice (some ⟨g, 0, none⟩) 2 2) ∧ y = .string ⟨d0.toArray⟩ ∧ (∃ g, z = .slice (some ⟨g, 0, none⟩) 2 2 ∧ Strs W' z [[108, 101, 97, 102], x1]) ∧ Fr [] w7 W') (fuel' := 4) (fun key => ?_) (fun x y z wk hR => ?_)
  · refine held_two_g 3 8 (by kernel_rfl) rfl rfl (by kernel_rfl) (by kernel_rfl) (fun K' hK => ?_) (fun K' hK => ?_)
    · go_simp
      obtain ⟨wA, ewA⟩ : ∃ W', W' = W0.alloc (.cells #[.string ⟨#[108, 101, 97, 102]⟩, .string ⟨x0.toArray⟩] 9) := ⟨_, rfl⟩
      have hA : Fr [] w7 wA := by rw [ewA]; exact hh0.alloc _
      have nhA : Fr [] W0 wA := by rw [ewA]; exact (Fr.refl [] W0).alloc _
      have sA : Strs wA (.slice (some ⟨W0.heap.size, 0, none⟩) 2 2) [[108, 101, 97, 102], x0] := by rw [ewA]; exact strs_two (heap_new rfl)
      rw [← ewA]
      clear ewA
      refine hK.out _ _ (fun _ => HSO.out _ hA) ?_
      clear hK K'
      try simp only [List.setIfInBounds_toArray, List.set_cons_zero, List.set_cons_succ]
      refine held_two_g 4 8 (by kernel_rfl) rfl rfl (by kernel_rfl) (by kernel_rfl) (fun K' hK => ?_) (fun K' hK => ?_)
      · go_simp
        refine (list_any _ [[108, 101, 97, 102], x0] wA sA HJ0.out (HT7.out _ hA)).mono ?_
        rintro e wB ⟨rfl, hb⟩
        rw [← ED0.out]
        have hB : Fr [] w7 wB := hA.below hb hA.size
        have hnhB : Fr [] wA wB := Fr.ofBelow hb
        clear hb
        refine hK.out _ _ (fun _ => HSO.out _ hB) ?_
        clear hK K'
        try simp only [List.setIfInBounds_toArray, List.set_cons_zero, List.set_cons_succ]
        refine hd_one 8 (by kernel_rfl) rfl (by kernel_rfl) rfl (fun K' hK => ?_)
        go_simp
        obtain ⟨wC, ewC⟩ : ∃ W', W' = wB.alloc (.cells #[.string ⟨#[108, 101, 97, 102]⟩, .string ⟨x1.toArray⟩] 9) := ⟨_, rfl⟩
        have hC : Fr [] w7 wC := by rw [ewC]; exact hB.alloc _
        have nhC : Fr [] wB wC := by rw [ewC]; exact (Fr.refl [] wB).alloc _
        have sC : Strs wC (.slice (some ⟨wB.heap.size, 0, none⟩) 2 2) [[108, 101, 97, 102], x1] := by rw [ewC]; exact strs_two (heap_new rfl)
        rw [← ewC]
        clear ewC
        refine hK.out _ _ (fun _ => HSO.out _ hC) ?_
        clear hK K'
        have hk := key (.slice (some ⟨W0.heap.size, 0, none⟩) 2 2) (.string ⟨d0.toArray⟩) (.slice (some ⟨wB.heap.size, 0, none⟩) 2 2) wC ⟨⟨_, rfl⟩, rfl, ⟨_, rfl, sC⟩, hC⟩
        exact held_same hk (by kernel_rfl) (by kernel_rfl)
      · go_simp
        obtain ⟨wB, ewB⟩ : ∃ W', W' = wA.alloc (.cells #[.string ⟨#[108, 101, 97, 102]⟩, .string ⟨x1.toArray⟩] 9) := ⟨_, rfl⟩
        have hB : Fr [] w7 wB := by rw [ewB]; exact hA.alloc _
        have nhB : Fr [] wA wB := by rw [ewB]; exact (Fr.refl [] wA).alloc _
        have sB : Strs wB (.slice (some ⟨wA.heap.size, 0, none⟩) 2 2) [[108, 101, 97, 102], x1] := by rw [ewB]; exact strs_two (heap_new rfl)
        rw [← ewB]
        clear ewB
        refine hK.out _ _ (fun _ => HSO.out _ hB) ?_
        clear hK K'
        try simp only [List.setIfInBounds_toArray, List.set_cons_zero, List.set_cons_succ]
        refine hd_one 4 (by kernel_rfl) rfl (by kernel_rfl) rfl (fun K' hK => ?_)
        go_simp
        refine (list_any _ [[108, 101, 97, 102], x0] wB (sA.fr0 nhB) HJ0.out (HT7.out _ hB)).mono ?_
        rintro e wC ⟨rfl, hb⟩
        rw [← ED0.out]
        have hC : Fr [] w7 wC := hB.below hb hB.size
        have hnhC : Fr [] wB wC := Fr.ofBelow hb
        clear hb
        refine hK.out _ _ (fun _ => HSO.out _ hC) ?_
        clear hK K'
        have hk := key (.slice (some ⟨W0.heap.size, 0, none⟩) 2 2) (.string ⟨d0.toArray⟩) (.slice (some ⟨wA.heap.size, 0, none⟩) 2 2) wC ⟨⟨_, rfl⟩, rfl, ⟨_, rfl, (sB.fr0 hnhC)⟩, hC⟩
        exact held_same hk (by kernel_rfl) (by kernel_rfl)
    · go_simp
      obtain ⟨wA, ewA⟩ : ∃ W', W' = W0.alloc (.cells #[.string ⟨#[108, 101, 97, 102]⟩, .string ⟨x1.toArray⟩] 9) := ⟨_, rfl⟩
      have hA : Fr [] w7 wA := by rw [ewA]; exact hh0.alloc _
      have nhA : Fr [] W0 wA := by rw [ewA]; exact (Fr.refl [] W0).alloc _
      have sA : Strs wA (.slice (some ⟨W0.heap.size, 0, none⟩) 2 2) [[108, 101, 97, 102], x1] := by rw [ewA]; exact strs_two (heap_new rfl)
      rw [← ewA]
      clear ewA
      refine hK.out _ _ (fun _ => HSO.out _ hA) ?_
      clear hK K'
      try simp only [List.setIfInBounds_toArray, List.set_cons_zero, List.set_cons_succ]
      refine hd_one 3 (by kernel_rfl) rfl (by kernel_rfl) rfl (fun K' hK => ?_)
      go_simp
      obtain ⟨wB, ewB⟩ : ∃ W', W' = wA.alloc (.cells #[.string ⟨#[108, 101, 97, 102]⟩, .string ⟨x0.toArray⟩] 9) := ⟨_, rfl⟩
      have hB : Fr [] w7 wB := by rw [ewB]; exact hA.alloc _
      have nhB : Fr [] wA wB := by rw [ewB]; exact (Fr.refl [] wA).alloc _
      have sB : Strs wB (.slice (some ⟨wA.heap.size, 0, none⟩) 2 2) [[108, 101, 97, 102], x0] := by rw [ewB]; exact strs_two (heap_new rfl)
      rw [← ewB]
      clear ewB
      refine hK.out _ _ (fun _ => HSO.out _ hB) ?_
      clear hK K'
      try simp only [List.setIfInBounds_toArray, List.set_cons_zero, List.set_cons_succ]
      refine hd_one 4 (by kernel_rfl) rfl (by kernel_rfl) rfl (fun K' hK => ?_)
      go_simp
      refine (list_any _ [[108, 101, 97, 102], x0] wB sB HJ0.out (HT7.out _ hB)).mono ?_
      rintro e wC ⟨rfl, hb⟩
      rw [← ED0.out]
      have hC : Fr [] w7 wC := hB.below hb hB.size
      have hnhC : Fr [] wB wC := Fr.ofBelow hb
      clear hb
      refine hK.out _ _ (fun _ => HSO.out _ hC) ?_
      clear hK K'
      have hk := key (.slice (some ⟨wA.heap.size, 0, none⟩) 2 2) (.string ⟨d0.toArray⟩) (.slice (some ⟨W0.heap.size, 0, none⟩) 2 2) wC ⟨⟨_, rfl⟩, rfl, ⟨_, rfl, ((sA.fr0 nhB).fr0 hnhC)⟩, hC⟩
      exact held_same hk (by kernel_rfl) (by kernel_rfl)
  obtain ⟨⟨g1, rfl⟩, rfl, ⟨g2, rfl, hz⟩, hk7⟩ := hR
  simp only [Act.put, List.setIfInBounds_toArray, List.set_cons_zero, List.set_cons_succ]
  refine hd_one 9 (by kernel_rfl) rfl (by kernel_rfl) rfl (fun K' hK => ?_)
  go_simp
  refine (list_any _ [[108, 101, 97, 102], x1] wk hz HJ1.out (HT7.out _ hk7)).mono ?_
  rintro e wl ⟨rfl, hb⟩
  rw [← ED1.out]
  have hl7 : Fr [] w7 wl := hk7.below hb hk7.size
  clear hb
  refine hK.out _ _ (fun _ => HSO.out _ hl7) ?_
  clear hK K' hz
  try simp only [List.setIfInBounds_toArray, List.set_cons_zero, List.set_cons_succ]
  refine hd_one 10 (by kernel_rfl) rfl (by kernel_rfl) rfl (fun K' hK => ?_)
  go_simp
  have hm7 := hl7.alloc (.cells #[.string ⟨#[110, 111, 100, 101]⟩, .string ⟨d0.toArray⟩, .string ⟨d1.toArray⟩] 9)
  refine hK.out _ _ (fun _ => HSO.out _ hm7) ?_
  clear hK K'
  try simp only [List.setIfInBounds_toArray, List.set_cons_zero, List.set_cons_succ]
  refine hd_one 11 (by kernel_rfl) rfl (by kernel_rfl) rfl (fun K' hK => ?_)
  go_simp
  refine (list_any _ [[110, 111, 100, 101], d0, d1] _ (strs_three (heap_new rfl)) HJ2.out (HT7.out _ hm7)).mono ?_
  rintro e wm ⟨rfl, hb⟩
  rw [HND.out]
  have hn7 : Fr [] w7 wm := hm7.below hb hm7.size
  clear hb hm7 hl7
  refine hK.out _ _ (fun _ => HSO.out _ hn7) ?_
  clear hK K'
  try simp only [List.setIfInBounds_toArray, List.set_cons_zero, List.set_cons_succ]
  refine hd_one 12 (by kernel_rfl) rfl (by kernel_rfl) rfl (fun K' hK => ?_)
  go_simp
  refine hK.out _ _ (fun h => absurd rfl h) ?_
  clear hK K'
  refine held_done (by kernel_rfl) ?_
  have D7 := Lib.hid (HD7.out.fr hn7)
  have Q7b := Lib.hid (hn7.at Q7.out (by simp))
  have OV7 := Lib.hid (HOV.out.fr0 hn7)
  have f8 : Fr [] w wm := F7.out.trans hn7 (by simp)
  clear hk7 hn7 HJ0 HJ1 HJ2 ED0 ED1 HSO HT7 HD7 Q7 HOV F7 f7 hh0
  go_wp2_with fail
  have g1 : Fr [] wm (wm.alloc (.cells #[.int .i64 2] 3)) := (Fr.refl [] wm).alloc _
  have z1 : Zs (wm.alloc (.cells #[.int .i64 2] 3)) (.slice (some ⟨wm.heap.size, 0, none⟩) 1 1) [2] := zs_one (heap_new rfl)
  have n1 : (wm.alloc (.cells #[.int .i64 2] 3)).heap.size = wm.heap.size + 1 := by simp
  generalize wm.alloc (.cells #[.int .i64 2] 3) = y1 at g1 z1 n1 ⊢
  have g2 : Fr [] y1 (y1.alloc (.cells #[.string ⟨#[109, 101, 109, 98, 101, 114]⟩] 9)) := (Fr.refl [] y1).alloc _
  have z2 : Strs (y1.alloc (.cells #[.string ⟨#[109, 101, 109, 98, 101, 114]⟩] 9)) (.slice (some ⟨y1.heap.size, 0, none⟩) 1 1) [[109, 101, 109, 98, 101, 114]] := strs_one (heap_new rfl)
  rw [n1] at z2
  generalize y1.alloc (.cells #[.string ⟨#[109, 101, 109, 98, 101, 114]⟩] 9) = y2 at g2 z2 ⊢
  have g12 : Fr [] wm y2 := g1.trans g2 (by simp)
  refine (salt31_any saltH 2 y2 (by decide) (by decide) (HT.out.fr (f8.trans g12 (by simp)))).mono ?_
  rintro e y3 ⟨rfl, hb⟩
  have g3 : Fr [] y2 y3 := Fr.ofBelow hb
  have g13 : Fr [] wm y3 := g12.trans g3 (by simp)
  have Z1 := Lib.hid (z1.fr0 (g2.trans g3 (by simp)))
  have Z2 := Lib.hid (z2.fr0 g3)
  have G13 := Lib.hid g13
  obtain ⟨p1, ep1⟩ : ∃ p, p = wm.heap.size := ⟨_, rfl⟩
  obtain ⟨p2, ep2⟩ : ∃ p, p = wm.heap.size + 1 := ⟨_, rfl⟩
  rw [← ep2] at Z2
  rw [← ep1] at Z1
  try rw [← ep2]
  rw [← ep1]
  obtain ⟨sx, esx⟩ : ∃ x, x = saltS saltH 2 := ⟨_, rfl⟩
  have hsx : sx.length ≤ 16 := by rw [esx, saltS_length]; decide
  rw [← esx]
  have ESX := Lib.hid esx
  have EP1 := Lib.hid ep1
  have EP2 := Lib.hid ep2
  have ho2 : (2 : Int) ≤ (oc : Int) := by omega
  clear ep1 ep2
  clear g1 z1 g2 z2 g12 hb g3 g13 n1 s16 esx
  go_upto_region 10 with (fail)
  obtain ⟨q, eq⟩ : ∃ q, q = y3.heap.size := ⟨_, rfl⟩
  rw [← eq]
  have EQ := Lib.hid eq
  
  obtain ⟨v1, ev1⟩ : ∃ v, v = y3.alloc (.cells #[.string ⟨sx.toArray⟩, .string ⟨ndH.toArray⟩] 9) := ⟨_, rfl⟩
  obtain ⟨v2, ev2⟩ : ∃ v, v = v1.alloc (.cells #[.slice (some ⟨q, 0, none⟩) 2 2] 22) := ⟨_, rfl⟩
  obtain ⟨v3, ev3⟩ : ∃ v, v = v2.alloc (.cells #[.int .i64 3, .slice (some ⟨p1, 0, none⟩) 1 1, .slice (some ⟨p2, 0, none⟩) 1 1, .slice (some ⟨q + 1, 0, none⟩) 1 1] 26) := ⟨_, rfl⟩
  obtain ⟨v4, ev4⟩ : ∃ v, v = v3.alloc (.cells #[.int .i64 3, .slice (some ⟨p1, 0, none⟩) 1 1, .slice (some ⟨q + 1 + 1 + 1 + 1, 0, none⟩) 1 1, .slice (some ⟨q + 1, 0, none⟩) 1 1] 26) := ⟨_, rfl⟩
  obtain ⟨v5, ev5⟩ : ∃ v, v = v4.alloc (.cells #[.string ⟨#[103, 117, 101, 115, 116]⟩] 9) := ⟨_, rfl⟩
  rw [← ev1, ← ev2, ← ev3, ← ev4, ← ev5]
  have k1 : Fr [] y3 v1 := by rw [ev1]; exact (Fr.refl [] y3).alloc _
  have k2 : Fr [] v1 v2 := by rw [ev2]; exact (Fr.refl [] v1).alloc _
  have k3 : Fr [] v2 v3 := by rw [ev3]; exact (Fr.refl [] v2).alloc _
  have k4 : Fr [] v3 v4 := by rw [ev4]; exact (Fr.refl [] v3).alloc _
  have k5 : Fr [] v4 v5 := by rw [ev5]; exact (Fr.refl [] v4).alloc _
  have n1 : v1.heap.size = q + 1 := by rw [ev1, eq]; simp
  have n2 : v2.heap.size = q + 1 + 1 := by rw [ev2, ← n1]; simp
  have n3 : v3.heap.size = q + 1 + 1 + 1 := by rw [ev3, ← n2]; simp
  have n4 : v4.heap.size = q + 1 + 1 + 1 + 1 := by rw [ev4, ← n3]; simp
  have A1 : Strs v1 (.slice (some ⟨y3.heap.size, 0, none⟩) 2 2) [sx, ndH] := by rw [ev1]; exact strs_two (heap_new rfl)
  rw [← eq] at A1
  have B1 : SS v2 (.slice (some ⟨v1.heap.size, 0, none⟩) 1 1) [[sx, ndH]] := ss_one (by rw [ev2]; exact heap_new rfl) (A1.fr0 k2)
  rw [n1] at B1
  have C1 : v3.heap[v2.heap.size]? = some (.cells #[.int .i64 3, .slice (some ⟨p1, 0, none⟩) 1 1, .slice (some ⟨p2, 0, none⟩) 1 1, .slice (some ⟨q + 1, 0, none⟩) 1 1] 26 (0, 0)) := by rw [ev3]; exact heap_new rfl
  rw [n2] at C1
  have D1 : v4.heap[v3.heap.size]? = some (.cells #[.int .i64 3, .slice (some ⟨p1, 0, none⟩) 1 1, .slice (some ⟨q + 1 + 1 + 1 + 1, 0, none⟩) 1 1, .slice (some ⟨q + 1, 0, none⟩) 1 1] 26 (0, 0)) := by rw [ev4]; exact heap_new rfl
  rw [n3] at D1
  have E1 : Strs v5 (.slice (some ⟨v4.heap.size, 0, none⟩) 1 1) [[103, 117, 101, 115, 116]] := by rw [ev5]; exact strs_one (heap_new rfl)
  rw [n4] at E1
  have k35 : Fr [] v3 v5 := k4.trans k5 (by simp)
  have k25 : Fr [] v2 v5 := k3.trans k35 (by simp)
  have ky5 : Fr [] y3 v5 := k1.trans (k2.trans k25 (by simp)) (by simp)
  have DW : Hid (DiscR v5 (.agg #[.int .i64 3, .slice (some ⟨p1, 0, none⟩) 1 1, .slice (some ⟨p2, 0, none⟩) 1 1, .slice (some ⟨q + 1, 0, none⟩) 1 1]) (discH [109, 101, 109, 98, 101, 114])) := Lib.hid (by
    refine ⟨_, _, _, rfl, Z1.out.fr0 ky5, Z2.out.fr0 ky5, ?_⟩
    show SS v5 _ [[saltS saltH 2, ndH]]
    rw [← ESX.out]; exact B1.fr0 k25)
  have DG : Hid (DiscR v5 (.agg #[.int .i64 3, .slice (some ⟨p1, 0, none⟩) 1 1, .slice (some ⟨q + 1 + 1 + 1 + 1, 0, none⟩) 1 1, .slice (some ⟨q + 1, 0, none⟩) 1 1]) (discH [103, 117, 101, 115, 116])) := Lib.hid (by
    refine ⟨_, _, _, rfl, Z1.out.fr0 ky5, E1, ?_⟩
    show SS v5 _ [[saltS saltH 2, ndH]]
    rw [← ESX.out]; exact B1.fr0 k25)
  have C2 := Lib.hid (k35.at C1 (by simp))
  have D2 := Lib.hid (k5.at D1 (by simp))
  have g15 : Fr [] wm v5 := G13.out.trans ky5 (by simp)
  have OV9 := Lib.hid (OV7.out.fr0 g15)
  have DD9 := Lib.hid (D7.out.fr g15)
  have Q9 := Lib.hid (g15.at Q7b.out (by simp))
  have f9 : Fr [] w v5 := f8.trans g15 (by simp)
  clear k1 k2 k3 k4 k5 n1 n2 n3 n4 A1 B1 C1 D1 E1 k35 k25 ky5 Z1 Z2 G13 g15 OV7 D7 Q7b f8 ev1 ev2 ev3 ev4 ev5 eq
  have hxs : Hid (Strs v5 (.slice (some ⟨ob, 0, none⟩) 2 oc) [x0, x1]) := Lib.hid (by rw [EX0.out, EX1.out]; exact OV9.out.pre2)
  have oe : OwnS v5.heap.size (v5.alloc (.cells #[] 9)) (.slice (some ⟨v5.heap.size, 0, none⟩) 0 0) [] := own_empty (Nat.le_refl _)
  have ae : Fr [] v5 (v5.alloc (.cells #[] 9)) := (Fr.refl [] v5).alloc _
  have hx2 := hxs.out.fr0 ae
  go_wp2_with (at_builtin; go_loud (refine wpList_appM rfl (.tmp 50) (.tmp 52) rfl v5.heap.size _ [] [x0, x1] ob 0 2 oc v5 rfl rfl rfl hx2 oe ae (Nat.le_refl _) ae.size (by decide) ?_))
  intro av v6 ho6 h56 _
  obtain ⟨ga, ca, rfl⟩ := ho6.slice (n := 2) rfl (by decide)
  have HO6 := Lib.hid ho6
  clear ho6 hx2 hxs oe ae
  go_wp2_with fail
  refine (salt31_any saltH 2 v6 (by decide) (by decide) (HT.out.fr (f9.trans h56 (by simp)))).mono ?_
  rintro e v7 ⟨rfl, hb⟩
  rw [← ESX.out]
  have h57 : Fr [] v5 v7 := h56.below hb h56.size
  have ho7 := HO6.out.fr (Fr.ofBelow (X := []) hb) (by simp)
  have af : Fr [] v7 (v7.alloc (.cells #[.string ⟨(sx ++ [103, 117, 101, 115, 116]).toArray⟩] 9)) := (Fr.refl [] v7).alloc _
  have ho8 := ho7.fr af (by simp)
  have sg : Strs (v7.alloc (.cells #[.string ⟨(sx ++ [103, 117, 101, 115, 116]).toArray⟩] 9)) (.slice (some ⟨v7.heap.size, 0, none⟩) 1 1) [sx ++ [103, 117, 101, 115, 116]] := strs_one (heap_new rfl)
  have h58 : Fr [] v5 (v7.alloc (.cells #[.string ⟨(sx ++ [103, 117, 101, 115, 116]).toArray⟩] 9)) := h57.alloc _
  clear hb ho7 HO6 h56
  go_wp2_with (at_builtin; go_loud (refine wpList_appM rfl (.tmp 53) (.tmp 56) rfl v5.heap.size _ [x0, x1] [sx ++ [103, 117, 101, 115, 116]] v7.heap.size 0 1 1 v5 rfl rfl rfl sg ho8 h58 (Nat.le_refl _) h58.size (by simp) ?_))
  intro bv v8 ho9 h59 _
  obtain ⟨gb, cb, rfl⟩ := ho9.slice (n := 3) rfl (by decide)
  have HO9 := Lib.hid ho9.strs
  have OV10 := Lib.hid (OV9.out.fr0 h59)
  have HT9 := Lib.hid (HT.out.fr (f9.trans h59 (by simp)))
  have C9 := Lib.hid (h59.at C2.out (by simp))
  have D9 := Lib.hid (h59.at D2.out (by simp))
  have Q10 := Lib.hid (h59.at Q9.out (by simp))
  have DD10 := Lib.hid (DD9.out.fr h59)
  have DW10 := Lib.hid (DW.out.fr h59)
  have DG10 := Lib.hid (DG.out.fr h59)
  have f10 : Fr [] w v8 := f9.trans h59 (by simp)
  clear ho9 sg ho8 h58 h59 h57 af f9 C2 D2 Q9 DD9 DW DG OV9
  go_upto_region 11 with (fail)
  obtain ⟨wb, ewb⟩ : ∃ b, b = q + 1 + 1 := ⟨_, rfl⟩
  obtain ⟨gg, egg⟩ : ∃ b, b = q + 1 + 1 + 1 := ⟨_, rfl⟩
  have c10 : v8.cell? ⟨db, 0, none⟩ = some (.int .i64 3) := by rw [row_cell Q10.out 0]; rfl
  have c11 : v8.cell? ⟨db, 1, none⟩ = some (.slice dwa 1 dwc) := by rw [row_cell Q10.out 1]; rfl
  have c12 : v8.cell? ⟨db, 2, none⟩ = some (.slice dfa 1 dfc) := by rw [row_cell Q10.out 2]; rfl
  have c13 : v8.cell? ⟨db, 3, none⟩ = some (.slice dpa 1 dpc) := by rw [row_cell Q10.out 3]; rfl
  have HRT : Hid (rootL [eleS fieldsH saltH 0, eleS fieldsH saltH 1, eleS fieldsH saltH 2] = root) := Lib.hid (by rw [ER.out]; unfold sealS; rw [elemsH])
  have HCM : Hid (chkD root (discH [109, 101, 109, 98, 101, 114]) = true) := Lib.hid (by rw [chkH, ER.out, sealH]; exact beq_self_eq_true _)
  have HRG : Hid (rootL [x0, x1, sx ++ [103, 117, 101, 115, 116]] = nodeD ndH (leafD (sx ++ [103, 117, 101, 115, 116]))) := Lib.hid (by rw [EX0.out, EX1.out]; exact rootH _)
  have HCG : Hid (chkD root (discH [103, 117, 101, 115, 116]) = (nodeD ndH (leafD (sx ++ [103, 117, 101, 115, 116])) == root)) := Lib.hid (by rw [chkH, ESX.out])
  have HSM : Hid (sameD (discH [109, 101, 109, 98, 101, 114]) (discH [109, 101, 109, 98, 101, 114]) = true) := Lib.hid (decide_eq_true ⟨rfl, rfl, rfl, rfl⟩)
  have dsm : ∀ m : List UInt8, m.length ≤ 100 → DSmall (discH m) := fun m hm => ⟨(show (-9223372036854775808 : Int) ≤ 3 ∧ (3 : Int) < 9223372036854775808 from by decide), fun s hs => by rw [List.mem_singleton.1 hs]; omega, fun l hl s hs => by
    rw [List.mem_singleton.1 hl] at hs
    rcases List.mem_cons.1 hs with rfl | hs
    · rw [saltS_length]; decide
    · rw [List.mem_singleton.1 hs]; unfold ndH nodeD; rw [dlist_len]; decide⟩
  have HDS := Lib.hid dsm
  have HSH : Hid (∀ s ∈ [eleS fieldsH saltH 0, eleS fieldsH saltH 1, eleS fieldsH saltH 2], s.length ≤ 1000000) := Lib.hid (by rw [← elemsH]; exact elemsL_short fieldsH_short)
  clear dsm ewb egg wb gg c10 c11 c12 c13
  go_wp2_with fail
  refine (root_any _ _ v8 OV10.out (by simp) HSH.out HT9.out).mono ?_
  rintro e u1 ⟨rfl, hb⟩
  rw [HRT.out]
  have hu1 : Fr [] v8 u1 := Fr.ofBelow hb
  clear hb
  have q10 := hu1.at Q10.out (by simp)
  have q11 := hu1.at C9.out (by simp)
  have c10 : u1.cell? ⟨db, 0, none⟩ = some (.int .i64 3) := by rw [row_cell q10 0]; rfl
  have c11 : u1.cell? ⟨db, 1, none⟩ = some (.slice dwa 1 dwc) := by rw [row_cell q10 1]; rfl
  have c12 : u1.cell? ⟨db, 2, none⟩ = some (.slice dfa 1 dfc) := by rw [row_cell q10 2]; rfl
  have c13 : u1.cell? ⟨db, 3, none⟩ = some (.slice dpa 1 dpc) := by rw [row_cell q10 3]; rfl
  have c20 : u1.cell? ⟨q + 1 + 1, 0, none⟩ = some (.int .i64 3) := by rw [row_cell q11 0]; rfl
  have c21 : u1.cell? ⟨q + 1 + 1, 1, none⟩ = some (.slice (some ⟨p1, 0, none⟩) 1 1) := by rw [row_cell q11 1]; rfl
  have c22 : u1.cell? ⟨q + 1 + 1, 2, none⟩ = some (.slice (some ⟨p2, 0, none⟩) 1 1) := by rw [row_cell q11 2]; rfl
  have c23 : u1.cell? ⟨q + 1 + 1, 3, none⟩ = some (.slice (some ⟨q + 1, 0, none⟩) 1 1) := by rw [row_cell q11 3]; rfl
  clear q10 q11
  go_wp2_with fail
  refine (rsame31_any _ _ _ _ u1 (DD10.out.fr hu1) (DW10.out.fr hu1)).mono ?_
  rintro e u2 ⟨rfl, hb⟩
  rw [HSM.out]
  have hu2 : Fr [] v8 u2 := hu1.below hb hu1.size
  clear hb c10 c11 c12 c13 c20 c21 c22 c23
  have q10 := hu2.at Q10.out (by simp)
  have q11 := hu2.at D9.out (by simp)
  have c10 : u2.cell? ⟨db, 0, none⟩ = some (.int .i64 3) := by rw [row_cell q10 0]; rfl
  have c11 : u2.cell? ⟨db, 1, none⟩ = some (.slice dwa 1 dwc) := by rw [row_cell q10 1]; rfl
  have c12 : u2.cell? ⟨db, 2, none⟩ = some (.slice dfa 1 dfc) := by rw [row_cell q10 2]; rfl
  have c13 : u2.cell? ⟨db, 3, none⟩ = some (.slice dpa 1 dpc) := by rw [row_cell q10 3]; rfl
  have c20 : u2.cell? ⟨q + 1 + 1 + 1, 0, none⟩ = some (.int .i64 3) := by rw [row_cell q11 0]; rfl
  have c21 : u2.cell? ⟨q + 1 + 1 + 1, 1, none⟩ = some (.slice (some ⟨p1, 0, none⟩) 1 1) := by rw [row_cell q11 1]; rfl
  have c22 : u2.cell? ⟨q + 1 + 1 + 1, 2, none⟩ = some (.slice (some ⟨q + 1 + 1 + 1 + 1, 0, none⟩) 1 1) := by rw [row_cell q11 2]; rfl
  have c23 : u2.cell? ⟨q + 1 + 1 + 1, 3, none⟩ = some (.slice (some ⟨q + 1, 0, none⟩) 1 1) := by rw [row_cell q11 3]; rfl
  clear q10 q11
  go_wp2_with fail
  refine (checkD_any root _ (discH [109, 101, 109, 98, 101, 114]) u2 (DD10.out.fr hu2) (HDS.out _ (by decide)) (HT9.out.fr hu2)).mono ?_
  rintro e u3 ⟨rfl, hb⟩
  rw [HCM.out]
  have hu3 : Fr [] v8 u3 := hu2.below hb hu2.size
  clear hb c10 c11 c12 c13 c20 c21 c22 c23
  have q10 := hu3.at Q10.out (by simp)
  have q11 := hu3.at D9.out (by simp)
  have c10 : u3.cell? ⟨db, 0, none⟩ = some (.int .i64 3) := by rw [row_cell q10 0]; rfl
  have c11 : u3.cell? ⟨db, 1, none⟩ = some (.slice dwa 1 dwc) := by rw [row_cell q10 1]; rfl
  have c12 : u3.cell? ⟨db, 2, none⟩ = some (.slice dfa 1 dfc) := by rw [row_cell q10 2]; rfl
  have c13 : u3.cell? ⟨db, 3, none⟩ = some (.slice dpa 1 dpc) := by rw [row_cell q10 3]; rfl
  have c20 : u3.cell? ⟨q + 1 + 1 + 1, 0, none⟩ = some (.int .i64 3) := by rw [row_cell q11 0]; rfl
  have c21 : u3.cell? ⟨q + 1 + 1 + 1, 1, none⟩ = some (.slice (some ⟨p1, 0, none⟩) 1 1) := by rw [row_cell q11 1]; rfl
  have c22 : u3.cell? ⟨q + 1 + 1 + 1, 2, none⟩ = some (.slice (some ⟨q + 1 + 1 + 1 + 1, 0, none⟩) 1 1) := by rw [row_cell q11 2]; rfl
  have c23 : u3.cell? ⟨q + 1 + 1 + 1, 3, none⟩ = some (.slice (some ⟨q + 1, 0, none⟩) 1 1) := by rw [row_cell q11 3]; rfl
  clear q10 q11
  have HOS : Hid (∀ s ∈ [x0, x1, sx ++ [103, 117, 101, 115, 116]], s.length ≤ 1000000) := Lib.hid (fun s hs => by
    rcases List.mem_cons.1 hs with rfl | hs
    · omega
    · rcases List.mem_cons.1 hs with rfl | hs
      · omega
      · rw [List.mem_singleton.1 hs, List.length_append]; simp; omega)
  obtain ⟨rg, erg⟩ : ∃ r, r = nodeD ndH (leafD (sx ++ [103, 117, 101, 115, 116])) := ⟨_, rfl⟩
  rw [← erg] at HRG HCG
  clear erg hu1 hu2
  by_cases hr : rg = root
  · have HCG2 : Hid (chkD root (discH [103, 117, 101, 115, 116]) = true) := Lib.hid (by rw [HCG.out, hr]; exact beq_self_eq_true _)
    have HRG2 : Hid (rootL [x0, x1, sx ++ [103, 117, 101, 115, 116]] = root) := Lib.hid (by rw [HRG.out, hr])
    clear hr
    go_wp2_with fail
    refine (checkD_any root _ (discH [103, 117, 101, 115, 116]) u3 (DG10.out.fr hu3) (HDS.out _ (by decide)) (HT9.out.fr hu3)).mono ?_
    rintro e u4 ⟨rfl, hb⟩
    rw [HCG2.out]
    have hu4 : Fr [] v8 u4 := hu3.below hb hu3.size
    clear hb
    go_wp2_with fail
    refine (root_any _ [x0, x1, sx ++ [103, 117, 101, 115, 116]] u4 (HO9.out.fr0 hu4) (by simp) HOS.out (HT9.out.fr hu4)).mono ?_
    rintro e u5 ⟨rfl, hb⟩
    rw [HRG2.out]
    have hu5 : Fr [] v8 u5 := hu4.below hb hu4.size
    clear hb
    go_wp2_with fail
    go_ret
    exact ⟨rfl, (f10.trans hu5 (by simp)).toBelow (by simp)⟩
  · have HCG2 : Hid (chkD root (discH [103, 117, 101, 115, 116]) = false) := Lib.hid (by rw [HCG.out]; exact beq_eq_false_iff_ne.2 hr)
    have HRG2 := HRG
    have t1 : (rg == root) = false := beq_eq_false_iff_ne.2 hr
    have t2 : decide (rg = root) = false := decide_eq_false hr
    go_wp2_with fail
    refine (checkD_any root _ (discH [103, 117, 101, 115, 116]) u3 (DG10.out.fr hu3) (HDS.out _ (by decide)) (HT9.out.fr hu3)).mono ?_
    rintro e u4 ⟨rfl, hb⟩
    rw [HCG2.out]
    have hu4 : Fr [] v8 u4 := hu3.below hb hu3.size
    clear hb
    go_wp2_with fail
    refine (root_any _ [x0, x1, sx ++ [103, 117, 101, 115, 116]] u4 (HO9.out.fr0 hu4) (by simp) HOS.out (HT9.out.fr hu4)).mono ?_
    rintro e u5 ⟨rfl, hb⟩
    rw [HRG2.out]
    have hu5 : Fr [] v8 u5 := hu4.below hb hu4.size
    clear hb
    go_wp2_with fail
    go_ret
    exact ⟨rfl, (f10.trans hu5 (by simp)).toBelow (by simp)⟩
end Go.Proofs.YtmhejcndkplepaaDoor
