/-
  foyerref30.Text.
-/
import Derived.Test.YtcblpfepkkkilaaGreatDoorRtD
import Derived.Test.YtcblpfepkkkilaaGreatDoorRtE
import Derived.Test.YtcblpfepkkkilaaGreatDoorPlnHt
namespace Go.Proofs.YtcblpfepkkkilaaGreatDoor
open Go.RowKit

/-- A blank and a word behind a text. -/
theorem ba_word (a b : List UInt8) : (⟨a.toArray⟩ : ByteArray) ++ ⟨#[32]⟩ ++ ⟨b.toArray⟩ = ⟨(a ++ 32 :: b).toArray⟩ := by
  rw [show (⟨#[32]⟩ : ByteArray) = ⟨[32].toArray⟩ by rfl, ba_append, ba_append]
  simp
/-- The words of a title with some of its transfers. -/
def wordsN (t : Ttl) (k : Nat) : List (List UInt8) := [Lib.itoa t.serial, Lib.itoa t.shw, Lib.itoa t.place, t.first] ++ chainW (t.chain.take k)
theorem wordsN_all (t : Ttl) : wordsN t t.chain.length = wordsT t := by unfold wordsN wordsT; rw [List.take_length]
theorem wordsN_succ (t : Ttl) (k : Nat) (x : Trf) (hx : t.chain[k]? = some x) : wordsN t (k + 1) = wordsN t k ++ (x.nk :: x.sig) := by
  unfold wordsN chainW
  rw [List.take_add_one, hx, List.flatMap_append, List.append_assoc]
  simp
theorem wordsN_zero (t : Ttl) : spS (wordsN t 0) = Lib.itoa t.serial ++ 32 :: (Lib.itoa t.shw ++ 32 :: (Lib.itoa t.place ++ 32 :: t.first)) := by
  simp [wordsN, chainW, spS]
theorem wordsM_len (t : Ttl) (hN : TNum t) (hd : isD t.first = true) (hall : t.chain.all formX = true) (k : Nat) (x : Trf) (hx : formX x = true) (m : Nat) (hk : k ≤ 50) : (spS (wordsN t k ++ (x.nk :: x.sig.take m))).length ≤ 100000 := by
  refine Nat.le_trans (spS_sum _) ?_
  unfold wordsN
  obtain ⟨e1, e2, e3⟩ := formX_parts hx
  have ha : (t.chain.take k).all formX = true := List.all_eq_true.2 fun y hy => List.all_eq_true.1 hall y (List.mem_of_mem_take hy)
  have hs : (x.sig.take m).all isD = true := List.all_eq_true.2 fun y hy => List.all_eq_true.1 e3 y (List.mem_of_mem_take hy)
  rw [List.map_append, List.sum_append, List.map_append, List.sum_append, chainW_sum _ ha]
  simp only [List.map_cons, List.map_nil, List.sum_cons, List.sum_nil]
  rw [sum_16 _ hs, isD_16 e2, List.length_take, List.length_take]
  have h1 := Lib.itoa_length_le t.serial hN.s.1 hN.s.2
  have h2 := Lib.itoa_length_le t.shw hN.h.1 hN.h.2
  have h3 := Lib.itoa_length_le t.place hN.p.1 hN.p.2
  have h4 := isD_16 hd
  omega
set_option maxRecDepth 100000 in
set_option maxHeartbeats 4000000 in
theorem rtext30_any (v : Value) (t : Ttl) (w : World) (hv : TtlR w v t) (hS : TSmall t) :
    Calls Tryz.prog 21 #[v] w fun e w' => e = .returned (.string ⟨(textT t).toArray⟩) ∧ Below w.heap.size w w' := by
  have hmx : Tryz.prog.follows .mixedOrders = true := by kernel_rfl
  obtain ⟨cv, rfl, hc⟩ := hv
  obtain ⟨a, cap, rfl, _, _, ha⟩ := hc.form
  have HS := Lib.hid hS
  clear hS
  obtain ⟨W0, hW0⟩ : ∃ W0, W0 = w.alloc (.cells #[.int .i64 t.serial, .int .i64 t.shw, .int .i64 t.place, .string ⟨t.first.toArray⟩, .slice a t.chain.length cap] 24) := ⟨_, rfl⟩
  obtain ⟨p, ep⟩ : ∃ p, p = w.heap.size := ⟨_, rfl⟩
  have h0 : Fr [] w W0 := by rw [hW0]; exact (Fr.refl [] w).alloc _
  have hp0 : W0.heap[p]? = some (.cells #[.int .i64 t.serial, .int .i64 t.shw, .int .i64 t.place, .string ⟨t.first.toArray⟩, .slice a t.chain.length cap] 24 (0, 0)) := by rw [hW0]; exact heap_new ep
  have c0 := row_cell hp0 0
  have c1 := row_cell hp0 1
  have c2 := row_cell hp0 2
  have c3 := row_cell hp0 3
  have c4 := row_cell hp0 4
  simp at c0 c1 c2 c3 c4
  rw [hW0, ep] at c0 c1 c2 c3 c4
  have HC := Lib.hid (hc.fr h0)
  clear hc
  go_enter Tryz.func21, Tryz.ntmps21
  go_wp2_with fail
  rw [← hW0, ← ep]
  clear hW0 ep c0 c1 c2 c3 c4
  refine (rformed30_any _ t W0 ⟨_, rfl, HC.out⟩ HS.out).mono ?_
  rintro e w1 ⟨rfl, hb1⟩
  have h01 : Fr [] W0 w1 := Fr.ofBelow hb1
  have hp0 := h01.at hp0 (by simp)
  have HC := Lib.hid (HC.out.fr h01)
  have h1 := h0.trans h01 (by simp)
  clear hb1 h01 h0
  cases hf : formedT t with
  | false =>
    have HR : Hid (textT t = []) := Lib.hid (textT_nil hf)
    clear hf
    go_wp2_with fail
    go_ret
    exact ⟨by rw [HR.out]; rfl, h1.toBelow (by simp)⟩
  | true =>
    have HR : Hid (textT t = spS (wordsT t)) := Lib.hid (by unfold textT; rw [if_pos hf])
    have HP := Lib.hid (formedT_parts hf)
    have HF := Lib.hid (formedT_parts hf).2.2.2.2.2
    clear hf
    have n1 := HS.out.s
    have n2 := HS.out.h
    have n3 := HS.out.p
    obtain ⟨A, eA⟩ : ∃ A, A = Lib.itoa t.serial := ⟨_, rfl⟩
    have lA : A.length ≤ 21 := by rw [eA]; exact Lib.itoa_length_le _ (by omega) (by omega)
    have EA := Lib.hid eA
    clear eA
    obtain ⟨B, eB⟩ : ∃ B, B = Lib.itoa t.shw := ⟨_, rfl⟩
    have lB : B.length ≤ 21 := by rw [eB]; exact Lib.itoa_length_le _ (by omega) (by omega)
    have EB := Lib.hid eB
    clear eB
    obtain ⟨C, eC⟩ : ∃ C, C = Lib.itoa t.place := ⟨_, rfl⟩
    have lC : C.length ≤ 21 := by rw [eC]; exact Lib.itoa_length_le _ (by omega) (by omega)
    have EC := Lib.hid eC
    clear eC
    have lF : t.first.length ≤ 100 := by rw [isD_16 HP.out.2.2.2.1]; decide
    have c0 := row_cell hp0 0
    have c1 := row_cell hp0 1
    have c2 := row_cell hp0 2
    have c3 := row_cell hp0 3
    have c4 := row_cell hp0 4
    simp at c0 c1 c2 c3 c4
    have HH1 := Lib.hid h1
    go_wp2_with fail
    have gr0 : Fr [] w1 w1.drew := (Fr.refl [] w1).drew
    have hSr0 : w1.drew.cell? ⟨p, 0, none⟩ = some (.int .i64 t.serial) ∧ w1.drew.cell? ⟨p, 1, none⟩ = some (.int .i64 t.shw) ∧ w1.drew.cell? ⟨p, 2, none⟩ = some (.int .i64 t.place) ∧ w1.drew.cell? ⟨p, 3, none⟩ = some (.string ⟨t.first.toArray⟩) ∧ w1.drew.cell? ⟨p, 4, none⟩ = some (.slice a t.chain.length cap) := ⟨gr0.cell c0 (by simp), gr0.cell c1 (by simp), gr0.cell c2 (by simp), gr0.cell c3 (by simp), gr0.cell c4 (by simp)⟩
    refine region_held 100 (fun W' => W'.cell? ⟨p, 0, none⟩ = some (.int .i64 t.serial) ∧ W'.cell? ⟨p, 1, none⟩ = some (.int .i64 t.shw) ∧ W'.cell? ⟨p, 2, none⟩ = some (.int .i64 t.place) ∧ W'.cell? ⟨p, 3, none⟩ = some (.string ⟨t.first.toArray⟩) ∧ W'.cell? ⟨p, 4, none⟩ = some (.slice a t.chain.length cap)) hmx ?_
    change Held _ _ _ _ _ _ 18 (Array.replicate 18 false) _ _
    refine hd_take 0 (v := .pointer (some ⟨p, 0, none⟩)) rfl (by kernel_rfl) (by kernel_rfl) (by kernel_rfl) rfl hSr0 (fun W' hS => by go_simp) rfl ?_
    refine hd_take 4 (v := .pointer (some ⟨p, 1, none⟩)) rfl (by kernel_rfl) (by kernel_rfl) (by kernel_rfl) rfl hSr0 (fun W' hS => by go_simp) rfl ?_
    refine hd_take 9 (v := .pointer (some ⟨p, 2, none⟩)) rfl (by kernel_rfl) (by kernel_rfl) (by kernel_rfl) rfl hSr0 (fun W' hS => by go_simp) rfl ?_
    refine hd_take 14 (v := .pointer (some ⟨p, 3, none⟩)) rfl (by kernel_rfl) (by kernel_rfl) (by kernel_rfl) rfl hSr0 (fun W' hS => by go_simp) rfl ?_
    try simp only [Act.put, List.setIfInBounds_toArray, List.set_cons_zero, List.set_cons_succ]
    refine hd_take 1 (v := .int .i64 t.serial) rfl (by kernel_rfl) (by kernel_rfl) (by kernel_rfl) rfl hSr0 (fun W' hS => by obtain ⟨s0, s1, s2, s3, s4⟩ := hS; go_simp) rfl ?_
    refine hd_take 5 (v := .int .i64 t.shw) rfl (by kernel_rfl) (by kernel_rfl) (by kernel_rfl) rfl hSr0 (fun W' hS => by obtain ⟨s0, s1, s2, s3, s4⟩ := hS; go_simp) rfl ?_
    refine hd_take 10 (v := .int .i64 t.place) rfl (by kernel_rfl) (by kernel_rfl) (by kernel_rfl) rfl hSr0 (fun W' hS => by obtain ⟨s0, s1, s2, s3, s4⟩ := hS; go_simp) rfl ?_
    refine hd_take 15 (v := .string ⟨t.first.toArray⟩) rfl (by kernel_rfl) (by kernel_rfl) (by kernel_rfl) rfl hSr0 (fun W' hS => by obtain ⟨s0, s1, s2, s3, s4⟩ := hS; go_simp) rfl ?_
    try simp only [Act.put, List.setIfInBounds_toArray, List.set_cons_zero, List.set_cons_succ]
    refine hd_one 2 (by kernel_rfl) rfl (by kernel_rfl) rfl (fun K' hK => ?_)
    go_simp
    refine (r30dec_any t.serial w1.drew n1.1 n1.2).mono ?_
    rintro e yr1 ⟨rfl, hbb⟩
    have gr1 : Fr [] w1 yr1 := gr0.below hbb gr0.size
    clear hbb
    have hSr1 : yr1.cell? ⟨p, 0, none⟩ = some (.int .i64 t.serial) ∧ yr1.cell? ⟨p, 1, none⟩ = some (.int .i64 t.shw) ∧ yr1.cell? ⟨p, 2, none⟩ = some (.int .i64 t.place) ∧ yr1.cell? ⟨p, 3, none⟩ = some (.string ⟨t.first.toArray⟩) ∧ yr1.cell? ⟨p, 4, none⟩ = some (.slice a t.chain.length cap) := ⟨gr1.cell c0 (by simp), gr1.cell c1 (by simp), gr1.cell c2 (by simp), gr1.cell c3 (by simp), gr1.cell c4 (by simp)⟩
    refine hK.out _ _ (fun _ => hSr1) ?_
    clear hK K'
    try simp only [Act.put, List.setIfInBounds_toArray, List.set_cons_zero, List.set_cons_succ]
    rw [← EA.out]
    refine hd_take 3 (v := .string (⟨A.toArray⟩ ++ ⟨#[32]⟩)) rfl (by kernel_rfl) (by kernel_rfl) (by kernel_rfl) rfl hSr1 (fun W' hS => by go_simp; omega) rfl ?_
    try simp only [Act.put, List.setIfInBounds_toArray, List.set_cons_zero, List.set_cons_succ]
    refine hd_one 6 (by kernel_rfl) rfl (by kernel_rfl) rfl (fun K' hK => ?_)
    go_simp
    refine (r30dec_any t.shw yr1 n2.1 n2.2).mono ?_
    rintro e yr2 ⟨rfl, hbb⟩
    have gr2 : Fr [] w1 yr2 := gr1.below hbb gr1.size
    clear hbb
    have hSr2 : yr2.cell? ⟨p, 0, none⟩ = some (.int .i64 t.serial) ∧ yr2.cell? ⟨p, 1, none⟩ = some (.int .i64 t.shw) ∧ yr2.cell? ⟨p, 2, none⟩ = some (.int .i64 t.place) ∧ yr2.cell? ⟨p, 3, none⟩ = some (.string ⟨t.first.toArray⟩) ∧ yr2.cell? ⟨p, 4, none⟩ = some (.slice a t.chain.length cap) := ⟨gr2.cell c0 (by simp), gr2.cell c1 (by simp), gr2.cell c2 (by simp), gr2.cell c3 (by simp), gr2.cell c4 (by simp)⟩
    refine hK.out _ _ (fun _ => hSr2) ?_
    clear hK K'
    try simp only [Act.put, List.setIfInBounds_toArray, List.set_cons_zero, List.set_cons_succ]
    rw [← EB.out]
    refine hd_take 7 (v := .string (⟨A.toArray⟩ ++ ⟨#[32]⟩ ++ ⟨B.toArray⟩)) rfl (by kernel_rfl) (by kernel_rfl) (by kernel_rfl) rfl hSr2 (fun W' hS => by go_simp; omega) rfl ?_
    try simp only [Act.put, List.setIfInBounds_toArray, List.set_cons_zero, List.set_cons_succ]
    refine hd_take 8 (v := .string (⟨A.toArray⟩ ++ ⟨#[32]⟩ ++ ⟨B.toArray⟩ ++ ⟨#[32]⟩)) rfl (by kernel_rfl) (by kernel_rfl) (by kernel_rfl) rfl hSr2 (fun W' hS => by go_simp; omega) rfl ?_
    try simp only [Act.put, List.setIfInBounds_toArray, List.set_cons_zero, List.set_cons_succ]
    refine hd_one 11 (by kernel_rfl) rfl (by kernel_rfl) rfl (fun K' hK => ?_)
    go_simp
    refine (r30dec_any t.place yr2 n3.1 n3.2).mono ?_
    rintro e yr3 ⟨rfl, hbb⟩
    have gr3 : Fr [] w1 yr3 := gr2.below hbb gr2.size
    clear hbb
    have hSr3 : yr3.cell? ⟨p, 0, none⟩ = some (.int .i64 t.serial) ∧ yr3.cell? ⟨p, 1, none⟩ = some (.int .i64 t.shw) ∧ yr3.cell? ⟨p, 2, none⟩ = some (.int .i64 t.place) ∧ yr3.cell? ⟨p, 3, none⟩ = some (.string ⟨t.first.toArray⟩) ∧ yr3.cell? ⟨p, 4, none⟩ = some (.slice a t.chain.length cap) := ⟨gr3.cell c0 (by simp), gr3.cell c1 (by simp), gr3.cell c2 (by simp), gr3.cell c3 (by simp), gr3.cell c4 (by simp)⟩
    refine hK.out _ _ (fun _ => hSr3) ?_
    clear hK K'
    try simp only [Act.put, List.setIfInBounds_toArray, List.set_cons_zero, List.set_cons_succ]
    rw [← EC.out]
    refine hd_take 12 (v := .string (⟨A.toArray⟩ ++ ⟨#[32]⟩ ++ ⟨B.toArray⟩ ++ ⟨#[32]⟩ ++ ⟨C.toArray⟩)) rfl (by kernel_rfl) (by kernel_rfl) (by kernel_rfl) rfl hSr3 (fun W' hS => by go_simp; omega) rfl ?_
    try simp only [Act.put, List.setIfInBounds_toArray, List.set_cons_zero, List.set_cons_succ]
    refine hd_take 13 (v := .string (⟨A.toArray⟩ ++ ⟨#[32]⟩ ++ ⟨B.toArray⟩ ++ ⟨#[32]⟩ ++ ⟨C.toArray⟩ ++ ⟨#[32]⟩)) rfl (by kernel_rfl) (by kernel_rfl) (by kernel_rfl) rfl hSr3 (fun W' hS => by go_simp; omega) rfl ?_
    try simp only [Act.put, List.setIfInBounds_toArray, List.set_cons_zero, List.set_cons_succ]
    refine hd_take 16 (v := .string (⟨A.toArray⟩ ++ ⟨#[32]⟩ ++ ⟨B.toArray⟩ ++ ⟨#[32]⟩ ++ ⟨C.toArray⟩ ++ ⟨#[32]⟩ ++ ⟨t.first.toArray⟩)) rfl (by kernel_rfl) (by kernel_rfl) (by kernel_rfl) rfl hSr3 (fun W' hS => by go_simp; omega) rfl ?_
    try simp only [Act.put, List.setIfInBounds_toArray, List.set_cons_zero, List.set_cons_succ]
    refine hd_take 17 (v := .string (⟨A.toArray⟩ ++ ⟨#[32]⟩ ++ ⟨B.toArray⟩ ++ ⟨#[32]⟩ ++ ⟨C.toArray⟩ ++ ⟨#[32]⟩ ++ ⟨t.first.toArray⟩)) rfl (by kernel_rfl) (by kernel_rfl) (by kernel_rfl) rfl hSr3 (fun W' hS => by go_simp) rfl ?_
    try simp only [Act.put, List.setIfInBounds_toArray, List.set_cons_zero, List.set_cons_succ]
    refine held_done (by kernel_rfl) ?_
    have he : ((⟨A.toArray⟩ ++ ⟨#[32]⟩ ++ ⟨B.toArray⟩ ++ ⟨#[32]⟩ ++ ⟨C.toArray⟩ ++ ⟨#[32]⟩ ++ ⟨t.first.toArray⟩) : ByteArray) = ⟨(spS (wordsN t 0)).toArray⟩ := by
      rw [wordsN_zero, ← EA.out, ← EB.out, ← EC.out]
      apply ByteArray.ext
      simp
    rw [he]
    have hf1 := h1.trans gr3 (by simp)
    have hp0 := gr3.at hp0 (by simp)
    have HC := Lib.hid (HC.out.fr gr3)
    clear he
    generalize yr3 = z at hf1 hp0 HC ⊢
    clear c0 c1 c2 c3 c4
    skip
    have hw := Fr.refl [] z
    clear hw
    have BND := Lib.hid (fun k m x (hx : formX x = true) (hk : k ≤ 50) => wordsM_len t HS.out.toTNum HP.out.2.2.2.1 HF.out k x hx m hk)
    have hc50 := HP.out.2.2.2.2.1
    clear n1 n2 n3 lA lB lC lF h1
    go_wp2_with fail
    go_loopg [3, 4] t.chain.length (fun gh out i wr => ∃ k : Nat, k ≤ t.chain.length ∧ gh = t.chain.length - k ∧ i = .int .i64 (k : Int) ∧ out = .string ⟨(spS (wordsN t k)).toArray⟩ ∧ z = wr)
    case atStart => exact ⟨0, by omega, by omega, rfl, rfl, rfl⟩
    case round =>
      obtain ⟨k, hk, hgh, rfl, rfl, rfl⟩ := hrel
      have HG := Lib.hid hgh
      clear hgh
      have c0 := row_cell hp0 0
      have c1 := row_cell hp0 1
      have c2 := row_cell hp0 2
      have c3 := row_cell hp0 3
      have c4 := row_cell hp0 4
      simp at c0 c1 c2 c3 c4
      by_cases hlt : k < t.chain.length
      · have t1 : decide ((k : Int) < (t.chain.length : Int)) = true := by simp; omega
        obtain ⟨b, off, rfl⟩ := ha k hlt
        obtain ⟨x, hx⟩ : ∃ x, t.chain[k]? = some x := ⟨_, List.getElem?_eq_getElem hlt⟩
        obtain ⟨e0, u, e1, hu⟩ := HC.out.cells k x hx
        obtain ⟨sa, sc, rfl, _, _, hsa⟩ := hu.form
        have HFX := Lib.hid (List.all_eq_true.1 HF.out x (List.mem_of_getElem? hx))
        have HU := Lib.hid hu
        have H18 := Lib.hid (formX_parts HFX.out).1
        have HSU := Lib.hid (wordsN_succ t k x hx)
        have i0 : (0 : Int) ≤ (k : Int) := by omega
        have i1 : (k : Int) < (t.chain.length : Int) := by omega
        have HS1 : Hid (spS (wordsN t k ++ (x.nk :: x.sig.take 0)) = spS (wordsN t k) ++ 32 :: x.nk) := Lib.hid (by rw [List.take_zero]; exact spS_snoc _ _ (by simp [wordsN]))
        have hb0 := BND.out k 0 x HFX.out (by omega)
        rw [HS1.out] at hb0
        rw [List.length_append, List.length_cons] at hb0
        have HOU : Hid (spS (wordsN t (k + 1)) = spS (wordsN t k ++ (x.nk :: x.sig.take 18))) := Lib.hid (by rw [HSU.out, List.take_of_length_le (by rw [H18.out]; exact Nat.le_refl _)])
        have BK := Lib.hid (fun m => BND.out k m x HFX.out (by omega))
        have HNX : Hid (∀ m, m < x.sig.length → spS (wordsN t k ++ (x.nk :: x.sig.take (m + 1))) = spS (wordsN t k ++ (x.nk :: x.sig.take m)) ++ 32 :: x.sig.getD m []) := Lib.hid (fun m hm => by
          rw [take_snoc' _ m [] hm, ← List.cons_append, ← List.append_assoc]
          exact spS_snoc _ _ (by simp))
        obtain ⟨o, eo⟩ : ∃ o, o = spS (wordsN t k) := ⟨_, rfl⟩
        rw [← eo] at hb0 HS1 ⊢
        have HEO := Lib.hid eo
        have hbw := ba_word o x.nk
        rw [← HS1.out] at hbw
        clear eo hx hu
        go_wp2_with fail
        go_loopg [3, 5] 18 (fun gi out j wi => ∃ m : Nat, m ≤ 18 ∧ gi = 18 - m ∧ j = .int .i64 (m : Int) ∧ out = .string ⟨(spS (wordsN t k ++ (x.nk :: x.sig.take m))).toArray⟩ ∧ z = wi)
        case atStart => exact ⟨0, by omega, by omega, rfl, rfl, rfl⟩
        case round =>
          obtain ⟨m, hm, hgi, rfl, rfl, rfl⟩ := hrel
          have HG2 := Lib.hid hgi
          clear hgi
          by_cases hlm : m < 18
          · have t2 : decide ((m : Int) < 18) = true := by simp; omega
            have hlm2 : m < x.sig.length := by rw [H18.out]; exact hlm
            obtain ⟨sb, so, rfl⟩ := hsa m hlm2
            have hcs := HU.out.cell m hlm2
            have hb1 := BK.out (m + 1)
            have hnx := HNX.out m hlm2
            rw [hnx] at hb1
            rw [List.length_append, List.length_cons] at hb1
            obtain ⟨o2, eo2⟩ : ∃ o, o = spS (wordsN t k ++ (x.nk :: x.sig.take m)) := ⟨_, rfl⟩
            rw [← eo2] at hb1 hnx ⊢
            obtain ⟨o3, eo3⟩ : ∃ o, o = spS (wordsN t k ++ (x.nk :: x.sig.take (m + 1))) := ⟨_, rfl⟩
            rw [← eo3] at hnx
            have HE3 := Lib.hid eo3
            generalize x.sig.getD m [] = s at hcs hb1 hnx
            have hbs := ba_word o2 s
            rw [← hnx] at hbs
            have i2 : (0 : Int) ≤ (m : Int) := by omega
            have i3 : (m : Int) < (x.sig.length : Int) := by omega
            clear eo2 eo3 hnx hb0 hbw
            go_wp2_with fail
            go_roundg (18 - (m + 1))
            case measure => have := HG2.out; omega
            case rel => exact ⟨m + 1, by omega, rfl, by go_num, by rw [HE3.out], rfl⟩
          · obtain rfl : m = 18 := by omega
            have t2 : decide ((18 : Int) < 18) = false := by decide
            rw [← HOU.out]
            go_wp2_with fail
            go_roundg (t.chain.length - (k + 1))
            case measure => have := HG.out; omega
            case rel => exact ⟨k + 1, by omega, rfl, by go_num, rfl, rfl⟩
      · obtain rfl : k = t.chain.length := by omega
        have t1 : decide ((t.chain.length : Int) < (t.chain.length : Int)) = false := by simp
        have HX : Hid (textT t = spS (wordsN t t.chain.length)) := Lib.hid (by rw [HR.out, wordsN_all])
        go_wp2_with fail
        go_ret
        exact ⟨by rw [HX.out]; rfl, hf1.toBelow (by simp)⟩
end Go.Proofs.YtcblpfepkkkilaaGreatDoor
