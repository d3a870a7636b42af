/-
  title.Text.
-/
import Derived.Test.YtcblpfepkkkilaaGreatDoorTtF
import Derived.Test.YtcblpfepkkkilaaGreatDoorPlnTt
import Derived.Test.YtcblpfepkkkilaaGreatDoorPlnSq
import Derived.Test.YtcblpfepkkkilaaGreatDoorJoinN
namespace Go.Proofs.YtcblpfepkkkilaaGreatDoor
open Go.RowKit

theorem wordsT_cut0 (t : Ttl) : wordsT (cutT t 0) = [Lib.itoa t.serial, Lib.itoa t.shw, Lib.itoa t.place, t.first] := by simp [wordsT, cutT, chainW]
theorem wordsT_cut (t : Ttl) (k : Nat) (x : Trf) (hx : t.chain[k]? = some x) : wordsT (cutT t (k + 1)) = wordsT (cutT t k) ++ [x.nk] ++ x.sig := by
  simp only [wordsT, cutT, chainW, List.take_add_one, hx, List.flatMap_append]
  simp
theorem wordsT_all (t : Ttl) : cutT t t.chain.length = t := by
  unfold cutT
  rw [List.take_length]
theorem wordsT_len {t : Ttl} (h : formedT t = true) (k : Nat) (hk : k ≤ t.chain.length) : (wordsT (cutT t k)).length = 4 + 19 * k := by
  have h2 := chainW_len (t.chain.take k) (List.all_eq_true.2 fun x hx => List.all_eq_true.1 (formedT_parts h).2.2.2.2.2 x (List.mem_of_mem_take hx))
  simp only [wordsT, cutT, List.length_append, h2, List.length_take, List.length_cons, List.length_nil]
  omega
theorem wordsT_short {t : Ttl} (h : formedT t = true) (hN : TNum t) : ∀ w ∈ wordsT t, w.length ≤ 21 := by
  obtain ⟨_, _, _, h4, _, h6⟩ := formedT_parts h
  have hd : ∀ l : List UInt8, isD l = true → l.length ≤ 21 := fun l hl => by
    simp only [isD, Bool.and_eq_true, beq_iff_eq] at hl
    omega
  intro w hw
  rcases List.mem_append.1 hw with hw | hw
  · simp only [List.mem_cons, List.not_mem_nil, or_false] at hw
    rcases hw with rfl | rfl | rfl | rfl
    · exact Lib.itoa_length_le _ hN.s.1 hN.s.2
    · exact Lib.itoa_length_le _ hN.h.1 hN.h.2
    · exact Lib.itoa_length_le _ hN.p.1 hN.p.2
    · exact hd _ h4
  · obtain ⟨x, hx, hw⟩ := List.mem_flatMap.1 hw
    have hx2 := formX_parts (List.all_eq_true.1 h6 x hx)
    rcases List.mem_cons.1 hw with rfl | hw
    · exact hd _ hx2.2.1
    · exact hd _ (List.all_eq_true.1 hx2.2.2 w hw)
set_option maxRecDepth 100000 in
set_option maxHeartbeats 4000000 in
theorem ttext_any (v : Value) (t : Ttl) (w : World) (hv : TtlR w v t) (hS : TSmall t) (hT : Tabs w) :
    Calls Tryz.prog 20 #[v] w fun e w' => e = .returned (.string ⟨(textT t).toArray⟩) ∧ Below w.heap.size w w' := by
  have hmx : Tryz.prog.follows .mixedOrders = true := by kernel_rfl
  obtain ⟨cv, rfl, hc⟩ := hv
  obtain ⟨a, cap, rfl, hlc, hcap, ha⟩ := hc.form
  have HC := Lib.hid hc
  have HT := Lib.hid hT
  have HS := Lib.hid hS
  have hs1 := hS.s.1
  have hs2 := hS.s.2
  have hh1 := hS.h.1
  have hh2 := hS.h.2
  have hp1 := hS.p.1
  have hp2 := hS.p.2
  have hn100 := hS.n
  clear hc hT hS
  obtain ⟨r, er⟩ : ∃ r, r = textT t := ⟨_, rfl⟩
  rw [← er]
  have ER := Lib.hid er
  clear er
  obtain ⟨W0, hW0⟩ : ∃ W0, W0 = w.alloc (.cells #[.int .i64 t.serial, .int .i64 t.shw, .int .i64 t.place, .string ⟨t.first.toArray⟩, .slice a t.chain.length cap] 24) := ⟨_, rfl⟩
  obtain ⟨p, ep⟩ : ∃ p, p = w.heap.size := ⟨_, rfl⟩
  have h0 : Fr [] w W0 := by rw [hW0]; exact (Fr.refl [] w).alloc _
  have hp0 : W0.heap[p]? = some (.cells #[.int .i64 t.serial, .int .i64 t.shw, .int .i64 t.place, .string ⟨t.first.toArray⟩, .slice a t.chain.length cap] 24 (0, 0)) := by rw [hW0, ep]; exact heap_new rfl
  have c0 := row_cell hp0 0
  have c1 := row_cell hp0 1
  have c2 := row_cell hp0 2
  have c3 := row_cell hp0 3
  have c4 := row_cell hp0 4
  simp at c0 c1 c2 c3 c4
  rw [hW0, ep] at c0 c1 c2 c3 c4
  go_enter Tryz.func20, Tryz.ntmps20
  go_wp2_with fail
  rw [← hW0, ← ep]
  clear hW0 ep c0 c1 c2 c3 c4
  refine (formed_any _ t W0 ⟨_, rfl, HC.out.fr h0⟩ HS.out).mono ?_
  rintro e W1 ⟨rfl, hb1⟩
  have h1 : Fr [] w W1 := h0.below hb1 h0.size
  have hq0 := (Fr.ofBelow (X := []) hb1).at hp0 (by simp)
  clear hb1 hp0 h0
  cases hfo : formedT t with
  | false =>
    have HR : Hid (r = []) := Lib.hid (by rw [ER.out]; exact textT_nil hfo)
    clear hfo
    go_wp2_with fail
    go_ret
    exact ⟨by rw [HR.out]; rfl, h1.toBelow (by simp)⟩
  | true =>
    have HFO := Lib.hid hfo
    have hn50 := (formedT_parts hfo).2.2.2.2.1
    have HWL := Lib.hid (wordsT_len hfo)
    have HWS := Lib.hid (wordsT_short hfo HS.out.toTNum)
    clear hfo
    go_wp2_with fail
    have c0 := row_cell hq0 0
    have c1 := row_cell hq0 1
    have c2 := row_cell hq0 2
    have c3 := row_cell hq0 3
    simp at c0 c1 c2 c3
    have hD : Fr [] W1 W1.drew := (Fr.refl [] W1).drew
    have hS0 : W1.drew.cell? ⟨p, 0, none⟩ = some (.int .i64 t.serial) ∧ W1.drew.cell? ⟨p, 1, none⟩ = some (.int .i64 t.shw) ∧ W1.drew.cell? ⟨p, 2, none⟩ = some (.int .i64 t.place) ∧ W1.drew.cell? ⟨p, 3, none⟩ = some (.string ⟨t.first.toArray⟩) := ⟨hD.cell c0 (by simp), hD.cell c1 (by simp), hD.cell c2 (by simp), hD.cell c3 (by simp)⟩
    refine region_held 12 (fun W' => W'.cell? ⟨p, 0, none⟩ = some (.int .i64 t.serial) ∧ W'.cell? ⟨p, 1, none⟩ = some (.int .i64 t.shw) ∧ W'.cell? ⟨p, 2, none⟩ = some (.int .i64 t.place) ∧ W'.cell? ⟨p, 3, none⟩ = some (.string ⟨t.first.toArray⟩)) hmx ?_
    change Held _ _ _ _ _ _ 13 (Array.replicate 13 false) _ _
    refine hd_take 0 (v := .pointer (some ⟨p, 0, none⟩)) rfl (by kernel_rfl) (by kernel_rfl) (by kernel_rfl) rfl hS0 (fun W' hS => by go_simp) rfl ?_
    refine hd_take 3 (v := .pointer (some ⟨p, 1, none⟩)) rfl (by kernel_rfl) (by kernel_rfl) (by kernel_rfl) rfl hS0 (fun W' hS => by go_simp) rfl ?_
    refine hd_take 6 (v := .pointer (some ⟨p, 2, none⟩)) rfl (by kernel_rfl) (by kernel_rfl) (by kernel_rfl) rfl hS0 (fun W' hS => by go_simp) rfl ?_
    refine hd_take 9 (v := .pointer (some ⟨p, 3, none⟩)) rfl (by kernel_rfl) (by kernel_rfl) (by kernel_rfl) rfl hS0 (fun W' hS => by go_simp) rfl ?_
    try simp only [Act.put, List.setIfInBounds_toArray, List.set_cons_zero, List.set_cons_succ]
    refine hd_take 1 (v := .int .i64 t.serial) rfl (by kernel_rfl) (by kernel_rfl) (by kernel_rfl) rfl hS0 (fun W' hS => by obtain ⟨s0, s1, s2, s3⟩ := hS; go_simp) rfl ?_
    refine hd_take 4 (v := .int .i64 t.shw) rfl (by kernel_rfl) (by kernel_rfl) (by kernel_rfl) rfl hS0 (fun W' hS => by obtain ⟨s0, s1, s2, s3⟩ := hS; go_simp) rfl ?_
    refine hd_take 7 (v := .int .i64 t.place) rfl (by kernel_rfl) (by kernel_rfl) (by kernel_rfl) rfl hS0 (fun W' hS => by obtain ⟨s0, s1, s2, s3⟩ := hS; go_simp) rfl ?_
    refine hd_take 10 (v := .string ⟨t.first.toArray⟩) rfl (by kernel_rfl) (by kernel_rfl) (by kernel_rfl) rfl hS0 (fun W' hS => by obtain ⟨s0, s1, s2, s3⟩ := hS; go_simp) rfl ?_
    try simp only [Act.put, List.setIfInBounds_toArray, List.set_cons_zero, List.set_cons_succ]
    refine hd_one 2 (by kernel_rfl) rfl (by kernel_rfl) rfl (fun K' hK => ?_)
    go_simp
    refine (itoaI_any t.serial _ hs1 hs2 ((HT.out.fr h1).fr hD)).mono ?_
    rintro e v1 ⟨rfl, hbb1⟩
    have hf1 : Fr [] W1 v1 := hD.below hbb1 hD.size
    refine hK.out _ _ (fun _ => ⟨hf1.cell c0 (by simp), hf1.cell c1 (by simp), hf1.cell c2 (by simp), hf1.cell c3 (by simp)⟩) ?_
    clear hK K'
    try simp only [Act.put, List.setIfInBounds_toArray, List.set_cons_zero, List.set_cons_succ]
    refine hd_one 5 (by kernel_rfl) rfl (by kernel_rfl) rfl (fun K' hK => ?_)
    go_simp
    refine (itoaI_any t.shw _ hh1 hh2 ((HT.out.fr h1).fr hf1)).mono ?_
    rintro e v2 ⟨rfl, hbb2⟩
    have hf2 : Fr [] W1 v2 := hf1.below hbb2 hf1.size
    refine hK.out _ _ (fun _ => ⟨hf2.cell c0 (by simp), hf2.cell c1 (by simp), hf2.cell c2 (by simp), hf2.cell c3 (by simp)⟩) ?_
    clear hK K'
    try simp only [Act.put, List.setIfInBounds_toArray, List.set_cons_zero, List.set_cons_succ]
    refine hd_one 8 (by kernel_rfl) rfl (by kernel_rfl) rfl (fun K' hK => ?_)
    go_simp
    refine (itoaI_any t.place _ hp1 hp2 ((HT.out.fr h1).fr hf2)).mono ?_
    rintro e v3 ⟨rfl, hbb3⟩
    have hf3 : Fr [] W1 v3 := hf2.below hbb3 hf2.size
    refine hK.out _ _ (fun _ => ⟨hf3.cell c0 (by simp), hf3.cell c1 (by simp), hf3.cell c2 (by simp), hf3.cell c3 (by simp)⟩) ?_
    clear hK K'
    try simp only [Act.put, List.setIfInBounds_toArray, List.set_cons_zero, List.set_cons_succ]
    refine hd_one 11 (by kernel_rfl) rfl (by kernel_rfl) rfl (fun K' hK => ?_)
    go_simp
    have hfa := hf3.alloc (.cells #[.string ⟨(Lib.itoa t.serial).toArray⟩, .string ⟨(Lib.itoa t.shw).toArray⟩, .string ⟨(Lib.itoa t.place).toArray⟩, .string ⟨t.first.toArray⟩] 9)
    refine hK.out _ _ (fun _ => ⟨hfa.cell c0 (by simp), hfa.cell c1 (by simp), hfa.cell c2 (by simp), hfa.cell c3 (by simp)⟩) ?_
    clear hK K'
    try simp only [Act.put, List.setIfInBounds_toArray, List.set_cons_zero, List.set_cons_succ]
    have hos : OwnS v3.heap.size (v3.alloc (.cells #[.string ⟨(Lib.itoa t.serial).toArray⟩, .string ⟨(Lib.itoa t.shw).toArray⟩, .string ⟨(Lib.itoa t.place).toArray⟩, .string ⟨t.first.toArray⟩] 9)) (.slice (some ⟨v3.heap.size, 0, none⟩) 4 4) [(Lib.itoa t.serial), (Lib.itoa t.shw), (Lib.itoa t.place), t.first] := ⟨rfl, Or.inr ⟨v3.heap.size, 4, _, rfl, Nat.le_refl _, heap_new rfl, Nat.le_refl _, by decide, rfl, rfl⟩⟩
    obtain ⟨wz, hwz⟩ : ∃ wz, wz = v3.alloc (.cells #[.string ⟨(Lib.itoa t.serial).toArray⟩, .string ⟨(Lib.itoa t.shw).toArray⟩, .string ⟨(Lib.itoa t.place).toArray⟩, .string ⟨t.first.toArray⟩] 9) := ⟨_, rfl⟩
    rw [← hwz] at hos hfa ⊢
    clear hwz
    refine hd_one 12 (by kernel_rfl) rfl (by kernel_rfl) rfl (fun K' hK => ?_)
    go_simp
    refine hK.out _ _ (fun h => absurd rfl h) ?_
    clear hK K'
    refine held_done (by kernel_rfl) ?_
    have HOS := Lib.hid (hos.mono (base' := W1.heap.size) hf3.size)
    have HFA := Lib.hid hfa
    clear hos hfa hS0 hD hf1 hf2 hf3 hbb1 hbb2 hbb3
    have hqz := HFA.out.at hq0 (by simp)
    have c4 := row_cell hqz 4
    simp at c4
    have H1 := Lib.hid h1
    clear hqz c0 c1 c2 c3 hq0
    go_wp2_with fail
    clear c4
    have h0s : w.heap.size ≤ W1.heap.size := h1.size
    have hzs : W1.heap.size ≤ wz.heap.size := HFA.out.size
    clear h1
    go_loopg [3, 5, 24] t.chain.length (fun gh out u i wr => ∃ k : Nat, k ≤ t.chain.length ∧ gh = t.chain.length - k ∧ i = .int .i64 (k : Int) ∧ OwnS W1.heap.size wr out (wordsT (cutT t k)) ∧ Fr [] w wr ∧ W1.heap.size ≤ wr.heap.size)
    case atStart => exact ⟨0, by omega, by omega, rfl, by rw [wordsT_cut0]; exact HOS.out, H1.out.trans HFA.out (by simp), hzs⟩
    case round =>
      clear HOS HFA
      obtain ⟨k, hk, hgh, rfl, hos, hfr, hsz⟩ := hrel
      have HG := Lib.hid hgh
      have HOS := Lib.hid hos
      clear hgh hos
      by_cases hlt : k < t.chain.length
      · have t1 : decide ((k : Int) < (t.chain.length : Int)) = true := by simp; omega
        obtain ⟨b, off, rfl⟩ := ha k hlt
        obtain ⟨x, hx⟩ : ∃ x, t.chain[k]? = some x := ⟨_, List.getElem?_eq_getElem hlt⟩
        obtain ⟨e0, u, e1, hu⟩ := (HC.out.fr hfr).cells k x hx
        have hx18 := (formX_parts (List.all_eq_true.1 (formedT_parts HFO.out).2.2.2.2.2 x (List.mem_of_getElem? hx))).1
        have hus := hu.strong (fun h => by rw [h] at hx18; simp at hx18)
        obtain ⟨sa, sc, rfl, _, _, hsa⟩ := hu.form
        obtain ⟨sb, so, rfl⟩ := hsa 0 (by omega)
        obtain ⟨_, _, _, hw0⟩ := HC.out.cells k x hx
        have HU : Hid (Strs w (.slice (some ⟨sb, so, none⟩) x.sig.length sc) x.sig) := Lib.hid (by
          obtain ⟨_, u0, hc0, hs0⟩ := HC.out.cells k x hx
          have h2 := hfr.cell hc0 (by simp)
          rw [e1] at h2
          cases h2
          exact hs0.strong (fun h => by rw [h] at hx18; simp at hx18))
        have HSN := Lib.hid (wordsT_cut t k x hx)
        have hl2 : (wordsT (cutT t k)).length < 1000000 := by rw [HWL.out k hk]; omega
        have hl3 : (wordsT (cutT t k) ++ [x.nk]).length + x.sig.length < 1000000 := by rw [List.length_append, HWL.out k hk, hx18]; simp; omega
        clear hx hu hus hsa hw0 hx18
        generalize wordsT (cutT t k) = L at HOS HSN hl2 hl3
        go_wp2_with fail
        obtain ⟨W5, hW5⟩ : ∃ W5, W5 = wr.alloc (.cells #[.string ⟨x.nk.toArray⟩, .slice (some ⟨sb, so, none⟩) x.sig.length sc] 41) := ⟨_, rfl⟩
        obtain ⟨q, eq⟩ : ∃ q, q = wr.heap.size := ⟨_, rfl⟩
        have hf5 : Fr [] wr W5 := by rw [hW5]; exact (Fr.refl [] wr).alloc _
        have hq5 : W5.heap[q]? = some (.cells #[.string ⟨x.nk.toArray⟩, .slice (some ⟨sb, so, none⟩) x.sig.length sc] 41 (0, 0)) := by rw [hW5, eq]; exact heap_new rfl
        rw [← hW5, ← eq]
        clear hW5 eq e0 e1
        have q0 := row_cell hq5 0
        have q1 := row_cell hq5 1
        simp at q0 q1
        have g0 : Fr [] W5 W5.drew := (Fr.refl [] W5).drew
        have hS0 : W5.drew.cell? ⟨q, 0, none⟩ = some (.string ⟨x.nk.toArray⟩) ∧ W5.drew.cell? ⟨q, 1, none⟩ = some (.slice (some ⟨sb, so, none⟩) x.sig.length sc) := ⟨g0.cell q0 (by simp), g0.cell q1 (by simp)⟩
        refine region_held 8 (fun W' => W'.cell? ⟨q, 0, none⟩ = some (.string ⟨x.nk.toArray⟩) ∧ W'.cell? ⟨q, 1, none⟩ = some (.slice (some ⟨sb, so, none⟩) x.sig.length sc)) hmx ?_
        change Held _ _ _ _ _ _ 9 (Array.replicate 9 false) _ _
        refine hd_take 0 (v := u3) rfl (by kernel_rfl) (by kernel_rfl) (by kernel_rfl) rfl hS0 (fun W' hS => by go_simp) rfl ?_
        refine hd_take 1 (v := .pointer (some ⟨q, 0, none⟩)) rfl (by kernel_rfl) (by kernel_rfl) (by kernel_rfl) rfl hS0 (fun W' hS => by go_simp) rfl ?_
        refine hd_take 5 (v := .pointer (some ⟨q, 1, none⟩)) rfl (by kernel_rfl) (by kernel_rfl) (by kernel_rfl) rfl hS0 (fun W' hS => by go_simp) rfl ?_
        try simp only [Act.put, List.setIfInBounds_toArray, List.set_cons_zero, List.set_cons_succ]
        refine hd_take 2 (v := .string ⟨x.nk.toArray⟩) rfl (by kernel_rfl) (by kernel_rfl) (by kernel_rfl) rfl hS0 (fun W' hS => by obtain ⟨s0, s1⟩ := hS; go_simp) rfl ?_
        refine hd_take 6 (v := .slice (some ⟨sb, so, none⟩) x.sig.length sc) rfl (by kernel_rfl) (by kernel_rfl) (by kernel_rfl) rfl hS0 (fun W' hS => by obtain ⟨s0, s1⟩ := hS; go_simp) rfl ?_
        try simp only [Act.put, List.setIfInBounds_toArray, List.set_cons_zero, List.set_cons_succ]
        refine hd_one 3 (by kernel_rfl) rfl (by kernel_rfl) rfl (fun K' hK => ?_)
        go_simp
        have g1 := g0.alloc (.cells #[.string ⟨x.nk.toArray⟩] 9)
        have hS1 : (W5.drew.alloc (.cells #[.string ⟨x.nk.toArray⟩] 9)).cell? ⟨q, 0, none⟩ = some (.string ⟨x.nk.toArray⟩) ∧ (W5.drew.alloc (.cells #[.string ⟨x.nk.toArray⟩] 9)).cell? ⟨q, 1, none⟩ = some (.slice (some ⟨sb, so, none⟩) x.sig.length sc) := ⟨g1.cell q0 (by simp), g1.cell q1 (by simp)⟩
        refine hK.out _ _ (fun _ => hS1) ?_
        clear hK K'
        try simp only [Act.put, List.setIfInBounds_toArray, List.set_cons_zero, List.set_cons_succ]
        refine hd_one 4 (by kernel_rfl) rfl (by kernel_rfl) rfl (fun K' hK => ?_)
        have hod := HOS.out.fr ((Fr.refl [] wr).trans (hf5.trans g0 (by simp)) (by simp)) (by simp)
        refine wp_appS (.tmp 28) (.tmp 31) rfl W1.heap.size u3 L x.nk w (by kernel_rfl) (by kernel_rfl) hod ((hfr.trans hf5 (by simp)).trans g0 (by simp)) h0s (Nat.le_trans hsz (hf5.trans g0 (by simp)).size) hl2 ?_
        rintro v7 w7 ⟨g7, c7, rfl⟩ ho7 hf7 hg7
        have hqd : W5.drew.heap[q]? = some (.cells #[.string ⟨x.nk.toArray⟩, .slice (some ⟨sb, so, none⟩) x.sig.length sc] 41 (0, 0)) := hq5
        have hnq : q ∉ u3.ownBlock.toList := fun hm => row_ne hqd (by decide) hod (Option.mem_toList.1 hm).symm
        have hq7 := hg7.at hqd hnq
        have hS7 : w7.cell? ⟨q, 0, none⟩ = some (.string ⟨x.nk.toArray⟩) ∧ w7.cell? ⟨q, 1, none⟩ = some (.slice (some ⟨sb, so, none⟩) x.sig.length sc) := ⟨by rw [row_cell hq7]; rfl, by rw [row_cell hq7]; rfl⟩
        refine hK.out _ _ (fun _ => hS7) ?_
        clear hK K'
        try simp only [Act.put, List.setIfInBounds_toArray, List.set_cons_zero, List.set_cons_succ]
        refine hd_one 7 (by kernel_rfl) rfl (by kernel_rfl) rfl (fun K' hK => ?_)
        refine wp_appM (.tmp 32) (.tmp 34) rfl W1.heap.size _ (L ++ [x.nk]) x.sig sb so x.sig.length sc w (by kernel_rfl) (by kernel_rfl) rfl (HU.out.fr0 hf7) ho7 hf7 h0s (Nat.le_trans (Nat.le_trans hsz (hf5.trans g0 (by simp)).size) hg7.size) hl3 ?_
        intro v8 w8 ho8 hf8 hg8
        have hnq8 : q ∉ (Value.slice (some ⟨g7, 0, none⟩) (L.length + 1) c7).ownBlock.toList := fun hm => row_ne hq7 (by decide) ho7 (Option.mem_toList.1 hm).symm
        have hq8 := hg8.at hq7 hnq8
        have hS8 : w8.cell? ⟨q, 0, none⟩ = some (.string ⟨x.nk.toArray⟩) ∧ w8.cell? ⟨q, 1, none⟩ = some (.slice (some ⟨sb, so, none⟩) x.sig.length sc) := ⟨by rw [row_cell hq8]; rfl, by rw [row_cell hq8]; rfl⟩
        refine hK.out _ _ (fun _ => hS8) ?_
        clear hK K'
        try simp only [Act.put, List.setIfInBounds_toArray, List.set_cons_zero, List.set_cons_succ]
        refine hd_one 8 (by kernel_rfl) rfl (by kernel_rfl) rfl (fun K' hK => ?_)
        go_simp
        refine hK.out _ _ (fun h => absurd rfl h) ?_
        clear hK K'
        refine held_done (by kernel_rfl) ?_
        have HO8 := Lib.hid ho8
        have hs8 : W1.heap.size ≤ w8.heap.size := Nat.le_trans (Nat.le_trans (Nat.le_trans hsz (hf5.trans g0 (by simp)).size) hg7.size) hg8.size
        clear ho8 ho7 hod hg8 hg7 hq8 hq7 hS8 hS7 hqd hq5 hnq hnq8
        go_wp2_with fail
        go_roundg (t.chain.length - (k + 1))
        case measure => have := HG.out; omega
        case rel => exact ⟨k + 1, by omega, rfl, by go_num, by rw [HSN.out]; exact HO8.out, hf8, hs8⟩
      · obtain rfl : k = t.chain.length := by omega
        have t1 : decide ((t.chain.length : Int) < (t.chain.length : Int)) = false := by simp
        have hwl := HWL.out t.chain.length (Nat.le_refl _)
        rw [wordsT_all] at HOS hwl
        obtain ⟨g, cap9, hu3⟩ := HOS.out.slice hwl (by omega)
        subst hu3
        have HSX := Lib.hid HOS.out.strs
        have hcap9 : 4 + 19 * t.chain.length ≤ cap9 ∧ cap9 ≤ 9223372036854775807 := by
          rcases HSX.out with ⟨h0, _⟩ | ⟨_, _, _, h0, h2, h3, _⟩
          · cases h0
          · simp only [Value.slice.injEq] at h0
            rw [h0.2.2]
            rw [hwl] at h2
            exact ⟨h2, h3⟩
        have hlens : Lib.lens (wordsT t) ≤ (wordsT t).length * 22 := lens_le _ 22 (fun x hx => by have := HWS.out x hx; omega)
        rw [hwl] at hlens
        have hjoin := joinN_any g 0 cap9 (wordsT t) wr (by rw [hwl]; omega) (by rw [hwl]; exact hcap9.1) hcap9.2 (by rw [hwl]; omega) (by rw [hwl]; omega) (by rw [hwl]; exact HSX.out)
        rw [hwl] at hjoin
        have HR : Hid (r = spS (wordsT t)) := Lib.hid (by rw [ER.out]; unfold textT; rw [if_pos HFO.out])
        have HJ := Lib.hid hjoin
        clear hjoin hlens hcap9 hwl
        go_wp2_with fail
        refine HJ.out.mono ?_
        rintro e w8 ⟨rfl, hb8⟩
        go_wp2_with fail
        go_ret
        exact ⟨by rw [HR.out]; rfl, (hfr.below hb8 hfr.size).toBelow (by simp)⟩
end Go.Proofs.YtcblpfepkkkilaaGreatDoor
