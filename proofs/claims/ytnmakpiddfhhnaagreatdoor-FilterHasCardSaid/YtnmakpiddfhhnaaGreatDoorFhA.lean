/-
  foyerlaw36.FilterHas.
-/
import Derived.Test.YtnmakpiddfhhnaaGreatDoorFrD
import Derived.Deep.RegionHeld3
namespace Go.Proofs.YtnmakpiddfhhnaaGreatDoor
open Go.RowKit

theorem posA_length (l : List Int) (bits hashes : Int) : (posA l bits hashes).length = l.length * hashes.toNat := by
  unfold posA
  induction l with
  | nil => simp
  | cons s l ih => rw [List.flatMap_cons, List.length_append, ih, posL_len, List.length_cons, Nat.add_mul, Nat.one_mul]; omega
theorem cnt_make {l : List Int} {bits hashes : Int} (hf : formF bits hashes = true) : cntW (makeF l bits hashes) ≤ l.length * hashes.toNat := by
  rw [← posA_length l bits hashes]
  exact cnt_sets (posA_lt hf)
theorem cnt_make_pos {l : List Int} {bits hashes : Int} (hf : formF bits hashes = true) : 0 < cntW (makeF l bits hashes) ↔ 0 < l.length := by
  unfold makeF
  rw [cnt_pos (posA_lt hf)]
  have hp := formF_parts hf
  rw [Ne, ← List.length_eq_zero_iff, posA_length]
  constructor
  · intro h
    rcases Nat.eq_zero_or_pos l.length with h0 | h0
    · rw [h0, Nat.zero_mul] at h; exact absurd rfl h
    · exact h0
  · intro h e
    rcases Nat.mul_eq_zero.1 e with h1 | h1 <;> omega
set_option maxRecDepth 100000 in
set_option maxHeartbeats 16000000 in
theorem filterHas_any (v0 : Value) (l0 : List Int) (v1 : Value) (l1 : List Int) (n2 n3 : Nat) (w : World) (hn2 : n2 < 256) (hn3 : n3 < 256) (hT : TabsF w) (hz0 : Zs w v0 l0) (hr0 : ∀ z ∈ l0, -9223372036854775808 ≤ z ∧ z < 9223372036854775808) (hz1 : Zs w v1 l1) (hr1 : ∀ z ∈ l1, -9223372036854775808 ≤ z ∧ z < 9223372036854775808) :
    Calls Tryz.prog 5 #[v0, v1, .int .u8 (n2 : Int), .int .u8 (n3 : Int)] w fun e w' => e = .returned (.bool true) ∧ Below w.heap.size w w' := by
  have hmx : Tryz.prog.follows .mixedOrders = true := by kernel_rfl
  obtain ⟨a0, c0, rfl, hc0, hcc0, ha0⟩ := hz0.val
  obtain ⟨a1, c1, rfl, _, _, _⟩ := hz1.val
  have HZ0 := Lib.hid hz0
  have HZ1 := Lib.hid hz1
  have HT := Lib.hid hT
  have HR0 : Hid (∀ z ∈ l0, -9223372036854775808 ≤ z ∧ z ≤ 9223372036854775807) := Lib.hid (fun z hz => by have := hr0 z hz; omega)
  have HR1 : Hid (∀ z ∈ l1, -9223372036854775808 ≤ z ∧ z ≤ 9223372036854775807) := Lib.hid (fun z hz => by have := hr1 z hz; omega)
  have hform := form_size n2 n3
  have hsize := fun W => size_any n2 n3 W hn2 hn3
  obtain ⟨B, hB⟩ : ∃ B : Nat, B = 64 * (1 + n2 % 64) := ⟨_, rfl⟩
  obtain ⟨Hs, hHs⟩ : ∃ H : Nat, H = 1 + n3 % 8 := ⟨_, rfl⟩
  have hB2 : B ≤ 4096 := by omega
  have hHs8 : Hs ≤ 8 := by omega
  obtain ⟨Q, hQ, hQ1⟩ : ∃ Q : Nat, B = 64 * Q ∧ 1 ≤ Q := ⟨1 + n2 % 64, hB, by omega⟩
  have hQ64 : Q ≤ 64 := by omega
  rw [← hB, ← hHs] at hform hsize
  have HFO := Lib.hid hform
  have HSI := Lib.hid hsize
  have hQt : ((B : Int) / 64).toNat = Q := by omega
  have HQT := Lib.hid hQt
  have hBQ : (B : Int).tdiv 64 = (Q : Int) := by rw [Int.tdiv_eq_ediv_of_nonneg (by omega)]; omega
  have hQw : IntKind.i64.wrap (Q : Int) = (Q : Int) := IntWalk.i64_in _ (by omega)
  clear hz0 hz1 hT hr0 hr1 hform hsize hB hHs hQ hQt
  go_enter Tryz.func5, Tryz.ntmps5
  go_wp2_with fail
  have hw := Fr.refl [] w
  refine (head36_any w (HT.out.fr hw)).mono ?_
  rintro e x1 ⟨rfl, hb⟩
  have gx1 : Fr [] w x1 := Fr.ofBelow hb
  have hx1 : Fr [] w x1 := hw.trans gx1 (by simp)
  clear hb gx1
  go_wp2_with fail
  refine (HSI.out x1).mono ?_
  rintro e x1 ⟨rfl, rfl⟩
  go_wp2_with fail
  obtain ⟨y1, ey1⟩ : ∃ y, y = x1.alloc (.cells #[.slice a0 l0.length c0, .slice a1 l1.length c1] 34) := ⟨_, rfl⟩
  have hq1 : y1.heap[x1.heap.size]? = some (.cells #[.slice a0 l0.length c0, .slice a1 l1.length c1] 34 (0, 0)) := by rw [ey1]; exact heap_new rfl
  have hy1 : Fr [] w y1 := by rw [ey1]; exact hx1.alloc _
  rw [← ey1]
  clear ey1
  refine (small_any (.agg #[.int .i64 0, .int .i64 0, .slice none 0 0]) (.slice (some ⟨x1.heap.size, 0, none⟩) 2 2) ⟨0, 0, []⟩ [l0.length, l1.length] y1 ⟨_, rfl, Or.inl ⟨rfl, rfl⟩⟩ (Rows.two rfl rfl hq1)).mono ?_
  rintro e x2 ⟨rfl, hb⟩
  have gx2 : Fr [] y1 x2 := Fr.ofBelow hb
  have hx2 : Fr [] w x2 := hy1.trans gx2 (by simp)
  clear hb gx2
  obtain ⟨sm, esm⟩ : ∃ sm, sm = smallF ⟨0, 0, []⟩ [l0.length, l1.length] := ⟨_, rfl⟩
  rw [← esm]
  have ESM := Lib.hid esm
  clear esm hq1
  cases sm with
  | false =>
    go_wp2_with fail
    go_ret
    exact ⟨rfl, hx2.toBelow (by simp)⟩
  | true =>
    have hlen0 : l0.length ≤ 60 := by
      have := ESM.out
      simp [smallF] at this
      exact this.1
    go_wp2_with fail
    refine (make_any (.slice a0 l0.length c0) l0 (B : Int) (Hs : Int) x2 (HZ0.out.fr0 hx2) HR0.out (HT.out.fr hx2).t).mono ?_
    rintro e x3 ⟨hq, _, hb⟩
    have gx3 : Fr [] x2 x3 := Fr.ofBelow hb
    have hx3 : Fr [] w x3 := hx2.trans gx3 (by simp)
    clear hb gx3
    obtain ⟨wvF, rfl, hoF⟩ := hq HFO.out
    clear hq
    have hlF : (makeF l0 (B : Int) (Hs : Int)).length = Q := by rw [makeF_len]; exact HQT.out
    obtain ⟨gF, kF, rfl⟩ := hoF.someN (by omega)
    rw [hlF] at hoF ⊢
    have VF := Lib.hid hoF.ws
    clear hoF hlF
    have fF : Fr [] x3 x3 := Fr.refl _ _
    obtain ⟨x4, ex4⟩ : ∃ W, W = x3.alloc (.cells #[.int .i64 (B : Int), .int .i64 (Hs : Int), .slice (some ⟨gF, 0, none⟩) Q kF] 24) := ⟨_, rfl⟩
    obtain ⟨pF, epF⟩ : ∃ p, p = x3.heap.size := ⟨_, rfl⟩
    have gx4 : Fr [] x3 x4 := by rw [ex4]; exact (Fr.refl [] x3).alloc _
    have hx4 : Fr [] w x4 := hx3.trans gx4 (by simp)
    have fF := fF.trans gx4 (by simp)
    have qF : x4.heap[pF]? = some (.cells #[.int .i64 (B : Int), .int .i64 (Hs : Int), .slice (some ⟨gF, 0, none⟩) Q kF] 24 (0, 0)) := by rw [ex4, epF]; exact heap_new rfl
    go_wp2_with fail
    rw [← ex4, ← epF]
    clear ex4 epF gx4
    refine (make_any (.slice a1 l1.length c1) l1 (B : Int) (Hs : Int) x4 (HZ1.out.fr0 hx4) HR1.out (HT.out.fr hx4).t).mono ?_
    rintro e x5 ⟨hq, _, hb⟩
    have gx5 : Fr [] x4 x5 := Fr.ofBelow hb
    have hx5 : Fr [] w x5 := hx4.trans gx5 (by simp)
    have fF := fF.trans gx5 (by simp)
    have qF := gx5.at qF (by simp)
    clear hb gx5
    obtain ⟨wvG, rfl, hoG⟩ := hq HFO.out
    clear hq
    have hlG : (makeF l1 (B : Int) (Hs : Int)).length = Q := by rw [makeF_len]; exact HQT.out
    obtain ⟨gG, kG, rfl⟩ := hoG.someN (by omega)
    rw [hlG] at hoG ⊢
    have VG := Lib.hid hoG.ws
    clear hoG hlG
    have fG : Fr [] x5 x5 := Fr.refl _ _
    obtain ⟨x6, ex6⟩ : ∃ W, W = x5.alloc (.cells #[.int .i64 (B : Int), .int .i64 (Hs : Int), .slice (some ⟨gG, 0, none⟩) Q kG] 24) := ⟨_, rfl⟩
    obtain ⟨pG, epG⟩ : ∃ p, p = x5.heap.size := ⟨_, rfl⟩
    have gx6 : Fr [] x5 x6 := by rw [ex6]; exact (Fr.refl [] x5).alloc _
    have hx6 : Fr [] w x6 := hx5.trans gx6 (by simp)
    have fF := fF.trans gx6 (by simp)
    have fG := fG.trans gx6 (by simp)
    have qF := gx6.at qF (by simp)
    have qG : x6.heap[pG]? = some (.cells #[.int .i64 (B : Int), .int .i64 (Hs : Int), .slice (some ⟨gG, 0, none⟩) Q kG] 24 (0, 0)) := by rw [ex6, epG]; exact heap_new rfl
    have F0 := row_cell qF 0
    have F1 := row_cell qF 1
    have F2 := row_cell qF 2
    simp at F0 F1 F2
    rw [ex6] at F0 F1 F2
    go_wp2_with fail
    rw [← ex6, ← epG]
    rw [← ex6] at F0 F1 F2
    clear ex6 epG gx6
    clear F0 F1 F2
    have F0 := row_cell qF 0
    have F1 := row_cell qF 1
    have F2 := row_cell qF 2
    have G0 := row_cell qG 0
    have G1 := row_cell qG 1
    have G2 := row_cell qG 2
    simp at F0 F1 F2 G0 G1 G2
    go_wp2_with fail
    have HVF : Hid (validF ⟨(B : Int), (Hs : Int), makeF l0 (B : Int) (Hs : Int)⟩ = true) := Lib.hid (valid_make HFO.out)
    have HVG : Hid (validF ⟨(B : Int), (Hs : Int), makeF l1 (B : Int) (Hs : Int)⟩ = true) := Lib.hid (valid_make HFO.out)
    have HK : Hid (okJ ⟨(B : Int), (Hs : Int), makeF l1 (B : Int) (Hs : Int)⟩ ⟨(B : Int), (Hs : Int), makeF l0 (B : Int) (Hs : Int)⟩ = true) := Lib.hid (okJ_of HVG.out HVF.out rfl rfl)
    have HHF : Hid (∀ s ∈ l0, hasF ⟨(B : Int), (Hs : Int), makeF l0 (B : Int) (Hs : Int)⟩ s = true) := Lib.hid (fun s hs => has_make HFO.out hs)
    have HHB : Hid (∀ s ∈ l0, hasF (joinF ⟨(B : Int), (Hs : Int), makeF l1 (B : Int) (Hs : Int)⟩ ⟨(B : Int), (Hs : Int), makeF l0 (B : Int) (Hs : Int)⟩) s = true) := Lib.hid (fun s hs => has_joinR s HK.out (has_make HFO.out hs))
    have HC1 : Hid (cntW (makeF l0 (B : Int) (Hs : Int)) ≤ l0.length * Hs) := Lib.hid (by have := cnt_make (l := l0) HFO.out; simpa using this)
    have HC2 : Hid (0 < cntW (makeF l0 (B : Int) (Hs : Int)) ↔ 0 < l0.length) := Lib.hid (cnt_make_pos HFO.out)
    have HLF : Hid ((makeF l0 (B : Int) (Hs : Int)).length = Q) := Lib.hid (by rw [makeF_len]; exact HQT.out)
    have WF : W64 (makeF l0 (B : Int) (Hs : Int)) := makeF_lt _ _ _
    have WG : W64 (makeF l1 (B : Int) (Hs : Int)) := makeF_lt _ _ _
    have WB : W64 (joinF ⟨(B : Int), (Hs : Int), makeF l1 (B : Int) (Hs : Int)⟩ ⟨(B : Int), (Hs : Int), makeF l0 (B : Int) (Hs : Int)⟩).words := joinF_lt WG WF
    have HEB := Lib.hid (joinEr_ok HK.out)
    generalize makeF l0 (B : Int) (Hs : Int) = MF at VF HVF HK HHF HHB HC1 HC2 HLF WF WB HEB
    generalize makeF l1 (B : Int) (Hs : Int) = MG at VG HVG HK HHB WG WB HEB
    refine (joinU_any (.agg #[.int .i64 (B : Int), .int .i64 (Hs : Int), .slice (some ⟨gG, 0, none⟩) Q kG]) (.agg #[.int .i64 (B : Int), .int .i64 (Hs : Int), .slice (some ⟨gF, 0, none⟩) Q kF]) ⟨(B : Int), (Hs : Int), MG⟩ ⟨(B : Int), (Hs : Int), MF⟩ x6 ⟨_, rfl, VG.out.fr0 fG⟩ ⟨_, rfl, VF.out.fr0 fF⟩ WG WF).mono ?_
    rintro e x7 ⟨adB, cpB, rfl, hvB, hb⟩
    have gx7 : Fr [] x6 x7 := Fr.ofBelow hb
    have hx7 : Fr [] w x7 := hx6.trans gx7 (by simp)
    have fF := fF.trans gx7 (by simp)
    have fG := fG.trans gx7 (by simp)
    clear F0 F1 F2 G0 G1 G2
    have qF := gx7.at qF (by simp)
    have qG := gx7.at qG (by simp)
    clear hb gx7
    have VB := Lib.hid hvB
    clear hvB
    rw [HEB.out]
    generalize joinF ⟨(B : Int), (Hs : Int), MG⟩ ⟨(B : Int), (Hs : Int), MF⟩ = JB at VB HHB WB ⊢
    have fB : Fr [] x7 x7 := Fr.refl _ _
    have u0 : ((Q : Int) != (Q : Int)) = false := by simp
    obtain ⟨x8, ex8⟩ : ∃ W, W = x7.alloc (.cells #[.int .i64 JB.bits, .int .i64 JB.hashes, .slice adB JB.words.length cpB] 24) := ⟨_, rfl⟩
    obtain ⟨pB, epB⟩ : ∃ p, p = x7.heap.size := ⟨_, rfl⟩
    have gx8 : Fr [] x7 x8 := by rw [ex8]; exact (Fr.refl [] x7).alloc _
    have hx8 : Fr [] w x8 := hx7.trans gx8 (by simp)
    have fF := fF.trans gx8 (by simp)
    have fG := fG.trans gx8 (by simp)
    have fB := fB.trans gx8 (by simp)
    have qF := gx8.at qF (by simp)
    have qG := gx8.at qG (by simp)
    have qB : x8.heap[pB]? = some (.cells #[.int .i64 JB.bits, .int .i64 JB.hashes, .slice adB JB.words.length cpB] 24 (0, 0)) := by rw [ex8, epB]; exact heap_new rfl
    have F0 := row_cell qF 0
    have F1 := row_cell qF 1
    have F2 := row_cell qF 2
    simp at F0 F1 F2
    rw [ex8] at F0 F1 F2
    go_wp2_with fail
    rw [← ex8, ← epB]
    rw [← ex8] at F0 F1 F2
    clear ex8 epB gx8
    have HQF := Lib.hid qF
    have HQB := Lib.hid qB
    have HFF := Lib.hid fF
    have HFB := Lib.hid fB
    have HW0 := Lib.hid hx8
    clear F0 F1 F2
    clear qF qG qB fF fG fB hx8
    go_loopg [18] l0.length (fun gh i wr => ∃ k : Nat, k ≤ l0.length ∧ gh = l0.length - k ∧ i = .int .i64 (k : Int) ∧ Fr [] x8 wr)
    case atStart => exact ⟨0, by omega, by omega, rfl, Fr.refl _ _⟩
    case round =>
      obtain ⟨k, hk, hgh, rfl, hfr⟩ := hrel
      have HG := Lib.hid hgh
      clear hgh
      have qF := hfr.at HQF.out (by simp)
      have qB := hfr.at HQB.out (by simp)
      have F0 := row_cell qF 0
      have F1 := row_cell qF 1
      have F2 := row_cell qF 2
      have B0 := row_cell qB 0
      have B1 := row_cell qB 1
      have B2 := row_cell qB 2
      simp at F0 F1 F2 B0 B1 B2
      have hww := HW0.out.trans hfr (by simp)
      by_cases hlt : k < l0.length
      · have t1 : decide ((k : Int) < (l0.length : Int)) = true := by simp; omega
        obtain ⟨b, off, rfl⟩ := ha0 k hlt
        have cs := (HZ0.out.fr0 hww).cell k hlt
        have hsr := HR0.out _ (getD_mem l0 k 0 hlt)
        have HH1 := Lib.hid (HHF.out _ (getD_mem l0 k 0 hlt))
        have HH2 := Lib.hid (HHB.out _ (getD_mem l0 k 0 hlt))
        generalize l0.getD k 0 = s at cs hsr HH1 HH2
        have i0 : (0 : Int) ≤ (k : Int) := by omega
        have i1 : (k : Int) < (l0.length : Int) := by omega
        have CF : Hid (∀ W, Fr [] wr W → Calls Tryz.prog 19 #[.agg #[.int .i64 (B : Int), .int .i64 (Hs : Int), .slice (some ⟨gF, 0, none⟩) Q kF], .int .i64 s] W fun e w' => e = .returned (.bool true) ∧ Below W.heap.size W w') := Lib.hid (fun W hW => by
          have := has_any (.agg #[.int .i64 (B : Int), .int .i64 (Hs : Int), .slice (some ⟨gF, 0, none⟩) Q kF]) ⟨(B : Int), (Hs : Int), MF⟩ s W ⟨_, rfl, VF.out.fr0 ((HFF.out.trans hfr (by simp)).trans hW (by simp))⟩ WF hsr (HT.out.fr (hww.trans hW (by simp))).t
          rwa [HH1.out] at this)
        have CB : Hid (∀ W, Fr [] wr W → Calls Tryz.prog 19 #[.agg #[.int .i64 JB.bits, .int .i64 JB.hashes, .slice adB JB.words.length cpB], .int .i64 s] W fun e w' => e = .returned (.bool true) ∧ Below W.heap.size W w') := Lib.hid (fun W hW => by
          have := has_any (.agg #[.int .i64 JB.bits, .int .i64 JB.hashes, .slice adB JB.words.length cpB]) JB s W ⟨_, rfl, VB.out.fr0 ((HFB.out.trans hfr (by simp)).trans hW (by simp))⟩ WB hsr (HT.out.fr (hww.trans hW (by simp))).t
          rwa [HH2.out] at this)
        go_wp2_with fail
        have hc0 := F0
        have hc1 := F1
        have hc2 := F2
        have hc3 := B0
        have hc4 := B1
        have hc5 := B2
        have hc6 := cs
        have hh0 : Fr [] wr wr.drew := (Fr.refl [] wr).drew
        have hS0 : wr.drew.cell? ⟨pF, 0, none⟩ = some (.int .i64 (B : Int)) ∧ wr.drew.cell? ⟨pF, 1, none⟩ = some (.int .i64 (Hs : Int)) ∧ wr.drew.cell? ⟨pF, 2, none⟩ = some (.slice (some ⟨gF, 0, none⟩) Q kF) ∧ wr.drew.cell? ⟨pB, 0, none⟩ = some (.int .i64 JB.bits) ∧ wr.drew.cell? ⟨pB, 1, none⟩ = some (.int .i64 JB.hashes) ∧ wr.drew.cell? ⟨pB, 2, none⟩ = some (.slice adB JB.words.length cpB) ∧ wr.drew.cell? ⟨b, off + k, none⟩ = some (.int .i64 s) := ⟨hh0.cell hc0 (by simp), hh0.cell hc1 (by simp), hh0.cell hc2 (by simp), hh0.cell hc3 (by simp), hh0.cell hc4 (by simp), hh0.cell hc5 (by simp), hh0.cell hc6 (by simp)⟩
        refine region_held 100 (fun W' => W'.cell? ⟨pF, 0, none⟩ = some (.int .i64 (B : Int)) ∧ W'.cell? ⟨pF, 1, none⟩ = some (.int .i64 (Hs : Int)) ∧ W'.cell? ⟨pF, 2, none⟩ = some (.slice (some ⟨gF, 0, none⟩) Q kF) ∧ W'.cell? ⟨pB, 0, none⟩ = some (.int .i64 JB.bits) ∧ W'.cell? ⟨pB, 1, none⟩ = some (.int .i64 JB.hashes) ∧ W'.cell? ⟨pB, 2, none⟩ = some (.slice adB JB.words.length cpB) ∧ W'.cell? ⟨b, off + k, none⟩ = some (.int .i64 s)) hmx ?_
        change Held _ _ _ _ _ _ 16 (Array.replicate 16 false) _ _
        refine hd_take 0 (v := .agg #[.int .i64 (B : Int), .int .i64 (Hs : Int), .slice (some ⟨gF, 0, none⟩) Q kF]) rfl (by kernel_rfl) (by kernel_rfl) (by kernel_rfl) rfl hS0 (fun W' hS => by obtain ⟨h0, h1, h2, h3, h4, h5, h6⟩ := hS; go_simp) rfl ?_
        refine hd_take 1 (v := .slice (some ⟨b, off, none⟩) l0.length c0) rfl (by kernel_rfl) (by kernel_rfl) (by kernel_rfl) rfl hS0 (fun W' hS => by go_simp) rfl ?_
        refine hd_take 2 (v := .int .i64 (k : Int)) rfl (by kernel_rfl) (by kernel_rfl) (by kernel_rfl) rfl hS0 (fun W' hS => by go_simp) rfl ?_
        simp only [Act.put, List.setIfInBounds_toArray, List.set_cons_zero, List.set_cons_succ]
        refine hd_take 3 (v := .pointer (some ⟨b, off + k, none⟩)) rfl (by kernel_rfl) (by kernel_rfl) (by kernel_rfl) rfl hS0 (fun W' hS => by first | (go_simp; done) | (go_simp; intro hix; omega)) rfl ?_
        simp only [Act.put, List.setIfInBounds_toArray, List.set_cons_zero, List.set_cons_succ]
        refine hd_take 4 (v := .int .i64 s) rfl (by kernel_rfl) (by kernel_rfl) (by kernel_rfl) rfl hS0 (fun W' hS => by obtain ⟨h0, h1, h2, h3, h4, h5, h6⟩ := hS; go_simp) rfl ?_
        simp only [Act.put, List.setIfInBounds_toArray, List.set_cons_zero, List.set_cons_succ]
        refine hd_one 5 (by kernel_rfl) rfl (by kernel_rfl) rfl (fun K' hK => ?_)
        go_simp
        refine (CF.out wr.drew hh0).mono ?_
        rintro e wq1 ⟨rfl, hb⟩
        have hh1 : Fr [] wr wq1 := hh0.below hb hh0.size
        clear hb
        have hS1 : wq1.cell? ⟨pF, 0, none⟩ = some (.int .i64 (B : Int)) ∧ wq1.cell? ⟨pF, 1, none⟩ = some (.int .i64 (Hs : Int)) ∧ wq1.cell? ⟨pF, 2, none⟩ = some (.slice (some ⟨gF, 0, none⟩) Q kF) ∧ wq1.cell? ⟨pB, 0, none⟩ = some (.int .i64 JB.bits) ∧ wq1.cell? ⟨pB, 1, none⟩ = some (.int .i64 JB.hashes) ∧ wq1.cell? ⟨pB, 2, none⟩ = some (.slice adB JB.words.length cpB) ∧ wq1.cell? ⟨b, off + k, none⟩ = some (.int .i64 s) := ⟨hh1.cell hc0 (by simp), hh1.cell hc1 (by simp), hh1.cell hc2 (by simp), hh1.cell hc3 (by simp), hh1.cell hc4 (by simp), hh1.cell hc5 (by simp), hh1.cell hc6 (by simp)⟩
        refine hK.out _ _ (fun _ => hS1) ?_
        clear hK K'
        try simp only [Act.put, List.setIfInBounds_toArray, List.set_cons_zero, List.set_cons_succ]
        refine hd_take 6 (v := .bool false) rfl (by kernel_rfl) (by kernel_rfl) (by kernel_rfl) rfl hS1 (fun W' hS => by go_simp) rfl ?_
        simp only [Act.put, List.setIfInBounds_toArray, List.set_cons_zero, List.set_cons_succ]
        refine hd_take 7 (v := .bool false) rfl (by kernel_rfl) (by kernel_rfl) (by kernel_rfl) rfl hS1 (fun W' hS => by go_simp) rfl ?_
        simp only [Act.put, List.setIfInBounds_toArray, List.set_cons_zero, List.set_cons_succ]
        refine hd_take 8 (v := .agg #[.int .i64 JB.bits, .int .i64 JB.hashes, .slice adB JB.words.length cpB]) rfl (by kernel_rfl) (by kernel_rfl) (by kernel_rfl) rfl hS1 (fun W' hS => by obtain ⟨h0, h1, h2, h3, h4, h5, h6⟩ := hS; go_simp) rfl ?_
        refine hd_take 9 (v := .slice (some ⟨b, off, none⟩) l0.length c0) rfl (by kernel_rfl) (by kernel_rfl) (by kernel_rfl) rfl hS1 (fun W' hS => by go_simp) rfl ?_
        refine hd_take 10 (v := .int .i64 (k : Int)) rfl (by kernel_rfl) (by kernel_rfl) (by kernel_rfl) rfl hS1 (fun W' hS => by go_simp) rfl ?_
        simp only [Act.put, List.setIfInBounds_toArray, List.set_cons_zero, List.set_cons_succ]
        refine hd_take 11 (v := .pointer (some ⟨b, off + k, none⟩)) rfl (by kernel_rfl) (by kernel_rfl) (by kernel_rfl) rfl hS1 (fun W' hS => by first | (go_simp; done) | (go_simp; intro hix; omega)) rfl ?_
        simp only [Act.put, List.setIfInBounds_toArray, List.set_cons_zero, List.set_cons_succ]
        refine hd_take 12 (v := .int .i64 s) rfl (by kernel_rfl) (by kernel_rfl) (by kernel_rfl) rfl hS1 (fun W' hS => by obtain ⟨h0, h1, h2, h3, h4, h5, h6⟩ := hS; go_simp) rfl ?_
        simp only [Act.put, List.setIfInBounds_toArray, List.set_cons_zero, List.set_cons_succ]
        refine hd_one 13 (by kernel_rfl) rfl (by kernel_rfl) rfl (fun K' hK => ?_)
        go_simp
        refine (CB.out wq1 hh1).mono ?_
        rintro e wq2 ⟨rfl, hb⟩
        have hh2 : Fr [] wr wq2 := hh1.below hb hh1.size
        clear hb
        have hS2 : wq2.cell? ⟨pF, 0, none⟩ = some (.int .i64 (B : Int)) ∧ wq2.cell? ⟨pF, 1, none⟩ = some (.int .i64 (Hs : Int)) ∧ wq2.cell? ⟨pF, 2, none⟩ = some (.slice (some ⟨gF, 0, none⟩) Q kF) ∧ wq2.cell? ⟨pB, 0, none⟩ = some (.int .i64 JB.bits) ∧ wq2.cell? ⟨pB, 1, none⟩ = some (.int .i64 JB.hashes) ∧ wq2.cell? ⟨pB, 2, none⟩ = some (.slice adB JB.words.length cpB) ∧ wq2.cell? ⟨b, off + k, none⟩ = some (.int .i64 s) := ⟨hh2.cell hc0 (by simp), hh2.cell hc1 (by simp), hh2.cell hc2 (by simp), hh2.cell hc3 (by simp), hh2.cell hc4 (by simp), hh2.cell hc5 (by simp), hh2.cell hc6 (by simp)⟩
        refine hK.out _ _ (fun _ => hS2) ?_
        clear hK K'
        try simp only [Act.put, List.setIfInBounds_toArray, List.set_cons_zero, List.set_cons_succ]
        refine hd_take 14 (v := .bool false) rfl (by kernel_rfl) (by kernel_rfl) (by kernel_rfl) rfl hS2 (fun W' hS => by go_simp) rfl ?_
        simp only [Act.put, List.setIfInBounds_toArray, List.set_cons_zero, List.set_cons_succ]
        refine hd_take 15 (v := .bool false) rfl (by kernel_rfl) (by kernel_rfl) (by kernel_rfl) rfl hS2 (fun W' hS => by go_simp) rfl ?_
        simp only [Act.put, List.setIfInBounds_toArray, List.set_cons_zero, List.set_cons_succ]
        refine held_done (by kernel_rfl) ?_
        go_wp2_with fail
        go_roundg (l0.length - (k + 1))
        case measure => have := HG.out; omega
        case rel => exact ⟨k + 1, by omega, rfl, by go_num, hfr.trans hh2 (by simp)⟩
      · obtain rfl : k = l0.length := by omega
        have t1 : decide ((l0.length : Int) < (l0.length : Int)) = false := by simp
        go_wp2_with fail
        refine (rcount36_any (.agg #[.int .i64 (B : Int), .int .i64 (Hs : Int), .slice (some ⟨gF, 0, none⟩) Q kF]) ⟨(B : Int), (Hs : Int), MF⟩ wr ⟨_, rfl, VF.out.fr0 (HFF.out.trans hfr (by simp))⟩ WF (by show MF.length ≤ 1000000; rw [HLF.out]; omega)).mono ?_
        rintro e w5 ⟨rfl, hb5⟩
        have hf5 := (hww.below hb5 hww.size).toBelow (by simp)
        have hc1 := HC1.out
        have hc2 := HC2.out
        show _
        obtain ⟨cn, ecn⟩ : ∃ c, c = cntW MF := ⟨_, rfl⟩
        rw [← ecn] at hc1 hc2
        have hecn : cntW (Flt.words ⟨(B : Int), (Hs : Int), MF⟩) = cn := ecn.symm
        rw [hecn]
        obtain ⟨M, hM⟩ : ∃ M, M = l0.length * Hs := ⟨_, rfl⟩
        rw [← hM] at hc1
        have hM9 : M ≤ 480 := by rw [hM]; exact Nat.mul_le_mul hlen0 hHs8
        have hMi : (l0.length : Int) * (Hs : Int) = (M : Int) := by rw [hM]; simp
        have w1 : IntKind.i64.wrap (M : Int) = (M : Int) := IntWalk.i64_in _ (by omega)
        have t2 : decide ((cn : Int) ≤ (M : Int)) = true := decide_eq_true (by omega)
        have t4 : decide ((0 : Int) < (cn : Int)) = decide (0 < cn) := by rw [decide_eq_decide]; omega
        clear hM ecn hecn
        by_cases hz : 0 < l0.length
        · have t3 : decide ((0 : Int) < (cn : Int)) = true := decide_eq_true (by have := hc2.2 hz; omega)
          have t5 : decide ((0 : Int) < (l0.length : Int)) = true := decide_eq_true (by omega)
          have t6 : 0 < cn := hc2.2 hz
          clear t4 hc2
          go_wp2_with fail
          go_ret
          exact ⟨rfl, hf5⟩
        · have t3 : decide ((0 : Int) < (cn : Int)) = false := decide_eq_false (by have := mt hc2.1 hz; omega)
          have t5 : decide ((0 : Int) < (l0.length : Int)) = false := decide_eq_false (by omega)
          have t6 : ¬ 0 < cn := mt hc2.1 hz
          clear t4 hc2
          go_wp2_with fail
          go_ret
          exact ⟨rfl, hf5⟩
end Go.Proofs.YtnmakpiddfhhnaaGreatDoor
