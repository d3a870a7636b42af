/-
  foyerlaw36.FilterSets.
-/
import Derived.Test.YtnmakpiddfhhnaaGreatDoorPlnFs
import Derived.Deep.RegionHeld3
namespace Go.Proofs.YtnmakpiddfhhnaaGreatDoor
open Go.RowKit

theorem ownZ_new {base k : Nat} {W : World} (hk : W.heap.size = k) (hb : base ≤ k) : OwnZ base (W.alloc (.cells #[] 3)) (.slice (some ⟨k, 0, none⟩) 0 0) [] := by
  subst hk; exact ownZ_empty hb
set_option maxRecDepth 100000 in
set_option maxHeartbeats 16000000 in
theorem filterSets_any (v0 : Value) (l0 : List Int) (v1 : Value) (l1 : List Int) (n2 n3 : Nat) (w : World) (hn2 : n2 < 256) (hn3 : n3 < 256) (hT : TabsF w) (hz0 : Zs w v0 l0) (hr0 : ∀ z ∈ l0, -9223372036854775808 ≤ z ∧ z < 9223372036854775808) (hz1 : Zs w v1 l1) (hr1 : ∀ z ∈ l1, -9223372036854775808 ≤ z ∧ z < 9223372036854775808) :
    Calls Tryz.prog 6 #[v0, v1, .int .u8 (n2 : Int), .int .u8 (n3 : Int)] w fun e w' => e = .returned (.bool true) ∧ Below w.heap.size w w' := by
  have hmx : Tryz.prog.follows .mixedOrders = true := by kernel_rfl
  obtain ⟨a0, c0, rfl, hc0, hcc0, ha0⟩ := hz0.val
  obtain ⟨a1, c1, rfl, _, _, _⟩ := hz1.val
  have HZ0 := Lib.hid hz0
  have HZ1 := Lib.hid hz1
  have HT := Lib.hid hT
  have HR0 : Hid (∀ z ∈ l0, -9223372036854775808 ≤ z ∧ z ≤ 9223372036854775807) := Lib.hid (fun z hz => by have := hr0 z hz; omega)
  have HR1 : Hid (∀ z ∈ l1, -9223372036854775808 ≤ z ∧ z ≤ 9223372036854775807) := Lib.hid (fun z hz => by have := hr1 z hz; omega)
  have hform := form_size n2 n3
  have hsize := fun W => size_any n2 n3 W hn2 hn3
  obtain ⟨B, hB⟩ : ∃ B : Nat, B = 64 * (1 + n2 % 64) := ⟨_, rfl⟩
  obtain ⟨Hs, hHs⟩ : ∃ H : Nat, H = 1 + n3 % 8 := ⟨_, rfl⟩
  have hB2 : B ≤ 4096 := by omega
  have hHs8 : Hs ≤ 8 := by omega
  obtain ⟨Q, hQ, hQ1⟩ : ∃ Q : Nat, B = 64 * Q ∧ 1 ≤ Q := ⟨1 + n2 % 64, hB, by omega⟩
  have hQ64 : Q ≤ 64 := by omega
  rw [← hB, ← hHs] at hform hsize
  have HFO := Lib.hid hform
  have HSI := Lib.hid hsize
  have hQt : ((B : Int) / 64).toNat = Q := by omega
  have HQT := Lib.hid hQt
  have hBQ : (B : Int).tdiv 64 = (Q : Int) := by rw [Int.tdiv_eq_ediv_of_nonneg (by omega)]; omega
  have hQw : IntKind.i64.wrap (Q : Int) = (Q : Int) := IntWalk.i64_in _ (by omega)
  clear hz0 hz1 hT hr0 hr1 hform hsize hB hHs hQ hQt
  go_enter Tryz.func6, Tryz.ntmps6
  go_wp2_with fail
  have hw := Fr.refl [] w
  refine (head36_any w (HT.out.fr hw)).mono ?_
  rintro e x1 ⟨rfl, hb⟩
  have gx1 : Fr [] w x1 := Fr.ofBelow hb
  have hx1 : Fr [] w x1 := hw.trans gx1 (by simp)
  clear hb gx1
  go_wp2_with fail
  refine (HSI.out x1).mono ?_
  rintro e x1 ⟨rfl, rfl⟩
  go_wp2_with fail
  obtain ⟨y1, ey1⟩ : ∃ y, y = x1.alloc (.cells #[.slice a0 l0.length c0, .slice a1 l1.length c1] 34) := ⟨_, rfl⟩
  have hq1 : y1.heap[x1.heap.size]? = some (.cells #[.slice a0 l0.length c0, .slice a1 l1.length c1] 34 (0, 0)) := by rw [ey1]; exact heap_new rfl
  have hy1 : Fr [] w y1 := by rw [ey1]; exact hx1.alloc _
  rw [← ey1]
  clear ey1
  refine (small_any (.agg #[.int .i64 0, .int .i64 0, .slice none 0 0]) (.slice (some ⟨x1.heap.size, 0, none⟩) 2 2) ⟨0, 0, []⟩ [l0.length, l1.length] y1 ⟨_, rfl, Or.inl ⟨rfl, rfl⟩⟩ (Rows.two rfl rfl hq1)).mono ?_
  rintro e x2 ⟨rfl, hb⟩
  have gx2 : Fr [] y1 x2 := Fr.ofBelow hb
  have hx2 : Fr [] w x2 := hy1.trans gx2 (by simp)
  clear hb gx2
  obtain ⟨sm, esm⟩ : ∃ sm, sm = smallF ⟨0, 0, []⟩ [l0.length, l1.length] := ⟨_, rfl⟩
  rw [← esm]
  have ESM := Lib.hid esm
  clear esm hq1
  cases sm with
  | false =>
    go_wp2_with fail
    go_ret
    exact ⟨rfl, hx2.toBelow (by simp)⟩
  | true =>
    have hlen0 : l0.length ≤ 60 := by
      have := ESM.out
      simp [smallF] at this
      exact this.1
    have hlen1 : l1.length ≤ 60 := by
      have := ESM.out
      simp [smallF] at this
      exact this.2
    have s0 : IntKind.i64.wrap ((l0.length : Int) - 1) = (l0.length : Int) - 1 := IntWalk.i64_in _ (by omega)
    go_wp2_with fail
    have HW0 := Lib.hid hx2
    clear hx2
    go_loopg [12, 13] l0.length (fun gh bv i wr => ∃ (j : Nat) (bw : Value), j ≤ l0.length ∧ gh = j ∧ i = .int .i64 ((j : Int) - 1) ∧ bw = bv ∧ OwnZ x2.heap.size wr bw (backL (l0.drop j)) ∧ Fr [] x2 wr)
    case atStart => exact ⟨l0.length, _, by omega, rfl, rfl, rfl, by rw [List.drop_length]; exact ⟨rfl, Or.inl ⟨rfl, rfl⟩⟩, Fr.refl _ _⟩
    case round =>
      obtain ⟨j, bw, hj, hgh, rfl, rfl, hown, hfr⟩ := hrel
      have HG := Lib.hid hgh
      have HO := Lib.hid hown
      clear hgh hown
      rcases Nat.eq_zero_or_pos j with hz | hpos
      · subst hz
        have HZB : Hid (Zs wr bw (backL l0)) := Lib.hid (by have := HO.out; rw [List.drop_zero] at this; exact this.zs)
        have HRB : Hid (∀ z ∈ backL l0, -9223372036854775808 ≤ z ∧ z ≤ 9223372036854775807) := Lib.hid (fun z hz => HR0.out z ((mem_backL l0 z).1 hz))
        have HRA : Hid (∀ z ∈ l0 ++ l1, -9223372036854775808 ≤ z ∧ z ≤ 9223372036854775807) := Lib.hid (fun z hz => by
          rcases List.mem_append.1 hz with h | h
          · exact HR0.out z h
          · exact HR1.out z h)
        have hwr := HW0.out.trans hfr (by simp)
        clear HO HG hj hfr
        have fZ : Fr [] wr wr := Fr.refl _ _
        go_wp2_with fail
        refine (make_any (.slice a0 l0.length c0) (l0) (B : Int) (Hs : Int) wr (HZ0.out.fr0 hwr) HR0.out (HT.out.fr hwr).t).mono ?_
        rintro e x3 ⟨hq, _, hb⟩
        have gx3 : Fr [] wr x3 := Fr.ofBelow hb
        have hx3 : Fr [] w x3 := hwr.trans gx3 (by simp)
        have fZ := fZ.trans gx3 (by simp)
        clear hb gx3
        obtain ⟨wvF, rfl, hoF⟩ := hq HFO.out
        clear hq
        have hlF : (makeF (l0) (B : Int) (Hs : Int)).length = Q := by rw [makeF_len]; exact HQT.out
        obtain ⟨gF, kF, rfl⟩ := hoF.someN (by omega)
        rw [hlF] at hoF ⊢
        have VF := Lib.hid hoF.ws
        clear hoF hlF
        have fF : Fr [] x3 x3 := Fr.refl _ _
        obtain ⟨x4, ex4⟩ : ∃ W, W = x3.alloc (.cells #[.int .i64 (B : Int), .int .i64 (Hs : Int), .slice (some ⟨gF, 0, none⟩) Q kF] 24) := ⟨_, rfl⟩
        obtain ⟨pF, epF⟩ : ∃ p, p = x3.heap.size := ⟨_, rfl⟩
        have gx4 : Fr [] x3 x4 := by rw [ex4]; exact (Fr.refl [] x3).alloc _
        have hx4 : Fr [] w x4 := hx3.trans gx4 (by simp)
        have fZ := fZ.trans gx4 (by simp)
        have fF := fF.trans gx4 (by simp)
        have qF : x4.heap[pF]? = some (.cells #[.int .i64 (B : Int), .int .i64 (Hs : Int), .slice (some ⟨gF, 0, none⟩) Q kF] 24 (0, 0)) := by rw [ex4, epF]; exact heap_new rfl
        go_wp2_with fail
        rw [← ex4, ← epF]
        clear ex4 epF gx4
        refine (make_any bw (backL l0) (B : Int) (Hs : Int) x4 (HZB.out.fr0 fZ) HRB.out (HT.out.fr hx4).t).mono ?_
        rintro e x5 ⟨hq, _, hb⟩
        have gx5 : Fr [] x4 x5 := Fr.ofBelow hb
        have hx5 : Fr [] w x5 := hx4.trans gx5 (by simp)
        have fZ := fZ.trans gx5 (by simp)
        have fF := fF.trans gx5 (by simp)
        have qF := gx5.at qF (by simp)
        clear hb gx5
        obtain ⟨wvG, rfl, hoG⟩ := hq HFO.out
        clear hq
        have hlG : (makeF (backL l0) (B : Int) (Hs : Int)).length = Q := by rw [makeF_len]; exact HQT.out
        obtain ⟨gG, kG, rfl⟩ := hoG.someN (by omega)
        rw [hlG] at hoG ⊢
        have VG := Lib.hid hoG.ws
        clear hoG hlG
        have fG : Fr [] x5 x5 := Fr.refl _ _
        rw [make_ext HFO.out (mem_backL l0)] at VG
        clear fZ HZB HRB
        obtain ⟨x6, ex6⟩ : ∃ W, W = x5.alloc (.cells #[.int .i64 (B : Int), .int .i64 (Hs : Int), .slice (some ⟨gG, 0, none⟩) Q kG] 24) := ⟨_, rfl⟩
        obtain ⟨pG, epG⟩ : ∃ p, p = x5.heap.size := ⟨_, rfl⟩
        have gx6 : Fr [] x5 x6 := by rw [ex6]; exact (Fr.refl [] x5).alloc _
        have hx6 : Fr [] w x6 := hx5.trans gx6 (by simp)
        have fF := fF.trans gx6 (by simp)
        have fG := fG.trans gx6 (by simp)
        have qF := gx6.at qF (by simp)
        have qG : x6.heap[pG]? = some (.cells #[.int .i64 (B : Int), .int .i64 (Hs : Int), .slice (some ⟨gG, 0, none⟩) Q kG] 24 (0, 0)) := by rw [ex6, epG]; exact heap_new rfl
        go_wp2_with fail
        rw [← ex6, ← epG]
        clear ex6 epG gx6
        refine (make_any (.slice a1 l1.length c1) (l1) (B : Int) (Hs : Int) x6 (HZ1.out.fr0 hx6) HR1.out (HT.out.fr hx6).t).mono ?_
        rintro e x7 ⟨hq, _, hb⟩
        have gx7 : Fr [] x6 x7 := Fr.ofBelow hb
        have hx7 : Fr [] w x7 := hx6.trans gx7 (by simp)
        have fF := fF.trans gx7 (by simp)
        have fG := fG.trans gx7 (by simp)
        have qF := gx7.at qF (by simp)
        have qG := gx7.at qG (by simp)
        clear hb gx7
        obtain ⟨wvH, rfl, hoH⟩ := hq HFO.out
        clear hq
        have hlH : (makeF (l1) (B : Int) (Hs : Int)).length = Q := by rw [makeF_len]; exact HQT.out
        obtain ⟨gH, kH, rfl⟩ := hoH.someN (by omega)
        rw [hlH] at hoH ⊢
        have VH := Lib.hid hoH.ws
        clear hoH hlH
        have fH : Fr [] x7 x7 := Fr.refl _ _
        obtain ⟨xh, exh⟩ : ∃ W, W = x7.alloc (.cells #[.int .i64 (B : Int), .int .i64 (Hs : Int), .slice (some ⟨gH, 0, none⟩) Q kH] 24) := ⟨_, rfl⟩
        obtain ⟨pH, epH⟩ : ∃ p, p = x7.heap.size := ⟨_, rfl⟩
        have gxh : Fr [] x7 xh := by rw [exh]; exact (Fr.refl [] x7).alloc _
        have hxh : Fr [] w xh := hx7.trans gxh (by simp)
        have fF := fF.trans gxh (by simp)
        have fG := fG.trans gxh (by simp)
        have fH := fH.trans gxh (by simp)
        have qF := gxh.at qF (by simp)
        have qG := gxh.at qG (by simp)
        have qH : xh.heap[pH]? = some (.cells #[.int .i64 (B : Int), .int .i64 (Hs : Int), .slice (some ⟨gH, 0, none⟩) Q kH] 24 (0, 0)) := by rw [exh, epH]; exact heap_new rfl
        have EXH := Lib.hid exh
        have EPH := Lib.hid epH
        have szh : xh.heap.size = x7.heap.size + 1 := by rw [exh]; simp
        have SZH := Lib.hid szh
        clear exh epH szh
        go_wp2_with (at_builtin; go_loud (refine wpList_appZ rfl (.tmp 82) (.tmp 83) rfl (x7.heap.size + 1) (.slice (some ⟨x7.heap.size + 1, 0, none⟩) 0 0) (.slice a0 l0.length c0) [] l0 (x7.alloc (.cells #[.int .i64 (B : Int), .int .i64 (Hs : Int), .slice (some ⟨gH, 0, none⟩) Q kH] 24)) rfl rfl (by exact HZ0.out.fr0 ((hx7.alloc _).alloc _)) (by exact ownZ_new (by simp) (Nat.le_refl _)) (by exact (Fr.refl [] _).alloc _) (by simp) (by simp) (by simp; omega) ?_))
        intro v9 w9 own9 hf9 hg9
        have hs9 : x7.heap.size + 1 ≤ w9.heap.size := by have := hf9.size; simp at this; omega
        have HO9 := Lib.hid own9
        have HF9 := Lib.hid hf9
        clear own9 hf9 hg9
        go_wp2_with (at_builtin; go_loud (refine wpList_appZ rfl (.tmp 84) (.tmp 85) rfl (x7.heap.size + 1) v9 (.slice a1 l1.length c1) ([] ++ l0) l1 (x7.alloc (.cells #[.int .i64 (B : Int), .int .i64 (Hs : Int), .slice (some ⟨gH, 0, none⟩) Q kH] 24)) rfl rfl (by exact HZ1.out.fr0 ((hx7.alloc _).trans HF9.out (by simp))) (by exact HO9.out) (by exact HF9.out) (by simp) (by exact hs9) (by simp; omega) ?_))
        intro va y9 owna hfa hga
        rw [← EXH.out] at hfa
        have ZA : Hid (Zs y9 va (l0 ++ l1)) := Lib.hid (by have := owna.zs; simpa using this)
        clear owna hga HO9 HF9 hs9
        have gy9 := hfa
        have hy9 : Fr [] w y9 := hxh.trans gy9 (by simp)
        have fF := fF.trans gy9 (by simp)
        have fG := fG.trans gy9 (by simp)
        have fH := fH.trans gy9 (by simp)
        have qF := gy9.at qF (by simp)
        have qG := gy9.at qG (by simp)
        have qH := gy9.at qH (by simp)
        rw [← EPH.out]
        clear hfa gy9 EXH EPH SZH gxh
        go_wp2_with fail
        refine (make_any va (l0 ++ l1) (B : Int) (Hs : Int) y9 (ZA.out) HRA.out (HT.out.fr hy9).t).mono ?_
        rintro e x8 ⟨hq, _, hb⟩
        have gx8 : Fr [] y9 x8 := Fr.ofBelow hb
        have hx8 : Fr [] w x8 := hy9.trans gx8 (by simp)
        have fF := fF.trans gx8 (by simp)
        have fG := fG.trans gx8 (by simp)
        have fH := fH.trans gx8 (by simp)
        have qF := gx8.at qF (by simp)
        have qG := gx8.at qG (by simp)
        have qH := gx8.at qH (by simp)
        clear hb gx8
        obtain ⟨wvA, rfl, hoA⟩ := hq HFO.out
        clear hq
        have hlA : (makeF (l0 ++ l1) (B : Int) (Hs : Int)).length = Q := by rw [makeF_len]; exact HQT.out
        obtain ⟨gA, kA, rfl⟩ := hoA.someN (by omega)
        rw [hlA] at hoA ⊢
        have VA := Lib.hid hoA.ws
        clear hoA hlA
        have fA : Fr [] x8 x8 := Fr.refl _ _
        have J1 := joinF_make (l := l0) (l' := l1) (m := l0 ++ l1) HFO.out (fun x => List.mem_append.symm)
        have J2 := joinF_make (l := l1) (l' := l0) (m := l0 ++ l1) HFO.out (fun x => by rw [List.mem_append]; exact Or.comm)
        have J3 := joinF_make (l := l0 ++ l1) (l' := l0) (m := l0 ++ l1) HFO.out (fun x => ⟨fun h => h.elim id (fun h => List.mem_append.2 (Or.inl h)), Or.inl⟩)
        have K1 := okJ_make (l := l0) (l' := l1) HFO.out
        have K2 := okJ_make (l := l1) (l' := l0) HFO.out
        have K3 := okJ_make (l := l0 ++ l1) (l' := l0) HFO.out
        have WF : W64 (makeF l0 (B : Int) (Hs : Int)) := makeF_lt _ _ _
        have WH : W64 (makeF l1 (B : Int) (Hs : Int)) := makeF_lt _ _ _
        have WA : W64 (makeF (l0 ++ l1) (B : Int) (Hs : Int)) := makeF_lt _ _ _
        generalize makeF (l0 ++ l1) (B : Int) (Hs : Int) = MA at VA J1 J2 J3 K3 WA
        generalize makeF l0 (B : Int) (Hs : Int) = MF at VF VG J1 J2 J3 K1 K2 K3 WF
        generalize makeF l1 (B : Int) (Hs : Int) = MH at VH J1 J2 K1 K2 WH
        have J1 := Lib.hid J1
        have J2 := Lib.hid J2
        have J3 := Lib.hid J3
        have K1 := Lib.hid K1
        have K2 := Lib.hid K2
        have K3 := Lib.hid K3
        obtain ⟨x9, ex9⟩ : ∃ W, W = x8.alloc (.cells #[.int .i64 (B : Int), .int .i64 (Hs : Int), .slice (some ⟨gA, 0, none⟩) Q kA] 24) := ⟨_, rfl⟩
        obtain ⟨pA, epA⟩ : ∃ p, p = x8.heap.size := ⟨_, rfl⟩
        have gx9 : Fr [] x8 x9 := by rw [ex9]; exact (Fr.refl [] x8).alloc _
        have hx9 : Fr [] w x9 := hx8.trans gx9 (by simp)
        have fF := fF.trans gx9 (by simp)
        have fG := fG.trans gx9 (by simp)
        have fH := fH.trans gx9 (by simp)
        have fA := fA.trans gx9 (by simp)
        have qF := gx9.at qF (by simp)
        have qG := gx9.at qG (by simp)
        have qH := gx9.at qH (by simp)
        have qA : x9.heap[pA]? = some (.cells #[.int .i64 (B : Int), .int .i64 (Hs : Int), .slice (some ⟨gA, 0, none⟩) Q kA] 24 (0, 0)) := by rw [ex9, epA]; exact heap_new rfl
        have F0 := row_cell qF 0
        have F1 := row_cell qF 1
        have F2 := row_cell qF 2
        have H0 := row_cell qH 0
        have H1 := row_cell qH 1
        have H2 := row_cell qH 2
        simp at F0 F1 F2 H0 H1 H2
        rw [ex9] at F0 F1 F2 H0 H1 H2
        go_wp2_with fail
        rw [← ex9, ← epA]
        rw [← ex9] at F0 F1 F2 H0 H1 H2
        clear ex9 epA gx9
        refine (joinQ_any (B : Int) (Hs : Int) MF MH MA (.agg #[.int .i64 (B : Int), .int .i64 (Hs : Int), .slice (some ⟨gF, 0, none⟩) Q kF]) (.agg #[.int .i64 (B : Int), .int .i64 (Hs : Int), .slice (some ⟨gH, 0, none⟩) Q kH]) x9 J1.out K1.out WF WH ⟨_, rfl, VF.out.fr0 fF⟩ ⟨_, rfl, VH.out.fr0 fH⟩).mono ?_
        rintro e x10 ⟨adX, cpX, rfl, hvX, hb⟩
        have gx10 : Fr [] x9 x10 := Fr.ofBelow hb
        have hx10 : Fr [] w x10 := hx9.trans gx10 (by simp)
        have fF := fF.trans gx10 (by simp)
        have fG := fG.trans gx10 (by simp)
        have fH := fH.trans gx10 (by simp)
        have fA := fA.trans gx10 (by simp)
        clear F0 F1 F2 H0 H1 H2
        have qF := gx10.at qF (by simp)
        have qG := gx10.at qG (by simp)
        have qH := gx10.at qH (by simp)
        have qA := gx10.at qA (by simp)
        clear hb gx10
        have VX := Lib.hid hvX
        clear hvX
        have fX : Fr [] x10 x10 := Fr.refl _ _
        obtain ⟨x11, ex11⟩ : ∃ W, W = x10.alloc (.cells #[.int .i64 (B : Int), .int .i64 (Hs : Int), .slice adX MA.length cpX] 24) := ⟨_, rfl⟩
        obtain ⟨pX, epX⟩ : ∃ p, p = x10.heap.size := ⟨_, rfl⟩
        have gx11 : Fr [] x10 x11 := by rw [ex11]; exact (Fr.refl [] x10).alloc _
        have hx11 : Fr [] w x11 := hx10.trans gx11 (by simp)
        have fF := fF.trans gx11 (by simp)
        have fG := fG.trans gx11 (by simp)
        have fH := fH.trans gx11 (by simp)
        have fA := fA.trans gx11 (by simp)
        have fX := fX.trans gx11 (by simp)
        have qF := gx11.at qF (by simp)
        have qG := gx11.at qG (by simp)
        have qH := gx11.at qH (by simp)
        have qA := gx11.at qA (by simp)
        have qX : x11.heap[pX]? = some (.cells #[.int .i64 (B : Int), .int .i64 (Hs : Int), .slice adX MA.length cpX] 24 (0, 0)) := by rw [ex11, epX]; exact heap_new rfl
        have H0 := row_cell qH 0
        have H1 := row_cell qH 1
        have H2 := row_cell qH 2
        have F0 := row_cell qF 0
        have F1 := row_cell qF 1
        have F2 := row_cell qF 2
        simp at H0 H1 H2 F0 F1 F2
        rw [ex11] at H0 H1 H2 F0 F1 F2
        go_wp2_with fail
        rw [← ex11, ← epX]
        rw [← ex11] at H0 H1 H2 F0 F1 F2
        clear ex11 epX gx11
        refine (joinQ_any (B : Int) (Hs : Int) MH MF MA (.agg #[.int .i64 (B : Int), .int .i64 (Hs : Int), .slice (some ⟨gH, 0, none⟩) Q kH]) (.agg #[.int .i64 (B : Int), .int .i64 (Hs : Int), .slice (some ⟨gF, 0, none⟩) Q kF]) x11 J2.out K2.out WH WF ⟨_, rfl, VH.out.fr0 fH⟩ ⟨_, rfl, VF.out.fr0 fF⟩).mono ?_
        rintro e x12 ⟨adY, cpY, rfl, hvY, hb⟩
        have gx12 : Fr [] x11 x12 := Fr.ofBelow hb
        have hx12 : Fr [] w x12 := hx11.trans gx12 (by simp)
        have fF := fF.trans gx12 (by simp)
        have fG := fG.trans gx12 (by simp)
        have fH := fH.trans gx12 (by simp)
        have fA := fA.trans gx12 (by simp)
        have fX := fX.trans gx12 (by simp)
        clear H0 H1 H2 F0 F1 F2
        have qF := gx12.at qF (by simp)
        have qG := gx12.at qG (by simp)
        have qH := gx12.at qH (by simp)
        have qA := gx12.at qA (by simp)
        have qX := gx12.at qX (by simp)
        clear hb gx12
        have VY := Lib.hid hvY
        clear hvY
        have fY : Fr [] x12 x12 := Fr.refl _ _
        obtain ⟨x13, ex13⟩ : ∃ W, W = x12.alloc (.cells #[.int .i64 (B : Int), .int .i64 (Hs : Int), .slice adY MA.length cpY] 24) := ⟨_, rfl⟩
        obtain ⟨pY, epY⟩ : ∃ p, p = x12.heap.size := ⟨_, rfl⟩
        have gx13 : Fr [] x12 x13 := by rw [ex13]; exact (Fr.refl [] x12).alloc _
        have hx13 : Fr [] w x13 := hx12.trans gx13 (by simp)
        have fF := fF.trans gx13 (by simp)
        have fG := fG.trans gx13 (by simp)
        have fH := fH.trans gx13 (by simp)
        have fA := fA.trans gx13 (by simp)
        have fX := fX.trans gx13 (by simp)
        have fY := fY.trans gx13 (by simp)
        have qF := gx13.at qF (by simp)
        have qG := gx13.at qG (by simp)
        have qH := gx13.at qH (by simp)
        have qA := gx13.at qA (by simp)
        have qX := gx13.at qX (by simp)
        have qY : x13.heap[pY]? = some (.cells #[.int .i64 (B : Int), .int .i64 (Hs : Int), .slice adY MA.length cpY] 24 (0, 0)) := by rw [ex13, epY]; exact heap_new rfl
        have X0 := row_cell qX 0
        have X1 := row_cell qX 1
        have X2 := row_cell qX 2
        have F0 := row_cell qF 0
        have F1 := row_cell qF 1
        have F2 := row_cell qF 2
        simp at X0 X1 X2 F0 F1 F2
        rw [ex13] at X0 X1 X2 F0 F1 F2
        go_wp2_with fail
        rw [← ex13, ← epY]
        rw [← ex13] at X0 X1 X2 F0 F1 F2
        clear ex13 epY gx13
        refine (joinQ_any (B : Int) (Hs : Int) MA MF MA (.agg #[.int .i64 (B : Int), .int .i64 (Hs : Int), .slice adX MA.length cpX]) (.agg #[.int .i64 (B : Int), .int .i64 (Hs : Int), .slice (some ⟨gF, 0, none⟩) Q kF]) x13 J3.out K3.out WA WF ⟨_, rfl, VX.out.fr0 fX⟩ ⟨_, rfl, VF.out.fr0 fF⟩).mono ?_
        rintro e x14 ⟨adU, cpU, rfl, hvU, hb⟩
        have gx14 : Fr [] x13 x14 := Fr.ofBelow hb
        have hx14 : Fr [] w x14 := hx13.trans gx14 (by simp)
        have fF := fF.trans gx14 (by simp)
        have fG := fG.trans gx14 (by simp)
        have fH := fH.trans gx14 (by simp)
        have fA := fA.trans gx14 (by simp)
        have fX := fX.trans gx14 (by simp)
        have fY := fY.trans gx14 (by simp)
        clear X0 X1 X2 F0 F1 F2
        have qF := gx14.at qF (by simp)
        have qG := gx14.at qG (by simp)
        have qH := gx14.at qH (by simp)
        have qA := gx14.at qA (by simp)
        have qX := gx14.at qX (by simp)
        have qY := gx14.at qY (by simp)
        clear hb gx14
        have VU := Lib.hid hvU
        clear hvU
        have fU : Fr [] x14 x14 := Fr.refl _ _
        obtain ⟨x15, ex15⟩ : ∃ W, W = x14.alloc (.cells #[.int .i64 (B : Int), .int .i64 (Hs : Int), .slice adU MA.length cpU] 24) := ⟨_, rfl⟩
        obtain ⟨pU, epU⟩ : ∃ p, p = x14.heap.size := ⟨_, rfl⟩
        have gx15 : Fr [] x14 x15 := by rw [ex15]; exact (Fr.refl [] x14).alloc _
        have hx15 : Fr [] w x15 := hx14.trans gx15 (by simp)
        have fF := fF.trans gx15 (by simp)
        have fG := fG.trans gx15 (by simp)
        have fH := fH.trans gx15 (by simp)
        have fA := fA.trans gx15 (by simp)
        have fX := fX.trans gx15 (by simp)
        have fY := fY.trans gx15 (by simp)
        have fU := fU.trans gx15 (by simp)
        have qF := gx15.at qF (by simp)
        have qG := gx15.at qG (by simp)
        have qH := gx15.at qH (by simp)
        have qA := gx15.at qA (by simp)
        have qX := gx15.at qX (by simp)
        have qY := gx15.at qY (by simp)
        have qU : x15.heap[pU]? = some (.cells #[.int .i64 (B : Int), .int .i64 (Hs : Int), .slice adU MA.length cpU] 24 (0, 0)) := by rw [ex15, epU]; exact heap_new rfl
        have F0 := row_cell qF 0
        have F1 := row_cell qF 1
        have F2 := row_cell qF 2
        have G0 := row_cell qG 0
        have G1 := row_cell qG 1
        have G2 := row_cell qG 2
        simp at F0 F1 F2 G0 G1 G2
        rw [ex15] at F0 F1 F2 G0 G1 G2
        go_wp2_with fail
        rw [← ex15, ← epU]
        rw [← ex15] at F0 F1 F2 G0 G1 G2
        clear ex15 epU gx15
        refine (sameQ_any ⟨(B : Int), (Hs : Int), MF⟩ (.agg #[.int .i64 (B : Int), .int .i64 (Hs : Int), .slice (some ⟨gF, 0, none⟩) Q kF]) (.agg #[.int .i64 (B : Int), .int .i64 (Hs : Int), .slice (some ⟨gG, 0, none⟩) Q kG]) x15 ⟨_, rfl, VF.out.fr0 fF⟩ ⟨_, rfl, VG.out.fr0 fG⟩).mono ?_
        rintro e x16 ⟨rfl, hb⟩
        have gx16 : Fr [] x15 x16 := Fr.ofBelow hb
        have hx16 : Fr [] w x16 := hx15.trans gx16 (by simp)
        have fF := fF.trans gx16 (by simp)
        have fG := fG.trans gx16 (by simp)
        have fH := fH.trans gx16 (by simp)
        have fA := fA.trans gx16 (by simp)
        have fX := fX.trans gx16 (by simp)
        have fY := fY.trans gx16 (by simp)
        have fU := fU.trans gx16 (by simp)
        clear F0 F1 F2 G0 G1 G2
        have qF := gx16.at qF (by simp)
        have qG := gx16.at qG (by simp)
        have qH := gx16.at qH (by simp)
        have qA := gx16.at qA (by simp)
        have qX := gx16.at qX (by simp)
        have qY := gx16.at qY (by simp)
        have qU := gx16.at qU (by simp)
        clear hb gx16
        have X0 := row_cell qX 0
        have X1 := row_cell qX 1
        have X2 := row_cell qX 2
        have A0 := row_cell qA 0
        have A1 := row_cell qA 1
        have A2 := row_cell qA 2
        simp at X0 X1 X2 A0 A1 A2
        go_wp2_with fail
        refine (sameQ_any ⟨(B : Int), (Hs : Int), MA⟩ (.agg #[.int .i64 (B : Int), .int .i64 (Hs : Int), .slice adX MA.length cpX]) (.agg #[.int .i64 (B : Int), .int .i64 (Hs : Int), .slice (some ⟨gA, 0, none⟩) Q kA]) x16 ⟨_, rfl, VX.out.fr0 fX⟩ ⟨_, rfl, VA.out.fr0 fA⟩).mono ?_
        rintro e x17 ⟨rfl, hb⟩
        have gx17 : Fr [] x16 x17 := Fr.ofBelow hb
        have hx17 : Fr [] w x17 := hx16.trans gx17 (by simp)
        have fF := fF.trans gx17 (by simp)
        have fG := fG.trans gx17 (by simp)
        have fH := fH.trans gx17 (by simp)
        have fA := fA.trans gx17 (by simp)
        have fX := fX.trans gx17 (by simp)
        have fY := fY.trans gx17 (by simp)
        have fU := fU.trans gx17 (by simp)
        clear X0 X1 X2 A0 A1 A2
        have qF := gx17.at qF (by simp)
        have qG := gx17.at qG (by simp)
        have qH := gx17.at qH (by simp)
        have qA := gx17.at qA (by simp)
        have qX := gx17.at qX (by simp)
        have qY := gx17.at qY (by simp)
        have qU := gx17.at qU (by simp)
        clear hb gx17
        have Y0 := row_cell qY 0
        have Y1 := row_cell qY 1
        have Y2 := row_cell qY 2
        have A0 := row_cell qA 0
        have A1 := row_cell qA 1
        have A2 := row_cell qA 2
        simp at Y0 Y1 Y2 A0 A1 A2
        go_wp2_with fail
        refine (sameQ_any ⟨(B : Int), (Hs : Int), MA⟩ (.agg #[.int .i64 (B : Int), .int .i64 (Hs : Int), .slice adY MA.length cpY]) (.agg #[.int .i64 (B : Int), .int .i64 (Hs : Int), .slice (some ⟨gA, 0, none⟩) Q kA]) x17 ⟨_, rfl, VY.out.fr0 fY⟩ ⟨_, rfl, VA.out.fr0 fA⟩).mono ?_
        rintro e x18 ⟨rfl, hb⟩
        have gx18 : Fr [] x17 x18 := Fr.ofBelow hb
        have hx18 : Fr [] w x18 := hx17.trans gx18 (by simp)
        have fF := fF.trans gx18 (by simp)
        have fG := fG.trans gx18 (by simp)
        have fH := fH.trans gx18 (by simp)
        have fA := fA.trans gx18 (by simp)
        have fX := fX.trans gx18 (by simp)
        have fY := fY.trans gx18 (by simp)
        have fU := fU.trans gx18 (by simp)
        clear Y0 Y1 Y2 A0 A1 A2
        have qF := gx18.at qF (by simp)
        have qG := gx18.at qG (by simp)
        have qH := gx18.at qH (by simp)
        have qA := gx18.at qA (by simp)
        have qX := gx18.at qX (by simp)
        have qY := gx18.at qY (by simp)
        have qU := gx18.at qU (by simp)
        clear hb gx18
        have U0 := row_cell qU 0
        have U1 := row_cell qU 1
        have U2 := row_cell qU 2
        have A0 := row_cell qA 0
        have A1 := row_cell qA 1
        have A2 := row_cell qA 2
        simp at U0 U1 U2 A0 A1 A2
        go_wp2_with fail
        refine (sameQ_any ⟨(B : Int), (Hs : Int), MA⟩ (.agg #[.int .i64 (B : Int), .int .i64 (Hs : Int), .slice adU MA.length cpU]) (.agg #[.int .i64 (B : Int), .int .i64 (Hs : Int), .slice (some ⟨gA, 0, none⟩) Q kA]) x18 ⟨_, rfl, VU.out.fr0 fU⟩ ⟨_, rfl, VA.out.fr0 fA⟩).mono ?_
        rintro e x19 ⟨rfl, hb⟩
        have gx19 : Fr [] x18 x19 := Fr.ofBelow hb
        have hx19 : Fr [] w x19 := hx18.trans gx19 (by simp)
        have fF := fF.trans gx19 (by simp)
        have fG := fG.trans gx19 (by simp)
        have fH := fH.trans gx19 (by simp)
        have fA := fA.trans gx19 (by simp)
        have fX := fX.trans gx19 (by simp)
        have fY := fY.trans gx19 (by simp)
        have fU := fU.trans gx19 (by simp)
        clear U0 U1 U2 A0 A1 A2
        have qF := gx19.at qF (by simp)
        have qG := gx19.at qG (by simp)
        have qH := gx19.at qH (by simp)
        have qA := gx19.at qA (by simp)
        have qX := gx19.at qX (by simp)
        have qY := gx19.at qY (by simp)
        have qU := gx19.at qU (by simp)
        clear hb gx19
        go_wp2_with fail
        go_ret
        exact ⟨rfl, hx19.toBelow (by simp)⟩
      · obtain ⟨k, rfl⟩ : ∃ k, j = k + 1 := ⟨j - 1, by omega⟩
        have e1 : ((k + 1 : Nat) : Int) - 1 = (k : Int) := by omega
        rw [e1]
        clear e1 hpos
        have t1 : decide ((0 : Int) ≤ (k : Int)) = true := by simp
        have hlt : k < l0.length := by omega
        obtain ⟨b, off, rfl⟩ := ha0 k hlt
        have cs0 := (HZ0.out.fr0 HW0.out).cell k hlt
        have HB : Hid (backL (l0.drop k) = backL (l0.drop (k + 1)) ++ [l0.getD k 0, l0.getD k 0]) := Lib.hid (backL_drop l0 k hlt)
        generalize l0.getD k 0 = s at cs0 HB
        have HL : Hid ((backL (l0.drop (k + 1))).length ≤ 120) := Lib.hid (by rw [backL_len, List.length_drop]; omega)
        generalize backL (l0.drop (k + 1)) = bl at HO HB HL
        have i0 : (0 : Int) ≤ (k : Int) := by omega
        have i1 : (k : Int) < (l0.length : Int) := by omega
        have w1 : IntKind.i64.wrap ((k : Int) - 1) = (k : Int) - 1 := IntWalk.i64_in _ (by omega)
        go_wp2_with fail
        have hc0 := cs0
        have hh0 : Fr [] x2 wr.drew := hfr.drew
        have hS0 : wr.drew.cell? ⟨b, off + k, none⟩ = some (.int .i64 s) := hh0.cell hc0 (by simp)
        refine region_held 11 (fun W' => W'.cell? ⟨b, off + k, none⟩ = some (.int .i64 s)) hmx ?_
        change Held _ _ _ _ _ _ 12 (Array.replicate 12 false) _ _
        have hgd : Fr [] wr wr.drew := (Fr.refl [] wr).drew
        generalize wr.drew = wd at hh0 hS0 hgd ⊢
        have HGD := Lib.hid hgd
        clear hgd
        refine hd_take 0 (v := bw) rfl (by kernel_rfl) (by kernel_rfl) (by kernel_rfl) rfl hS0 (fun W' hS => by go_simp) rfl ?_
        refine hd_take 1 (v := .slice (some ⟨b, off, none⟩) l0.length c0) rfl (by kernel_rfl) (by kernel_rfl) (by kernel_rfl) rfl hS0 (fun W' hS => by go_simp) rfl ?_
        refine hd_take 2 (v := .int .i64 (k : Int)) rfl (by kernel_rfl) (by kernel_rfl) (by kernel_rfl) rfl hS0 (fun W' hS => by go_simp) rfl ?_
        refine hd_take 5 (v := .slice (some ⟨b, off, none⟩) l0.length c0) rfl (by kernel_rfl) (by kernel_rfl) (by kernel_rfl) rfl hS0 (fun W' hS => by go_simp) rfl ?_
        refine hd_take 6 (v := .int .i64 (k : Int)) rfl (by kernel_rfl) (by kernel_rfl) (by kernel_rfl) rfl hS0 (fun W' hS => by go_simp) rfl ?_
        simp only [Act.put, List.setIfInBounds_toArray, List.set_cons_zero, List.set_cons_succ]
        refine hd_take 3 (v := .pointer (some ⟨b, off + k, none⟩)) rfl (by kernel_rfl) (by kernel_rfl) (by kernel_rfl) rfl hS0 (fun W' hS => by first | (go_simp; done) | (go_simp; intro hix; omega)) rfl ?_
        refine hd_take 7 (v := .pointer (some ⟨b, off + k, none⟩)) rfl (by kernel_rfl) (by kernel_rfl) (by kernel_rfl) rfl hS0 (fun W' hS => by first | (go_simp; done) | (go_simp; intro hix; omega)) rfl ?_
        simp only [Act.put, List.setIfInBounds_toArray, List.set_cons_zero, List.set_cons_succ]
        refine hd_take 4 (v := .int .i64 s) rfl (by kernel_rfl) (by kernel_rfl) (by kernel_rfl) rfl hS0 (fun W' hS => by have h1 := hS; go_simp) rfl ?_
        refine hd_take 8 (v := .int .i64 s) rfl (by kernel_rfl) (by kernel_rfl) (by kernel_rfl) rfl hS0 (fun W' hS => by have h1 := hS; go_simp) rfl ?_
        simp only [Act.put, List.setIfInBounds_toArray, List.set_cons_zero, List.set_cons_succ]
        refine hd_one 9 (by kernel_rfl) rfl (by kernel_rfl) rfl (fun K' hK => ?_)
        go_simp
        have hg1 : Fr [] wr (wd.alloc (.cells #[.int .i64 s, .int .i64 s] 3)) := HGD.out.alloc _
        have hh1 := hh0.alloc (.cells #[.int .i64 s, .int .i64 s] 3)
        have hS1 : (wd.alloc (.cells #[.int .i64 s, .int .i64 s] 3)).cell? ⟨b, off + k, none⟩ = some (.int .i64 s) := hh1.cell hc0 (by simp)
        refine hK.out _ _ (fun _ => hS1) ?_
        clear hK K'
        try simp only [Act.put, List.setIfInBounds_toArray, List.set_cons_zero, List.set_cons_succ]
        refine hd_one 10 (by kernel_rfl) rfl (by kernel_rfl) rfl (fun K' hK => ?_)
        refine wp_appZ (.tmp 49) (.tmp 58) rfl x2.heap.size bw (.slice (some ⟨wd.heap.size, 0, none⟩) 2 2) bl [s, s] x2 (by kernel_rfl) (by kernel_rfl) (zs_two (heap_new rfl)) (HO.out.fr hg1 (by simp)) hh1 (Nat.le_refl _) hh1.size (by have := HL.out; simp; omega) ?_
        intro bn w9 hown hf9 _
        have HN := Lib.hid hown
        clear hown
        have hS2 : w9.cell? ⟨b, off + k, none⟩ = some (.int .i64 s) := hf9.cell hc0 (by simp)
        refine hK.out _ _ (fun _ => hS2) ?_
        clear hK K'
        try simp only [Act.put, List.setIfInBounds_toArray, List.set_cons_zero, List.set_cons_succ]
        refine hd_one 11 (by kernel_rfl) rfl (by kernel_rfl) rfl (fun K' hK => ?_)
        go_simp
        refine hK.out _ _ (fun h => absurd rfl h) ?_
        clear hK K'
        refine held_done (by kernel_rfl) ?_
        go_wp2_with fail
        go_roundg k
        case measure => have := HG.out; omega
        case rel => exact ⟨k, _, by omega, rfl, by go_num, rfl, by rw [HB.out]; exact HN.out, hf9⟩
end Go.Proofs.YtnmakpiddfhhnaaGreatDoor
