/-
  foyerref36.Parse.
-/
import Derived.Test.YtffldampcbfgjaaGreatDoorFrC
import Derived.Test.YtffldampcbfgjaaGreatDoorFlJ
import Derived.Test.YtffldampcbfgjaaGreatDoorSgnC
namespace Go.Proofs.YtffldampcbfgjaaGreatDoor
open Go.RowKit

theorem ba_cutP (l : List UInt8) (i j : Nat) : (⟨l.toArray⟩ : ByteArray).extract i j = ⟨((l.drop i).take (j - i)).toArray⟩ := by
  apply ByteArray.ext
  simp
theorem noneT_two (text : List UInt8) : noneT text 2 := fun m h1 h2 => by omega
theorem noneT_step {text : List UInt8} {n : Nat} (h : noneT text n) (hn : ¬ (okT text n ∧ textF (tryF text n) = text)) : noneT text (n + 1) := fun m h1 h2 h3 => by
  rcases Nat.lt_or_ge m n with h4 | h4
  · exact h m h1 h4 h3
  · obtain rfl : m = n := by omega
    exact hn
/-- The words read so far. -/
def tryW (text : List UInt8) (n k : Nat) : List Nat := (List.range k).map fun i => wV (wordT text n i)
theorem tryW_succ (text : List UInt8) (n k : Nat) : tryW text n (k + 1) = tryW text n k ++ [wV (wordT text n k)] := by
  unfold tryW
  rw [List.range_succ, List.map_append]; rfl
theorem wordT_len {text : List UInt8} {n k q : Nat} (h : (restT text n).length = 17 * q) (hk : k < q) : (wordT text n k).length = 16 := by
  unfold wordT
  rw [List.length_take, List.length_drop]
  omega
theorem wordT_at {text : List UInt8} {n k j : Nat} (hj : j < 16) : (wordT text n k).getD j 0 = (restT text n).getD (17 * k + (j + 1)) 0 := by
  unfold wordT
  rw [show 17 * k + (j + 1) = 17 * k + 1 + j by omega]
  simp [List.getD_eq_getElem?_getD, hj, List.getElem?_drop]
theorem u64_mul (x : Nat) : ∃ y : Nat, y < 18446744073709551616 ∧ (x : Int) * 16 % 18446744073709551616 = (y : Int) ∧ y = x * 16 % 18446744073709551616 := ⟨x * 16 % 18446744073709551616, Nat.mod_lt _ (by decide), by omega, rfl⟩
set_option maxRecDepth 100000 in
set_option maxHeartbeats 8000000 in
theorem rparse36_any (text : List UInt8) (w : World) (ht : text.length ≤ 10000) :
    Calls Tryz.prog 18 #[.string ⟨text.toArray⟩] w fun e w' => ∃ o, ParsedF text o ∧ ParsePost w o e w' := by
  obtain ⟨W0, hW0⟩ : ∃ W0, W0 = w.alloc (.cells #[.int .i64 0, .int .i64 0, .slice none 0 0] 25) := ⟨_, rfl⟩
  obtain ⟨p, ep⟩ : ∃ p, p = w.heap.size := ⟨_, rfl⟩
  have h0 : Fr [] w W0 := by rw [hW0]; exact (Fr.refl [] w).alloc _
  have hp0 : W0.heap[p]? = some (.cells #[.int .i64 0, .int .i64 0, .slice none 0 0] 25 (0, 0)) := by rw [hW0]; exact heap_new ep
  go_enter Tryz.func18, Tryz.ntmps18
  go_wp2_with fail
  rw [← hW0, ← ep]
  have EP := Lib.hid ep
  clear hW0 ep
  go_loopg [4] 5 (fun gh n wr => ∃ k : Nat, 2 ≤ k ∧ k ≤ 6 ∧ gh = 7 - k ∧ n = .int .i64 (k : Int) ∧ noneT text k ∧ Fr [] W0 wr)
  case atStart => exact ⟨2, by omega, by omega, by omega, rfl, noneT_two text, Fr.refl _ _⟩
  case round =>
    obtain ⟨n, hn2, hn6, hgh, rfl, hno, hfr⟩ := hrel
    have HG := Lib.hid hgh
    have HNO := Lib.hid hno
    clear hgh hno
    obtain ⟨wo, rfl⟩ : ∃ wo : World, wo = wr := ⟨_, rfl⟩
    have h1 := h0.trans hfr (by simp)
    have hp1 := hfr.at hp0 (by simp)
    by_cases h5 : n ≤ 5
    case neg =>
      have t1 : decide ((n : Int) ≤ 5) = false := by simp; omega
      have HPA : Hid (ParsedF text none) := Lib.hid (parsed_no HNO.out (Or.inl (by omega)))
      have HX := Lib.hid (((h1.setCell ⟨p, 0, none⟩ (.int .i64 0) (by right; have := EP.out; simp; omega)).setCell ⟨p, 1, none⟩ (.int .i64 0) (by right; have := EP.out; simp; omega)).setCell ⟨p, 2, none⟩ (.slice none 0 0) (by right; have := EP.out; simp; omega))
      have HRX := Lib.hid (row_set (row_set (row_set hp1 0 (.int .i64 0)) 1 (.int .i64 0)) 2 (.slice none 0 0))
      have z0 := row_cell hp1 0
      have z1 := row_cell hp1 1
      have z2 := row_cell hp1 2
      simp at z0 z1 z2
      have y0 := row_free hp1 0
      have y1 := row_free hp1 1
      have y2 := row_free hp1 2
      clear hp1 hfr h1
      go_wp2_with fail
      have x0 := row_cell HRX.out 0
      have x1 := row_cell HRX.out 1
      have x2 := row_cell HRX.out 2
      simp at x0 x1 x2
      refine bodyPost_ret (v := .tuple #[zeroF, .int .i64 4]) ?_ rfl ⟨none, HPA.out, rfl, HX.out.toBelow (by simp)⟩
      unfold zeroF
      rw [results_cell_tmp rfl]
      go_simp
    have t1 : decide ((n : Int) ≤ 5) = true := by simp; omega
    have w1 : IntKind.i64.wrap ((n : Int) + 2) = (n : Int) + 2 := IntWalk.i64_in _ (by omega)
    by_cases hlen : n + 2 ≤ text.length
    case neg =>
      have t2 : decide ((n : Int) + 2 ≤ (text.length : Int)) = false := by simp; omega
      have HPA : Hid (ParsedF text none) := Lib.hid (parsed_no HNO.out (Or.inr (by omega)))
      have HX := Lib.hid (((h1.setCell ⟨p, 0, none⟩ (.int .i64 0) (by right; have := EP.out; simp; omega)).setCell ⟨p, 1, none⟩ (.int .i64 0) (by right; have := EP.out; simp; omega)).setCell ⟨p, 2, none⟩ (.slice none 0 0) (by right; have := EP.out; simp; omega))
      have HRX := Lib.hid (row_set (row_set (row_set hp1 0 (.int .i64 0)) 1 (.int .i64 0)) 2 (.slice none 0 0))
      have z0 := row_cell hp1 0
      have z1 := row_cell hp1 1
      have z2 := row_cell hp1 2
      simp at z0 z1 z2
      have y0 := row_free hp1 0
      have y1 := row_free hp1 1
      have y2 := row_free hp1 2
      clear hp1 hfr h1
      go_wp2_with fail
      have x0 := row_cell HRX.out 0
      have x1 := row_cell HRX.out 1
      have x2 := row_cell HRX.out 2
      simp at x0 x1 x2
      refine bodyPost_ret (v := .tuple #[zeroF, .int .i64 4]) ?_ rfl ⟨none, HPA.out, rfl, HX.out.toBelow (by simp)⟩
      unfold zeroF
      rw [results_cell_tmp rfl]
      go_simp
    have t2 : decide ((n : Int) + 2 ≤ (text.length : Int)) = true := by simp; omega
    go_wp2_with fail
    go_loopg [5, 6] n (fun gh b i wr => ∃ m : Nat, m ≤ n ∧ gh = n - m ∧ i = .int .i64 (m : Int) ∧ b = .int .i64 (dgV (text.take m) : Nat) ∧ wo = wr)
    case atStart => exact ⟨0, by omega, by omega, rfl, rfl, rfl⟩
    case round =>
      obtain ⟨m, hm, hgh, rfl, rfl, rfl⟩ := hrel
      have HG2 := Lib.hid hgh
      clear hgh
      by_cases hmn : m < n
      · have t3 : decide ((m : Int) < (n : Int)) = true := by simp; omega
        have hB := dgV_lt text m (by omega)
        have hpw : 10 ^ m ≤ 10 ^ 4 := Nat.pow_le_pow_right (by decide) (by omega)
        have HS := Lib.hid (dgV_snoc text m (by omega))
        have hb := ba_get text m (by omega)
        have hdl := digG_le (text.getD m 0)
        generalize dgV (text.take m) = b at hB HS ⊢
        generalize text.getD m 0 = c at hb HS hdl
        generalize 10 ^ m = q at hB hpw
        have j0 : (m : Int) < (text.length : Int) := by omega
        have j1 : (0 : Int) ≤ (m : Int) := by omega
        have w3 : IntKind.i64.wrap ((b : Int) * 10) = ((b * 10 : Nat) : Int) := by rw [IntWalk.i64_in _ (by omega)]; omega
        go_wp2_with fail
        refine (rdig36_any c wo).mono ?_
        rintro e wx ⟨rfl, rfl⟩
        generalize digG c = dg at HS hdl ⊢
        have w4 : IntKind.i64.wrap ((b : Int) * 10 + (dg : Int)) = ((b * 10 + dg : Nat) : Int) := by rw [IntWalk.i64_in _ (by omega)]; omega
        go_wp2_with fail
        go_roundg (n - (m + 1))
        case measure => have := HG2.out; omega
        case rel => exact ⟨m + 1, by omega, rfl, by go_num, by rw [HS.out]; go_num, rfl⟩
      · obtain rfl : m = n := by omega
        have t3 : decide ((m : Int) < (m : Int)) = false := by simp
        have hB := dgV_lt text m (by omega)
        have hpw : 10 ^ m ≤ 10 ^ 5 := Nat.pow_le_pow_right (by decide) (by omega)
        have HBT : Hid (bitsT text m = dgV (text.take m)) := Lib.hid rfl
        generalize dgV (text.take m) = b at hB HBT ⊢
        generalize 10 ^ m = q at hB hpw
        have hb := ba_get text (m + 1) (by omega)
        have hdl := digG_le (text.getD (m + 1) 0)
        obtain ⟨hs, ehs⟩ : ∃ q, q = digG (text.getD (m + 1) 0) := ⟨_, rfl⟩
        have EHS := Lib.hid ehs
        rw [← ehs] at hdl
        clear ehs
        obtain ⟨c, ec⟩ : ∃ c, c = text.getD (m + 1) 0 := ⟨_, rfl⟩
        rw [← ec] at hb EHS
        have HEC := Lib.hid ec
        clear ec
        have j0 : (m : Int) + 1 < (text.length : Int) := by omega
        have j1 : (0 : Int) ≤ (m : Int) := by omega
        have w3 : IntKind.i64.wrap ((m : Int) + 1) = (m : Int) + 1 := IntWalk.i64_in _ (by omega)
        go_wp2_with fail
        refine (rdig36_any c wo).mono ?_
        rintro e wx ⟨rfl, rfl⟩
        rw [← EHS.out]
        obtain ⟨W1, hW1⟩ : ∃ W1, W1 = wo.alloc (.cells #[.int .i64 (b : Int), .int .i64 (hs : Int), .slice none 0 0] 25) := ⟨_, rfl⟩
        obtain ⟨bf, ebf⟩ : ∃ q, q = wo.heap.size := ⟨_, rfl⟩
        have hf1 : Fr [] wo W1 := by rw [hW1]; exact (Fr.refl [] wo).alloc _
        have hq1 : W1.heap[bf]? = some (.cells #[.int .i64 (b : Int), .int .i64 (hs : Int), .slice none 0 0] 25 (0, 0)) := by rw [hW1]; exact heap_new ebf
        have hpbf : p < bf := by rw [ebf]; exact lt_of_block hp1
        have x0 := row_cell hq1 0
        have x1 := row_cell hq1 1
        simp at x0 x1
        rw [hW1] at x0 x1
        have hrest := ba_cutP text (m + 2) text.length
        have hrl : (restT text m).length = text.length - (m + 2) := by unfold restT; rw [List.length_drop]
        have hre : (text.drop (m + 2)).take (text.length - (m + 2)) = restT text m := by unfold restT; exact List.take_of_length_le (by rw [List.length_drop]; exact Nat.le_refl _)
        rw [hre] at hrest
        clear hre
        have k0 : (m : Int) + 2 ≤ (text.length : Int) := by omega
        have k1 : (0 : Int) ≤ (m : Int) + 2 := by omega
        have k2 : ((m : Int) + 2).toNat = m + 2 := by omega
        go_wp2_with fail
        rw [← hW1, ← ebf]
        have EBF := Lib.hid ebf
        clear hW1 ebf x0 x1 hrest k0 k1 k2
        refine (rform36_any (b : Int) (hs : Int) W1).mono ?_
        rintro e wy ⟨rfl, rfl⟩
        obtain ⟨fo, hfo⟩ : ∃ q, q = formF (b : Int) (hs : Int) := ⟨_, rfl⟩
        rw [← hfo]
        have HF1 := Lib.hid (hfr.trans hf1 (by simp))
        cases fo with
        | false =>
          have HN := Lib.hid (noneT_step HNO.out (fun h => by
            have h2 := h.1.1
            rw [HBT.out, ← HEC.out, ← EHS.out, ← hfo] at h2
            cases h2))
          clear hfo
          go_wp2_with fail
          go_roundg (7 - (m + 1))
          case measure => have := HG.out; omega
          case rel => exact ⟨m + 1, by omega, by omega, rfl, by go_num, HN.out, HF1.out⟩
        | true =>
          have HFO := Lib.hid hfo.symm
          have hfp := formF_parts hfo.symm
          clear hfo
          obtain ⟨q, eq⟩ : ∃ q, q = b / 64 := ⟨_, rfl⟩
          have e1 : (b : Int).tdiv 64 = (q : Int) := by rw [Int.tdiv_eq_ediv_of_nonneg (by omega)]; omega
          have hq : q ≤ 1024 := by omega
          have w5 : IntKind.i64.wrap (17 * (q : Int)) = ((17 * q : Nat) : Int) := by rw [IntWalk.i64_in _ (by omega)]; omega
          have HQ := Lib.hid eq
          clear eq hfp
          obtain ⟨rl, erl⟩ : ∃ q, q = (restT text m).length := ⟨_, rfl⟩
          have ERL := Lib.hid erl
          rw [← erl] at hrl
          by_cases hrq : rl = 17 * q
          case neg =>
            have t4 : ((rl : Int) != ((17 * q : Nat) : Int)) = true := by rw [bne_iff_ne]; omega
            have t5 : (((restT text m).length : Int) != ((17 * q : Nat) : Int)) = true := by rw [← erl]; exact t4
            have HN := Lib.hid (noneT_step HNO.out (fun h => by
              have h2 := h.1.2
              rw [HBT.out, ← HQ.out, ← ERL.out] at h2
              exact hrq h2))
            clear hrq erl t4 hrl
            go_wp2_with fail
            go_roundg (7 - (m + 1))
            case measure => have := HG.out; omega
            case rel => exact ⟨m + 1, by omega, by omega, rfl, by go_num, HN.out, HF1.out⟩
          have t5 : (((restT text m).length : Int) != ((17 * q : Nat) : Int)) = false := by rw [← erl, hrq]; simp
          have t6 : (((restT text m).length : Int) != 17 * (q : Int)) = false := by rw [← erl, hrq]; simp
          have HRQ := Lib.hid hrq
          have T6 := Lib.hid t6
          clear hrq erl hrl
          go_wp2_with fail
          try rw [T6.out]
          clear t5 t6 hdl hb j0 w3 w1 t1 t2 t3 w5
          go_loopg [9] q (fun gi i wr => ∃ (k : Nat) (cv : Value), k ≤ q ∧ gi = q - k ∧ i = .int .i64 (k : Int) ∧ wr.heap[bf]? = some (.cells #[.int .i64 (b : Int), .int .i64 (hs : Int), cv] 25 (0, 0)) ∧ OwnW wo.heap.size wr cv (tryW text m k) ∧ Fr [] wo wr)
          case atStart => exact ⟨0, .slice none 0 0, by omega, by omega, rfl, hq1, ⟨rfl, Or.inl ⟨rfl, rfl⟩⟩, hf1⟩
          case round =>
            obtain ⟨k, cv, hk, hgi, rfl, hbf, hown, hfk⟩ := hrel
            have HG3 := Lib.hid hgi
            have HBF := Lib.hid hbf
            have HO := Lib.hid hown
            have HFK := Lib.hid hfk
            clear hgi hbf hown hfk
            obtain ⟨wk, rfl⟩ : ∃ wk : World, wk = wr := ⟨_, rfl⟩
            by_cases hkq : k < q
            · have t3 : decide ((k : Int) < (q : Int)) = true := by simp; omega
              have HWL := Lib.hid (wordT_len (text := text) (n := m) (k := k) (by rw [← ERL.out]; exact HRQ.out) hkq)
              go_wp2_with fail
              go_loopg [10, 11] 16 (fun gj x i wr => ∃ j : Nat, j ≤ 16 ∧ gj = 16 - j ∧ i = .int .i64 ((j + 1 : Nat) : Int) ∧ x = .int .u64 (wV ((wordT text m k).take j) : Nat) ∧ wk = wr)
              case atStart => exact ⟨0, by omega, by omega, rfl, rfl, rfl⟩
              case round =>
                obtain ⟨j, hj, hgj, rfl, rfl, rfl⟩ := hrel
                have HG4 := Lib.hid hgj
                clear hgj
                by_cases hj16 : j < 16
                · have t4 : decide (((j + 1 : Nat) : Int) < 17) = true := by simp; omega
                  have HS := Lib.hid (wV_snoc (wordT text m k) j (by rw [HWL.out]; exact hj16))
                  have hX := wV_lt ((wordT text m k).take j)
                  have HC := Lib.hid (wordT_at (text := text) (n := m) (k := k) hj16)
                  have hrr : (restT text m).length = 17 * q := by rw [← ERL.out]; exact HRQ.out
                  have hjr : 17 * k + (j + 1) < (restT text m).length := by omega
                  have hbb := ba_get (restT text m) (17 * k + (j + 1)) hjr
                  rw [HC.out] at HS
                  generalize wV ((wordT text m k).take j) = X at HS hX ⊢
                  generalize (restT text m).getD (17 * k + (j + 1)) 0 = c2 at hbb HS
                  clear HC hrr
                  have hd2 := digG_le c2
                  obtain ⟨y, hy, ey1, ey2⟩ := u64_mul X
                  have EY := Lib.hid ey2
                  clear ey2
                  have eyw : IntKind.u64.wrap ((X : Int) * 16) = (y : Int) := by rw [IntKind.wrap_u64]; exact ey1
                  have w6 : IntKind.i64.wrap (17 * (k : Int)) = ((17 * k : Nat) : Int) := by rw [IntWalk.i64_in _ (by omega)]; omega
                  have w7 : IntKind.i64.wrap (((17 * k : Nat) : Int) + ((j + 1 : Nat) : Int)) = ((17 * k + (j + 1) : Nat) : Int) := by rw [IntWalk.i64_in _ (by omega)]; omega
                  have j2 : ((17 * k + (j + 1) : Nat) : Int) < ((restT text m).length : Int) := by omega
                  have j3 : (0 : Int) ≤ ((17 * k + (j + 1) : Nat) : Int) := by omega
                  go_wp2_with fail
                  refine (rdig36_any c2 wk).mono ?_
                  rintro e wz ⟨rfl, rfl⟩
                  generalize digG c2 = dg at HS hd2 ⊢
                  obtain ⟨z, hz1, hz2, hz3⟩ : ∃ z : Nat, z < 18446744073709551616 ∧ ((y : Int) + (dg : Int)) % 18446744073709551616 = (z : Int) ∧ z = (y + dg) % 18446744073709551616 := ⟨(y + dg) % 18446744073709551616, Nat.mod_lt _ (by decide), by omega, rfl⟩
                  have HZ : Hid (wV ((wordT text m k).take (j + 1)) = z) := Lib.hid (by rw [HS.out, hz3, EY.out]; omega)
                  clear hz3
                  have ed : IntKind.u64.wrap (dg : Int) = (dg : Int) := by rw [IntKind.wrap_u64]; omega
                  have ez : IntKind.u64.wrap ((y : Int) + (dg : Int)) = (z : Int) := by rw [IntKind.wrap_u64]; exact hz2
                  go_wp2_with fail
                  go_roundg (16 - (j + 1))
                  case measure => have := HG4.out; omega
                  case rel => exact ⟨j + 1, by omega, rfl, by go_num, by rw [HZ.out], rfl⟩
                · obtain rfl : j = 16 := by omega
                  have t4 : decide (((16 + 1 : Nat) : Int) < 17) = false := by decide
                  have HTK : Hid ((wordT text m k).take 16 = wordT text m k) := Lib.hid (List.take_of_length_le (Nat.le_of_eq HWL.out))
                  rw [HTK.out]
                  have HSU := Lib.hid (tryW_succ text m k)
                  have hX := wV_lt (wordT text m k)
                  have hacc : (tryW text m k).length ≤ 2000 := by unfold tryW; rw [List.length_map, List.length_range]; omega
                  generalize wV (wordT text m k) = X at HSU hX ⊢
                  generalize tryW text m k = acc at HSU HO hacc
                  have x2 := row_cell HBF.out 2
                  simp at x2
                  go_wp2_with (at_builtin; go_loud (refine wpList_appW rfl (.tmp 82) (.tmp 84) rfl wo.heap.size cv acc X wo rfl rfl HO.out HFK.out (Nat.le_refl _) HFK.out.size (by omega) ?_))
                  intro v12 w12 ho12 hf12 hg12
                  have hbn : bf ∉ cv.ownBlock.toList := fun hm => by
                    have h1 := row_ne HBF.out (by decide) HO.out
                    exact h1 (Option.mem_toList.1 hm).symm
                  have hb12 := hg12.at HBF.out hbn
                  have x2 := row_cell hb12 2
                  simp at x2
                  have y2 := row_free hb12 2
                  obtain ⟨g12, n12, c12, rfl⟩ : ∃ g n c, v12 = .slice (some ⟨g, 0, none⟩) n c := by
                    rcases ho12.form with ⟨_, h0⟩ | ⟨g, c, _, h0, _⟩
                    · simp at h0
                    · exact ⟨g, _, c, h0⟩
                  have HR13 := Lib.hid (row_set hb12 2 (.slice (some ⟨g12, 0, none⟩) n12 c12))
                  have HG13 := Lib.hid (hf12.setCell ⟨bf, 2, none⟩ (.slice (some ⟨g12, 0, none⟩) n12 c12) (Or.inr (Nat.le_of_eq EBF.out.symm)))
                  have HO13 := Lib.hid (ho12.fr ((Fr.refl [bf] w12).setCell ⟨bf, 2, none⟩ (.slice (some ⟨g12, 0, none⟩) n12 c12) (by simp)) (fun x hx hm => by
                    rw [List.mem_singleton.1 hm] at hx
                    exact row_ne hb12 (by decide) ho12 hx.symm))
                  clear ho12 hf12 hg12 hb12 hbn
                  go_wp2_with fail
                  go_roundg (q - (k + 1))
                  case measure => have := HG3.out; omega
                  case rel => exact ⟨k + 1, .slice (some ⟨g12, 0, none⟩) n12 c12, by omega, rfl, by go_num, HR13.out, by rw [HSU.out]; exact HO13.out, HG13.out⟩
            · obtain rfl : k = q := by omega
              have t3 : decide ((k : Int) < (k : Int)) = false := by simp
              have HFT : Hid (tryF text m = ⟨(b : Int), (hs : Int), tryW text m k⟩) := Lib.hid (by
                unfold tryF tryW
                rw [HBT.out, ← HEC.out, ← EHS.out, ← HQ.out])
              have HOK : Hid (okT text m) := Lib.hid ⟨by rw [HBT.out, ← HEC.out, ← EHS.out]; exact HFO.out, by rw [HBT.out, ← HQ.out, ← ERL.out]; exact HRQ.out⟩
              obtain ⟨cg, cn, cc, rfl⟩ : ∃ g n c, cv = .slice g n c := by
                rcases HO.out.form with ⟨h0, _⟩ | ⟨g, c, _, h0, _⟩
                · exact ⟨_, _, _, h0⟩
                · exact ⟨_, _, _, h0⟩
              have x0 := row_cell HBF.out 0
              have x1 := row_cell HBF.out 1
              have x2 := row_cell HBF.out 2
              simp at x0 x1 x2
              have HTXT := Lib.hid (rtext36_any (.agg #[.int .i64 (b : Int), .int .i64 (hs : Int), .slice cg cn cc]) (tryF text m) wk ⟨_, by rw [HFT.out], by rw [HFT.out]; exact HO.out.ws⟩ (tryF_W64 text m))
              go_wp2_with fail
              refine HTXT.out.mono ?_
              rintro e w11 ⟨rfl, hb11⟩
              obtain ⟨r, hr⟩ : ∃ r, r = textF (tryF text m) := ⟨_, rfl⟩
              rw [← hr]
              have g11 : Fr [] wk w11 := Fr.ofBelow hb11
              have hb12 := g11.at HBF.out (by simp)
              have hrr := g11.at (HFK.out.at hp1 (by simp)) (by simp)
              have hw11 := h1.trans (HFK.out.trans g11 (by simp)) (by simp)
              have HO11 := Lib.hid (HO.out.fr g11 (by simp))
              have HF11 := Lib.hid (hfr.trans (HFK.out.trans g11 (by simp)) (by simp))
              clear hb11 x0 x1 x2 HTXT
              by_cases hrt : r = text
              case neg =>
                have u1 : (r == text) = false := by rw [beq_eq_false_iff_ne]; exact hrt
                have u2 : (r != text) = true := by rw [bne_iff_ne]; exact hrt
                have HN := Lib.hid (noneT_step HNO.out (fun h => hrt (hr.trans h.2)))
                clear hrt hr hb12 hrr hw11
                go_wp2_with fail
                go_roundg (7 - (m + 1))
                case measure => have := HG.out; omega
                case rel => exact ⟨m + 1, by omega, by omega, rfl, by go_num, HN.out, HF11.out⟩
              have u1 : (r == text) = true := by rw [beq_iff_eq]; exact hrt
              have HPA := Lib.hid (parsed_try HOK.out (hr.symm.trans hrt))
              clear hr
              have x0 := row_cell hb12 0
              have x1 := row_cell hb12 1
              have x2 := row_cell hb12 2
              simp at x0 x1 x2
              have z0 := row_cell hrr 0
              have z1 := row_cell hrr 1
              have z2 := row_cell hrr 2
              simp at z0 z1 z2
              have y0 := row_free hrr 0
              have y1 := row_free hrr 1
              have y2 := row_free hrr 2
              have HX := Lib.hid (((hw11.setCell ⟨p, 0, none⟩ (.int .i64 (b : Int)) (by right; have := EP.out; simp; omega)).setCell ⟨p, 1, none⟩ (.int .i64 (hs : Int)) (by right; have := EP.out; simp; omega)).setCell ⟨p, 2, none⟩ (.slice cg cn cc) (by right; have := EP.out; simp; omega))
              have HRX := Lib.hid (row_set (row_set (row_set hrr 0 (.int .i64 (b : Int))) 1 (.int .i64 (hs : Int))) 2 (.slice cg cn cc))
              have HOX := Lib.hid (HO11.out.fr ((((Fr.refl [p] w11).setCell ⟨p, 0, none⟩ (.int .i64 (b : Int)) (by simp)).setCell ⟨p, 1, none⟩ (.int .i64 (hs : Int)) (by simp)).setCell ⟨p, 2, none⟩ (.slice cg cn cc) (by simp)) (fun x hx hm => by
                rw [List.mem_singleton.1 hm] at hx
                have h2 := (ownBlock_cells HO11.out p hx).1
                have h3 := lt_of_block hp1
                omega))
              clear hrt hb12 hrr hw11
              go_wp2_with fail
              have m0 := row_cell HRX.out 0
              have m1 := row_cell HRX.out 1
              have m2 := row_cell HRX.out 2
              simp at m0 m1 m2
              refine bodyPost_ret (v := .tuple #[.agg #[.int .i64 (b : Int), .int .i64 (hs : Int), .slice cg cn cc], .int .i64 0]) ?_ rfl ⟨some (tryF text m), HPA.out, ⟨.slice cg cn cc, by rw [HFT.out], ?_⟩, HX.out.toBelow (by simp)⟩
              · rw [results_cell_tmp rfl]
                go_simp
              · rw [HFT.out]
                obtain ⟨h1, h2⟩ := HOX.out
                refine ⟨h1, ?_⟩
                rcases h2 with h2 | ⟨g, cap, cur, hv, h3, h4⟩
                · exact Or.inl h2
                · exact Or.inr ⟨g, cap, cur, hv, Nat.le_trans (h0.trans hfr (by simp)).size h3, h4⟩
end Go.Proofs.YtffldampcbfgjaaGreatDoor
