/-
  The reference of layer 2: Joined, List.
-/
import Derived.Test.YtmhejcndkplepaaDoorRefB
namespace Go.Proofs.YtmhejcndkplepaaDoor
open Go.RowKit

/-- Room for the joined text. -/
def capN (l : List (List UInt8)) : Nat := (l.map fun s => s.length + 21).foldl (· + ·) 0
theorem capN_snoc (l : List (List UInt8)) (k : Nat) (hk : k < l.length) : capN (l.take (k + 1)) = capN (l.take k) + ((l.getD k []).length + 21) := by
  unfold capN
  rw [take_snoc' l k [] hk, List.map_append, List.foldl_append]; rfl
theorem foldl_add_le (f : List (List UInt8)) : ∀ a b : Nat, a ≤ b → (f.map fun s => s.length + 21).foldl (· + ·) a ≤ (f.map fun s => s.length + 21).foldl (· + ·) b := by
  induction f with
  | nil => intro a b h; exact h
  | cons s f ih => intro a b h; exact ih _ _ (Nat.add_le_add_right h _)
theorem foldl_add_ge (f : List (List UInt8)) (a : Nat) : a ≤ (f.map fun s => s.length + 21).foldl (· + ·) a := by
  induction f generalizing a with
  | nil => exact Nat.le_refl _
  | cons s f ih => exact Nat.le_trans (Nat.le_add_right _ _) (ih (a + (s.length + 21)))
theorem capN_take (l : List (List UInt8)) (k : Nat) : capN (l.take k) ≤ capN l := by
  unfold capN
  conv => rhs; rw [← List.take_append_drop k l]
  rw [List.map_append, List.foldl_append]
  exact foldl_add_ge _ _
theorem joinL_capN (l : List (List UInt8)) (h : ∀ s ∈ l, s.length < 18446744073709551616) : (joinL l).length ≤ capN l := by
  have key : ∀ k, k ≤ l.length → (joinL (l.take k)).length ≤ capN (l.take k) := by
    intro k
    induction k with
    | zero => intro _; simp [joinL]
    | succ k ih =>
      intro hk
      have h1 := ih (by omega)
      have h2 := dec_len (l.getD k []).length (h _ (getD_mem l k [] (by omega)))
      rw [joinL_snoc l k (by omega), capN_snoc l k (by omega), List.length_append]
      simp only [joinE, List.length_append, List.length_cons]
      omega
  have := key l.length (Nat.le_refl _)
  rwa [List.take_length] at this

theorem strCells_to (l : List UInt8) : Lib.strCells ⟨l.toArray⟩ = Lib.byteCells l := rfl
theorem ownBlock_ge {base : Nat} {w : World} {e : TypeId} {size n : Nat} {v : Value} {xs : List Value} (h : w.ownsRow base e size v n xs) : ∀ x, v.ownBlock = some x → base ≤ x := by
  intro x hx
  rcases h.2 with ⟨rfl, _⟩ | ⟨g, cap, cur, rfl, hb, hg, _⟩
  · simp [Value.ownBlock] at hx
  · obtain rfl : g = x := by simpa [Value.ownBlock] using hx
    exact hb
theorem Strs.lt {w : World} {b off cap : Nat} {l : List (List UInt8)} {n : Nat} (h : Strs w (.slice (some ⟨b, off, none⟩) n cap) l) (k : Nat) (_ : k < l.length) : b < w.heap.size := by
  rcases h with ⟨h, _⟩ | ⟨b', off', cap', hv, _, _, h3, _⟩
  · cases h
  · cases hv; exact h3
/-- 'string(b)' of bytes that the call has made. -/
theorem own_string {w : World} {base : Nat} {v : Value} {l : List UInt8} (h : w.ownsRow base 5 1 v l.length (Lib.byteCells l)) :
    ∃ ao cap, v = .slice ao l.length cap ∧ (convert 91 9 (.slice ao l.length cap)).run Tryd.prog w = .ok (.string ⟨l.toArray⟩) w := by
  rcases h.2 with ⟨rfl, h0⟩ | ⟨g, cap, cur, rfl, hb, hg, h3, h4, h5, h6⟩
  · refine ⟨none, 0, by rw [h0], ?_⟩
    have := List.length_eq_zero_iff.1 h0
    subst this
    simp only [List.length_nil]
    rw [run_convert_bytes_string w _ _ 5 none 0 0 Tryd.underlying91 Tryd.underlying5 Tryd.underlying9]
    rfl
  · refine ⟨_, cap, rfl, run_convert_bytes_back (P := Tryd.prog) w 91 9 5 ⟨g, 0, none⟩ cap l Tryd.underlying91 Tryd.underlying5 Tryd.underlying9 (fun j hj => ?_)⟩
    rw [show (⟨g, 0, none⟩ : Addr).add j = ⟨g, j, none⟩ by simp [Addr.add]; omega, row_cell hg j]
    have h7 : (cur.toList.take (l.length * 1))[j]? = cur[j]? := by rw [List.getElem?_take, if_pos (by omega), Array.getElem?_toList]
    rw [← h7, h6]
    simp [Lib.byteCells, hj]
theorem bInfo : (Tryd.prog.info? 5).map (fun i => (i.zero, i.size, i.bytes)) = some (some (.int .u8 0), 1, 1) := by kernel_rfl

set_option maxRecDepth 100000 in
set_option maxHeartbeats 2000000 in
theorem rjoined_any (v : Value) (l : List (List UInt8)) (w : World) (hv : Strs w v l) (hl : capN l ≤ 140737488355328) :
    Calls Tryd.prog 47 #[v] w fun e w' => e = .returned (.string ⟨(joinL l).toArray⟩) ∧ Below w.heap.size w w' := by
  have hv0 := hv
  obtain ⟨a, cap, rfl, hlen, ha⟩ := hv.form
  have HV := Lib.hid hv0
  clear hv hv0
  go_enter Tryd.func47, Tryd.ntmps47
  go_wp2_with fail
  go_loopg [3, 4] l.length (fun g n i wr => ∃ k : Nat, k ≤ l.length ∧ g = l.length - k ∧ i = .int .i64 (k : Int) ∧ n = .int .i64 (capN (l.take k) : Nat) ∧ wr = w)
  case atStart => exact ⟨0, Nat.zero_le _, by omega, rfl, rfl, rfl⟩
  case round =>
    obtain ⟨k, hk, hg, rfl, rfl, rfl⟩ := hrel
    have HG := Lib.hid hg
    clear hg
    by_cases hlt : k < l.length
    · obtain ⟨b, off, rfl⟩ := ha k hlt
      have hcell := HV.out.cell k hlt
      have HS := Lib.hid (capN_snoc l k hlt)
      have hc1 := capN_take l (k + 1)
      have hc2 := capN_take l k
      rw [HS.out] at hc1
      have t1 : decide ((k : Int) < (l.length : Int)) = true := by simp; omega
      generalize l.getD k [] = s at hcell HS hc1
      generalize capN (l.take k) = C at hc1 hc2 HS
      go_wp2_with fail
      go_roundg (l.length - (k + 1))
      case measure => have := HG.out; omega
      case rel => exact ⟨k + 1, by omega, rfl, by go_num, by rw [HS.out]; go_num, rfl⟩
    · obtain rfl : k = l.length := by omega
      obtain ⟨wo, rfl⟩ : ∃ wo : World, wo = wr := ⟨_, rfl⟩
      have HC := Lib.hid (show capN (l.take l.length) = capN l by rw [List.take_length])
      rw [HC.out]
      have t1 : decide ((l.length : Int) < (l.length : Int)) = false := by simp
      obtain ⟨i0, hi, hz0, hz1, hz2⟩ := info_parts bInfo
      generalize hCC : capN l = C at hl ⊢
      have HCC := Lib.hid hCC
      clear hCC
      go_wp2_with (refine wpList_make_own _ rfl _ _ 91 rfl wo.heap.size 5 i0 (.int .u8 0) 1 Tryd.underlying91 hi hz0 hz1 .i64 .i64 C C rfl rfl rfl (by rw [hz2]; omega) (by unfold maxLen; omega) (Nat.le_refl _) ?_)
      intro w1 hown hgrow
      have hf1 : Fr [] wo w1 := (Fr.refl [] wo).grown hgrow (by simp)
      have HO := Lib.hid hown
      clear hown hgrow HC t1 hlt
      go_wp2_with fail
      go_loopg [5, 6] l.length (fun g v i wx => ∃ k : Nat, k ≤ l.length ∧ g = l.length - k ∧ i = .int .i64 (k : Int) ∧ wx.ownsRow wo.heap.size 5 1 v (joinL (l.take k)).length (Lib.byteCells (joinL (l.take k))) ∧ Fr [] wo wx)
      case atStart => exact ⟨0, Nat.zero_le _, by omega, rfl, HO.out, hf1⟩
      case round =>
        obtain ⟨k, hk, hg, rfl, ho, hfr⟩ := hrel
        have HG := Lib.hid hg
        have HO2 := Lib.hid ho
        clear hg ho HO
        by_cases hlt : k < l.length
        · obtain ⟨b, off, rfl⟩ := ha k hlt
          have t2 : decide ((k : Int) < (l.length : Int)) = true := by simp; omega
          have hcell := (HV.out.fr0 hfr).cell k hlt
          have HS := Lib.hid (joinL_snoc l k hlt)
          have hJ : (joinL (l.take k)).length + (joinE (l.getD k [])).length ≤ 140737488355328 := by
            have h1 := joinE_le l k hlt
            have h2 : (joinL l).length ≤ capN l := joinL_capN l (fun s hs => by
              obtain ⟨i, hi1, hi2⟩ := List.getElem_of_mem hs
              have h3 := capN_snoc l i hi1
              have h4 := capN_take l (i + 1)
              have h5 : l.getD i [] = s := by rw [List.getD_eq_getElem?_getD, List.getElem?_eq_getElem hi1]; exact hi2
              rw [h5] at h3
              have h6 := HCC.out
              omega)
            have h6 := HCC.out
            omega
          generalize l.getD k [] = s at hcell HS hJ
          have hd : (Lib.decDigits s.length).length + (s.length + 1) + (joinL (l.take k)).length ≤ 140737488355328 := by simp only [joinE, List.length_append, List.length_cons] at hJ; omega
          clear hJ
          generalize joinL (l.take k) = J at hd HS HO2
          go_wp2_with fail
          refine (rdecimal_any s.length _ (by omega)).mono ?_
          rintro e w2 ⟨rfl, rfl⟩
          go_wp2_with (at_builtin; refine Lib.wpList_append_own_string _ rfl _ _ 91 9 rfl wo.heap.size 5 i0 Tryd.underlying91 Tryd.underlying9 hi hz0 hz1 hz2 _ _ _ rfl HO2.out ⟨(Lib.decDigits s.length).toArray⟩ rfl ?c3 ?c4 ?c5 ?_)
          case c3 => rw [ba_size]; unfold maxLen; omega
          case c4 => rw [ba_size]; omega
          case c5 => exact hfr.size
          intro v1 w3 ho3 hgr3 _
          have hfr3 : Fr [] wo w3 := hfr.grown hgr3 (fun r e => Or.inr (ownBlock_ge HO2.out r e))
          have hb : b < wo.heap.size := HV.out.lt k hlt
          have hcell3 : w3.cell? ⟨b, off + k, none⟩ = some (.string ⟨s.toArray⟩) := hgr3.cell hcell (fun e => by have := ownBlock_ge HO2.out b e.symm; omega)
          have HO3 : Hid (w3.ownsRow wo.heap.size 5 1 v1 (J ++ Lib.decDigits s.length).length (Lib.byteCells (J ++ Lib.decDigits s.length))) := by
            show World.ownsRow _ _ _ _ _ _ _
            rw [List.length_append, Lib.byteCells_append]
            simpa [ba_size, strCells_to] using ho3
          clear ho3 hgr3 HO2 hfr hcell
          go_wp2_with (at_builtin; refine wpList_append_own _ rfl _ _ 91 rfl wo.heap.size 5 i0 (.int .u8 0) 1 1 Tryd.underlying91 hi hz0 hz1 hz2 rfl (by decide) _ _ _ rfl (ownsRow_fr HO3.out ((Fr.refl [] w3).alloc _) (by simp)) ⟨w3.heap.size, 0, none⟩ 1 1 [.int .u8 58] rfl rfl (cell_one_new _ _ _) (by simp [Value.oneCell']) ?d3 ?d4 ?d5 ?_)
          case d3 => rw [List.length_append]; unfold maxLen; omega
          case d4 => rw [List.length_append]; omega
          case d5 => have := hfr3.size; simp; omega
          intro v2 w4 ho4 hgr4 _
          have hfr4 : Fr [] wo w4 := (hfr3.alloc _).grown hgr4 (fun r e => Or.inr (ownBlock_ge HO3.out r e))
          have hcell4 : w4.cell? ⟨b, off + k, none⟩ = some (.string ⟨s.toArray⟩) := hgr4.cell (((Fr.refl [] w3).alloc _).cell hcell3 (by simp)) (fun e => by have := ownBlock_ge HO3.out b e.symm; omega)
          have HO4 : Hid (w4.ownsRow wo.heap.size 5 1 v2 (J ++ Lib.decDigits s.length ++ [58]).length (Lib.byteCells (J ++ Lib.decDigits s.length ++ [58]))) := by
            show World.ownsRow _ _ _ _ _ _ _
            rw [List.length_append, Lib.byteCells_append]
            simpa [Lib.byteCells] using ho4
          clear ho4 hgr4 HO3 hfr3 hcell3
          go_wp2_with (at_builtin; refine Lib.wpList_append_own_string _ rfl _ _ 91 9 rfl wo.heap.size 5 i0 Tryd.underlying91 Tryd.underlying9 hi hz0 hz1 hz2 _ _ _ rfl HO4.out ⟨s.toArray⟩ rfl ?e3 ?e4 ?e5 ?_)
          case e3 => rw [ba_size]; simp only [List.length_append, List.length_cons, List.length_nil]; unfold maxLen; omega
          case e4 => rw [ba_size]; simp only [List.length_append, List.length_cons, List.length_nil]; omega
          case e5 => exact hfr4.size
          intro v3 w5 ho5 hgr5 _
          have hfr5 : Fr [] wo w5 := hfr4.grown hgr5 (fun r e => Or.inr (ownBlock_ge HO4.out r e))
          have HO5 : Hid (w5.ownsRow wo.heap.size 5 1 v3 (J ++ joinE s).length (Lib.byteCells (J ++ joinE s))) := by
            show World.ownsRow _ _ _ _ _ _ _
            rw [show J ++ joinE s = (J ++ Lib.decDigits s.length ++ [58]) ++ s by simp [joinE], List.length_append, Lib.byteCells_append]
            simpa [ba_size, strCells_to] using ho5
          clear ho5 hgr5 HO4 hfr4 hcell4
          go_wp2_with fail
          go_roundg (l.length - (k + 1))
          case measure => have := HG.out; omega
          case rel => exact ⟨k + 1, by omega, rfl, by go_num, by rw [HS.out]; exact HO5.out, hfr5⟩
        · obtain rfl : k = l.length := by omega
          have t2 : decide ((l.length : Int) < (l.length : Int)) = false := by simp
          have HOJ : Hid (wr.ownsRow wo.heap.size 5 1 u5 (joinL l).length (Lib.byteCells (joinL l))) := by have := HO2.out; rw [List.take_length] at this; exact this
          clear HO2
          obtain ⟨kc, hkc⟩ : ∃ ao cap, u5 = .slice ao (joinL l).length cap ∧ (convert 91 9 (.slice ao (joinL l).length cap)).run Tryd.prog wr = .ok (.string ⟨(joinL l).toArray⟩) wr := own_string HOJ.out
          obtain ⟨cap2, rfl, hkc⟩ := hkc
          go_wp2_with fail
          go_ret
          exact ⟨rfl, hfr.toBelow (by simp)⟩
end Go.Proofs.YtmhejcndkplepaaDoor
