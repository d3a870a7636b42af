/-
  The references of layers 2 and 3: List, number, Start, Public.
-/
import Derived.Test.YthcgcocmgjamnaaDoorRefC
import Derived.Test.YthcgcocmgjamnaaDoorSgnD
namespace Go.Proofs.YthcgcocmgjamnaaDoor
open Go.RowKit

theorem rlist_any (v : Value) (l : List (List UInt8)) (w : World) (hv : Strs w v l) (hl : capN l ≤ 140737488355328) :
    Calls Tryd.prog 32 #[v] w fun e w' => e = .returned (.string ⟨(dlist l).toArray⟩) ∧ Below w.heap.size w w' := by
  have hb : (joinL l).length ≤ capN l := joinL_capN l (fun s hs => by
    obtain ⟨i, hi1, hi2⟩ := List.getElem_of_mem hs
    have h3 := capN_snoc l i hi1
    have h4 := capN_take l (i + 1)
    have h5 : l.getD i [] = s := by rw [List.getD_eq_getElem?_getD, List.getElem?_eq_getElem hi1]; exact hi2
    rw [h5] at h3
    omega)
  go_enter Tryd.func32, Tryd.ntmps32
  go_wp2_with fail
  refine (rjoined_any v l w hv hl).mono ?_
  rintro e w1 ⟨rfl, hb1⟩
  go_wp2_with fail
  refine (rsum_any (joinL l) w1 (by omega)).mono ?_
  rintro e w2 ⟨rfl, hb2⟩
  go_wp2_with fail
  go_ret
  exact ⟨rfl, hb1.trans (hb2.mono hb1.size)⟩
theorem capN_le (l : List (List UInt8)) (B : Nat) (h : ∀ s ∈ l, s.length ≤ B) : capN l ≤ l.length * (B + 21) := by
  have key : ∀ (f : List (List UInt8)) (a : Nat), (∀ s ∈ f, s.length ≤ B) → (f.map fun s => s.length + 21).foldl (· + ·) a ≤ a + f.length * (B + 21) := by
    intro f
    induction f with
    | nil => intro a _; simp
    | cons s f ih =>
      intro a hf
      have h1 := hf s (by simp)
      have h2 := ih (a + (s.length + 21)) (fun x hx => hf x (by simp [hx]))
      have h3 : (s :: f).length = f.length + 1 := rfl
      simp only [List.map_cons, List.foldl_cons]
      rw [h3, Nat.add_mul]
      omega
  have := key l 0 h
  unfold capN; omega

set_option maxRecDepth 100000 in
set_option maxHeartbeats 1000000 in
theorem rnumber_any (i : Nat) (w : World) (hi : i < 100) :
    Calls Tryd.prog 47 #[.int .i64 (i : Int)] w fun e w' => e = .returned (.string ⟨(Lib.decDigits i).toArray⟩) ∧ Below w.heap.size w w' := by
  by_cases h10 : i < 10
  · have hcut := dec_cut i h10
    have HD := Lib.hid (dec_small i h10)
    rw [Nat.mod_eq_of_lt h10] at HD
    go_enter Tryd.func47, Tryd.ntmps47
    go_wp2_with fail
    go_ret
    exact ⟨by rw [HD.out]; rfl, Below.refl _ _⟩
  · obtain ⟨q, r, hq, hr, eq, er⟩ : ∃ q r : Nat, q < 10 ∧ r < 10 ∧ (i : Int) / 10 = (q : Int) ∧ (i : Int) % 10 = (r : Int) := ⟨i / 10, i % 10, by omega, by omega, by omega, by omega⟩
    have HD : Hid (Lib.decDigits i = [decC q, decC r]) := by
      show _ = _
      have h1 : i / 10 = q := by omega
      have h2 : i % 10 = r := by omega
      rw [dec_step i (by omega), h1, h2, dec_small q hq, Nat.mod_eq_of_lt hq]; rfl
    have hcq := dec_cut q hq
    have hcr := dec_cut r hr
    have hnot : ¬ ((i : Int) < 10) := by omega
    go_enter Tryd.func47, Tryd.ntmps47
    go_wp2_with fail
    go_quiet (fail)
    go_wp2_with fail
    go_ret
    refine ⟨?_, ((Fr.refl [] w).drewN _).toBelow (by simp)⟩
    rw [HD.out, show ([decC q, decC r] : List UInt8) = [decC q] ++ [decC r] from rfl, ← ba_append]; rfl

theorem rstart_any (secret : List UInt8) (i : Nat) (w : World) (hs : secret.length ≤ 1000000) (hi : i < 100) :
    Calls Tryd.prog 31 #[.string ⟨secret.toArray⟩, .int .i64 (i : Int)] w fun e w' => e = .returned (.string ⟨(startS secret i).toArray⟩) ∧ Below w.heap.size w w' := by
  go_enter Tryd.func31, Tryd.ntmps31
  go_wp2_with fail
  refine (rnumber_any i w hi).mono ?_
  rintro e w1 ⟨rfl, hb1⟩
  go_wp2_with fail
  refine (rlist_any _ [secret, Lib.decDigits i] _ (strs_two (heap_new rfl)) ?_).mono ?_
  · have h1 := decDigits_two i hi
    simp only [capN, List.map_cons, List.map_nil, List.foldl_cons, List.foldl_nil]; omega
  rintro e w2 ⟨rfl, hb2⟩
  go_wp2_with fail
  go_ret
  exact ⟨rfl, ((((Fr.refl [] w).below hb1 (Nat.le_refl _)).alloc _).below hb2 (by have := hb1.size; simp; omega)).toBelow (by simp)⟩

theorem endsS_snoc (secret : List UInt8) (k : Nat) (hk : k < 18) : (endsS secret).take (k + 1) = (endsS secret).take k ++ [dchain (startS secret k) 15] := by
  have h : (endsS secret).length = 18 := by simp [endsS]
  rw [take_snoc' _ k [] (by omega)]
  simp [endsS, List.getD_eq_getElem?_getD, hk]

set_option maxRecDepth 100000 in
set_option maxHeartbeats 1000000 in
theorem rpublic_any (secret : List UInt8) (w : World) (hs : secret.length ≤ 1000000) :
    Calls Tryd.prog 12 #[.string ⟨secret.toArray⟩] w fun e w' => e = .returned (.string ⟨(publicS secret).toArray⟩) ∧ Below w.heap.size w w' := by
  have H18 := Lib.hid (show (endsS secret).length = 18 by simp [endsS])
  go_enter Tryd.func12, Tryd.ntmps12
  go_wp2_with fail
  go_loopg [3, 4] 18 (fun g ev i wr => ∃ k : Nat, k ≤ 18 ∧ g = 18 - k ∧ i = .int .i64 (k : Int) ∧ OwnS w.heap.size wr ev ((endsS secret).take k) ∧ Fr [] w wr)
  case atStart => exact ⟨0, by omega, by omega, rfl, ⟨by simp, Or.inl ⟨rfl, by simp⟩⟩, Fr.refl _ _⟩
  case round =>
    obtain ⟨k, hk, hg, rfl, ho, hfr⟩ := hrel
    have HG := Lib.hid hg
    have HO := Lib.hid ho
    clear hg ho
    by_cases hlt : k < 18
    · have HS := Lib.hid (endsS_snoc secret k hlt)
      have hlen : ((endsS secret).take k).length ≤ 18 := by rw [List.length_take]; omega
      generalize (endsS secret).take k = L at HO HS hlen
      go_wp2_with fail
      refine (rstart_any secret k _ hs (by omega)).mono ?_
      rintro e w1 ⟨rfl, hb1⟩
      have HL := Lib.hid (startS_length secret k)
      go_wp2_with fail
      refine (rchain_any (startS secret k) 15 _ (by rw [HL.out]; decide)).mono ?_
      rintro e w2 ⟨rfl, hb2⟩
      have hw2 : Fr [] wr w2 := ((Fr.refl [] wr).below hb1 (Nat.le_refl _)).below hb2 hb1.size
      have hfr2 : Fr [] w w2 := hfr.trans hw2 (by simp)
      have HO2 := Lib.hid (HO.out.fr hw2 (by simp))
      clear hb1 hb2 hw2 hfr HO
      go_wp2_with (at_builtin; refine wpList_appS rfl (.tmp 9) (.tmp 14) rfl w.heap.size _ L (dchain (startS secret k) 15) w rfl rfl HO2.out hfr2 (Nat.le_refl _) hfr2.size (by omega) ?_)
      rintro v' w3 g' cap' rfl ho3 hfr3 _
      have HO3 := Lib.hid ho3
      clear ho3 hfr2 HO2
      go_wp2_with fail
      go_roundg (18 - (k + 1))
      case measure => have := HG.out; omega
      case rel => exact ⟨k + 1, by omega, rfl, by go_num, by rw [HS.out]; exact HO3.out, hfr3⟩
    · obtain rfl : k = 18 := by omega
      have HO2 : Hid (OwnS w.heap.size wr u3 (endsS secret)) := by have := HO.out; rw [List.take_of_length_le (by rw [H18.out]; decide)] at this; exact this
      clear HO
      go_wp2_with fail
      refine (rlist_any _ (endsS secret) _ HO2.out.strs ?_).mono ?_
      · have := capN_le (endsS secret) 16 (fun s hs => by
          obtain ⟨i, _, rfl⟩ := List.mem_map.1 hs
          rw [dchain_length _ _ (by decide)]; decide)
        rw [H18.out] at this; omega
      rintro e w2 ⟨rfl, hb2⟩
      go_wp2_with fail
      go_ret
      exact ⟨rfl, (hfr.below hb2 hfr.size).toBelow (by simp)⟩
end Go.Proofs.YthcgcocmgjamnaaDoor
