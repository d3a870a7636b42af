/-
  foyerlaw03: SignVerifies.
-/
import Derived.Test.YthcgcocmgjamnaaDoorLawA
namespace Go.Proofs.YthcgcocmgjamnaaDoor
open Go.RowKit
theorem shortB_two {s m : List UInt8} (h : shortB [s, m] = true) : s.length ≤ 300 ∧ m.length ≤ 300 := by
  simpa [shortB] using h
theorem Strs.cellN {w : World} {b off cap n : Nat} {l : List (List UInt8)} (h : Strs w (.slice (some ⟨b, off, none⟩) n cap) l) (hn : l.length = n) (k : Nat) (hk : k < n) : w.cell? ⟨b, off + k, none⟩ = some (.string ⟨(l.getD k []).toArray⟩) := by
  subst hn
  exact h.cell k hk
set_option maxRecDepth 100000 in
set_option maxHeartbeats 2000000 in
theorem signVerifies_any (s m : List UInt8) (w : World) (hT : Tabs w) :
    Calls Tryd.prog 4 #[.string ⟨s.toArray⟩, .string ⟨m.toArray⟩] w fun e w' => e = .returned (.bool true) ∧ Below w.heap.size w w' := by
  have hmx : Tryd.prog.follows .mixedOrders = true := by kernel_rfl
  have HT := Lib.hid hT
  clear hT
  go_enter Tryd.func4, Tryd.ntmps4
  go_wp2_with fail
  refine (head_any w HT.out).mono ?_
  rintro e w1 ⟨rfl, hb1⟩
  have hf1 : Fr [] w w1 := (Fr.refl [] w).below hb1 (Nat.le_refl _)
  go_wp2_with fail
  refine (short_any _ [s, m] _ (strs_two (heap_new rfl))).mono ?_
  rintro e w2 ⟨rfl, hb2⟩
  have hf2 : Fr [] w w2 := (hf1.alloc _).below hb2 (hf1.alloc _).size
  clear hb1 hb2
  cases hsh : shortB [s, m] with
  | false => go_wp2_with fail; go_ret; exact ⟨rfl, hf2.toBelow (by simp)⟩
  | true => ?_
  have hs' : s.length ≤ 300 := (shortB_two hsh).1
  have hm' : m.length ≤ 300 := (shortB_two hsh).2
  clear hsh
  go_wp2_with fail
  refine (public_any s w2 (by omega) (HT.out.fr hf2)).mono ?_
  rintro e w3 ⟨rfl, hb3⟩
  have hf3 : Fr [] w w3 := hf2.below hb3 hf2.size
  go_wp2_with fail
  refine (sign_any s m w3 (by omega) (by omega) (HT.out.fr hf3)).mono ?_
  rintro e w4 ⟨sv, rfl, ho, hb4⟩
  have hf4 : Fr [] w w4 := hf3.below hb4 hf3.size
  have hstr := ho.strs
  have hsl := sigS_length s m
  have HSH := Lib.hid (sigS_short s m)
  have HVS := Lib.hid (verify_sig s m)
  have HID := Lib.hid (sigS_isD s m)
  have HPL := Lib.hid (publicS_length s)
  have HPI := Lib.hid (publicS_isD s)
  obtain ⟨a, cap, rfl, _, ha⟩ := hstr.form
  rw [hsl] at hstr ha ⊢
  clear ho hb3 hb4 hf2 hf3 hf1
  have HSL := Lib.hid hsl
  have HSTR := Lib.hid hstr
  clear hsl hstr
  obtain ⟨b, off, rfl⟩ := ha 0 (by decide)
  clear ha
  generalize hP : publicS s = P at HVS HPL HPI ⊢
  generalize hS : sigS s m = S at HVS HSH HID HSL HSTR
  go_wp2_with fail
  go_loopg [8] 18 (fun g i wr => ∃ k : Nat, k ≤ 18 ∧ g = 18 - k ∧ i = .int .i64 (k : Int) ∧ Fr [] w4 wr)
  case atStart => exact ⟨0, by omega, by omega, rfl, Fr.refl _ _⟩
  case round =>
    obtain ⟨k, hk, hg, rfl, hfr⟩ := hrel
    have HG := Lib.hid hg
    clear hg
    by_cases hlt : k < 18
    · have hc := (HSTR.out.fr0 hfr).cellN HSL.out k hlt
      have hisd := List.all_eq_true.1 HID.out _ (getD_mem S k [] (by rw [HSL.out]; exact hlt))
      have hlen := HSH.out _ (getD_mem S k [] (by rw [HSL.out]; exact hlt))
      have HIS := Lib.hid hisd
      clear hisd
      have t1 : decide ((k : Int) < 18) = true := by simp; omega
      generalize S.getD k [] = x at hc HIS hlen
      go_wp2_with fail
      refine (is_any x wr (by omega)).mono ?_
      rintro e w5 ⟨rfl, hb5⟩
      rw [HIS.out]
      have hf5 : Fr [] w4 w5 := hfr.below hb5 hfr.size
      go_wp2_with fail
      go_roundg (18 - (k + 1))
      case measure => have := HG.out; omega
      case rel => exact ⟨k + 1, by omega, rfl, by go_num, hf5⟩
    · obtain rfl : k = 18 := by omega
      go_wp2_with fail
      refine (is_any P wr (by rw [HPL.out]; decide)).mono ?_
      rintro e w5 ⟨rfl, hb5⟩
      rw [HPI.out]
      have hf5 : Fr [] w4 w5 := hfr.below hb5 hfr.size
      go_wp2_with fail
      refine (sign_any s m w5 (by omega) (by omega) (HT.out.fr (hf4.trans hf5 (by simp)))).mono ?_
      rintro e w6 ⟨v6, rfl, ho6, hb6⟩
      have hf6 : Fr [] w4 w6 := hf5.below hb6 hf5.size
      have HO6 := Lib.hid ho6.strs
      rw [hS] at HO6
      clear ho6
      go_wp2_with fail
      refine (rsame_any _ v6 S S w6 (HSTR.out.fr0 hf6) HO6.out).mono ?_
      rintro e w7 ⟨rfl, hb7⟩
      rw [show decide (S = S) = true by simp]
      have hf7 : Fr [] w4 w7 := hf6.below hb7 hf6.size
      go_wp2_with fail
      refine (verify_any P m _ S w7 (by rw [HPL.out]; decide) (by omega) HSH.out (HSTR.out.fr0 hf7) (HT.out.fr (hf4.trans hf7 (by simp)))).mono ?_
      rintro e w8 ⟨rfl, hb8⟩
      rw [HVS.out]
      have hf8 : Fr [] w4 w8 := hf7.below hb8 hf7.size
      go_wp2_with fail
      go_ret
      exact ⟨rfl, (hf4.trans hf8 (by simp)).toBelow (by simp)⟩
end Go.Proofs.YthcgcocmgjamnaaDoor
