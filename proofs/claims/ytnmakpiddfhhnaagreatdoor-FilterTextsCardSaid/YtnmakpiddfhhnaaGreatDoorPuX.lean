/-
  strconv.ParseUint (base 16) and strconv.Atoi of any string: some number, some error.
-/
import Derived.Test.YtnmakpiddfhhnaaGreatDoorPuD
namespace Go.Proofs.YtnmakpiddfhhnaaGreatDoor
open Go.RowKit

theorem PuEnd_err {n : Nat} {k : Int} (h : n < 18446744073709551616) (hk : k = 1 ∨ k = 2) {w w' : World} (hb : Below w.heap.size w w') :
    ∃ (m : Nat) (ev : Value), m < 18446744073709551616 ∧ Ending.returned (.tuple #[.int .u64 (n : Int), .iface 96 (.int .i64 k)]) = .returned (.tuple #[.int .u64 (m : Int), ev]) ∧ (ev = .nilIface ∨ ∃ k : Int, (k = 1 ∨ k = 2) ∧ ev = .iface 96 (.int .i64 k)) ∧ Below w.heap.size w w' :=
  ⟨n, _, h, rfl, Or.inr ⟨k, hk, rfl⟩, hb⟩
set_option maxRecDepth 100000 in
set_option maxHeartbeats 4000000 in
theorem puX_any (h : List UInt8) (w : World) (hl : h.length ≤ 1000000) :
    Calls Tryz.prog 52 #[.string ⟨h.toArray⟩, .int .i64 16, .int .i64 64] w fun e w' =>
      ∃ (m : Nat) (ev : Value), m < 18446744073709551616 ∧ e = .returned (.tuple #[.int .u64 (m : Int), ev]) ∧ (ev = .nilIface ∨ ∃ k : Int, (k = 1 ∨ k = 2) ∧ ev = .iface 96 (.int .i64 k)) ∧ Below w.heap.size w w' := by
  have wm : IntKind.u64.wrap (IntKind.u64.wrap 18446744073709551616 - 1) = 18446744073709551615 := by decide
  obtain ⟨L, hL⟩ : ∃ L, h.length = L := ⟨_, rfl⟩
  rw [hL] at hl
  cases hne : (h == []) with
  | true =>
    go_enter Tryz.func52, Tryz.ntmps52
    go_wp2_with fail
    go_ret2
    exact PuEnd_err (n := 0) (by decide) (Or.inr rfl) (Below.refl _ _)
  | false =>
    obtain ⟨c, w2, hrun, hf2, hlt2, hcells⟩ := conv_bytes w h
    rw [hL] at hrun hcells
    clear hL
    go_enter Tryz.func52, Tryz.ntmps52
    go_wp2_with fail
    go_loopg [12, 13, 101] (L + 1) (fun g us n i wr => ∃ k m : Nat, k ≤ L ∧ g = L + 1 - k ∧ i = .int .i64 (k : Int) ∧ us = .bool false ∧ m < 18446744073709551616 ∧ n = .int .u64 (m : Int) ∧ Fr [] w2 wr)
    case atStart => exact ⟨0, 0, by omega, by omega, rfl, rfl, by decide, rfl, Fr.refl _ _⟩
    case round =>
      obtain ⟨k, V, hk, hg, rfl, rfl, hV, rfl, hfr⟩ := hrel
      have HG := Lib.hid hg
      have HB := Lib.hid ((hf2.trans hfr (by simp)).toBelow (by simp))
      clear hg
      by_cases hlt : k < L
      · have hc := hfr.cell (hcells k hlt) (by simp)
        have hb256 := (h.getD k 0).toNat_lt
        generalize (h.getD k 0).toNat = c at hc hb256
        have t1 : decide ((k : Int) < (L : Int)) = true := by simp; omega
        have g0 : (0 : Int) ≤ (k : Int) := by omega
        have g1 : (k : Int) < (L : Int) := by omega
        by_cases h95 : c = 95
        · subst h95
          have HLW : Hid (∀ W, Calls Tryz.prog 76 #[.int .u8 95] W fun e w' => e = .returned (.int .u8 127) ∧ W = w') := Lib.hid (fun W => lowerA_any 95 W (by decide))
          go_wp2_with fail
          refine (HLW.out wr).mono ?_
          rintro e w3 ⟨rfl, rfl⟩
          go_wp2_with fail
          refine (HLW.out wr).mono ?_
          rintro e w3 ⟨rfl, rfl⟩
          go_wp2_with fail
          go_ret2
          exact PuEnd_err (n := 0) (by decide) (Or.inr rfl) HB.out
        have t2 : ((c : Int) == 95) = false := by rw [beq_eq_false_iff_ne]; omega
        by_cases hdig : 48 ≤ c ∧ c ≤ 57
        · obtain ⟨h48, h57⟩ := hdig
          obtain ⟨d, hd⟩ : ∃ d, c = d + 48 := ⟨c - 48, by omega⟩
          have hd16 : d < 16 := by omega
          have t3 : decide ((48 : Int) ≤ (c : Int)) = true := by simp; omega
          have t4 : decide ((c : Int) ≤ 57) = true := by simp; omega
          have wd : IntKind.u8.wrap ((c : Int) - 48) = (d : Int) := by rw [IntKind.wrap_u8']; omega
          clear hd
          have t9 : decide ((16 : Int) ≤ (d : Int)) = false := by simp; omega
          rcases Nat.lt_or_ge V 1152921504606846976 with h8 | h8
          · have t8 : decide ((1152921504606846976 : Int) ≤ (V : Int)) = false := by simp; omega
            have u1 : IntKind.u64.wrap ((V : Int) * 16) = (V : Int) * 16 := by rw [IntKind.wrap_u64]; omega
            have u2 : IntKind.u64.wrap ((V : Int) * 16 + (d : Int)) = (V : Int) * 16 + (d : Int) := by rw [IntKind.wrap_u64]; omega
            go_wp2_with fail
            go_roundg (L + 1 - (k + 1))
            case measure => have := HG.out; omega
            case rel => exact ⟨k + 1, V * 16 + d, by omega, rfl, by go_num, rfl, by omega, by go_num, hfr⟩
          · have t8 : decide ((1152921504606846976 : Int) ≤ (V : Int)) = true := by simp; omega
            go_wp2_with fail
            go_ret2
            exact PuEnd_err (n := 18446744073709551615) (by decide) (Or.inl rfl) HB.out
        have HLOW := fun W => lowerA_any c W hb256
        have hl256 : c ||| 32 < 256 := Nat.or_lt_two_pow (n := 8) hb256 (by decide)
        generalize c ||| 32 = l at HLOW hl256
        have HLW := Lib.hid HLOW
        clear HLOW
        have t34 : decide ((48 : Int) ≤ (c : Int)) = false ∨ (decide ((48 : Int) ≤ (c : Int)) = true ∧ decide ((c : Int) ≤ 57) = false) := by
          by_cases h48 : 48 ≤ c
          · exact Or.inr ⟨by simp; omega, by simp; omega⟩
          · exact Or.inl (by simp; omega)
        clear hdig
        rcases Nat.lt_or_ge l 97 with h97 | h97
        · have t5 : decide ((97 : Int) ≤ (l : Int)) = false := by simp; omega
          rcases t34 with t3 | ⟨t3, t4⟩ <;>
            (go_wp2_with fail
             refine (HLW.out wr).mono ?_
             rintro e w3 ⟨rfl, rfl⟩
             go_wp2_with fail
             go_ret2
             exact PuEnd_err (n := 0) (by decide) (Or.inr rfl) HB.out)
        have t5 : decide ((97 : Int) ≤ (l : Int)) = true := by simp; omega
        rcases Nat.lt_or_ge 122 l with h122 | h122
        · have t6 : decide ((l : Int) ≤ 122) = false := by simp; omega
          rcases t34 with t3 | ⟨t3, t4⟩ <;>
            (go_wp2_with fail
             refine (HLW.out wr).mono ?_
             rintro e w3 ⟨rfl, rfl⟩
             go_wp2_with fail
             refine (HLW.out wr).mono ?_
             rintro e w3 ⟨rfl, rfl⟩
             go_wp2_with fail
             go_ret2
             exact PuEnd_err (n := 0) (by decide) (Or.inr rfl) HB.out)
        have t6 : decide ((l : Int) ≤ 122) = true := by simp; omega
        obtain ⟨d, hd⟩ : ∃ d, l + 10 = d + 97 := ⟨l + 10 - 97, by omega⟩
        have wd : IntKind.u8.wrap ((l : Int) - 97) = (l : Int) - 97 := by rw [IntKind.wrap_u8']; omega
        have wd2 : IntKind.u8.wrap ((l : Int) - 97 + 10) = (d : Int) := by rw [IntKind.wrap_u8']; omega
        clear hd
        rcases Nat.lt_or_ge d 16 with hd16 | hd16
        · rcases t34 with t3 | ⟨t3, t4⟩
          · have t9 : decide ((16 : Int) ≤ (d : Int)) = false := by simp; omega
            rcases Nat.lt_or_ge V 1152921504606846976 with h8 | h8
            · have t8 : decide ((1152921504606846976 : Int) ≤ (V : Int)) = false := by simp; omega
              have u1 : IntKind.u64.wrap ((V : Int) * 16) = (V : Int) * 16 := by rw [IntKind.wrap_u64]; omega
              have u2 : IntKind.u64.wrap ((V : Int) * 16 + (d : Int)) = (V : Int) * 16 + (d : Int) := by rw [IntKind.wrap_u64]; omega
              go_wp2_with fail
              refine (HLW.out wr).mono ?_
              rintro e w3 ⟨rfl, rfl⟩
              go_wp2_with fail
              refine (HLW.out wr).mono ?_
              rintro e w3 ⟨rfl, rfl⟩
              go_wp2_with fail
              refine (HLW.out wr).mono ?_
              rintro e w3 ⟨rfl, rfl⟩
              go_wp2_with fail
              go_roundg (L + 1 - (k + 1))
              case measure => have := HG.out; omega
              case rel => exact ⟨k + 1, V * 16 + d, by omega, rfl, by go_num, rfl, by omega, by go_num, hfr⟩
            · have t8 : decide ((1152921504606846976 : Int) ≤ (V : Int)) = true := by simp; omega
              go_wp2_with fail
              refine (HLW.out wr).mono ?_
              rintro e w3 ⟨rfl, rfl⟩
              go_wp2_with fail
              refine (HLW.out wr).mono ?_
              rintro e w3 ⟨rfl, rfl⟩
              go_wp2_with fail
              refine (HLW.out wr).mono ?_
              rintro e w3 ⟨rfl, rfl⟩
              go_wp2_with fail
              go_ret2
              exact PuEnd_err (n := 18446744073709551615) (by decide) (Or.inl rfl) HB.out
          · have t9 : decide ((16 : Int) ≤ (d : Int)) = false := by simp; omega
            rcases Nat.lt_or_ge V 1152921504606846976 with h8 | h8
            · have t8 : decide ((1152921504606846976 : Int) ≤ (V : Int)) = false := by simp; omega
              have u1 : IntKind.u64.wrap ((V : Int) * 16) = (V : Int) * 16 := by rw [IntKind.wrap_u64]; omega
              have u2 : IntKind.u64.wrap ((V : Int) * 16 + (d : Int)) = (V : Int) * 16 + (d : Int) := by rw [IntKind.wrap_u64]; omega
              go_wp2_with fail
              refine (HLW.out wr).mono ?_
              rintro e w3 ⟨rfl, rfl⟩
              go_wp2_with fail
              refine (HLW.out wr).mono ?_
              rintro e w3 ⟨rfl, rfl⟩
              go_wp2_with fail
              refine (HLW.out wr).mono ?_
              rintro e w3 ⟨rfl, rfl⟩
              go_wp2_with fail
              go_roundg (L + 1 - (k + 1))
              case measure => have := HG.out; omega
              case rel => exact ⟨k + 1, V * 16 + d, by omega, rfl, by go_num, rfl, by omega, by go_num, hfr⟩
            · have t8 : decide ((1152921504606846976 : Int) ≤ (V : Int)) = true := by simp; omega
              go_wp2_with fail
              refine (HLW.out wr).mono ?_
              rintro e w3 ⟨rfl, rfl⟩
              go_wp2_with fail
              refine (HLW.out wr).mono ?_
              rintro e w3 ⟨rfl, rfl⟩
              go_wp2_with fail
              refine (HLW.out wr).mono ?_
              rintro e w3 ⟨rfl, rfl⟩
              go_wp2_with fail
              go_ret2
              exact PuEnd_err (n := 18446744073709551615) (by decide) (Or.inl rfl) HB.out
        · have t9 : decide ((16 : Int) ≤ (d : Int)) = true := by simp; omega
          rcases t34 with t3 | ⟨t3, t4⟩ <;>
            (go_wp2_with fail
             refine (HLW.out wr).mono ?_
             rintro e w3 ⟨rfl, rfl⟩
             go_wp2_with fail
             refine (HLW.out wr).mono ?_
             rintro e w3 ⟨rfl, rfl⟩
             go_wp2_with fail
             refine (HLW.out wr).mono ?_
             rintro e w3 ⟨rfl, rfl⟩
             go_wp2_with fail
             go_ret2
             exact PuEnd_err (n := 0) (by decide) (Or.inr rfl) HB.out)
      · obtain rfl : k = L := by omega
        have t1 : decide ((k : Int) < (k : Int)) = false := by simp
        go_wp2_with fail
        go_ret2
        exact ⟨V, _, hV, rfl, Or.inl rfl, HB.out⟩
end Go.Proofs.YtnmakpiddfhhnaaGreatDoor
