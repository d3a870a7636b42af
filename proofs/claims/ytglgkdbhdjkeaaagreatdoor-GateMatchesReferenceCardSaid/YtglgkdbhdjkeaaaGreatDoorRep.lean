/-
  strings.Repeat of "0", up to fifteen times.
  strconv.ParseUint of sixteen hexadecimal digits, great letters too; strconv.Atoi of a few decimal digits.
  strconv.Atoi of a few decimal digits.
  strconv.ParseUint (base 16) and strconv.Atoi of any string: some number, some error.
-/
import Derived.Test.YtglgkdbhdjkeaaaGreatDoorFlI
import Derived.Test.YtglgkdbhdjkeaaaGreatDoorJoinN
namespace Go.Proofs.YtglgkdbhdjkeaaaGreatDoor
open Go.RowKit

set_option maxRecDepth 100000 in
theorem hp0_any (c : UInt8) (r : List UInt8) (w : World) (hr : r.length ≤ 1000) :
    Calls Tryz.prog 135 #[.string ⟨(c :: r).toArray⟩, .string ⟨#[48]⟩] w fun e w' => e = .returned (.bool (c == 48)) ∧ w = w' := by
  have hx : (⟨(c :: r).toArray⟩ : ByteArray).extract 0 1 = ⟨[c].toArray⟩ := by apply ByteArray.ext; simp [ByteArray.data_extract]
  have hsz : (⟨(c :: r).toArray⟩ : ByteArray).size = r.length + 1 := by simp [ByteArray.size]
  have t0 : decide ((1 : Int) ≤ ((r.length + 1 : Nat) : Int)) = true := decide_eq_true (by omega)
  go_enter Tryz.func135, Tryz.ntmps135
  go_wp2_with fail
  go_ret
  exact ⟨rfl, rfl⟩
set_option maxRecDepth 100000 in
theorem hp1_any (c : UInt8) (r : List UInt8) (w : World) (hr : r.length ≤ 1000) :
    Calls Tryz.prog 105 #[.string ⟨(c :: r).toArray⟩, .string ⟨#[48]⟩] w fun e w' => e = .returned (.bool (c == 48)) ∧ w = w' := by
  have h0 := hp0_any c r w hr
  go_enter Tryz.func105, Tryz.ntmps105
  go_wp2_with fail
  refine h0.mono ?_
  rintro e w1 ⟨rfl, rfl⟩
  go_wp2_with fail
  go_ret
  exact ⟨rfl, rfl⟩
theorem zeros_cut (n : Nat) (h : n ≤ 15) : (⟨#[48, 48, 48, 48, 48, 48, 48, 48, 48, 48, 48, 48, 48, 48, 48, 48, 48, 48, 48, 48, 48, 48, 48, 48, 48, 48, 48, 48, 48, 48, 48, 48, 48, 48, 48, 48, 48, 48, 48, 48, 48, 48, 48, 48, 48, 48, 48, 48, 48, 48, 48, 48, 48, 48, 48, 48, 48, 48, 48, 48, 48, 48, 48, 48]⟩ : ByteArray).extract 0 n = ⟨(List.replicate n 48).toArray⟩ := by
  have h1 : ∀ n : Fin 16, (⟨#[48, 48, 48, 48, 48, 48, 48, 48, 48, 48, 48, 48, 48, 48, 48, 48, 48, 48, 48, 48, 48, 48, 48, 48, 48, 48, 48, 48, 48, 48, 48, 48, 48, 48, 48, 48, 48, 48, 48, 48, 48, 48, 48, 48, 48, 48, 48, 48, 48, 48, 48, 48, 48, 48, 48, 48, 48, 48, 48, 48, 48, 48, 48, 48]⟩ : ByteArray).extract 0 n.val = ⟨(List.replicate n.val 48).toArray⟩ := by decide +kernel
  exact h1 ⟨n, by omega⟩
set_option maxRecDepth 100000 in
set_option maxHeartbeats 2000000 in
theorem repeat_any (n : Nat) (w : World) (hn : n ≤ 15) :
    Calls Tryz.prog 83 #[.string ⟨#[48]⟩, .int .i64 (n : Int)] w fun e w' => e = .returned (.string ⟨(List.replicate n 48).toArray⟩) ∧ w = w' := by
  match n, hn with
  | 0, _ =>
    go_enter Tryz.func83, Tryz.ntmps83
    go_wp2_with fail
    go_ret
    exact ⟨rfl, rfl⟩
  | 1, _ =>
    go_enter Tryz.func83, Tryz.ntmps83
    go_wp2_with fail
    go_ret
    exact ⟨rfl, rfl⟩
  | m + 2, hn =>
    obtain ⟨k, hk⟩ : ∃ k, k = m + 2 := ⟨_, rfl⟩
    rw [← hk] at hn ⊢
    have hk2 : 2 ≤ k := by omega
    clear hk
    have hcut := zeros_cut k hn
    have t0 : ((k : Int) == 0) = false := by rw [beq_eq_false_iff_ne]; omega
    have t1 : ((k : Int) == 1) = false := by rw [beq_eq_false_iff_ne]; omega
    have t2 : decide ((k : Int) < 0) = false := decide_eq_false (by omega)
    have w1 : IntKind.u64.wrap (k : Int) = (k : Int) := by rw [IntKind.wrap_u64]; omega
    have w2 : IntKind.i64.wrap (k : Int) = (k : Int) := IntWalk.i64_in _ (by omega)
    have w3 : IntKind.u64.wrap 1 = 1 := by decide
    have hm := Tryz.bits_Mul 1 k (by decide) (by omega) w
    rw [Nat.one_mul, Nat.div_eq_of_lt (by omega), Nat.mod_eq_of_lt (by omega)] at hm
    have t3 : decide ((k : Int) ≤ 128) = true := decide_eq_true (by omega)
    have t4 : decide ((k : Int) ≤ 64) = true := decide_eq_true (by omega)
    have t5 : decide (9223372036854775807 < (k : Int)) = false := decide_eq_false (by omega)
    have t6 : decide ((0 : Int) < 0) = false := by decide
    go_enter Tryz.func83, Tryz.ntmps83
    go_wp2_with fail
    refine hm.mono ?_
    rintro e w' ⟨rfl, rfl⟩
    go_wp2_with fail
    refine (hp1_any _ _ _ (by simp)).mono ?_
    rintro e w' ⟨rfl, rfl⟩
    go_wp2_with fail
    refine (hp1_any _ _ _ (by simp)).mono ?_
    rintro e w' ⟨rfl, rfl⟩
    go_wp2_with fail
    refine (hp1_any _ _ _ (by simp)).mono ?_
    rintro e w' ⟨rfl, rfl⟩
    go_wp2_with fail
    go_ret
    exact ⟨rfl, rfl⟩
end Go.Proofs.YtglgkdbhdjkeaaaGreatDoor
namespace Go.Proofs.YtglgkdbhdjkeaaaGreatDoor
open Go.RowKit

/-- A hexadecimal digit, with great letters too; its value. -/
def hexA (c : UInt8) : Bool := (48 ≤ c && c ≤ 57) || (65 ≤ c && c ≤ 70) || (97 ≤ c && c ≤ 102)
def hexU (c : UInt8) : Nat := if c.toNat < 58 then c.toNat - 48 else if c.toNat < 97 then c.toNat - 55 else c.toNat - 87
def uV (l : List UInt8) : Nat := l.foldl (fun a c => a * 16 + hexU c) 0
theorem hexU_bound (c : UInt8) (h : hexA c = true) : hexU c < 16 ∧ ((48 ≤ c.toNat ∧ c.toNat ≤ 57 ∧ hexU c = c.toNat - 48) ∨ (57 < c.toNat ∧ (c.toNat ||| 32) = hexU c + 87 ∧ 10 ≤ hexU c)) := by
  have h1 : ∀ n : Fin 256, hexA (UInt8.ofNat n.val) = true → hexU (UInt8.ofNat n.val) < 16 ∧ ((48 ≤ n.val ∧ n.val ≤ 57 ∧ hexU (UInt8.ofNat n.val) = n.val - 48) ∨ (57 < n.val ∧ (n.val ||| 32) = hexU (UInt8.ofNat n.val) + 87 ∧ 10 ≤ hexU (UInt8.ofNat n.val))) := by decide +kernel
  have := h1 ⟨c.toNat, c.toNat_lt⟩
  simpa using this (by simpa using h)
theorem uV_snoc (h : List UInt8) (k : Nat) (hk : k < h.length) : uV (h.take (k + 1)) = uV (h.take k) * 16 + hexU (h.getD k 0) := by
  unfold uV
  rw [take_snoc' h k 0 hk, List.foldl_append]; rfl
theorem uV_lt (h : List UInt8) (hh : h.all hexA = true) : ∀ k, k ≤ h.length → uV (h.take k) < 16 ^ k
  | 0, _ => by simp [uV]
  | k + 1, hk => by
    have h1 := uV_lt h hh k (by omega)
    have h2 := (hexU_bound _ (List.all_eq_true.1 hh _ (getD_mem h k 0 (by omega)))).1
    rw [uV_snoc h k (by omega), Nat.pow_succ]
    omega
set_option maxRecDepth 100000 in
theorem lowerA_any (c : Nat) (w : World) (h1 : c < 256) :
    Calls Tryz.prog 159 #[.int .u8 (c : Int)] w fun e w' => e = .returned (.int .u8 ((c ||| 32 : Nat) : Int)) ∧ w = w' := by
  have hw : bits .or .u8 (c : Int) 32 = ((c ||| 32 : Nat) : Int) := u8_or_nat c 32 (by omega) (by decide)
  go_enter Tryz.func159, Tryz.ntmps159
  go_wp2_with fail
  go_ret
  exact ⟨rfl, rfl⟩
set_option maxRecDepth 100000 in
set_option maxHeartbeats 2000000 in
theorem puH_any (h : List UInt8) (w : World) (hl : h.length = 16) (hh : h.all hexA = true) :
    Calls Tryz.prog 144 #[.string ⟨h.toArray⟩, .int .i64 16, .int .i64 64] w fun e w' => e = .returned (.tuple #[.int .u64 (uV h : Nat), .nilIface]) ∧ Below w.heap.size w w' := by
  have hne : (h == []) = false := by cases h with
    | nil => simp at hl
    | cons => rfl
  obtain ⟨c, w2, hrun, hf2, hlt2, hcells⟩ := conv_bytes w h
  rw [hl] at hrun hcells
  have HH := Lib.hid hh
  have HL := Lib.hid hl
  clear hh hl
  have wm : IntKind.u64.wrap (IntKind.u64.wrap 18446744073709551616 - 1) = 18446744073709551615 := by decide
  go_enter Tryz.func144, Tryz.ntmps144
  go_wp2_with fail
  go_loopg [12, 13, 101] 17 (fun g us n i wr => ∃ k : Nat, k ≤ 16 ∧ g = 17 - k ∧ i = .int .i64 (k : Int) ∧ us = .bool false ∧ n = .int .u64 (uV (h.take k) : Nat) ∧ Fr [] w2 wr)
  case atStart => exact ⟨0, by omega, by omega, rfl, rfl, rfl, Fr.refl _ _⟩
  case round =>
    obtain ⟨k, hk, hg, rfl, rfl, rfl, hfr⟩ := hrel
    have HG := Lib.hid hg
    clear hg
    by_cases hlt : k < 16
    · have hc := hfr.cell (hcells k hlt) (by simp)
      have hkl : k < h.length := by rw [HL.out]; exact hlt
      have hx := List.all_eq_true.1 HH.out _ (getD_mem h k 0 hkl)
      have HS := Lib.hid (uV_snoc h k hkl)
      have hub := hexU_bound _ hx
      have hVb : uV (h.take k) < 1152921504606846976 := by
        have h1 := uV_lt h HH.out k (by omega)
        exact Nat.lt_of_lt_of_le h1 (Nat.le_trans (Nat.pow_le_pow_right (by decide) (show k ≤ 15 by omega)) (by decide))
      generalize uV (h.take k) = V at HS hVb ⊢
      have hb256 := (h.getD k 0).toNat_lt
      generalize hexU (h.getD k 0) = d at HS hub
      generalize (h.getD k 0).toNat = c at hc hub hb256
      obtain ⟨hd16, hub⟩ := hub
      clear hx hkl
      have t1 : decide ((k : Int) < 16) = true := by simp; omega
      have t8 : decide ((1152921504606846976 : Int) ≤ (V : Int)) = false := by simp; omega
      have t9 : decide ((16 : Int) ≤ (d : Int)) = false := by simp; omega
      have u1 : IntKind.u64.wrap ((V : Int) * 16) = (V : Int) * 16 := by rw [IntKind.wrap_u64]; omega
      have u2 : IntKind.u64.wrap ((V : Int) * 16 + (d : Int)) = (V : Int) * 16 + (d : Int) := by rw [IntKind.wrap_u64]; omega
      rcases hub with ⟨h48, h57, hd⟩ | ⟨h57, hd, hd10⟩
      · have t2 : ((c : Int) == 95) = false := by rw [beq_eq_false_iff_ne]; omega
        have t3 : decide ((48 : Int) ≤ (c : Int)) = true := by simp; omega
        have t4 : decide ((c : Int) ≤ 57) = true := by simp; omega
        have wd : IntKind.u8.wrap ((c : Int) - 48) = (d : Int) := by rw [IntKind.wrap_u8']; omega
        clear hd
        go_wp2_with fail
        go_roundg (17 - (k + 1))
        case measure => have := HG.out; omega
        case rel => exact ⟨k + 1, by omega, rfl, by go_num, rfl, by rw [HS.out]; go_num, hfr⟩
      · obtain ⟨l, hl⟩ : ∃ l, l = c ||| 32 := ⟨_, rfl⟩
        have hlow := fun W => lowerA_any c W hb256
        rw [← hl] at hlow hd
        have HLW := Lib.hid hlow
        have hc95 : c ≠ 95 := by
          intro e
          rw [e] at hl
          rw [show (95 : Nat) ||| 32 = 127 by decide] at hl
          omega
        clear hl hlow
        have t2 : ((c : Int) == 95) = false := by rw [beq_eq_false_iff_ne]; omega
        have t3 : decide ((48 : Int) ≤ (c : Int)) = true := by simp; omega
        have t4 : decide ((c : Int) ≤ 57) = false := by simp; omega
        have t5 : decide ((97 : Int) ≤ (l : Int)) = true := by simp; omega
        have t6 : decide ((l : Int) ≤ 122) = true := by simp; omega
        have wd : IntKind.u8.wrap ((l : Int) - 97) = (l : Int) - 97 := by rw [IntKind.wrap_u8']; omega
        have wd2 : IntKind.u8.wrap ((l : Int) - 97 + 10) = (d : Int) := by rw [IntKind.wrap_u8']; omega
        clear hd
        go_wp2_with fail
        refine (HLW.out wr).mono ?_
        rintro e w3 ⟨rfl, rfl⟩
        go_wp2_with fail
        refine (HLW.out wr).mono ?_
        rintro e w3 ⟨rfl, rfl⟩
        go_wp2_with fail
        refine (HLW.out wr).mono ?_
        rintro e w3 ⟨rfl, rfl⟩
        go_wp2_with fail
        go_roundg (17 - (k + 1))
        case measure => have := HG.out; omega
        case rel => exact ⟨k + 1, by omega, rfl, by go_num, rfl, by rw [HS.out]; go_num, hfr⟩
    · obtain rfl : k = 16 := by omega
      have t1 : decide ((16 : Int) < 16) = false := by simp
      have HT15 : Hid (h.take 16 = h) := Lib.hid (List.take_of_length_le (by rw [HL.out]; decide))
      rw [HT15.out]
      go_wp2_with fail
      go_ret2
      exact ⟨rfl, (hf2.trans hfr (by simp)).toBelow (by simp)⟩
end Go.Proofs.YtglgkdbhdjkeaaaGreatDoor
namespace Go.Proofs.YtglgkdbhdjkeaaaGreatDoor
open Go.RowKit

/-- A decimal digit; what some spell. -/
def decA (c : UInt8) : Bool := 48 ≤ c && c ≤ 57
def dV (l : List UInt8) : Nat := l.foldl decF 0
theorem decA_bound (c : UInt8) (h : decA c = true) : 48 ≤ c.toNat ∧ c.toNat ≤ 57 := by
  simp only [decA, Bool.and_eq_true, decide_eq_true_eq, UInt8.le_iff_toNat_le] at h
  simpa using h
theorem dV_snoc (h : List UInt8) (k : Nat) (hk : k < h.length) : dV (h.take (k + 1)) = dV (h.take k) * 10 + ((h.getD k 0).toNat - 48) := by
  unfold dV
  rw [take_snoc' h k 0 hk, List.foldl_append]; rfl
theorem dV_lt (h : List UInt8) (hh : h.all decA = true) : ∀ k, k ≤ h.length → dV (h.take k) < 10 ^ k
  | 0, _ => by simp [dV]
  | k + 1, hk => by
    have h1 := dV_lt h hh k (by omega)
    have h2 := decA_bound _ (List.all_eq_true.1 hh _ (getD_mem h k 0 (by omega)))
    rw [dV_snoc h k (by omega), Nat.pow_succ]
    omega
end Go.Proofs.YtglgkdbhdjkeaaaGreatDoor
namespace Go.Proofs.YtglgkdbhdjkeaaaGreatDoor
open Go.RowKit

theorem PuEnd_err {n : Nat} {k : Int} (h : n < 18446744073709551616) (hk : k = 1 ∨ k = 2) {w w' : World} (hb : Below w.heap.size w w') :
    ∃ (m : Nat) (ev : Value), m < 18446744073709551616 ∧ Ending.returned (.tuple #[.int .u64 (n : Int), .iface 178 (.int .i64 k)]) = .returned (.tuple #[.int .u64 (m : Int), ev]) ∧ (ev = .nilIface ∨ ∃ k : Int, (k = 1 ∨ k = 2) ∧ ev = .iface 178 (.int .i64 k)) ∧ Below w.heap.size w w' :=
  ⟨n, _, h, rfl, Or.inr ⟨k, hk, rfl⟩, hb⟩
set_option maxRecDepth 100000 in
set_option maxHeartbeats 4000000 in
theorem puX_any (h : List UInt8) (w : World) (hl : h.length ≤ 1000000) :
    Calls Tryz.prog 144 #[.string ⟨h.toArray⟩, .int .i64 16, .int .i64 64] w fun e w' =>
      ∃ (m : Nat) (ev : Value), m < 18446744073709551616 ∧ e = .returned (.tuple #[.int .u64 (m : Int), ev]) ∧ (ev = .nilIface ∨ ∃ k : Int, (k = 1 ∨ k = 2) ∧ ev = .iface 178 (.int .i64 k)) ∧ Below w.heap.size w w' := by
  have wm : IntKind.u64.wrap (IntKind.u64.wrap 18446744073709551616 - 1) = 18446744073709551615 := by decide
  obtain ⟨L, hL⟩ : ∃ L, h.length = L := ⟨_, rfl⟩
  rw [hL] at hl
  cases hne : (h == []) with
  | true =>
    go_enter Tryz.func144, Tryz.ntmps144
    go_wp2_with fail
    go_ret2
    exact PuEnd_err (n := 0) (by decide) (Or.inr rfl) (Below.refl _ _)
  | false =>
    obtain ⟨c, w2, hrun, hf2, hlt2, hcells⟩ := conv_bytes w h
    rw [hL] at hrun hcells
    clear hL
    go_enter Tryz.func144, Tryz.ntmps144
    go_wp2_with fail
    go_loopg [12, 13, 101] (L + 1) (fun g us n i wr => ∃ k m : Nat, k ≤ L ∧ g = L + 1 - k ∧ i = .int .i64 (k : Int) ∧ us = .bool false ∧ m < 18446744073709551616 ∧ n = .int .u64 (m : Int) ∧ Fr [] w2 wr)
    case atStart => exact ⟨0, 0, by omega, by omega, rfl, rfl, by decide, rfl, Fr.refl _ _⟩
    case round =>
      obtain ⟨k, V, hk, hg, rfl, rfl, hV, rfl, hfr⟩ := hrel
      have HG := Lib.hid hg
      have HB := Lib.hid ((hf2.trans hfr (by simp)).toBelow (by simp))
      clear hg
      by_cases hlt : k < L
      · have hc := hfr.cell (hcells k hlt) (by simp)
        have hb256 := (h.getD k 0).toNat_lt
        generalize (h.getD k 0).toNat = c at hc hb256
        have t1 : decide ((k : Int) < (L : Int)) = true := by simp; omega
        have g0 : (0 : Int) ≤ (k : Int) := by omega
        have g1 : (k : Int) < (L : Int) := by omega
        by_cases h95 : c = 95
        · subst h95
          have HLW : Hid (∀ W, Calls Tryz.prog 159 #[.int .u8 95] W fun e w' => e = .returned (.int .u8 127) ∧ W = w') := Lib.hid (fun W => lowerA_any 95 W (by decide))
          go_wp2_with fail
          refine (HLW.out wr).mono ?_
          rintro e w3 ⟨rfl, rfl⟩
          go_wp2_with fail
          refine (HLW.out wr).mono ?_
          rintro e w3 ⟨rfl, rfl⟩
          go_wp2_with fail
          go_ret2
          exact PuEnd_err (n := 0) (by decide) (Or.inr rfl) HB.out
        have t2 : ((c : Int) == 95) = false := by rw [beq_eq_false_iff_ne]; omega
        by_cases hdig : 48 ≤ c ∧ c ≤ 57
        · obtain ⟨h48, h57⟩ := hdig
          obtain ⟨d, hd⟩ : ∃ d, c = d + 48 := ⟨c - 48, by omega⟩
          have hd16 : d < 16 := by omega
          have t3 : decide ((48 : Int) ≤ (c : Int)) = true := by simp; omega
          have t4 : decide ((c : Int) ≤ 57) = true := by simp; omega
          have wd : IntKind.u8.wrap ((c : Int) - 48) = (d : Int) := by rw [IntKind.wrap_u8']; omega
          clear hd
          have t9 : decide ((16 : Int) ≤ (d : Int)) = false := by simp; omega
          rcases Nat.lt_or_ge V 1152921504606846976 with h8 | h8
          · have t8 : decide ((1152921504606846976 : Int) ≤ (V : Int)) = false := by simp; omega
            have u1 : IntKind.u64.wrap ((V : Int) * 16) = (V : Int) * 16 := by rw [IntKind.wrap_u64]; omega
            have u2 : IntKind.u64.wrap ((V : Int) * 16 + (d : Int)) = (V : Int) * 16 + (d : Int) := by rw [IntKind.wrap_u64]; omega
            go_wp2_with fail
            go_roundg (L + 1 - (k + 1))
            case measure => have := HG.out; omega
            case rel => exact ⟨k + 1, V * 16 + d, by omega, rfl, by go_num, rfl, by omega, by go_num, hfr⟩
          · have t8 : decide ((1152921504606846976 : Int) ≤ (V : Int)) = true := by simp; omega
            go_wp2_with fail
            go_ret2
            exact PuEnd_err (n := 18446744073709551615) (by decide) (Or.inl rfl) HB.out
        have HLOW := fun W => lowerA_any c W hb256
        have hl256 : c ||| 32 < 256 := Nat.or_lt_two_pow (n := 8) hb256 (by decide)
        generalize c ||| 32 = l at HLOW hl256
        have HLW := Lib.hid HLOW
        clear HLOW
        have t34 : decide ((48 : Int) ≤ (c : Int)) = false ∨ (decide ((48 : Int) ≤ (c : Int)) = true ∧ decide ((c : Int) ≤ 57) = false) := by
          by_cases h48 : 48 ≤ c
          · exact Or.inr ⟨by simp; omega, by simp; omega⟩
          · exact Or.inl (by simp; omega)
        clear hdig
        rcases Nat.lt_or_ge l 97 with h97 | h97
        · have t5 : decide ((97 : Int) ≤ (l : Int)) = false := by simp; omega
          rcases t34 with t3 | ⟨t3, t4⟩ <;>
            (go_wp2_with fail
             refine (HLW.out wr).mono ?_
             rintro e w3 ⟨rfl, rfl⟩
             go_wp2_with fail
             go_ret2
             exact PuEnd_err (n := 0) (by decide) (Or.inr rfl) HB.out)
        have t5 : decide ((97 : Int) ≤ (l : Int)) = true := by simp; omega
        rcases Nat.lt_or_ge 122 l with h122 | h122
        · have t6 : decide ((l : Int) ≤ 122) = false := by simp; omega
          rcases t34 with t3 | ⟨t3, t4⟩ <;>
            (go_wp2_with fail
             refine (HLW.out wr).mono ?_
             rintro e w3 ⟨rfl, rfl⟩
             go_wp2_with fail
             refine (HLW.out wr).mono ?_
             rintro e w3 ⟨rfl, rfl⟩
             go_wp2_with fail
             go_ret2
             exact PuEnd_err (n := 0) (by decide) (Or.inr rfl) HB.out)
        have t6 : decide ((l : Int) ≤ 122) = true := by simp; omega
        obtain ⟨d, hd⟩ : ∃ d, l + 10 = d + 97 := ⟨l + 10 - 97, by omega⟩
        have wd : IntKind.u8.wrap ((l : Int) - 97) = (l : Int) - 97 := by rw [IntKind.wrap_u8']; omega
        have wd2 : IntKind.u8.wrap ((l : Int) - 97 + 10) = (d : Int) := by rw [IntKind.wrap_u8']; omega
        clear hd
        rcases Nat.lt_or_ge d 16 with hd16 | hd16
        · rcases t34 with t3 | ⟨t3, t4⟩
          · have t9 : decide ((16 : Int) ≤ (d : Int)) = false := by simp; omega
            rcases Nat.lt_or_ge V 1152921504606846976 with h8 | h8
            · have t8 : decide ((1152921504606846976 : Int) ≤ (V : Int)) = false := by simp; omega
              have u1 : IntKind.u64.wrap ((V : Int) * 16) = (V : Int) * 16 := by rw [IntKind.wrap_u64]; omega
              have u2 : IntKind.u64.wrap ((V : Int) * 16 + (d : Int)) = (V : Int) * 16 + (d : Int) := by rw [IntKind.wrap_u64]; omega
              go_wp2_with fail
              refine (HLW.out wr).mono ?_
              rintro e w3 ⟨rfl, rfl⟩
              go_wp2_with fail
              refine (HLW.out wr).mono ?_
              rintro e w3 ⟨rfl, rfl⟩
              go_wp2_with fail
              refine (HLW.out wr).mono ?_
              rintro e w3 ⟨rfl, rfl⟩
              go_wp2_with fail
              go_roundg (L + 1 - (k + 1))
              case measure => have := HG.out; omega
              case rel => exact ⟨k + 1, V * 16 + d, by omega, rfl, by go_num, rfl, by omega, by go_num, hfr⟩
            · have t8 : decide ((1152921504606846976 : Int) ≤ (V : Int)) = true := by simp; omega
              go_wp2_with fail
              refine (HLW.out wr).mono ?_
              rintro e w3 ⟨rfl, rfl⟩
              go_wp2_with fail
              refine (HLW.out wr).mono ?_
              rintro e w3 ⟨rfl, rfl⟩
              go_wp2_with fail
              refine (HLW.out wr).mono ?_
              rintro e w3 ⟨rfl, rfl⟩
              go_wp2_with fail
              go_ret2
              exact PuEnd_err (n := 18446744073709551615) (by decide) (Or.inl rfl) HB.out
          · have t9 : decide ((16 : Int) ≤ (d : Int)) = false := by simp; omega
            rcases Nat.lt_or_ge V 1152921504606846976 with h8 | h8
            · have t8 : decide ((1152921504606846976 : Int) ≤ (V : Int)) = false := by simp; omega
              have u1 : IntKind.u64.wrap ((V : Int) * 16) = (V : Int) * 16 := by rw [IntKind.wrap_u64]; omega
              have u2 : IntKind.u64.wrap ((V : Int) * 16 + (d : Int)) = (V : Int) * 16 + (d : Int) := by rw [IntKind.wrap_u64]; omega
              go_wp2_with fail
              refine (HLW.out wr).mono ?_
              rintro e w3 ⟨rfl, rfl⟩
              go_wp2_with fail
              refine (HLW.out wr).mono ?_
              rintro e w3 ⟨rfl, rfl⟩
              go_wp2_with fail
              refine (HLW.out wr).mono ?_
              rintro e w3 ⟨rfl, rfl⟩
              go_wp2_with fail
              go_roundg (L + 1 - (k + 1))
              case measure => have := HG.out; omega
              case rel => exact ⟨k + 1, V * 16 + d, by omega, rfl, by go_num, rfl, by omega, by go_num, hfr⟩
            · have t8 : decide ((1152921504606846976 : Int) ≤ (V : Int)) = true := by simp; omega
              go_wp2_with fail
              refine (HLW.out wr).mono ?_
              rintro e w3 ⟨rfl, rfl⟩
              go_wp2_with fail
              refine (HLW.out wr).mono ?_
              rintro e w3 ⟨rfl, rfl⟩
              go_wp2_with fail
              refine (HLW.out wr).mono ?_
              rintro e w3 ⟨rfl, rfl⟩
              go_wp2_with fail
              go_ret2
              exact PuEnd_err (n := 18446744073709551615) (by decide) (Or.inl rfl) HB.out
        · have t9 : decide ((16 : Int) ≤ (d : Int)) = true := by simp; omega
          rcases t34 with t3 | ⟨t3, t4⟩ <;>
            (go_wp2_with fail
             refine (HLW.out wr).mono ?_
             rintro e w3 ⟨rfl, rfl⟩
             go_wp2_with fail
             refine (HLW.out wr).mono ?_
             rintro e w3 ⟨rfl, rfl⟩
             go_wp2_with fail
             refine (HLW.out wr).mono ?_
             rintro e w3 ⟨rfl, rfl⟩
             go_wp2_with fail
             go_ret2
             exact PuEnd_err (n := 0) (by decide) (Or.inr rfl) HB.out)
      · obtain rfl : k = L := by omega
        have t1 : decide ((k : Int) < (k : Int)) = false := by simp
        go_wp2_with fail
        go_ret2
        exact ⟨V, _, hV, rfl, Or.inl rfl, HB.out⟩
end Go.Proofs.YtglgkdbhdjkeaaaGreatDoor
