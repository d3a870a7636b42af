/-
  strconv.FormatUint at base 16.
-/
import Derived.Test.YtglgkdbhdjkeaaaGreatDoorFlH
import Derived.Test.YtglgkdbhdjkeaaaGreatDoorPlnHv
import Derived.Test.YtglgkdbhdjkeaaaGreatDoorConv
import Derived.Test.YtglgkdbhdjkeaaaGreatDoorTab
import Derived.Shelf.Vars
namespace Go.Proofs.YtglgkdbhdjkeaaaGreatDoor
open Go.RowKit

/-- The tables and variables that the chapter's walks ask for. -/
structure TabsF (w : World) : Prop where
  t : Tabs w
  m : ∃ m, w.cell? ⟨2, 0, none⟩ = some (.int .i64 m)
  z : w.cell? ⟨8, 15, none⟩ = some (.int .u8 4)
theorem TabsF.fr {w w' : World} (h : TabsF w) (hf : Fr [] w w') : TabsF w' :=
  ⟨h.t.fr hf, let ⟨m, hm⟩ := h.m; ⟨m, hf.cell hm (by simp)⟩, hf.cell h.z (by simp)⟩

set_option maxRecDepth 100000 in
theorem tz_any (w : World) (hz : w.cell? ⟨8, 15, none⟩ = some (.int .u8 4)) :
    Calls Tryz.prog 164 #[.int .u64 16] w fun e w' => e = .returned (.int .i64 4) ∧ w = w' := by
  have e1 : IntKind.u64.wrap (-16) = 18446744073709551600 := by decide
  have e2 : Go.bits .and .u64 16 18446744073709551600 = 16 := by decide +kernel
  have e3 : IntKind.u64.wrap 4573923408821661840 = 4573923408821661840 := by decide
  go_enter Tryz.func164, Tryz.ntmps164
  go_wp2_with fail
  go_ret
  exact ⟨rfl, rfl⟩
set_option maxRecDepth 100000 in
theorem tz0_any (w : World) (hz : w.cell? ⟨8, 15, none⟩ = some (.int .u8 4)) :
    Calls Tryz.prog 153 #[.int .u64 16] w fun e w' => e = .returned (.int .i64 4) ∧ w = w' := by
  go_enter Tryz.func153, Tryz.ntmps153
  go_wp2_with fail
  refine (tz_any w hz).mono ?_
  rintro e w1 ⟨rfl, rfl⟩
  go_wp2_with fail
  go_ret
  exact ⟨rfl, rfl⟩
set_option maxRecDepth 100000 in
theorem pow2_any (w : World) :
    Calls Tryz.prog 152 #[.int .i64 16] w fun e w' => e = .returned (.bool true) ∧ w = w' := by
  go_enter Tryz.func152, Tryz.ntmps152
  go_wp2_with fail
  go_ret
  exact ⟨rfl, rfl⟩
def byteV (b : UInt8) : Value := .int .u8 (b.toNat : Int)
theorem and15 (u : Nat) (h : u < 18446744073709551616) : Go.bits .and .u64 (u : Int) 15 = ((u % 16 : Nat) : Int) := by
  have := u64_and_nat u 15 h (by decide)
  rw [show (15 : Int) = ((15 : Nat) : Int) from rfl, this, show (15 : Nat) = 2 ^ 4 - 1 from rfl, Nat.and_two_pow_sub_one_eq_mod]
theorem hexd_byte (d : Nat) (h : d < 16) : (UInt8.ofNat (hexd d)).toNat = hexd d := by
  have h1 : ∀ d, d < 16 → (UInt8.ofNat (hexd d)).toNat = hexd d := by decide
  exact h1 d h

theorem dig36 (d : Nat) (h : d < 16) (h' : d < (⟨#[48, 49, 50, 51, 52, 53, 54, 55, 56, 57, 97, 98, 99, 100, 101, 102, 103, 104, 105, 106, 107, 108, 109, 110, 111, 112, 113, 114, 115, 116, 117, 118, 119, 120, 121, 122]⟩ : ByteArray).size) : (((⟨#[48, 49, 50, 51, 52, 53, 54, 55, 56, 57, 97, 98, 99, 100, 101, 102, 103, 104, 105, 106, 107, 108, 109, 110, 111, 112, 113, 114, 115, 116, 117, 118, 119, 120, 121, 122]⟩ : ByteArray)[d]'h').toNat : Int) = ((UInt8.ofNat (hexd d)).toNat : Int) := by
  have h1 : ∀ k : Fin 16, ((⟨#[48, 49, 50, 51, 52, 53, 54, 55, 56, 57, 97, 98, 99, 100, 101, 102, 103, 104, 105, 106, 107, 108, 109, 110, 111, 112, 113, 114, 115, 116, 117, 118, 119, 120, 121, 122]⟩ : ByteArray)[k.val]'(Nat.lt_of_lt_of_le k.2 (by decide))).toNat = (UInt8.ofNat (hexd k.val)).toNat := by decide
  rw [h1 ⟨d, h⟩]
/-- One digit more is laid. -/
theorem lay_digit {cur : Array Value} {suf : List UInt8} {i d : Nat} (hcs : cur.size = 65) (hi : i + 1 = 65 - suf.length) (hs : suf.length ≤ 15) (h : cur.toList.drop (65 - suf.length) = suf.map byteV) :
    (cur.setIfInBounds i (.int .u8 ((UInt8.ofNat (hexd d)).toNat : Int))).toList.drop (65 - (UInt8.ofNat (hexd d) :: suf).length) = (UInt8.ofNat (hexd d) :: suf).map byteV := by
  rw [List.length_cons, show 65 - (suf.length + 1) = i by omega, Array.toList_setIfInBounds, List.drop_set, if_neg (by omega), Nat.sub_self, List.map_cons, ← h, show 65 - suf.length = i + 1 by omega]
  have hl : i < cur.toList.length := by simp; omega
  rw [List.drop_eq_getElem_cons hl]
  rfl
theorem slice65 (ba i : Nat) (hi : i < 65) (W : World) : (Instr.sliceAt 186 (.pointer (some ⟨ba, 0, none⟩)) (some (.int .i64 (i : Int))) none none).run Tryz.prog W = .ok (.slice (some ⟨ba, i, none⟩) (65 - i) (65 - i)) W := by
  have h1 : Tryz.prog.arrayLen 186 = 65 := by kernel_rfl
  have h2 : Tryz.prog.elem 186 = 5 := by kernel_rfl
  have h3 : (sizeOf 5).run Tryz.prog W = .ok 1 W := by kernel_rfl
  have h4 : Tryz.prog.underlying 186 = some (.array (Tryz.prog.arrayLen 186) (Tryz.prog.elem 186)) := by kernel_rfl
  rw [run_sliceAt_array_l W 186 ⟨ba, 0, none⟩ h4 .i64 (i : Int) (by omega) (by rw [h1]; omega), h2, h3, h1]
  simp only [Result.andThen, slicedAt, Int.toNat_natCast]
  rw [if_neg (by omega), Nat.mul_one]
  cases i with
  | zero => rfl
  | succ n => simp [Addr.add]
set_option maxRecDepth 100000 in
set_option maxHeartbeats 2000000 in
theorem formatBits_any (x : Nat) (w : World) (hx : x < 18446744073709551616) (hT : TabsF w) :
    Calls Tryz.prog 132 #[.slice none 0 0, .int .u64 (x : Int), .int .i64 16, .bool false, .bool false] w fun e w' => e = .returned (.tuple #[.slice none 0 0, .string ⟨(hexD x).toArray⟩]) ∧ Below w.heap.size w w' := by
  have HT := Lib.hid hT
  clear hT
  have q16 : IntKind.u64.wrap 16 = 16 := by decide
  have q15 : IntKind.u64.wrap 15 = 15 := by decide
  have q4 : IntKind.u64.wrap 4 = 4 := by decide
  have hXL := hexD_len x hx
  go_enter Tryz.func132, Tryz.ntmps132
  go_wp2_with fail
  obtain ⟨w1, hw1⟩ : ∃ w1, w1 = w.alloc (.cells Tryz.zeroCells186 186) := ⟨_, rfl⟩
  obtain ⟨ba, eba⟩ : ∃ ba, ba = w.heap.size := ⟨_, rfl⟩
  have hf1 : Fr [] w w1 := by rw [hw1]; exact (Fr.refl [] w).alloc _
  have hb1 : w1.heap[ba]? = some (.cells Tryz.zeroCells186 186 (0, 0)) := by rw [hw1, eba]; exact heap_new rfl
  have hzs : Tryz.zeroCells186.size = 65 := by kernel_rfl
  rw [← hw1, ← eba]
  have EBA := Lib.hid eba
  clear hw1 eba
  refine (pow2_any w1).mono ?_
  rintro e w' ⟨rfl, rfl⟩
  go_wp2_with fail
  refine (tz0_any w1 (HT.out.fr hf1).z).mono ?_
  rintro e w' ⟨rfl, rfl⟩
  go_wp2_with fail
  go_loopg [1, 13] x (fun gh u i wr => ∃ (y : Nat) (suf : List UInt8) (cur : Array Value), gh = y ∧ u = .int .u64 (y : Int) ∧ i = .int .i64 (65 - (suf.length : Int)) ∧ y < 18446744073709551616 ∧ hexD x = hexD y ++ suf ∧ wr.heap[ba]? = some (.cells cur 186 (0, 0)) ∧ cur.size = 65 ∧ cur.toList.drop (65 - suf.length) = suf.map byteV ∧ Fr [] w wr)
  case atStart => exact ⟨x, [], _, rfl, rfl, rfl, hx, by simp, hb1, hzs, by simp [hzs], hf1⟩
  case round =>
    obtain ⟨y, suf, cur, hgh, rfl, rfl, hy, hD, hb, hcs, hcd, hfr⟩ := hrel
    subst hgh
    have hyl := hexD_len gk hy
    have hsl : suf.length ≤ 15 := by
      have := congrArg List.length hD
      rw [List.length_append] at this
      omega
    have HD := Lib.hid hD
    have HB := Lib.hid hb
    have HCD := Lib.hid hcd
    clear hD hcd
    obtain ⟨i, hi1, hi2, hi3⟩ : ∃ i : Nat, (65 : Int) - (suf.length : Int) = ((i + 1 : Nat) : Int) ∧ i + 1 = 65 - suf.length ∧ 50 ≤ i + 1 := ⟨64 - suf.length, by omega, by omega, by omega⟩
    rw [hi1]
    have hi4 : ((i + 1 : Nat) : Int) - 1 = (i : Int) := by omega
    have hi5 : IntKind.i64.wrap (i : Int) = (i : Int) := IntWalk.i64_in _ (by omega)
    obtain ⟨c, hc⟩ : ∃ c, cur[i]? = some c := ⟨_, Array.getElem?_eq_getElem (by omega)⟩
    have hcell : wr.cell? ⟨ba, i, none⟩ = some c := by rw [row_cell hb i, hc]
    clear hc
    have hfree := row_free hb i
    have j0 : (0 : Int) ≤ (i : Int) := by omega
    have j1 : (i : Int) < 65 := by omega
    have HI2 := Lib.hid hi2
    clear hb hi1 hi2
    by_cases h16 : 16 ≤ gk
    · have t1 : decide ((gk : Int) ≥ 16) = true := decide_eq_true (by omega)
      have t2 : decide ((16 : Int) ≤ (gk : Int)) = true := decide_eq_true (by omega)
      have ha := and15 gk hy
      have hd := Nat.mod_lt gk (show 0 < 16 by decide)
      have HBG := Lib.hid (hexD_big gk h16)
      have hdv : (gk : Int) / 16 = ((gk / 16 : Nat) : Int) := by omega
      have hy2 : gk / 16 < gk := by omega
      generalize gk % 16 = d at ha hd HBG
      generalize gk / 16 = q at hdv hy2 HBG
      have d0 : (0 : Int) ≤ (d : Int) := by omega
      have d1 : (d : Int) < 36 := by omega
      go_wp2_with fail
      rw [dig36 d hd]
      have HB2 := Lib.hid (row_set HB.out i (.int .u8 ((UInt8.ofNat (hexd d)).toNat : Int)))
      have HF2 := Lib.hid (hfr.setCell ⟨ba, i, none⟩ (.int .u8 ((UInt8.ofNat (hexd d)).toNat : Int)) (by right; have := EBA.out; simp; omega))
      go_roundg q
      case measure => exact hy2
      case rel => exact ⟨q, UInt8.ofNat (hexd d) :: suf, _, rfl, rfl, by have := HI2.out; simp only [List.length_cons]; congr 1; omega, by omega, by rw [HD.out, HBG.out, List.append_assoc]; rfl, HB2.out, by simp [hcs], lay_digit hcs HI2.out hsl HCD.out, HF2.out⟩
    · have t1 : decide ((gk : Int) ≥ 16) = false := decide_eq_false (by omega)
      have t2 : decide ((16 : Int) ≤ (gk : Int)) = false := decide_eq_false (by omega)
      have HSM := Lib.hid (hexD_small gk (by omega))
      have d0 : (0 : Int) ≤ (gk : Int) := by omega
      have d1 : (gk : Int) < 36 := by omega
      have hXX : hexD x = UInt8.ofNat (hexd gk) :: suf := by rw [HD.out, HSM.out]; rfl
      have hs65 := slice65 ba i (by omega)
      have hlen : 65 - i = (hexD x).length := by rw [hXX, List.length_cons]; have := HI2.out; omega
      have hB2 := row_set HB.out i (.int .u8 ((UInt8.ofNat (hexd gk)).toNat : Int))
      have hlay := lay_digit (d := gk) hcs HI2.out hsl HCD.out
      rw [← hXX] at hlay
      have hkc := run_convert_bytes_back (P := Tryz.prog) (wr.setCell ⟨ba, i, none⟩ (.int .u8 ((UInt8.ofNat (hexd gk)).toNat : Int))) 118 9 5 ⟨ba, i, none⟩ (65 - i) (hexD x) Tryz.underlying118 Tryz.underlying5 Tryz.underlying9 (fun j hj => by
        rw [show (⟨ba, i, none⟩ : Addr).add j = ⟨ba, i + j, none⟩ by cases j <;> simp [Addr.add], row_cell hB2, ← Array.getElem?_toList]
        have h1 := congrArg (fun l => l[j]?) hlay
        rw [List.getElem?_drop, ← hlen, show 65 - (65 - i) = i by omega, List.getElem?_map, List.getElem?_eq_getElem hj] at h1
        exact h1)
      rw [← hlen] at hkc
      have hF2 := hfr.setCell ⟨ba, i, none⟩ (.int .u8 ((UInt8.ofNat (hexd gk)).toNat : Int)) (by right; have := EBA.out; simp; omega)
      have hdg := dig36 gk (by omega)
      clear hXX hlen hB2 hlay HSM
      generalize (UInt8.ofNat (hexd gk)).toNat = bv at hdg hkc hF2
      have HF2 := Lib.hid hF2
      clear hF2
      go_wp2_with fail
      go_ret2
      exact ⟨rfl, HF2.out.toBelow (by simp)⟩
set_option maxRecDepth 100000 in
theorem formatUint0_any (x : Nat) (w : World) (hx : x < 18446744073709551616) (hT : TabsF w) :
    Calls Tryz.prog 103 #[.int .u64 (x : Int), .int .i64 16] w fun e w' => e = .returned (.string ⟨(hexD x).toArray⟩) ∧ Below w.heap.size w w' := by
  have hT' := formatBits_any x w hx hT
  go_enter Tryz.func103, Tryz.ntmps103
  go_wp2_with fail
  refine hT'.mono ?_
  rintro e w1 ⟨rfl, hb1⟩
  go_wp2_with fail
  go_ret
  exact ⟨rfl, hb1⟩
set_option maxRecDepth 100000 in
theorem formatUint_any (x : Nat) (w : World) (hx : x < 18446744073709551616) (hT : TabsF w) :
    Calls Tryz.prog 82 #[.int .u64 (x : Int), .int .i64 16] w fun e w' => e = .returned (.string ⟨(hexD x).toArray⟩) ∧ Below w.heap.size w w' := by
  have hT' := formatUint0_any x w hx hT
  go_enter Tryz.func82, Tryz.ntmps82
  go_wp2_with fail
  refine hT'.mono ?_
  rintro e w1 ⟨rfl, hb1⟩
  go_wp2_with fail
  go_ret
  exact ⟨rfl, hb1⟩
end Go.Proofs.YtglgkdbhdjkeaaaGreatDoor
