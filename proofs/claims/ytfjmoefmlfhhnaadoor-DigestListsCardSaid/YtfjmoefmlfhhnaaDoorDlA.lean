/-
  foyerlaw02: head.
-/
import Derived.Test.YtfjmoefmlfhhnaaDoorRefG
import Derived.Test.YtfjmoefmlfhhnaaDoorOwn
namespace Go.Proofs.YtfjmoefmlfhhnaaDoor
open Go.RowKit

def tHex : List UInt8 := [48, 49, 50, 51, 52, 53, 54, 55, 56, 57, 97, 98, 99, 100, 101, 102]
def tHeX : List UInt8 := [48, 49, 50, 51, 52, 53, 54, 55, 56, 57, 97, 98, 99, 100, 101, 70]
def tA5f : List UInt8 := [48, 48, 48, 48, 48, 48, 48, 48, 48, 48, 48, 48, 48, 97, 53, 102]
def tJoin : List UInt8 := [49, 58, 97, 50, 58, 98, 99]
def tX : List UInt8 := [120]

theorem suml_any (l : List UInt8) (w : World) (hl : l.length ≤ 9223372036854775807) (hT : Tabs w) :
    Calls Tryd.prog 13 #[.string ⟨l.toArray⟩] w fun e w' => e = .returned (.string ⟨(dsum l).toArray⟩) ∧ Below w.heap.size w w' :=
  sum_any ⟨l.toArray⟩ w (by rw [ba_size]; exact hl) hT.hex
theorem ba_cut (l : List UInt8) (i j : Nat) : (⟨l.toArray⟩ : ByteArray).extract i j = ⟨((l.drop i).take (j - i)).toArray⟩ := by
  apply ByteArray.ext; simp [ByteArray.data_extract]
theorem ba_take (l : List UInt8) (n : Nat) : (⟨l.toArray⟩ : ByteArray).extract 0 n = ⟨(l.take n).toArray⟩ := by
  rw [ba_cut, List.drop_zero, Nat.sub_zero]
theorem join_ab : joinL [[97], [98, 99]] = tJoin := by
  simp [joinL, joinE, tJoin, Lib.decDigits_one]
set_option maxRecDepth 100000 in
set_option maxHeartbeats 2000000 in
theorem head2_any (w : World) (hT : Tabs w) :
    Calls Tryd.prog 11 #[] w fun e w' => e = .returned (.bool true) ∧ Below w.heap.size w w' := by
  have hmx : Tryd.prog.follows .mixedOrders = true := by kernel_rfl
  have HT := Lib.hid hT
  clear hT
  go_enter Tryd.func11, Tryd.ntmps11
  go_wp2_with fail
  refine (is_any tHex w (by decide)).mono ?_
  rintro e w1 ⟨rfl, hb1⟩
  rw [show isD tHex = true by decide]
  have hf1 : Fr [] w w1 := (Fr.refl [] w).below hb1 (Nat.le_refl _)
  go_wp2_with fail
  refine (is_any tHeX w1 (by decide)).mono ?_
  rintro e w2 ⟨rfl, hb2⟩
  rw [show isD tHeX = false by decide]
  have hf2 : Fr [] w w2 := hf1.below hb2 hf1.size
  go_wp2_with fail
  refine (is_any [] w2 (by decide)).mono ?_
  rintro e w3 ⟨rfl, hb3⟩
  rw [show isD [] = false by decide]
  have hf3 : Fr [] w w3 := hf2.below hb3 hf2.size
  go_wp2_with fail
  refine (below_any tA5f 7 w3 (by decide) (by decide)).mono ?_
  rintro e w4 ⟨rfl, hb4⟩
  rw [show belowS tA5f 7 = 4 by decide]
  have hf4 : Fr [] w w4 := hf3.below hb4 hf3.size
  go_wp2_with fail
  refine (below_any tA5f 0 w4 (by decide) (by decide)).mono ?_
  rintro e w5 ⟨rfl, hb5⟩
  rw [show belowS tA5f 0 = 0 by decide]
  have hf5 : Fr [] w w5 := hf4.below hb5 hf4.size
  clear hb1 hb2 hb3 hb4 hb5 hf1 hf2 hf3 hf4
  go_wp2_with fail
  refine (list_any _ [[97], [98, 99]] _ (strs_two (heap_new rfl)) (by rw [join_ab]; decide) (HT.out.fr (hf5.alloc _))).mono ?_
  rintro e w6 ⟨rfl, hb6⟩
  rw [show dlist [[97], [98, 99]] = dsum tJoin by unfold dlist; rw [join_ab]]
  have hf6 : Fr [] w w6 := (hf5.alloc _).below hb6 (hf5.alloc _).size
  go_wp2_with fail
  refine (suml_any tJoin w6 (by decide) (HT.out.fr hf6)).mono ?_
  rintro e w7 ⟨rfl, hb7⟩
  have hf7 : Fr [] w w7 := hf6.below hb7 hf6.size
  have q1 : (dsum tJoin == dsum tJoin) = true := by simp
  generalize dsum tJoin = J at q1 ⊢
  go_wp2_with fail
  refine (chain_any tX 0 w7 (by decide) (HT.out.fr hf7)).mono ?_
  rintro e w8 ⟨rfl, hb8⟩
  have hf8 : Fr [] w w8 := hf7.below hb8 hf7.size
  rw [show dchain tX 0 = tX by decide]
  clear hb6 hb7 hb8 hf5 hf6 hf7
  go_wp2_with fail
  refine (chain_any tX 2 w8 (by decide) (HT.out.fr hf8)).mono ?_
  rintro e w9 ⟨rfl, hb9⟩
  have hf9 : Fr [] w w9 := hf8.below hb9 hf8.size
  rw [show dchain tX 2 = dsum (dsum tX) from rfl]
  have HX := Lib.hid (dsum_length tX)
  generalize hD : dsum tX = D at HX ⊢
  generalize hD2 : dsum D = D2
  have HD := Lib.hid hD
  have HD2 := Lib.hid hD2
  clear hD hD2
  go_wp2_with fail
  refine (suml_any tX w9 (by decide) (HT.out.fr hf9)).mono ?_
  rintro e w10 ⟨rfl, hb10⟩
  have hf10 : Fr [] w w10 := hf9.below hb10 hf9.size
  rw [HD.out]
  go_wp2_with fail
  refine (suml_any D w10 (by rw [HX.out]; decide) (HT.out.fr hf10)).mono ?_
  rintro e w11 ⟨rfl, hb11⟩
  have hf11 : Fr [] w w11 := hf10.below hb11 hf10.size
  rw [HD2.out]
  have q2 : (D2 == D2) = true := by simp
  have hne0 : ([] : List UInt8) ≠ [0] := by decide
  have hne1 : ([1] : List UInt8) ≠ [] := by decide
  have HN0 : Hid (dsum [] ≠ dsum [0]) := Lib.hid (fun h => absurd (dsum_short (by decide) (by decide) h) hne0)
  have HN1 : Hid (dsum [1] ≠ dsum []) := Lib.hid (fun h => absurd (dsum_short (by decide) (by decide) h) hne1)
  clear hb9 hb10 hb11 hf8 hf9 hf10 hne0 hne1
  go_wp2_with fail
  refine (suml_any [] w11 (by decide) (HT.out.fr hf11)).mono ?_
  rintro e w12 ⟨rfl, hb12⟩
  have hf12 : Fr [] w w12 := hf11.below hb12 hf11.size
  go_wp2_with fail
  refine (suml_any [0] w12 (by decide) (HT.out.fr hf12)).mono ?_
  rintro e w13 ⟨rfl, hb13⟩
  have hf13 : Fr [] w w13 := hf12.below hb13 hf12.size
  generalize hE0 : dsum [] = E0 at HN0 HN1 ⊢
  have HE0 := Lib.hid hE0
  clear hE0
  have q3 : (E0 != dsum [0]) = true := by simpa using HN0.out
  have q3' : (E0 == dsum [0]) = false := by simpa using HN0.out
  generalize dsum [0] = E1 at q3 q3' ⊢
  clear HN0
  go_wp2_with fail
  refine (suml_any [1] w13 (by decide) (HT.out.fr hf13)).mono ?_
  rintro e w14 ⟨rfl, hb14⟩
  have hf14 : Fr [] w w14 := hf13.below hb14 hf13.size
  have q4 : (dsum [1] != E0) = true := by simpa using HN1.out
  have q4' : (dsum [1] == E0) = false := by simpa using HN1.out
  generalize dsum [1] = E3 at q4 q4' ⊢
  clear HN1 hb12 hb13 hb14 hf11 hf12 hf13
  go_wp2_with fail
  refine (suml_any [] w14 (by decide) (HT.out.fr hf14)).mono ?_
  rintro e w15 ⟨rfl, hb15⟩
  have hf15 : Fr [] w w15 := hf14.below hb15 hf14.size
  rw [HE0.out]
  go_wp2_with fail
  go_ret
  exact ⟨rfl, hf15.toBelow (by simp)⟩
end Go.Proofs.YtfjmoefmlfhhnaaDoor
