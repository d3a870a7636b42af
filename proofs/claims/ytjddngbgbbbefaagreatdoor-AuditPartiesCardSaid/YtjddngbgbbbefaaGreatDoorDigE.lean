/-
  digest.Chain and digest.Is.
-/
import Derived.Test.YtjddngbgbbbefaaGreatDoorDigA
import Derived.Shelf.Strings.SlTrimAscii
namespace Go.Proofs.YtjddngbgbbbefaaGreatDoor
open Go.RowKit Go.Shelf

/-- The digest of the digest .. of a text. -/
def chainN : Nat → List UInt8 → List UInt8
  | 0, l => l
  | n + 1, l => chainN n (dsum l)
theorem chainN_succ (n : Nat) (l : List UInt8) : chainN (n + 1) l = dsum (chainN n l) := by
  induction n generalizing l with
  | zero => rfl
  | succ n ih => rw [chainN, ih (dsum l)]; rfl
theorem hexS_length (s : Nat) : (hexS s).length = 16 := by simp [hexS]
theorem dsum_length (l : List UInt8) : (dsum l).length = 16 := hexS_length _
def cnt (n : Int) : Nat := (max 0 (min n 1000)).toNat
def dchain (l : List UInt8) (n : Int) : List UInt8 := chainN (cnt n) l

/-- A digit of a digest; a text of the form of a digest. -/
def hexC (c : UInt8) : Bool := (48 ≤ c && c ≤ 57) || (97 ≤ c && c ≤ 102)
def isD (l : List UInt8) : Bool := l.length == 16 && l.all hexC
def cutset : List UInt8 := [48, 49, 50, 51, 52, 53, 54, 55, 56, 57, 97, 98, 99, 100, 101, 102]
theorem hexC_cut (c : UInt8) : cutset.contains c = hexC c := by
  have h : ∀ n : Fin 256, cutset.contains (UInt8.ofNat n.val) = hexC (UInt8.ofNat n.val) := by decide +kernel
  have := h ⟨c.toNat, c.toNat_lt⟩
  simpa using this
theorem dropWhile_nil {α : Type} (p : α → Bool) : ∀ l : List α, l.dropWhile p = [] ↔ ∀ x ∈ l, p x = true
  | [] => by simp
  | a :: l => by
    cases h : p a with
    | true => rw [List.dropWhile_cons_of_pos h, dropWhile_nil p l]; simp [h]
    | false => rw [List.dropWhile_cons_of_neg (by simp [h])]; simp [h]
theorem trim_nil (l : List UInt8) : (Lib.trimS l cutset = []) ↔ l.all hexC = true := by
  have hp : (fun x => cutset.contains x) = hexC := funext hexC_cut
  have key : l = Lib.trimRightS l cutset ++ (l.reverse.takeWhile (fun x => cutset.contains x)).reverse := by
    unfold Lib.trimRightS
    rw [← List.reverse_append, List.takeWhile_append_dropWhile, List.reverse_reverse]
  unfold Lib.trimS Lib.trimLeftS
  rw [dropWhile_nil]
  constructor
  · intro h
    rw [key, List.all_append]
    simp only [Bool.and_eq_true, List.all_eq_true]
    refine ⟨fun x hx => by rw [← hexC_cut]; exact h x hx, fun x hx => ?_⟩
    rw [List.mem_reverse] at hx
    rw [← hexC_cut]
    have := List.all_takeWhile (p := fun x => cutset.contains x) (l := l.reverse)
    exact List.all_eq_true.1 this x hx
  · intro h x hx
    rw [hexC_cut]
    refine List.all_eq_true.1 h x ?_
    rw [key]; exact List.mem_append_left _ hx

set_option maxRecDepth 100000 in
set_option maxHeartbeats 1000000 in
theorem is_any (l : List UInt8) (w : World) (hl : l.length ≤ 9223372036854775807) :
    Calls Tryz.prog 71 #[.string ⟨l.toArray⟩] w fun e w' => e = .returned (.bool (isD l)) ∧ Below w.heap.size w w' := by
  by_cases h16 : l.length = 16
  · have t1 : ((l.length : Int) == 16) = true := by rw [h16]; rfl
    have H16 := Lib.hid h16
    clear h16
    go_enter Tryz.func71, Tryz.ntmps71
    go_wp2_with fail
    refine (Any.strings_Trim_laid Tryz.lays160 (by kernel_rfl) ⟨l.toArray⟩ ⟨#[48, 49, 50, 51, 52, 53, 54, 55, 56, 57, 97, 98, 99, 100, 101, 102]⟩ w (by rw [ba_size]; exact hl) (by decide) (ascii_of_all (by decide))).mono ?_
    rintro e w1 ⟨rfl, hb1⟩
    have hfin : (Lib.trimS l cutset).isEmpty = isD l := by
      rw [Bool.eq_iff_iff, List.isEmpty_iff, trim_nil]; simp [isD, H16.out]
    have HF := Lib.hid hfin
    clear hfin
    change (_ : Act → World → Prop) _ _
    go_wp2_with fail
    go_ret
    exact ⟨by rw [← HF.out]; rfl, hb1⟩
  · have t1 : ((l.length : Int) == 16) = false := by simp; omega
    have H16 := Lib.hid h16
    clear h16
    go_enter Tryz.func71, Tryz.ntmps71
    go_wp2_with fail
    go_ret
    have hd : isD l = false := by simp [isD, H16.out]
    exact ⟨by rw [hd]; rfl, Below.refl _ _⟩
end Go.Proofs.YtjddngbgbbbefaaGreatDoor
