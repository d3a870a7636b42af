/-
  The reference of layer 2: List.
-/
import Derived.Test.YtmhejcndkplepaaDoorRefC
import Derived.Test.YtmhejcndkplepaaDoorPlnA
namespace Go.Proofs.YtmhejcndkplepaaDoor
open Go.RowKit

theorem rlist_any (v : Value) (l : List (List UInt8)) (w : World) (hv : Strs w v l) (hl : capN l ≤ 140737488355328) :
    Calls Tryd.prog 71 #[v] w fun e w' => e = .returned (.string ⟨(dlist l).toArray⟩) ∧ Below w.heap.size w w' := by
  have hb : (joinL l).length ≤ capN l := joinL_capN l (fun s hs => by
    obtain ⟨i, hi1, hi2⟩ := List.getElem_of_mem hs
    have h3 := capN_snoc l i hi1
    have h4 := capN_take l (i + 1)
    have h5 : l.getD i [] = s := by rw [List.getD_eq_getElem?_getD, List.getElem?_eq_getElem hi1]; exact hi2
    rw [h5] at h3
    omega)
  go_enter Tryd.func71, Tryd.ntmps71
  go_wp2_with fail
  refine (rjoined_any v l w hv hl).mono ?_
  rintro e w1 ⟨rfl, hb1⟩
  go_wp2_with fail
  refine (rsum_any (joinL l) w1 (by omega)).mono ?_
  rintro e w2 ⟨rfl, hb2⟩
  go_wp2_with fail
  go_ret
  exact ⟨rfl, hb1.trans (hb2.mono hb1.size)⟩
theorem capN_le (l : List (List UInt8)) (B : Nat) (h : ∀ s ∈ l, s.length ≤ B) : capN l ≤ l.length * (B + 21) := by
  have key : ∀ (f : List (List UInt8)) (a : Nat), (∀ s ∈ f, s.length ≤ B) → (f.map fun s => s.length + 21).foldl (· + ·) a ≤ a + f.length * (B + 21) := by
    intro f
    induction f with
    | nil => intro a _; simp
    | cons s f ih =>
      intro a hf
      have h1 := hf s (by simp)
      have h2 := ih (a + (s.length + 21)) (fun x hx => hf x (by simp [hx]))
      have h3 : (s :: f).length = f.length + 1 := rfl
      simp only [List.map_cons, List.foldl_cons]
      rw [h3, Nat.add_mul]
      omega
  have := key l 0 h
  unfold capN; omega
end Go.Proofs.YtmhejcndkplepaaDoor
