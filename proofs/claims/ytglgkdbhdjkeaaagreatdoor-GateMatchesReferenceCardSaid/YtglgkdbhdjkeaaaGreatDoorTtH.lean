/-
  title.Text.
-/
import Derived.Test.YtglgkdbhdjkeaaaGreatDoorTtD
import Derived.Test.YtglgkdbhdjkeaaaGreatDoorSt3
import Derived.Test.YtglgkdbhdjkeaaaGreatDoorPlnTt
import Derived.Test.YtglgkdbhdjkeaaaGreatDoorPlnHv
import Derived.Test.YtglgkdbhdjkeaaaGreatDoorJoinN
namespace Go.Proofs.YtglgkdbhdjkeaaaGreatDoor
open Go.RowKit

theorem wordsT_cut0 (t : Ttl) : wordsT (cutT t 0) = [Lib.itoa t.serial, Lib.itoa t.shw, Lib.itoa t.place, t.first] := by simp [wordsT, cutT, chainW]
theorem wordsT_cut (t : Ttl) (k : Nat) (x : Trf) (hx : t.chain[k]? = some x) : wordsT (cutT t (k + 1)) = wordsT (cutT t k) ++ [x.nk] ++ x.sig := by
  simp only [wordsT, cutT, chainW, List.take_add_one, hx, List.flatMap_append]
  simp
theorem wordsT_all (t : Ttl) : cutT t t.chain.length = t := by
  unfold cutT
  rw [List.take_length]
theorem wordsT_len {t : Ttl} (h : formedT t = true) (k : Nat) (hk : k ≤ t.chain.length) : (wordsT (cutT t k)).length = 4 + 19 * k := by
  have h2 := chainW_len (t.chain.take k) (List.all_eq_true.2 fun x hx => List.all_eq_true.1 (formedT_parts h).2.2.2.2.2 x (List.mem_of_mem_take hx))
  simp only [wordsT, cutT, List.length_append, h2, List.length_take, List.length_cons, List.length_nil]
  omega
theorem wordsT_short {t : Ttl} (h : formedT t = true) (hN : TNum t) : ∀ w ∈ wordsT t, w.length ≤ 21 := by
  obtain ⟨_, _, _, h4, _, h6⟩ := formedT_parts h
  have hd : ∀ l : List UInt8, isD l = true → l.length ≤ 21 := fun l hl => by
    simp only [isD, Bool.and_eq_true, beq_iff_eq] at hl
    omega
  intro w hw
  rcases List.mem_append.1 hw with hw | hw
  · simp only [List.mem_cons, List.not_mem_nil, or_false] at hw
    rcases hw with rfl | rfl | rfl | rfl
    · exact Lib.itoa_length_le _ hN.s.1 hN.s.2
    · exact Lib.itoa_length_le _ hN.h.1 hN.h.2
    · exact Lib.itoa_length_le _ hN.p.1 hN.p.2
    · exact hd _ h4
  · obtain ⟨x, hx, hw⟩ := List.mem_flatMap.1 hw
    have hx2 := formX_parts (List.all_eq_true.1 h6 x hx)
    rcases List.mem_cons.1 hw with rfl | hw
    · exact hd _ hx2.2.1
    · exact hd _ (List.all_eq_true.1 hx2.2.2 w hw)
end Go.Proofs.YtglgkdbhdjkeaaaGreatDoor
