/-
  Plain law: words between spaces, joined and split (chapters 36, 30).
-/
import Derived.Test.YtglgkdbhdjkeaaaGreatDoorBase
namespace Go.Proofs.YtglgkdbhdjkeaaaGreatDoor
open Go.RowKit

/-- The words of a text, between its spaces. -/
def splitS : List UInt8 → List (List UInt8)
  | [] => [[]]
  | c :: t => if c = 32 then [] :: splitS t else match splitS t with
    | [] => [[c]]
    | w :: ws => (c :: w) :: ws
/-- Words with a space between them. -/
def spS : List (List UInt8) → List UInt8
  | [] => []
  | [w] => w
  | w :: v :: ws => w ++ 32 :: spS (v :: ws)
theorem splitS_ne (l : List UInt8) : splitS l ≠ [] := by
  cases l with
  | nil => simp [splitS]
  | cons c t =>
    unfold splitS
    split
    · simp
    · split <;> simp
theorem sp_split (l : List UInt8) : spS (splitS l) = l := by
  induction l with
  | nil => rfl
  | cons c t ih =>
    unfold splitS
    split
    · rename_i h
      obtain ⟨w, ws, hw⟩ := List.exists_cons_of_ne_nil (splitS_ne t)
      rw [hw] at ih ⊢
      simp [spS, ih, h]
    · obtain ⟨w, ws, hw⟩ := List.exists_cons_of_ne_nil (splitS_ne t)
      rw [hw] at ih ⊢
      simp only
      cases ws with
      | nil => simpa [spS] using ih
      | cons v vs => simpa [spS] using ih
theorem split_app (w : List UInt8) (h : (32 : UInt8) ∉ w) (t : List UInt8) : splitS (w ++ 32 :: t) = w :: splitS t := by
  induction w with
  | nil => simp [splitS]
  | cons c w ih =>
    have h1 : c ≠ 32 := fun e => h (by simp [e])
    have h2 : (32 : UInt8) ∉ w := fun e => h (by simp [e])
    rw [List.cons_append]
    conv => lhs; unfold splitS
    rw [if_neg h1, ih h2]
theorem split_one (w : List UInt8) (h : (32 : UInt8) ∉ w) : splitS w = [w] := by
  induction w with
  | nil => rfl
  | cons c w ih =>
    have h1 : c ≠ 32 := fun e => h (by simp [e])
    have h2 : (32 : UInt8) ∉ w := fun e => h (by simp [e])
    conv => lhs; unfold splitS
    rw [if_neg h1, ih h2]
theorem split_sp : ∀ (ws : List (List UInt8)), ws ≠ [] → (∀ w ∈ ws, (32 : UInt8) ∉ w) → splitS (spS ws) = ws
  | [], h, _ => absurd rfl h
  | [w], _, h => split_one w (h w (by simp))
  | w :: v :: ws, _, h => by
    rw [show spS (w :: v :: ws) = w ++ 32 :: spS (v :: ws) from rfl, split_app w (h w (by simp)), split_sp (v :: ws) (by simp) (fun x hx => h x (List.mem_cons_of_mem _ hx))]
theorem spS_inj {a b : List (List UInt8)} (ha : a ≠ []) (hb : b ≠ []) (h1 : ∀ w ∈ a, (32 : UInt8) ∉ w) (h2 : ∀ w ∈ b, (32 : UInt8) ∉ w) (h : spS a = spS b) : a = b := by
  rw [← split_sp a ha h1, ← split_sp b hb h2, h]
end Go.Proofs.YtglgkdbhdjkeaaaGreatDoor
