/-
  Titles and transfers; how they are read. Slices of strings without room may lie anywhere.
-/
import Derived.Test.YtglgkdbhdjkeaaaGreatDoorOwn
import Derived.Test.YtglgkdbhdjkeaaaGreatDoorDigE
namespace Go.Proofs.YtglgkdbhdjkeaaaGreatDoor
open Go.RowKit

/-- A slice of strings; one without room may have any address. -/
def StrsW (w : World) (v : Value) (l : List (List UInt8)) : Prop := Strs w v l ∨ (l = [] ∧ ∃ a, v = .slice a 0 0)
theorem StrsW.fr {w w' : World} {v : Value} {l : List (List UInt8)} (h : StrsW w v l) (hf : Fr [] w w') : StrsW w' v l := by
  rcases h with h | h
  · exact Or.inl (h.fr0 hf)
  · exact Or.inr h
theorem StrsW.strong {w : World} {v : Value} {l : List (List UInt8)} (h : StrsW w v l) (hl : l ≠ []) : Strs w v l := h.resolve_right (fun h => hl h.1)
theorem StrsW.form {w : World} {v : Value} {l : List (List UInt8)} (h : StrsW w v l) : ∃ a cap, v = .slice a l.length cap ∧ l.length ≤ cap ∧ cap ≤ 9223372036854775807 ∧ (∀ i, i < l.length → ∃ b off, a = some ⟨b, off, none⟩) := by
  rcases h with (⟨rfl, rfl⟩ | ⟨b, off, cap, rfl, h1, h2, _, _⟩) | ⟨rfl, a, rfl⟩
  · exact ⟨none, 0, rfl, by simp, by simp, fun i hi => absurd hi (by simp)⟩
  · exact ⟨_, cap, rfl, h1, h2, fun i hi => ⟨b, off, rfl⟩⟩
  · exact ⟨a, 0, rfl, by simp, by simp, fun i hi => absurd hi (by simp)⟩
theorem StrsW.cell {w : World} {b off n cap : Nat} {l : List (List UInt8)} (h : StrsW w (.slice (some ⟨b, off, none⟩) n cap) l) (i : Nat) (hi : i < l.length) : w.cell? ⟨b, off + i, none⟩ = some (.string ⟨(l.getD i []).toArray⟩) := by
  rcases h with h | ⟨rfl, _⟩
  · rcases h with ⟨h, _⟩ | ⟨b', off', cap', hv, _, _, _, h4⟩
    · cases h
    · cases hv; exact h4 i hi
  · exact absurd hi (by simp)

/-- A transfer: the new key, the signature. -/
structure Trf where
  nk : List UInt8
  sig : List (List UInt8)
deriving DecidableEq
instance : Inhabited Trf := ⟨⟨[], []⟩⟩
/-- A title. -/
structure Ttl where
  serial : Int
  shw : Int
  place : Int
  first : List UInt8
  chain : List Trf
deriving DecidableEq
/-- A slice of transfers. -/
def Trs (w : World) (v : Value) (l : List Trf) : Prop :=
  (l = [] ∧ ∃ a, v = .slice a 0 0) ∨ ∃ b off cap, v = .slice (some ⟨b, off, none⟩) l.length cap ∧ l.length ≤ cap ∧ cap ≤ 9223372036854775807 ∧ b < w.heap.size ∧
    ∀ (i : Nat) (x : Trf), l[i]? = some x → w.cell? ⟨b, off + i * 2, none⟩ = some (.string ⟨x.nk.toArray⟩) ∧ ∃ u, w.cell? ⟨b, off + i * 2 + 1, none⟩ = some u ∧ StrsW w u x.sig
theorem Trs.fr {w w' : World} {v : Value} {l : List Trf} (h : Trs w v l) (hf : Fr [] w w') : Trs w' v l := by
  rcases h with h | ⟨b, off, cap, hv, h1, h2, h3, h4⟩
  · exact Or.inl h
  · exact Or.inr ⟨b, off, cap, hv, h1, h2, Nat.lt_of_lt_of_le h3 hf.size, fun i x hx => ⟨hf.cell (h4 i x hx).1 (by simp), let ⟨u, hu, hs⟩ := (h4 i x hx).2; ⟨u, hf.cell hu (by simp), hs.fr hf⟩⟩⟩
theorem Trs.form {w : World} {v : Value} {l : List Trf} (h : Trs w v l) : ∃ a cap, v = .slice a l.length cap ∧ l.length ≤ cap ∧ cap ≤ 9223372036854775807 ∧ (∀ i, i < l.length → ∃ b off, a = some ⟨b, off, none⟩) := by
  rcases h with ⟨rfl, a, rfl⟩ | ⟨b, off, cap, rfl, h1, h2, _, _⟩
  · exact ⟨a, 0, rfl, by simp, by simp, fun i hi => absurd hi (by simp)⟩
  · exact ⟨_, cap, rfl, h1, h2, fun i hi => ⟨b, off, rfl⟩⟩
theorem Trs.cells {w : World} {b off n cap : Nat} {l : List Trf} (h : Trs w (.slice (some ⟨b, off, none⟩) n cap) l) (i : Nat) (x : Trf) (hx : l[i]? = some x) :
    w.cell? ⟨b, off + i * 2, none⟩ = some (.string ⟨x.nk.toArray⟩) ∧ ∃ u, w.cell? ⟨b, off + i * 2 + 1, none⟩ = some u ∧ StrsW w u x.sig := by
  rcases h with ⟨rfl, _⟩ | ⟨b', off', cap', hv, _, _, _, h4⟩
  · simp at hx
  · cases hv; exact h4 i x hx
theorem Trs.take {w : World} {a : Option Addr} {cap : Nat} {l : List Trf} (h : Trs w (.slice a l.length cap) l) (k : Nat) (hk : k ≤ l.length) : Trs w (.slice a k cap) (l.take k) := by
  rcases h with ⟨rfl, a', hv⟩ | ⟨b, off, cap', hv, h1, h2, h3, h4⟩
  · cases hv
    obtain rfl : k = 0 := by simpa using hk
    exact Or.inl ⟨rfl, _, rfl⟩
  · cases hv
    refine Or.inr ⟨b, off, cap, by rw [List.length_take, Nat.min_eq_left hk], by rw [List.length_take]; omega, h2, h3, fun i x hx => h4 i x ?_⟩
    rw [List.getElem?_take] at hx
    split at hx
    · exact hx
    · cases hx
theorem Trs.nil (w : World) : Trs w (.slice none 0 0) [] := Or.inl ⟨rfl, none, rfl⟩
/-- The five cells of a title. -/
def ttlC (t : Ttl) (cv : Value) : Array Value := #[.int .i64 t.serial, .int .i64 t.shw, .int .i64 t.place, .string ⟨t.first.toArray⟩, cv]
/-- A value reads as a title. -/
def TtlR (w : World) (v : Value) (t : Ttl) : Prop := ∃ cv, v = .agg #[.int .i64 t.serial, .int .i64 t.shw, .int .i64 t.place, .string ⟨t.first.toArray⟩, cv] ∧ Trs w cv t.chain
theorem TtlR.fr {w w' : World} {v : Value} {t : Ttl} (h : TtlR w v t) (hf : Fr [] w w') : TtlR w' v t := let ⟨cv, h1, h2⟩ := h; ⟨cv, h1, h2.fr hf⟩
/-- The numbers of a title are numbers of Go. -/
structure TNum (t : Ttl) : Prop where
  s : -9223372036854775808 ≤ t.serial ∧ t.serial ≤ 9223372036854775807
  h : -9223372036854775808 ≤ t.shw ∧ t.shw ≤ 9223372036854775807
  p : -9223372036854775808 ≤ t.place ∧ t.place ≤ 9223372036854775807
/-- A title of moderate size. -/
structure TSmall (t : Ttl) : Prop extends TNum t where
  f : t.first.length ≤ 100000
  n : t.chain.length ≤ 1000
  c : ∀ x ∈ t.chain, x.nk.length ≤ 100000 ∧ x.sig.length ≤ 1000 ∧ ∀ s ∈ x.sig, s.length ≤ 100000
/-- The title without its later transfers. -/
def cutT (t : Ttl) (k : Nat) : Ttl := { t with chain := t.chain.take k }
theorem TSmall.cut {t : Ttl} (h : TSmall t) (k : Nat) : TSmall (cutT t k) :=
  ⟨⟨h.s, h.h, h.p⟩, h.f, by unfold cutT; rw [List.length_take]; have := h.n; omega, fun x hx => h.c x (List.mem_of_mem_take hx)⟩
def formX (x : Trf) : Bool := decide (x.sig.length = 18) && isD x.nk && x.sig.all isD
/-- Is a title well-formed? -/
def formedT (t : Ttl) : Bool :=
  decide (0 ≤ t.shw ∧ t.shw < 20) && decide (1 ≤ t.serial - (t.shw + 1) * 10000 ∧ t.serial - (t.shw + 1) * 10000 ≤ 9999) && decide (-1 ≤ t.place ∧ t.place < 4000) && isD t.first && decide (t.chain.length ≤ 50) && t.chain.all formX
theorem formedT_parts {t : Ttl} (h : formedT t = true) : (0 ≤ t.shw ∧ t.shw < 20) ∧ (1 ≤ t.serial - (t.shw + 1) * 10000 ∧ t.serial - (t.shw + 1) * 10000 ≤ 9999) ∧ (-1 ≤ t.place ∧ t.place < 4000) ∧ isD t.first = true ∧ t.chain.length ≤ 50 ∧ t.chain.all formX = true := by
  unfold formedT at h
  simp only [Bool.and_eq_true, decide_eq_true_eq] at h
  obtain ⟨⟨⟨⟨⟨h1, h2⟩, h3⟩, h4⟩, h5⟩, h6⟩ := h
  exact ⟨h1, h2, h3, h4, h5, h6⟩
theorem formX_parts {x : Trf} (h : formX x = true) : x.sig.length = 18 ∧ isD x.nk = true ∧ x.sig.all isD = true := by
  unfold formX at h
  simp only [Bool.and_eq_true, decide_eq_true_eq] at h
  exact ⟨h.1.1, h.1.2, h.2⟩
theorem formedT_no {t : Ttl} (h : ¬ ((0 ≤ t.shw ∧ t.shw < 20) ∧ (1 ≤ t.serial - (t.shw + 1) * 10000 ∧ t.serial - (t.shw + 1) * 10000 ≤ 9999) ∧ (-1 ≤ t.place ∧ t.place < 4000) ∧ isD t.first = true ∧ t.chain.length ≤ 50 ∧ t.chain.all formX = true)) : formedT t = false := by
  cases hf : formedT t with
  | false => rfl
  | true => exact absurd (formedT_parts hf) h
theorem formedT_yes {t : Ttl} (h : (0 ≤ t.shw ∧ t.shw < 20) ∧ (1 ≤ t.serial - (t.shw + 1) * 10000 ∧ t.serial - (t.shw + 1) * 10000 ≤ 9999) ∧ (-1 ≤ t.place ∧ t.place < 4000) ∧ isD t.first = true ∧ t.chain.length ≤ 50 ∧ t.chain.all formX = true) : formedT t = true := by
  unfold formedT
  simp only [Bool.and_eq_true, decide_eq_true_eq]
  exact ⟨⟨⟨⟨⟨h.1, h.2.1⟩, h.2.2.1⟩, h.2.2.2.1⟩, h.2.2.2.2.1⟩, h.2.2.2.2.2⟩
/-- The strings of a message. -/
def fieldsT (t : Ttl) (tk : List UInt8) : List (List UInt8) := [Lib.itoa t.serial, Lib.itoa t.shw, t.first] ++ t.chain.map (·.nk) ++ [tk]
def msgT (t : Ttl) (tk : List UInt8) : List UInt8 := dlist (fieldsT t tk)
def ownerT (t : Ttl) : List UInt8 := match t.chain.getLast? with
  | some x => x.nk
  | none => t.first
def usedT (t : Ttl) (key : List UInt8) : Bool := t.first == key || t.chain.any fun x => x.nk == key
end Go.Proofs.YtglgkdbhdjkeaaaGreatDoor
