/-
  Plain law: the texts of titles; they are read back in one way alone.
-/
import Derived.Test.YtennhdgnpodkaaaGreatDoorPlnTt
import Derived.Test.YtennhdgnpodkaaaGreatDoorPlnSp
namespace Go.Proofs.YtennhdgnpodkaaaGreatDoor
open Go.RowKit

/-- The words of a title's text. -/
def chainW (l : List Trf) : List (List UInt8) := l.flatMap fun x => x.nk :: x.sig
def wordsT (t : Ttl) : List (List UInt8) := [Lib.itoa t.serial, Lib.itoa t.shw, Lib.itoa t.place, t.first] ++ chainW t.chain
/-- The text of a title. -/
def textT (t : Ttl) : List UInt8 := if formedT t then spS (wordsT t) else []
theorem isD_word {l : List UInt8} (h : isD l = true) : (32 : UInt8) ∉ l := by
  simp only [isD, Bool.and_eq_true] at h
  exact hex_word h.2
theorem wordsT_word {t : Ttl} (h : formedT t = true) : ∀ w ∈ wordsT t, (32 : UInt8) ∉ w := by
  obtain ⟨_, _, _, h4, _, h6⟩ := formedT_parts h
  intro w hw
  rcases List.mem_append.1 hw with hw | hw
  · simp only [List.mem_cons, List.not_mem_nil, or_false] at hw
    rcases hw with rfl | rfl | rfl | rfl
    · exact itoa_word _
    · exact itoa_word _
    · exact itoa_word _
    · exact isD_word h4
  · obtain ⟨x, hx, hw⟩ := List.mem_flatMap.1 hw
    have hx2 := formX_parts (List.all_eq_true.1 h6 x hx)
    rcases List.mem_cons.1 hw with rfl | hw
    · exact isD_word hx2.2.1
    · exact isD_word (List.all_eq_true.1 hx2.2.2 w hw)
theorem wordsT_ne (t : Ttl) : wordsT t ≠ [] := by simp [wordsT]
theorem textT_split {t : Ttl} (h : formedT t = true) : splitS (textT t) = wordsT t := by
  unfold textT
  rw [if_pos h, split_sp _ (wordsT_ne t) (wordsT_word h)]
theorem textT_ne {t : Ttl} (h : formedT t = true) : textT t ≠ [] := by
  intro h0
  have h1 := textT_split h
  rw [h0] at h1
  have := congrArg List.length h1
  simp [splitS, wordsT] at this
theorem textT_nil {t : Ttl} (h : formedT t = false) : textT t = [] := by
  unfold textT
  rw [h]; rfl
/-- The transfers that some words stand for. -/
def grpT (ws : List (List UInt8)) (n : Nat) : List Trf := (List.range n).map fun i => ⟨ws.getD (19 * i) [], (ws.drop (19 * i + 1)).take 18⟩
theorem chainW_len : ∀ (l : List Trf), l.all formX = true → (chainW l).length = 19 * l.length
  | [], _ => rfl
  | x :: l, h => by
    rw [List.all_cons, Bool.and_eq_true] at h
    have h1 := (formX_parts h.1).1
    have h2 := chainW_len l h.2
    unfold chainW at h2 ⊢
    rw [List.flatMap_cons, List.length_append, h2, List.length_cons, h1, List.length_cons]
    omega
theorem chainW_at : ∀ (l : List Trf) (i : Nat), l.all formX = true → (h : i < l.length) → (⟨(chainW l).getD (19 * i) [], ((chainW l).drop (19 * i + 1)).take 18⟩ : Trf) = l[i]
  | [], i, _, h => absurd h (by simp)
  | x :: l, 0, hf, _ => by
    rw [List.all_cons, Bool.and_eq_true] at hf
    have h1 := (formX_parts hf.1).1
    unfold chainW
    rw [List.flatMap_cons]
    simp only [Nat.mul_zero, Nat.zero_add, List.cons_append, List.drop_succ_cons, List.drop_zero, List.getElem_cons_zero]
    rw [List.take_append_of_le_length (by omega), List.take_of_length_le (by omega)]
    rfl
  | x :: l, i + 1, hf, h => by
    rw [List.all_cons, Bool.and_eq_true] at hf
    have h1 := (formX_parts hf.1).1
    have ih := chainW_at l i hf.2 (by simpa using h)
    have e1 : (chainW (x :: l)).drop 19 = chainW l := by
      unfold chainW
      rw [List.flatMap_cons, List.drop_append, List.drop_eq_nil_of_le (by rw [List.length_cons]; omega), List.nil_append, List.length_cons, h1]
      rfl
    have e2 : (chainW (x :: l)).getD (19 * (i + 1)) [] = (chainW l).getD (19 * i) [] := by
      rw [← e1, List.getD_eq_getElem?_getD, List.getD_eq_getElem?_getD, List.getElem?_drop]
      congr 2
      omega
    have e3 : (chainW (x :: l)).drop (19 * (i + 1) + 1) = (chainW l).drop (19 * i + 1) := by
      rw [← e1, List.drop_drop]
      congr 1
      omega
    rw [e2, e3, ih]
    rfl
theorem grpT_chain {l : List Trf} (h : l.all formX = true) : grpT (chainW l) l.length = l := by
  refine List.ext_getElem (by simp [grpT]) (fun i h1 h2 => ?_)
  simp only [grpT, List.getElem_map, List.getElem_range]
  exact chainW_at l i h h2
theorem textT_inj {a b : Ttl} (ha : formedT a = true) (hb : formedT b = true) (h : textT a = textT b) : a = b := by
  have h1 : wordsT a = wordsT b := by rw [← textT_split ha, ← textT_split hb, h]
  unfold wordsT at h1
  simp only [List.cons_append, List.nil_append, List.cons.injEq] at h1
  obtain ⟨e1, e2, e3, e4, e5⟩ := h1
  obtain ⟨_, _, _, _, _, fa⟩ := formedT_parts ha
  obtain ⟨_, _, _, _, _, fb⟩ := formedT_parts hb
  have hl : a.chain.length = b.chain.length := by
    have := congrArg List.length e5
    rw [chainW_len _ fa, chainW_len _ fb] at this
    omega
  have hc : a.chain = b.chain := by rw [← grpT_chain fa, ← grpT_chain fb, e5, hl]
  have f1 := itoa_inj e1
  have f2 := itoa_inj e2
  have f3 := itoa_inj e3
  clear e1 e2 e3 e5 hl fa fb ha hb h
  cases a; cases b
  simp only at f1 f2 f3 e4 hc
  subst f1 f2 f3 e4 hc
  rfl
/-- A text is that of a title. -/
def IsTextT (text : List UInt8) (t : Ttl) : Prop := formedT t = true ∧ textT t = text
/-- What is read from a text. -/
def ParsedT (text : List UInt8) (o : Option Ttl) : Prop := ∀ t, o = some t ↔ IsTextT text t
theorem ParsedT.eq {text : List UInt8} {o p : Option Ttl} (h : ParsedT text o) (k : ParsedT text p) : o = p := by
  cases o with
  | none =>
    cases p with
    | none => rfl
    | some f => exact (h f).2 ((k f).1 rfl)
  | some f => exact ((k f).2 ((h f).1 rfl)).symm
theorem parsedT_of {text : List UInt8} {t : Ttl} (h : ∀ g, IsTextT text g → t = g) : ParsedT text (if textT t = text ∧ text ≠ [] then some t else none) := by
  intro g
  split
  · rename_i hc
    have hf : formedT t = true := by
      cases hv : formedT t with
      | true => rfl
      | false => exact absurd (hc.1.symm.trans (textT_nil hv)) hc.2
    constructor
    · intro e; cases e; exact ⟨hf, hc.1⟩
    · intro k; rw [h g k]
  · rename_i hc
    constructor
    · intro e; cases e
    · intro k
      have := h g k
      subst this
      exact absurd ⟨k.2, by rw [← k.2]; exact textT_ne k.1⟩ hc
theorem isTextT_words {text : List UInt8} {g : Ttl} (h : IsTextT text g) : splitS text = wordsT g := by
  rw [← h.2, textT_split h.1]
/-- The title that the words of a text stand for, where they are those of a title. -/
theorem grpT_text {text : List UInt8} {g : Ttl} (h : IsTextT text g) : ∃ a b c d ws, splitS text = a :: b :: c :: d :: ws ∧ a = Lib.itoa g.serial ∧ b = Lib.itoa g.shw ∧ c = Lib.itoa g.place ∧ d = g.first ∧ ws.length = 19 * g.chain.length ∧ grpT ws g.chain.length = g.chain :=
  ⟨_, _, _, _, chainW g.chain, isTextT_words h, rfl, rfl, rfl, rfl, chainW_len _ (formedT_parts h.1).2.2.2.2.2, grpT_chain (formedT_parts h.1).2.2.2.2.2⟩
end Go.Proofs.YtennhdgnpodkaaaGreatDoor
