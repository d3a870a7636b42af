/-
  Plain law: the texts of filters; they are read back in one way alone.
-/
import Derived.Test.YtffldampcbfgjaaGreatDoorPlnFk
import Derived.Test.YtffldampcbfgjaaGreatDoorPlnNm
namespace Go.Proofs.YtffldampcbfgjaaGreatDoor
open Go.RowKit

/-- The words of a filter's text. -/
def wordsF (f : Flt) : List (List UInt8) := Lib.itoa f.bits :: Lib.itoa f.hashes :: f.words.map hexS
/-- The text of a filter. -/
def textF (f : Flt) : List UInt8 := if validF f then spS (wordsF f) else []
theorem Flt.ext' {a b : Flt} (h1 : a.bits = b.bits) (h2 : a.hashes = b.hashes) (h3 : a.words = b.words) : a = b := by
  cases a; cases b; simp only at h1 h2 h3; subst h1 h2 h3; rfl
theorem wordsF_word (f : Flt) : ∀ w ∈ wordsF f, (32 : UInt8) ∉ w := by
  intro w hw
  unfold wordsF at hw
  rcases List.mem_cons.1 hw with rfl | hw
  · exact itoa_word _
  rcases List.mem_cons.1 hw with rfl | hw
  · exact itoa_word _
  obtain ⟨x, _, rfl⟩ := List.mem_map.1 hw
  exact hex_word (hexS_hex x)
theorem wordsF_ne (f : Flt) : wordsF f ≠ [] := by simp [wordsF]
theorem spS_cons2 (w v : List UInt8) (ws : List (List UInt8)) : spS (w :: v :: ws) = w ++ 32 :: spS (v :: ws) := rfl
theorem textF_ne {f : Flt} (h : validF f = true) : textF f ≠ [] := by
  unfold textF wordsF
  rw [if_pos h, spS_cons2]
  simp
theorem textF_nil {f : Flt} (h : validF f = false) : textF f = [] := by
  unfold textF
  rw [h]; rfl
theorem textF_split {f : Flt} (h : validF f = true) : splitS (textF f) = wordsF f := by
  unfold textF
  rw [if_pos h, split_sp _ (wordsF_ne f) (wordsF_word f)]
theorem hexS_back : ∀ {l : List Nat}, W64 l → (l.map hexS).map hexV = l
  | [], _ => rfl
  | x :: l, h => by
    have h1 : x < 2 ^ 64 := h x (List.mem_cons_self ..)
    have h2 : (2 : Nat) ^ 64 = 18446744073709551616 := by decide
    rw [h2] at h1
    rw [List.map_cons, List.map_cons, hexV_hexS x h1, hexS_back (fun y hy => h y (List.mem_cons_of_mem _ hy))]
theorem textF_inj {a b : Flt} (ha : validF a = true) (hb : validF b = true) (wa : W64 a.words) (wb : W64 b.words) (h : textF a = textF b) : a = b := by
  have h1 : wordsF a = wordsF b := by rw [← textF_split ha, ← textF_split hb, h]
  unfold wordsF at h1
  simp only [List.cons.injEq] at h1
  refine Flt.ext' (itoa_inj h1.1) (itoa_inj h1.2.1) ?_
  rw [← hexS_back wa, ← hexS_back wb, h1.2.2]
/-- A text is that of a filter. -/
def IsTextF (text : List UInt8) (f : Flt) : Prop := validF f = true ∧ W64 f.words ∧ textF f = text
/-- What is read from a text. -/
def ParsedF (text : List UInt8) (o : Option Flt) : Prop := ∀ f, o = some f ↔ IsTextF text f
theorem ParsedF.eq {text : List UInt8} {o p : Option Flt} (h : ParsedF text o) (k : ParsedF text p) : o = p := by
  cases o with
  | none =>
    cases p with
    | none => rfl
    | some f => exact (h f).2 ((k f).1 rfl)
  | some f => exact ((k f).2 ((h f).1 rfl)).symm
theorem parsed_some {text : List UInt8} {f : Flt} (h : IsTextF text f) : ParsedF text (some f) := fun g => by
  constructor
  · intro e; cases e; exact h
  · intro k
    rw [textF_inj h.1 k.1 h.2.1 k.2.1 (h.2.2.trans k.2.2.symm)]
theorem parsed_none {text : List UInt8} (h : ∀ f, ¬ IsTextF text f) : ParsedF text none := fun g => by
  constructor
  · intro e; cases e
  · intro k; exact absurd k (h g)
/-- The filter that the words of a text stand for, where they are the words of a filter. -/
theorem parsed_of {text : List UInt8} {f : Flt} (hw : W64 f.words) (h : ∀ g, IsTextF text g → f = g) : ParsedF text (if textF f = text ∧ text ≠ [] then some f else none) := by
  split
  · rename_i hc
    refine parsed_some ⟨?_, hw, hc.1⟩
    cases hv : validF f with
    | true => rfl
    | false => exact absurd (hc.1.symm.trans (textF_nil hv)) hc.2
  · rename_i hc
    refine parsed_none (fun g hg => hc ?_)
    have := h g hg
    subst this
    exact ⟨hg.2.2, by rw [← hg.2.2]; exact textF_ne hg.1⟩
theorem isText_words {text : List UInt8} {g : Flt} (h : IsTextF text g) : splitS text = Lib.itoa g.bits :: Lib.itoa g.hashes :: g.words.map hexS := by
  rw [← h.2.2, textF_split h.1]; rfl
theorem validF_parts {f : Flt} (h : validF f = true) : formF f.bits f.hashes = true ∧ (f.words.length : Int) = f.bits / 64 := by
  unfold validF at h
  simp only [Bool.and_eq_true, decide_eq_true_eq] at h
  exact h
theorem validF_len {f : Flt} (h : validF f = true) : f.words.length ≤ 1024 := by
  obtain ⟨h1, h2⟩ := validF_parts h
  have := formF_parts h1
  omega
end Go.Proofs.YtffldampcbfgjaaGreatDoor
