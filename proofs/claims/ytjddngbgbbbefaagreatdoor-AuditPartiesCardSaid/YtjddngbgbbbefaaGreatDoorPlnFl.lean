/-
  Plain law of filters (chapter 36): words as numbers, their bits, setting, joining, counting.
  What filters are: forms, positions, the words of serial numbers.
  Plain law: the texts of filters; they are read back in one way alone.
  filter.form, filter.valid, filter.positions.
  filter.valid; the iterator over the positions of a serial number.
  The iterator over the positions of a serial number.
  Slices of words that the call has made; append to them; a cell of them is set.
  filter.Make: the closure that sets a bit.
  A slice of ints, read.
  filter.Make.
  filter.Has.
-/
import Derived.Test.YtjddngbgbbbefaaGreatDoorBase
import Derived.Test.YtjddngbgbbbefaaGreatDoorPlnHv
import Derived.Lib.ItoaLen
import Derived.Test.YtjddngbgbbbefaaGreatDoorOwn
import Derived.Test.YtjddngbgbbbefaaGreatDoorItI
import Derived.Test.YtjddngbgbbbefaaGreatDoorMrk
import Derived.BigRegion
import Derived.Laws.EntriesVeiled
namespace Go.Proofs.YtjddngbgbbbefaaGreatDoor
open Go.RowKit

def bitW (W : List Nat) (n : Nat) : Bool := (W.getD (n / 64) 0).testBit (n % 64)
def setW (W : List Nat) (n : Nat) : List Nat := W.set (n / 64) (W.getD (n / 64) 0 ||| 2 ^ (n % 64))
def W64 (W : List Nat) : Prop := ∀ x ∈ W, x < 2 ^ 64
theorem W64.at {W : List Nat} (h : W64 W) (i : Nat) : W.getD i 0 < 2 ^ 64 := by
  by_cases hi : i < W.length
  · exact h _ (getD_mem W i 0 hi)
  · rw [List.getD_eq_getElem?_getD, List.getElem?_eq_none (by omega)]; decide
theorem setW_len (W : List Nat) (n : Nat) : (setW W n).length = W.length := by simp [setW]
theorem setW_lt {W : List Nat} {n : Nat} (h : W64 W) : W64 (setW W n) := by
  intro x hx
  rcases List.mem_or_eq_of_mem_set hx with h1 | h1
  · exact h x h1
  · rw [h1]
    exact Nat.or_lt_two_pow (h.at _) (Nat.pow_lt_pow_right (by decide) (Nat.mod_lt _ (by decide)))
theorem setW_bit {W : List Nat} {n : Nat} (hn : n / 64 < W.length) (m : Nat) : bitW (setW W n) m = (bitW W m || decide (m = n)) := by
  unfold bitW setW
  rw [List.getD_eq_getElem?_getD, List.getElem?_set]
  by_cases h : n / 64 = m / 64
  · rw [if_pos h, if_pos (by omega), Option.getD_some, Nat.testBit_or, Nat.testBit_two_pow, h]
    congr 1
    rw [decide_eq_decide]
    omega
  · rw [if_neg h, ← List.getD_eq_getElem?_getD, decide_eq_false (by rintro rfl; exact h rfl), Bool.or_false]
theorem bits_ext {A B : List Nat} (ha : W64 A) (hb : W64 B) (hl : A.length = B.length) (h : ∀ n, n < 64 * A.length → bitW A n = bitW B n) : A = B := by
  refine List.ext_getElem hl (fun i h1 h2 => ?_)
  refine Nat.eq_of_testBit_eq (fun j => ?_)
  by_cases hj : j < 64
  · have := h (64 * i + j) (by omega)
    unfold bitW at this
    rw [show (64 * i + j) / 64 = i by omega, show (64 * i + j) % 64 = j by omega] at this
    simpa [List.getD_eq_getElem?_getD, h1, h2] using this
  · have e : ∀ x : Nat, x < 2 ^ 64 → x.testBit j = false := fun x hx => Nat.testBit_lt_two_pow (Nat.lt_of_lt_of_le hx (Nat.pow_le_pow_right (by decide) (by omega)))
    rw [e _ (ha _ (List.getElem_mem h1)), e _ (hb _ (List.getElem_mem h2))]
/-- Several bits are set. -/
def setsW (W : List Nat) (ns : List Nat) : List Nat := ns.foldl setW W
theorem setsW_len : ∀ (ns W : List Nat), (setsW W ns).length = W.length
  | [], _ => rfl
  | n :: ns, W => by rw [show setsW W (n :: ns) = setsW (setW W n) ns from rfl, setsW_len, setW_len]
theorem setsW_lt : ∀ (ns W : List Nat), W64 W → W64 (setsW W ns)
  | [], _, h => h
  | n :: ns, W, h => setsW_lt ns (setW W n) (setW_lt h)
theorem setsW_app (W a b : List Nat) : setsW W (a ++ b) = setsW (setsW W a) b := List.foldl_append
theorem setsW_bit : ∀ (ns W : List Nat), (∀ n ∈ ns, n / 64 < W.length) → ∀ m, bitW (setsW W ns) m = (bitW W m || ns.contains m)
  | [], W, _, m => by simp [setsW]
  | n :: ns, W, h, m => by
    rw [show setsW W (n :: ns) = setsW (setW W n) ns from rfl, setsW_bit ns (setW W n) (fun k hk => by rw [setW_len]; exact h k (by simp [hk])), setW_bit (h n (by simp)), List.contains_cons, Bool.or_assoc]
    congr 1
theorem zeros_bit (k m : Nat) : bitW (List.replicate k 0) m = false := by
  unfold bitW
  have : (List.replicate k 0).getD (m / 64) 0 = 0 := by
    rw [List.getD_eq_getElem?_getD]
    by_cases h : m / 64 < k
    · simp [h]
    · rw [List.getElem?_eq_none (by simpa using h)]; rfl
  rw [this, Nat.zero_testBit]
theorem zeros_lt (k : Nat) : W64 (List.replicate k 0) := by
  intro x hx
  rw [(List.mem_replicate.1 hx).2]; decide
/-- The words of both. -/
def joinW (A B : List Nat) : List Nat := List.zipWith (· ||| ·) A B
theorem joinW_len (A B : List Nat) (h : A.length = B.length) : (joinW A B).length = A.length := by simp [joinW, h]
theorem joinW_at {A B : List Nat} (h : A.length = B.length) (i : Nat) : (joinW A B).getD i 0 = A.getD i 0 ||| B.getD i 0 := by
  unfold joinW
  by_cases hi : i < A.length
  · simp [List.getD_eq_getElem?_getD, List.getElem?_zipWith, hi, h ▸ hi]
  · simp [List.getD_eq_getElem?_getD, List.getElem?_zipWith, List.getElem?_eq_none (show A.length ≤ i by omega), List.getElem?_eq_none (show B.length ≤ i by omega)]
theorem joinW_bit {A B : List Nat} (h : A.length = B.length) (m : Nat) : bitW (joinW A B) m = (bitW A m || bitW B m) := by
  unfold bitW
  rw [joinW_at h, Nat.testBit_or]
theorem joinW_lt {A B : List Nat} (ha : W64 A) (hb : W64 B) (h : A.length = B.length) : W64 (joinW A B) := by
  intro x hx
  obtain ⟨i, hi, rfl⟩ := List.getElem_of_mem hx
  have := joinW_at h i
  rw [List.getD_eq_getElem?_getD, List.getElem?_eq_getElem hi, Option.getD_some] at this
  rw [this]
  exact Nat.or_lt_two_pow (ha.at i) (hb.at i)
theorem sets_ext {k : Nat} {a b : List Nat} (ha : ∀ n ∈ a, n / 64 < k) (hb : ∀ n ∈ b, n / 64 < k) (h : ∀ n, n ∈ a ↔ n ∈ b) : setsW (List.replicate k 0) a = setsW (List.replicate k 0) b := by
  refine bits_ext (setsW_lt _ _ (zeros_lt k)) (setsW_lt _ _ (zeros_lt k)) (by rw [setsW_len, setsW_len]) (fun n _ => ?_)
  rw [setsW_bit _ _ (by simpa using ha), setsW_bit _ _ (by simpa using hb)]
  congr 1
  rw [Bool.eq_iff_iff]
  simpa using h n
theorem sets_join {k : Nat} {a b : List Nat} (ha : ∀ n ∈ a, n / 64 < k) (hb : ∀ n ∈ b, n / 64 < k) : joinW (setsW (List.replicate k 0) a) (setsW (List.replicate k 0) b) = setsW (List.replicate k 0) (a ++ b) := by
  have hl : (setsW (List.replicate k 0) a).length = (setsW (List.replicate k 0) b).length := by rw [setsW_len, setsW_len]
  refine bits_ext (joinW_lt (setsW_lt _ _ (zeros_lt k)) (setsW_lt _ _ (zeros_lt k)) hl) (setsW_lt _ _ (zeros_lt k)) (by rw [joinW_len _ _ hl, setsW_len, setsW_len]) (fun n _ => ?_)
  rw [joinW_bit hl, setsW_bit _ _ (by simpa using ha), setsW_bit _ _ (by simpa using hb), setsW_bit _ _ (by
    intro n hn
    rw [List.length_replicate]
    rcases List.mem_append.1 hn with h | h
    · exact ha n h
    · exact hb n h), zeros_bit]
  rw [Bool.eq_iff_iff]
  simp
theorem joinW_assoc {A B C : List Nat} (ha : W64 A) (hb : W64 B) (hc : W64 C) (h1 : A.length = B.length) (h2 : B.length = C.length) : joinW (joinW A B) C = joinW A (joinW B C) := by
  have e1 : (joinW A B).length = C.length := by rw [joinW_len _ _ h1]; omega
  have e2 : A.length = (joinW B C).length := by rw [joinW_len _ _ h2]; omega
  refine bits_ext (joinW_lt (joinW_lt ha hb h1) hc e1) (joinW_lt ha (joinW_lt hb hc h2) e2) (by rw [joinW_len _ _ e1, joinW_len _ _ e2, joinW_len _ _ h1]) (fun n _ => ?_)
  rw [joinW_bit e1, joinW_bit h1, joinW_bit e2, joinW_bit h2, Bool.or_assoc]
/-- How many bits are set. -/
def cntW (W : List Nat) : Nat := (List.range (64 * W.length)).countP (bitW W)
theorem count_one (n : Nat) : ∀ N, (List.range N).countP (fun m => decide (m = n)) ≤ 1 ∧ (N ≤ n → (List.range N).countP (fun m => decide (m = n)) = 0) := by
  intro N
  induction N with
  | zero => simp
  | succ N ih =>
    rw [List.range_succ, List.countP_append]
    by_cases h : N = n
    · have := ih.2 (by omega)
      rw [this]
      simp [h]
    · simp only [List.countP_cons, List.countP_nil, decide_eq_false h]
      exact ⟨by simpa using ih.1, fun h2 => by simpa using ih.2 (by omega)⟩
theorem count_or (p q : Nat → Bool) : ∀ l : List Nat, l.countP (fun m => p m || q m) ≤ l.countP p + l.countP q := by
  intro l
  induction l with
  | nil => simp
  | cons a l ih =>
    simp only [List.countP_cons]
    cases p a <;> cases q a <;> simp <;> omega
theorem count_sets (ns : List Nat) (N : Nat) : (List.range N).countP (fun m => ns.contains m) ≤ ns.length := by
  induction ns with
  | nil => simp
  | cons n ns ih =>
    have h1 := count_or (fun m => decide (m = n)) (fun m => ns.contains m) (List.range N)
    have h2 := (count_one n N).1
    have h3 : (List.range N).countP (fun m => (n :: ns).contains m) = (List.range N).countP (fun m => decide (m = n) || ns.contains m) := by
      congr 1
    rw [h3, List.length_cons]
    omega
theorem cnt_sets {k : Nat} {ns : List Nat} (h : ∀ n ∈ ns, n / 64 < k) : cntW (setsW (List.replicate k 0) ns) ≤ ns.length := by
  unfold cntW
  have : (bitW (setsW (List.replicate k 0) ns)) = fun m => ns.contains m := by
    funext m
    rw [setsW_bit _ _ (by simpa using h), zeros_bit, Bool.false_or]
  rw [this]
  exact count_sets ns _
theorem cnt_pos {k : Nat} {ns : List Nat} (h : ∀ n ∈ ns, n / 64 < k) : 0 < cntW (setsW (List.replicate k 0) ns) ↔ ns ≠ [] := by
  unfold cntW
  rw [List.countP_pos_iff]
  constructor
  · rintro ⟨m, _, hm⟩ rfl
    rw [show setsW (List.replicate k 0) [] = List.replicate k 0 from rfl, zeros_bit] at hm
    cases hm
  · intro hne
    obtain ⟨n, ns', rfl⟩ := List.exists_cons_of_ne_nil hne
    have hn := h n (by simp)
    refine ⟨n, by rw [List.mem_range, setsW_len, List.length_replicate]; omega, ?_⟩
    rw [setsW_bit _ _ (by simpa using h), zeros_bit]
    simp
/-- All of some bits are set. -/
def hasW (W ns : List Nat) : Bool := ns.all (bitW W)
end Go.Proofs.YtjddngbgbbbefaaGreatDoor
namespace Go.Proofs.YtjddngbgbbbefaaGreatDoor
open Go.RowKit

/-- Numbers of bits and hashes that are right. -/
def formF (bits hashes : Int) : Bool := decide (64 ≤ bits ∧ bits ≤ 65536 ∧ bits % 64 = 0 ∧ 1 ≤ hashes ∧ hashes ≤ 8)
/-- A filter. -/
structure Flt where
  bits : Int
  hashes : Int
  words : List Nat
def validF (f : Flt) : Bool := formF f.bits f.hashes && decide ((f.words.length : Int) = f.bits / 64)
/-- A position of a serial number. -/
def posF (serial : Int) (bits : Int) (k : Nat) : Nat := (belowS (dlist [Lib.itoa serial, Lib.decDigits k]) bits).toNat
theorem belowS_range (d : List UInt8) {n : Int} (h : 1 ≤ n) : 0 ≤ belowS d n ∧ belowS d n < n := by
  unfold belowS
  split
  · omega
  · exact ⟨Int.emod_nonneg _ (by omega), Int.emod_lt_of_pos _ (by omega)⟩
theorem posF_eq (serial : Int) {bits : Int} (h : 1 ≤ bits) (k : Nat) : belowS (dlist [Lib.itoa serial, Lib.decDigits k]) bits = (posF serial bits k : Int) := by
  have := belowS_range (dlist [Lib.itoa serial, Lib.decDigits k]) h
  unfold posF
  omega
theorem posF_lt (serial : Int) {bits : Int} (h : 1 ≤ bits) (k : Nat) : (posF serial bits k : Int) < bits := by
  rw [← posF_eq serial h k]
  exact (belowS_range _ h).2
/-- The positions of a serial number. -/
def posL (serial bits hashes : Int) : List Nat := (List.range hashes.toNat).map (posF serial bits)
/-- The positions of serial numbers. -/
def posA (serials : List Int) (bits hashes : Int) : List Nat := serials.flatMap fun s => posL s bits hashes
/-- The words of serial numbers. -/
def makeF (serials : List Int) (bits hashes : Int) : List Nat := setsW (List.replicate (bits / 64).toNat 0) (posA serials bits hashes)
theorem posL_len (serial bits hashes : Int) : (posL serial bits hashes).length = hashes.toNat := by simp [posL]
theorem formF_parts {bits hashes : Int} (h : formF bits hashes = true) : 64 ≤ bits ∧ bits ≤ 65536 ∧ bits % 64 = 0 ∧ 1 ≤ hashes ∧ hashes ≤ 8 := of_decide_eq_true h
theorem posL_lt {serial bits hashes : Int} (h : formF bits hashes = true) : ∀ n ∈ posL serial bits hashes, n / 64 < (bits / 64).toNat := by
  intro n hn
  have hf := formF_parts h
  obtain ⟨k, _, rfl⟩ := List.mem_map.1 hn
  have := posF_lt serial (show 1 ≤ bits by omega) k
  omega
theorem posA_lt {serials : List Int} {bits hashes : Int} (h : formF bits hashes = true) : ∀ n ∈ posA serials bits hashes, n / 64 < (bits / 64).toNat := by
  intro n hn
  obtain ⟨s, _, hs⟩ := List.mem_flatMap.1 hn
  exact posL_lt h n hs
theorem makeF_len (serials : List Int) (bits hashes : Int) : (makeF serials bits hashes).length = (bits / 64).toNat := by
  unfold makeF
  rw [setsW_len, List.length_replicate]
theorem makeF_lt (serials : List Int) (bits hashes : Int) : W64 (makeF serials bits hashes) := setsW_lt _ _ (zeros_lt _)
end Go.Proofs.YtjddngbgbbbefaaGreatDoor
namespace Go.Proofs.YtjddngbgbbbefaaGreatDoor
open Go.RowKit

/-- The words of a filter's text. -/
def wordsF (f : Flt) : List (List UInt8) := Lib.itoa f.bits :: Lib.itoa f.hashes :: f.words.map hexS
/-- The text of a filter. -/
def textF (f : Flt) : List UInt8 := if validF f then spS (wordsF f) else []
theorem Flt.ext' {a b : Flt} (h1 : a.bits = b.bits) (h2 : a.hashes = b.hashes) (h3 : a.words = b.words) : a = b := by
  cases a; cases b; simp only at h1 h2 h3; subst h1 h2 h3; rfl
theorem wordsF_word (f : Flt) : ∀ w ∈ wordsF f, (32 : UInt8) ∉ w := by
  intro w hw
  unfold wordsF at hw
  rcases List.mem_cons.1 hw with rfl | hw
  · exact itoa_word _
  rcases List.mem_cons.1 hw with rfl | hw
  · exact itoa_word _
  obtain ⟨x, _, rfl⟩ := List.mem_map.1 hw
  exact hex_word (hexS_hex x)
theorem wordsF_ne (f : Flt) : wordsF f ≠ [] := by simp [wordsF]
theorem spS_cons2 (w v : List UInt8) (ws : List (List UInt8)) : spS (w :: v :: ws) = w ++ 32 :: spS (v :: ws) := rfl
theorem textF_ne {f : Flt} (h : validF f = true) : textF f ≠ [] := by
  unfold textF wordsF
  rw [if_pos h, spS_cons2]
  simp
theorem textF_nil {f : Flt} (h : validF f = false) : textF f = [] := by
  unfold textF
  rw [h]; rfl
theorem textF_split {f : Flt} (h : validF f = true) : splitS (textF f) = wordsF f := by
  unfold textF
  rw [if_pos h, split_sp _ (wordsF_ne f) (wordsF_word f)]
theorem hexS_back : ∀ {l : List Nat}, W64 l → (l.map hexS).map hexV = l
  | [], _ => rfl
  | x :: l, h => by
    have h1 : x < 2 ^ 64 := h x (List.mem_cons_self ..)
    have h2 : (2 : Nat) ^ 64 = 18446744073709551616 := by decide
    rw [h2] at h1
    rw [List.map_cons, List.map_cons, hexV_hexS x h1, hexS_back (fun y hy => h y (List.mem_cons_of_mem _ hy))]
theorem textF_inj {a b : Flt} (ha : validF a = true) (hb : validF b = true) (wa : W64 a.words) (wb : W64 b.words) (h : textF a = textF b) : a = b := by
  have h1 : wordsF a = wordsF b := by rw [← textF_split ha, ← textF_split hb, h]
  unfold wordsF at h1
  simp only [List.cons.injEq] at h1
  refine Flt.ext' (itoa_inj h1.1) (itoa_inj h1.2.1) ?_
  rw [← hexS_back wa, ← hexS_back wb, h1.2.2]
/-- A text is that of a filter. -/
def IsTextF (text : List UInt8) (f : Flt) : Prop := validF f = true ∧ W64 f.words ∧ textF f = text
/-- What is read from a text. -/
def ParsedF (text : List UInt8) (o : Option Flt) : Prop := ∀ f, o = some f ↔ IsTextF text f
theorem ParsedF.eq {text : List UInt8} {o p : Option Flt} (h : ParsedF text o) (k : ParsedF text p) : o = p := by
  cases o with
  | none =>
    cases p with
    | none => rfl
    | some f => exact (h f).2 ((k f).1 rfl)
  | some f => exact ((k f).2 ((h f).1 rfl)).symm
theorem parsed_some {text : List UInt8} {f : Flt} (h : IsTextF text f) : ParsedF text (some f) := fun g => by
  constructor
  · intro e; cases e; exact h
  · intro k
    rw [textF_inj h.1 k.1 h.2.1 k.2.1 (h.2.2.trans k.2.2.symm)]
theorem parsed_none {text : List UInt8} (h : ∀ f, ¬ IsTextF text f) : ParsedF text none := fun g => by
  constructor
  · intro e; cases e
  · intro k; exact absurd k (h g)
/-- The filter that the words of a text stand for, where they are the words of a filter. -/
theorem parsed_of {text : List UInt8} {f : Flt} (hw : W64 f.words) (h : ∀ g, IsTextF text g → f = g) : ParsedF text (if textF f = text ∧ text ≠ [] then some f else none) := by
  split
  · rename_i hc
    refine parsed_some ⟨?_, hw, hc.1⟩
    cases hv : validF f with
    | true => rfl
    | false => exact absurd (hc.1.symm.trans (textF_nil hv)) hc.2
  · rename_i hc
    refine parsed_none (fun g hg => hc ?_)
    have := h g hg
    subst this
    exact ⟨hg.2.2, by rw [← hg.2.2]; exact textF_ne hg.1⟩
theorem isText_words {text : List UInt8} {g : Flt} (h : IsTextF text g) : splitS text = Lib.itoa g.bits :: Lib.itoa g.hashes :: g.words.map hexS := by
  rw [← h.2.2, textF_split h.1]; rfl
theorem validF_parts {f : Flt} (h : validF f = true) : formF f.bits f.hashes = true ∧ (f.words.length : Int) = f.bits / 64 := by
  unfold validF at h
  simp only [Bool.and_eq_true, decide_eq_true_eq] at h
  exact h
theorem validF_len {f : Flt} (h : validF f = true) : f.words.length ≤ 1024 := by
  obtain ⟨h1, h2⟩ := validF_parts h
  have := formF_parts h1
  omega
end Go.Proofs.YtjddngbgbbbefaaGreatDoor
namespace Go.Proofs.YtjddngbgbbbefaaGreatDoor
open Go.RowKit

/-- A slice of words. -/
def Ws (w : World) (v : Value) (l : List Nat) : Prop :=
  (l = [] ∧ ∃ a, v = .slice a 0 0) ∨ ∃ b off cap, v = .slice (some ⟨b, off, none⟩) l.length cap ∧ l.length ≤ cap ∧ cap ≤ 9223372036854775807 ∧ b < w.heap.size ∧
    ∀ i, i < l.length → w.cell? ⟨b, off + i, none⟩ = some (.int .u64 ((l.getD i 0 : Nat) : Int))
theorem Ws.fr0 {w w' : World} {v : Value} {l : List Nat} (h : Ws w v l) (hf : Fr [] w w') : Ws w' v l := by
  rcases h with h | ⟨b, off, cap, hv, h1, h2, h3, h4⟩
  · exact Or.inl h
  · exact Or.inr ⟨b, off, cap, hv, h1, h2, Nat.lt_of_lt_of_le h3 hf.size, fun i hi => hf.cell (h4 i hi) (by simp)⟩
theorem Ws.form {w : World} {v : Value} {l : List Nat} (h : Ws w v l) : ∃ a cap, v = .slice a l.length cap ∧ l.length ≤ cap ∧ cap ≤ 9223372036854775807 ∧ (∀ i, i < l.length → ∃ b off, a = some ⟨b, off, none⟩) := by
  rcases h with ⟨rfl, a, rfl⟩ | ⟨b, off, cap, rfl, h1, h2, _, _⟩
  · exact ⟨a, 0, rfl, by simp, by simp, fun i hi => absurd hi (by simp)⟩
  · exact ⟨_, cap, rfl, h1, h2, fun i hi => ⟨b, off, rfl⟩⟩
/-- A value reads as a filter. -/
def FltR (w : World) (v : Value) (f : Flt) : Prop := ∃ wv, v = .agg #[.int .i64 f.bits, .int .i64 f.hashes, wv] ∧ Ws w wv f.words

end Go.Proofs.YtjddngbgbbbefaaGreatDoor
namespace Go.Proofs.YtjddngbgbbbefaaGreatDoor
open Go.RowKit

end Go.Proofs.YtjddngbgbbbefaaGreatDoor
namespace Go.Proofs.YtjddngbgbbbefaaGreatDoor
open Go.RowKit Go.Shelf
attribute [local go_sem] Oper.semAt_some

theorem joinL_two (a b : List UInt8) (ha : a.length ≤ 21) (hb : b.length ≤ 21) : (joinL [a, b]).length ≤ 140737488355328 := by
  have h1 : (Lib.decDigits a.length).length ≤ 21 := by have := Lib.itoa_length_le (a.length : Int) (by omega) (by omega); rwa [Lib.itoa_nonneg] at this
  have h2 : (Lib.decDigits b.length).length ≤ 21 := by have := Lib.itoa_length_le (b.length : Int) (by omega) (by omega); rwa [Lib.itoa_nonneg] at this
  simp only [joinL, joinE, List.flatMap_cons, List.flatMap_nil, List.length_append, List.length_cons, List.length_nil]
  omega
/-- What the iterator hands out. -/
def encsP (serial bits hashes : Int) (i : Fin hashes.toNat) : Array Value := #[.int .i64 (posF serial bits i.val : Int)]
/-- What a round keeps for the iterator. -/
def KpP (bs bb : Nat) (serial bits : Int) (A B : World) : Prop :=
  (A.heap[bs]? = some (.cells #[.int .i64 serial] 3 (0, 0)) → B.heap[bs]? = some (.cells #[.int .i64 serial] 3 (0, 0))) ∧ (A.heap[bb]? = some (.cells #[.int .i64 bits] 3 (0, 0)) → B.heap[bb]? = some (.cells #[.int .i64 bits] 3 (0, 0))) ∧ (Tabs A → Tabs B)
theorem KpP.t {bs bb : Nat} {serial bits : Int} {A B C : World} (h : KpP bs bb serial bits A B) (k : KpP bs bb serial bits B C) : KpP bs bb serial bits A C :=
  ⟨fun x => k.1 (h.1 x), fun x => k.2.1 (h.2.1 x), fun x => k.2.2 (h.2.2 x)⟩

end Go.Proofs.YtjddngbgbbbefaaGreatDoor
namespace Go.Proofs.YtjddngbgbbbefaaGreatDoor
open Go.RowKit

def wrdV (n : Nat) : Value := .int .u64 (n : Int)
/-- A slice of numbers that the call has made. -/
def OwnW (base : Nat) (w : World) (v : Value) (l : List Nat) : Prop := w.ownsRow base 122 1 v l.length (l.map wrdV)
theorem OwnW.fr {X : List Nat} {base : Nat} {w w' : World} {v : Value} {l : List Nat} (h : OwnW base w v l) (hf : Fr X w w') (hx : ∀ k, v.ownBlock = some k → k ∉ X) : OwnW base w' v l := ownsRow_fr h hf hx
theorem OwnW.nil {base : Nat} {w : World} : OwnW base w (.slice none 0 0) [] := ⟨rfl, Or.inl ⟨rfl, rfl⟩⟩
theorem OwnW.form {base : Nat} {w : World} {v : Value} {l : List Nat} (h : OwnW base w v l) :
    (v = .slice none 0 0 ∧ l = []) ∨ ∃ g cap cur, v = .slice (some ⟨g, 0, none⟩) l.length cap ∧ base ≤ g ∧ w.heap[g]? = some (.cells cur 122 (0, 0)) ∧ l.length ≤ cap ∧ cap ≤ maxLen ∧ cur.size = cap ∧ cur.toList.take l.length = l.map wrdV := by
  rcases h.2 with ⟨h1, h2⟩ | ⟨g, cap, cur, hv, hb, hg, h3, h4, h5, h6⟩
  · exact Or.inl ⟨h1, List.length_eq_zero_iff.1 h2⟩
  · exact Or.inr ⟨g, cap, cur, hv, hb, hg, h3, h4, by simpa using h5, by simpa using h6⟩
theorem OwnW.formN {base : Nat} {w : World} {g n cap : Nat} {l : List Nat} (h : OwnW base w (.slice (some ⟨g, 0, none⟩) n cap) l) (hn : l.length = n) :
    ∃ cur, base ≤ g ∧ w.heap[g]? = some (.cells cur 122 (0, 0)) ∧ n ≤ cap ∧ cap ≤ maxLen ∧ cur.size = cap ∧ cur.toList.take n = l.map wrdV := by
  rcases h.form with ⟨h0, _⟩ | ⟨g', cap', cur, h0, hb, hg, h3, h4, h5, h6⟩
  · cases h0
  · subst hn
    cases h0
    exact ⟨cur, hb, hg, h3, h4, h5, h6⟩
theorem wrdV_at {n : Nat} {cur : Array Value} {l : List Nat} (h : cur.toList.take n = l.map wrdV) (hn : l.length = n) (i : Nat) (hi : i < n) : cur[i]? = some (.int .u64 (l.getD i 0 : Nat)) := by
  subst hn
  have h7 : (cur.toList.take l.length)[i]? = cur[i]? := by rw [List.getElem?_take, if_pos hi, Array.getElem?_toList]
  rw [← h7, h, List.getElem?_map, List.getElem?_eq_getElem hi]
  simp [wrdV, hi]
/-- A cell of an own slice of numbers that is set. -/
theorem ownW_set {base : Nat} {w : World} {g cap n i : Nat} {cur : Array Value} {l : List Nat} (hb : base ≤ g) (hg : w.heap[g]? = some (.cells cur 122 (0, 0))) (hn : l.length = n) (h3 : n ≤ cap) (h4 : cap ≤ maxLen) (h5 : cur.size = cap)
    (h6 : cur.toList.take n = l.map wrdV) (x : Nat) : OwnW base (w.setCell ⟨g, i, none⟩ (.int .u64 (x : Int))) (.slice (some ⟨g, 0, none⟩) n cap) (l.set i x) := by
  refine ⟨by simp [wrdV], Or.inr ⟨g, cap, cur.setIfInBounds i (.int .u64 (x : Int)), by rw [List.length_set, hn], hb, row_set hg i _, by rw [List.length_set]; omega, h4, by simp [h5], ?_⟩⟩
  rw [List.length_set, hn, Nat.mul_one, Array.toList_setIfInBounds, List.take_set, h6, List.map_set]; rfl
theorem wInfo : (Tryz.prog.info? 122).map (fun i => (i.zero, i.size, i.bytes)) = some (some (.int .u64 0), 1, 8) := by kernel_rfl

theorem OwnW.ws {base : Nat} {w : World} {v : Value} {l : List Nat} (h : OwnW base w v l) : Ws w v l := by
  rcases h.form with ⟨rfl, rfl⟩ | ⟨g, cap, cur, rfl, hb, hg, h3, h4, h5, h6⟩
  · exact Or.inl ⟨rfl, none, rfl⟩
  · refine Or.inr ⟨g, 0, cap, rfl, h3, by unfold maxLen at h4; omega, lt_of_block hg, fun i hi => ?_⟩
    rw [row_cell hg, Nat.zero_add]
    exact wrdV_at h6 rfl i hi
end Go.Proofs.YtjddngbgbbbefaaGreatDoor
namespace Go.Proofs.YtjddngbgbbbefaaGreatDoor
open Go.RowKit

end Go.Proofs.YtjddngbgbbbefaaGreatDoor
namespace Go.Proofs.YtjddngbgbbbefaaGreatDoor
open Go.RowKit

/-- A list of numbers with signs. -/
def Zs (w : World) (v : Value) (l : List Int) : Prop :=
  (l = [] ∧ ∃ a, v = .slice a 0 0) ∨ ∃ b off cap, v = .slice (some ⟨b, off, none⟩) l.length cap ∧ l.length ≤ cap ∧ cap ≤ 9223372036854775807 ∧ b < w.heap.size ∧
    ∀ i, i < l.length → w.cell? ⟨b, off + i, none⟩ = some (.int .i64 (l.getD i 0))
theorem Zs.fr {X : List Nat} {w w' : World} {v : Value} {l : List Int} (h : Zs w v l) (hf : Fr X w w') (hx : ∀ b, v.ownBlock = some b → b ∉ X) : Zs w' v l := by
  rcases h with h | ⟨b, off, cap, hv, h1, h2, h3, h4⟩
  · exact Or.inl h
  · exact Or.inr ⟨b, off, cap, hv, h1, h2, Nat.lt_of_lt_of_le h3 hf.size, fun i hi => hf.cell (h4 i hi) (hx b (by rw [hv]; rfl))⟩
theorem Zs.fr0 {w w' : World} {v : Value} {l : List Int} (h : Zs w v l) (hf : Fr [] w w') : Zs w' v l := h.fr hf (by simp)
theorem Zs.form {w : World} {v : Value} {l : List Int} (h : Zs w v l) : ∃ a cap, v = .slice a l.length cap ∧ l.length ≤ cap ∧ cap ≤ 9223372036854775807 ∧ (∀ i, i < l.length → ∃ b off, a = some ⟨b, off, none⟩) := by
  rcases h with ⟨rfl, a, rfl⟩ | ⟨b, off, cap, rfl, h1, h2, _, _⟩
  · exact ⟨a, 0, rfl, by simp, by simp, fun i hi => absurd hi (by simp)⟩
  · exact ⟨_, cap, rfl, h1, h2, fun i hi => ⟨b, off, rfl⟩⟩
theorem Zs.cell {w : World} {b off n cap : Nat} {l : List Int} (h : Zs w (.slice (some ⟨b, off, none⟩) n cap) l) (i : Nat) (hi : i < l.length) : w.cell? ⟨b, off + i, none⟩ = some (.int .i64 (l.getD i 0)) := by
  rcases h with ⟨rfl, _⟩ | ⟨b', off', cap', hv, _, _, _, h4⟩
  · exact absurd hi (by simp)
  · cases hv; exact h4 i hi
end Go.Proofs.YtjddngbgbbbefaaGreatDoor
namespace Go.Proofs.YtjddngbgbbbefaaGreatDoor
open Go.RowKit Go.Shelf
attribute [local go_sem] Oper.semAt_some

/-- The filter without anything. -/
def zeroF : Value := .agg #[.int .i64 0, .int .i64 0, .slice none 0 0]
/-- The words behind some serial numbers. -/
def accF (bits hashes : Int) (l : List Int) : List Nat := setsW (List.replicate (bits / 64).toNat 0) (posA l bits hashes)
theorem KpP.fr {bs bb : Nat} {serial bits : Int} {X : List Nat} {B : Nat} {w A C : World} (hf : Fr X A C) (hw : Tabs w) (hB : w.heap.size ≤ B) (hx : ∀ x ∈ X, B ≤ x) (h0 : bs ∉ X) (h1 : bb ∉ X) : KpP bs bb serial bits A C :=
  ⟨fun h => hf.at h h0, fun h => hf.at h h1, fun h => h.frX hf hw hB hx⟩
theorem OwnW.kept {base : Nat} {w w' : World} {v : Value} {l : List Nat} {row : Option Nat} (h : OwnW base w v l) (hg : w.grownBy w' row) (hr : ∀ b o, w.heap[b]? = some o → o.isCells = true → some b ≠ row) : OwnW base w' v l := by
  refine ⟨h.1, ?_⟩
  rcases h.2 with h | ⟨b, cap, cur, hv, hb, hh, h3⟩
  · exact Or.inl h
  · exact Or.inr ⟨b, cap, cur, hv, hb, (hg.block b (lt_of_block hh) (fun e => hr b _ hh rfl e)).trans hh, h3⟩
theorem OwnW.lt {base : Nat} {w : World} {g n cap : Nat} {l : List Nat} (h : OwnW base w (.slice (some ⟨g, 0, none⟩) n cap) l) : base ≤ g ∧ g < w.heap.size ∧ ∃ cur, w.heap[g]? = some (.cells cur 122 (0, 0)) := by
  rcases h.form with ⟨h0, _⟩ | ⟨g', cap', cur, h0, hb, hg, _⟩
  · cases h0
  · cases h0; exact ⟨hb, lt_of_block hg, cur, hg⟩
theorem Marks.frX {B : Nat} {X Ds : List Nat} {w w' : World} (h : Marks B Ds w) (hf : Fr X w w') (hx : ∀ x ∈ X, ∀ o, w.heap[x]? = some o → o.isCells = true) : Marks B Ds w' :=
  ⟨h.1, fun D hD => ⟨(h.2 D hD).1, hf.at (h.2 D hD).2 (fun hm => by have := hx D hm _ (h.2 D hD).2; cases this)⟩⟩
theorem Marks.newX {B : Nat} {X Ds : List Nat} {w w' : World} {D : Nat} (h : Marks B Ds w) (hf : Fr X w w') (hx : ∀ x ∈ X, ∀ o, w.heap[x]? = some o → o.isCells = true) (hD : w.heap.size ≤ D) (hB : B ≤ w.heap.size) (hd : w'.heap[D]? = some (.deferred (some []))) : Marks B (D :: Ds) w' := by
  refine ⟨List.nodup_cons.2 ⟨fun hm => ?_, h.1⟩, fun x hx' => ?_⟩
  · have := (Array.getElem?_eq_some_iff.1 (h.2 D hm).2).1
    omega
  · rcases List.mem_cons.1 hx' with rfl | hx'
    · exact ⟨by omega, hd⟩
    · exact (h.frX hf hx).2 x hx'
theorem posA_snoc (l : List Int) (bits hashes : Int) (k : Nat) (hk : k < l.length) : accF bits hashes (l.take (k + 1)) = setsW (accF bits hashes (l.take k)) ((List.finRange hashes.toNat).map fun i => posF (l.getD k 0) bits i.val) := by
  unfold accF
  rw [take_snoc' l k 0 hk, posA, List.flatMap_append, setsW_app]
  congr 1
  rw [List.flatMap_cons, List.flatMap_nil, List.append_nil]
  unfold posL
  exact List.ext_getElem (by simp) (fun i h1 h2 => by simp)
/-- What Make returns. -/
def MakePost (w : World) (l : List Int) (bits hashes : Int) (e : Ending) (w' : World) : Prop :=
  (formF bits hashes = true → ∃ wv, e = .returned (.tuple #[.agg #[.int .i64 bits, .int .i64 hashes, wv], .int .i64 0]) ∧ OwnW w.heap.size w' wv (makeF l bits hashes)) ∧ (formF bits hashes = false → e = .returned (.tuple #[zeroF, .int .i64 1])) ∧ Below w.heap.size w w'
end Go.Proofs.YtjddngbgbbbefaaGreatDoor
namespace Go.Proofs.YtjddngbgbbbefaaGreatDoor
open Go.RowKit Go.Shelf
attribute [local go_sem] Oper.semAt_some

/-- May a filter contain a serial number? -/
def hasF (f : Flt) (serial : Int) : Bool := validF f && hasW f.words (posL serial f.bits f.hashes)

theorem bit_and (X j : Nat) (hX : X < 18446744073709551616) : (Go.bits .and .u64 ((X : Int) / 2 ^ j) 1 == 0) = !(X.testBit j) := by
  have h1 : (X : Int) / 2 ^ j = ((X / 2 ^ j : Nat) : Int) := by rw [Int.natCast_ediv]; simp
  have h2 : X / 2 ^ j < 18446744073709551616 := Nat.lt_of_le_of_lt (Nat.div_le_self _ _) hX
  have h3 := u64_and_nat (X / 2 ^ j) 1 h2 (by decide)
  rw [h1, show (1 : Int) = ((1 : Nat) : Int) from rfl, h3, Nat.and_one_is_mod, Nat.testBit_eq_decide_div_mod_eq]
  generalize X / 2 ^ j = Y
  rcases Nat.mod_two_eq_zero_or_one Y with h | h <;> simp [h]

end Go.Proofs.YtjddngbgbbbefaaGreatDoor
