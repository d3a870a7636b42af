/-
  Plain law of filters (chapter 36): words as numbers, their bits, setting, joining, counting.
  What filters are: forms, positions, the words of serial numbers.
  Plain law: the texts of filters; they are read back in one way alone.
  filter.form, filter.valid, filter.positions.
  filter.valid; the iterator over the positions of a serial number.
  The iterator over the positions of a serial number.
  Slices of words that the call has made; append to them; a cell of them is set.
  filter.Make: the closure that sets a bit.
  A slice of ints, read.
  filter.Make.
  filter.Has.
-/
import Derived.Test.YtglgkdbhdjkeaaaGreatDoorBase
import Derived.Test.YtglgkdbhdjkeaaaGreatDoorBel
import Derived.Lib.ItoaLen
import Derived.Test.YtglgkdbhdjkeaaaGreatDoorPlnHv
import Derived.Test.YtglgkdbhdjkeaaaGreatDoorOwn
import Derived.Test.YtglgkdbhdjkeaaaGreatDoorItI
import Derived.Test.YtglgkdbhdjkeaaaGreatDoorMrk
import Derived.BigRegion
import Derived.Laws.EntriesVeiled
namespace Go.Proofs.YtglgkdbhdjkeaaaGreatDoor
open Go.RowKit

def bitW (W : List Nat) (n : Nat) : Bool := (W.getD (n / 64) 0).testBit (n % 64)
def setW (W : List Nat) (n : Nat) : List Nat := W.set (n / 64) (W.getD (n / 64) 0 ||| 2 ^ (n % 64))
def W64 (W : List Nat) : Prop := ∀ x ∈ W, x < 2 ^ 64
theorem W64.at {W : List Nat} (h : W64 W) (i : Nat) : W.getD i 0 < 2 ^ 64 := by
  by_cases hi : i < W.length
  · exact h _ (getD_mem W i 0 hi)
  · rw [List.getD_eq_getElem?_getD, List.getElem?_eq_none (by omega)]; decide
theorem setW_len (W : List Nat) (n : Nat) : (setW W n).length = W.length := by simp [setW]
theorem setW_lt {W : List Nat} {n : Nat} (h : W64 W) : W64 (setW W n) := by
  intro x hx
  rcases List.mem_or_eq_of_mem_set hx with h1 | h1
  · exact h x h1
  · rw [h1]
    exact Nat.or_lt_two_pow (h.at _) (Nat.pow_lt_pow_right (by decide) (Nat.mod_lt _ (by decide)))
theorem setW_bit {W : List Nat} {n : Nat} (hn : n / 64 < W.length) (m : Nat) : bitW (setW W n) m = (bitW W m || decide (m = n)) := by
  unfold bitW setW
  rw [List.getD_eq_getElem?_getD, List.getElem?_set]
  by_cases h : n / 64 = m / 64
  · rw [if_pos h, if_pos (by omega), Option.getD_some, Nat.testBit_or, Nat.testBit_two_pow, h]
    congr 1
    rw [decide_eq_decide]
    omega
  · rw [if_neg h, ← List.getD_eq_getElem?_getD, decide_eq_false (by rintro rfl; exact h rfl), Bool.or_false]
theorem bits_ext {A B : List Nat} (ha : W64 A) (hb : W64 B) (hl : A.length = B.length) (h : ∀ n, n < 64 * A.length → bitW A n = bitW B n) : A = B := by
  refine List.ext_getElem hl (fun i h1 h2 => ?_)
  refine Nat.eq_of_testBit_eq (fun j => ?_)
  by_cases hj : j < 64
  · have := h (64 * i + j) (by omega)
    unfold bitW at this
    rw [show (64 * i + j) / 64 = i by omega, show (64 * i + j) % 64 = j by omega] at this
    simpa [List.getD_eq_getElem?_getD, h1, h2] using this
  · have e : ∀ x : Nat, x < 2 ^ 64 → x.testBit j = false := fun x hx => Nat.testBit_lt_two_pow (Nat.lt_of_lt_of_le hx (Nat.pow_le_pow_right (by decide) (by omega)))
    rw [e _ (ha _ (List.getElem_mem h1)), e _ (hb _ (List.getElem_mem h2))]
/-- Several bits are set. -/
def setsW (W : List Nat) (ns : List Nat) : List Nat := ns.foldl setW W
theorem setsW_len : ∀ (ns W : List Nat), (setsW W ns).length = W.length
  | [], _ => rfl
  | n :: ns, W => by rw [show setsW W (n :: ns) = setsW (setW W n) ns from rfl, setsW_len, setW_len]
theorem setsW_lt : ∀ (ns W : List Nat), W64 W → W64 (setsW W ns)
  | [], _, h => h
  | n :: ns, W, h => setsW_lt ns (setW W n) (setW_lt h)
theorem setsW_app (W a b : List Nat) : setsW W (a ++ b) = setsW (setsW W a) b := List.foldl_append
theorem setsW_bit : ∀ (ns W : List Nat), (∀ n ∈ ns, n / 64 < W.length) → ∀ m, bitW (setsW W ns) m = (bitW W m || ns.contains m)
  | [], W, _, m => by simp [setsW]
  | n :: ns, W, h, m => by
    rw [show setsW W (n :: ns) = setsW (setW W n) ns from rfl, setsW_bit ns (setW W n) (fun k hk => by rw [setW_len]; exact h k (by simp [hk])), setW_bit (h n (by simp)), List.contains_cons, Bool.or_assoc]
    congr 1
theorem zeros_bit (k m : Nat) : bitW (List.replicate k 0) m = false := by
  unfold bitW
  have : (List.replicate k 0).getD (m / 64) 0 = 0 := by
    rw [List.getD_eq_getElem?_getD]
    by_cases h : m / 64 < k
    · simp [h]
    · rw [List.getElem?_eq_none (by simpa using h)]; rfl
  rw [this, Nat.zero_testBit]
theorem zeros_lt (k : Nat) : W64 (List.replicate k 0) := by
  intro x hx
  rw [(List.mem_replicate.1 hx).2]; decide
/-- The words of both. -/
def joinW (A B : List Nat) : List Nat := List.zipWith (· ||| ·) A B
theorem joinW_len (A B : List Nat) (h : A.length = B.length) : (joinW A B).length = A.length := by simp [joinW, h]
theorem joinW_at {A B : List Nat} (h : A.length = B.length) (i : Nat) : (joinW A B).getD i 0 = A.getD i 0 ||| B.getD i 0 := by
  unfold joinW
  by_cases hi : i < A.length
  · simp [List.getD_eq_getElem?_getD, List.getElem?_zipWith, hi, h ▸ hi]
  · simp [List.getD_eq_getElem?_getD, List.getElem?_zipWith, List.getElem?_eq_none (show A.length ≤ i by omega), List.getElem?_eq_none (show B.length ≤ i by omega)]
theorem joinW_bit {A B : List Nat} (h : A.length = B.length) (m : Nat) : bitW (joinW A B) m = (bitW A m || bitW B m) := by
  unfold bitW
  rw [joinW_at h, Nat.testBit_or]
theorem joinW_lt {A B : List Nat} (ha : W64 A) (hb : W64 B) (h : A.length = B.length) : W64 (joinW A B) := by
  intro x hx
  obtain ⟨i, hi, rfl⟩ := List.getElem_of_mem hx
  have := joinW_at h i
  rw [List.getD_eq_getElem?_getD, List.getElem?_eq_getElem hi, Option.getD_some] at this
  rw [this]
  exact Nat.or_lt_two_pow (ha.at i) (hb.at i)
theorem sets_ext {k : Nat} {a b : List Nat} (ha : ∀ n ∈ a, n / 64 < k) (hb : ∀ n ∈ b, n / 64 < k) (h : ∀ n, n ∈ a ↔ n ∈ b) : setsW (List.replicate k 0) a = setsW (List.replicate k 0) b := by
  refine bits_ext (setsW_lt _ _ (zeros_lt k)) (setsW_lt _ _ (zeros_lt k)) (by rw [setsW_len, setsW_len]) (fun n _ => ?_)
  rw [setsW_bit _ _ (by simpa using ha), setsW_bit _ _ (by simpa using hb)]
  congr 1
  rw [Bool.eq_iff_iff]
  simpa using h n
theorem sets_join {k : Nat} {a b : List Nat} (ha : ∀ n ∈ a, n / 64 < k) (hb : ∀ n ∈ b, n / 64 < k) : joinW (setsW (List.replicate k 0) a) (setsW (List.replicate k 0) b) = setsW (List.replicate k 0) (a ++ b) := by
  have hl : (setsW (List.replicate k 0) a).length = (setsW (List.replicate k 0) b).length := by rw [setsW_len, setsW_len]
  refine bits_ext (joinW_lt (setsW_lt _ _ (zeros_lt k)) (setsW_lt _ _ (zeros_lt k)) hl) (setsW_lt _ _ (zeros_lt k)) (by rw [joinW_len _ _ hl, setsW_len, setsW_len]) (fun n _ => ?_)
  rw [joinW_bit hl, setsW_bit _ _ (by simpa using ha), setsW_bit _ _ (by simpa using hb), setsW_bit _ _ (by
    intro n hn
    rw [List.length_replicate]
    rcases List.mem_append.1 hn with h | h
    · exact ha n h
    · exact hb n h), zeros_bit]
  rw [Bool.eq_iff_iff]
  simp
theorem joinW_assoc {A B C : List Nat} (ha : W64 A) (hb : W64 B) (hc : W64 C) (h1 : A.length = B.length) (h2 : B.length = C.length) : joinW (joinW A B) C = joinW A (joinW B C) := by
  have e1 : (joinW A B).length = C.length := by rw [joinW_len _ _ h1]; omega
  have e2 : A.length = (joinW B C).length := by rw [joinW_len _ _ h2]; omega
  refine bits_ext (joinW_lt (joinW_lt ha hb h1) hc e1) (joinW_lt ha (joinW_lt hb hc h2) e2) (by rw [joinW_len _ _ e1, joinW_len _ _ e2, joinW_len _ _ h1]) (fun n _ => ?_)
  rw [joinW_bit e1, joinW_bit h1, joinW_bit e2, joinW_bit h2, Bool.or_assoc]
/-- How many bits are set. -/
def cntW (W : List Nat) : Nat := (List.range (64 * W.length)).countP (bitW W)
theorem count_one (n : Nat) : ∀ N, (List.range N).countP (fun m => decide (m = n)) ≤ 1 ∧ (N ≤ n → (List.range N).countP (fun m => decide (m = n)) = 0) := by
  intro N
  induction N with
  | zero => simp
  | succ N ih =>
    rw [List.range_succ, List.countP_append]
    by_cases h : N = n
    · have := ih.2 (by omega)
      rw [this]
      simp [h]
    · simp only [List.countP_cons, List.countP_nil, decide_eq_false h]
      exact ⟨by simpa using ih.1, fun h2 => by simpa using ih.2 (by omega)⟩
theorem count_or (p q : Nat → Bool) : ∀ l : List Nat, l.countP (fun m => p m || q m) ≤ l.countP p + l.countP q := by
  intro l
  induction l with
  | nil => simp
  | cons a l ih =>
    simp only [List.countP_cons]
    cases p a <;> cases q a <;> simp <;> omega
theorem count_sets (ns : List Nat) (N : Nat) : (List.range N).countP (fun m => ns.contains m) ≤ ns.length := by
  induction ns with
  | nil => simp
  | cons n ns ih =>
    have h1 := count_or (fun m => decide (m = n)) (fun m => ns.contains m) (List.range N)
    have h2 := (count_one n N).1
    have h3 : (List.range N).countP (fun m => (n :: ns).contains m) = (List.range N).countP (fun m => decide (m = n) || ns.contains m) := by
      congr 1
    rw [h3, List.length_cons]
    omega
theorem cnt_sets {k : Nat} {ns : List Nat} (h : ∀ n ∈ ns, n / 64 < k) : cntW (setsW (List.replicate k 0) ns) ≤ ns.length := by
  unfold cntW
  have : (bitW (setsW (List.replicate k 0) ns)) = fun m => ns.contains m := by
    funext m
    rw [setsW_bit _ _ (by simpa using h), zeros_bit, Bool.false_or]
  rw [this]
  exact count_sets ns _
theorem cnt_pos {k : Nat} {ns : List Nat} (h : ∀ n ∈ ns, n / 64 < k) : 0 < cntW (setsW (List.replicate k 0) ns) ↔ ns ≠ [] := by
  unfold cntW
  rw [List.countP_pos_iff]
  constructor
  · rintro ⟨m, _, hm⟩ rfl
    rw [show setsW (List.replicate k 0) [] = List.replicate k 0 from rfl, zeros_bit] at hm
    cases hm
  · intro hne
    obtain ⟨n, ns', rfl⟩ := List.exists_cons_of_ne_nil hne
    have hn := h n (by simp)
    refine ⟨n, by rw [List.mem_range, setsW_len, List.length_replicate]; omega, ?_⟩
    rw [setsW_bit _ _ (by simpa using h), zeros_bit]
    simp
/-- All of some bits are set. -/
def hasW (W ns : List Nat) : Bool := ns.all (bitW W)
end Go.Proofs.YtglgkdbhdjkeaaaGreatDoor
namespace Go.Proofs.YtglgkdbhdjkeaaaGreatDoor
open Go.RowKit

/-- Numbers of bits and hashes that are right. -/
def formF (bits hashes : Int) : Bool := decide (64 ≤ bits ∧ bits ≤ 65536 ∧ bits % 64 = 0 ∧ 1 ≤ hashes ∧ hashes ≤ 8)
/-- A filter. -/
structure Flt where
  bits : Int
  hashes : Int
  words : List Nat
def validF (f : Flt) : Bool := formF f.bits f.hashes && decide ((f.words.length : Int) = f.bits / 64)
/-- A position of a serial number. -/
def posF (serial : Int) (bits : Int) (k : Nat) : Nat := (belowS (dlist [Lib.itoa serial, Lib.decDigits k]) bits).toNat
theorem belowS_range (d : List UInt8) {n : Int} (h : 1 ≤ n) : 0 ≤ belowS d n ∧ belowS d n < n := by
  unfold belowS
  split
  · omega
  · exact ⟨Int.emod_nonneg _ (by omega), Int.emod_lt_of_pos _ (by omega)⟩
theorem posF_eq (serial : Int) {bits : Int} (h : 1 ≤ bits) (k : Nat) : belowS (dlist [Lib.itoa serial, Lib.decDigits k]) bits = (posF serial bits k : Int) := by
  have := belowS_range (dlist [Lib.itoa serial, Lib.decDigits k]) h
  unfold posF
  omega
theorem posF_lt (serial : Int) {bits : Int} (h : 1 ≤ bits) (k : Nat) : (posF serial bits k : Int) < bits := by
  rw [← posF_eq serial h k]
  exact (belowS_range _ h).2
/-- The positions of a serial number. -/
def posL (serial bits hashes : Int) : List Nat := (List.range hashes.toNat).map (posF serial bits)
/-- The positions of serial numbers. -/
def posA (serials : List Int) (bits hashes : Int) : List Nat := serials.flatMap fun s => posL s bits hashes
/-- The words of serial numbers. -/
def makeF (serials : List Int) (bits hashes : Int) : List Nat := setsW (List.replicate (bits / 64).toNat 0) (posA serials bits hashes)
theorem posL_len (serial bits hashes : Int) : (posL serial bits hashes).length = hashes.toNat := by simp [posL]
theorem formF_parts {bits hashes : Int} (h : formF bits hashes = true) : 64 ≤ bits ∧ bits ≤ 65536 ∧ bits % 64 = 0 ∧ 1 ≤ hashes ∧ hashes ≤ 8 := of_decide_eq_true h
theorem posL_lt {serial bits hashes : Int} (h : formF bits hashes = true) : ∀ n ∈ posL serial bits hashes, n / 64 < (bits / 64).toNat := by
  intro n hn
  have hf := formF_parts h
  obtain ⟨k, _, rfl⟩ := List.mem_map.1 hn
  have := posF_lt serial (show 1 ≤ bits by omega) k
  omega
theorem posA_lt {serials : List Int} {bits hashes : Int} (h : formF bits hashes = true) : ∀ n ∈ posA serials bits hashes, n / 64 < (bits / 64).toNat := by
  intro n hn
  obtain ⟨s, _, hs⟩ := List.mem_flatMap.1 hn
  exact posL_lt h n hs
theorem makeF_len (serials : List Int) (bits hashes : Int) : (makeF serials bits hashes).length = (bits / 64).toNat := by
  unfold makeF
  rw [setsW_len, List.length_replicate]
theorem makeF_lt (serials : List Int) (bits hashes : Int) : W64 (makeF serials bits hashes) := setsW_lt _ _ (zeros_lt _)
end Go.Proofs.YtglgkdbhdjkeaaaGreatDoor
namespace Go.Proofs.YtglgkdbhdjkeaaaGreatDoor
open Go.RowKit

/-- The words of a filter's text. -/
def wordsF (f : Flt) : List (List UInt8) := Lib.itoa f.bits :: Lib.itoa f.hashes :: f.words.map hexS
/-- The text of a filter. -/
def textF (f : Flt) : List UInt8 := if validF f then spS (wordsF f) else []
theorem Flt.ext' {a b : Flt} (h1 : a.bits = b.bits) (h2 : a.hashes = b.hashes) (h3 : a.words = b.words) : a = b := by
  cases a; cases b; simp only at h1 h2 h3; subst h1 h2 h3; rfl
theorem wordsF_word (f : Flt) : ∀ w ∈ wordsF f, (32 : UInt8) ∉ w := by
  intro w hw
  unfold wordsF at hw
  rcases List.mem_cons.1 hw with rfl | hw
  · exact itoa_word _
  rcases List.mem_cons.1 hw with rfl | hw
  · exact itoa_word _
  obtain ⟨x, _, rfl⟩ := List.mem_map.1 hw
  exact hex_word (hexS_hex x)
theorem wordsF_ne (f : Flt) : wordsF f ≠ [] := by simp [wordsF]
theorem spS_cons2 (w v : List UInt8) (ws : List (List UInt8)) : spS (w :: v :: ws) = w ++ 32 :: spS (v :: ws) := rfl
theorem textF_ne {f : Flt} (h : validF f = true) : textF f ≠ [] := by
  unfold textF wordsF
  rw [if_pos h, spS_cons2]
  simp
theorem textF_nil {f : Flt} (h : validF f = false) : textF f = [] := by
  unfold textF
  rw [h]; rfl
theorem textF_split {f : Flt} (h : validF f = true) : splitS (textF f) = wordsF f := by
  unfold textF
  rw [if_pos h, split_sp _ (wordsF_ne f) (wordsF_word f)]
theorem hexS_back : ∀ {l : List Nat}, W64 l → (l.map hexS).map hexV = l
  | [], _ => rfl
  | x :: l, h => by
    have h1 : x < 2 ^ 64 := h x (List.mem_cons_self ..)
    have h2 : (2 : Nat) ^ 64 = 18446744073709551616 := by decide
    rw [h2] at h1
    rw [List.map_cons, List.map_cons, hexV_hexS x h1, hexS_back (fun y hy => h y (List.mem_cons_of_mem _ hy))]
theorem textF_inj {a b : Flt} (ha : validF a = true) (hb : validF b = true) (wa : W64 a.words) (wb : W64 b.words) (h : textF a = textF b) : a = b := by
  have h1 : wordsF a = wordsF b := by rw [← textF_split ha, ← textF_split hb, h]
  unfold wordsF at h1
  simp only [List.cons.injEq] at h1
  refine Flt.ext' (itoa_inj h1.1) (itoa_inj h1.2.1) ?_
  rw [← hexS_back wa, ← hexS_back wb, h1.2.2]
/-- A text is that of a filter. -/
def IsTextF (text : List UInt8) (f : Flt) : Prop := validF f = true ∧ W64 f.words ∧ textF f = text
/-- What is read from a text. -/
def ParsedF (text : List UInt8) (o : Option Flt) : Prop := ∀ f, o = some f ↔ IsTextF text f
theorem ParsedF.eq {text : List UInt8} {o p : Option Flt} (h : ParsedF text o) (k : ParsedF text p) : o = p := by
  cases o with
  | none =>
    cases p with
    | none => rfl
    | some f => exact (h f).2 ((k f).1 rfl)
  | some f => exact ((k f).2 ((h f).1 rfl)).symm
theorem parsed_some {text : List UInt8} {f : Flt} (h : IsTextF text f) : ParsedF text (some f) := fun g => by
  constructor
  · intro e; cases e; exact h
  · intro k
    rw [textF_inj h.1 k.1 h.2.1 k.2.1 (h.2.2.trans k.2.2.symm)]
theorem parsed_none {text : List UInt8} (h : ∀ f, ¬ IsTextF text f) : ParsedF text none := fun g => by
  constructor
  · intro e; cases e
  · intro k; exact absurd k (h g)
/-- The filter that the words of a text stand for, where they are the words of a filter. -/
theorem parsed_of {text : List UInt8} {f : Flt} (hw : W64 f.words) (h : ∀ g, IsTextF text g → f = g) : ParsedF text (if textF f = text ∧ text ≠ [] then some f else none) := by
  split
  · rename_i hc
    refine parsed_some ⟨?_, hw, hc.1⟩
    cases hv : validF f with
    | true => rfl
    | false => exact absurd (hc.1.symm.trans (textF_nil hv)) hc.2
  · rename_i hc
    refine parsed_none (fun g hg => hc ?_)
    have := h g hg
    subst this
    exact ⟨hg.2.2, by rw [← hg.2.2]; exact textF_ne hg.1⟩
theorem isText_words {text : List UInt8} {g : Flt} (h : IsTextF text g) : splitS text = Lib.itoa g.bits :: Lib.itoa g.hashes :: g.words.map hexS := by
  rw [← h.2.2, textF_split h.1]; rfl
theorem validF_parts {f : Flt} (h : validF f = true) : formF f.bits f.hashes = true ∧ (f.words.length : Int) = f.bits / 64 := by
  unfold validF at h
  simp only [Bool.and_eq_true, decide_eq_true_eq] at h
  exact h
theorem validF_len {f : Flt} (h : validF f = true) : f.words.length ≤ 1024 := by
  obtain ⟨h1, h2⟩ := validF_parts h
  have := formF_parts h1
  omega
end Go.Proofs.YtglgkdbhdjkeaaaGreatDoor
namespace Go.Proofs.YtglgkdbhdjkeaaaGreatDoor
open Go.RowKit

/-- A slice of words. -/
def Ws (w : World) (v : Value) (l : List Nat) : Prop :=
  (l = [] ∧ ∃ a, v = .slice a 0 0) ∨ ∃ b off cap, v = .slice (some ⟨b, off, none⟩) l.length cap ∧ l.length ≤ cap ∧ cap ≤ 9223372036854775807 ∧ b < w.heap.size ∧
    ∀ i, i < l.length → w.cell? ⟨b, off + i, none⟩ = some (.int .u64 ((l.getD i 0 : Nat) : Int))
theorem Ws.fr0 {w w' : World} {v : Value} {l : List Nat} (h : Ws w v l) (hf : Fr [] w w') : Ws w' v l := by
  rcases h with h | ⟨b, off, cap, hv, h1, h2, h3, h4⟩
  · exact Or.inl h
  · exact Or.inr ⟨b, off, cap, hv, h1, h2, Nat.lt_of_lt_of_le h3 hf.size, fun i hi => hf.cell (h4 i hi) (by simp)⟩
theorem Ws.form {w : World} {v : Value} {l : List Nat} (h : Ws w v l) : ∃ a cap, v = .slice a l.length cap ∧ l.length ≤ cap ∧ cap ≤ 9223372036854775807 ∧ (∀ i, i < l.length → ∃ b off, a = some ⟨b, off, none⟩) := by
  rcases h with ⟨rfl, a, rfl⟩ | ⟨b, off, cap, rfl, h1, h2, _, _⟩
  · exact ⟨a, 0, rfl, by simp, by simp, fun i hi => absurd hi (by simp)⟩
  · exact ⟨_, cap, rfl, h1, h2, fun i hi => ⟨b, off, rfl⟩⟩
/-- A value reads as a filter. -/
def FltR (w : World) (v : Value) (f : Flt) : Prop := ∃ wv, v = .agg #[.int .i64 f.bits, .int .i64 f.hashes, wv] ∧ Ws w wv f.words

set_option maxRecDepth 100000 in
set_option maxHeartbeats 1000000 in
theorem form_any (bits hashes : Int) (w : World) :
    Calls Tryz.prog 61 #[.int .i64 bits, .int .i64 hashes] w fun e w' => e = .returned (.bool (formF bits hashes)) ∧ w = w' := by
  obtain ⟨r, er⟩ : ∃ r, r = formF bits hashes := ⟨_, rfl⟩
  have ER : Hid (r = decide (64 ≤ bits ∧ bits ≤ 65536 ∧ bits % 64 = 0 ∧ 1 ≤ hashes ∧ hashes ≤ 8)) := Lib.hid er
  rw [← er]
  clear er
  by_cases h1 : 64 ≤ bits
  case neg =>
    have t1 : decide (64 ≤ bits) = false := decide_eq_false h1
    have HX : Hid (r = false) := Lib.hid (by rw [ER.out]; exact decide_eq_false (fun h => h1 h.1))
    clear h1
    go_enter Tryz.func61, Tryz.ntmps61
    go_wp2_with fail
    go_ret
    exact ⟨by rw [HX.out]; rfl, rfl⟩
  have t1 : decide (64 ≤ bits) = true := decide_eq_true h1
  by_cases h2 : bits ≤ 65536
  case neg =>
    have t2 : decide (bits ≤ 65536) = false := decide_eq_false h2
    have HX : Hid (r = false) := Lib.hid (by rw [ER.out]; exact decide_eq_false (fun h => h2 h.2.1))
    clear h1 h2
    go_enter Tryz.func61, Tryz.ntmps61
    go_wp2_with fail
    go_ret
    exact ⟨by rw [HX.out]; rfl, rfl⟩
  have t2 : decide (bits ≤ 65536) = true := decide_eq_true h2
  obtain ⟨m, em, em2⟩ : ∃ m, bits % 64 = m ∧ bits.tmod 64 = m := ⟨_, rfl, by rw [Int.tmod_eq_emod_of_nonneg (by omega)]⟩
  by_cases h3 : m = 0
  case neg =>
    have t3 : (m == 0) = false := by rw [beq_eq_false_iff_ne]; exact h3
    have HX : Hid (r = false) := Lib.hid (by rw [ER.out]; exact decide_eq_false (fun h => h3 (by rw [← em]; exact h.2.2.1)))
    have xm : IntKind.i64.wrap m = m := IntWalk.i64_in _ (by omega)
    clear h1 h2 h3
    go_enter Tryz.func61, Tryz.ntmps61
    go_wp2_with fail
    go_ret
    exact ⟨by rw [HX.out]; rfl, rfl⟩
  subst h3
  by_cases h4 : 1 ≤ hashes
  case neg =>
    have t4 : decide (1 ≤ hashes) = false := decide_eq_false h4
    have HX : Hid (r = false) := Lib.hid (by rw [ER.out]; exact decide_eq_false (fun h => h4 h.2.2.2.1))
    clear h1 h2 h4
    go_enter Tryz.func61, Tryz.ntmps61
    go_wp2_with fail
    go_ret
    exact ⟨by rw [HX.out]; rfl, rfl⟩
  have t4 : decide (1 ≤ hashes) = true := decide_eq_true h4
  by_cases h5 : hashes ≤ 8
  case neg =>
    have t5 : decide (hashes ≤ 8) = false := decide_eq_false h5
    have HX : Hid (r = false) := Lib.hid (by rw [ER.out]; exact decide_eq_false (fun h => h5 h.2.2.2.2))
    clear h1 h2 h4 h5
    go_enter Tryz.func61, Tryz.ntmps61
    go_wp2_with fail
    go_ret
    exact ⟨by rw [HX.out]; rfl, rfl⟩
  have t5 : decide (hashes ≤ 8) = true := decide_eq_true h5
  have HX : Hid (r = true) := Lib.hid (by rw [ER.out]; exact decide_eq_true ⟨h1, h2, em, h4, h5⟩)
  clear h1 h2 h4 h5
  go_enter Tryz.func61, Tryz.ntmps61
  go_wp2_with fail
  go_ret
  exact ⟨by rw [HX.out]; rfl, rfl⟩

set_option maxRecDepth 100000 in
theorem positions_any (serial bits hashes : Int) (w : World) :
    Calls Tryz.prog 47 #[.int .i64 serial, .int .i64 bits, .int .i64 hashes] w fun e w' => e = .returned (.func (.func 79) #[] #[.pointer (some ⟨w.heap.size + 2, 0, none⟩), .pointer (some ⟨w.heap.size, 0, none⟩), .pointer (some ⟨w.heap.size + 1, 0, none⟩)]) ∧
      w' = ((w.alloc (.cells #[.int .i64 serial] 3)).alloc (.cells #[.int .i64 bits] 3)).alloc (.cells #[.int .i64 hashes] 3) := by
  go_enter Tryz.func47, Tryz.ntmps47
  go_wp2
  go_ret
  exact ⟨by simp, rfl⟩
end Go.Proofs.YtglgkdbhdjkeaaaGreatDoor
namespace Go.Proofs.YtglgkdbhdjkeaaaGreatDoor
open Go.RowKit

set_option maxRecDepth 100000 in
set_option maxHeartbeats 1000000 in
theorem valid_any (v : Value) (f : Flt) (w : World) (hv : FltR w v f) :
    Calls Tryz.prog 46 #[v] w fun e w' => e = .returned (.bool (validF f)) ∧ Below w.heap.size w w' := by
  obtain ⟨wv, rfl, hw⟩ := hv
  obtain ⟨wa, wcap, rfl, hwl, hwc, hwa⟩ := hw.form
  clear hw
  obtain ⟨r, er⟩ : ∃ r, r = validF f := ⟨_, rfl⟩
  have ER : Hid (r = (formF f.bits f.hashes && decide ((f.words.length : Int) = f.bits / 64))) := Lib.hid er
  rw [← er]
  clear er
  have f0 : Fr [] w (w.alloc (.cells #[.int .i64 f.bits, .int .i64 f.hashes, .slice wa f.words.length wcap] 37)) := (Fr.refl [] w).alloc _
  have q0 : (w.alloc (.cells #[.int .i64 f.bits, .int .i64 f.hashes, .slice wa f.words.length wcap] 37)).heap[w.heap.size]? = some (.cells #[.int .i64 f.bits, .int .i64 f.hashes, .slice wa f.words.length wcap] 37 (0, 0)) := heap_new rfl
  go_enter Tryz.func46, Tryz.ntmps46
  go_wp2_with fail
  generalize w.alloc (.cells #[.int .i64 f.bits, .int .i64 f.hashes, .slice wa f.words.length wcap] 37) = w0 at f0 q0 ⊢
  refine (form_any f.bits f.hashes w0).mono ?_
  rintro e w1 ⟨rfl, rfl⟩
  have c0 : w0.cell? ⟨w.heap.size, 0, none⟩ = some (.int .i64 f.bits) := by rw [row_cell q0 0]; rfl
  have c2 : w0.cell? ⟨w.heap.size, 2, none⟩ = some (.slice wa f.words.length wcap) := by rw [row_cell q0 2]; rfl
  clear q0
  cases hf : formF f.bits f.hashes with
  | false =>
    have HX : Hid (r = false) := Lib.hid (by rw [ER.out, hf]; rfl)
    clear hf
    go_wp2_with fail
    go_ret
    exact ⟨by rw [HX.out]; rfl, f0.toBelow (by simp)⟩
  | true =>
    have hp := formF_parts hf
    have HR2 : Hid (r = decide ((f.words.length : Int) = f.bits / 64)) := Lib.hid (by rw [ER.out, hf]; rfl)
    obtain ⟨q, eq, eq2⟩ : ∃ q, f.bits / 64 = q ∧ f.bits.tdiv 64 = q := ⟨_, rfl, by rw [Int.tdiv_eq_ediv_of_nonneg (by omega)]⟩
    have xq : IntKind.i64.wrap q = q := IntWalk.i64_in _ (by omega)
    have HEQ := Lib.hid eq
    clear hf hp eq
    by_cases hl : (f.words.length : Int) = q
    · have t1 : ((f.words.length : Int) == q) = true := by rw [beq_iff_eq]; exact hl
      have HX : Hid (r = true) := Lib.hid (by rw [HR2.out, HEQ.out]; exact decide_eq_true hl)
      clear hl
      go_wp2_with fail
      go_ret
      exact ⟨by rw [HX.out]; rfl, f0.toBelow (by simp)⟩
    · have t1 : ((f.words.length : Int) == q) = false := by rw [beq_eq_false_iff_ne]; exact hl
      have HX : Hid (r = false) := Lib.hid (by rw [HR2.out, HEQ.out]; exact decide_eq_false hl)
      clear hl
      go_wp2_with fail
      go_ret
      exact ⟨by rw [HX.out]; rfl, f0.toBelow (by simp)⟩
end Go.Proofs.YtglgkdbhdjkeaaaGreatDoor
namespace Go.Proofs.YtglgkdbhdjkeaaaGreatDoor
open Go.RowKit Go.Shelf
attribute [local go_sem] Oper.semAt_some

theorem joinL_two (a b : List UInt8) (ha : a.length ≤ 21) (hb : b.length ≤ 21) : (joinL [a, b]).length ≤ 140737488355328 := by
  have h1 : (Lib.decDigits a.length).length ≤ 21 := by have := Lib.itoa_length_le (a.length : Int) (by omega) (by omega); rwa [Lib.itoa_nonneg] at this
  have h2 : (Lib.decDigits b.length).length ≤ 21 := by have := Lib.itoa_length_le (b.length : Int) (by omega) (by omega); rwa [Lib.itoa_nonneg] at this
  simp only [joinL, joinE, List.flatMap_cons, List.flatMap_nil, List.length_append, List.length_cons, List.length_nil]
  omega
/-- What the iterator hands out. -/
def encsP (serial bits hashes : Int) (i : Fin hashes.toNat) : Array Value := #[.int .i64 (posF serial bits i.val : Int)]
/-- What a round keeps for the iterator. -/
def KpP (bs bb : Nat) (serial bits : Int) (A B : World) : Prop :=
  (A.heap[bs]? = some (.cells #[.int .i64 serial] 3 (0, 0)) → B.heap[bs]? = some (.cells #[.int .i64 serial] 3 (0, 0))) ∧ (A.heap[bb]? = some (.cells #[.int .i64 bits] 3 (0, 0)) → B.heap[bb]? = some (.cells #[.int .i64 bits] 3 (0, 0))) ∧ (Tabs A → Tabs B)
theorem KpP.t {bs bb : Nat} {serial bits : Int} {A B C : World} (h : KpP bs bb serial bits A B) (k : KpP bs bb serial bits B C) : KpP bs bb serial bits A C :=
  ⟨fun x => k.1 (h.1 x), fun x => k.2.1 (h.2.1 x), fun x => k.2.2 (h.2.2 x)⟩

set_option maxRecDepth 100000 in
set_option maxHeartbeats 4000000 in
theorem positions_stops (m bh bs bb : Nat) (serial bits hashes : Int) (w : World) (hm : 1 ≤ m) (hs : -9223372036854775808 ≤ serial ∧ serial ≤ 9223372036854775807) (hb : 1 ≤ bits ∧ bits ≤ 65536) (hh : 0 ≤ hashes ∧ hashes ≤ 8)
    (hb0 : w.heap[bh]? = some (.cells #[.int .i64 hashes] 3 (0, 0))) (hb1 : w.heap[bs]? = some (.cells #[.int .i64 serial] 3 (0, 0))) (hb2 : w.heap[bb]? = some (.cells #[.int .i64 bits] 3 (0, 0))) (hT : Tabs w) :
    SeqStopsK Fence.wide m Tryz.prog 79 #[.pointer (some ⟨bh, 0, none⟩), .pointer (some ⟨bs, 0, none⟩), .pointer (some ⟨bb, 0, none⟩)] (encsP serial bits hashes) (KpP bs bb serial bits) (fun xs => xs = List.finRange hashes.toNat) (fun _ => True) hashes.toNat w := fun l J Jx W hW hJ hJx hY h0 => by
  have hB0 := (Fr.ofBelow (X := []) hW).at hb0 (by simp)
  have hB1 := (Fr.ofBelow (X := []) hW).at hb1 (by simp)
  have hB2 := (Fr.ofBelow (X := []) hW).at hb2 (by simp)
  have hT2 := hT.fr (Fr.ofBelow hW)
  have hcs := cell_of_one hB0
  have HY := Lib.hid hY
  have HJ := Lib.hid hJ
  clear hY hJ hJx hb0 hb1 hb2 hW hT
  refine callsIn_of_wp Tryz.func79 rfl trivial ?_ rfl
  simp only [Tryz.ntmps79, List.size_toArray, List.length_cons, List.length_nil, Nat.reduceAdd, Nat.reduceSub, Array.replicate_succ, Array.replicate_zero, List.push_toArray, List.append_toArray, List.nil_append, List.cons_append]
  gi_wp2_with fail
  clear hcs hB0
  gi_loopw [7] (fun i wr => ∃ k : Nat, k ≤ hashes.toNat ∧ i = .int .i64 (k : Int) ∧ J ((List.finRange hashes.toNat).take k) wr ∧ wr.heap[bs]? = some (.cells #[.int .i64 serial] 3 (0, 0)) ∧ wr.heap[bb]? = some (.cells #[.int .i64 bits] 3 (0, 0)) ∧ Tabs wr)
    (fun i _ => hashes.toNat - (intOf i).toNat)
  case atStart => exact ⟨0, by omega, rfl, h0, hB1, hB2, hT2⟩
  case round =>
    clear hB1 hB2 hT2 h0
    obtain ⟨k, hk, rfl, hJk, hb1, hb2, hTk⟩ := hrel
    have HB1 := Lib.hid hb1
    have HB2 := Lib.hid hb2
    have HT := Lib.hid hTk
    have HK := Lib.hid hJk
    have hcs := cell_of_one hb1
    have hcb := cell_of_one hb2
    clear hb1 hb2 hTk hJk
    by_cases hlt : k < hashes.toNat
    · have hmx : Tryz.prog.follows .mixedOrders = true := by kernel_rfl
      have t1 : decide ((k : Int) < hashes) = true := decide_eq_true (by omega)
      have HPE := Lib.hid (posF_eq serial hb.1 k)
      have hsl := Lib.itoa_length_le serial hs.1 hs.2
      have hkl : (Lib.decDigits k).length ≤ 21 := by have := Lib.itoa_length_le (k : Int) (by omega) (by omega); rwa [Lib.itoa_nonneg] at this
      have HJL := Lib.hid (joinL_two _ _ hsl hkl)
      gi_wp2_with fail
      have hw0 : Fr [] wr wr.drew := (Fr.refl [] wr).drew
      have hS0 : wr.drew.cell? ⟨bs, 0, none⟩ = some (.int .i64 serial) ∧ wr.drew.cell? ⟨bb, 0, none⟩ = some (.int .i64 bits) := ⟨hcs, hcb⟩
      refine regionY_held 9 (fun W' => W'.cell? ⟨bs, 0, none⟩ = some (.int .i64 serial) ∧ W'.cell? ⟨bb, 0, none⟩ = some (.int .i64 bits)) hmx ?_
      change HeldY _ _ _ _ _ _ _ 11 (Array.replicate 11 false) _ _
      refine hy_take 0 (v := .func (.yield l) #[] #[]) rfl (by kernel_rfl) (by kernel_rfl) (by kernel_rfl) rfl hS0 (fun W' hS => by go_simp) rfl ?_
      refine hy_take 1 (v := .int .i64 serial) rfl (by kernel_rfl) (by kernel_rfl) (by kernel_rfl) rfl hS0 (fun W' hS => by obtain ⟨h0, h1⟩ := hS; go_simp) rfl ?_
      refine hy_take 3 (v := .int .i64 (k : Int)) rfl (by kernel_rfl) (by kernel_rfl) (by kernel_rfl) rfl hS0 (fun W' hS => by go_simp) rfl ?_
      refine hy_take 7 (v := .int .i64 bits) rfl (by kernel_rfl) (by kernel_rfl) (by kernel_rfl) rfl hS0 (fun W' hS => by obtain ⟨h0, h1⟩ := hS; go_simp) rfl ?_
      simp only [Act.put, List.setIfInBounds_toArray, List.set_cons_zero, List.set_cons_succ]
      refine hy_one 2 (by kernel_rfl) (by decide) rfl (by kernel_rfl) rfl (fun K' hK => ?_)
      go_simp
      refine (itoaI_any serial _ hs.1 hs.2 (HT.out.fr hw0)).mono ?_
      rintro e w1 ⟨rfl, hbb1⟩
      have hw1 : Fr [] wr w1 := hw0.below hbb1 (Nat.le_refl _)
      refine hK.out _ _ ⟨hw1.cell hcs (by simp), hw1.cell hcb (by simp)⟩ ?_
      clear hK K'
      try simp only [Act.put, List.setIfInBounds_toArray, List.set_cons_zero, List.set_cons_succ]
      refine hy_one 4 (by kernel_rfl) (by decide) rfl (by kernel_rfl) rfl (fun K' hK => ?_)
      go_simp
      refine (itoa_any k _ (by omega) (HT.out.fr hw1)).mono ?_
      rintro e w2 ⟨rfl, hbb2⟩
      have hw2 : Fr [] wr w2 := hw1.below hbb2 hw1.size
      refine hK.out _ _ ⟨hw2.cell hcs (by simp), hw2.cell hcb (by simp)⟩ ?_
      clear hK K'
      try simp only [Act.put, List.setIfInBounds_toArray, List.set_cons_zero, List.set_cons_succ]
      refine hy_one 5 (by kernel_rfl) (by decide) rfl (by kernel_rfl) rfl (fun K' hK => ?_)
      go_simp
      have hw2a := hw2.alloc (.cells #[.string ⟨(Lib.itoa serial).toArray⟩, .string ⟨(Lib.decDigits k).toArray⟩] 9)
      refine hK.out _ _ ⟨hw2a.cell hcs (by simp), hw2a.cell hcb (by simp)⟩ ?_
      clear hK K'
      try simp only [Act.put, List.setIfInBounds_toArray, List.set_cons_zero, List.set_cons_succ]
      refine hy_one 6 (by kernel_rfl) (by decide) rfl (by kernel_rfl) rfl (fun K' hK => ?_)
      go_simp
      refine (list_any _ [Lib.itoa serial, Lib.decDigits k] _ (strs_two (heap_new rfl)) HJL.out (HT.out.fr hw2a)).mono ?_
      rintro e w3 ⟨rfl, hbb3⟩
      have hw3 : Fr [] wr w3 := hw2a.below hbb3 hw2a.size
      refine hK.out _ _ ⟨hw3.cell hcs (by simp), hw3.cell hcb (by simp)⟩ ?_
      clear hK K'
      try simp only [Act.put, List.setIfInBounds_toArray, List.set_cons_zero, List.set_cons_succ]
      refine hy_one 8 (by kernel_rfl) (by decide) rfl (by kernel_rfl) rfl (fun K' hK => ?_)
      go_simp
      refine (below_any (dlist [Lib.itoa serial, Lib.decDigits k]) bits _ (by rw [show (dlist [Lib.itoa serial, Lib.decDigits k]).length = 16 from dsum_length _]; decide) (by omega)).mono ?_
      rintro e w4 ⟨rfl, hbb4⟩
      have hw4 : Fr [] wr w4 := hw3.below hbb4 hw3.size
      rw [HPE.out]
      refine hK.out _ _ ⟨hw4.cell hcs (by simp), hw4.cell hcb (by simp)⟩ ?_
      clear hK K'
      try simp only [Act.put, List.setIfInBounds_toArray, List.set_cons_zero, List.set_cons_succ]
      have hJ2 := JC_below HJ.out HK.out hw4
      obtain ⟨fn, tmps, asg, bd, hy, hR⟩ := HY.out ((List.finRange hashes.toNat).take k) ⟨k, hlt⟩ w4 hJ2 (by rw [List.length_take, List.length_finRange]; omega)
      unfold encsP at hy
      dsimp only at hy
      have HR := Lib.hid (hR.mono (R' := fun e W' => ∃ b', e = .returned (.bool b') ∧ YPostC J Jx (KpP bs bb serial bits) ((List.finRange hashes.toNat).take k) ⟨k, hlt⟩ w4 b' W') (fun e W' h => by rcases h with ⟨h1, h2, h3⟩ | ⟨h1, h2⟩; exact ⟨true, h1, Or.inl ⟨rfl, h2, h3⟩⟩; exact ⟨false, h1, Or.inr ⟨rfl, h2⟩⟩))
      clear hR hJ2
      refine hy_last (by kernel_rfl) rfl (by kernel_rfl) rfl (fun K' hK => ?_)
      go_simp
      refine HR.out.mono ?_
      rintro e w5 ⟨yb, rfl, hyp⟩
      have HYP := Lib.hid hyp
      clear hyp
      refine hK.out _ _ ?_
      clear hK K'
      try simp only [Act.put, List.setIfInBounds_toArray, List.set_cons_zero, List.set_cons_succ]
      refine ay_one 10 (by kernel_rfl) rfl (by kernel_rfl) rfl (fun K' hK => ?_)
      go_simp
      refine hK.out _ _ ?_
      clear hK K'
      refine ay_done (by kernel_rfl) ?_
      clear HR hy hcs hcb hS0
      cases yb with
      | true =>
        obtain ⟨_, hJ3, hK3⟩ | ⟨h, _⟩ := HYP.out
        · have HB13 := Lib.hid (hK3.1 (hw4.at HB1.out (by simp)))
          have HB23 := Lib.hid (hK3.2.1 (hw4.at HB2.out (by simp)))
          have HT3 := Lib.hid (hK3.2.2 (HT.out.fr hw4))
          have HJ3 : Hid (J ((List.finRange hashes.toNat).take (k + 1)) w5) := Lib.hid (by rw [List.take_succ_eq_append_getElem (by simpa using hlt)]; simpa using hJ3)
          clear hJ3 hK3 HYP
          gi_wp2_with fail
          go_roundw
          case rel => exact ⟨k + 1, by omega, by go_num, HJ3.out, HB13.out, HB23.out, HT3.out⟩
          case measure => simp [intOf]; omega
        · cases h
      | false =>
        obtain ⟨h, _⟩ | ⟨_, hx3⟩ := HYP.out
        · cases h
        · have HX3 := Lib.hid hx3
          clear hx3 HYP
          gi_wp2_with fail
          refine bodyPost_ret (results_none rfl _ _ _) rfl ?_
          exact ⟨⟨_, rfl⟩, .inr ⟨_, HX3.out⟩⟩
    · obtain rfl : k = hashes.toNat := by omega
      have t1 : decide (((hashes.toNat : Nat) : Int) < hashes) = false := decide_eq_false (by omega)
      have HJk : Hid (J (List.finRange hashes.toNat) wr) := by have := HK.out; rw [List.take_of_length_le (by simp)] at this; exact Lib.hid this
      gi_wp2_with fail
      go_end0
      exact ⟨⟨_, rfl⟩, .inl ⟨_, rfl, HJk.out⟩⟩
end Go.Proofs.YtglgkdbhdjkeaaaGreatDoor
namespace Go.Proofs.YtglgkdbhdjkeaaaGreatDoor
open Go.RowKit

def wrdV (n : Nat) : Value := .int .u64 (n : Int)
/-- A slice of numbers that the call has made. -/
def OwnW (base : Nat) (w : World) (v : Value) (l : List Nat) : Prop := w.ownsRow base 89 1 v l.length (l.map wrdV)
theorem OwnW.fr {X : List Nat} {base : Nat} {w w' : World} {v : Value} {l : List Nat} (h : OwnW base w v l) (hf : Fr X w w') (hx : ∀ k, v.ownBlock = some k → k ∉ X) : OwnW base w' v l := ownsRow_fr h hf hx
theorem OwnW.nil {base : Nat} {w : World} : OwnW base w (.slice none 0 0) [] := ⟨rfl, Or.inl ⟨rfl, rfl⟩⟩
theorem OwnW.form {base : Nat} {w : World} {v : Value} {l : List Nat} (h : OwnW base w v l) :
    (v = .slice none 0 0 ∧ l = []) ∨ ∃ g cap cur, v = .slice (some ⟨g, 0, none⟩) l.length cap ∧ base ≤ g ∧ w.heap[g]? = some (.cells cur 89 (0, 0)) ∧ l.length ≤ cap ∧ cap ≤ maxLen ∧ cur.size = cap ∧ cur.toList.take l.length = l.map wrdV := by
  rcases h.2 with ⟨h1, h2⟩ | ⟨g, cap, cur, hv, hb, hg, h3, h4, h5, h6⟩
  · exact Or.inl ⟨h1, List.length_eq_zero_iff.1 h2⟩
  · exact Or.inr ⟨g, cap, cur, hv, hb, hg, h3, h4, by simpa using h5, by simpa using h6⟩
theorem OwnW.formN {base : Nat} {w : World} {g n cap : Nat} {l : List Nat} (h : OwnW base w (.slice (some ⟨g, 0, none⟩) n cap) l) (hn : l.length = n) :
    ∃ cur, base ≤ g ∧ w.heap[g]? = some (.cells cur 89 (0, 0)) ∧ n ≤ cap ∧ cap ≤ maxLen ∧ cur.size = cap ∧ cur.toList.take n = l.map wrdV := by
  rcases h.form with ⟨h0, _⟩ | ⟨g', cap', cur, h0, hb, hg, h3, h4, h5, h6⟩
  · cases h0
  · subst hn
    cases h0
    exact ⟨cur, hb, hg, h3, h4, h5, h6⟩
theorem wrdV_at {n : Nat} {cur : Array Value} {l : List Nat} (h : cur.toList.take n = l.map wrdV) (hn : l.length = n) (i : Nat) (hi : i < n) : cur[i]? = some (.int .u64 (l.getD i 0 : Nat)) := by
  subst hn
  have h7 : (cur.toList.take l.length)[i]? = cur[i]? := by rw [List.getElem?_take, if_pos hi, Array.getElem?_toList]
  rw [← h7, h, List.getElem?_map, List.getElem?_eq_getElem hi]
  simp [wrdV, hi]
/-- A cell of an own slice of numbers that is set. -/
theorem ownW_set {base : Nat} {w : World} {g cap n i : Nat} {cur : Array Value} {l : List Nat} (hb : base ≤ g) (hg : w.heap[g]? = some (.cells cur 89 (0, 0))) (hn : l.length = n) (h3 : n ≤ cap) (h4 : cap ≤ maxLen) (h5 : cur.size = cap)
    (h6 : cur.toList.take n = l.map wrdV) (x : Nat) : OwnW base (w.setCell ⟨g, i, none⟩ (.int .u64 (x : Int))) (.slice (some ⟨g, 0, none⟩) n cap) (l.set i x) := by
  refine ⟨by simp [wrdV], Or.inr ⟨g, cap, cur.setIfInBounds i (.int .u64 (x : Int)), by rw [List.length_set, hn], hb, row_set hg i _, by rw [List.length_set]; omega, h4, by simp [h5], ?_⟩⟩
  rw [List.length_set, hn, Nat.mul_one, Array.toList_setIfInBounds, List.take_set, h6, List.map_set]; rfl
theorem wInfo : (Tryz.prog.info? 89).map (fun i => (i.zero, i.size, i.bytes)) = some (some (.int .u64 0), 1, 8) := by kernel_rfl

theorem wpList_appW {ops : Array Oper} {rest : List Oper} {o : Oper} {a : Act} {Q : Exit → Act → World → Prop} {w : World} (hg : o.guard = none) (s x : Operand)
    (ho : o.op = .call { callee := .builtin .append, args := #[s, x], argTypes := #[35, 35] }) (base : Nat) (ev : Value) (l : List Nat) (t : Nat) (w0 : World)
    (hs : a.eval s = ev) (hx : a.eval x = .slice (some ⟨w.heap.size, 0, none⟩) 1 1) (hown : OwnW base w ev l) (hfr : Fr [] w0 w) (hb0 : w0.heap.size ≤ base) (hb : base ≤ w.heap.size) (hl : l.length < 1000000)
    (h : ∀ v' w', OwnW base w' v' (l ++ [t]) → Fr [] w0 w' → Fr ev.ownBlock.toList w w' → wpList Tryz.prog ops Q rest (a.put o.dst v') w') :
    wpList Tryz.prog ops Q (o :: rest) a (w.alloc (.cells #[.int .u64 (t : Int)] 89)) := by
  obtain ⟨i0, hi, hz0, hz1, hz2⟩ := info_parts wInfo
  refine wpList_append_own _ hg s x 35 ho base 89 i0 (.int .u64 0) 1 8 Tryz.underlying35 hi hz0 hz1 hz2 rfl (by decide) ev _ _ hs (ownsRow_fr hown ((Fr.refl [] w).alloc _) (by simp)) ⟨w.heap.size, 0, none⟩ 1 1 [wrdV t] hx rfl
    (fun j u hj => ?_) (by simp [wrdV, Value.oneCell']) (by unfold maxLen; omega) (by omega) (by simp; omega) ?_
  · match j, hj with
    | 0, hj =>
      simp at hj; subst hj
      rw [show (⟨w.heap.size, 0, none⟩ : Addr).add 0 = ⟨w.heap.size, 0, none⟩ by simp [Addr.add]]
      exact cell_of_one (heap_new rfl)
  · intro v' w' hown' hgrow _
    refine h v' w' ?_ ((hfr.alloc _).grown hgrow (fun r e => Or.inr ?_)) (((Fr.refl _ w).alloc _).grown hgrow (fun r e => Or.inl (by simp [e])))
    · simpa [OwnW, wrdV] using hown'
    · exact Nat.le_trans hb0 (ownBlock_cells hown r e).1
theorem wpListIn_makeW {F : Fence} {n : Nat} {ops : Array Oper} {rest : List Oper} {o : Oper} {a : Act} {Q : Exit → Act → World → Prop} {w : World} (hg : o.guard = none) (l c : Operand)
    (hop : o.op = Op.makeSlice 35 l c) (k : Nat) (hl : a.eval l = .int .i64 (k : Int)) (hc : a.eval c = .int .i64 (k : Int)) (hk : k ≤ 1000000)
    (h : ∀ w', OwnW w.heap.size w' (.slice (some ⟨w.heap.size, 0, none⟩) k k) (List.replicate k 0) → Fr [] w w' → wpListIn F n Tryz.prog ops Q rest (a.put o.dst (.slice (some ⟨w.heap.size, 0, none⟩) k k)) w') :
    wpListIn F n Tryz.prog ops Q (o :: rest) a w := by
  obtain ⟨i0, hi, hz0, hz1, hz2⟩ := info_parts wInfo
  refine wpListIn_plain hg fun K hK' => ?_
  obtain ⟨w', hrun, r1, r2⟩ := run_make_full (P := Tryz.prog) w w.heap.size 35 89 i0 (.int .u64 0) 1 Tryz.underlying35 hi hz0 hz1 .i64 .i64 k (by rw [hz2]; omega) (by unfold maxLen; omega) (Nat.le_refl _)
  unfold Oper.wpIn
  refine ⟨?_, ?_⟩
  · simp [Oper.about, hop]
  · rw [Oper.semAt_plain F _ _ (by rw [hop]; intro c hc'; cases hc')]
    simp [execOp, hop, hl, hc, hrun, Result.andThen]
    refine hK' _ _ (h w' ?_ ((Fr.refl [] w).grown r2 (fun r e => by cases e)))
    have e : (madeCells (Value.int .u64 0).cells (k * 1)).toList = List.replicate k (.int .u64 0) := by rw [Nat.mul_one]; exact toList_madeCells_one _ _
    rw [e] at r1
    unfold OwnW
    rw [List.length_replicate, List.map_replicate]
    exact r1
theorem OwnW.ws {base : Nat} {w : World} {v : Value} {l : List Nat} (h : OwnW base w v l) : Ws w v l := by
  rcases h.form with ⟨rfl, rfl⟩ | ⟨g, cap, cur, rfl, hb, hg, h3, h4, h5, h6⟩
  · exact Or.inl ⟨rfl, none, rfl⟩
  · refine Or.inr ⟨g, 0, cap, rfl, h3, by unfold maxLen at h4; omega, lt_of_block hg, fun i hi => ?_⟩
    rw [row_cell hg, Nat.zero_add]
    exact wrdV_at h6 rfl i hi
end Go.Proofs.YtglgkdbhdjkeaaaGreatDoor
namespace Go.Proofs.YtglgkdbhdjkeaaaGreatDoor
open Go.RowKit

set_option maxRecDepth 100000 in
set_option maxHeartbeats 2000000 in
theorem set_any (base bf g cap n : Nat) (bits hashes : Int) (W : List Nat) (w : World) (hb : w.heap[bf]? = some (.cells #[.int .i64 bits, .int .i64 hashes, .slice (some ⟨g, 0, none⟩) W.length cap] 37 (0, 0))) (ho : OwnW base w (.slice (some ⟨g, 0, none⟩) W.length cap) W)
    (hn : n / 64 < W.length) (hn9 : n ≤ 1000000) (hW : W64 W) :
    Calls Tryz.prog 62 #[.int .i64 (n : Int), .pointer (some ⟨bf, 0, none⟩)] w fun e w' => (∃ v, e = .returned v) ∧ Fr [g] w w' ∧ OwnW base w' (.slice (some ⟨g, 0, none⟩) W.length cap) (setW W n) := by
  obtain ⟨cur, h1, hg, h3, h4, h5, h6⟩ := ho.formN rfl
  obtain ⟨q, r, hq, hr⟩ : ∃ q r, q = n / 64 ∧ r = n % 64 := ⟨_, _, rfl, rfl⟩
  have e1 : (n : Int).tdiv 64 = (q : Int) := by rw [Int.tdiv_eq_ediv_of_nonneg (by omega)]; omega
  have e2 : (n : Int).tmod 64 = (r : Int) := by rw [Int.tmod_eq_emod_of_nonneg (by omega)]; omega
  have w1 : IntKind.i64.wrap (q : Int) = (q : Int) := IntWalk.i64_in _ (by omega)
  have w2 : IntKind.i64.wrap (r : Int) = (r : Int) := IntWalk.i64_in _ (by omega)
  have hr64 : r < 64 := by omega
  have c2 : w.drew.cell? ⟨bf, 2, none⟩ = some (.slice (some ⟨g, 0, none⟩) W.length cap) := by
    have : w.drew.heap[bf]? = _ := hb
    rw [row_cell this 2]; rfl
  obtain ⟨x, hx⟩ : ∃ x, x = W.getD q 0 := ⟨_, rfl⟩
  have cq : w.drew.cell? ⟨g, q, none⟩ = some (.int .u64 (x : Int)) := by
    have h7 : w.drew.heap[g]? = _ := hg
    rw [row_cell h7 q, hx]
    exact wrdV_at h6 rfl q (by omega)
  have fq : w.drew.frozen? ⟨g, q, none⟩ = false := row_free (show w.drew.heap[g]? = _ from hg) q
  have hx64 : x < 18446744073709551616 := by rw [hx]; exact hW.at q
  have i0 : (0 : Int) ≤ (q : Int) := by omega
  have i1 : (q : Int) < (W.length : Int) := by omega
  have HV : Hid (Go.bits .or .u64 (x : Int) (IntKind.u64.wrap (2 ^ r)) = ((x ||| 2 ^ r : Nat) : Int)) := Lib.hid (by
    have hp : 2 ^ r < 18446744073709551616 := Nat.lt_of_lt_of_le (Nat.pow_lt_pow_right (by decide) hr64) (by decide)
    rw [show ((2 : Int) ^ r) = ((2 ^ r : Nat) : Int) by simp]
    generalize 2 ^ r = p at hp ⊢
    rw [show IntKind.u64.wrap (p : Int) = (p : Int) by rw [IntKind.wrap_u64]; omega]
    exact u64_or_nat _ _ hx64 hp)
  have HS : Hid (setW W n = W.set q (x ||| 2 ^ r)) := Lib.hid (by unfold setW; rw [hx, hq, hr])
  have HG := Lib.hid hg
  have H6 := Lib.hid h6
  have HX := Lib.hid hx
  clear hb ho hg h6 hx hq hr hn
  go_enter Tryz.func62, Tryz.ntmps62
  go_wp2_with fail
  go_region
  all_goals
    rw [HV.out]
    go_end0
    refine ⟨⟨_, rfl⟩, ?_, ?_⟩
    · exact ((Fr.refl [g] w).setCell _ _ (by simp)).drew
    · rw [HS.out]
      exact (ownW_set h1 HG.out rfl h3 h4 h5 H6.out (x ||| 2 ^ r) (i := q)).fr ((Fr.refl [] _).drew) (by simp)
end Go.Proofs.YtglgkdbhdjkeaaaGreatDoor
namespace Go.Proofs.YtglgkdbhdjkeaaaGreatDoor
open Go.RowKit

/-- A list of numbers with signs. -/
def Zs (w : World) (v : Value) (l : List Int) : Prop :=
  (l = [] ∧ ∃ a, v = .slice a 0 0) ∨ ∃ b off cap, v = .slice (some ⟨b, off, none⟩) l.length cap ∧ l.length ≤ cap ∧ cap ≤ 9223372036854775807 ∧ b < w.heap.size ∧
    ∀ i, i < l.length → w.cell? ⟨b, off + i, none⟩ = some (.int .i64 (l.getD i 0))
theorem Zs.fr {X : List Nat} {w w' : World} {v : Value} {l : List Int} (h : Zs w v l) (hf : Fr X w w') (hx : ∀ b, v.ownBlock = some b → b ∉ X) : Zs w' v l := by
  rcases h with h | ⟨b, off, cap, hv, h1, h2, h3, h4⟩
  · exact Or.inl h
  · exact Or.inr ⟨b, off, cap, hv, h1, h2, Nat.lt_of_lt_of_le h3 hf.size, fun i hi => hf.cell (h4 i hi) (hx b (by rw [hv]; rfl))⟩
theorem Zs.fr0 {w w' : World} {v : Value} {l : List Int} (h : Zs w v l) (hf : Fr [] w w') : Zs w' v l := h.fr hf (by simp)
theorem Zs.form {w : World} {v : Value} {l : List Int} (h : Zs w v l) : ∃ a cap, v = .slice a l.length cap ∧ l.length ≤ cap ∧ cap ≤ 9223372036854775807 ∧ (∀ i, i < l.length → ∃ b off, a = some ⟨b, off, none⟩) := by
  rcases h with ⟨rfl, a, rfl⟩ | ⟨b, off, cap, rfl, h1, h2, _, _⟩
  · exact ⟨a, 0, rfl, by simp, by simp, fun i hi => absurd hi (by simp)⟩
  · exact ⟨_, cap, rfl, h1, h2, fun i hi => ⟨b, off, rfl⟩⟩
theorem Zs.cell {w : World} {b off n cap : Nat} {l : List Int} (h : Zs w (.slice (some ⟨b, off, none⟩) n cap) l) (i : Nat) (hi : i < l.length) : w.cell? ⟨b, off + i, none⟩ = some (.int .i64 (l.getD i 0)) := by
  rcases h with ⟨rfl, _⟩ | ⟨b', off', cap', hv, _, _, _, h4⟩
  · exact absurd hi (by simp)
  · cases hv; exact h4 i hi
end Go.Proofs.YtglgkdbhdjkeaaaGreatDoor
namespace Go.Proofs.YtglgkdbhdjkeaaaGreatDoor
open Go.RowKit Go.Shelf
attribute [local go_sem] Oper.semAt_some

/-- The filter without anything. -/
def zeroF : Value := .agg #[.int .i64 0, .int .i64 0, .slice none 0 0]
/-- The words behind some serial numbers. -/
def accF (bits hashes : Int) (l : List Int) : List Nat := setsW (List.replicate (bits / 64).toNat 0) (posA l bits hashes)
theorem KpP.fr {bs bb : Nat} {serial bits : Int} {X : List Nat} {B : Nat} {w A C : World} (hf : Fr X A C) (hw : Tabs w) (hB : w.heap.size ≤ B) (hx : ∀ x ∈ X, B ≤ x) (h0 : bs ∉ X) (h1 : bb ∉ X) : KpP bs bb serial bits A C :=
  ⟨fun h => hf.at h h0, fun h => hf.at h h1, fun h => h.frX hf hw hB hx⟩
structure MkInv (w : World) (bf rb g cap : Nat) (bits hashes : Int) (lv : Value) (l : List Int) (gh : Nat) (iv : Value) (ds : List Deferred) (wr : World) (n : Nat) (Ds : List Nat) : Prop where
  k : n ≤ l.length
  gh : gh = l.length - n
  iv : iv = .int .i64 (n : Int)
  fr : Fr [] w wr
  r : wr.heap[rb]? = some (.cells #[.int .i64 0, .int .i64 0, .slice none 0 0] 37 (0, 0))
  f : wr.heap[bf]? = some (.cells #[.int .i64 bits, .int .i64 hashes, .slice (some ⟨g, 0, none⟩) cap cap] 37 (0, 0))
  s : wr.heap[bf + 1]? = some (.cells #[.func (.func 62) #[] #[.pointer (some ⟨bf, 0, none⟩)]] 101 (0, 0))
  o : OwnW w.heap.size wr (.slice (some ⟨g, 0, none⟩) cap cap) (accF bits hashes (l.take n))
  ds : ds = Ds.map markD
  m : Marks w.heap.size Ds wr

theorem OwnW.kept {base : Nat} {w w' : World} {v : Value} {l : List Nat} {row : Option Nat} (h : OwnW base w v l) (hg : w.grownBy w' row) (hr : ∀ b o, w.heap[b]? = some o → o.isCells = true → some b ≠ row) : OwnW base w' v l := by
  refine ⟨h.1, ?_⟩
  rcases h.2 with h | ⟨b, cap, cur, hv, hb, hh, h3⟩
  · exact Or.inl h
  · exact Or.inr ⟨b, cap, cur, hv, hb, (hg.block b (lt_of_block hh) (fun e => hr b _ hh rfl e)).trans hh, h3⟩
theorem OwnW.lt {base : Nat} {w : World} {g n cap : Nat} {l : List Nat} (h : OwnW base w (.slice (some ⟨g, 0, none⟩) n cap) l) : base ≤ g ∧ g < w.heap.size ∧ ∃ cur, w.heap[g]? = some (.cells cur 89 (0, 0)) := by
  rcases h.form with ⟨h0, _⟩ | ⟨g', cap', cur, h0, hb, hg, _⟩
  · cases h0
  · cases h0; exact ⟨hb, lt_of_block hg, cur, hg⟩
theorem Marks.frX {B : Nat} {X Ds : List Nat} {w w' : World} (h : Marks B Ds w) (hf : Fr X w w') (hx : ∀ x ∈ X, ∀ o, w.heap[x]? = some o → o.isCells = true) : Marks B Ds w' :=
  ⟨h.1, fun D hD => ⟨(h.2 D hD).1, hf.at (h.2 D hD).2 (fun hm => by have := hx D hm _ (h.2 D hD).2; cases this)⟩⟩
theorem Marks.newX {B : Nat} {X Ds : List Nat} {w w' : World} {D : Nat} (h : Marks B Ds w) (hf : Fr X w w') (hx : ∀ x ∈ X, ∀ o, w.heap[x]? = some o → o.isCells = true) (hD : w.heap.size ≤ D) (hB : B ≤ w.heap.size) (hd : w'.heap[D]? = some (.deferred (some []))) : Marks B (D :: Ds) w' := by
  refine ⟨List.nodup_cons.2 ⟨fun hm => ?_, h.1⟩, fun x hx' => ?_⟩
  · have := (Array.getElem?_eq_some_iff.1 (h.2 D hm).2).1
    omega
  · rcases List.mem_cons.1 hx' with rfl | hx'
    · exact ⟨by omega, hd⟩
    · exact (h.frX hf hx).2 x hx'
theorem posA_snoc (l : List Int) (bits hashes : Int) (k : Nat) (hk : k < l.length) : accF bits hashes (l.take (k + 1)) = setsW (accF bits hashes (l.take k)) ((List.finRange hashes.toNat).map fun i => posF (l.getD k 0) bits i.val) := by
  unfold accF
  rw [take_snoc' l k 0 hk, posA, List.flatMap_append, setsW_app]
  congr 1
  rw [List.flatMap_cons, List.flatMap_nil, List.append_nil]
  unfold posL
  exact List.ext_getElem (by simp) (fun i h1 h2 => by simp)
/-- What Make returns. -/
def MakePost (w : World) (l : List Int) (bits hashes : Int) (e : Ending) (w' : World) : Prop :=
  (formF bits hashes = true → ∃ wv, e = .returned (.tuple #[.agg #[.int .i64 bits, .int .i64 hashes, wv], .int .i64 0]) ∧ OwnW w.heap.size w' wv (makeF l bits hashes)) ∧ (formF bits hashes = false → e = .returned (.tuple #[zeroF, .int .i64 1])) ∧ Below w.heap.size w w'
set_option maxRecDepth 100000 in
set_option maxHeartbeats 4000000 in
theorem make_any (v : Value) (l : List Int) (bits hashes : Int) (w : World) (hv : Zs w v l) (hi : ∀ s ∈ l, -9223372036854775808 ≤ s ∧ s ≤ 9223372036854775807) (hT : Tabs w) :
    Calls Tryz.prog 28 #[v, .int .i64 bits, .int .i64 hashes] w (MakePost w l bits hashes) := by
  obtain ⟨la, lcap, rfl, hll, hlc, hla⟩ := hv.form
  have HV := Lib.hid hv
  have HT := Lib.hid hT
  have HI := Lib.hid hi
  clear hv hT hi
  refine (callsIn_wide (n := 3)).1 ?_
  refine callsIn_of_wp_marks Tryz.func28 rfl trivial ?_ rfl
  simp only [Tryz.ntmps28, List.size_toArray, List.length_cons, List.length_nil, Nat.reduceAdd, Nat.reduceSub, Array.replicate_succ, Array.replicate_zero, List.push_toArray, List.append_toArray, List.nil_append, List.cons_append]
  gi_wp2_with fail
  obtain ⟨w1, hw1⟩ : ∃ w1, w1 = w.alloc (.cells #[.int .i64 0, .int .i64 0, .slice none 0 0] 37) := ⟨_, rfl⟩
  have hf1 : Fr [] w w1 := by rw [hw1]; exact (Fr.refl [] w).alloc _
  have hr1 : w1.heap[w.heap.size]? = some (.cells #[.int .i64 0, .int .i64 0, .slice none 0 0] 37 (0, 0)) := by rw [hw1]; exact heap_new rfl
  rw [← hw1]
  obtain ⟨rb, erb⟩ : ∃ rb, rb = w.heap.size := ⟨_, rfl⟩
  rw [← erb] at hr1
  simp only [← erb]
  have c0 := row_cell hr1 0
  have c1 := row_cell hr1 1
  have c2 := row_cell hr1 2
  have d0 := row_free hr1 0
  have d1 := row_free hr1 1
  have d2 := row_free hr1 2
  simp at c0 c1 c2
  have ERB := Lib.hid erb
  have HR1 := Lib.hid hr1
  clear erb hr1
  refine ⟨trivial, (callsIn_wide.2 (form_any bits hashes w1)).mono ?_⟩
  rintro e w' ⟨rfl, rfl⟩
  obtain ⟨fo, efo⟩ : ∃ fo, fo = formF bits hashes := ⟨_, rfl⟩
  rw [← efo]
  have HF := Lib.hid efo
  clear efo hw1
  cases fo with
  | false =>
    gi_wp2_with fail
    have hX : Fr [] w ((((w1.setCell ⟨rb, 0, none⟩ (.int .i64 0)).setCell ⟨rb, 1, none⟩ (.int .i64 0))).setCell ⟨rb, 2, none⟩ (.slice none 0 0)) := ((hf1.setCell _ _ (by right; simp [ERB.out])).setCell _ _ (by right; simp [ERB.out])).setCell _ _ (by right; simp [ERB.out])
    have hrX := row_set (row_set (row_set HR1.out 0 (.int .i64 0)) 1 (.int .i64 0)) 2 (.slice none 0 0)
    refine leaves_marks (B := w.heap.size) [] _ ⟨List.nodup_nil, fun D hD => by cases hD⟩ (fun w' hst => ?_)
    have hr' := hst.at hrX
    have e0 := row_cell hr' 0
    have e1 := row_cell hr' 1
    have e2 := row_cell hr' 2
    simp at e0 e1 e2
    refine ⟨.tuple #[zeroF, .int .i64 1], ?_, ⟨fun h => absurd (HF.out.trans h) (by decide), fun _ => rfl, (hX.thenStd hst (Nat.le_refl _)).toBelow (by simp)⟩⟩
    unfold zeroF
    simp only [results]
    go_simp
  | true =>
    have hp := formF_parts HF.out.symm
    obtain ⟨q, eq⟩ : ∃ q : Nat, bits / 64 = (q : Int) := ⟨(bits / 64).toNat, by omega⟩
    have e1 : bits.tdiv 64 = (q : Int) := by rw [Int.tdiv_eq_ediv_of_nonneg (by omega), eq]
    have w1q : IntKind.i64.wrap (q : Int) = (q : Int) := IntWalk.i64_in _ (by omega)
    have w2q : wrap64 (q : Int) = (q : Int) := by unfold wrap64; omega
    have hq : q ≤ 1000000 := by omega
    have HP := Lib.hid hp
    have HQ := Lib.hid eq
    clear hp eq
    gi_wp2_with (gi_at_make; go_loud (refine wpListIn_makeW rfl (.tmp 21) (.tmp 21) rfl q rfl rfl hq ?_))
    intro w2 ho2 hf2
    have HO2 := Lib.hid ho2
    clear ho2
    gi_wp2_with fail
    obtain ⟨g, eg⟩ : ∃ g, g = w1.heap.size := ⟨_, rfl⟩
    obtain ⟨bf, ebf⟩ : ∃ bf, bf = w2.heap.size := ⟨_, rfl⟩
    have hg1 : w.heap.size ≤ g := by rw [eg]; exact hf1.size
    have hgb : g < bf := by
      have := HO2.out.lt
      rw [eg, ebf]
      exact this.2.1
    have hrbg : rb < g := by rw [eg]; exact lt_of_block HR1.out
    rw [← eg, ← ebf]
    obtain ⟨w3, hw3⟩ : ∃ w3, w3 = (w2.alloc (.cells #[.int .i64 bits, .int .i64 hashes, .slice (some ⟨g, 0, none⟩) q q] 37)).alloc (.cells #[.func (.func 62) #[] #[.pointer (some ⟨bf, 0, none⟩)]] 101) := ⟨_, rfl⟩
    have hf23 : Fr [] w2 w3 := by rw [hw3]; exact ((Fr.refl [] w2).alloc _).alloc _
    have HI0 : Hid (MkInv w bf rb g q bits hashes (.slice la l.length lcap) l l.length (.int .i64 0) [] w3 0 []) := Lib.hid
      { k := Nat.zero_le _, gh := rfl, iv := rfl, fr := (hf1.trans hf2 (by simp)).trans hf23 (by simp),
        r := hf23.at (hf2.at HR1.out (by simp)) (by simp),
        f := by rw [hw3, ebf]; exact heap_past _ (heap_new rfl),
        s := by rw [hw3, ebf]; exact heap_new (by simp),
        o := by
          rw [show accF bits hashes (l.take 0) = List.replicate q 0 by
            unfold accF
            rw [List.take_zero, show (bits / 64).toNat = q by have := HQ.out; omega]
            rfl]
          have h1 : OwnW w1.heap.size w2 (.slice (some ⟨g, 0, none⟩) q q) (List.replicate q 0) := by rw [eg]; exact HO2.out
          have h2 := h1.fr hf23 (by simp)
          rcases h2.form with ⟨h0, _⟩ | ⟨g', cap', cur, h0, hb, hgg, h3, h4, h5, h6⟩
          · cases h0
          · exact ⟨h2.1, Or.inr ⟨g', cap', cur, h0, Nat.le_trans hf1.size hb, hgg, h3, h4, by simpa using h5, by simpa using h6⟩⟩,
        ds := rfl, m := ⟨List.nodup_nil, fun D hD => by cases hD⟩ }
    rw [← hw3]
    clear hf23 hw3 HO2 hf2 eg ebf hf1 HR1 c0 c1 c2 d0 d1 d2
    refine wpIn_loop_ghost_k (fun gh a' wr => ∃ (ds : List Deferred) (iv u11 u28 u29 u30 u31 u32 u33 u34 u39 : Value), (∃ n Ds, MkInv w bf rb g q bits hashes (.slice la l.length lcap) l gh iv ds wr n Ds) ∧ a' = { tmps := #[.slice la l.length lcap, .int .i64 bits, .int .i64 hashes, undef, undef, undef, .pointer (some ⟨rb, 0, none⟩), .int .i64 0, .pointer (some ⟨bf, 0, none⟩), .pointer (some ⟨bf + 1, 0, none⟩), undef, u11, undef, .int .i64 bits, .int .i64 hashes, .bool true, .bool false, undef, .int .i64 bits, .int .i64 hashes, .int .i64 bits, .int .i64 (q : Int), .slice (some ⟨g, 0, none⟩) q q, .agg #[.int .i64 bits, .int .i64 hashes, .slice (some ⟨g, 0, none⟩) q q], .func (.func 62) #[] #[.pointer (some ⟨bf, 0, none⟩)], .slice la l.length lcap, .int .i64 (l.length : Int), iv, u28, u29, u30, u31, u32, u33, u34, undef, undef, undef, undef, u39, undef], defers := ds }) l.length ?_ ?_
    · exact ⟨_, _, _, _, _, _, _, _, _, _, _, ⟨_, _, HI0.out⟩, rfl⟩
    clear HI0
    intro gh _ wr hinv
    obtain ⟨ds, iv, u11, u28, u29, u30, u31, u32, u33, u34, u39, hrel, ha⟩ := hinv
    subst ha
    dsimp only
    intro JJ KK hJJ hKK
    obtain ⟨n, Ds, hI⟩ := hrel
    have HV2 := Lib.hid hI
    obtain rfl := hI.iv
    obtain rfl := hI.ds
    obtain rfl := hI.gh
    have hnl := hI.k
    clear hI
    by_cases hlt : n < l.length
    · have t1 : decide ((n : Int) < (l.length : Int)) = true := by simp; omega
      obtain ⟨b, off, rfl⟩ := hla n hlt
      have cs := (HV.out.fr0 HV2.out.fr).cell n hlt
      have HS := Lib.hid (HI.out _ (getD_mem l n 0 hlt))
      have HTK := Lib.hid (posA_snoc l bits hashes n hlt)
      generalize l.getD n 0 = s at cs HS HTK
      have i0 : (0 : Int) ≤ (n : Int) := by omega
      have i1 : (n : Int) < (l.length : Int) := by omega
      gi_wp2_with fail
      refine ⟨trivial, (callsIn_wide.2 (positions_any s bits hashes wr)).mono ?_⟩
      rintro e w' ⟨rfl, rfl⟩
      obtain ⟨nb, enb⟩ : ∃ nb, nb = wr.heap.size := ⟨_, rfl⟩
      obtain ⟨W4, hW4⟩ : ∃ W4, W4 = ((wr.alloc (.cells #[.int .i64 s] 3)).alloc (.cells #[.int .i64 bits] 3)).alloc (.cells #[.int .i64 hashes] 3) := ⟨_, rfl⟩
      have hsz4 : W4.heap.size = nb + 3 := by rw [hW4, enb]; simp
      have hf34 : Fr [] wr W4 := by rw [hW4]; exact (((Fr.refl [] wr).alloc _).alloc _).alloc _
      have hbs : W4.heap[nb]? = some (.cells #[.int .i64 s] 3 (0, 0)) := by rw [hW4, enb]; exact heap_past _ (heap_past _ (heap_new rfl))
      have hbb : W4.heap[nb + 1]? = some (.cells #[.int .i64 bits] 3 (0, 0)) := by rw [hW4, enb]; exact heap_past _ (heap_new (by simp))
      have hbh : W4.heap[nb + 2]? = some (.cells #[.int .i64 hashes] 3 (0, 0)) := by rw [hW4, enb]; exact heap_new (by simp)
      rw [← hW4, ← enb]
      have hHP := HP.out
      have hT4 : Tabs W4 := HT.out.fr (HV2.out.fr.trans hf34 (by simp))
      have hlt4 : w.heap.size ≤ nb := by rw [enb]; exact HV2.out.fr.size
      have hol := HV2.out.o.lt
      have hqq : (bits / 64).toNat = q := by have := HQ.out; omega
      have hO4 : OwnW w.heap.size W4 (.slice (some ⟨g, 0, none⟩) q q) (accF bits hashes (l.take n)) := HV2.out.o.fr hf34 (by simp)
      have hF4 : W4.heap[bf]? = some (.cells #[.int .i64 bits, .int .i64 hashes, .slice (some ⟨g, 0, none⟩) q q] 37 (0, 0)) := hf34.at HV2.out.f (by simp)
      have hS4 := hf34.at HV2.out.s (by simp)
      have hgn : g < nb := by rw [enb]; exact hol.2.1
      have hbfn : bf + 1 < nb := by rw [enb]; exact lt_of_block HV2.out.s
      have HAL : Hid ((accF bits hashes (l.take n)).length = q) := Lib.hid (by unfold accF; rw [setsW_len, List.length_replicate, hqq])
      have HAW : Hid (W64 (accF bits hashes (l.take n))) := Lib.hid (by unfold accF; exact setsW_lt _ _ (zeros_lt _))
      have ENB := Lib.hid enb
      clear hW4 enb
      gi_wp2_with fail
      generalize accF bits hashes (l.take n) = acc at hO4 HTK HAL HAW
      refine wpIn_rangeFunc_ownF rfl (by decide) (gf := 79) (lb := #[.pointer (some ⟨nb + 2, 0, none⟩), .pointer (some ⟨nb, 0, none⟩), .pointer (some ⟨nb + 1, 0, none⟩)]) rfl trivial (enters_of Tryz.func79 (by kernel_rfl) rfl)
        (positions_stops 2 (nb + 2) nb (nb + 1) s bits hashes W4 (by decide) HS.out (by omega) (by omega) hbh hbs hbb hT4) KpP.t
        (fun W l o o' hl ho _ _ => KpP.fr (X := [l]) (B := w.heap.size) ((Fr.refl [l] W).grown (grownBy_putObj' W l o') (fun r e => by cases e; simp)) HT.out (Nat.le_refl _) (by simp; omega) (by simp; omega) (by simp; omega))
        (Below.refl _ _) (fun _ => rfl)
        (fun pre V => OwnW w.heap.size V (.slice (some ⟨g, 0, none⟩) q q) (setsW acc (pre.map fun k => posF s bits k.val)) ∧ V.heap[bf]? = some (.cells #[.int .i64 bits, .int .i64 hashes, .slice (some ⟨g, 0, none⟩) q q] 37 (0, 0)) ∧ V.heap[bf + 1]? = some (.cells #[.func (.func 62) #[] #[.pointer (some ⟨bf, 0, none⟩)]] 101 (0, 0)) ∧ Fr [g] wr V)
        (fun _ _ _ => False)
        ?own (fun _ _ _ _ _ hs _ _ => hs)
        ⟨hO4, hF4, hS4, hf34.mono (by simp)⟩
        (fun x => { tmps := #[.slice (some ⟨b, off, none⟩) l.length lcap, .int .i64 bits, .int .i64 hashes, undef, undef, undef, .pointer (some ⟨rb, 0, none⟩), .int .i64 0, .pointer (some ⟨bf, 0, none⟩), .pointer (some ⟨bf + 1, 0, none⟩), undef, .int .i64 s, .int .i64 (posF s bits x.val : Int), .int .i64 bits, .int .i64 hashes, .bool true, .bool false, undef, .int .i64 bits, .int .i64 hashes, .int .i64 bits, .int .i64 (q : Int), .slice (some ⟨g, 0, none⟩) q q, .agg #[.int .i64 bits, .int .i64 hashes, .slice (some ⟨g, 0, none⟩) q q], .func (.func 62) #[] #[.pointer (some ⟨bf, 0, none⟩)], .slice (some ⟨b, off, none⟩) l.length lcap, .int .i64 (l.length : Int), .int .i64 (n : Int), .bool true, .pointer (some ⟨b, off + n, none⟩), .int .i64 s, .int .i64 s, .int .i64 bits, .int .i64 hashes, .func (.func 79) #[] #[.pointer (some ⟨nb + 2, 0, none⟩), .pointer (some ⟨nb, 0, none⟩), .pointer (some ⟨nb + 1, 0, none⟩)], .int .i64 (posF s bits x.val : Int), undef, undef, undef, u39, undef], defers := [] }) ?assign ?body ?done ?stop
      case own =>
        rintro pre A B row ⟨ho, hf, hs, hfr⟩ hg hr
        have hne : ∀ b o, A.heap[b]? = some o → o.isCells = true → some b ≠ row := fun b o hb ho e => by
          obtain ⟨_, o', ho', hc⟩ := hr b e.symm
          rw [hb] at ho'; cases ho'; rw [ho] at hc; cases hc
        refine ⟨ho.kept hg hne, (hg.block _ (lt_of_block hf) (hne _ _ hf rfl)).trans hf, (hg.block _ (lt_of_block hs) (hne _ _ hs rfl)).trans hs, hfr.grown hg (fun r e => Or.inr (by have := (hr r e).1; have := ENB.out; omega))⟩
      case assign =>
        intro l' x V K hK
        dsimp only [encsP]
        gi_wp2
        exact hK
      case body =>
        rintro l' pre x V ⟨ho, hf, hs, hfr⟩ hlen
        have hcs := row_cell hs 0
        simp at hcs
        have hx := x.2
        have hpx := posF_lt s (show 1 ≤ bits by omega) x.val
        have HP2 : Hid (posF s bits x.val / 64 < (setsW acc (pre.map fun k => posF s bits k.val)).length) := Lib.hid (by rw [setsW_len, HAL.out]; omega)
        have HSL : Hid ((setsW acc (pre.map fun k => posF s bits k.val)).length = q) := Lib.hid (by rw [setsW_len, HAL.out])
        have HSW : Hid (W64 (setsW acc (pre.map fun k => posF s bits k.val))) := Lib.hid (setsW_lt _ _ HAW.out)
        have HSN : Hid (setsW acc ((pre ++ [x]).map fun k => posF s bits k.val) = setW (setsW acc (pre.map fun k => posF s bits k.val)) (posF s bits x.val)) := Lib.hid (by rw [List.map_append, setsW_app]; rfl)
        generalize setsW acc (pre.map fun k => posF s bits k.val) = W at ho HP2 HSL HSW HSN
        generalize posF s bits x.val = p at hpx HP2 HSN ⊢
        have hset := set_any w.heap.size bf g q p bits hashes W V (by rw [HSL.out]; exact hf) (by rw [HSL.out]; exact ho) HP2.out (by omega) HSW.out
        rw [HSL.out] at hset
        have HSET := Lib.hid hset
        clear hset
        gi_wp2_with fail
        refine ⟨trivial, (callsIn_wide.2 HSET.out).mono ?_⟩
        rintro e V2 ⟨⟨v, rfl⟩, hfr2, ho2⟩
        have HO2 := Lib.hid ho2
        have HK2 : Hid (KeepsOthers V V2) := Lib.hid (keepsOthers_fr1 hfr2 (fun x hx o ho' => by
          obtain ⟨cur, hcur⟩ := ho.lt.2.2
          rw [List.mem_singleton.1 hx, hcur] at ho'
          cases ho'; rfl))
        have HKP : Hid (KpP nb (nb + 1) s bits V V2) := Lib.hid (KpP.fr hfr2 HT.out (Nat.le_refl _) (by simp; omega) (by simp; omega) (by simp; omega))
        have HF2 := Lib.hid (hfr2.at hf (by simp; omega))
        have HS2 := Lib.hid (hfr2.at hs (by simp; omega))
        have HFR2 := Lib.hid (hfr.trans hfr2 (by simp))
        clear ho2 hfr2 ho hf hs hfr hcs
        gi_wp2_with fail
        refine ⟨HK2.out, HKP.out, ?_, HF2.out, HS2.out, HFR2.out⟩
        rw [HSN.out]
        exact HO2.out
      case done =>
        rintro D xs V hD rfl ⟨ho, hf, hs, hfr⟩ hK
        have hcell : ∀ x ∈ [g], ∀ o, wr.heap[x]? = some o → o.isCells = true := fun x hx o ho' => by
          obtain ⟨cur, hcur⟩ := hol.2.2
          rw [List.mem_singleton.1 hx, hcur] at ho'
          cases ho'; rfl
        have HI5 : Hid (MkInv w bf rb g q bits hashes (.slice (some ⟨b, off, none⟩) l.length lcap) l (l.length - (n + 1)) (.int .i64 ((n + 1 : Nat) : Int)) ((D :: Ds).map markD) V (n + 1) (D :: Ds)) := Lib.hid
          { k := by omega, gh := rfl, iv := rfl, fr := HV2.out.fr.trans hfr (by simp; omega),
            r := hfr.at HV2.out.r (by simp; omega), f := hf, s := hs,
            o := by rw [HTK.out]; exact ho, ds := rfl,
            m := HV2.out.m.newX hfr hcell (by have := ENB.out; omega) HV2.out.fr.size hK }
        clear ho hf hs hfr hK hcell hol
        gi_wp2_with fail
        gi_roundg (l.length - (n + 1))
        case measure => omega
        case rel => exact ⟨_, _, HI5.out⟩
      case stop =>
        rintro D c pre V _ _ h _
        exact h.elim
    · obtain rfl : n = l.length := by omega
      have t1 : decide ((l.length : Int) < (l.length : Int)) = false := by simp
      have f0 := row_cell HV2.out.f 0
      have f1 := row_cell HV2.out.f 1
      have f2 := row_cell HV2.out.f 2
      simp at f0 f1 f2
      have r0 := row_cell HV2.out.r 0
      have r1 := row_cell HV2.out.r 1
      have r2 := row_cell HV2.out.r 2
      simp at r0 r1 r2
      have d0 := row_free HV2.out.r 0
      have d1 := row_free HV2.out.r 1
      have d2 := row_free HV2.out.r 2
      have hX : Fr [] w (((wr.setCell ⟨rb, 0, none⟩ (.int .i64 bits)).setCell ⟨rb, 1, none⟩ (.int .i64 hashes)).setCell ⟨rb, 2, none⟩ (.slice (some ⟨g, 0, none⟩) q q)) := ((HV2.out.fr.setCell _ _ (by right; simp [ERB.out])).setCell _ _ (by right; simp [ERB.out])).setCell _ _ (by right; simp [ERB.out])
      have hX1 : Fr [rb] wr (((wr.setCell ⟨rb, 0, none⟩ (.int .i64 bits)).setCell ⟨rb, 1, none⟩ (.int .i64 hashes)).setCell ⟨rb, 2, none⟩ (.slice (some ⟨g, 0, none⟩) q q)) := (((Fr.refl [rb] wr).setCell _ _ (by simp)).setCell _ _ (by simp)).setCell _ _ (by simp)
      have hrX := row_set (row_set (row_set HV2.out.r 0 (.int .i64 bits)) 1 (.int .i64 hashes)) 2 (.slice (some ⟨g, 0, none⟩) q q)
      have hmX := HV2.out.m.frX hX1 (fun x hx o ho => by rw [List.mem_singleton.1 hx, HV2.out.r] at ho; cases ho; rfl)
      have hoX : OwnW w.heap.size (((wr.setCell ⟨rb, 0, none⟩ (.int .i64 bits)).setCell ⟨rb, 1, none⟩ (.int .i64 hashes)).setCell ⟨rb, 2, none⟩ (.slice (some ⟨g, 0, none⟩) q q)) (.slice (some ⟨g, 0, none⟩) q q) (makeF l bits hashes) := by
        have := HV2.out.o.fr hX1 (fun k hk hm => by
          have e1 : g = k := by simpa [Value.ownBlock] using hk
          have e2 := List.mem_singleton.1 hm
          omega)
        rw [List.take_length] at this
        exact this
      have HHX := Lib.hid hX
      have HRX := Lib.hid hrX
      have HMX := Lib.hid hmX
      have HOX := Lib.hid hoX
      clear hX hX1 hrX hmX hoX
      gi_wp2_with fail
      refine leaves_marks (B := w.heap.size) Ds _ HMX.out (fun w' hst => ?_)
      have hr' := hst.at HRX.out
      have e0 := row_cell hr' 0
      have e1 := row_cell hr' 1
      have e2 := row_cell hr' 2
      simp at e0 e1 e2
      refine ⟨.tuple #[.agg #[.int .i64 bits, .int .i64 hashes, .slice (some ⟨g, 0, none⟩) q q], .int .i64 0], ?_, ⟨fun _ => ⟨_, rfl, ?_⟩, fun h => absurd (HF.out.trans h) (by decide), (HHX.out.thenStd hst (Nat.le_refl _)).toBelow (by simp)⟩⟩
      · simp only [results]
        go_simp
      · rcases HOX.out.form with ⟨h0, _⟩ | ⟨g', cap', cur, h0, hb, hgg, h3, h4, h5, h6⟩
        · cases h0
        · exact ⟨HOX.out.1, Or.inr ⟨g', cap', cur, h0, hb, hst.at hgg, h3, h4, by simpa using h5, by simpa using h6⟩⟩
end Go.Proofs.YtglgkdbhdjkeaaaGreatDoor
namespace Go.Proofs.YtglgkdbhdjkeaaaGreatDoor
open Go.RowKit Go.Shelf
attribute [local go_sem] Oper.semAt_some

/-- May a filter contain a serial number? -/
def hasF (f : Flt) (serial : Int) : Bool := validF f && hasW f.words (posL serial f.bits f.hashes)

theorem bit_and (X j : Nat) (hX : X < 18446744073709551616) : (Go.bits .and .u64 ((X : Int) / 2 ^ j) 1 == 0) = !(X.testBit j) := by
  have h1 : (X : Int) / 2 ^ j = ((X / 2 ^ j : Nat) : Int) := by rw [Int.natCast_ediv]; simp
  have h2 : X / 2 ^ j < 18446744073709551616 := Nat.lt_of_le_of_lt (Nat.div_le_self _ _) hX
  have h3 := u64_and_nat (X / 2 ^ j) 1 h2 (by decide)
  rw [h1, show (1 : Int) = ((1 : Nat) : Int) from rfl, h3, Nat.and_one_is_mod, Nat.testBit_eq_decide_div_mod_eq]
  generalize X / 2 ^ j = Y
  rcases Nat.mod_two_eq_zero_or_one Y with h | h <;> simp [h]

set_option maxRecDepth 100000 in
set_option maxHeartbeats 4000000 in
theorem has_any (v : Value) (f : Flt) (serial : Int) (w : World) (hv : FltR w v f) (hW : W64 f.words) (hs : -9223372036854775808 ≤ serial ∧ serial ≤ 9223372036854775807) (hT : Tabs w) :
    Calls Tryz.prog 23 #[v, .int .i64 serial] w fun e w' => e = .returned (.bool (hasF f serial)) ∧ Below w.heap.size w w' := by
  obtain ⟨wv, rfl, hw⟩ := hv
  obtain ⟨wa, wcap, rfl, hwl, hwc, hwa⟩ := hw.form
  have HWS := Lib.hid hw
  have HT := Lib.hid hT
  clear hw hT
  obtain ⟨r, er⟩ : ∃ r, r = hasF f serial := ⟨_, rfl⟩
  rw [← er]
  have ER := Lib.hid er
  clear er
  refine (callsIn_wide (n := 3)).1 ?_
  refine callsIn_of_wp_marks Tryz.func23 rfl trivial ?_ rfl
  simp only [Tryz.ntmps23, List.size_toArray, List.length_cons, List.length_nil, Nat.reduceAdd, Nat.reduceSub, Array.replicate_succ, Array.replicate_zero, List.push_toArray, List.append_toArray, List.nil_append, List.cons_append]
  obtain ⟨W0, hW0⟩ : ∃ W0, W0 = (w.alloc (.cells #[.int .i64 f.bits, .int .i64 f.hashes, .slice wa f.words.length wcap] 37)).alloc (.cells #[.bool false] 4) := ⟨_, rfl⟩
  obtain ⟨bf, ebf⟩ : ∃ bf, bf = w.heap.size := ⟨_, rfl⟩
  have hf0 : Fr [] w W0 := by rw [hW0]; exact ((Fr.refl [] w).alloc _).alloc _
  have hbf : W0.heap[bf]? = some (.cells #[.int .i64 f.bits, .int .i64 f.hashes, .slice wa f.words.length wcap] 37 (0, 0)) := by rw [hW0, ebf]; exact heap_past _ (heap_new rfl)
  have hrb : W0.heap[bf + 1]? = some (.cells #[.bool false] 4 (0, 0)) := by rw [hW0, ebf]; exact heap_new (by simp)
  have g0 := row_cell hbf 0
  have g1 := row_cell hbf 1
  have g2 := row_cell hbf 2
  simp at g0 g1 g2
  rw [hW0, ebf] at g0 g1 g2
  gi_wp2_with fail
  rw [← hW0, ← ebf]
  rw [← hW0, ← ebf] at g0 g1 g2
  have EBF := Lib.hid ebf
  clear hW0 ebf
  refine ⟨trivial, (callsIn_wide.2 (valid_any _ f W0 ⟨_, rfl, HWS.out.fr0 hf0⟩)).mono ?_⟩
  rintro e w1 ⟨rfl, hb1⟩
  have hf1 : Fr [] W0 w1 := Fr.ofBelow hb1
  have hbf1 := hf1.at hbf (by simp)
  have hrb1 := hf1.at hrb (by simp)
  have hfw1 := hf0.trans hf1 (by simp)
  clear hb1 g0 g1 g2 hbf hrb hf1 hf0
  obtain ⟨vo, evo⟩ : ∃ vo, vo = validF f := ⟨_, rfl⟩
  rw [← evo]
  have HVO := Lib.hid evo
  clear evo
  have k0 := row_cell hbf1 0
  have k1 := row_cell hbf1 1
  have k2 := row_cell hbf1 2
  simp at k0 k1 k2
  have q0 := row_cell hrb1 0
  simp at q0
  have q1 := row_free hrb1 0
  cases vo with
  | false =>
    have HR : Hid (r = false) := Lib.hid (by rw [ER.out]; unfold hasF; rw [← HVO.out]; rfl)
    have hX : Fr [] w (w1.setCell ⟨bf + 1, 0, none⟩ (.bool false)) := hfw1.setCell _ _ (by right; have := EBF.out; simp; omega)
    have HX := Lib.hid hX
    have HRX := Lib.hid (row_set hrb1 0 (.bool false))
    clear hX k0 k1 k2
    gi_wp2_with fail
    refine leaves_marks (B := w.heap.size) [] _ ⟨List.nodup_nil, fun D hD => by cases hD⟩ (fun w' hst => ?_)
    have e0 := row_cell (hst.at HRX.out) 0
    simp at e0
    refine ⟨.bool false, ?_, by rw [HR.out], (HX.out.thenStd hst (Nat.le_refl _)).toBelow (by simp)⟩
    simp only [results]
    go_simp
  | true =>
    obtain ⟨hform, hlen⟩ := validF_parts HVO.out.symm
    have hp := formF_parts hform
    have HFM := Lib.hid hform
    have HLE := Lib.hid hlen
    clear hform hlen
    gi_wp2_with fail
    refine ⟨trivial, (callsIn_wide.2 (positions_any serial f.bits f.hashes w1)).mono ?_⟩
    rintro e w' ⟨rfl, rfl⟩
    obtain ⟨nb, enb⟩ : ∃ nb, nb = w1.heap.size := ⟨_, rfl⟩
    obtain ⟨W4, hW4⟩ : ∃ W4, W4 = ((w1.alloc (.cells #[.int .i64 serial] 3)).alloc (.cells #[.int .i64 f.bits] 3)).alloc (.cells #[.int .i64 f.hashes] 3) := ⟨_, rfl⟩
    have hsz4 : W4.heap.size = nb + 3 := by rw [hW4, enb]; simp
    have hf14 : Fr [] w1 W4 := by rw [hW4]; exact (((Fr.refl [] w1).alloc _).alloc _).alloc _
    have hbs : W4.heap[nb]? = some (.cells #[.int .i64 serial] 3 (0, 0)) := by rw [hW4, enb]; exact heap_past _ (heap_past _ (heap_new rfl))
    have hbb : W4.heap[nb + 1]? = some (.cells #[.int .i64 f.bits] 3 (0, 0)) := by rw [hW4, enb]; exact heap_past _ (heap_new (by simp))
    have hbh : W4.heap[nb + 2]? = some (.cells #[.int .i64 f.hashes] 3 (0, 0)) := by rw [hW4, enb]; exact heap_new (by simp)
    rw [← hW4, ← enb]
    have hT4 : Tabs W4 := HT.out.fr (hfw1.trans hf14 (by simp))
    have hbf4 := hf14.at hbf1 (by simp)
    have hrb4 := hf14.at hrb1 (by simp)
    have hfw4 := hfw1.trans hf14 (by simp)
    have hlt4 : bf + 1 < nb := by rw [enb]; exact lt_of_block hrb1
    have ENB := Lib.hid enb
    clear hW4 enb k0 k1 k2 q0 q1
    gi_wp2_with fail
    refine wpIn_rangeFunc_ownF rfl (by decide) (gf := 79) (lb := #[.pointer (some ⟨nb + 2, 0, none⟩), .pointer (some ⟨nb, 0, none⟩), .pointer (some ⟨nb + 1, 0, none⟩)]) rfl trivial (enters_of Tryz.func79 (by kernel_rfl) rfl)
      (positions_stops 2 (nb + 2) nb (nb + 1) serial f.bits f.hashes W4 (by decide) hs (by omega) (by omega) hbh hbs hbb hT4) KpP.t
      (fun W l o o' hl ho _ _ => KpP.fr (X := [l]) (B := w.heap.size) ((Fr.refl [l] W).grown (grownBy_putObj' W l o') (fun r e => by cases e; simp)) HT.out (Nat.le_refl _) (by have := EBF.out; simp; omega) (by simp; omega) (by simp; omega))
      (Below.refl _ _) (fun _ => rfl)
      (fun pre V => (∀ x ∈ pre, bitW f.words (posF serial f.bits x.val) = true) ∧ V.heap[bf]? = some (.cells #[.int .i64 f.bits, .int .i64 f.hashes, .slice wa f.words.length wcap] 37 (0, 0)) ∧ V.heap[bf + 1]? = some (.cells #[.bool false] 4 (0, 0)) ∧ Fr [] w V ∧ W4.heap.size ≤ V.heap.size)
      (fun c _ V => c = .ret ∧ r = false ∧ V.heap[bf + 1]? = some (.cells #[.bool false] 4 (0, 0)) ∧ Fr [] w V ∧ W4.heap.size ≤ V.heap.size)
      ?own ?ownx
      ⟨fun x hx => (by cases hx), hbf4, hrb4, hfw4, Nat.le_refl _⟩
      (fun x => { tmps := #[.agg #[.int .i64 f.bits, .int .i64 f.hashes, .slice wa f.words.length wcap], .int .i64 serial, .pointer (some ⟨bf, 0, none⟩), undef, .pointer (some ⟨bf + 1, 0, none⟩), .int .i64 (posF serial f.bits x.val : Int), .agg #[.int .i64 f.bits, .int .i64 f.hashes, .slice wa f.words.length wcap], .bool true, .bool false, .int .i64 serial, .pointer (some ⟨bf, 0, none⟩), .int .i64 f.bits, .pointer (some ⟨bf, 1, none⟩), .int .i64 f.hashes, .func (.func 79) #[] #[.pointer (some ⟨nb + 2, 0, none⟩), .pointer (some ⟨nb, 0, none⟩), .pointer (some ⟨nb + 1, 0, none⟩)], .int .i64 (posF serial f.bits x.val : Int), undef, undef, undef, undef, undef, undef, undef, undef, undef, undef, undef], defers := [] }) ?assign ?body ?done ?stop
    case own =>
      rintro pre A B row ⟨ha, hf, hb, hfr, hsz⟩ hg hr
      have hne : ∀ b o, A.heap[b]? = some o → o.isCells = true → some b ≠ row := fun b o hb ho e => by
        obtain ⟨_, o', ho', hc⟩ := hr b e.symm
        rw [hb] at ho'; cases ho'; rw [ho] at hc; cases hc
      exact ⟨ha, (hg.block _ (lt_of_block hf) (hne _ _ hf rfl)).trans hf, (hg.block _ (lt_of_block hb) (hne _ _ hb rfl)).trans hb, hfr.grown hg (fun r e => Or.inr (by have := (hr r e).1; have := EBF.out; omega)), Nat.le_trans hsz hg.size⟩
    case ownx =>
      rintro c pre A B row ⟨ha, hf, hb, hfr, hsz⟩ hg hr
      have hne : ∀ b o, A.heap[b]? = some o → o.isCells = true → some b ≠ row := fun b o hb ho e => by
        obtain ⟨_, o', ho', hc⟩ := hr b e.symm
        rw [hb] at ho'; cases ho'; rw [ho] at hc; cases hc
      exact ⟨ha, hf, (hg.block _ (lt_of_block hb) (hne _ _ hb rfl)).trans hb, hfr.grown hg (fun r e => Or.inr (by have := (hr r e).1; have := EBF.out; omega)), Nat.le_trans hsz hg.size⟩
    case assign =>
      intro l' x V K hK
      dsimp only [encsP]
      gi_wp2
      exact hK
    case body =>
      rintro l' pre x V ⟨ha, hf, hb, hfr, hsz⟩ hlen
      have k2 := row_cell hf 2
      simp at k2
      have q0 := row_cell hb 0
      simp at q0
      have q1 := row_free hb 0
      have hpx := posF_lt serial (show 1 ≤ f.bits by omega) x.val
      have HBI : Hid (bitW f.words (posF serial f.bits x.val) = (f.words.getD (posF serial f.bits x.val / 64) 0).testBit (posF serial f.bits x.val % 64)) := Lib.hid rfl
      have hLE := HLE.out
      have HNEG : Hid (bitW f.words (posF serial f.bits x.val) = false → r = false) := Lib.hid (fun h => by
        rw [ER.out]
        unfold hasF hasW posL
        rw [List.all_eq_false.2 ⟨_, List.mem_map.2 ⟨x.val, List.mem_range.2 x.2, rfl⟩, by rw [h]; simp⟩, Bool.and_false])
      have HPOS : Hid (bitW f.words (posF serial f.bits x.val) = true → ∀ y ∈ pre ++ [x], bitW f.words (posF serial f.bits y.val) = true) := Lib.hid (fun h y hy => by
        rcases List.mem_append.1 hy with hy | hy
        · exact ha y hy
        · rw [List.mem_singleton.1 hy]; exact h)
      generalize bitW f.words (posF serial f.bits x.val) = bt at HBI HNEG HPOS
      generalize posF serial f.bits x.val = p at hpx HBI ⊢
      obtain ⟨i, j, hi, hj⟩ : ∃ i j, i = p / 64 ∧ j = p % 64 := ⟨_, _, rfl, rfl⟩
      rw [← hi, ← hj] at HBI
      have hil : i < f.words.length := by omega
      have hj64 : j < 64 := by omega
      obtain ⟨b, off, rfl⟩ := hwa i hil
      have cx : V.cell? ⟨b, off + i, none⟩ = some (.int .u64 (f.words.getD i 0 : Nat)) := by
        rcases HWS.out with ⟨h0, _⟩ | ⟨b', off', cap', h0, _, _, _, h4⟩
        · exact absurd (congrArg List.length h0) (by simp only [List.length_nil]; omega)
        · cases h0; exact hfr.cell (h4 i hil) (by simp)
      have hX := hW.at i
      generalize f.words.getD i 0 = X at cx HBI hX
      have e1 : (p : Int).tdiv 64 = (i : Int) := by rw [Int.tdiv_eq_ediv_of_nonneg (by omega)]; omega
      have e2 : (p : Int).tmod 64 = (j : Int) := by rw [Int.tmod_eq_emod_of_nonneg (by omega)]; omega
      have w1i : IntKind.i64.wrap (i : Int) = (i : Int) := IntWalk.i64_in _ (by omega)
      have w1j : IntKind.i64.wrap (j : Int) = (j : Int) := IntWalk.i64_in _ (by omega)
      have i0 : (0 : Int) ≤ (i : Int) := by omega
      have i1 : (i : Int) < (f.words.length : Int) := by omega
      have hb2 := bit_and X j hX
      rw [← HBI.out] at hb2
      have HF2 := Lib.hid hf
      have HB2 := Lib.hid hb
      have HFR2 := Lib.hid hfr
      have HK0 : Hid (KeepsOthers V V) := Lib.hid (keepsOthers_fr1 (Fr.refl [] V) (fun x hx => by cases hx))
      have HKP0 : Hid (KpP nb (nb + 1) serial f.bits V V) := Lib.hid ⟨id, id, id⟩
      clear hi hj hpx hf hb hfr ha HBI
      cases bt with
      | true =>
        rw [Bool.not_true] at hb2
        have HP := Lib.hid (HPOS.out rfl)
        clear HPOS HNEG
        gi_wp2_with fail
        exact ⟨HK0.out, HKP0.out, HP.out, HF2.out, HB2.out, HFR2.out, hsz⟩
      | false =>
        rw [Bool.not_false] at hb2
        have HN := Lib.hid (HNEG.out rfl)
        clear HPOS HNEG
        have hX : Fr [bf + 1] V (V.setCell ⟨bf + 1, 0, none⟩ (.bool false)) := (Fr.refl [bf + 1] V).setCell _ _ (by simp)
        have HK2 : Hid (KeepsOthers V (V.setCell ⟨bf + 1, 0, none⟩ (.bool false))) := Lib.hid (keepsOthers_fr1 hX (fun x hx o ho' => by
          rw [List.mem_singleton.1 hx, HB2.out] at ho'
          cases ho'; rfl))
        have HR2 := Lib.hid (row_set HB2.out 0 (.bool false))
        have HFX := Lib.hid (HFR2.out.setCell ⟨bf + 1, 0, none⟩ (.bool false) (by right; have := EBF.out; simp; omega))
        have hszX : W4.heap.size ≤ (V.setCell ⟨bf + 1, 0, none⟩ (.bool false)).heap.size := Nat.le_trans hsz hX.size
        clear hX
        gi_wp2_with fail
        exact ⟨HK2.out, rfl, HN.out, HR2.out, HFX.out, hszX⟩
    case done =>
      rintro D xs V hD rfl ⟨ha, hf, hb, hfr, hsz⟩ hK
      have HR : Hid (r = true) := Lib.hid (by
        rw [ER.out]
        unfold hasF hasW
        rw [← HVO.out, Bool.true_and, List.all_eq_true]
        intro n hn
        obtain ⟨k, hk, rfl⟩ := List.mem_map.1 hn
        exact ha ⟨k, List.mem_range.1 hk⟩ (List.mem_finRange _))
      have q0 := row_cell hb 0
      simp at q0
      have q1 := row_free hb 0
      have hX : Fr [] w (V.setCell ⟨bf + 1, 0, none⟩ (.bool true)) := hfr.setCell _ _ (by right; have := EBF.out; simp; omega)
      have HX := Lib.hid hX
      have HRX := Lib.hid (row_set hb 0 (.bool true))
      have HKX := Lib.hid (((Fr.refl [bf + 1] V).setCell ⟨bf + 1, 0, none⟩ (.bool true) (by simp)).at hK (by simp; omega))
      clear hX hf hfr hb hK ha
      gi_wp2_with fail
      refine leaves_marks (B := w.heap.size) [D] _ ⟨by simp, fun D' hD' => ?_⟩ (fun w' hst => ?_)
      · rw [List.mem_singleton.1 hD']
        exact ⟨by have := EBF.out; omega, HKX.out⟩
      have e0 := row_cell (hst.at HRX.out) 0
      simp at e0
      refine ⟨.bool true, ?_, by rw [HR.out], (HX.out.thenStd hst (Nat.le_refl _)).toBelow (by simp)⟩
      simp only [results]
      go_simp
    case stop =>
      rintro D c pre V hD _ ⟨rfl, hr, hb, hfr, hsz⟩ hK
      have HR := Lib.hid hr
      have HB := Lib.hid hb
      have HFR := Lib.hid hfr
      have HK := Lib.hid hK
      clear hr hb hfr hK
      gi_wp2_with fail
      refine leaves_marks (B := w.heap.size) [D] _ ⟨by simp, fun D' hD' => ?_⟩ (fun w' hst => ?_)
      · rw [List.mem_singleton.1 hD']
        exact ⟨by have := EBF.out; omega, HK.out⟩
      have e0 := row_cell (hst.at HB.out) 0
      simp at e0
      refine ⟨.bool false, ?_, by rw [HR.out], (HFR.out.thenStd hst (Nat.le_refl _)).toBelow (by simp)⟩
      simp only [results]
      go_simp
end Go.Proofs.YtglgkdbhdjkeaaaGreatDoor
