/-
  Plain law: titles; passing, extension, places.
  Plain law: the texts of titles; they are read back in one way alone.
-/
import Derived.Test.YtglgkdbhdjkeaaaGreatDoorTtA
import Derived.Test.YtglgkdbhdjkeaaaGreatDoorPlnB
import Derived.Test.YtglgkdbhdjkeaaaGreatDoorPlnC
import Derived.Test.YtglgkdbhdjkeaaaGreatDoorPlnHv
namespace Go.Proofs.YtglgkdbhdjkeaaaGreatDoor
open Go.RowKit

/-- The transfer at a place is right. -/
def stepT (t : Ttl) (i : Nat) : Bool := match t.chain[i]? with
  | some x => !usedT (cutT t i) x.nk && verifyS (ownerT (cutT t i)) (msgT (cutT t i) x.nk) x.sig
  | none => true
/-- Is a title valid? -/
def validT (t : Ttl) : Bool := formedT t && (List.range t.chain.length).all (stepT t)
/-- What Pass answers: a title, or an error. -/
def passT (t : Ttl) (tk secret : List UInt8) : Ttl ⊕ Int :=
  if !validT t || !isD tk then .inr 1 else if t.chain.length = 50 then .inr 3 else if usedT t tk then .inr 9 else if publicS secret != ownerT t then .inr 20
  else .inl { t with chain := t.chain ++ [⟨tk, sigS secret (msgT t tk)⟩] }
/-- Does a chain continue another one? -/
def extT (a b : Ttl) : Bool := decide (a.serial = b.serial) && decide (a.shw = b.shw) && decide (a.first = b.first) && decide (a.chain.take b.chain.length = b.chain)
theorem extT_iff (a b : Ttl) : extT a b = true ↔ a.serial = b.serial ∧ a.shw = b.shw ∧ a.first = b.first ∧ a.chain.take b.chain.length = b.chain := by
  unfold extT
  simp only [Bool.and_eq_true, decide_eq_true_eq]
  exact ⟨fun ⟨⟨⟨h1, h2⟩, h3⟩, h4⟩ => ⟨h1, h2, h3, h4⟩, fun ⟨h1, h2, h3, h4⟩ => ⟨⟨⟨h1, h2⟩, h3⟩, h4⟩⟩
theorem extT_len {a b : Ttl} (h : extT a b = true) : b.chain.length ≤ a.chain.length := by
  have := congrArg List.length ((extT_iff a b).1 h).2.2.2
  rw [List.length_take] at this
  omega
theorem extT_refl (a : Ttl) : extT a a = true := (extT_iff a a).2 ⟨rfl, rfl, rfl, List.take_length⟩
theorem extT_trans {a b c : Ttl} (h : extT a b = true) (k : extT b c = true) : extT a c = true := by
  have hl := extT_len k
  obtain ⟨h1, h2, h3, h4⟩ := (extT_iff a b).1 h
  obtain ⟨k1, k2, k3, k4⟩ := (extT_iff b c).1 k
  refine (extT_iff a c).2 ⟨h1.trans k1, h2.trans k2, h3.trans k3, ?_⟩
  have e : a.chain.take c.chain.length = (a.chain.take b.chain.length).take c.chain.length := by rw [List.take_take, Nat.min_eq_left hl]
  rw [e, h4, k4]
/-- Of two titles that a third one extends, one extends the other. -/
theorem extT_two {a b c : Ttl} (h : extT a b = true) (k : extT a c = true) : extT b c = true ∨ extT c b = true := by
  obtain ⟨h1, h2, h3, h4⟩ := (extT_iff a b).1 h
  obtain ⟨k1, k2, k3, k4⟩ := (extT_iff a c).1 k
  rcases Nat.le_total c.chain.length b.chain.length with hl | hl
  · left
    refine (extT_iff b c).2 ⟨h1.symm.trans k1, h2.symm.trans k2, h3.symm.trans k3, ?_⟩
    rw [← h4, List.take_take, Nat.min_eq_left hl]
    exact k4
  · right
    refine (extT_iff c b).2 ⟨k1.symm.trans h1, k2.symm.trans h2, k3.symm.trans h3, ?_⟩
    rw [← k4, List.take_take, Nat.min_eq_left hl]
    exact h4
/-- The reference's comparison: both extend each other, and the places are equal. -/
def sameT (a b : Ttl) : Bool := extT a b && extT b a && decide (a.place = b.place)
theorem sameT_iff (a b : Ttl) : sameT a b = true ↔ a = b := by
  unfold sameT
  simp only [Bool.and_eq_true, decide_eq_true_eq]
  constructor
  · rintro ⟨⟨h, k⟩, hp⟩
    have hl := extT_len h
    have kl := extT_len k
    obtain ⟨h1, h2, h3, h4⟩ := (extT_iff a b).1 h
    cases a; cases b
    simp only at h1 h2 h3 h4 hp hl kl
    subst h1 h2 h3 hp
    rw [List.take_of_length_le (by omega)] at h4
    subst h4
    rfl
  · rintro rfl
    exact ⟨⟨extT_refl a, extT_refl a⟩, rfl⟩
theorem sameT_refl (a : Ttl) : sameT a a = true := (sameT_iff a a).2 rfl
theorem ext_both (a b : Ttl) : (extT a b && extT b a) = sameT { a with place := b.place } b := by
  unfold sameT
  simp only [decide_true, Bool.and_true]
  rfl
/-- Places make no difference. -/
theorem msgT_place (t : Ttl) (p : Int) (tk : List UInt8) : msgT { t with place := p } tk = msgT t tk := rfl
theorem ownerT_place (t : Ttl) (p : Int) : ownerT { t with place := p } = ownerT t := rfl
theorem extT_place (t o : Ttl) (p : Int) : extT { t with place := p } o = extT t o := rfl
theorem extT_place' (t o : Ttl) (p : Int) : extT o { t with place := p } = extT o t := rfl
theorem stepT_place (t : Ttl) (p : Int) (i : Nat) : stepT { t with place := p } i = stepT t i := rfl
theorem validT_place {t : Ttl} {p : Int} (hp : -1 ≤ p ∧ p < 4000) (ht : -1 ≤ t.place ∧ t.place < 4000) : validT { t with place := p } = validT t := by
  unfold validT formedT
  simp only [decide_eq_true hp, decide_eq_true ht]
  rfl
theorem validT_out {t : Ttl} {p : Int} (hp : ¬ (-1 ≤ p ∧ p < 4000)) : validT { t with place := p } = false := by
  unfold validT formedT
  simp only [decide_eq_false hp, Bool.and_false, Bool.false_and]
/-- Cutting. -/
theorem cutT_cut (t : Ttl) (k i : Nat) (h : i ≤ k) : cutT (cutT t k) i = cutT t i := by
  unfold cutT
  simp only [List.take_take, Nat.min_eq_left h]
theorem stepT_cut (t : Ttl) (k i : Nat) (h : i < k) : stepT (cutT t k) i = stepT t i := by
  have h1 : (cutT t k).chain[i]? = t.chain[i]? := by
    unfold cutT
    simp only [List.getElem?_take, if_pos h]
  unfold stepT
  rw [h1, cutT_cut t k i (Nat.le_of_lt h)]
theorem formedT_cut {t : Ttl} (h : formedT t = true) (k : Nat) : formedT (cutT t k) = true := by
  unfold formedT at h ⊢
  simp only [Bool.and_eq_true, decide_eq_true_eq] at h ⊢
  obtain ⟨⟨⟨⟨⟨h1, h2⟩, h3⟩, h4⟩, h5⟩, h6⟩ := h
  refine ⟨⟨⟨⟨⟨h1, h2⟩, h3⟩, h4⟩, ?_⟩, ?_⟩
  · show (t.chain.take k).length ≤ 50
    rw [List.length_take]; omega
  · exact List.all_eq_true.2 fun x hx => List.all_eq_true.1 h6 x (List.mem_of_mem_take hx)
theorem validT_cut {t : Ttl} (h : validT t = true) (k : Nat) : validT (cutT t k) = true := by
  unfold validT at h ⊢
  simp only [Bool.and_eq_true] at h ⊢
  refine ⟨formedT_cut h.1 k, List.all_eq_true.2 fun i hi => ?_⟩
  have hi2 : i < k ∧ i < t.chain.length := by
    have := List.mem_range.1 hi
    unfold cutT at this
    simp only [List.length_take] at this
    omega
  rw [stepT_cut t k i hi2.1]
  exact List.all_eq_true.1 h.2 i (List.mem_range.2 hi2.2)
theorem extT_cut (t : Ttl) (k : Nat) : extT t (cutT t k) = true := by
  refine (extT_iff _ _).2 ⟨rfl, rfl, rfl, ?_⟩
  unfold cutT
  simp only [List.length_take]
  rcases Nat.le_total k t.chain.length with h | h
  · rw [Nat.min_eq_left h]
  · rw [Nat.min_eq_right h, List.take_length, List.take_of_length_le h]
/-- What Pass answers without an error. -/
theorem passT_ok {t x : Ttl} {tk secret : List UInt8} (h : passT t tk secret = .inl x) :
    validT t = true ∧ isD tk = true ∧ t.chain.length ≠ 50 ∧ usedT t tk = false ∧ publicS secret = ownerT t ∧ x = { t with chain := t.chain ++ [⟨tk, sigS secret (msgT t tk)⟩] } := by
  unfold passT at h
  split at h
  · cases h
  split at h
  · cases h
  split at h
  · cases h
  split at h
  · cases h
  rename_i h1 h2 h3 h4
  simp only [Sum.inl.injEq] at h
  simp only [Bool.or_eq_true, Bool.not_eq_true', not_or, Bool.not_eq_false] at h1
  simp only [bne_iff_ne, ne_eq, Decidable.not_not] at h4
  exact ⟨h1.1, h1.2, h2, by simpa using h3, h4, h.symm⟩
theorem passT_valid {t x : Ttl} {tk secret : List UInt8} (h : passT t tk secret = .inl x) : validT x = true := by
  obtain ⟨hv, hd, h50, hu, hp, rfl⟩ := passT_ok h
  unfold validT at hv ⊢
  simp only [Bool.and_eq_true] at hv ⊢
  obtain ⟨hf, hs⟩ := hv
  constructor
  · unfold formedT at hf ⊢
    simp only [Bool.and_eq_true, decide_eq_true_eq] at hf ⊢
    obtain ⟨⟨⟨⟨⟨h1, h2⟩, h3⟩, h4⟩, h5⟩, h6⟩ := hf
    refine ⟨⟨⟨⟨⟨h1, h2⟩, h3⟩, h4⟩, ?_⟩, ?_⟩
    · rw [List.length_append, List.length_singleton]; omega
    · rw [List.all_append, h6]
      simp only [List.all_cons, List.all_nil, Bool.true_and, Bool.and_true]
      unfold formX
      rw [sigS_length, hd, sigS_isD]
      rfl
  · refine List.all_eq_true.2 fun i hi => ?_
    have hi2 : i < t.chain.length + 1 := by simpa using hi
    have hcut : ∀ k, k ≤ t.chain.length → cutT { t with chain := t.chain ++ [⟨tk, sigS secret (msgT t tk)⟩] } k = cutT t k := fun k hk => by
      unfold cutT
      simp only [List.take_append_of_le_length hk]
    by_cases hlt : i < t.chain.length
    · have h1 : stepT { t with chain := t.chain ++ [⟨tk, sigS secret (msgT t tk)⟩] } i = stepT t i := by
        unfold stepT
        simp only [List.getElem?_append_left hlt]
        rw [hcut i (Nat.le_of_lt hlt)]
      rw [h1]
      exact List.all_eq_true.1 hs i (List.mem_range.2 hlt)
    · obtain rfl : i = t.chain.length := by omega
      have hc : cutT t t.chain.length = t := by unfold cutT; rw [List.take_length]
      unfold stepT
      rw [List.getElem?_append_right (Nat.le_refl _), Nat.sub_self]
      simp only [List.getElem?_cons_zero]
      rw [hcut _ (Nat.le_refl _), hc, hu, ← hp, verify_sig]
      rfl
theorem ownerT_snoc (t : Ttl) (x : Trf) : ownerT { t with chain := t.chain ++ [x] } = x.nk := by
  unfold ownerT
  simp
theorem passT_err {t : Ttl} {tk secret : List UInt8} {e : Int} (h : passT t tk secret = .inr e) : e ≠ 0 ∧ (validT t = false → e = 1) := by
  unfold passT at h
  split at h
  · exact ⟨by rw [← Sum.inr.inj h]; decide, fun _ => (Sum.inr.inj h).symm⟩
  rename_i h1
  have h2 : validT t = false → False := fun hv => h1 (by rw [hv]; rfl)
  split at h
  · exact ⟨by rw [← Sum.inr.inj h]; decide, fun hv => (h2 hv).elim⟩
  split at h
  · exact ⟨by rw [← Sum.inr.inj h]; decide, fun hv => (h2 hv).elim⟩
  split at h
  · exact ⟨by rw [← Sum.inr.inj h]; decide, fun hv => (h2 hv).elim⟩
  · cases h
/-- TitleOwners: a signature that is accepted for another key shows two strings with one digest. -/
theorem owners_coll {t x : Ttl} {tk other secret : List UInt8} (h : passT t tk secret = .inl x) (hne : tk ≠ other) (hv : verifyS (ownerT t) (msgT t other) (sigS secret (msgT t tk)) = true) :
    Coll ([joinL (fieldsT t tk), joinL (fieldsT t other), msgT t tk, msgT t other] ++ chainsS secret 30 ++ [joinL (endsS secret), joinL (vends (msgT t other) (sigS secret (msgT t tk)))]) := by
  obtain ⟨_, _, _, _, hp, _⟩ := passT_ok h
  rw [← hp] at hv
  by_cases hd : dsum (msgT t tk) = dsum (msgT t other)
  · by_cases hm : msgT t tk = msgT t other
    · refine dlist_coll (show dlist (fieldsT t tk) = dlist (fieldsT t other) from hm) (fun he => hne ?_) (by simp) (by simp)
      unfold fieldsT at he
      have := List.append_cancel_left he
      simpa using this
    · exact ⟨_, _, by simp, by simp, hd, hm⟩
  · exact (binds_coll secret (msgT t tk) (msgT t other) hd hv).mono (fun y hy => by
      rcases List.mem_append.1 hy with hy | hy
      · exact List.mem_append_left _ (List.mem_append_right _ hy)
      · exact List.mem_append_right _ hy)
end Go.Proofs.YtglgkdbhdjkeaaaGreatDoor
namespace Go.Proofs.YtglgkdbhdjkeaaaGreatDoor
open Go.RowKit

/-- The words of a title's text. -/
def chainW (l : List Trf) : List (List UInt8) := l.flatMap fun x => x.nk :: x.sig
def wordsT (t : Ttl) : List (List UInt8) := [Lib.itoa t.serial, Lib.itoa t.shw, Lib.itoa t.place, t.first] ++ chainW t.chain
/-- The text of a title. -/
def textT (t : Ttl) : List UInt8 := if formedT t then spS (wordsT t) else []
theorem isD_word {l : List UInt8} (h : isD l = true) : (32 : UInt8) ∉ l := by
  simp only [isD, Bool.and_eq_true] at h
  exact hex_word h.2
theorem wordsT_word {t : Ttl} (h : formedT t = true) : ∀ w ∈ wordsT t, (32 : UInt8) ∉ w := by
  obtain ⟨_, _, _, h4, _, h6⟩ := formedT_parts h
  intro w hw
  rcases List.mem_append.1 hw with hw | hw
  · simp only [List.mem_cons, List.not_mem_nil, or_false] at hw
    rcases hw with rfl | rfl | rfl | rfl
    · exact itoa_word _
    · exact itoa_word _
    · exact itoa_word _
    · exact isD_word h4
  · obtain ⟨x, hx, hw⟩ := List.mem_flatMap.1 hw
    have hx2 := formX_parts (List.all_eq_true.1 h6 x hx)
    rcases List.mem_cons.1 hw with rfl | hw
    · exact isD_word hx2.2.1
    · exact isD_word (List.all_eq_true.1 hx2.2.2 w hw)
theorem wordsT_ne (t : Ttl) : wordsT t ≠ [] := by simp [wordsT]
theorem textT_split {t : Ttl} (h : formedT t = true) : splitS (textT t) = wordsT t := by
  unfold textT
  rw [if_pos h, split_sp _ (wordsT_ne t) (wordsT_word h)]
theorem textT_ne {t : Ttl} (h : formedT t = true) : textT t ≠ [] := by
  intro h0
  have h1 := textT_split h
  rw [h0] at h1
  have := congrArg List.length h1
  simp [splitS, wordsT] at this
theorem textT_nil {t : Ttl} (h : formedT t = false) : textT t = [] := by
  unfold textT
  rw [h]; rfl
/-- The transfers that some words stand for. -/
def grpT (ws : List (List UInt8)) (n : Nat) : List Trf := (List.range n).map fun i => ⟨ws.getD (19 * i) [], (ws.drop (19 * i + 1)).take 18⟩
theorem chainW_len : ∀ (l : List Trf), l.all formX = true → (chainW l).length = 19 * l.length
  | [], _ => rfl
  | x :: l, h => by
    rw [List.all_cons, Bool.and_eq_true] at h
    have h1 := (formX_parts h.1).1
    have h2 := chainW_len l h.2
    unfold chainW at h2 ⊢
    rw [List.flatMap_cons, List.length_append, h2, List.length_cons, h1, List.length_cons]
    omega
theorem chainW_at : ∀ (l : List Trf) (i : Nat), l.all formX = true → (h : i < l.length) → (⟨(chainW l).getD (19 * i) [], ((chainW l).drop (19 * i + 1)).take 18⟩ : Trf) = l[i]
  | [], i, _, h => absurd h (by simp)
  | x :: l, 0, hf, _ => by
    rw [List.all_cons, Bool.and_eq_true] at hf
    have h1 := (formX_parts hf.1).1
    unfold chainW
    rw [List.flatMap_cons]
    simp only [Nat.mul_zero, Nat.zero_add, List.cons_append, List.drop_succ_cons, List.drop_zero, List.getElem_cons_zero]
    rw [List.take_append_of_le_length (by omega), List.take_of_length_le (by omega)]
    rfl
  | x :: l, i + 1, hf, h => by
    rw [List.all_cons, Bool.and_eq_true] at hf
    have h1 := (formX_parts hf.1).1
    have ih := chainW_at l i hf.2 (by simpa using h)
    have e1 : (chainW (x :: l)).drop 19 = chainW l := by
      unfold chainW
      rw [List.flatMap_cons, List.drop_append, List.drop_eq_nil_of_le (by rw [List.length_cons]; omega), List.nil_append, List.length_cons, h1]
      rfl
    have e2 : (chainW (x :: l)).getD (19 * (i + 1)) [] = (chainW l).getD (19 * i) [] := by
      rw [← e1, List.getD_eq_getElem?_getD, List.getD_eq_getElem?_getD, List.getElem?_drop]
      congr 2
      omega
    have e3 : (chainW (x :: l)).drop (19 * (i + 1) + 1) = (chainW l).drop (19 * i + 1) := by
      rw [← e1, List.drop_drop]
      congr 1
      omega
    rw [e2, e3, ih]
    rfl
theorem grpT_chain {l : List Trf} (h : l.all formX = true) : grpT (chainW l) l.length = l := by
  refine List.ext_getElem (by simp [grpT]) (fun i h1 h2 => ?_)
  simp only [grpT, List.getElem_map, List.getElem_range]
  exact chainW_at l i h h2
theorem textT_inj {a b : Ttl} (ha : formedT a = true) (hb : formedT b = true) (h : textT a = textT b) : a = b := by
  have h1 : wordsT a = wordsT b := by rw [← textT_split ha, ← textT_split hb, h]
  unfold wordsT at h1
  simp only [List.cons_append, List.nil_append, List.cons.injEq] at h1
  obtain ⟨e1, e2, e3, e4, e5⟩ := h1
  obtain ⟨_, _, _, _, _, fa⟩ := formedT_parts ha
  obtain ⟨_, _, _, _, _, fb⟩ := formedT_parts hb
  have hl : a.chain.length = b.chain.length := by
    have := congrArg List.length e5
    rw [chainW_len _ fa, chainW_len _ fb] at this
    omega
  have hc : a.chain = b.chain := by rw [← grpT_chain fa, ← grpT_chain fb, e5, hl]
  have f1 := itoa_inj e1
  have f2 := itoa_inj e2
  have f3 := itoa_inj e3
  clear e1 e2 e3 e5 hl fa fb ha hb h
  cases a; cases b
  simp only at f1 f2 f3 e4 hc
  subst f1 f2 f3 e4 hc
  rfl
/-- A text is that of a title. -/
def IsTextT (text : List UInt8) (t : Ttl) : Prop := formedT t = true ∧ textT t = text
/-- What is read from a text. -/
def ParsedT (text : List UInt8) (o : Option Ttl) : Prop := ∀ t, o = some t ↔ IsTextT text t
theorem ParsedT.eq {text : List UInt8} {o p : Option Ttl} (h : ParsedT text o) (k : ParsedT text p) : o = p := by
  cases o with
  | none =>
    cases p with
    | none => rfl
    | some f => exact (h f).2 ((k f).1 rfl)
  | some f => exact ((k f).2 ((h f).1 rfl)).symm
theorem parsedT_of {text : List UInt8} {t : Ttl} (h : ∀ g, IsTextT text g → t = g) : ParsedT text (if textT t = text ∧ text ≠ [] then some t else none) := by
  intro g
  split
  · rename_i hc
    have hf : formedT t = true := by
      cases hv : formedT t with
      | true => rfl
      | false => exact absurd (hc.1.symm.trans (textT_nil hv)) hc.2
    constructor
    · intro e; cases e; exact ⟨hf, hc.1⟩
    · intro k; rw [h g k]
  · rename_i hc
    constructor
    · intro e; cases e
    · intro k
      have := h g k
      subst this
      exact absurd ⟨k.2, by rw [← k.2]; exact textT_ne k.1⟩ hc
theorem isTextT_words {text : List UInt8} {g : Ttl} (h : IsTextT text g) : splitS text = wordsT g := by
  rw [← h.2, textT_split h.1]
/-- The title that the words of a text stand for, where they are those of a title. -/
theorem grpT_text {text : List UInt8} {g : Ttl} (h : IsTextT text g) : ∃ a b c d ws, splitS text = a :: b :: c :: d :: ws ∧ a = Lib.itoa g.serial ∧ b = Lib.itoa g.shw ∧ c = Lib.itoa g.place ∧ d = g.first ∧ ws.length = 19 * g.chain.length ∧ grpT ws g.chain.length = g.chain :=
  ⟨_, _, _, _, chainW g.chain, isTextT_words h, rfl, rfl, rfl, rfl, chainW_len _ (formedT_parts h.1).2.2.2.2.2, grpT_chain (formedT_parts h.1).2.2.2.2.2⟩
end Go.Proofs.YtglgkdbhdjkeaaaGreatDoor
