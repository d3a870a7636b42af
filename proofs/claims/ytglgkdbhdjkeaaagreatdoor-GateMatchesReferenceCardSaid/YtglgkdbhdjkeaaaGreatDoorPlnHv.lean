/-
  Plain law: what hexadecimal digits stand for.
  Plain law: words between spaces, joined and split (chapters 36, 30).
  Plain law: decimal numerals are read back; hexadecimal words; no space in either.
  Plain law: the library's pieces between single bytes are the words between spaces.
  Plain law: hexadecimal numerals without leading zeros, filled up with zeros to sixteen digits.
-/
import Derived.Test.YtglgkdbhdjkeaaaGreatDoorRefA
import Derived.Test.YtglgkdbhdjkeaaaGreatDoorBase
import Derived.Test.YtglgkdbhdjkeaaaGreatDoorPlnA
import Derived.Lib.AtoiAllCases
import Derived.Lib.ItoaLen
import Derived.Lib.SplitLaws
import Derived.Lib.Join
namespace Go.Proofs.YtglgkdbhdjkeaaaGreatDoor
open Go.RowKit

/-- The number that hexadecimal digits stand for. -/
def hexV (l : List UInt8) : Nat := l.foldl (fun a c => a * 16 + hexN c) 0
theorem hexV_fold (l : List UInt8) : ∀ a : Nat, l.foldl (fun a c => a * 16 + hexN c) a = a * 16 ^ l.length + hexV l := by
  induction l with
  | nil => intro a; simp [hexV]
  | cons c l ih =>
    intro a
    unfold hexV
    rw [List.foldl_cons, List.foldl_cons, ih, ih (0 * 16 + hexN c), List.length_cons, Nat.pow_succ, Nat.zero_mul, Nat.zero_add, Nat.add_mul, Nat.mul_assoc a 16, Nat.mul_comm 16 (16 ^ _)]
    omega
theorem hexV_append (a b : List UInt8) : hexV (a ++ b) = hexV a * 16 ^ b.length + hexV b := by
  unfold hexV
  rw [List.foldl_append, hexV_fold]; rfl
theorem hexV_snoc (h : List UInt8) (k : Nat) (hk : k < h.length) : hexV (h.take (k + 1)) = hexV (h.take k) * 16 + hexN (h.getD k 0) := by
  rw [take_snoc' h k 0 hk, hexV_append]
  simp [hexV]
theorem hexV_lt : ∀ (l : List UInt8), l.all hexC = true → hexV l < 16 ^ l.length
  | [], _ => by simp [hexV]
  | c :: l, h => by
    simp only [List.all_cons, Bool.and_eq_true] at h
    have h1 := hexV_lt l h.2
    have h2 := (index_hex c h.1).2
    rw [show c :: l = [c] ++ l from rfl, hexV_append, List.length_append, Nat.pow_add]
    have h3 : hexV [c] = hexN c := by simp [hexV]
    rw [h3]
    have h4 : hexN c * 16 ^ l.length ≤ 15 * 16 ^ l.length := Nat.mul_le_mul_right _ (by omega)
    simp only [List.length_singleton, Nat.pow_one]
    omega
/-- What digest.Below returns. -/
def belowS (d : List UInt8) (n : Int) : Int := if decide (n < 1) || !isD d then 0 else (hexV (d.take 15) : Int) % n

theorem hexN_lo (c : UInt8) (h : hexC c = true) : (c.toNat ≤ 57 → hexN c = c.toNat - 48 ∧ 48 ≤ c.toNat) ∧ (57 < c.toNat → hexN c = c.toNat - 87 ∧ 97 ≤ c.toNat ∧ c.toNat ≤ 102) := by
  simp only [hexC, Bool.or_eq_true, Bool.and_eq_true, decide_eq_true_eq, UInt8.le_iff_toNat_le] at h
  simp at h
  unfold hexN
  constructor <;> intro h1 <;> split <;> omega
end Go.Proofs.YtglgkdbhdjkeaaaGreatDoor
namespace Go.Proofs.YtglgkdbhdjkeaaaGreatDoor
open Go.RowKit

/-- The words of a text, between its spaces. -/
def splitS : List UInt8 → List (List UInt8)
  | [] => [[]]
  | c :: t => if c = 32 then [] :: splitS t else match splitS t with
    | [] => [[c]]
    | w :: ws => (c :: w) :: ws
/-- Words with a space between them. -/
def spS : List (List UInt8) → List UInt8
  | [] => []
  | [w] => w
  | w :: v :: ws => w ++ 32 :: spS (v :: ws)
theorem splitS_ne (l : List UInt8) : splitS l ≠ [] := by
  cases l with
  | nil => simp [splitS]
  | cons c t =>
    unfold splitS
    split
    · simp
    · split <;> simp
theorem sp_split (l : List UInt8) : spS (splitS l) = l := by
  induction l with
  | nil => rfl
  | cons c t ih =>
    unfold splitS
    split
    · rename_i h
      obtain ⟨w, ws, hw⟩ := List.exists_cons_of_ne_nil (splitS_ne t)
      rw [hw] at ih ⊢
      simp [spS, ih, h]
    · obtain ⟨w, ws, hw⟩ := List.exists_cons_of_ne_nil (splitS_ne t)
      rw [hw] at ih ⊢
      simp only
      cases ws with
      | nil => simpa [spS] using ih
      | cons v vs => simpa [spS] using ih
theorem split_app (w : List UInt8) (h : (32 : UInt8) ∉ w) (t : List UInt8) : splitS (w ++ 32 :: t) = w :: splitS t := by
  induction w with
  | nil => simp [splitS]
  | cons c w ih =>
    have h1 : c ≠ 32 := fun e => h (by simp [e])
    have h2 : (32 : UInt8) ∉ w := fun e => h (by simp [e])
    rw [List.cons_append]
    conv => lhs; unfold splitS
    rw [if_neg h1, ih h2]
theorem split_one (w : List UInt8) (h : (32 : UInt8) ∉ w) : splitS w = [w] := by
  induction w with
  | nil => rfl
  | cons c w ih =>
    have h1 : c ≠ 32 := fun e => h (by simp [e])
    have h2 : (32 : UInt8) ∉ w := fun e => h (by simp [e])
    conv => lhs; unfold splitS
    rw [if_neg h1, ih h2]
theorem split_sp : ∀ (ws : List (List UInt8)), ws ≠ [] → (∀ w ∈ ws, (32 : UInt8) ∉ w) → splitS (spS ws) = ws
  | [], h, _ => absurd rfl h
  | [w], _, h => split_one w (h w (by simp))
  | w :: v :: ws, _, h => by
    rw [show spS (w :: v :: ws) = w ++ 32 :: spS (v :: ws) from rfl, split_app w (h w (by simp)), split_sp (v :: ws) (by simp) (fun x hx => h x (List.mem_cons_of_mem _ hx))]
theorem spS_inj {a b : List (List UInt8)} (ha : a ≠ []) (hb : b ≠ []) (h1 : ∀ w ∈ a, (32 : UInt8) ∉ w) (h2 : ∀ w ∈ b, (32 : UInt8) ∉ w) (h : spS a = spS b) : a = b := by
  rw [← split_sp a ha h1, ← split_sp b hb h2, h]
end Go.Proofs.YtglgkdbhdjkeaaaGreatDoor
namespace Go.Proofs.YtglgkdbhdjkeaaaGreatDoor
open Go.RowKit

def decF (a : Nat) (c : UInt8) : Nat := a * 10 + (c.toNat - 48)
theorem decF_ge : ∀ (l : List UInt8) (a : Nat), a ≤ l.foldl decF a
  | [], a => Nat.le_refl _
  | c :: l, a => by
    rw [List.foldl_cons]
    exact Nat.le_trans (by unfold decF; omega) (decF_ge l _)
theorem pu10_fold : ∀ (l : List UInt8) (a : Nat), (∀ c ∈ l, 48 ≤ c.toNat ∧ c.toNat ≤ 57) → l.foldl decF a < 1844674407370955162 → Lib.parseUint10 a l = .ok (l.foldl decF a)
  | [], a, _, _ => rfl
  | c :: l, a, hd, hb => by
    have h1 := decF_ge l (decF a c)
    rw [List.foldl_cons] at hb ⊢
    have h2 : decF a c = a * 10 + (c.toNat - 48) := rfl
    unfold Lib.parseUint10
    rw [if_pos (hd c (by simp)), if_neg (by omega), if_neg (by omega)]
    exact pu10_fold l _ (fun x hx => hd x (by simp [hx])) hb
theorem dec_nonempty (n : Nat) : Lib.decDigits n ≠ [] := by
  rw [Lib.decDigits]
  split <;> simp
theorem mag_dec (n : Nat) (h : n < 1000000000000000000) : Lib.parseMag (Lib.decDigits n) = .ok n := by
  unfold Lib.parseMag
  rw [if_neg (dec_nonempty n)]
  have h1 : (Lib.decDigits n).foldl decF 0 = n := dec_fold n
  rw [pu10_fold _ _ (dec_chars n) (by rw [h1]; omega), h1]
/-- A numeral is read back. -/
theorem atoi_itoa (n : Int) (h0 : -1000000000000000000 < n) (h1 : n < 1000000000000000000) : Lib.atoiAll (Lib.itoa n) = .ok n := by
  unfold Lib.itoa
  split
  · rename_i hn
    rw [Lib.atoiAll_minus, mag_dec _ (by omega)]
    unfold Lib.signed
    simp only
    rw [if_neg (by omega)]
    congr 1
    omega
  · rename_i hn
    obtain ⟨c, r, hc⟩ := List.exists_cons_of_ne_nil (dec_nonempty n.toNat)
    have hcc := dec_chars n.toNat c (by rw [hc]; simp)
    have hm := mag_dec n.toNat (by omega)
    rw [hc] at hm ⊢
    rw [Lib.atoiAll_plain c r (by omega) (by omega), hm]
    unfold Lib.signless
    simp only
    rw [if_neg (by omega)]
    congr 1
    omega
theorem itoa_chars (n : Int) : ∀ c ∈ Lib.itoa n, c.toNat = 45 ∨ (48 ≤ c.toNat ∧ c.toNat ≤ 57) := by
  intro c hc
  unfold Lib.itoa at hc
  split at hc
  · rcases List.mem_cons.1 hc with rfl | hc
    · exact Or.inl rfl
    · exact Or.inr (dec_chars _ c hc)
  · exact Or.inr (dec_chars _ c hc)
theorem itoa_word (n : Int) : (32 : UInt8) ∉ Lib.itoa n := fun h => by
  have := itoa_chars n _ h
  simp at this
theorem dec_word (n : Nat) : (32 : UInt8) ∉ Lib.decDigits n := fun h => by
  have := dec_chars n _ h
  simp at this
theorem itoa_nonempty (n : Int) : Lib.itoa n ≠ [] := by
  unfold Lib.itoa
  split
  · simp
  · exact dec_nonempty _
theorem itoa_inj {a b : Int} (h : Lib.itoa a = Lib.itoa b) : a = b := by
  unfold Lib.itoa at h
  split at h <;> split at h
  · have := dec_inj (List.cons.inj h).2
    omega
  · have h1 := dec_chars b.toNat 45 (by rw [← h]; simp)
    simp at h1
  · have h1 := dec_chars a.toNat 45 (by rw [h]; simp)
    simp at h1
  · have := dec_inj h
    omega
theorem hex_word {l : List UInt8} (h : l.all hexC = true) : (32 : UInt8) ∉ l := fun hm => by
  have := List.all_eq_true.1 h _ hm
  simp [hexC] at this
theorem hexN_hexd (d : Nat) (h : d < 16) : hexN (UInt8.ofNat (hexd d)) = d := by
  have h1 : ∀ d, d < 16 → hexN (UInt8.ofNat (hexd d)) = d := by decide
  exact h1 d h
theorem digL_len (st : Nat) : ∀ k, (digL st k).length = k
  | 0 => rfl
  | k + 1 => by rw [digL, List.length_cons, digL_len st k]
theorem hexV_digL (st : Nat) : ∀ k, hexV (digL st k) = st % 16 ^ k
  | 0 => by simp [digL, hexV, Nat.mod_one]
  | k + 1 => by
    rw [digL, show UInt8.ofNat (hexd (st / 16 ^ k % 16)) :: digL st k = [UInt8.ofNat (hexd (st / 16 ^ k % 16))] ++ digL st k from rfl, hexV_append, digL_len, hexV_digL st k]
    rw [show hexV [UInt8.ofNat (hexd (st / 16 ^ k % 16))] = hexN (UInt8.ofNat (hexd (st / 16 ^ k % 16))) by simp [hexV], hexN_hexd _ (Nat.mod_lt _ (by decide)), Nat.mod_pow_succ, Nat.mul_comm]
    omega
/-- The sixteen digits of a word spell it. -/
theorem hexV_hexS (x : Nat) (h : x < 18446744073709551616) : hexV (hexS x) = x := by
  rw [← digL_16, hexV_digL]
  exact Nat.mod_eq_of_lt h
end Go.Proofs.YtglgkdbhdjkeaaaGreatDoor
namespace Go.Proofs.YtglgkdbhdjkeaaaGreatDoor
open Go.RowKit

theorem index_sp (a t : List UInt8) (h : (32 : UInt8) ∉ a) : Lib.index (a ++ 32 :: t) [32] = (a.length : Int) := by
  induction a with
  | nil => rw [List.nil_append, Lib.index]; simp [List.isPrefixOf]
  | cons c a ih =>
    have h1 : c ≠ 32 := fun e => h (by simp [e])
    have h2 : (32 : UInt8) ∉ a := fun e => h (by simp [e])
    have hp : ([32] : List UInt8).isPrefixOf (c :: (a ++ 32 :: t)) = false := by simp [List.isPrefixOf, Ne.symm h1]
    rw [List.cons_append, Lib.index, hp, ih h2]
    simp only [Bool.false_eq_true, if_false, List.length_cons]
    rw [if_neg (by simp; try omega)]
    simp
theorem first_sp : ∀ (s : List UInt8), (32 : UInt8) ∈ s → ∃ a t, s = a ++ 32 :: t ∧ (32 : UInt8) ∉ a
  | [], h => by cases h
  | c :: s, h => by
    by_cases hc : c = 32
    · exact ⟨[], s, by rw [hc]; rfl, by simp⟩
    · obtain ⟨a, t, hs, ha⟩ := first_sp s (by simpa [Ne.symm hc] using h)
      exact ⟨c :: a, t, by rw [hs]; rfl, by simp [Ne.symm hc, ha]⟩
theorem splitK_sp : ∀ (k : Nat) (s : List UInt8), s.count 32 = k → Lib.splitK [32] 0 k s = splitS s
  | 0, s, h => by
    rw [split_one s (fun hm => by have := List.count_pos_iff.2 hm; omega)]
    rfl
  | k + 1, s, h => by
    obtain ⟨a, t, rfl, ha⟩ := first_sp s (List.count_pos_iff.1 (by omega))
    have hix := index_sp a t ha
    have hct : t.count 32 = k := by
      rw [List.count_append, List.count_cons_self, List.count_eq_zero.2 ha] at h
      omega
    have e : ∀ s, Lib.splitK [32] 0 (k + 1) s = if Lib.index s [32] == -1 then [s] else s.take ((Lib.index s [32]).toNat + 0) :: Lib.splitK [32] 0 k (s.drop ((Lib.index s [32]).toNat + 1)) := fun s => rfl
    rw [split_app a ha, e, if_neg (by rw [hix]; simp), hix, ← splitK_sp k t hct]
    simp
theorem split_lib (s : List UInt8) : (Lib.splitB ⟨#[32]⟩ 0 (Lib.countB ⟨s.toArray⟩ ⟨#[32]⟩) ⟨s.toArray⟩).map (·.data.toList) = splitS s := by
  rw [Lib.splitB_data]
  have h1 : Lib.countB ⟨s.toArray⟩ ⟨#[32]⟩ = s.count 32 := by
    show Lib.count s [32] = _
    exact Lib.count_one 32 s
  rw [h1]
  exact splitK_sp _ s rfl
theorem join_lib : ∀ (l : List (List UInt8)), Lib.join l [32] = spS l
  | [] => rfl
  | [w] => Lib.join_one w _
  | w :: v :: ws => by
    rw [Lib.join_cons, show spS (w :: v :: ws) = w ++ 32 :: spS (v :: ws) from rfl, ← join_lib (v :: ws), Lib.join_cons]
    simp [Lib.joinTail]
theorem spS_len : ∀ (l : List (List UInt8)) (B : Nat), (∀ w ∈ l, w.length ≤ B) → (spS l).length ≤ l.length * (B + 1)
  | [], B, _ => by simp [spS]
  | [w], B, h => by have := h w (by simp); simp [spS]; omega
  | w :: v :: ws, B, h => by
    have h1 := spS_len (v :: ws) B (fun x hx => h x (by simp [hx]))
    have h2 := h w (by simp)
    have h3 : (spS (w :: v :: ws)).length = w.length + 1 + (spS (v :: ws)).length := by
      show (w ++ 32 :: spS (v :: ws)).length = _
      rw [List.length_append, List.length_cons]; omega
    have h4 : (w :: v :: ws).length * (B + 1) = (v :: ws).length * (B + 1) + (B + 1) := by
      rw [List.length_cons (a := w), Nat.add_mul, Nat.one_mul]
    omega
theorem spS_snoc : ∀ (l : List (List UInt8)) (x : List UInt8), l ≠ [] → spS (l ++ [x]) = spS l ++ 32 :: x
  | [], _, h => absurd rfl h
  | [w], x, _ => rfl
  | w :: v :: ws, x, _ => by
    rw [List.cons_append, List.cons_append, show spS (w :: v :: (ws ++ [x])) = w ++ 32 :: spS (v :: (ws ++ [x])) from rfl, ← List.cons_append, spS_snoc (v :: ws) x (by simp)]
    show _ = (w ++ 32 :: spS (v :: ws)) ++ 32 :: x
    simp
theorem splitS_short (l : List UInt8) : ∀ w ∈ splitS l, w.length ≤ l.length := by
  induction l with
  | nil => intro w hw; simp [splitS] at hw; simp [hw]
  | cons c t ih =>
    intro w hw
    unfold splitS at hw
    split at hw
    · rcases List.mem_cons.1 hw with rfl | hw
      · simp
      · have := ih w hw; simp; omega
    · split at hw
      · rw [List.mem_singleton.1 hw]; simp
      · rename_i v vs hv
        rcases List.mem_cons.1 hw with rfl | hw
        · have := ih v (by rw [hv]; simp); simp; omega
        · have := ih w (by rw [hv]; simp [hw]); simp; omega
theorem splitS_len (l : List UInt8) : (splitS l).length ≤ l.length + 1 := by
  induction l with
  | nil => simp [splitS]
  | cons c t ih =>
    unfold splitS
    split
    · simp; omega
    · split
      · simp
      · rename_i v vs hv
        rw [hv] at ih
        simp at ih ⊢; omega
end Go.Proofs.YtglgkdbhdjkeaaaGreatDoor
namespace Go.Proofs.YtglgkdbhdjkeaaaGreatDoor
open Go.RowKit

/-- The hexadecimal digits of a number, the first ahead. -/
def hexD (u : Nat) : List UInt8 := if _h : u < 16 then [UInt8.ofNat (hexd u)] else hexD (u / 16) ++ [UInt8.ofNat (hexd (u % 16))]
termination_by u
decreasing_by omega
theorem hexD_small (u : Nat) (h : u < 16) : hexD u = [UInt8.ofNat (hexd u)] := by rw [hexD, dif_pos h]
theorem hexD_big (u : Nat) (h : 16 ≤ u) : hexD u = hexD (u / 16) ++ [UInt8.ofNat (hexd (u % 16))] := by rw [hexD, dif_neg (by omega)]
theorem digL_snoc (u : Nat) : ∀ k, digL u (k + 1) = digL (u / 16) k ++ [UInt8.ofNat (hexd (u % 16))]
  | 0 => by simp [digL]
  | k + 1 => by
    rw [digL, digL_snoc u k, digL, Nat.pow_succ, Nat.mul_comm, ← Nat.div_div_eq_div_mul]
    rfl
theorem digL_zero : ∀ k, digL 0 k = List.replicate k 48
  | 0 => rfl
  | k + 1 => by
    rw [digL, digL_zero k, List.replicate_succ]
    simp [hexd]
theorem hexD_pad : ∀ (k u : Nat), u < 16 ^ (k + 1) → (hexD u).length ≤ k + 1 ∧ digL u (k + 1) = List.replicate (k + 1 - (hexD u).length) 48 ++ hexD u
  | k, u, h => by
    by_cases h16 : u < 16
    · rw [hexD_small u h16]
      refine ⟨by simp, ?_⟩
      rw [digL_snoc, Nat.div_eq_of_lt h16, Nat.mod_eq_of_lt h16, digL_zero]
      simp
    · cases k with
      | zero => simp at h; omega
      | succ k =>
        obtain ⟨h1, h2⟩ := hexD_pad k (u / 16) (by rw [Nat.pow_succ] at h; omega)
        rw [hexD_big u (by omega)]
        refine ⟨by simp; omega, ?_⟩
        rw [digL_snoc, h2, List.length_append, List.length_singleton, List.append_assoc, show k + 1 + 1 - ((hexD (u / 16)).length + 1) = k + 1 - (hexD (u / 16)).length by omega]
theorem hexD_len (u : Nat) (h : u < 18446744073709551616) : (hexD u).length ≤ 16 ∧ 1 ≤ (hexD u).length := by
  refine ⟨(hexD_pad 15 u h).1, ?_⟩
  by_cases h16 : u < 16
  · rw [hexD_small u h16]; simp
  · rw [hexD_big u (by omega)]; simp
theorem hexD_fill (u : Nat) (h : u < 18446744073709551616) : List.replicate (16 - (hexD u).length) 48 ++ hexD u = hexS u := by
  rw [← digL_16]
  exact (hexD_pad 15 u h).2.symm
end Go.Proofs.YtglgkdbhdjkeaaaGreatDoor
