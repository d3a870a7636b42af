/-
  Plain law: what hexadecimal digits stand for.
  Plain law: words between spaces, joined and split (chapters 36, 30).
  Plain law: decimal numerals are read back; hexadecimal words; no space in either.
  Plain law: the library's pieces between single bytes are the words between spaces.
  Plain law: hexadecimal numerals without leading zeros, filled up with zeros to sixteen digits.
  A string as a slice of bytes.
  strconv.ParseInt of 15 hexadecimal digits; digest.Below.
-/
import Derived.Test.YtjddngbgbbbefaaGreatDoorRefA
import Derived.Test.YtjddngbgbbbefaaGreatDoorBase
import Derived.Test.YtjddngbgbbbefaaGreatDoorPlnA
import Derived.Lib.AtoiAllCases
import Derived.Lib.ItoaLen
import Derived.Lib.SplitLaws
import Derived.Lib.Join
import Derived.Laws.CopyOwn
namespace Go.Proofs.YtjddngbgbbbefaaGreatDoor
open Go.RowKit

/-- The number that hexadecimal digits stand for. -/
def hexV (l : List UInt8) : Nat := l.foldl (fun a c => a * 16 + hexN c) 0
theorem hexV_fold (l : List UInt8) : ∀ a : Nat, l.foldl (fun a c => a * 16 + hexN c) a = a * 16 ^ l.length + hexV l := by
  induction l with
  | nil => intro a; simp [hexV]
  | cons c l ih =>
    intro a
    unfold hexV
    rw [List.foldl_cons, List.foldl_cons, ih, ih (0 * 16 + hexN c), List.length_cons, Nat.pow_succ, Nat.zero_mul, Nat.zero_add, Nat.add_mul, Nat.mul_assoc a 16, Nat.mul_comm 16 (16 ^ _)]
    omega
theorem hexV_append (a b : List UInt8) : hexV (a ++ b) = hexV a * 16 ^ b.length + hexV b := by
  unfold hexV
  rw [List.foldl_append, hexV_fold]; rfl
theorem hexV_snoc (h : List UInt8) (k : Nat) (hk : k < h.length) : hexV (h.take (k + 1)) = hexV (h.take k) * 16 + hexN (h.getD k 0) := by
  rw [take_snoc' h k 0 hk, hexV_append]
  simp [hexV]
theorem hexV_lt : ∀ (l : List UInt8), l.all hexC = true → hexV l < 16 ^ l.length
  | [], _ => by simp [hexV]
  | c :: l, h => by
    simp only [List.all_cons, Bool.and_eq_true] at h
    have h1 := hexV_lt l h.2
    have h2 := (index_hex c h.1).2
    rw [show c :: l = [c] ++ l from rfl, hexV_append, List.length_append, Nat.pow_add]
    have h3 : hexV [c] = hexN c := by simp [hexV]
    rw [h3]
    have h4 : hexN c * 16 ^ l.length ≤ 15 * 16 ^ l.length := Nat.mul_le_mul_right _ (by omega)
    simp only [List.length_singleton, Nat.pow_one]
    omega
/-- What digest.Below returns. -/
def belowS (d : List UInt8) (n : Int) : Int := if decide (n < 1) || !isD d then 0 else (hexV (d.take 15) : Int) % n

theorem hexN_lo (c : UInt8) (h : hexC c = true) : (c.toNat ≤ 57 → hexN c = c.toNat - 48 ∧ 48 ≤ c.toNat) ∧ (57 < c.toNat → hexN c = c.toNat - 87 ∧ 97 ≤ c.toNat ∧ c.toNat ≤ 102) := by
  simp only [hexC, Bool.or_eq_true, Bool.and_eq_true, decide_eq_true_eq, UInt8.le_iff_toNat_le] at h
  simp at h
  unfold hexN
  constructor <;> intro h1 <;> split <;> omega
end Go.Proofs.YtjddngbgbbbefaaGreatDoor
namespace Go.Proofs.YtjddngbgbbbefaaGreatDoor
open Go.RowKit

/-- The words of a text, between its spaces. -/
def splitS : List UInt8 → List (List UInt8)
  | [] => [[]]
  | c :: t => if c = 32 then [] :: splitS t else match splitS t with
    | [] => [[c]]
    | w :: ws => (c :: w) :: ws
/-- Words with a space between them. -/
def spS : List (List UInt8) → List UInt8
  | [] => []
  | [w] => w
  | w :: v :: ws => w ++ 32 :: spS (v :: ws)
theorem splitS_ne (l : List UInt8) : splitS l ≠ [] := by
  cases l with
  | nil => simp [splitS]
  | cons c t =>
    unfold splitS
    split
    · simp
    · split <;> simp
theorem sp_split (l : List UInt8) : spS (splitS l) = l := by
  induction l with
  | nil => rfl
  | cons c t ih =>
    unfold splitS
    split
    · rename_i h
      obtain ⟨w, ws, hw⟩ := List.exists_cons_of_ne_nil (splitS_ne t)
      rw [hw] at ih ⊢
      simp [spS, ih, h]
    · obtain ⟨w, ws, hw⟩ := List.exists_cons_of_ne_nil (splitS_ne t)
      rw [hw] at ih ⊢
      simp only
      cases ws with
      | nil => simpa [spS] using ih
      | cons v vs => simpa [spS] using ih
theorem split_app (w : List UInt8) (h : (32 : UInt8) ∉ w) (t : List UInt8) : splitS (w ++ 32 :: t) = w :: splitS t := by
  induction w with
  | nil => simp [splitS]
  | cons c w ih =>
    have h1 : c ≠ 32 := fun e => h (by simp [e])
    have h2 : (32 : UInt8) ∉ w := fun e => h (by simp [e])
    rw [List.cons_append]
    conv => lhs; unfold splitS
    rw [if_neg h1, ih h2]
theorem split_one (w : List UInt8) (h : (32 : UInt8) ∉ w) : splitS w = [w] := by
  induction w with
  | nil => rfl
  | cons c w ih =>
    have h1 : c ≠ 32 := fun e => h (by simp [e])
    have h2 : (32 : UInt8) ∉ w := fun e => h (by simp [e])
    conv => lhs; unfold splitS
    rw [if_neg h1, ih h2]
theorem split_sp : ∀ (ws : List (List UInt8)), ws ≠ [] → (∀ w ∈ ws, (32 : UInt8) ∉ w) → splitS (spS ws) = ws
  | [], h, _ => absurd rfl h
  | [w], _, h => split_one w (h w (by simp))
  | w :: v :: ws, _, h => by
    rw [show spS (w :: v :: ws) = w ++ 32 :: spS (v :: ws) from rfl, split_app w (h w (by simp)), split_sp (v :: ws) (by simp) (fun x hx => h x (List.mem_cons_of_mem _ hx))]
theorem spS_inj {a b : List (List UInt8)} (ha : a ≠ []) (hb : b ≠ []) (h1 : ∀ w ∈ a, (32 : UInt8) ∉ w) (h2 : ∀ w ∈ b, (32 : UInt8) ∉ w) (h : spS a = spS b) : a = b := by
  rw [← split_sp a ha h1, ← split_sp b hb h2, h]
end Go.Proofs.YtjddngbgbbbefaaGreatDoor
namespace Go.Proofs.YtjddngbgbbbefaaGreatDoor
open Go.RowKit

def decF (a : Nat) (c : UInt8) : Nat := a * 10 + (c.toNat - 48)
theorem decF_ge : ∀ (l : List UInt8) (a : Nat), a ≤ l.foldl decF a
  | [], a => Nat.le_refl _
  | c :: l, a => by
    rw [List.foldl_cons]
    exact Nat.le_trans (by unfold decF; omega) (decF_ge l _)
theorem pu10_fold : ∀ (l : List UInt8) (a : Nat), (∀ c ∈ l, 48 ≤ c.toNat ∧ c.toNat ≤ 57) → l.foldl decF a < 1844674407370955162 → Lib.parseUint10 a l = .ok (l.foldl decF a)
  | [], a, _, _ => rfl
  | c :: l, a, hd, hb => by
    have h1 := decF_ge l (decF a c)
    rw [List.foldl_cons] at hb ⊢
    have h2 : decF a c = a * 10 + (c.toNat - 48) := rfl
    unfold Lib.parseUint10
    rw [if_pos (hd c (by simp)), if_neg (by omega), if_neg (by omega)]
    exact pu10_fold l _ (fun x hx => hd x (by simp [hx])) hb
theorem dec_nonempty (n : Nat) : Lib.decDigits n ≠ [] := by
  rw [Lib.decDigits]
  split <;> simp
theorem mag_dec (n : Nat) (h : n < 1000000000000000000) : Lib.parseMag (Lib.decDigits n) = .ok n := by
  unfold Lib.parseMag
  rw [if_neg (dec_nonempty n)]
  have h1 : (Lib.decDigits n).foldl decF 0 = n := dec_fold n
  rw [pu10_fold _ _ (dec_chars n) (by rw [h1]; omega), h1]
/-- A numeral is read back. -/
theorem atoi_itoa (n : Int) (h0 : -1000000000000000000 < n) (h1 : n < 1000000000000000000) : Lib.atoiAll (Lib.itoa n) = .ok n := by
  unfold Lib.itoa
  split
  · rename_i hn
    rw [Lib.atoiAll_minus, mag_dec _ (by omega)]
    unfold Lib.signed
    simp only
    rw [if_neg (by omega)]
    congr 1
    omega
  · rename_i hn
    obtain ⟨c, r, hc⟩ := List.exists_cons_of_ne_nil (dec_nonempty n.toNat)
    have hcc := dec_chars n.toNat c (by rw [hc]; simp)
    have hm := mag_dec n.toNat (by omega)
    rw [hc] at hm ⊢
    rw [Lib.atoiAll_plain c r (by omega) (by omega), hm]
    unfold Lib.signless
    simp only
    rw [if_neg (by omega)]
    congr 1
    omega
theorem itoa_chars (n : Int) : ∀ c ∈ Lib.itoa n, c.toNat = 45 ∨ (48 ≤ c.toNat ∧ c.toNat ≤ 57) := by
  intro c hc
  unfold Lib.itoa at hc
  split at hc
  · rcases List.mem_cons.1 hc with rfl | hc
    · exact Or.inl rfl
    · exact Or.inr (dec_chars _ c hc)
  · exact Or.inr (dec_chars _ c hc)
theorem itoa_word (n : Int) : (32 : UInt8) ∉ Lib.itoa n := fun h => by
  have := itoa_chars n _ h
  simp at this
theorem dec_word (n : Nat) : (32 : UInt8) ∉ Lib.decDigits n := fun h => by
  have := dec_chars n _ h
  simp at this
theorem itoa_nonempty (n : Int) : Lib.itoa n ≠ [] := by
  unfold Lib.itoa
  split
  · simp
  · exact dec_nonempty _
theorem itoa_inj {a b : Int} (h : Lib.itoa a = Lib.itoa b) : a = b := by
  unfold Lib.itoa at h
  split at h <;> split at h
  · have := dec_inj (List.cons.inj h).2
    omega
  · have h1 := dec_chars b.toNat 45 (by rw [← h]; simp)
    simp at h1
  · have h1 := dec_chars a.toNat 45 (by rw [h]; simp)
    simp at h1
  · have := dec_inj h
    omega
theorem hex_word {l : List UInt8} (h : l.all hexC = true) : (32 : UInt8) ∉ l := fun hm => by
  have := List.all_eq_true.1 h _ hm
  simp [hexC] at this
theorem hexN_hexd (d : Nat) (h : d < 16) : hexN (UInt8.ofNat (hexd d)) = d := by
  have h1 : ∀ d, d < 16 → hexN (UInt8.ofNat (hexd d)) = d := by decide
  exact h1 d h
theorem digL_len (st : Nat) : ∀ k, (digL st k).length = k
  | 0 => rfl
  | k + 1 => by rw [digL, List.length_cons, digL_len st k]
theorem hexV_digL (st : Nat) : ∀ k, hexV (digL st k) = st % 16 ^ k
  | 0 => by simp [digL, hexV, Nat.mod_one]
  | k + 1 => by
    rw [digL, show UInt8.ofNat (hexd (st / 16 ^ k % 16)) :: digL st k = [UInt8.ofNat (hexd (st / 16 ^ k % 16))] ++ digL st k from rfl, hexV_append, digL_len, hexV_digL st k]
    rw [show hexV [UInt8.ofNat (hexd (st / 16 ^ k % 16))] = hexN (UInt8.ofNat (hexd (st / 16 ^ k % 16))) by simp [hexV], hexN_hexd _ (Nat.mod_lt _ (by decide)), Nat.mod_pow_succ, Nat.mul_comm]
    omega
/-- The sixteen digits of a word spell it. -/
theorem hexV_hexS (x : Nat) (h : x < 18446744073709551616) : hexV (hexS x) = x := by
  rw [← digL_16, hexV_digL]
  exact Nat.mod_eq_of_lt h
end Go.Proofs.YtjddngbgbbbefaaGreatDoor
namespace Go.Proofs.YtjddngbgbbbefaaGreatDoor
open Go.RowKit

theorem index_sp (a t : List UInt8) (h : (32 : UInt8) ∉ a) : Lib.index (a ++ 32 :: t) [32] = (a.length : Int) := by
  induction a with
  | nil => rw [List.nil_append, Lib.index]; simp [List.isPrefixOf]
  | cons c a ih =>
    have h1 : c ≠ 32 := fun e => h (by simp [e])
    have h2 : (32 : UInt8) ∉ a := fun e => h (by simp [e])
    have hp : ([32] : List UInt8).isPrefixOf (c :: (a ++ 32 :: t)) = false := by simp [List.isPrefixOf, Ne.symm h1]
    rw [List.cons_append, Lib.index, hp, ih h2]
    simp only [Bool.false_eq_true, if_false, List.length_cons]
    rw [if_neg (by simp; try omega)]
    simp
theorem first_sp : ∀ (s : List UInt8), (32 : UInt8) ∈ s → ∃ a t, s = a ++ 32 :: t ∧ (32 : UInt8) ∉ a
  | [], h => by cases h
  | c :: s, h => by
    by_cases hc : c = 32
    · exact ⟨[], s, by rw [hc]; rfl, by simp⟩
    · obtain ⟨a, t, hs, ha⟩ := first_sp s (by simpa [Ne.symm hc] using h)
      exact ⟨c :: a, t, by rw [hs]; rfl, by simp [Ne.symm hc, ha]⟩
theorem splitK_sp : ∀ (k : Nat) (s : List UInt8), s.count 32 = k → Lib.splitK [32] 0 k s = splitS s
  | 0, s, h => by
    rw [split_one s (fun hm => by have := List.count_pos_iff.2 hm; omega)]
    rfl
  | k + 1, s, h => by
    obtain ⟨a, t, rfl, ha⟩ := first_sp s (List.count_pos_iff.1 (by omega))
    have hix := index_sp a t ha
    have hct : t.count 32 = k := by
      rw [List.count_append, List.count_cons_self, List.count_eq_zero.2 ha] at h
      omega
    have e : ∀ s, Lib.splitK [32] 0 (k + 1) s = if Lib.index s [32] == -1 then [s] else s.take ((Lib.index s [32]).toNat + 0) :: Lib.splitK [32] 0 k (s.drop ((Lib.index s [32]).toNat + 1)) := fun s => rfl
    rw [split_app a ha, e, if_neg (by rw [hix]; simp), hix, ← splitK_sp k t hct]
    simp
theorem split_lib (s : List UInt8) : (Lib.splitB ⟨#[32]⟩ 0 (Lib.countB ⟨s.toArray⟩ ⟨#[32]⟩) ⟨s.toArray⟩).map (·.data.toList) = splitS s := by
  rw [Lib.splitB_data]
  have h1 : Lib.countB ⟨s.toArray⟩ ⟨#[32]⟩ = s.count 32 := by
    show Lib.count s [32] = _
    exact Lib.count_one 32 s
  rw [h1]
  exact splitK_sp _ s rfl
theorem join_lib : ∀ (l : List (List UInt8)), Lib.join l [32] = spS l
  | [] => rfl
  | [w] => Lib.join_one w _
  | w :: v :: ws => by
    rw [Lib.join_cons, show spS (w :: v :: ws) = w ++ 32 :: spS (v :: ws) from rfl, ← join_lib (v :: ws), Lib.join_cons]
    simp [Lib.joinTail]
theorem spS_len : ∀ (l : List (List UInt8)) (B : Nat), (∀ w ∈ l, w.length ≤ B) → (spS l).length ≤ l.length * (B + 1)
  | [], B, _ => by simp [spS]
  | [w], B, h => by have := h w (by simp); simp [spS]; omega
  | w :: v :: ws, B, h => by
    have h1 := spS_len (v :: ws) B (fun x hx => h x (by simp [hx]))
    have h2 := h w (by simp)
    have h3 : (spS (w :: v :: ws)).length = w.length + 1 + (spS (v :: ws)).length := by
      show (w ++ 32 :: spS (v :: ws)).length = _
      rw [List.length_append, List.length_cons]; omega
    have h4 : (w :: v :: ws).length * (B + 1) = (v :: ws).length * (B + 1) + (B + 1) := by
      rw [List.length_cons (a := w), Nat.add_mul, Nat.one_mul]
    omega
theorem spS_snoc : ∀ (l : List (List UInt8)) (x : List UInt8), l ≠ [] → spS (l ++ [x]) = spS l ++ 32 :: x
  | [], _, h => absurd rfl h
  | [w], x, _ => rfl
  | w :: v :: ws, x, _ => by
    rw [List.cons_append, List.cons_append, show spS (w :: v :: (ws ++ [x])) = w ++ 32 :: spS (v :: (ws ++ [x])) from rfl, ← List.cons_append, spS_snoc (v :: ws) x (by simp)]
    show _ = (w ++ 32 :: spS (v :: ws)) ++ 32 :: x
    simp
theorem splitS_short (l : List UInt8) : ∀ w ∈ splitS l, w.length ≤ l.length := by
  induction l with
  | nil => intro w hw; simp [splitS] at hw; simp [hw]
  | cons c t ih =>
    intro w hw
    unfold splitS at hw
    split at hw
    · rcases List.mem_cons.1 hw with rfl | hw
      · simp
      · have := ih w hw; simp; omega
    · split at hw
      · rw [List.mem_singleton.1 hw]; simp
      · rename_i v vs hv
        rcases List.mem_cons.1 hw with rfl | hw
        · have := ih v (by rw [hv]; simp); simp; omega
        · have := ih w (by rw [hv]; simp [hw]); simp; omega
theorem splitS_len (l : List UInt8) : (splitS l).length ≤ l.length + 1 := by
  induction l with
  | nil => simp [splitS]
  | cons c t ih =>
    unfold splitS
    split
    · simp; omega
    · split
      · simp
      · rename_i v vs hv
        rw [hv] at ih
        simp at ih ⊢; omega
end Go.Proofs.YtjddngbgbbbefaaGreatDoor
namespace Go.Proofs.YtjddngbgbbbefaaGreatDoor
open Go.RowKit

/-- The hexadecimal digits of a number, the first ahead. -/
def hexD (u : Nat) : List UInt8 := if _h : u < 16 then [UInt8.ofNat (hexd u)] else hexD (u / 16) ++ [UInt8.ofNat (hexd (u % 16))]
termination_by u
decreasing_by omega
theorem hexD_small (u : Nat) (h : u < 16) : hexD u = [UInt8.ofNat (hexd u)] := by rw [hexD, dif_pos h]
theorem hexD_big (u : Nat) (h : 16 ≤ u) : hexD u = hexD (u / 16) ++ [UInt8.ofNat (hexd (u % 16))] := by rw [hexD, dif_neg (by omega)]
theorem digL_snoc (u : Nat) : ∀ k, digL u (k + 1) = digL (u / 16) k ++ [UInt8.ofNat (hexd (u % 16))]
  | 0 => by simp [digL]
  | k + 1 => by
    rw [digL, digL_snoc u k, digL, Nat.pow_succ, Nat.mul_comm, ← Nat.div_div_eq_div_mul]
    rfl
theorem digL_zero : ∀ k, digL 0 k = List.replicate k 48
  | 0 => rfl
  | k + 1 => by
    rw [digL, digL_zero k, List.replicate_succ]
    simp [hexd]
theorem hexD_pad : ∀ (k u : Nat), u < 16 ^ (k + 1) → (hexD u).length ≤ k + 1 ∧ digL u (k + 1) = List.replicate (k + 1 - (hexD u).length) 48 ++ hexD u
  | k, u, h => by
    by_cases h16 : u < 16
    · rw [hexD_small u h16]
      refine ⟨by simp, ?_⟩
      rw [digL_snoc, Nat.div_eq_of_lt h16, Nat.mod_eq_of_lt h16, digL_zero]
      simp
    · cases k with
      | zero => simp at h; omega
      | succ k =>
        obtain ⟨h1, h2⟩ := hexD_pad k (u / 16) (by rw [Nat.pow_succ] at h; omega)
        rw [hexD_big u (by omega)]
        refine ⟨by simp; omega, ?_⟩
        rw [digL_snoc, h2, List.length_append, List.length_singleton, List.append_assoc, show k + 1 + 1 - ((hexD (u / 16)).length + 1) = k + 1 - (hexD (u / 16)).length by omega]
theorem hexD_len (u : Nat) (h : u < 18446744073709551616) : (hexD u).length ≤ 16 ∧ 1 ≤ (hexD u).length := by
  refine ⟨(hexD_pad 15 u h).1, ?_⟩
  by_cases h16 : u < 16
  · rw [hexD_small u h16]; simp
  · rw [hexD_big u (by omega)]; simp
theorem hexD_fill (u : Nat) (h : u < 18446744073709551616) : List.replicate (16 - (hexD u).length) 48 ++ hexD u = hexS u := by
  rw [← digL_16]
  exact (hexD_pad 15 u h).2.symm
end Go.Proofs.YtjddngbgbbbefaaGreatDoor
namespace Go.Proofs.YtjddngbgbbbefaaGreatDoor
open Go.RowKit

/-- '[]byte(s)': a new row that holds the bytes. -/
theorem conv_bytes (w : World) (l : List UInt8) : ∃ c w', (convert 9 88 (.string ⟨l.toArray⟩)).run Tryz.prog w = .ok (.slice (some ⟨w.heap.size, 0, none⟩) l.length c) w' ∧ Fr [] w w' ∧
    w.heap.size < w'.heap.size ∧ ∀ i, i < l.length → w'.cell? ⟨w.heap.size, i, none⟩ = some (.int .u8 ((l.getD i 0).toNat : Int)) := by
  have h := run_bytes_of_string (P := Tryz.prog) w 9 88 5 ⟨l.toArray⟩ Tryz.underlying9 Tryz.underlying88 Tryz.underlying5
  rw [ba_size] at h
  refine ⟨_, _, h, ((Fr.refl [] w).drew).alloc _, by simp, fun i hi => ?_⟩
  refine (World.cell?_alloc_mark w.drew _ _ _ i).trans ?_
  unfold bytesRow
  rw [Array.getElem?_append_left (by simpa using hi)]
  simp [hi]
end Go.Proofs.YtjddngbgbbbefaaGreatDoor
namespace Go.Proofs.YtjddngbgbbbefaaGreatDoor
open Go.RowKit Go.Shelf

set_option maxRecDepth 100000 in
theorem lower_any (c : Nat) (w : World) (h1 : 97 ≤ c) (h2 : c ≤ 102) :
    Calls Tryz.prog 177 #[.int .u8 (c : Int)] w fun e w' => e = .returned (.int .u8 (c : Int)) ∧ w = w' := by
  have h3 : ∀ c, c < 103 → 97 ≤ c → c ||| 32 = c := by decide
  have hw : bits .or .u8 (c : Int) 32 = (c : Int) := by
    have := u8_or_nat c 32 (by omega) (by decide)
    rw [h3 c (by omega) h1] at this
    exact this
  go_enter Tryz.func177, Tryz.ntmps177
  go_wp2_with fail
  go_ret
  exact ⟨rfl, rfl⟩
set_option maxRecDepth 100000 in
set_option maxHeartbeats 1000000 in
theorem puint_any (h : List UInt8) (w : World) (hl : h.length = 15) (hh : h.all hexC = true) :
    Calls Tryz.prog 165 #[.string ⟨h.toArray⟩, .int .i64 16, .int .i64 64] w fun e w' => e = .returned (.tuple #[.int .u64 (hexV h : Nat), .nilIface]) ∧ Below w.heap.size w w' := by
  have hne : (h == []) = false := by cases h with
    | nil => simp at hl
    | cons => rfl
  obtain ⟨c, w2, hrun, hf2, hlt2, hcells⟩ := conv_bytes w h
  rw [hl] at hrun hcells
  have HH := Lib.hid hh
  have HL := Lib.hid hl
  clear hh hl
  have wm : IntKind.u64.wrap (IntKind.u64.wrap 18446744073709551616 - 1) = 18446744073709551615 := by decide
  go_enter Tryz.func165, Tryz.ntmps165
  go_wp2_with fail
  go_loopg [12, 13, 101] 16 (fun g us n i wr => ∃ k : Nat, k ≤ 15 ∧ g = 16 - k ∧ i = .int .i64 (k : Int) ∧ us = .bool false ∧ n = .int .u64 (hexV (h.take k) : Nat) ∧ Fr [] w2 wr)
  case atStart => exact ⟨0, by omega, by omega, rfl, rfl, rfl, Fr.refl _ _⟩
  case round =>
    obtain ⟨k, hk, hg, rfl, rfl, rfl, hfr⟩ := hrel
    have HG := Lib.hid hg
    clear hg
    by_cases hlt : k < 15
    · have hc := hfr.cell (hcells k hlt) (by simp)
      have hkl : k < h.length := by rw [HL.out]; exact hlt
      have hx := List.all_eq_true.1 HH.out _ (getD_mem h k 0 hkl)
      have HS := Lib.hid (hexV_snoc h k hkl)
      have hlo := hexN_lo _ hx
      have hd16 := (index_hex _ hx).2
      have hVb : hexV (h.take k) < 72057594037927936 := by
        have h1 := hexV_lt (h.take k) (by
          rw [List.all_eq_true]; intro y hy; exact List.all_eq_true.1 HH.out y (List.mem_of_mem_take hy))
        rw [List.length_take, HL.out] at h1
        exact Nat.lt_of_lt_of_le h1 (Nat.le_trans (Nat.pow_le_pow_right (by decide) (show min k 15 ≤ 14 by omega)) (by decide))
      generalize hexV (h.take k) = V at HS hVb ⊢
      have hb256 := (h.getD k 0).toNat_lt
      generalize hexN (h.getD k 0) = d at HS hlo hd16
      generalize (h.getD k 0).toNat = c at hc hlo hb256
      clear hx hkl
      have t1 : decide ((k : Int) < 15) = true := by simp; omega
      have t2 : ((c : Int) == 95) = false := by simp; omega
      have t8 : decide ((1152921504606846976 : Int) ≤ (V : Int)) = false := by simp; omega
      have t9 : decide ((16 : Int) ≤ (d : Int)) = false := by simp; omega
      by_cases h57 : c ≤ 57
      · have t3 : decide ((48 : Int) ≤ (c : Int)) = true := by simp; omega
        have t4 : decide ((c : Int) ≤ 57) = true := by simp; omega
        have wd : IntKind.u8.wrap ((c : Int) - 48) = (d : Int) := by rw [IntKind.wrap_u8']; omega
        go_wp2_with fail
        go_roundg (16 - (k + 1))
        case measure => have := HG.out; omega
        case rel => exact ⟨k + 1, by omega, rfl, by go_num, rfl, by rw [HS.out]; go_num, hfr⟩
      · have t3 : decide ((48 : Int) ≤ (c : Int)) = true := by simp; omega
        have t4 : decide ((c : Int) ≤ 57) = false := by simp; omega
        have t5 : decide ((97 : Int) ≤ (c : Int)) = true := by simp; omega
        have t6 : decide ((c : Int) ≤ 122) = true := by simp; omega
        have wd : IntKind.u8.wrap ((c : Int) - 97) = (c : Int) - 97 := by rw [IntKind.wrap_u8']; omega
        have wd2 : IntKind.u8.wrap ((c : Int) - 97 + 10) = (d : Int) := by rw [IntKind.wrap_u8']; omega
        go_wp2_with fail
        refine (lower_any c wr (by omega) (by omega)).mono ?_
        rintro e w3 ⟨rfl, rfl⟩
        go_wp2_with fail
        refine (lower_any c wr (by omega) (by omega)).mono ?_
        rintro e w3 ⟨rfl, rfl⟩
        go_wp2_with fail
        refine (lower_any c wr (by omega) (by omega)).mono ?_
        rintro e w3 ⟨rfl, rfl⟩
        go_wp2_with fail
        go_roundg (16 - (k + 1))
        case measure => have := HG.out; omega
        case rel => exact ⟨k + 1, by omega, rfl, by go_num, rfl, by rw [HS.out]; go_num, hfr⟩
    · obtain rfl : k = 15 := by omega
      have t1 : decide ((15 : Int) < 15) = false := by simp
      have HT15 : Hid (h.take 15 = h) := Lib.hid (List.take_of_length_le (by rw [HL.out]; decide))
      rw [HT15.out]
      go_wp2_with fail
      go_ret2
      exact ⟨rfl, (hf2.trans hfr (by simp)).toBelow (by simp)⟩

set_option maxRecDepth 100000 in
set_option maxHeartbeats 1000000 in
theorem pint_any (h : List UInt8) (w : World) (hl : h.length = 15) (hh : h.all hexC = true) :
    Calls Tryz.prog 150 #[.string ⟨h.toArray⟩, .int .i64 16, .int .i64 64] w fun e w' => e = .returned (.tuple #[.int .i64 (hexV h : Nat), .nilIface]) ∧ Below w.heap.size w w' := by
  have hne : (h == []) = false := by cases h with
    | nil => simp at hl
    | cons => rfl
  have h0 : 0 < h.length := by omega
  have hba := ba_get h 0 h0
  have hx := List.all_eq_true.1 hh _ (getD_mem h 0 0 h0)
  have hlo := hexN_lo _ hx
  have HV : Hid (hexV h < 1152921504606846976) := Lib.hid (by have := hexV_lt h hh; rw [hl] at this; exact this)
  generalize h.getD 0 0 = c0 at hba hx hlo
  have t1 : ((c0.toNat : Int) == 43) = false := by simp; omega
  have t2 : ((c0.toNat : Int) == 45) = false := by simp; omega
  have HH := Lib.hid hh
  have HL := Lib.hid hl
  clear hh hl
  go_enter Tryz.func150, Tryz.ntmps150
  go_wp2_with fail
  refine (puint_any h w HL.out HH.out).mono ?_
  rintro e w1 ⟨rfl, hb1⟩
  have HVV := HV.out
  generalize hVe : hexV h = V at HVV ⊢
  have HE := Lib.hid hVe
  clear hVe
  have t3 : decide ((9223372036854775808 : Int) ≤ (V : Int)) = false := by simp; omega
  go_wp2_with fail
  go_ret2
  exact ⟨by rw [HE.out]; rfl, hb1⟩

set_option maxRecDepth 100000 in
set_option maxHeartbeats 1000000 in
theorem pint2_any (h : List UInt8) (w : World) (hl : h.length = 15) (hh : h.all hexC = true) :
    Calls Tryz.prog 130 #[.string ⟨h.toArray⟩, .int .i64 16, .int .i64 64] w fun e w' => e = .returned (.tuple #[.int .i64 (hexV h : Nat), .nilIface]) ∧ Below w.heap.size w w' := by
  go_enter Tryz.func130, Tryz.ntmps130
  go_wp2_with fail
  refine (pint_any h w hl hh).mono ?_
  rintro e w1 ⟨rfl, hb1⟩
  go_wp2_with fail
  go_ret2
  exact ⟨rfl, hb1⟩

set_option maxRecDepth 100000 in
set_option maxHeartbeats 1000000 in
theorem below_any (d : List UInt8) (n : Int) (w : World) (hd : d.length ≤ 9223372036854775807) (hn : -9223372036854775808 ≤ n ∧ n < 9223372036854775808) :
    Calls Tryz.prog 111 #[.string ⟨d.toArray⟩, .int .i64 n] w fun e w' => e = .returned (.int .i64 (belowS d n)) ∧ Below w.heap.size w w' := by
  by_cases hn1 : n < 1
  · have t1 : decide (n < 1) = true := by simp [hn1]
    have HB : Hid (belowS d n = 0) := by show _ = _; simp [belowS, hn1]
    go_enter Tryz.func111, Tryz.ntmps111
    go_wp2_with fail
    go_ret
    exact ⟨by rw [HB.out]; rfl, Below.refl _ _⟩
  · have t1 : decide (n < 1) = false := by simp [hn1]
    cases hD : isD d with
    | false =>
      have HB : Hid (belowS d n = 0) := by show _ = _; simp [belowS, hD]
      have HD := Lib.hid hD
      clear hD
      go_enter Tryz.func111, Tryz.ntmps111
      go_wp2_with fail
      refine (is_any d w hd).mono ?_
      rintro e w1 ⟨rfl, hb1⟩
      rw [HD.out]
      go_wp2_with fail
      go_ret
      exact ⟨by rw [HB.out]; rfl, hb1⟩
    | true =>
      have HB : Hid (belowS d n = (hexV (d.take 15) : Int) % n) := by show _ = _; simp [belowS, hD, hn1]
      have HD := Lib.hid hD
      simp only [isD, Bool.and_eq_true, beq_iff_eq] at hD
      have HL := Lib.hid hD.1
      have HH : Hid ((d.take 15).all hexC = true) := Lib.hid (by
        rw [List.all_eq_true]; intro y hy; exact List.all_eq_true.1 hD.2 y (List.mem_of_mem_take hy))
      have HL15 : Hid ((d.take 15).length = 15) := Lib.hid (by rw [List.length_take, hD.1]; rfl)
      have HEX : Hid ((⟨d.toArray⟩ : ByteArray).extract 0 15 = ⟨(d.take 15).toArray⟩) := Lib.hid (by
        apply ByteArray.ext; simp [ByteArray.data_extract])
      have hV : hexV (d.take 15) < 1152921504606846976 := by have := hexV_lt (d.take 15) HH.out; rw [HL15.out] at this; exact this
      have hd15 : d.length = 16 := HL.out
      clear hD
      go_enter Tryz.func111, Tryz.ntmps111
      go_wp2_with fail
      refine (is_any d w hd).mono ?_
      rintro e w1 ⟨rfl, hb1⟩
      rw [HD.out]
      go_wp2_with fail
      rw [HEX.out]
      refine (pint2_any (d.take 15) w1 HL15.out HH.out).mono ?_
      rintro e w2 ⟨rfl, hb2⟩
      generalize hVe : hexV (d.take 15) = V at hV HB ⊢
      have hm1 : (V : Int) % n < n := Int.emod_lt_of_pos _ (by omega)
      have hm2 : 0 ≤ (V : Int) % n := Int.emod_nonneg _ (by omega)
      have htm : (V : Int).tmod n = (V : Int) % n := by rw [Int.tmod_eq_emod_of_nonneg (by omega)]
      clear hVe
      go_wp2_with fail
      go_ret
      exact ⟨by rw [HB.out]; rfl, hb1.trans (hb2.mono hb1.size)⟩
end Go.Proofs.YtjddngbgbbbefaaGreatDoor
