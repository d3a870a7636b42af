/-
  Plain law: the digest block by block.
  Plain laws of the digest: chains, joining is injective, equal chains show two strings with one digest; the digest tells short texts apart, and texts that differ in one block.
-/
import Derived.Test.YtjddngbgbbbefaaGreatDoorDigE
namespace Go.Proofs.YtjddngbgbbbefaaGreatDoor

/-- The number that a digit stands for. -/
def hexN (c : UInt8) : Nat := if c.toNat < 58 then c.toNat - 48 else c.toNat - 87
theorem index_hex (c : UInt8) (hc : hexC c = true) : Lib.indexByte cutset c = (hexN c : Int) ∧ hexN c < 16 := by
  have h : ∀ n : Fin 256, hexC (UInt8.ofNat n.val) = true → Lib.indexByte cutset (UInt8.ofNat n.val) = (hexN (UInt8.ofNat n.val) : Int) ∧ hexN (UInt8.ofNat n.val) < 16 := by decide +kernel
  have := h ⟨c.toNat, c.toNat_lt⟩
  simpa [hc] using this
theorem hexS_hex (s : Nat) : (hexS s).all hexC = true := by
  have h : ∀ d : Fin 16, hexC (UInt8.ofNat (hexd d.val)) = true := by decide
  simp only [hexS, List.all_map, List.all_eq_true]
  intro i _
  exact h ⟨s / 2 ^ (60 - 4 * i) % 16, Nat.mod_lt _ (by decide)⟩
theorem dsum_isD (l : List UInt8) : isD (dsum l) = true := by
  simp only [isD, Bool.and_eq_true, beq_iff_eq]
  exact ⟨dsum_length l, hexS_hex _⟩


/-- Byte j of a text with its end mark. -/
def extB (l : List UInt8) (j : Nat) : Nat := if j < l.length then (l.getD j 0).toNat else if j = l.length then 1 else 0
/-- The block that begins at a place, its last m bytes. -/
def blkT (l : List UInt8) (f : Nat) : Nat → Nat
  | 0 => 0
  | m + 1 => blkT l f m * 256 + extB l (f + (7 - m))
def blk (l : List UInt8) (f : Nat) : Nat := blkT l f 8
/-- The state after j blocks. -/
def stJ (l : List UInt8) : Nat → Nat
  | 0 => 7046029254386353131
  | j + 1 => mix (stJ l j ^^^ blk l (8 * j))
def stQ (l : List UInt8) : Nat → Nat × Nat × Nat
  | 0 => q0
  | n + 1 => addB (stQ l n) (extB l n)

theorem extB_lt (l : List UInt8) (j : Nat) : extB l j < 256 := by
  unfold extB; split
  · exact (l.getD j 0).toNat_lt
  · split <;> omega
theorem stQ_n (l : List UInt8) (n : Nat) : (stQ l n).2.2 = n % 8 := by
  induction n with
  | zero => rfl
  | succ n ih =>
    rw [stQ]; unfold addB
    split
    · simp only; omega
    · simp only; omega
theorem stQ_take (l : List UInt8) (n : Nat) (h : n ≤ l.length) : sumQ (l.take n) = stQ l n := by
  induction n with
  | zero => rfl
  | succ n ih =>
    rw [sumQ_snoc l n (by omega), ih (by omega), stQ]
    congr 1
    unfold extB
    rw [if_pos (by omega), List.getD_eq_getElem?_getD, List.getElem?_eq_getElem (by omega)]; rfl
theorem stQ_one (l : List UInt8) : addB (sumQ l) 1 = stQ l (l.length + 1) := by
  have := stQ_take l l.length (Nat.le_refl _)
  rw [List.take_length] at this
  rw [this, stQ]
  congr 1
  simp [extB]
theorem padQ_st (l : List UInt8) (f n : Nat) (hn : l.length < n) (hf : (8 - n % 8) % 8 ≤ f) : padQ f (stQ l n) = stQ l (8 * ((n + 7) / 8)) := by
  induction f generalizing n with
  | zero =>
    have : 8 * ((n + 7) / 8) = n := by omega
    rw [this]; rfl
  | succ f ih =>
    rw [padQ, stQ_n]
    split
    · have : 8 * ((n + 7) / 8) = n := by omega
      rw [this]
    · have h0 : addB (stQ l n) 0 = stQ l (n + 1) := by
        rw [stQ]; congr 1; unfold extB; rw [if_neg (by omega), if_neg (by omega)]
      rw [h0, ih (n + 1) (by omega) (by omega)]
      congr 2; omega
theorem blk_eq (l : List UInt8) (f : Nat) : blk l f = extB l f + extB l (f + 1) * 256 + extB l (f + 2) * 65536 + extB l (f + 3) * 16777216 + extB l (f + 4) * 4294967296 + extB l (f + 5) * 1099511627776 + extB l (f + 6) * 281474976710656 + extB l (f + 7) * 72057594037927936 := by
  simp only [blk, blkT, Nat.sub_self, Nat.add_zero, Nat.reduceSub]
  omega
theorem blkT_lt (l : List UInt8) (f m : Nat) : blkT l f m < 256 ^ m := by
  induction m with
  | zero => simp [blkT]
  | succ m ih =>
    have := extB_lt l (f + (7 - m))
    rw [blkT, Nat.pow_succ]; omega
theorem blk_lt (l : List UInt8) (f : Nat) : blk l f < 18446744073709551616 := blkT_lt l f 8
theorem stJ_lt (l : List UInt8) (j : Nat) : stJ l j < 18446744073709551616 := by
  cases j with
  | zero => show 7046029254386353131 < 18446744073709551616; decide
  | succ j => exact mix_lt _
theorem stQ_eight (l : List UInt8) (j : Nat) : stQ l (8 * j) = (stJ l j, 0, 0) := by
  induction j with
  | zero => rfl
  | succ j ih =>
    have h1 : stQ l (8 * j + 1) = (stJ l j, extB l (8 * j), 1) := by rw [stQ, ih]; simp [addB]
    have h2 : stQ l (8 * j + 2) = (stJ l j, extB l (8 * j) + extB l (8 * j + 1) * 256, 2) := by rw [stQ, h1]; simp [addB]
    have h3 : stQ l (8 * j + 3) = (stJ l j, extB l (8 * j) + extB l (8 * j + 1) * 256 + extB l (8 * j + 2) * 65536, 3) := by rw [stQ, h2]; simp [addB]
    have h4 : stQ l (8 * j + 4) = (stJ l j, extB l (8 * j) + extB l (8 * j + 1) * 256 + extB l (8 * j + 2) * 65536 + extB l (8 * j + 3) * 16777216, 4) := by rw [stQ, h3]; simp [addB]
    have h5 : stQ l (8 * j + 5) = (stJ l j, extB l (8 * j) + extB l (8 * j + 1) * 256 + extB l (8 * j + 2) * 65536 + extB l (8 * j + 3) * 16777216 + extB l (8 * j + 4) * 4294967296, 5) := by rw [stQ, h4]; simp [addB]
    have h6 : stQ l (8 * j + 6) = (stJ l j, extB l (8 * j) + extB l (8 * j + 1) * 256 + extB l (8 * j + 2) * 65536 + extB l (8 * j + 3) * 16777216 + extB l (8 * j + 4) * 4294967296 + extB l (8 * j + 5) * 1099511627776, 6) := by rw [stQ, h5]; simp [addB]
    have h7 : stQ l (8 * j + 7) = (stJ l j, extB l (8 * j) + extB l (8 * j + 1) * 256 + extB l (8 * j + 2) * 65536 + extB l (8 * j + 3) * 16777216 + extB l (8 * j + 4) * 4294967296 + extB l (8 * j + 5) * 1099511627776 + extB l (8 * j + 6) * 281474976710656, 7) := by rw [stQ, h6]; simp [addB]
    rw [show 8 * (j + 1) = 8 * j + 7 + 1 by omega, stQ, h7, stJ, blk_eq]
    simp [addB]
theorem dsum_blocks (l : List UInt8) : dsum l = hexS (stJ l (l.length / 8 + 1)) := by
  unfold dsum
  rw [stQ_one, padQ_st l 8 _ (by omega) (by omega), show (l.length + 1 + 7) / 8 = l.length / 8 + 1 by omega, stQ_eight]
end Go.Proofs.YtjddngbgbbbefaaGreatDoor
namespace Go.Proofs.YtjddngbgbbbefaaGreatDoor

theorem chainN_add (a b : Nat) (l : List UInt8) : chainN a (chainN b l) = chainN (a + b) l := by
  induction b generalizing l with
  | zero => rfl
  | succ b ih => exact ih (dsum l)
theorem cnt_nat (n : Nat) (h : n ≤ 1000) : cnt (n : Int) = n := by unfold cnt; omega
theorem dchain_rest (l : List UInt8) (d : Nat) (h : d ≤ 15) : dchain (dchain l (d : Int)) (15 - (d : Int)) = dchain l 15 := by
  unfold dchain
  rw [show (15 : Int) - (d : Int) = ((15 - d : Nat) : Int) by omega, cnt_nat _ (by omega), cnt_nat _ (by omega), chainN_add, show (15 : Int) = ((15 : Nat) : Int) from rfl, cnt_nat 15 (by decide)]
  congr 1; omega
theorem isD_chain (l : List UInt8) (h : isD l = true) (n : Int) : isD (dchain l n) = true := by
  unfold dchain
  cases hc : cnt n with
  | zero => exact h
  | succ k => rw [chainN_succ]; exact dsum_isD _
/-- Two different strings of a list have the same digest. -/
def Coll (l : List (List UInt8)) : Prop := ∃ x y, x ∈ l ∧ y ∈ l ∧ dsum x = dsum y ∧ x ≠ y
theorem Coll.mono {l m : List (List UInt8)} (h : Coll l) (hs : ∀ x ∈ l, x ∈ m) : Coll m := by
  obtain ⟨x, y, hx, hy, h1, h2⟩ := h
  exact ⟨x, y, hs x hx, hs y hy, h1, h2⟩

theorem dec_chars : ∀ n : Nat, ∀ c ∈ Lib.decDigits n, 48 ≤ c.toNat ∧ c.toNat ≤ 57 := by
  intro n
  induction n using Nat.strongRecOn with
  | _ n ih =>
    intro c hc
    rw [Lib.decDigits] at hc
    split at hc
    · rename_i h
      simp only [List.mem_singleton] at hc
      subst hc
      rw [show (UInt8.ofNat (48 + n)).toNat = 48 + n by show (48 + n) % 256 = 48 + n; omega]
      omega
    · rename_i h
      rcases List.mem_append.1 hc with hc | hc
      · exact ih (n / 10) (by omega) c hc
      · simp only [List.mem_singleton] at hc
        subst hc
        rw [show (UInt8.ofNat (48 + n % 10)).toNat = 48 + n % 10 by show (48 + n % 10) % 256 = 48 + n % 10; omega]
        omega
theorem dec_ne (n : Nat) : (58 : UInt8) ∉ Lib.decDigits n := by
  intro h
  have := dec_chars n 58 h
  simp at this
theorem dec_fold : ∀ n : Nat, (Lib.decDigits n).foldl (fun a c => a * 10 + (c.toNat - 48)) 0 = n := by
  intro n
  induction n using Nat.strongRecOn with
  | _ n ih =>
    rw [Lib.decDigits]
    split
    · rename_i h
      simp only [List.foldl_cons, List.foldl_nil]
      rw [show (UInt8.ofNat (48 + n)).toNat = 48 + n by show (48 + n) % 256 = 48 + n; omega]
      omega
    · rename_i h
      rw [List.foldl_append, ih (n / 10) (by omega)]
      simp only [List.foldl_cons, List.foldl_nil]
      rw [show (UInt8.ofNat (48 + n % 10)).toNat = 48 + n % 10 by show (48 + n % 10) % 256 = 48 + n % 10; omega]
      omega
theorem dec_inj {a b : Nat} (h : Lib.decDigits a = Lib.decDigits b) : a = b := by
  rw [← dec_fold a, ← dec_fold b, h]
theorem split_at {c : UInt8} : ∀ {a b r q : List UInt8}, c ∉ a → c ∉ b → a ++ c :: r = b ++ c :: q → a = b ∧ r = q
  | [], [], r, q, _, _, h => ⟨rfl, by simpa using h⟩
  | [], y :: b, r, q, _, hb, h => by
    simp only [List.nil_append, List.cons_append, List.cons.injEq] at h
    exact absurd (by rw [h.1]; exact List.mem_cons_self) hb
  | x :: a, [], r, q, ha, _, h => by
    simp only [List.nil_append, List.cons_append, List.cons.injEq] at h
    exact absurd (by rw [← h.1]; exact List.mem_cons_self) ha
  | x :: a, y :: b, r, q, ha, hb, h => by
    simp only [List.cons_append, List.cons.injEq] at h
    obtain ⟨h1, h2⟩ := split_at (fun hx => ha (List.mem_cons_of_mem _ hx)) (fun hx => hb (List.mem_cons_of_mem _ hx)) h.2
    exact ⟨by rw [h.1, h1], h2⟩
theorem joinE_inj {s t r q : List UInt8} (h : joinE s ++ r = joinE t ++ q) : s = t ∧ r = q := by
  simp only [joinE, List.append_assoc, List.cons_append] at h
  obtain ⟨h1, h2⟩ := split_at (dec_ne _) (dec_ne _) h
  exact List.append_inj h2 (dec_inj h1)
theorem joinE_ne (s r : List UInt8) : joinE s ++ r ≠ [] := by simp [joinE]
theorem joinL_inj : ∀ {a b : List (List UInt8)}, joinL a = joinL b → a = b
  | [], [], _ => rfl
  | [], y :: b, h => by
    rw [show joinL (y :: b) = joinE y ++ joinL b from rfl] at h
    exact absurd h.symm (joinE_ne _ _)
  | x :: a, [], h => by
    rw [show joinL (x :: a) = joinE x ++ joinL a from rfl] at h
    exact absurd h (joinE_ne _ _)
  | x :: a, y :: b, h => by
    obtain ⟨h1, h2⟩ := joinE_inj (show joinE x ++ joinL a = joinE y ++ joinL b from h)
    rw [h1, joinL_inj h2]
theorem dlist_coll {a b : List (List UInt8)} {l : List (List UInt8)} (h : dlist a = dlist b) (hne : a ≠ b) (ha : joinL a ∈ l) (hb : joinL b ∈ l) : Coll l :=
  ⟨_, _, ha, hb, h, fun h' => hne (joinL_inj h')⟩

/-- A string and the digests of its chain, n more. -/
def linksS (t : List UInt8) (n : Nat) : List (List UInt8) := (List.range (n + 1)).map fun j => chainN j t
theorem mem_links {t : List UInt8} {n j : Nat} (h : j ≤ n) : chainN j t ∈ linksS t n := List.mem_map.2 ⟨j, List.mem_range.2 (by omega), rfl⟩
theorem links_snoc (t : List UInt8) (k : Nat) : linksS t (k + 1) = linksS t k ++ [dsum (chainN k t)] := by
  simp only [linksS]
  rw [List.range_succ, List.map_append, ← chainN_succ]; rfl

/-- Chains of different strings that meet show two strings with one digest. -/
theorem chains_meet {x y : List UInt8} : ∀ {n : Nat}, x ≠ y → chainN n x = chainN n y → ∃ j, j < n ∧ chainN j x ≠ chainN j y ∧ dsum (chainN j x) = dsum (chainN j y)
  | 0, hne, h => absurd h hne
  | n + 1, hne, h => by
    by_cases he : chainN n x = chainN n y
    · obtain ⟨j, h1, h2⟩ := chains_meet hne he
      exact ⟨j, by omega, h2⟩
    · exact ⟨n, by omega, he, by rw [← chainN_succ, ← chainN_succ]; exact h⟩
/-- A chain that comes back shows two strings with one digest, if what it starts from is no link. -/
theorem chain_back {p s : List UInt8} (hp : dsum p = s) (hn : ∀ j, p ≠ chainN j s) : ∀ {a b : Nat}, a < b → chainN a s = chainN b s → ∃ x y, x ∈ p :: linksS s b ∧ y ∈ p :: linksS s b ∧ dsum x = dsum y ∧ x ≠ y
  | 0, b + 1, _, h => by
    refine ⟨p, chainN b s, by simp, List.mem_cons_of_mem _ (mem_links (by omega)), ?_, hn b⟩
    rw [← chainN_succ, hp]; exact h
  | a + 1, b + 1, hab, h => by
    by_cases he : chainN a s = chainN b s
    · obtain ⟨x, y, hx, hy, h1, h2⟩ := chain_back hp hn (by omega) he
      have key : ∀ z ∈ p :: linksS s b, z ∈ p :: linksS s (b + 1) := by
        intro z hz
        rw [links_snoc]
        rcases List.mem_cons.1 hz with hz | hz
        · rw [hz]; exact List.mem_cons_self
        · exact List.mem_cons_of_mem _ (List.mem_append_left _ hz)
      exact ⟨x, y, key x hx, key y hy, h1, h2⟩
    · exact ⟨_, _, List.mem_cons_of_mem _ (mem_links (j := a) (by omega)), List.mem_cons_of_mem _ (mem_links (j := b) (by omega)), by rw [← chainN_succ, ← chainN_succ]; exact h, he⟩
theorem links_mono {t : List UInt8} {m n : Nat} (h : m ≤ n) : ∀ z ∈ linksS t m, z ∈ linksS t n := by
  intro z hz
  obtain ⟨j, hj, rfl⟩ := List.mem_map.1 hz
  exact mem_links (by have := List.mem_range.1 hj; omega)

theorem isD_no (l : List UInt8) (h : isD l = true) : (58 : UInt8) ∉ l := by
  intro hm
  simp only [isD, Bool.and_eq_true] at h
  have := List.all_eq_true.1 h.2 _ hm
  simp [hexC] at this
theorem isD_chainN (l : List UInt8) (h : isD l = true) : ∀ n, isD (chainN n l) = true
  | 0 => h
  | n + 1 => by rw [chainN_succ]; exact dsum_isD _
theorem dchain_nat (l : List UInt8) (n : Nat) (h : n ≤ 1000) : dchain l (n : Int) = chainN n l := by unfold dchain; rw [cnt_nat n h]
theorem xs_inj {k x y : Nat} (hk : 0 < k) (h : x ^^^ (x >>> k) = y ^^^ (y >>> k)) : x = y := by
  have h1 : x ^^^ y = (x ^^^ y) >>> k := by
    rw [Nat.shiftRight_xor_distrib]
    have e1 : x ^^^ y = (x ^^^ (x >>> k)) ^^^ ((x >>> k) ^^^ y) := by
      rw [Nat.xor_assoc, ← Nat.xor_assoc (x >>> k) (x >>> k) y, Nat.xor_self, Nat.zero_xor]
    rw [e1, h]
    rw [Nat.xor_comm (x >>> k) y, Nat.xor_assoc, ← Nat.xor_assoc (y >>> k) y (x >>> k), Nat.xor_comm (y >>> k) y, Nat.xor_assoc y (y >>> k) (x >>> k), ← Nat.xor_assoc y y, Nat.xor_self, Nat.zero_xor, Nat.xor_comm]
  have h2 : x ^^^ y = 0 := by
    rw [Nat.shiftRight_eq_div_pow] at h1
    have h3 : 2 ≤ 2 ^ k := by
      calc 2 = 2 ^ 1 := rfl
        _ ≤ 2 ^ k := Nat.pow_le_pow_right (by decide) hk
    rcases Nat.eq_zero_or_pos (x ^^^ y) with h4 | h4
    · exact h4
    · have := Nat.div_lt_self h4 (show 1 < 2 ^ k by omega)
      omega
  have h5 : (x ^^^ y) ^^^ y = 0 ^^^ y := by rw [h2]
  rw [Nat.xor_assoc, Nat.xor_self, Nat.xor_zero, Nat.zero_xor] at h5
  exact h5
theorem mul_inj64 {c d x y : Nat} (hc : c * d % 18446744073709551616 = 1) (hx : x < 18446744073709551616) (hy : y < 18446744073709551616) (h : x * c % 18446744073709551616 = y * c % 18446744073709551616) : x = y := by
  have key : ∀ z, z < 18446744073709551616 → (z * c % 18446744073709551616) * d % 18446744073709551616 = z := by
    intro z hz
    rw [Nat.mod_mul_mod, Nat.mul_assoc, ← Nat.mul_mod_mod, hc, Nat.mul_one, Nat.mod_eq_of_lt hz]
  rw [← key x hx, h, key y hy]
theorem shr_lt {x : Nat} (k : Nat) (h : x < 18446744073709551616) : x ^^^ (x >>> k) < 18446744073709551616 := by
  have h2 : x >>> k < 18446744073709551616 := by rw [Nat.shiftRight_eq_div_pow]; exact Nat.lt_of_le_of_lt (Nat.div_le_self _ _) h
  exact Nat.xor_lt_two_pow (n := 64) h h2
theorem m1_inj {x y : Nat} (hx : x < 18446744073709551616) (hy : y < 18446744073709551616) (h : m1 x = m1 y) : x = y :=
  xs_inj (by decide) (mul_inj64 (d := 17428512612931826493) (by decide) (shr_lt 32 hx) (shr_lt 32 hy) h)
theorem m2_inj {x y : Nat} (hx : x < 18446744073709551616) (hy : y < 18446744073709551616) (h : m2 x = m2 y) : x = y :=
  xs_inj (by decide) (mul_inj64 (d := 10871156337175269513) (by decide) (shr_lt 29 hx) (shr_lt 29 hy) h)
theorem mix_inj {x y : Nat} (hx : x < 18446744073709551616) (hy : y < 18446744073709551616) (h : mix x = mix y) : x = y :=
  m1_inj hx hy (m2_inj (Nat.mod_lt _ (by decide)) (Nat.mod_lt _ (by decide)) (xs_inj (by decide) h))
theorem xor_left {s a b : Nat} (h : s ^^^ a = s ^^^ b) : a = b := by
  have := congrArg (s ^^^ ·) h
  simp only [← Nat.xor_assoc, Nat.xor_self, Nat.zero_xor] at this
  exact this
theorem xor_right {s t a : Nat} (h : s ^^^ a = t ^^^ a) : s = t := xor_left (s := a) (by rw [Nat.xor_comm a s, Nat.xor_comm a t]; exact h)
theorem xor64 {a b : Nat} (ha : a < 18446744073709551616) (hb : b < 18446744073709551616) : a ^^^ b < 18446744073709551616 := Nat.xor_lt_two_pow (n := 64) ha hb
theorem hexd_inj {a b : Nat} (ha : a < 16) (hb : b < 16) (h : UInt8.ofNat (hexd a) = UInt8.ofNat (hexd b)) : a = b := by
  have h1 : ∀ a, a < 16 → ∀ b, b < 16 → UInt8.ofNat (hexd a) = UInt8.ofNat (hexd b) → a = b := by decide
  exact h1 a ha b hb h
theorem hexS_inj {a b : Nat} (ha : a < 18446744073709551616) (hb : b < 18446744073709551616) (h : hexS a = hexS b) : a = b := by
  have h1 : ∀ i, i < 16 → a / 2 ^ (60 - 4 * i) % 16 = b / 2 ^ (60 - 4 * i) % 16 := by
    intro i hi
    have h2 := congrArg (fun l => l[i]?) h
    simp only [hexS, List.getElem?_map, List.getElem?_range hi, Option.map_some, Option.some.injEq] at h2
    exact hexd_inj (Nat.mod_lt _ (by decide)) (Nat.mod_lt _ (by decide)) h2
  have h2 : ∀ k, k ≤ 16 → a % 16 ^ k = b % 16 ^ k := by
    intro k
    induction k with
    | zero => intro _; simp [Nat.mod_one]
    | succ k ih =>
      intro hk
      rw [Nat.mod_pow_succ, Nat.mod_pow_succ, ih (by omega)]
      have h3 := h1 (15 - k) (by omega)
      rw [show 60 - 4 * (15 - k) = 4 * k by omega, Nat.pow_mul, show 2 ^ 4 = 16 from rfl] at h3
      rw [h3]
  have h3 := h2 16 (Nat.le_refl _)
  rw [show 16 ^ 16 = 18446744073709551616 by decide, Nat.mod_eq_of_lt ha, Nat.mod_eq_of_lt hb] at h3
  exact h3
theorem blk_inj {l m : List UInt8} {f g : Nat} (h : blk l f = blk m g) : ∀ j, j < 8 → extB l (f + j) = extB m (g + j) := by
  rw [blk_eq, blk_eq] at h
  have a0 := extB_lt l f; have a1 := extB_lt l (f + 1); have a2 := extB_lt l (f + 2); have a3 := extB_lt l (f + 3)
  have a4 := extB_lt l (f + 4); have a5 := extB_lt l (f + 5); have a6 := extB_lt l (f + 6); have a7 := extB_lt l (f + 7)
  have b0 := extB_lt m g; have b1 := extB_lt m (g + 1); have b2 := extB_lt m (g + 2); have b3 := extB_lt m (g + 3)
  have b4 := extB_lt m (g + 4); have b5 := extB_lt m (g + 5); have b6 := extB_lt m (g + 6); have b7 := extB_lt m (g + 7)
  intro j hj
  match j, hj with
  | 0, _ => simp only [Nat.add_zero]; omega
  | 1, _ => omega
  | 2, _ => omega
  | 3, _ => omega
  | 4, _ => omega
  | 5, _ => omega
  | 6, _ => omega
  | 7, _ => omega
  | j + 8, hj => omega
theorem blk_same {l m : List UInt8} {f : Nat} (h : ∀ j, f ≤ j → j < f + 8 → extB l j = extB m j) : blk l f = blk m f := by
  rw [blk_eq, blk_eq, h f (by omega) (by omega), h (f + 1) (by omega) (by omega), h (f + 2) (by omega) (by omega), h (f + 3) (by omega) (by omega), h (f + 4) (by omega) (by omega), h (f + 5) (by omega) (by omega), h (f + 6) (by omega) (by omega), h (f + 7) (by omega) (by omega)]

/-- Texts of at most 7 bytes: the same digest exactly if they are equal. -/
theorem dsum_short {a b : List UInt8} (ha : a.length ≤ 7) (hb : b.length ≤ 7) (h : dsum a = dsum b) : a = b := by
  rw [dsum_blocks, dsum_blocks, show a.length / 8 = 0 by omega, show b.length / 8 = 0 by omega] at h
  have h1 := hexS_inj (stJ_lt _ _) (stJ_lt _ _) h
  have h2 : mix (7046029254386353131 ^^^ blk a (8 * 0)) = mix (7046029254386353131 ^^^ blk b (8 * 0)) := h1
  have h3 := xor_left (mix_inj (xor64 (by decide) (blk_lt _ _)) (xor64 (by decide) (blk_lt _ _)) h2)
  have h4 := blk_inj h3
  have hl : a.length = b.length := by
    rcases Nat.lt_trichotomy a.length b.length with h5 | h5 | h5
    · have := h4 b.length (by omega)
      simp only [extB, Nat.mul_zero, Nat.zero_add] at this
      rw [if_neg (by omega), if_neg (by omega), if_neg (by omega)] at this
      simp at this
    · exact h5
    · have h6 := h4 a.length (by omega)
      rw [Nat.mul_zero, Nat.zero_add] at h6
      have e1 : extB a a.length = 1 := by simp [extB]
      have e2 : extB b a.length = 0 := by unfold extB; rw [if_neg (by omega), if_neg (by omega)]
      omega
  apply List.ext_getElem hl
  intro i h5 h6
  have := h4 i (by omega)
  simp only [extB, Nat.mul_zero, Nat.zero_add] at this
  rw [if_pos h5, if_pos h6, List.getD_eq_getElem?_getD, List.getD_eq_getElem?_getD, List.getElem?_eq_getElem h5, List.getElem?_eq_getElem h6] at this
  exact UInt8.toNat_inj.1 this
/-- Texts of one length that agree outside of one block: the same digest exactly if they are equal. -/
theorem dsum_block {l m : List UInt8} (p : Nat) (hlen : l.length = m.length) (hp : 8 * p ≤ l.length) (hout : ∀ j, j < 8 * p ∨ 8 * p + 8 ≤ j → l.getD j 0 = m.getD j 0) (h : dsum l = dsum m) : l = m := by
  have hx : ∀ j, j < 8 * p ∨ 8 * p + 8 ≤ j → extB l j = extB m j := by
    intro j hj
    simp only [extB, hlen, hout j hj]
  have hbefore : ∀ j, j ≤ p → stJ l j = stJ m j := by
    intro j
    induction j with
    | zero => intro _; rfl
    | succ j ih =>
      intro hj
      rw [stJ, stJ, ih (by omega), blk_same (fun i h1 h2 => hx i (Or.inl (by omega)))]
  have hback : ∀ j, stJ l (p + 1 + j) = stJ m (p + 1 + j) → stJ l (p + 1) = stJ m (p + 1) := by
    intro j
    induction j with
    | zero => exact id
    | succ j ih =>
      intro hj
      apply ih
      have h1 : mix (stJ l (p + 1 + j) ^^^ blk l (8 * (p + 1 + j))) = mix (stJ m (p + 1 + j) ^^^ blk m (8 * (p + 1 + j))) := hj
      rw [blk_same (l := l) (m := m) (fun i h1 h2 => hx i (Or.inr (by omega)))] at h1
      exact xor_right (mix_inj (xor64 (stJ_lt _ _) (blk_lt _ _)) (xor64 (stJ_lt _ _) (blk_lt _ _)) h1)
  rw [dsum_blocks, dsum_blocks, ← hlen] at h
  have h1 := hexS_inj (stJ_lt _ _) (stJ_lt _ _) h
  rw [show l.length / 8 + 1 = p + 1 + (l.length / 8 - p) by omega] at h1
  have h2 : mix (stJ l p ^^^ blk l (8 * p)) = mix (stJ m p ^^^ blk m (8 * p)) := hback _ h1
  rw [hbefore p (Nat.le_refl _)] at h2
  have h3 := blk_inj (xor_left (mix_inj (xor64 (stJ_lt _ _) (blk_lt _ _)) (xor64 (stJ_lt _ _) (blk_lt _ _)) h2))
  have hall : ∀ j, extB l j = extB m j := by
    intro j
    by_cases hj : j < 8 * p ∨ 8 * p + 8 ≤ j
    · exact hx j hj
    · have := h3 (j - 8 * p) (by omega)
      rwa [show 8 * p + (j - 8 * p) = j by omega] at this
  apply List.ext_getElem hlen
  intro i h5 h6
  have := hall i
  simp only [extB] at this
  rw [if_pos h5, if_pos h6, List.getD_eq_getElem?_getD, List.getD_eq_getElem?_getD, List.getElem?_eq_getElem h5, List.getElem?_eq_getElem h6] at this
  exact UInt8.toNat_inj.1 this
end Go.Proofs.YtjddngbgbbbefaaGreatDoor
