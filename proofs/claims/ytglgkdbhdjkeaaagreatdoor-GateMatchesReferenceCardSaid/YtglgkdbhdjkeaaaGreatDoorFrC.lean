/-
  foyerlaw36.small.
  Plain law: what the reference of layer 36 reads from a text, with each length of the first number.
  The reference of layer 36: digit, hex.
  The reference of layer 36: form, Valid, Same.
  Plain law: filters that are joined.
  The reference of layer 36: Has.
  The reference of layer 36: Make.
  The reference of layer 36: Join.
  foyerref36.Text.
-/
import Derived.Test.YtglgkdbhdjkeaaaGreatDoorFlJ
import Derived.Test.YtglgkdbhdjkeaaaGreatDoorPlnFl
import Derived.Test.YtglgkdbhdjkeaaaGreatDoorPlnHv
import Derived.Test.YtglgkdbhdjkeaaaGreatDoorRefB
import Derived.Test.YtglgkdbhdjkeaaaGreatDoorFrA
import Derived.BigRegion
import Derived.Test.YtglgkdbhdjkeaaaGreatDoorFlH
namespace Go.Proofs.YtglgkdbhdjkeaaaGreatDoor
open Go.RowKit

/-- A slice of slices of ints, read by the lengths of its elements. -/
def Rows (w : World) (v : Value) (L : List Nat) : Prop :=
  (v = .slice none 0 0 ∧ L = []) ∨ ∃ b off cap, v = .slice (some ⟨b, off, none⟩) L.length cap ∧ L.length ≤ cap ∧ cap ≤ 9223372036854775807 ∧
    ∀ i, i < L.length → ∃ a c, w.cell? ⟨b, off + i, none⟩ = some (.slice a (L.getD i 0) c)
def smallF (f : Flt) (L : List Nat) : Bool := L.all (fun n => decide (n ≤ 60)) && decide (f.words.length ≤ 100)
end Go.Proofs.YtglgkdbhdjkeaaaGreatDoor
namespace Go.Proofs.YtglgkdbhdjkeaaaGreatDoor
open Go.RowKit

/-- The value of a digit; 16 for another byte. -/
def digG (c : UInt8) : Nat := if hexC c then hexN c else 16
theorem digG_le (c : UInt8) : digG c ≤ 16 := by
  have h : ∀ n : Fin 256, digG (UInt8.ofNat n.val) ≤ 16 := by decide +kernel
  simpa using h ⟨c.toNat, c.toNat_lt⟩
theorem digG_dec (d : Nat) (h : d < 10) : digG (decC d) = d := by
  have h1 : ∀ d, d < 10 → digG (decC d) = d := by decide
  exact h1 d h
theorem digG_hexd (d : Nat) (h : d < 16) : digG (UInt8.ofNat (hexd d)) = d := by
  have h1 : ∀ d, d < 16 → digG (UInt8.ofNat (hexd d)) = d := by decide
  exact h1 d h
theorem digG_ten (c : UInt8) (h1 : 48 ≤ c.toNat) (h2 : c.toNat ≤ 57) : digG c = c.toNat - 48 := by
  have h : ∀ n : Fin 256, 48 ≤ n.val → n.val ≤ 57 → digG (UInt8.ofNat n.val) = n.val - 48 := by decide +kernel
  simpa using h ⟨c.toNat, c.toNat_lt⟩ h1 h2
theorem digG_af (c : UInt8) (h1 : 97 ≤ c.toNat) (h2 : c.toNat ≤ 102) : digG c = c.toNat - 97 + 10 := by
  have h : ∀ n : Fin 256, 97 ≤ n.val → n.val ≤ 102 → digG (UInt8.ofNat n.val) = n.val - 97 + 10 := by decide +kernel
  simpa using h ⟨c.toNat, c.toNat_lt⟩ h1 h2
theorem digG_no (c : UInt8) (h : c.toNat < 48 ∨ (57 < c.toNat ∧ c.toNat < 97) ∨ 102 < c.toNat) : digG c = 16 := by
  have h' : ∀ n : Fin 256, (n.val < 48 ∨ (57 < n.val ∧ n.val < 97) ∨ 102 < n.val) → digG (UInt8.ofNat n.val) = 16 := by decide +kernel
  simpa using h' ⟨c.toNat, c.toNat_lt⟩ h
/-- The number that some bytes spell. -/
def dgV (l : List UInt8) : Nat := l.foldl (fun a c => a * 10 + digG c) 0
theorem dgV_snoc (l : List UInt8) (k : Nat) (hk : k < l.length) : dgV (l.take (k + 1)) = dgV (l.take k) * 10 + digG (l.getD k 0) := by
  rw [take_snoc' l k 0 hk]
  unfold dgV
  rw [List.foldl_append]; rfl
theorem dgV_lt (l : List UInt8) : ∀ k, k ≤ l.length → dgV (l.take k) + 2 ≤ 2 * 10 ^ k
  | 0, _ => by simp [dgV]
  | k + 1, h => by
    have h1 := dgV_lt l k (by omega)
    have h2 := digG_le (l.getD k 0)
    rw [dgV_snoc l k (by omega), Nat.pow_succ]
    omega
theorem dgV_dec (n : Nat) : dgV (Lib.decDigits n) = n := by
  have h1 : ∀ (l : List UInt8) (a : Nat), (∀ c ∈ l, 48 ≤ c.toNat ∧ c.toNat ≤ 57) → l.foldl (fun a c => a * 10 + digG c) a = l.foldl decF a := by
    intro l
    induction l with
    | nil => intro a _; rfl
    | cons c t ih =>
      intro a h
      have hc := h c (by simp)
      rw [List.foldl_cons, List.foldl_cons, digG_ten c hc.1 hc.2, ih _ (fun x hx => h x (by simp [hx]))]
      rfl
  unfold dgV
  rw [h1 _ 0 (dec_chars n)]
  exact dec_fold n
/-- The word that some bytes spell. -/
def wV (l : List UInt8) : Nat := l.foldl (fun a c => (a * 16 + digG c) % 18446744073709551616) 0
theorem wV_snoc (l : List UInt8) (k : Nat) (hk : k < l.length) : wV (l.take (k + 1)) = (wV (l.take k) * 16 + digG (l.getD k 0)) % 18446744073709551616 := by
  rw [take_snoc' l k 0 hk]
  unfold wV
  rw [List.foldl_append]; rfl
theorem wV_lt (l : List UInt8) : wV l < 18446744073709551616 := by
  have h : ∀ (l : List UInt8) (a : Nat), a < 18446744073709551616 → l.foldl (fun a c => (a * 16 + digG c) % 18446744073709551616) a < 18446744073709551616 := by
    intro l
    induction l with
    | nil => intro a h; exact h
    | cons c t ih => intro a _; exact ih _ (Nat.mod_lt _ (by decide))
  exact h l 0 (by decide)
theorem wV_hexS (x : Nat) (hx : x < 18446744073709551616) : wV (hexS x) = x := by
  have h : ∀ (l : List UInt8) (a : Nat), (∀ c ∈ l, digG c = hexN c) → l.foldl (fun a c => (a * 16 + digG c) % 18446744073709551616) (a % 18446744073709551616) = l.foldl (fun a c => a * 16 + hexN c) a % 18446744073709551616 := by
    intro l
    induction l with
    | nil => intro a _; rfl
    | cons c t ih =>
      intro a h
      rw [List.foldl_cons, List.foldl_cons, h c (by simp), ← ih _ (fun y hy => h y (by simp [hy]))]
      congr 1
      omega
  have h2 := h (hexS x) 0 (fun c hc => by
    obtain ⟨i, _, rfl⟩ := List.mem_map.1 hc
    rw [digG_hexd _ (Nat.mod_lt _ (by decide)), hexN_hexd _ (Nat.mod_lt _ (by decide))])
  have h3 : hexV (hexS x) = x := hexV_hexS x hx
  unfold hexV at h3
  rw [h3, Nat.mod_eq_of_lt hx] at h2
  exact h2
/-- The bits that a text begins with, if they have n digits. -/
def bitsT (text : List UInt8) (n : Nat) : Nat := dgV (text.take n)
def restT (text : List UInt8) (n : Nat) : List UInt8 := text.drop (n + 2)
def wordT (text : List UInt8) (n i : Nat) : List UInt8 := ((restT text n).drop (17 * i + 1)).take 16
/-- The filter of a text, if its first number has n digits. -/
def tryF (text : List UInt8) (n : Nat) : Flt := ⟨(bitsT text n : Int), (digG (text.getD (n + 1) 0) : Int), (List.range (bitsT text n / 64)).map fun i => wV (wordT text n i)⟩
def okT (text : List UInt8) (n : Nat) : Prop := formF (bitsT text n : Int) (digG (text.getD (n + 1) 0) : Int) = true ∧ (restT text n).length = 17 * (bitsT text n / 64)
theorem tryF_W64 (text : List UInt8) (n : Nat) : W64 (tryF text n).words := by
  intro x hx
  obtain ⟨i, _, rfl⟩ := List.mem_map.1 hx
  exact Nat.lt_of_lt_of_le (wV_lt _) (by decide)
theorem tryF_valid {text : List UInt8} {n : Nat} (h : okT text n) : validF (tryF text n) = true := by
  unfold validF tryF
  simp only [Bool.and_eq_true, decide_eq_true_eq, List.length_map, List.length_range]
  exact ⟨h.1, by omega⟩
theorem dec_len_of (k u : Nat) (h : u < 10 ^ (k + 1)) : (Lib.decDigits u).length ≤ k + 1 := by
  induction k generalizing u with
  | zero => rw [dec_small u (by simpa using h)]; simp
  | succ k ih =>
    by_cases h10 : u < 10
    · rw [dec_small u h10]; simp
    · rw [dec_step u (by omega), List.length_append]
      have := ih (u / 10) (by rw [Nat.pow_succ] at h; omega)
      simp only [List.length_cons, List.length_nil]
      omega
theorem dec_len_two (u : Nat) (h : 10 ≤ u) : 2 ≤ (Lib.decDigits u).length := by
  rw [dec_step u h, List.length_append]
  have := List.length_pos_iff.2 (dec_nonempty (u / 10))
  simp only [List.length_cons, List.length_nil]
  omega
theorem sp_flat : ∀ (l : List (List UInt8)), l ≠ [] → (32 : UInt8) :: spS l = l.flatMap (fun x => 32 :: x)
  | [], h => absurd rfl h
  | [x], _ => by simp [spS]
  | x :: y :: l, _ => by
    rw [spS_cons2, sp_flat (y :: l) (by simp), List.flatMap_cons]
    rfl
theorem flat_len : ∀ (W : List Nat), ((W.map hexS).flatMap (fun x => (32 : UInt8) :: x)).length = 17 * W.length
  | [] => rfl
  | x :: W => by
    rw [List.map_cons, List.flatMap_cons, List.length_append, flat_len W, List.length_cons, hexS_length, List.length_cons]
    omega
theorem flat_word : ∀ (W : List Nat) (i : Nat), i < W.length → ((((W.map hexS).flatMap (fun x => (32 : UInt8) :: x)).drop (17 * i + 1)).take 16) = hexS (W.getD i 0)
  | [], i, h => absurd h (by simp)
  | x :: W, 0, _ => by
    rw [List.map_cons, List.flatMap_cons]
    simp only [Nat.mul_zero, Nat.zero_add, List.cons_append, List.drop_succ_cons, List.drop_zero]
    rw [List.take_append_of_le_length (by rw [hexS_length]; exact Nat.le_refl _), List.take_of_length_le (by rw [hexS_length]; exact Nat.le_refl _)]
    simp
  | x :: W, i + 1, h => by
    rw [List.map_cons, List.flatMap_cons, List.drop_append, List.drop_eq_nil_of_le (by rw [List.length_cons, hexS_length]; omega), List.nil_append, List.length_cons, hexS_length,
      show 17 * (i + 1) + 1 - (16 + 1) = 17 * i + 1 by omega, flat_word W i (by simpa using h)]
    simp
/-- A text of a filter is read at the length of its first number. -/
theorem try_text {text : List UInt8} {g : Flt} (h : IsTextF text g) : ∃ n, 2 ≤ n ∧ n ≤ 5 ∧ n + 2 ≤ text.length ∧ okT text n ∧ tryF text n = g := by
  obtain ⟨hv, hW, ht⟩ := h
  obtain ⟨hf, hl⟩ := validF_parts hv
  have hp := formF_parts hf
  have hne : g.words.map hexS ≠ [] := by
    intro h0
    have := congrArg List.length h0
    rw [List.length_map] at this
    simp at this
    rw [this] at hl
    simp at hl
    omega
  have e1 : Lib.itoa g.bits = Lib.decDigits g.bits.toNat := by unfold Lib.itoa; rw [if_neg (by omega)]
  have e2 : Lib.itoa g.hashes = [decC g.hashes.toNat] := by
    unfold Lib.itoa
    rw [if_neg (by omega), dec_small _ (by omega), Nat.mod_eq_of_lt (by omega)]
  obtain ⟨D, hD⟩ : ∃ D, D = Lib.decDigits g.bits.toNat := ⟨_, rfl⟩
  have hDl : 2 ≤ D.length ∧ D.length ≤ 5 := by
    rw [hD]
    exact ⟨dec_len_two _ (by omega), dec_len_of 4 _ (by omega)⟩
  obtain ⟨R, hR⟩ : ∃ R, R = (g.words.map hexS).flatMap (fun x => (32 : UInt8) :: x) := ⟨_, rfl⟩
  have htx : text = D ++ 32 :: decC g.hashes.toNat :: R := by
    rw [← ht]
    unfold textF
    rw [if_pos hv]
    unfold wordsF
    obtain ⟨a, l, hal⟩ := List.exists_cons_of_ne_nil hne
    rw [e1, e2, hR, ← sp_flat _ hne, hal, spS_cons2, spS_cons2, hD]
    rfl
  have hRl : R.length = 17 * g.words.length := by rw [hR, flat_len]
  have b1 : bitsT text D.length = g.bits.toNat := by
    unfold bitsT
    rw [htx, List.take_append_of_le_length (Nat.le_refl _), List.take_length, hD, dgV_dec]
  have b2 : digG (text.getD (D.length + 1) 0) = g.hashes.toNat := by
    rw [htx, List.getD_eq_getElem?_getD, List.getElem?_append_right (by omega), show D.length + 1 - D.length = 1 by omega]
    simp only [List.getElem?_cons_succ, List.getElem?_cons_zero, Option.getD_some]
    exact digG_dec _ (by omega)
  have b3 : restT text D.length = R := by
    unfold restT
    rw [htx, List.drop_append, List.drop_eq_nil_of_le (by omega), show D.length + 2 - D.length = 2 by omega]
    rfl
  have hwl : g.bits.toNat / 64 = g.words.length := by omega
  refine ⟨D.length, hDl.1, hDl.2, by rw [htx]; simp, ⟨?_, by rw [b3, hRl, b1, hwl]⟩, ?_⟩
  · rw [b1, b2, show ((g.bits.toNat : Nat) : Int) = g.bits by omega, show ((g.hashes.toNat : Nat) : Int) = g.hashes by omega]
    exact hf
  · refine Flt.ext' (by show ((bitsT text D.length : Nat) : Int) = g.bits; rw [b1]; omega) (by show ((digG _ : Nat) : Int) = g.hashes; rw [b2]; omega) ?_
    show (List.range (bitsT text D.length / 64)).map _ = g.words
    rw [b1, hwl]
    refine List.ext_getElem (by simp) (fun i h1 h2 => ?_)
    rw [List.getElem_map, List.getElem_range]
    unfold wordT
    rw [b3, hR, flat_word _ _ h2, wV_hexS _ (Nat.lt_of_lt_of_le (hW.at i) (by decide)), List.getD_eq_getElem?_getD, List.getElem?_eq_getElem h2]
    rfl
/-- The first length that fits is the one. -/
theorem parsed_try {text : List UInt8} {n : Nat} (h : okT text n) (ht : textF (tryF text n) = text) : ParsedF text (some (tryF text n)) := parsed_some ⟨tryF_valid h, tryF_W64 text n, ht⟩
def noneT (text : List UInt8) (n : Nat) : Prop := ∀ m, 2 ≤ m → m < n → m + 2 ≤ text.length → ¬ (okT text m ∧ textF (tryF text m) = text)
theorem parsed_no {text : List UInt8} {n : Nat} (h : noneT text n) (hn : 6 ≤ n ∨ text.length < n + 2) : ParsedF text none := parsed_none (fun g hg => by
  obtain ⟨m, h1, h2, h3, h4, h5⟩ := try_text hg
  refine h m h1 (by omega) h3 ⟨h4, ?_⟩
  rw [h5]
  exact hg.2.2)
end Go.Proofs.YtglgkdbhdjkeaaaGreatDoor
namespace Go.Proofs.YtglgkdbhdjkeaaaGreatDoor
open Go.RowKit

/-- The first digits of a word. -/
def hexP (x k : Nat) : List UInt8 := (hexS x).take k
theorem hexP_snoc (x k : Nat) (h : k < 16) : hexP x (k + 1) = hexP x k ++ [UInt8.ofNat (hexd (x / 2 ^ (60 - 4 * k) % 16))] := by
  unfold hexP
  rw [take_snoc' _ k 0 (by rw [hexS_length]; exact h)]
  congr 2
  unfold hexS
  rw [List.getD_eq_getElem?_getD, List.getElem?_map, List.getElem?_range h]
  rfl
set_option maxRecDepth 100000 in
set_option maxHeartbeats 1000000 in
theorem rpos36_any (serial bits : Int) (k : Nat) (w : World) (hs : -9223372036854775808 ≤ serial ∧ serial ≤ 9223372036854775807) (hk : k ≤ 8) (hb : 64 ≤ bits ∧ bits ≤ 65536) :
    Calls Tryz.prog 68 #[.int .i64 serial, .int .i64 (k : Int), .int .i64 bits] w fun e w' => e = .returned (.int .i64 (posF serial bits k : Nat)) ∧ Below w.heap.size w w' := by
  have HP := Lib.hid (posF_eq serial (show 1 ≤ bits by omega) k)
  have e1 : Lib.itoa (k : Int) = Lib.decDigits k := by unfold Lib.itoa; rw [if_neg (by omega)]; rfl
  have hl1 := Lib.itoa_length_le serial hs.1 hs.2
  have hl2 := Lib.itoa_length_le (k : Int) (by omega) (by omega)
  rw [e1] at hl2
  have HC : Hid (capN [Lib.itoa serial, Lib.decDigits k] ≤ 140737488355328) := Lib.hid (by simp only [capN, List.map_cons, List.map_nil, List.foldl_cons, List.foldl_nil]; omega)
  have HD1 := Lib.hid (r36dec_any serial w hs.1 hs.2)
  clear hl1 hl2 hs
  have hk1 : (-9223372036854775808 : Int) ≤ (k : Int) := by omega
  have hk2 : (k : Int) ≤ 9223372036854775807 := by omega
  have hb9 : -9223372036854775808 ≤ bits ∧ bits < 9223372036854775808 := by omega
  clear hk hb
  go_enter Tryz.func68, Tryz.ntmps68
  go_wp2_with fail
  refine HD1.out.mono ?_
  rintro e w1 ⟨rfl, hb1⟩
  go_wp2_with fail
  refine (r36dec_any (k : Int) w1 hk1 hk2).mono ?_
  rintro e w2 ⟨rfl, hb2⟩
  rw [e1]
  have hf2 : Fr [] w w2 := (Fr.ofBelow hb1).below hb2 hb1.size
  clear e1 hk1 hk2 hb1 hb2
  generalize Lib.itoa serial = S at HC HP ⊢
  generalize Lib.decDigits k = D at HC HP ⊢
  go_wp2_with fail
  have hf3 := hf2.alloc (.cells #[.string ⟨S.toArray⟩, .string ⟨D.toArray⟩] 9)
  refine (rlist_any _ [S, D] _ (strs_two (heap_new rfl)) HC.out).mono ?_
  rintro e w4 ⟨rfl, hb4⟩
  have hf4 := hf3.below hb4 hf3.size
  clear hb4 hf3
  have hd : (dlist [S, D]).length ≤ 9223372036854775807 := by unfold dlist; rw [dsum_length]; decide
  generalize dlist [S, D] = L at HP hd ⊢
  go_wp2_with fail
  refine (rbelow_any L bits w4 hd hb9).mono ?_
  rintro e w5 ⟨rfl, hb5⟩
  have HF := Lib.hid (hf4.below hb5 hf4.size)
  go_wp2_with fail
  go_ret
  exact ⟨by rw [HP.out]; rfl, HF.out.toBelow (by simp)⟩
end Go.Proofs.YtglgkdbhdjkeaaaGreatDoor
namespace Go.Proofs.YtglgkdbhdjkeaaaGreatDoor
open Go.RowKit

set_option maxRecDepth 100000 in
set_option maxHeartbeats 1000000 in
theorem rform36_any (bits hashes : Int) (w : World) :
    Calls Tryz.prog 69 #[.int .i64 bits, .int .i64 hashes] w fun e w' => e = .returned (.bool (formF bits hashes)) ∧ w = w' := by
  obtain ⟨r, er⟩ : ∃ r, r = formF bits hashes := ⟨_, rfl⟩
  have ER : Hid (r = decide (64 ≤ bits ∧ bits ≤ 65536 ∧ bits % 64 = 0 ∧ 1 ≤ hashes ∧ hashes ≤ 8)) := Lib.hid er
  rw [← er]
  clear er
  by_cases h1 : 64 ≤ bits
  case neg =>
    have t1 : decide (64 ≤ bits) = false := decide_eq_false h1
    have HX : Hid (r = false) := Lib.hid (by rw [ER.out]; exact decide_eq_false (fun h => h1 h.1))
    clear h1
    go_enter Tryz.func69, Tryz.ntmps69
    go_wp2_with fail
    go_ret
    exact ⟨by rw [HX.out]; rfl, rfl⟩
  have t1 : decide (64 ≤ bits) = true := decide_eq_true h1
  by_cases h2 : bits ≤ 65536
  case neg =>
    have t2 : decide (bits ≤ 65536) = false := decide_eq_false h2
    have HX : Hid (r = false) := Lib.hid (by rw [ER.out]; exact decide_eq_false (fun h => h2 h.2.1))
    clear h1 h2
    go_enter Tryz.func69, Tryz.ntmps69
    go_wp2_with fail
    go_ret
    exact ⟨by rw [HX.out]; rfl, rfl⟩
  have t2 : decide (bits ≤ 65536) = true := decide_eq_true h2
  obtain ⟨m, em, em2⟩ : ∃ m, bits % 64 = m ∧ bits.tmod 64 = m := ⟨_, rfl, by rw [Int.tmod_eq_emod_of_nonneg (by omega)]⟩
  by_cases h3 : m = 0
  case neg =>
    have t3 : (m == 0) = false := by rw [beq_eq_false_iff_ne]; exact h3
    have HX : Hid (r = false) := Lib.hid (by rw [ER.out]; exact decide_eq_false (fun h => h3 (by rw [← em]; exact h.2.2.1)))
    have xm : IntKind.i64.wrap m = m := IntWalk.i64_in _ (by omega)
    clear h1 h2 h3
    go_enter Tryz.func69, Tryz.ntmps69
    go_wp2_with fail
    go_ret
    exact ⟨by rw [HX.out]; rfl, rfl⟩
  subst h3
  by_cases h4 : 1 ≤ hashes
  case neg =>
    have t4 : decide (1 ≤ hashes) = false := decide_eq_false h4
    have HX : Hid (r = false) := Lib.hid (by rw [ER.out]; exact decide_eq_false (fun h => h4 h.2.2.2.1))
    clear h1 h2 h4
    go_enter Tryz.func69, Tryz.ntmps69
    go_wp2_with fail
    go_ret
    exact ⟨by rw [HX.out]; rfl, rfl⟩
  have t4 : decide (1 ≤ hashes) = true := decide_eq_true h4
  by_cases h5 : hashes ≤ 8
  case neg =>
    have t5 : decide (hashes ≤ 8) = false := decide_eq_false h5
    have HX : Hid (r = false) := Lib.hid (by rw [ER.out]; exact decide_eq_false (fun h => h5 h.2.2.2.2))
    clear h1 h2 h4 h5
    go_enter Tryz.func69, Tryz.ntmps69
    go_wp2_with fail
    go_ret
    exact ⟨by rw [HX.out]; rfl, rfl⟩
  have t5 : decide (hashes ≤ 8) = true := decide_eq_true h5
  have HX : Hid (r = true) := Lib.hid (by rw [ER.out]; exact decide_eq_true ⟨h1, h2, em, h4, h5⟩)
  clear h1 h2 h4 h5
  go_enter Tryz.func69, Tryz.ntmps69
  go_wp2_with fail
  go_ret
  exact ⟨by rw [HX.out]; rfl, rfl⟩

set_option maxRecDepth 100000 in
set_option maxHeartbeats 1000000 in
theorem rvalid36_any (v : Value) (f : Flt) (w : World) (hv : FltR w v f) :
    Calls Tryz.prog 37 #[v] w fun e w' => e = .returned (.bool (validF f)) ∧ Below w.heap.size w w' := by
  obtain ⟨wv, rfl, hw⟩ := hv
  obtain ⟨wa, wcap, rfl, hwl, hwc, hwa⟩ := hw.form
  clear hw
  obtain ⟨r, er⟩ : ∃ r, r = validF f := ⟨_, rfl⟩
  have ER : Hid (r = (formF f.bits f.hashes && decide ((f.words.length : Int) = f.bits / 64))) := Lib.hid er
  rw [← er]
  clear er
  have f0 : Fr [] w (w.alloc (.cells #[.int .i64 f.bits, .int .i64 f.hashes, .slice wa f.words.length wcap] 37)) := (Fr.refl [] w).alloc _
  have q0 : (w.alloc (.cells #[.int .i64 f.bits, .int .i64 f.hashes, .slice wa f.words.length wcap] 37)).heap[w.heap.size]? = some (.cells #[.int .i64 f.bits, .int .i64 f.hashes, .slice wa f.words.length wcap] 37 (0, 0)) := heap_new rfl
  go_enter Tryz.func37, Tryz.ntmps37
  go_wp2_with fail
  generalize w.alloc (.cells #[.int .i64 f.bits, .int .i64 f.hashes, .slice wa f.words.length wcap] 37) = w0 at f0 q0 ⊢
  refine (rform36_any f.bits f.hashes w0).mono ?_
  rintro e w1 ⟨rfl, rfl⟩
  have c0 : w0.cell? ⟨w.heap.size, 0, none⟩ = some (.int .i64 f.bits) := by rw [row_cell q0 0]; rfl
  have c2 : w0.cell? ⟨w.heap.size, 2, none⟩ = some (.slice wa f.words.length wcap) := by rw [row_cell q0 2]; rfl
  clear q0
  cases hf : formF f.bits f.hashes with
  | false =>
    have HX : Hid (r = false) := Lib.hid (by rw [ER.out, hf]; rfl)
    clear hf
    go_wp2_with fail
    go_ret
    exact ⟨by rw [HX.out]; rfl, f0.toBelow (by simp)⟩
  | true =>
    have hp := formF_parts hf
    have HR2 : Hid (r = decide ((f.words.length : Int) = f.bits / 64)) := Lib.hid (by rw [ER.out, hf]; rfl)
    obtain ⟨q, eq, eq2⟩ : ∃ q, f.bits / 64 = q ∧ f.bits.tdiv 64 = q := ⟨_, rfl, by rw [Int.tdiv_eq_ediv_of_nonneg (by omega)]⟩
    have xq : IntKind.i64.wrap q = q := IntWalk.i64_in _ (by omega)
    have HEQ := Lib.hid eq
    clear hf hp eq
    by_cases hl : (f.words.length : Int) = q
    · have t1 : ((f.words.length : Int) == q) = true := by rw [beq_iff_eq]; exact hl
      have HX : Hid (r = true) := Lib.hid (by rw [HR2.out, HEQ.out]; exact decide_eq_true hl)
      clear hl
      go_wp2_with fail
      go_ret
      exact ⟨by rw [HX.out]; rfl, f0.toBelow (by simp)⟩
    · have t1 : ((f.words.length : Int) == q) = false := by rw [beq_eq_false_iff_ne]; exact hl
      have HX : Hid (r = false) := Lib.hid (by rw [HR2.out, HEQ.out]; exact decide_eq_false hl)
      clear hl
      go_wp2_with fail
      go_ret
      exact ⟨by rw [HX.out]; rfl, f0.toBelow (by simp)⟩
/-- Are two filters equal? -/
def sameF (a b : Flt) : Bool := decide (a.bits = b.bits) && decide (a.hashes = b.hashes) && decide (a.words = b.words)
theorem sameF_iff (a b : Flt) : sameF a b = true ↔ a = b := by
  unfold sameF
  simp only [Bool.and_eq_true, decide_eq_true_eq]
  constructor
  · rintro ⟨⟨h1, h2⟩, h3⟩; exact Flt.ext' h1 h2 h3
  · rintro rfl; exact ⟨⟨rfl, rfl⟩, rfl⟩
end Go.Proofs.YtglgkdbhdjkeaaaGreatDoor
namespace Go.Proofs.YtglgkdbhdjkeaaaGreatDoor
open Go.RowKit

/-- The filter of both, and the error. -/
def joinF (a b : Flt) : Flt := if okJ a b then ⟨a.bits, a.hashes, joinW a.words b.words⟩ else ⟨0, 0, []⟩
def joinEr (a b : Flt) : Int := if okJ a b then 0 else 1
theorem okJ_parts {a b : Flt} (h : okJ a b = true) : validF a = true ∧ validF b = true ∧ a.bits = b.bits ∧ a.hashes = b.hashes := by
  unfold okJ at h
  simp only [Bool.and_eq_true, decide_eq_true_eq] at h
  exact ⟨h.1.1.1, h.1.1.2, h.1.2, h.2⟩
theorem okJ_of {a b : Flt} (h1 : validF a = true) (h2 : validF b = true) (h3 : a.bits = b.bits) (h4 : a.hashes = b.hashes) : okJ a b = true := by
  unfold okJ
  simp [h1, h2, h3, h4]
theorem okJ_len {a b : Flt} (h : okJ a b = true) : a.words.length = b.words.length := by
  obtain ⟨h1, h2, h3, h4⟩ := okJ_parts h
  have e1 := (validF_parts h1).2
  have e2 := (validF_parts h2).2
  rw [h3] at e1
  omega
theorem joinF_ok {a b : Flt} (h : okJ a b = true) : joinF a b = ⟨a.bits, a.hashes, joinW a.words b.words⟩ := by unfold joinF; rw [if_pos h]
theorem joinEr_ok {a b : Flt} (h : okJ a b = true) : joinEr a b = 0 := by unfold joinEr; rw [if_pos h]
theorem joinEr_no {a b : Flt} (h : okJ a b = false) : joinEr a b = 1 := by unfold joinEr; rw [h]; rfl
theorem joinF_valid {a b : Flt} (h : okJ a b = true) : validF (joinF a b) = true := by
  have hl := okJ_len h
  obtain ⟨h1, h2, h3, h4⟩ := okJ_parts h
  rw [joinF_ok h]
  unfold validF
  obtain ⟨e1, e2⟩ := validF_parts h1
  simp only [e1, Bool.true_and, joinW_len _ _ hl, decide_eq_true_eq]
  exact e2
theorem joinF_lt {a b : Flt} (ha : W64 a.words) (hb : W64 b.words) : W64 (joinF a b).words := by
  unfold joinF
  split
  · rename_i h
    exact joinW_lt ha hb (okJ_len h)
  · intro x hx; cases hx
theorem okJ_left {a b c : Flt} (h1 : okJ a b = true) (h2 : okJ b c = true) : okJ (joinF a b) c = true := by
  have hv := joinF_valid h1
  obtain ⟨_, _, h3, h4⟩ := okJ_parts h1
  obtain ⟨_, h6, h7, h8⟩ := okJ_parts h2
  refine okJ_of hv h6 ?_ ?_
  · rw [joinF_ok h1]; exact h3.trans h7
  · rw [joinF_ok h1]; exact h4.trans h8
theorem okJ_right {a b c : Flt} (h1 : okJ a b = true) (h2 : okJ b c = true) : okJ a (joinF b c) = true := by
  have hv := joinF_valid h2
  obtain ⟨h5, _, h3, h4⟩ := okJ_parts h1
  refine okJ_of h5 hv ?_ ?_
  · rw [joinF_ok h2]; exact h3
  · rw [joinF_ok h2]; exact h4
theorem joinF_assoc {a b c : Flt} (ha : W64 a.words) (hb : W64 b.words) (hc : W64 c.words) (h1 : okJ a b = true) (h2 : okJ b c = true) : joinF (joinF a b) c = joinF a (joinF b c) := by
  rw [joinF_ok (okJ_left h1 h2), joinF_ok (okJ_right h1 h2), joinF_ok h1, joinF_ok h2]
  simp only
  rw [joinW_assoc ha hb hc (okJ_len h1) (okJ_len h2)]
theorem has_joinL {a b : Flt} (s : Int) (h : okJ a b = true) (hs : hasF a s = true) : hasF (joinF a b) s = true := by
  have hv := joinF_valid h
  have hl := okJ_len h
  unfold hasF at hs ⊢
  rw [hv, Bool.true_and]
  simp only [Bool.and_eq_true] at hs
  rw [joinF_ok h]
  have h2 := hs.2
  unfold hasW at h2 ⊢
  rw [List.all_eq_true] at h2 ⊢
  intro n hn
  show bitW (joinW a.words b.words) n = true
  rw [joinW_bit hl, h2 n hn]
  rfl
theorem has_joinR {a b : Flt} (s : Int) (h : okJ a b = true) (hs : hasF b s = true) : hasF (joinF a b) s = true := by
  have hv := joinF_valid h
  have hl := okJ_len h
  obtain ⟨_, _, h3, h4⟩ := okJ_parts h
  unfold hasF at hs ⊢
  rw [hv, Bool.true_and]
  simp only [Bool.and_eq_true] at hs
  rw [joinF_ok h]
  have h2 := hs.2
  rw [← h3, ← h4] at h2
  unfold hasW at h2 ⊢
  rw [List.all_eq_true] at h2 ⊢
  intro n hn
  show bitW (joinW a.words b.words) n = true
  rw [joinW_bit hl, h2 n hn, Bool.or_true]
end Go.Proofs.YtglgkdbhdjkeaaaGreatDoor
namespace Go.Proofs.YtglgkdbhdjkeaaaGreatDoor
open Go.RowKit

set_option maxRecDepth 100000 in
set_option maxHeartbeats 4000000 in
theorem rhas36_any (v : Value) (f : Flt) (serial : Int) (w : World) (hv : FltR w v f) (hW : W64 f.words) (hs : -9223372036854775808 ≤ serial ∧ serial ≤ 9223372036854775807) :
    Calls Tryz.prog 33 #[v, .int .i64 serial] w fun e w' => e = .returned (.bool (hasF f serial)) ∧ Below w.heap.size w w' := by
  obtain ⟨wv, rfl, hw⟩ := hv
  obtain ⟨wa, wcap, rfl, hwl, hwc, hwa⟩ := hw.form
  have HWS := Lib.hid hw
  have HW := Lib.hid hW
  have HSR := Lib.hid hs
  clear hw hW hs
  obtain ⟨r, er⟩ : ∃ r, r = hasF f serial := ⟨_, rfl⟩
  rw [← er]
  have ER := Lib.hid er
  clear er
  obtain ⟨W0, hW0⟩ : ∃ W0, W0 = w.alloc (.cells #[.int .i64 f.bits, .int .i64 f.hashes, .slice wa f.words.length wcap] 37) := ⟨_, rfl⟩
  obtain ⟨bf, ebf⟩ : ∃ bf, bf = w.heap.size := ⟨_, rfl⟩
  have hf0 : Fr [] w W0 := by rw [hW0]; exact (Fr.refl [] w).alloc _
  have hb0 : W0.heap[bf]? = some (.cells #[.int .i64 f.bits, .int .i64 f.hashes, .slice wa f.words.length wcap] 37 (0, 0)) := by rw [hW0, ebf]; exact heap_new rfl
  have c0 := row_cell hb0 0
  have c1 := row_cell hb0 1
  have c2 := row_cell hb0 2
  simp at c0 c1 c2
  rw [hW0, ebf] at c0 c1 c2
  go_enter Tryz.func33, Tryz.ntmps33
  go_wp2_with fail
  rw [← hW0, ← ebf]
  clear c0 c1 c2
  refine (rvalid36_any _ f W0 ⟨_, rfl, HWS.out.fr0 hf0⟩).mono ?_
  rintro e w1 ⟨rfl, hb1⟩
  have h1 : Fr [] w w1 := hf0.below hb1 hf0.size
  have hq0 := (Fr.ofBelow (X := []) hb1).at hb0 (by simp)
  have HQ0 := Lib.hid hq0
  clear hb1 hb0 hW0 hf0 ebf hq0
  obtain ⟨vo, evo⟩ : ∃ vo, vo = validF f := ⟨_, rfl⟩
  rw [← evo]
  have HVO := Lib.hid evo
  clear evo
  cases vo with
  | false =>
    have HR : Hid (r = false) := Lib.hid (by rw [ER.out]; unfold hasF; rw [← HVO.out]; rfl)
    go_wp2_with fail
    go_ret
    exact ⟨by rw [HR.out]; rfl, h1.toBelow (by simp)⟩
  | true =>
    obtain ⟨hform, hlen⟩ := validF_parts HVO.out.symm
    have hp := formF_parts hform
    have HLE := Lib.hid hlen
    obtain ⟨hn, ehn, hn8⟩ : ∃ hn : Nat, f.hashes = (hn : Int) ∧ hn ≤ 8 := ⟨f.hashes.toNat, by omega, by omega⟩
    have HP := Lib.hid hp
    rw [ehn] at HQ0
    have EHN := Lib.hid ehn
    have H1 := Lib.hid h1
    clear hform hlen hp ehn h1
    go_wp2_with fail
    go_loopg [5, 6] hn (fun gh i u wr => ∃ k : Nat, k ≤ hn ∧ gh = hn - k ∧ i = .int .i64 (k : Int) ∧ (∀ j, j < k → bitW f.words (posF serial f.bits j) = true) ∧ Fr [] w1 wr)
    case atStart => exact ⟨0, by omega, by omega, rfl, fun j hj => absurd hj (Nat.not_lt_zero _), Fr.refl _ _⟩
    case round =>
      obtain ⟨k, hk, hgh, rfl, hall, hfr⟩ := hrel
      have HG := Lib.hid hgh
      have HALL := Lib.hid hall
      clear hgh hall
      have hbr := hfr.at HQ0.out (by simp)
      have c0 := row_cell hbr 0
      have c1 := row_cell hbr 1
      have c2 := row_cell hbr 2
      simp at c0 c1 c2
      have HBR := Lib.hid hbr
      clear hbr
      by_cases hlt : k < hn
      · have t1 : decide ((k : Int) < (hn : Int)) = true := by simp; omega
        have HC := Lib.hid (rpos36_any serial f.bits k wr HSR.out (by omega) ⟨HP.out.1, HP.out.2.1⟩)
        have hpx := posF_lt serial (show 1 ≤ f.bits by have := HP.out; omega) k
        have hLE := HLE.out
        have hbits := HP.out.2.1
        have HBI : Hid (bitW f.words (posF serial f.bits k) = (f.words.getD (posF serial f.bits k / 64) 0).testBit (posF serial f.bits k % 64)) := Lib.hid rfl
        have HNEG : Hid (bitW f.words (posF serial f.bits k) = false → r = false) := Lib.hid (fun h => by
          rw [ER.out]
          unfold hasF hasW posL
          rw [List.all_eq_false.2 ⟨_, List.mem_map.2 ⟨k, List.mem_range.2 (by have := EHN.out; omega), rfl⟩, by rw [h]; simp⟩, Bool.and_false])
        have HPOS : Hid (bitW f.words (posF serial f.bits k) = true → ∀ j, j < k + 1 → bitW f.words (posF serial f.bits j) = true) := Lib.hid (fun h j hj => by
          rcases Nat.lt_or_ge j k with hj | hj2
          · exact HALL.out j hj
          · obtain rfl : j = k := by omega
            exact h)
        generalize bitW f.words (posF serial f.bits k) = bt at HBI HNEG HPOS
        generalize posF serial f.bits k = p at hpx HBI HC ⊢
        obtain ⟨i, j, hi, hj⟩ : ∃ i j, i = p / 64 ∧ j = p % 64 := ⟨_, _, rfl, rfl⟩
        rw [← hi, ← hj] at HBI
        have hil : i < f.words.length := by have := HP.out; omega
        have hj64 : j < 64 := by omega
        obtain ⟨b, off, rfl⟩ := hwa i hil
        have hX := HW.out.at i
        have e1 : (p : Int).tdiv 64 = (i : Int) := by rw [Int.tdiv_eq_ediv_of_nonneg (by omega)]; omega
        have e2 : (p : Int).tmod 64 = (j : Int) := by rw [Int.tmod_eq_emod_of_nonneg (by omega)]; omega
        have w1i : IntKind.i64.wrap (i : Int) = (i : Int) := IntWalk.i64_in _ (by omega)
        have w1j : IntKind.i64.wrap (j : Int) = (j : Int) := IntWalk.i64_in _ (by omega)
        have i0 : (0 : Int) ≤ (i : Int) := by omega
        have i1 : (i : Int) < (f.words.length : Int) := by omega
        clear hi hj hpx hLE
        go_wp2_with fail
        refine HC.out.mono ?_
        rintro e w2 ⟨rfl, hb2⟩
        have hfr2 := hfr.below hb2 hfr.size
        have cx : w2.cell? ⟨b, off + i, none⟩ = some (.int .u64 (f.words.getD i 0 : Nat)) := by
          rcases HWS.out with ⟨h0, _⟩ | ⟨b', off', cap', h0, _, _, _, h4⟩
          · exact absurd (congrArg List.length h0) (by simp only [List.length_nil]; omega)
          · cases h0; exact (H1.out.trans hfr2 (by simp)).cell (h4 i hil) (by simp)
        have hbr := (Fr.ofBelow (X := []) hb2).at HBR.out (by simp)
        clear c0 c1 c2 hb2
        have c2 := row_cell hbr 2
        simp at c2
        generalize f.words.getD i 0 = X at cx HBI hX
        have hb2 := bit_and X j hX
        rw [← HBI.out] at hb2
        clear hbr HBI hfr
        cases bt with
        | true =>
          rw [Bool.not_true] at hb2
          have HPO := Lib.hid (HPOS.out rfl)
          clear HPOS HNEG
          go_wp2_with fail
          go_roundg (hn - (k + 1))
          case measure => have := HG.out; omega
          case rel => exact ⟨k + 1, by omega, rfl, by go_num, HPO.out, hfr2⟩
        | false =>
          rw [Bool.not_false] at hb2
          have HN := Lib.hid (HNEG.out rfl)
          clear HPOS HNEG
          go_wp2_with fail
          go_ret
          exact ⟨by rw [HN.out]; rfl, (H1.out.trans hfr2 (by simp)).toBelow (by simp)⟩
      · obtain rfl : k = hn := by omega
        have t1 : decide ((k : Int) < (k : Int)) = false := by simp
        have HR : Hid (r = true) := Lib.hid (by
          rw [ER.out]
          unfold hasF hasW
          rw [← HVO.out, Bool.true_and, List.all_eq_true]
          intro n hn
          obtain ⟨j, hj, rfl⟩ := List.mem_map.1 hn
          exact HALL.out j (by have := List.mem_range.1 hj; have := EHN.out; omega))
        go_wp2_with fail
        go_ret
        exact ⟨by rw [HR.out]; rfl, (H1.out.trans hfr (by simp)).toBelow (by simp)⟩
end Go.Proofs.YtglgkdbhdjkeaaaGreatDoor
namespace Go.Proofs.YtglgkdbhdjkeaaaGreatDoor
open Go.RowKit

/-- What Make of the reference has set. -/
def accK (bits hashes : Int) (l : List Int) (n k : Nat) : List Nat := setsW (accF bits hashes (l.take n)) ((List.range k).map fun j => posF (l.getD n 0) bits j)
theorem accK_len (bits hashes : Int) (l : List Int) (n k : Nat) : (accK bits hashes l n k).length = (bits / 64).toNat := by
  unfold accK accF
  rw [setsW_len, setsW_len, List.length_replicate]
theorem accK_lt (bits hashes : Int) (l : List Int) (n k : Nat) : W64 (accK bits hashes l n k) := setsW_lt _ _ (setsW_lt _ _ (zeros_lt _))
theorem accK_zero (bits hashes : Int) (l : List Int) (n : Nat) : accK bits hashes l n 0 = accF bits hashes (l.take n) := rfl
theorem accK_succ (bits hashes : Int) (l : List Int) (n k : Nat) : accK bits hashes l n (k + 1) = setW (accK bits hashes l n k) (posF (l.getD n 0) bits k) := by
  unfold accK
  rw [List.range_succ, List.map_append, setsW_app]
  rfl
theorem accK_end (bits hashes : Int) (l : List Int) (n hn : Nat) (h : hashes = (hn : Int)) (hk : n < l.length) : accK bits hashes l n hn = accF bits hashes (l.take (n + 1)) := by
  rw [posA_snoc l bits hashes n hk]
  unfold accK
  congr 1
  refine List.ext_getElem (by simp [h]) (fun i h1 h2 => by simp)
structure RMk (w : World) (bf rb g q : Nat) (bits hashes : Int) (wr : World) (L : List Nat) : Prop where
  fr : Fr [] w wr
  r : wr.heap[rb]? = some (.cells #[.int .i64 0, .int .i64 0, .slice none 0 0] 37 (0, 0))
  f : wr.heap[bf]? = some (.cells #[.int .i64 bits, .int .i64 hashes, .slice (some ⟨g, 0, none⟩) q q] 37 (0, 0))
  o : OwnW w.heap.size wr (.slice (some ⟨g, 0, none⟩) q q) L
theorem RMk.fr0 {w A B : World} {bf rb g q : Nat} {bits hashes : Int} {L : List Nat} (h : RMk w bf rb g q bits hashes A L) (hf : Fr [] A B) : RMk w bf rb g q bits hashes B L :=
  ⟨h.fr.trans hf (by simp), hf.at h.r (by simp), hf.at h.f (by simp), h.o.fr hf (by simp)⟩
theorem RMk.set {w A : World} {bf rb g q : Nat} {bits hashes : Int} {L : List Nat} (h : RMk w bf rb g q bits hashes A L) (hl : L.length = q) (p : Nat) (x : Nat) (hx : x = L.getD (p / 64) 0 ||| 2 ^ (p % 64)) (hgr : g ≠ rb) (hgf : g ≠ bf) :
    RMk w bf rb g q bits hashes (A.setCell ⟨g, p / 64, none⟩ (.int .u64 (x : Int))) (setW L p) := by
  obtain ⟨cur, h1, hg, h3, h4, h5, h6⟩ := h.o.formN hl
  refine ⟨h.fr.setCell _ _ (by right; exact h1), heap_other h.r _ _ hgr, heap_other h.f _ _ hgf, ?_⟩
  unfold setW
  rw [hx]
  exact ownW_set h1 hg hl h3 h4 h5 h6 _

set_option maxRecDepth 100000 in
set_option maxHeartbeats 4000000 in
theorem rmake36_any (v : Value) (l : List Int) (bits hashes : Int) (w : World) (hv : Zs w v l) (hi : ∀ s ∈ l, -9223372036854775808 ≤ s ∧ s ≤ 9223372036854775807) :
    Calls Tryz.prog 38 #[v, .int .i64 bits, .int .i64 hashes] w (MakePost w l bits hashes) := by
  obtain ⟨la, lcap, rfl, hll, hlc, hla⟩ := hv.form
  have HV := Lib.hid hv
  have HI := Lib.hid hi
  clear hv hi
  obtain ⟨W0, hW0⟩ : ∃ W0, W0 = w.alloc (.cells #[.int .i64 0, .int .i64 0, .slice none 0 0] 37) := ⟨_, rfl⟩
  obtain ⟨rb, erb⟩ : ∃ rb, rb = w.heap.size := ⟨_, rfl⟩
  have h0 : Fr [] w W0 := by rw [hW0]; exact (Fr.refl [] w).alloc _
  have hr0 : W0.heap[rb]? = some (.cells #[.int .i64 0, .int .i64 0, .slice none 0 0] 37 (0, 0)) := by rw [hW0, erb]; exact heap_new rfl
  go_enter Tryz.func38, Tryz.ntmps38
  go_wp2_with fail
  rw [← hW0, ← erb]
  have ERB := Lib.hid erb
  clear hW0 erb
  refine (rform36_any bits hashes W0).mono ?_
  rintro e w1 ⟨rfl, rfl⟩
  obtain ⟨fo, efo⟩ : ∃ fo, fo = formF bits hashes := ⟨_, rfl⟩
  rw [← efo]
  have HF := Lib.hid efo
  clear efo
  cases fo with
  | false =>
    have c0 := row_cell hr0 0
    have c1 := row_cell hr0 1
    have c2 := row_cell hr0 2
    have d0 := row_free hr0 0
    have d1 := row_free hr0 1
    have d2 := row_free hr0 2
    simp at c0 c1 c2
    have hX : Fr [] w (((W0.setCell ⟨rb, 0, none⟩ (.int .i64 0)).setCell ⟨rb, 1, none⟩ (.int .i64 0)).setCell ⟨rb, 2, none⟩ (.slice none 0 0)) := h0.store3 rb (by right; simp [ERB.out]) _ _ _
    have HX := Lib.hid hX
    have HRX := Lib.hid (row_set (row_set (row_set hr0 0 (.int .i64 0)) 1 (.int .i64 0)) 2 (.slice none 0 0))
    clear hX hr0
    go_wp2_with fail
    have x0 := row_cell HRX.out 0
    have x1 := row_cell HRX.out 1
    have x2 := row_cell HRX.out 2
    simp at x0 x1 x2
    refine bodyPost_ret (v := .tuple #[zeroF, .int .i64 1]) ?_ rfl ⟨fun h => absurd (HF.out.trans h) (by decide), fun _ => rfl, HX.out.toBelow (by simp)⟩
    unfold zeroF
    rw [results_cell_tmp rfl]
    go_simp
  | true =>
    have hp := formF_parts HF.out.symm
    have HP := Lib.hid hp
    obtain ⟨q, eq, hq⟩ : ∃ q : Nat, bits / 64 = (q : Int) ∧ q ≤ 1000000 := ⟨(bits / 64).toNat, by omega, by omega⟩
    obtain ⟨hn, ehn, hn8⟩ : ∃ hn : Nat, hashes = (hn : Int) ∧ hn ≤ 8 := ⟨hashes.toNat, by omega, by omega⟩
    have e1 : bits.tdiv 64 = (q : Int) := by rw [Int.tdiv_eq_ediv_of_nonneg (by omega)]; exact eq
    have e2 : IntKind.i64.wrap (q : Int) = (q : Int) := IntWalk.i64_in _ (by omega)
    have EQ := Lib.hid eq
    have EHN := Lib.hid ehn
    have H0 := Lib.hid h0
    have HR0 := Lib.hid hr0
    clear hp eq h0 hr0 ehn
    obtain ⟨i0, hi0, hz0, hz1, hz2⟩ := info_parts wInfo
    go_wp2_with (at_make; go_loud (refine wpList_make_full _ rfl (.tmp 20) (.tmp 20) 35 rfl W0.heap.size 89 i0 (.int .u64 0) 1 Tryz.underlying35 hi0 hz0 hz1 .i64 .i64 (q : Int) (q : Int) q rfl rfl rfl rfl (by rw [hz2]; omega) (by unfold maxLen; omega) (Nat.le_refl _) ?_))
    intro w2 hown hgrow
    have hf2 : Fr [] W0 w2 := (Fr.refl [] W0).grown hgrow (fun r e => by cases e)
    have ho2 : OwnW W0.heap.size w2 (.slice (some ⟨W0.heap.size, 0, none⟩) q q) (List.replicate q 0) := by
      rw [toList_madeCells_one] at hown
      unfold OwnW
      rw [List.length_replicate, List.map_replicate]
      exact hown
    obtain ⟨g, eg⟩ : ∃ g, g = W0.heap.size := ⟨_, rfl⟩
    rw [← eg] at ho2 ⊢
    have HO2 := Lib.hid ho2
    clear hown hgrow hi0 hz0 hz1 hz2 ho2
    have EG := Lib.hid eg
    clear eg
    go_wp2_with fail
    obtain ⟨bf, ebf⟩ : ∃ bf, bf = w2.heap.size := ⟨_, rfl⟩
    obtain ⟨w3, hw3⟩ : ∃ w3, w3 = w2.alloc (.cells #[.int .i64 bits, .int .i64 hashes, .slice (some ⟨g, 0, none⟩) q q] 37) := ⟨_, rfl⟩
    have hgrb : g ≠ rb := by have := lt_of_block HR0.out; have := EG.out; omega
    have hgbf : g ≠ bf := by have := HO2.out.lt; omega
    have hqe : (bits / 64).toNat = q := by have := EQ.out; omega
    have HI3 : Hid (RMk w bf rb g q bits hashes w3 (accF bits hashes (l.take 0))) := Lib.hid (by
      have hf23 : Fr [] w2 w3 := by rw [hw3]; exact (Fr.refl [] w2).alloc _
      refine ⟨(H0.out.trans hf2 (by simp)).trans hf23 (by simp), hf23.at (hf2.at HR0.out (by simp)) (by simp), by rw [hw3, ebf]; exact heap_new rfl, ?_⟩
      rw [show accF bits hashes (l.take 0) = List.replicate q 0 by
        unfold accF
        rw [List.take_zero, hqe]
        rfl]
      have h2 := HO2.out.fr hf23 (by simp)
      rcases h2.form with ⟨h0, _⟩ | ⟨g', cap', cur, h0, hb, hgg, h3, h4, h5, h6⟩
      · cases h0
      · exact ⟨h2.1, Or.inr ⟨g', cap', cur, h0, by have := H0.out.size; have := EG.out; omega, hgg, h3, h4, by simpa using h5, by simpa using h6⟩⟩)
    rw [← hw3, ← ebf]
    clear hw3 ebf hf2
    have HGR := Lib.hid hgrb
    have HGF := Lib.hid hgbf
    clear hgrb hgbf
    go_loopg [9, 10, 11] l.length (fun gh i u1 u2 wr => ∃ n : Nat, n ≤ l.length ∧ gh = l.length - n ∧ i = .int .i64 (n : Int) ∧ RMk w bf rb g q bits hashes wr (accF bits hashes (l.take n)))
    case atStart => exact ⟨0, by omega, by omega, rfl, HI3.out⟩
    case round =>
      clear HI3
      obtain ⟨n, hnl, hgh, rfl, hI⟩ := hrel
      have HG := Lib.hid hgh
      have HRI := Lib.hid hI
      clear hgh hI
      by_cases hlt : n < l.length
      · have t1 : decide ((n : Int) < (l.length : Int)) = true := by simp; omega
        obtain ⟨b, off, rfl⟩ := hla n hlt
        have cs0 := (HV.out.fr0 HRI.out.fr).cell n hlt
        have HCS := Lib.hid (HV.out)
        have HSR := Lib.hid (HI.out _ (getD_mem l n 0 hlt))
        have HEND := Lib.hid (accK_end bits hashes l n hn EHN.out hlt)
        have HSU := Lib.hid (accK_succ bits hashes l n)
        have HKL := Lib.hid (accK_len bits hashes l n)
        have HKW := Lib.hid (accK_lt bits hashes l n)
        have HKZ := Lib.hid (accK_zero bits hashes l n)
        have HCELL : Hid (∀ W', Fr [] w W' → W'.cell? ⟨b, off + n, none⟩ = some (.int .i64 (l.getD n 0))) := Lib.hid (fun W' hf => (HV.out.fr0 hf).cell n hlt)
        generalize accK bits hashes l n = AK at HEND HSU HKL HKW HKZ
        generalize l.getD n 0 = s at HSR HSU HCELL
        clear cs0 HCS
        go_wp2_with fail
        go_loopg [10, 11] hn (fun gh i u wr => ∃ k : Nat, k ≤ hn ∧ gh = hn - k ∧ i = .int .i64 (k : Int) ∧ RMk w bf rb g q bits hashes wr (AK k))
        case atStart => exact ⟨0, by omega, by omega, rfl, by rw [HKZ.out]; exact HRI.out⟩
        case round =>
          clear HRI
          obtain ⟨k, hk, hgh, rfl, hI⟩ := hrel
          have HG2 := Lib.hid hgh
          have HRI := Lib.hid hI
          clear hgh hI
          by_cases hlt2 : k < hn
          · have t2 : decide ((k : Int) < hashes) = true := by have := EHN.out; simp; omega
            have i0 : (0 : Int) ≤ (n : Int) := by omega
            have i1 : (n : Int) < (l.length : Int) := by omega
            have cs := HCELL.out wr HRI.out.fr
            have HC := Lib.hid (rpos36_any s bits k wr HSR.out (by omega) ⟨HP.out.1, HP.out.2.1⟩)
            have hpx := posF_lt s (show 1 ≤ bits by have := HP.out; omega) k
            have hpb := HP.out.2.1
            have hpq := EQ.out
            have HS1 := Lib.hid (HSU.out k)
            have hL := HKL.out k
            have HW := Lib.hid (HKW.out k)
            generalize AK k = L at HRI HS1 hL HW
            generalize posF s bits k = p at hpx HS1 HC ⊢
            go_wp2_with fail
            refine HC.out.mono ?_
            rintro e w5 ⟨rfl, hb5⟩
            have HR5 := Lib.hid (HRI.out.fr0 (Fr.ofBelow hb5))
            clear cs hb5 HRI HC
            obtain ⟨cur, h1, hg, h3, h4, h5, h6⟩ := HR5.out.o.formN (by omega)
            obtain ⟨i, j, hi, hj⟩ : ∃ i j, i = p / 64 ∧ j = p % 64 := ⟨_, _, rfl, rfl⟩
            have e1p : (p : Int).tdiv 64 = (i : Int) := by rw [Int.tdiv_eq_ediv_of_nonneg (by omega)]; omega
            have e2p : (p : Int).tmod 64 = (j : Int) := by rw [Int.tmod_eq_emod_of_nonneg (by omega)]; omega
            have w1 : IntKind.i64.wrap (i : Int) = (i : Int) := IntWalk.i64_in _ (by omega)
            have w2 : IntKind.i64.wrap (j : Int) = (j : Int) := IntWalk.i64_in _ (by omega)
            have hj64 : j < 64 := by omega
            have hiq : i < q := by have := HP.out.2.2.1; omega
            obtain ⟨x, hx⟩ : ∃ x, x = L.getD i 0 := ⟨_, rfl⟩
            have hx64 : x < 18446744073709551616 := by rw [hx]; exact HW.out.at i
            have cf : w5.drew.cell? ⟨bf, 2, none⟩ = some (.slice (some ⟨g, 0, none⟩) q q) := by
              have : w5.drew.heap[bf]? = _ := HR5.out.f
              rw [row_cell this 2]; rfl
            have cq : w5.drew.cell? ⟨g, i, none⟩ = some (.int .u64 (x : Int)) := by
              have h7 : w5.drew.heap[g]? = _ := hg
              rw [row_cell h7 i, hx]
              exact wrdV_at h6 (by omega) i (by omega)
            have fq : w5.drew.frozen? ⟨g, i, none⟩ = false := row_free (show w5.drew.heap[g]? = _ from hg) i
            have j0 : (0 : Int) ≤ (i : Int) := by omega
            have j1 : (i : Int) < (q : Int) := by omega
            have HV2 : Hid (Go.bits .or .u64 (x : Int) (IntKind.u64.wrap (2 ^ j)) = ((x ||| 2 ^ j : Nat) : Int)) := Lib.hid (by
              have hp : 2 ^ j < 18446744073709551616 := Nat.lt_of_lt_of_le (Nat.pow_lt_pow_right (by decide) hj64) (by decide)
              rw [show ((2 : Int) ^ j) = ((2 ^ j : Nat) : Int) by simp]
              generalize 2 ^ j = p at hp ⊢
              rw [show IntKind.u64.wrap (p : Int) = (p : Int) by rw [IntKind.wrap_u64]; omega]
              exact u64_or_nat _ _ hx64 hp)
            have HRS : Hid (RMk w bf rb g q bits hashes ((w5.setCell ⟨g, i, none⟩ (.int .u64 ((x ||| 2 ^ j : Nat) : Int))).drew) (AK (k + 1))) := Lib.hid (by
              rw [HS1.out, hi]
              exact (HR5.out.set (by omega) p _ (by rw [hx, hi, hj]) HGR.out HGF.out).fr0 ((Fr.refl [] _).drew))
            clear hx hi hj h1 hg h3 h4 h5 h6 hpx hL hpq hpb
            go_wp2_with fail
            go_region
            all_goals
              rw [HV2.out]
              go_wp2_with fail
              go_roundg (hn - (k + 1))
              case measure => have := HG2.out; omega
              case rel => exact ⟨k + 1, by omega, rfl, by go_num, HRS.out⟩
          · obtain rfl : k = hn := by omega
            have t2 : decide ((k : Int) < hashes) = false := by have := EHN.out; simp; omega
            go_wp2_with fail
            go_roundg (l.length - (n + 1))
            case measure => have := HG.out; omega
            case rel => exact ⟨n + 1, by omega, rfl, by go_num, by rw [← HEND.out]; exact HRI.out⟩
      · obtain rfl : n = l.length := by omega
        have t1 : decide ((l.length : Int) < (l.length : Int)) = false := by simp
        have HTA : Hid (accF bits hashes (l.take l.length) = makeF l bits hashes) := Lib.hid (by rw [List.take_length]; rfl)
        rw [HTA.out] at HRI
        have hbf := HRI.out.f
        have hrb := HRI.out.r
        have c0 := row_cell hbf 0
        have c1 := row_cell hbf 1
        have c2 := row_cell hbf 2
        have k0 := row_cell hrb 0
        have k1 := row_cell hrb 1
        have k2 := row_cell hrb 2
        have d0 := row_free hrb 0
        have d1 := row_free hrb 1
        have d2 := row_free hrb 2
        simp at c0 c1 c2 k0 k1 k2
        have HX := Lib.hid (HRI.out.fr.store3 rb (by right; simp [ERB.out]) (.int .i64 bits) (.int .i64 hashes) (.slice (some ⟨g, 0, none⟩) q q))
        have HRX := Lib.hid (row_set (row_set (row_set hrb 0 (.int .i64 bits)) 1 (.int .i64 hashes)) 2 (.slice (some ⟨g, 0, none⟩) q q))
        have HOX : Hid (OwnW w.heap.size (((wr.setCell ⟨rb, 0, none⟩ (.int .i64 bits)).setCell ⟨rb, 1, none⟩ (.int .i64 hashes)).setCell ⟨rb, 2, none⟩ (.slice (some ⟨g, 0, none⟩) q q)) (.slice (some ⟨g, 0, none⟩) q q) (makeF l bits hashes)) := Lib.hid (HRI.out.o.fr ((Fr.refl [rb] wr).store3 rb (by simp) _ _ _) (by intro k hk; simp [Value.ownBlock] at hk; have := HGR.out; simp; omega))
        clear hbf hrb
        go_wp2_with fail
        have x0 := row_cell HRX.out 0
        have x1 := row_cell HRX.out 1
        have x2 := row_cell HRX.out 2
        simp at x0 x1 x2
        refine bodyPost_ret (v := .tuple #[.agg #[.int .i64 bits, .int .i64 hashes, .slice (some ⟨g, 0, none⟩) q q], .int .i64 0]) ?_ rfl ⟨fun _ => ⟨_, rfl, HOX.out⟩, fun h => absurd (HF.out.trans h) (by decide), HX.out.toBelow (by simp)⟩
        rw [results_cell_tmp rfl]
        go_simp
end Go.Proofs.YtglgkdbhdjkeaaaGreatDoor
namespace Go.Proofs.YtglgkdbhdjkeaaaGreatDoor
open Go.RowKit

theorem ws_one {W : World} {b x : Nat} {t : TypeId} (h : W.heap[b]? = some (.cells #[.int .u64 (x : Int)] t (0, 0))) : Ws W (.slice (some ⟨b, 0, none⟩) 1 1) [x] := by
  refine Or.inr ⟨b, 0, 1, rfl, by simp, by decide, lt_of_block h, fun i hi => ?_⟩
  rw [Nat.zero_add, row_cell h i]
  match i, hi with
  | 0, _ => rfl
  | i + 1, hi => simp at hi
end Go.Proofs.YtglgkdbhdjkeaaaGreatDoor
namespace Go.Proofs.YtglgkdbhdjkeaaaGreatDoor
open Go.RowKit

theorem ba_wordF (a b : List UInt8) : (⟨a.toArray⟩ : ByteArray) ++ ⟨#[32]⟩ ++ ⟨b.toArray⟩ = ⟨(a ++ 32 :: b).toArray⟩ := by
  apply ByteArray.ext
  simp
/-- The first words of a filter's text. -/
def wordsK (f : Flt) (k : Nat) : List (List UInt8) := Lib.itoa f.bits :: Lib.itoa f.hashes :: (f.words.take k).map hexS
theorem wordsK_all (f : Flt) : wordsK f f.words.length = wordsF f := by unfold wordsK wordsF; rw [List.take_length]
theorem wordsK_succ (f : Flt) (k : Nat) (hk : k < f.words.length) : wordsK f (k + 1) = wordsK f k ++ [hexS (f.words.getD k 0)] := by
  unfold wordsK
  rw [take_snoc' f.words k 0 hk, List.map_append]; rfl
theorem wordsK_len (f : Flt) (hb : -9223372036854775808 ≤ f.bits ∧ f.bits ≤ 9223372036854775807) (hh : -9223372036854775808 ≤ f.hashes ∧ f.hashes ≤ 9223372036854775807) (k : Nat) (hk : k ≤ 2000) : (spS (wordsK f k)).length ≤ 100000 := by
  have h1 := spS_len (wordsK f k) 21 (fun w hw => by
    unfold wordsK at hw
    rcases List.mem_cons.1 hw with rfl | hw
    · exact Lib.itoa_length_le _ (by omega) (by omega)
    · rcases List.mem_cons.1 hw with rfl | hw
      · exact Lib.itoa_length_le _ (by omega) (by omega)
      · obtain ⟨x, _, rfl⟩ := List.mem_map.1 hw
        rw [hexS_length]; decide)
  have h2 : (wordsK f k).length ≤ 2002 := by unfold wordsK; simp only [List.length_cons, List.length_map, List.length_take]; omega
  have h3 : (wordsK f k).length * (21 + 1) ≤ 2002 * 22 := Nat.mul_le_mul_right _ h2
  omega
end Go.Proofs.YtglgkdbhdjkeaaaGreatDoor
