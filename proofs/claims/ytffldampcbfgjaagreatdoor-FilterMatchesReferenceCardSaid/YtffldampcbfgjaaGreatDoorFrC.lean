/-
  foyerlaw36.small.
  Plain law: what the reference of layer 36 reads from a text, with each length of the first number.
  The reference of layer 36: digit, hex.
  The reference of layer 36: form, Valid, Same.
  Plain law: filters that are joined.
  The reference of layer 36: Has.
  The reference of layer 36: Make.
  The reference of layer 36: Join.
  foyerref36.Text.
-/
import Derived.Test.YtffldampcbfgjaaGreatDoorFlJ
import Derived.Test.YtffldampcbfgjaaGreatDoorPlnFt
import Derived.Test.YtffldampcbfgjaaGreatDoorPlnSq
import Derived.Test.YtffldampcbfgjaaGreatDoorRefB
import Derived.Test.YtffldampcbfgjaaGreatDoorFrA
import Derived.BigRegion
import Derived.Test.YtffldampcbfgjaaGreatDoorFlH
namespace Go.Proofs.YtffldampcbfgjaaGreatDoor
open Go.RowKit

/-- A slice of slices of ints, read by the lengths of its elements. -/
def Rows (w : World) (v : Value) (L : List Nat) : Prop :=
  (v = .slice none 0 0 ∧ L = []) ∨ ∃ b off cap, v = .slice (some ⟨b, off, none⟩) L.length cap ∧ L.length ≤ cap ∧ cap ≤ 9223372036854775807 ∧
    ∀ i, i < L.length → ∃ a c, w.cell? ⟨b, off + i, none⟩ = some (.slice a (L.getD i 0) c)
def smallF (f : Flt) (L : List Nat) : Bool := L.all (fun n => decide (n ≤ 60)) && decide (f.words.length ≤ 100)
set_option maxRecDepth 100000 in
set_option maxHeartbeats 4000000 in
theorem small_any (v lv : Value) (f : Flt) (L : List Nat) (w : World) (hv : FltR w v f) (hL : Rows w lv L) :
    Calls Tryz.prog 12 #[v, lv] w fun e w' => e = .returned (.bool (smallF f L)) ∧ Below w.heap.size w w' := by
  obtain ⟨v1, rfl, hw1⟩ := hv
  obtain ⟨a1, cap1, rfl, hl1, hc1, hf1⟩ := hw1.form
  obtain ⟨la, lcap, rfl, hlc, hlc9, hla⟩ : ∃ a c, lv = .slice a L.length c ∧ L.length ≤ c ∧ c ≤ 9223372036854775807 ∧ ∀ i, i < L.length → ∃ b off, a = some ⟨b, off, none⟩ ∧ ∃ x y, w.cell? ⟨b, off + i, none⟩ = some (.slice x (L.getD i 0) y) := by
    rcases hL with ⟨rfl, rfl⟩ | ⟨b, off, cap, rfl, h1, h2, h3⟩
    · exact ⟨none, 0, rfl, by simp, by simp, fun i hi => absurd hi (by simp)⟩
    · exact ⟨_, cap, rfl, h1, h2, fun i hi => ⟨b, off, rfl, h3 i hi⟩⟩
  clear hL hw1
  obtain ⟨r, er⟩ : ∃ r, r = smallF f L := ⟨_, rfl⟩
  rw [← er]
  have ER := Lib.hid er
  clear er
  obtain ⟨W0, hW0⟩ : ∃ W0, W0 = w.alloc (.cells #[.int .i64 f.bits, .int .i64 f.hashes, .slice a1 f.words.length cap1] 25) := ⟨_, rfl⟩
  obtain ⟨p, ep⟩ : ∃ p, p = w.heap.size := ⟨_, rfl⟩
  have h0 : Fr [] w W0 := by rw [hW0]; exact (Fr.refl [] w).alloc _
  have hp0 : W0.heap[p]? = some (.cells #[.int .i64 f.bits, .int .i64 f.hashes, .slice a1 f.words.length cap1] 25 (0, 0)) := by rw [hW0, ep]; exact heap_new rfl
  go_enter Tryz.func12, Tryz.ntmps12
  go_wp2_with fail
  rw [← hW0, ← ep]
  clear hW0 ep
  go_loopg [5] L.length (fun gh i wr => ∃ k : Nat, k ≤ L.length ∧ gh = L.length - k ∧ i = .int .i64 (k : Int) ∧ (∀ j, j < k → L.getD j 0 ≤ 60) ∧ W0 = wr)
  case atStart => exact ⟨0, by omega, by omega, rfl, fun j hj => absurd hj (by omega), rfl⟩
  case round =>
    obtain ⟨k, hk, hgh, rfl, hall, rfl⟩ := hrel
    have HG := Lib.hid hgh
    have HA := Lib.hid hall
    clear hgh hall
    by_cases hlt : k < L.length
    · have t1 : decide ((k : Int) < (L.length : Int)) = true := by simp; omega
      obtain ⟨b, off, rfl, x, y, hc⟩ := hla k hlt
      have hc := h0.cell hc (by simp)
      have HBIG : Hid (60 < L.getD k 0 → r = false) := Lib.hid (fun h => by
        rw [ER.out]; unfold smallF
        rw [List.all_eq_false.2 ⟨_, getD_mem L k 0 hlt, by simpa using h⟩]; rfl)
      have HOK : Hid (L.getD k 0 ≤ 60 → ∀ j, j < k + 1 → L.getD j 0 ≤ 60) := Lib.hid (fun h j hj => by
        by_cases hjk : j < k
        · exact HA.out j hjk
        · obtain rfl : j = k := by omega
          exact h)
      generalize L.getD k 0 = n at hc HBIG HOK
      have i0 : (0 : Int) ≤ (k : Int) := by omega
      have i1 : (k : Int) < (L.length : Int) := by omega
      by_cases hn : 60 < n
      · have t2 : decide ((60 : Int) < (n : Int)) = true := decide_eq_true (by omega)
        have HR := Lib.hid (HBIG.out hn)
        go_wp2_with fail
        go_ret
        exact ⟨by rw [HR.out]; rfl, h0.toBelow (by simp)⟩
      · have t2 : decide ((60 : Int) < (n : Int)) = false := decide_eq_false (by omega)
        have HR := Lib.hid (HOK.out (by omega))
        go_wp2_with fail
        go_roundg (L.length - (k + 1))
        case measure => have := HG.out; omega
        case rel => exact ⟨k + 1, by omega, rfl, by go_num, HR.out, rfl⟩
    · obtain rfl : k = L.length := by omega
      have t1 : decide ((L.length : Int) < (L.length : Int)) = false := by simp
      have HR : Hid (r = decide ((f.words.length : Int) ≤ 100)) := Lib.hid (by
        rw [ER.out]; unfold smallF
        rw [List.all_eq_true.2 (fun n hn => by
          obtain ⟨j, hj, rfl⟩ := List.getElem_of_mem hn
          have := HA.out j hj
          rw [List.getD_eq_getElem?_getD, List.getElem?_eq_getElem hj] at this
          simpa using this), Bool.true_and, decide_eq_decide]
        omega)
      have c2 := row_cell hp0 2
      simp at c2
      go_wp2_with fail
      go_ret
      exact ⟨by rw [HR.out]; first | rfl | simp, h0.toBelow (by simp)⟩
end Go.Proofs.YtffldampcbfgjaaGreatDoor
namespace Go.Proofs.YtffldampcbfgjaaGreatDoor
open Go.RowKit

/-- The value of a digit; 16 for another byte. -/
def digG (c : UInt8) : Nat := if hexC c then hexN c else 16
theorem digG_le (c : UInt8) : digG c ≤ 16 := by
  have h : ∀ n : Fin 256, digG (UInt8.ofNat n.val) ≤ 16 := by decide +kernel
  simpa using h ⟨c.toNat, c.toNat_lt⟩
theorem digG_dec (d : Nat) (h : d < 10) : digG (decC d) = d := by
  have h1 : ∀ d, d < 10 → digG (decC d) = d := by decide
  exact h1 d h
theorem digG_hexd (d : Nat) (h : d < 16) : digG (UInt8.ofNat (hexd d)) = d := by
  have h1 : ∀ d, d < 16 → digG (UInt8.ofNat (hexd d)) = d := by decide
  exact h1 d h
theorem digG_ten (c : UInt8) (h1 : 48 ≤ c.toNat) (h2 : c.toNat ≤ 57) : digG c = c.toNat - 48 := by
  have h : ∀ n : Fin 256, 48 ≤ n.val → n.val ≤ 57 → digG (UInt8.ofNat n.val) = n.val - 48 := by decide +kernel
  simpa using h ⟨c.toNat, c.toNat_lt⟩ h1 h2
theorem digG_af (c : UInt8) (h1 : 97 ≤ c.toNat) (h2 : c.toNat ≤ 102) : digG c = c.toNat - 97 + 10 := by
  have h : ∀ n : Fin 256, 97 ≤ n.val → n.val ≤ 102 → digG (UInt8.ofNat n.val) = n.val - 97 + 10 := by decide +kernel
  simpa using h ⟨c.toNat, c.toNat_lt⟩ h1 h2
theorem digG_no (c : UInt8) (h : c.toNat < 48 ∨ (57 < c.toNat ∧ c.toNat < 97) ∨ 102 < c.toNat) : digG c = 16 := by
  have h' : ∀ n : Fin 256, (n.val < 48 ∨ (57 < n.val ∧ n.val < 97) ∨ 102 < n.val) → digG (UInt8.ofNat n.val) = 16 := by decide +kernel
  simpa using h' ⟨c.toNat, c.toNat_lt⟩ h
/-- The number that some bytes spell. -/
def dgV (l : List UInt8) : Nat := l.foldl (fun a c => a * 10 + digG c) 0
theorem dgV_snoc (l : List UInt8) (k : Nat) (hk : k < l.length) : dgV (l.take (k + 1)) = dgV (l.take k) * 10 + digG (l.getD k 0) := by
  rw [take_snoc' l k 0 hk]
  unfold dgV
  rw [List.foldl_append]; rfl
theorem dgV_lt (l : List UInt8) : ∀ k, k ≤ l.length → dgV (l.take k) + 2 ≤ 2 * 10 ^ k
  | 0, _ => by simp [dgV]
  | k + 1, h => by
    have h1 := dgV_lt l k (by omega)
    have h2 := digG_le (l.getD k 0)
    rw [dgV_snoc l k (by omega), Nat.pow_succ]
    omega
theorem dgV_dec (n : Nat) : dgV (Lib.decDigits n) = n := by
  have h1 : ∀ (l : List UInt8) (a : Nat), (∀ c ∈ l, 48 ≤ c.toNat ∧ c.toNat ≤ 57) → l.foldl (fun a c => a * 10 + digG c) a = l.foldl decF a := by
    intro l
    induction l with
    | nil => intro a _; rfl
    | cons c t ih =>
      intro a h
      have hc := h c (by simp)
      rw [List.foldl_cons, List.foldl_cons, digG_ten c hc.1 hc.2, ih _ (fun x hx => h x (by simp [hx]))]
      rfl
  unfold dgV
  rw [h1 _ 0 (dec_chars n)]
  exact dec_fold n
/-- The word that some bytes spell. -/
def wV (l : List UInt8) : Nat := l.foldl (fun a c => (a * 16 + digG c) % 18446744073709551616) 0
theorem wV_snoc (l : List UInt8) (k : Nat) (hk : k < l.length) : wV (l.take (k + 1)) = (wV (l.take k) * 16 + digG (l.getD k 0)) % 18446744073709551616 := by
  rw [take_snoc' l k 0 hk]
  unfold wV
  rw [List.foldl_append]; rfl
theorem wV_lt (l : List UInt8) : wV l < 18446744073709551616 := by
  have h : ∀ (l : List UInt8) (a : Nat), a < 18446744073709551616 → l.foldl (fun a c => (a * 16 + digG c) % 18446744073709551616) a < 18446744073709551616 := by
    intro l
    induction l with
    | nil => intro a h; exact h
    | cons c t ih => intro a _; exact ih _ (Nat.mod_lt _ (by decide))
  exact h l 0 (by decide)
theorem wV_hexS (x : Nat) (hx : x < 18446744073709551616) : wV (hexS x) = x := by
  have h : ∀ (l : List UInt8) (a : Nat), (∀ c ∈ l, digG c = hexN c) → l.foldl (fun a c => (a * 16 + digG c) % 18446744073709551616) (a % 18446744073709551616) = l.foldl (fun a c => a * 16 + hexN c) a % 18446744073709551616 := by
    intro l
    induction l with
    | nil => intro a _; rfl
    | cons c t ih =>
      intro a h
      rw [List.foldl_cons, List.foldl_cons, h c (by simp), ← ih _ (fun y hy => h y (by simp [hy]))]
      congr 1
      omega
  have h2 := h (hexS x) 0 (fun c hc => by
    obtain ⟨i, _, rfl⟩ := List.mem_map.1 hc
    rw [digG_hexd _ (Nat.mod_lt _ (by decide)), hexN_hexd _ (Nat.mod_lt _ (by decide))])
  have h3 : hexV (hexS x) = x := hexV_hexS x hx
  unfold hexV at h3
  rw [h3, Nat.mod_eq_of_lt hx] at h2
  exact h2
/-- The bits that a text begins with, if they have n digits. -/
def bitsT (text : List UInt8) (n : Nat) : Nat := dgV (text.take n)
def restT (text : List UInt8) (n : Nat) : List UInt8 := text.drop (n + 2)
def wordT (text : List UInt8) (n i : Nat) : List UInt8 := ((restT text n).drop (17 * i + 1)).take 16
/-- The filter of a text, if its first number has n digits. -/
def tryF (text : List UInt8) (n : Nat) : Flt := ⟨(bitsT text n : Int), (digG (text.getD (n + 1) 0) : Int), (List.range (bitsT text n / 64)).map fun i => wV (wordT text n i)⟩
def okT (text : List UInt8) (n : Nat) : Prop := formF (bitsT text n : Int) (digG (text.getD (n + 1) 0) : Int) = true ∧ (restT text n).length = 17 * (bitsT text n / 64)
theorem tryF_W64 (text : List UInt8) (n : Nat) : W64 (tryF text n).words := by
  intro x hx
  obtain ⟨i, _, rfl⟩ := List.mem_map.1 hx
  exact Nat.lt_of_lt_of_le (wV_lt _) (by decide)
theorem tryF_valid {text : List UInt8} {n : Nat} (h : okT text n) : validF (tryF text n) = true := by
  unfold validF tryF
  simp only [Bool.and_eq_true, decide_eq_true_eq, List.length_map, List.length_range]
  exact ⟨h.1, by omega⟩
theorem dec_len_of (k u : Nat) (h : u < 10 ^ (k + 1)) : (Lib.decDigits u).length ≤ k + 1 := by
  induction k generalizing u with
  | zero => rw [dec_small u (by simpa using h)]; simp
  | succ k ih =>
    by_cases h10 : u < 10
    · rw [dec_small u h10]; simp
    · rw [dec_step u (by omega), List.length_append]
      have := ih (u / 10) (by rw [Nat.pow_succ] at h; omega)
      simp only [List.length_cons, List.length_nil]
      omega
theorem dec_len_two (u : Nat) (h : 10 ≤ u) : 2 ≤ (Lib.decDigits u).length := by
  rw [dec_step u h, List.length_append]
  have := List.length_pos_iff.2 (dec_nonempty (u / 10))
  simp only [List.length_cons, List.length_nil]
  omega
theorem sp_flat : ∀ (l : List (List UInt8)), l ≠ [] → (32 : UInt8) :: spS l = l.flatMap (fun x => 32 :: x)
  | [], h => absurd rfl h
  | [x], _ => by simp [spS]
  | x :: y :: l, _ => by
    rw [spS_cons2, sp_flat (y :: l) (by simp), List.flatMap_cons]
    rfl
theorem flat_len : ∀ (W : List Nat), ((W.map hexS).flatMap (fun x => (32 : UInt8) :: x)).length = 17 * W.length
  | [] => rfl
  | x :: W => by
    rw [List.map_cons, List.flatMap_cons, List.length_append, flat_len W, List.length_cons, hexS_length, List.length_cons]
    omega
theorem flat_word : ∀ (W : List Nat) (i : Nat), i < W.length → ((((W.map hexS).flatMap (fun x => (32 : UInt8) :: x)).drop (17 * i + 1)).take 16) = hexS (W.getD i 0)
  | [], i, h => absurd h (by simp)
  | x :: W, 0, _ => by
    rw [List.map_cons, List.flatMap_cons]
    simp only [Nat.mul_zero, Nat.zero_add, List.cons_append, List.drop_succ_cons, List.drop_zero]
    rw [List.take_append_of_le_length (by rw [hexS_length]; exact Nat.le_refl _), List.take_of_length_le (by rw [hexS_length]; exact Nat.le_refl _)]
    simp
  | x :: W, i + 1, h => by
    rw [List.map_cons, List.flatMap_cons, List.drop_append, List.drop_eq_nil_of_le (by rw [List.length_cons, hexS_length]; omega), List.nil_append, List.length_cons, hexS_length,
      show 17 * (i + 1) + 1 - (16 + 1) = 17 * i + 1 by omega, flat_word W i (by simpa using h)]
    simp
/-- A text of a filter is read at the length of its first number. -/
theorem try_text {text : List UInt8} {g : Flt} (h : IsTextF text g) : ∃ n, 2 ≤ n ∧ n ≤ 5 ∧ n + 2 ≤ text.length ∧ okT text n ∧ tryF text n = g := by
  obtain ⟨hv, hW, ht⟩ := h
  obtain ⟨hf, hl⟩ := validF_parts hv
  have hp := formF_parts hf
  have hne : g.words.map hexS ≠ [] := by
    intro h0
    have := congrArg List.length h0
    rw [List.length_map] at this
    simp at this
    rw [this] at hl
    simp at hl
    omega
  have e1 : Lib.itoa g.bits = Lib.decDigits g.bits.toNat := by unfold Lib.itoa; rw [if_neg (by omega)]
  have e2 : Lib.itoa g.hashes = [decC g.hashes.toNat] := by
    unfold Lib.itoa
    rw [if_neg (by omega), dec_small _ (by omega), Nat.mod_eq_of_lt (by omega)]
  obtain ⟨D, hD⟩ : ∃ D, D = Lib.decDigits g.bits.toNat := ⟨_, rfl⟩
  have hDl : 2 ≤ D.length ∧ D.length ≤ 5 := by
    rw [hD]
    exact ⟨dec_len_two _ (by omega), dec_len_of 4 _ (by omega)⟩
  obtain ⟨R, hR⟩ : ∃ R, R = (g.words.map hexS).flatMap (fun x => (32 : UInt8) :: x) := ⟨_, rfl⟩
  have htx : text = D ++ 32 :: decC g.hashes.toNat :: R := by
    rw [← ht]
    unfold textF
    rw [if_pos hv]
    unfold wordsF
    obtain ⟨a, l, hal⟩ := List.exists_cons_of_ne_nil hne
    rw [e1, e2, hR, ← sp_flat _ hne, hal, spS_cons2, spS_cons2, hD]
    rfl
  have hRl : R.length = 17 * g.words.length := by rw [hR, flat_len]
  have b1 : bitsT text D.length = g.bits.toNat := by
    unfold bitsT
    rw [htx, List.take_append_of_le_length (Nat.le_refl _), List.take_length, hD, dgV_dec]
  have b2 : digG (text.getD (D.length + 1) 0) = g.hashes.toNat := by
    rw [htx, List.getD_eq_getElem?_getD, List.getElem?_append_right (by omega), show D.length + 1 - D.length = 1 by omega]
    simp only [List.getElem?_cons_succ, List.getElem?_cons_zero, Option.getD_some]
    exact digG_dec _ (by omega)
  have b3 : restT text D.length = R := by
    unfold restT
    rw [htx, List.drop_append, List.drop_eq_nil_of_le (by omega), show D.length + 2 - D.length = 2 by omega]
    rfl
  have hwl : g.bits.toNat / 64 = g.words.length := by omega
  refine ⟨D.length, hDl.1, hDl.2, by rw [htx]; simp, ⟨?_, by rw [b3, hRl, b1, hwl]⟩, ?_⟩
  · rw [b1, b2, show ((g.bits.toNat : Nat) : Int) = g.bits by omega, show ((g.hashes.toNat : Nat) : Int) = g.hashes by omega]
    exact hf
  · refine Flt.ext' (by show ((bitsT text D.length : Nat) : Int) = g.bits; rw [b1]; omega) (by show ((digG _ : Nat) : Int) = g.hashes; rw [b2]; omega) ?_
    show (List.range (bitsT text D.length / 64)).map _ = g.words
    rw [b1, hwl]
    refine List.ext_getElem (by simp) (fun i h1 h2 => ?_)
    rw [List.getElem_map, List.getElem_range]
    unfold wordT
    rw [b3, hR, flat_word _ _ h2, wV_hexS _ (Nat.lt_of_lt_of_le (hW.at i) (by decide)), List.getD_eq_getElem?_getD, List.getElem?_eq_getElem h2]
    rfl
/-- The first length that fits is the one. -/
theorem parsed_try {text : List UInt8} {n : Nat} (h : okT text n) (ht : textF (tryF text n) = text) : ParsedF text (some (tryF text n)) := parsed_some ⟨tryF_valid h, tryF_W64 text n, ht⟩
def noneT (text : List UInt8) (n : Nat) : Prop := ∀ m, 2 ≤ m → m < n → m + 2 ≤ text.length → ¬ (okT text m ∧ textF (tryF text m) = text)
theorem parsed_no {text : List UInt8} {n : Nat} (h : noneT text n) (hn : 6 ≤ n ∨ text.length < n + 2) : ParsedF text none := parsed_none (fun g hg => by
  obtain ⟨m, h1, h2, h3, h4, h5⟩ := try_text hg
  refine h m h1 (by omega) h3 ⟨h4, ?_⟩
  rw [h5]
  exact hg.2.2)
end Go.Proofs.YtffldampcbfgjaaGreatDoor
namespace Go.Proofs.YtffldampcbfgjaaGreatDoor
open Go.RowKit

set_option maxRecDepth 100000 in
set_option maxHeartbeats 1000000 in
theorem rdig36_any (c : UInt8) (w : World) :
    Calls Tryz.prog 51 #[.int .u8 (c.toNat : Int)] w fun e w' => e = .returned (.int .i64 (digG c : Nat)) ∧ w = w' := by
  have hc : c.toNat < 256 := c.toNat_lt
  have HA := Lib.hid (digG_ten c)
  have HB := Lib.hid (digG_af c)
  have HC := Lib.hid (digG_no c)
  generalize c.toNat = n at hc HA HB HC ⊢
  rcases (show (48 ≤ n ∧ n ≤ 57) ∨ (97 ≤ n ∧ n ≤ 102) ∨ n < 48 ∨ (57 < n ∧ n < 97) ∨ 102 < n by omega) with ⟨h1, h2⟩ | ⟨h1, h2⟩ | h1 | ⟨h1, h2⟩ | h1
  · have w1 : IntKind.u8.wrap ((n : Int) - 48) = (n : Int) - 48 := by rw [IntKind.wrap_u8']; omega
    have HX : Hid ((digG c : Int) = (n : Int) - 48) := Lib.hid (by have := HA.out h1 h2; omega)
    go_enter Tryz.func51, Tryz.ntmps51
    go_wp2_with fail
    go_ret
    exact ⟨by rw [HX.out]; rfl, rfl⟩
  · have w1 : IntKind.u8.wrap ((n : Int) - 97) = (n : Int) - 97 := by rw [IntKind.wrap_u8']; omega
    have HX : Hid ((digG c : Int) = (n : Int) - 97 + 10) := Lib.hid (by have := HB.out h1 h2; omega)
    go_enter Tryz.func51, Tryz.ntmps51
    go_wp2_with fail
    go_ret
    exact ⟨by rw [HX.out]; rfl, rfl⟩
  all_goals
    go_enter Tryz.func51, Tryz.ntmps51
    go_wp2_with fail
    go_ret
    exact ⟨by rw [HC.out (by omega)]; rfl, rfl⟩

/-- The first digits of a word. -/
def hexP (x k : Nat) : List UInt8 := (hexS x).take k
theorem hexP_snoc (x k : Nat) (h : k < 16) : hexP x (k + 1) = hexP x k ++ [UInt8.ofNat (hexd (x / 2 ^ (60 - 4 * k) % 16))] := by
  unfold hexP
  rw [take_snoc' _ k 0 (by rw [hexS_length]; exact h)]
  congr 2
  unfold hexS
  rw [List.getD_eq_getElem?_getD, List.getElem?_map, List.getElem?_range h]
  rfl
set_option maxRecDepth 100000 in
set_option maxHeartbeats 1000000 in
theorem rhex36_any (x : Nat) (w : World) (hx : x < 18446744073709551616) :
    Calls Tryz.prog 57 #[.int .u64 (x : Int)] w fun e w' => e = .returned (.string ⟨(hexS x).toArray⟩) ∧ w = w' := by
  go_enter Tryz.func57, Tryz.ntmps57
  go_wp2_with fail
  go_loopg [4, 5, 6] 16 (fun g out i u wr => ∃ k : Nat, k ≤ 16 ∧ g = 16 - k ∧ i = .int .i64 (k : Int) ∧ out = .string ⟨(hexP x k).toArray⟩ ∧ w = wr)
  case atStart => exact ⟨0, by omega, by omega, rfl, rfl, rfl⟩
  case round =>
    obtain ⟨k, hk, hg, rfl, rfl, rfl⟩ := hrel
    have HG := Lib.hid hg
    clear hg
    by_cases hlt : k < 16
    · have t1 : decide ((k : Int) < 16) = true := by simp; omega
      have HS := Lib.hid (hexP_snoc x k hlt)
      obtain ⟨d, hd, hd16⟩ : ∃ d, d = x / 2 ^ (60 - 4 * k) % 16 ∧ d < 16 := ⟨_, rfl, Nat.mod_lt _ (by decide)⟩
      rw [← hd] at HS
      have m1 : IntKind.i64.wrap (4 * (k : Int)) = 4 * (k : Int) := IntWalk.i64_in _ (by omega)
      have m2 : IntKind.i64.wrap (60 - 4 * (k : Int)) = ((60 - 4 * k : Nat) : Int) := by rw [IntWalk.i64_in _ (by omega)]; omega
      have g0 : (0 : Int) ≤ ((60 - 4 * k : Nat) : Int) := by omega
      have HDV : Hid (Go.bits .and .u64 ((x : Int) / 2 ^ (60 - 4 * k)) 15 = (d : Int)) := Lib.hid (by
        have h1 : (x : Int) / 2 ^ (60 - 4 * k) = ((x / 2 ^ (60 - 4 * k) : Nat) : Int) := by rw [Int.natCast_ediv]; simp
        have h2 : x / 2 ^ (60 - 4 * k) < 18446744073709551616 := Nat.lt_of_le_of_lt (Nat.div_le_self _ _) hx
        rw [h1, show (15 : Int) = ((15 : Nat) : Int) from rfl, u64_and_nat _ _ h2 (by decide), hd]
        have h4 := Nat.and_two_pow_sub_one_eq_mod (x / 2 ^ (60 - 4 * k)) 4
        have h5 : x / 2 ^ (60 - 4 * k) &&& 15 = x / 2 ^ (60 - 4 * k) % 16 := by simpa using h4
        rw [h5])
      have HC := Lib.hid (hex_cut d hd16)
      have hlen : (hexP x k).length ≤ 16 := by unfold hexP; rw [List.length_take, hexS_length]; omega
      clear hd
      have hdv := HDV.out
      have hcut := HC.out
      have g1 : (0 : Int) ≤ (d : Int) := by omega
      have g2 : (d : Int) ≤ (d : Int) + 1 := by omega
      have g3 : (d : Int) + 1 ≤ 16 := by omega
      have g4 : IntKind.i64.wrap ((d : Int) + 1) = (d : Int) + 1 := IntWalk.i64_in _ (by omega)
      have g5 : ((d : Int) + 1).toNat = d + 1 := by omega
      have g6 : IntKind.i64.wrap (d : Int) = (d : Int) := IntWalk.i64_in _ (by omega)
      generalize hexP x k = D at hlen HS ⊢
      have hnsz : ¬ (9223372036854775807 < D.length + 1) := by omega
      go_wp2_with fail
      go_roundg (16 - (k + 1))
      case measure => have := HG.out; omega
      case rel => exact ⟨k + 1, by omega, rfl, by go_num, by rw [HS.out, ← ba_append], rfl⟩
    · obtain rfl : k = 16 := by omega
      have t1 : decide ((16 : Int) < 16) = false := by decide
      have HE : Hid (hexP x 16 = hexS x) := Lib.hid (by unfold hexP; exact List.take_of_length_le (by rw [hexS_length]; exact Nat.le_refl _))
      rw [HE.out]
      go_wp2_with fail
      go_ret
      exact ⟨rfl, rfl⟩

set_option maxRecDepth 100000 in
set_option maxHeartbeats 1000000 in
theorem rpos36_any (serial bits : Int) (k : Nat) (w : World) (hs : -9223372036854775808 ≤ serial ∧ serial ≤ 9223372036854775807) (hk : k ≤ 8) (hb : 64 ≤ bits ∧ bits ≤ 65536) :
    Calls Tryz.prog 44 #[.int .i64 serial, .int .i64 (k : Int), .int .i64 bits] w fun e w' => e = .returned (.int .i64 (posF serial bits k : Nat)) ∧ Below w.heap.size w w' := by
  have HP := Lib.hid (posF_eq serial (show 1 ≤ bits by omega) k)
  have e1 : Lib.itoa (k : Int) = Lib.decDigits k := by unfold Lib.itoa; rw [if_neg (by omega)]; rfl
  have hl1 := Lib.itoa_length_le serial hs.1 hs.2
  have hl2 := Lib.itoa_length_le (k : Int) (by omega) (by omega)
  rw [e1] at hl2
  have HC : Hid (capN [Lib.itoa serial, Lib.decDigits k] ≤ 140737488355328) := Lib.hid (by simp only [capN, List.map_cons, List.map_nil, List.foldl_cons, List.foldl_nil]; omega)
  have HD1 := Lib.hid (r36dec_any serial w hs.1 hs.2)
  clear hl1 hl2 hs
  have hk1 : (-9223372036854775808 : Int) ≤ (k : Int) := by omega
  have hk2 : (k : Int) ≤ 9223372036854775807 := by omega
  have hb9 : -9223372036854775808 ≤ bits ∧ bits < 9223372036854775808 := by omega
  clear hk hb
  go_enter Tryz.func44, Tryz.ntmps44
  go_wp2_with fail
  refine HD1.out.mono ?_
  rintro e w1 ⟨rfl, hb1⟩
  go_wp2_with fail
  refine (r36dec_any (k : Int) w1 hk1 hk2).mono ?_
  rintro e w2 ⟨rfl, hb2⟩
  rw [e1]
  have hf2 : Fr [] w w2 := (Fr.ofBelow hb1).below hb2 hb1.size
  clear e1 hk1 hk2 hb1 hb2
  generalize Lib.itoa serial = S at HC HP ⊢
  generalize Lib.decDigits k = D at HC HP ⊢
  go_wp2_with fail
  have hf3 := hf2.alloc (.cells #[.string ⟨S.toArray⟩, .string ⟨D.toArray⟩] 9)
  refine (rlist_any _ [S, D] _ (strs_two (heap_new rfl)) HC.out).mono ?_
  rintro e w4 ⟨rfl, hb4⟩
  have hf4 := hf3.below hb4 hf3.size
  clear hb4 hf3
  have hd : (dlist [S, D]).length ≤ 9223372036854775807 := by unfold dlist; rw [dsum_length]; decide
  generalize dlist [S, D] = L at HP hd ⊢
  go_wp2_with fail
  refine (rbelow_any L bits w4 hd hb9).mono ?_
  rintro e w5 ⟨rfl, hb5⟩
  have HF := Lib.hid (hf4.below hb5 hf4.size)
  go_wp2_with fail
  go_ret
  exact ⟨by rw [HP.out]; rfl, HF.out.toBelow (by simp)⟩
end Go.Proofs.YtffldampcbfgjaaGreatDoor
namespace Go.Proofs.YtffldampcbfgjaaGreatDoor
open Go.RowKit

set_option maxRecDepth 100000 in
set_option maxHeartbeats 1000000 in
theorem rform36_any (bits hashes : Int) (w : World) :
    Calls Tryz.prog 43 #[.int .i64 bits, .int .i64 hashes] w fun e w' => e = .returned (.bool (formF bits hashes)) ∧ w = w' := by
  obtain ⟨r, er⟩ : ∃ r, r = formF bits hashes := ⟨_, rfl⟩
  have ER : Hid (r = decide (64 ≤ bits ∧ bits ≤ 65536 ∧ bits % 64 = 0 ∧ 1 ≤ hashes ∧ hashes ≤ 8)) := Lib.hid er
  rw [← er]
  clear er
  by_cases h1 : 64 ≤ bits
  case neg =>
    have t1 : decide (64 ≤ bits) = false := decide_eq_false h1
    have HX : Hid (r = false) := Lib.hid (by rw [ER.out]; exact decide_eq_false (fun h => h1 h.1))
    clear h1
    go_enter Tryz.func43, Tryz.ntmps43
    go_wp2_with fail
    go_ret
    exact ⟨by rw [HX.out]; rfl, rfl⟩
  have t1 : decide (64 ≤ bits) = true := decide_eq_true h1
  by_cases h2 : bits ≤ 65536
  case neg =>
    have t2 : decide (bits ≤ 65536) = false := decide_eq_false h2
    have HX : Hid (r = false) := Lib.hid (by rw [ER.out]; exact decide_eq_false (fun h => h2 h.2.1))
    clear h1 h2
    go_enter Tryz.func43, Tryz.ntmps43
    go_wp2_with fail
    go_ret
    exact ⟨by rw [HX.out]; rfl, rfl⟩
  have t2 : decide (bits ≤ 65536) = true := decide_eq_true h2
  obtain ⟨m, em, em2⟩ : ∃ m, bits % 64 = m ∧ bits.tmod 64 = m := ⟨_, rfl, by rw [Int.tmod_eq_emod_of_nonneg (by omega)]⟩
  by_cases h3 : m = 0
  case neg =>
    have t3 : (m == 0) = false := by rw [beq_eq_false_iff_ne]; exact h3
    have HX : Hid (r = false) := Lib.hid (by rw [ER.out]; exact decide_eq_false (fun h => h3 (by rw [← em]; exact h.2.2.1)))
    have xm : IntKind.i64.wrap m = m := IntWalk.i64_in _ (by omega)
    clear h1 h2 h3
    go_enter Tryz.func43, Tryz.ntmps43
    go_wp2_with fail
    go_ret
    exact ⟨by rw [HX.out]; rfl, rfl⟩
  subst h3
  by_cases h4 : 1 ≤ hashes
  case neg =>
    have t4 : decide (1 ≤ hashes) = false := decide_eq_false h4
    have HX : Hid (r = false) := Lib.hid (by rw [ER.out]; exact decide_eq_false (fun h => h4 h.2.2.2.1))
    clear h1 h2 h4
    go_enter Tryz.func43, Tryz.ntmps43
    go_wp2_with fail
    go_ret
    exact ⟨by rw [HX.out]; rfl, rfl⟩
  have t4 : decide (1 ≤ hashes) = true := decide_eq_true h4
  by_cases h5 : hashes ≤ 8
  case neg =>
    have t5 : decide (hashes ≤ 8) = false := decide_eq_false h5
    have HX : Hid (r = false) := Lib.hid (by rw [ER.out]; exact decide_eq_false (fun h => h5 h.2.2.2.2))
    clear h1 h2 h4 h5
    go_enter Tryz.func43, Tryz.ntmps43
    go_wp2_with fail
    go_ret
    exact ⟨by rw [HX.out]; rfl, rfl⟩
  have t5 : decide (hashes ≤ 8) = true := decide_eq_true h5
  have HX : Hid (r = true) := Lib.hid (by rw [ER.out]; exact decide_eq_true ⟨h1, h2, em, h4, h5⟩)
  clear h1 h2 h4 h5
  go_enter Tryz.func43, Tryz.ntmps43
  go_wp2_with fail
  go_ret
  exact ⟨by rw [HX.out]; rfl, rfl⟩

set_option maxRecDepth 100000 in
set_option maxHeartbeats 1000000 in
theorem rvalid36_any (v : Value) (f : Flt) (w : World) (hv : FltR w v f) :
    Calls Tryz.prog 47 #[v] w fun e w' => e = .returned (.bool (validF f)) ∧ Below w.heap.size w w' := by
  obtain ⟨wv, rfl, hw⟩ := hv
  obtain ⟨wa, wcap, rfl, hwl, hwc, hwa⟩ := hw.form
  clear hw
  obtain ⟨r, er⟩ : ∃ r, r = validF f := ⟨_, rfl⟩
  have ER : Hid (r = (formF f.bits f.hashes && decide ((f.words.length : Int) = f.bits / 64))) := Lib.hid er
  rw [← er]
  clear er
  have f0 : Fr [] w (w.alloc (.cells #[.int .i64 f.bits, .int .i64 f.hashes, .slice wa f.words.length wcap] 25)) := (Fr.refl [] w).alloc _
  have q0 : (w.alloc (.cells #[.int .i64 f.bits, .int .i64 f.hashes, .slice wa f.words.length wcap] 25)).heap[w.heap.size]? = some (.cells #[.int .i64 f.bits, .int .i64 f.hashes, .slice wa f.words.length wcap] 25 (0, 0)) := heap_new rfl
  go_enter Tryz.func47, Tryz.ntmps47
  go_wp2_with fail
  generalize w.alloc (.cells #[.int .i64 f.bits, .int .i64 f.hashes, .slice wa f.words.length wcap] 25) = w0 at f0 q0 ⊢
  refine (rform36_any f.bits f.hashes w0).mono ?_
  rintro e w1 ⟨rfl, rfl⟩
  have c0 : w0.cell? ⟨w.heap.size, 0, none⟩ = some (.int .i64 f.bits) := by rw [row_cell q0 0]; rfl
  have c2 : w0.cell? ⟨w.heap.size, 2, none⟩ = some (.slice wa f.words.length wcap) := by rw [row_cell q0 2]; rfl
  clear q0
  cases hf : formF f.bits f.hashes with
  | false =>
    have HX : Hid (r = false) := Lib.hid (by rw [ER.out, hf]; rfl)
    clear hf
    go_wp2_with fail
    go_ret
    exact ⟨by rw [HX.out]; rfl, f0.toBelow (by simp)⟩
  | true =>
    have hp := formF_parts hf
    have HR2 : Hid (r = decide ((f.words.length : Int) = f.bits / 64)) := Lib.hid (by rw [ER.out, hf]; rfl)
    obtain ⟨q, eq, eq2⟩ : ∃ q, f.bits / 64 = q ∧ f.bits.tdiv 64 = q := ⟨_, rfl, by rw [Int.tdiv_eq_ediv_of_nonneg (by omega)]⟩
    have xq : IntKind.i64.wrap q = q := IntWalk.i64_in _ (by omega)
    have HEQ := Lib.hid eq
    clear hf hp eq
    by_cases hl : (f.words.length : Int) = q
    · have t1 : ((f.words.length : Int) == q) = true := by rw [beq_iff_eq]; exact hl
      have HX : Hid (r = true) := Lib.hid (by rw [HR2.out, HEQ.out]; exact decide_eq_true hl)
      clear hl
      go_wp2_with fail
      go_ret
      exact ⟨by rw [HX.out]; rfl, f0.toBelow (by simp)⟩
    · have t1 : ((f.words.length : Int) == q) = false := by rw [beq_eq_false_iff_ne]; exact hl
      have HX : Hid (r = false) := Lib.hid (by rw [HR2.out, HEQ.out]; exact decide_eq_false hl)
      clear hl
      go_wp2_with fail
      go_ret
      exact ⟨by rw [HX.out]; rfl, f0.toBelow (by simp)⟩
/-- Are two filters equal? -/
def sameF (a b : Flt) : Bool := decide (a.bits = b.bits) && decide (a.hashes = b.hashes) && decide (a.words = b.words)
theorem sameF_iff (a b : Flt) : sameF a b = true ↔ a = b := by
  unfold sameF
  simp only [Bool.and_eq_true, decide_eq_true_eq]
  constructor
  · rintro ⟨⟨h1, h2⟩, h3⟩; exact Flt.ext' h1 h2 h3
  · rintro rfl; exact ⟨⟨rfl, rfl⟩, rfl⟩
set_option maxRecDepth 100000 in
set_option maxHeartbeats 4000000 in
theorem rsame36_any (av bv : Value) (a b : Flt) (w : World) (ha : FltR w av a) (hb : FltR w bv b) :
    Calls Tryz.prog 19 #[av, bv] w fun e w' => e = .returned (.bool (sameF a b)) ∧ Below w.heap.size w w' := by
  have hmx : Tryz.prog.follows .mixedOrders = true := by kernel_rfl
  obtain ⟨v1, rfl, hw1⟩ := ha
  obtain ⟨v2, rfl, hw2⟩ := hb
  obtain ⟨a1, cap1, rfl, hl1, hc1, hf1⟩ := hw1.form
  obtain ⟨a2, cap2, rfl, hl2, hc2, hf2⟩ := hw2.form
  have HW1 := Lib.hid hw1
  have HW2 := Lib.hid hw2
  obtain ⟨r, er⟩ : ∃ r, r = sameF a b := ⟨_, rfl⟩
  rw [← er]
  have ER := Lib.hid er
  clear hw1 hw2 er
  obtain ⟨W0, hW0⟩ : ∃ W0, W0 = (w.alloc (.cells #[.int .i64 a.bits, .int .i64 a.hashes, .slice a1 a.words.length cap1] 25)).alloc (.cells #[.int .i64 b.bits, .int .i64 b.hashes, .slice a2 b.words.length cap2] 25) := ⟨_, rfl⟩
  obtain ⟨p, ep⟩ : ∃ p, p = w.heap.size := ⟨_, rfl⟩
  have h0 : Fr [] w W0 := by rw [hW0]; exact ((Fr.refl [] w).alloc _).alloc _
  have hp0 : W0.heap[p]? = some (.cells #[.int .i64 a.bits, .int .i64 a.hashes, .slice a1 a.words.length cap1] 25 (0, 0)) := by rw [hW0, ep]; exact heap_past _ (heap_new rfl)
  have hp1 : W0.heap[p + 1]? = some (.cells #[.int .i64 b.bits, .int .i64 b.hashes, .slice a2 b.words.length cap2] 25 (0, 0)) := by rw [hW0, ep]; exact heap_new (by simp)
  have c0 := row_cell hp0 0
  have c1 := row_cell hp0 1
  have c2 := row_cell hp0 2
  have d0 := row_cell hp1 0
  have d1 := row_cell hp1 1
  have d2 := row_cell hp1 2
  simp at c0 c1 c2 d0 d1 d2
  rw [hW0, ep] at c0 c1 c2 d0 d1 d2
  by_cases hb : a.bits = b.bits
  case neg =>
    have u1 : (a.bits != b.bits) = true := by simpa using hb
    have HR : Hid (r = false) := Lib.hid (by rw [ER.out]; unfold sameF; rw [decide_eq_false hb]; rfl)
    have HF := Lib.hid h0
    rw [hW0] at HF
    clear hb hW0 hp0 hp1 h0 ep
    go_enter Tryz.func19, Tryz.ntmps19
    go_wp2_with fail
    go_ret
    exact ⟨by rw [HR.out]; rfl, HF.out.toBelow (by simp)⟩
  have u1 : (a.bits != b.bits) = false := by simpa using hb
  by_cases hh : a.hashes = b.hashes
  case neg =>
    have u2 : (a.hashes != b.hashes) = true := by simpa using hh
    have HR : Hid (r = false) := Lib.hid (by rw [ER.out]; unfold sameF; rw [decide_eq_false hh, Bool.and_false]; rfl)
    have HF := Lib.hid h0
    rw [hW0] at HF
    clear hb hh hW0 hp0 hp1 h0 ep
    go_enter Tryz.func19, Tryz.ntmps19
    go_wp2_with fail
    go_ret
    exact ⟨by rw [HR.out]; rfl, HF.out.toBelow (by simp)⟩
  have u2 : (a.hashes != b.hashes) = false := by simpa using hh
  have HR : Hid (r = decide (a.words = b.words)) := Lib.hid (by rw [ER.out]; unfold sameF; rw [decide_eq_true hb, decide_eq_true hh]; rfl)
  clear hb hh
  by_cases hn : a.words.length = b.words.length
  case neg =>
    have u3 : ((a.words.length : Int) != (b.words.length : Int)) = true := by rw [bne_iff_ne]; omega
    have HR2 : Hid (r = false) := Lib.hid (by rw [HR.out]; exact decide_eq_false (fun e => hn (by rw [e])))
    have HF := Lib.hid h0
    rw [hW0] at HF
    clear hn hW0 hp0 hp1 h0 ep
    go_enter Tryz.func19, Tryz.ntmps19
    go_wp2_with fail
    go_ret
    exact ⟨by rw [HR2.out]; rfl, HF.out.toBelow (by simp)⟩
  have u3 : ((a.words.length : Int) != (b.words.length : Int)) = false := by rw [hn]; simp
  have HN := Lib.hid hn
  clear hn
  go_enter Tryz.func19, Tryz.ntmps19
  go_wp2_with fail
  rw [← hW0, ← ep]
  rw [← hW0, ← ep] at c0 c1 c2 d0 d1 d2
  clear hW0 ep
  have H0 := Lib.hid h0
  go_loopg [5] a.words.length (fun gh i wr => ∃ k : Nat, k ≤ a.words.length ∧ gh = a.words.length - k ∧ i = .int .i64 (k : Int) ∧ a.words.take k = b.words.take k ∧ Fr [] W0 wr)
  case atStart => exact ⟨0, by omega, by omega, rfl, by simp, Fr.refl _ _⟩
  case round =>
    obtain ⟨k, hk, hgh, rfl, heq, hfr⟩ := hrel
    have HG := Lib.hid hgh
    have HEQ := Lib.hid heq
    clear hgh heq c0 c1 c2 d0 d1 d2 h0
    have c2 := row_cell (hfr.at hp0 (by simp)) 2
    have d2 := row_cell (hfr.at hp1 (by simp)) 2
    simp at c2 d2
    by_cases hlt : k < a.words.length
    · have t1 : decide ((k : Int) < (a.words.length : Int)) = true := by simp; omega
      have hn := HN.out
      obtain ⟨b1, o1, rfl⟩ := hf1 k hlt
      obtain ⟨b2, o2, rfl⟩ := hf2 k (by omega)
      have cx : wr.cell? ⟨b1, o1 + k, none⟩ = some (.int .u64 (a.words.getD k 0 : Nat)) := by
        rcases HW1.out with ⟨h0, _⟩ | ⟨b', off', cap', h0, _, _, _, h4⟩
        · exact absurd (congrArg List.length h0) (by simp only [List.length_nil]; omega)
        · cases h0; exact (H0.out.trans hfr (by simp)).cell (h4 k hlt) (by simp)
      have cy : wr.cell? ⟨b2, o2 + k, none⟩ = some (.int .u64 (b.words.getD k 0 : Nat)) := by
        rcases HW2.out with ⟨h0, _⟩ | ⟨b', off', cap', h0, _, _, _, h4⟩
        · exact absurd (congrArg List.length h0) (by simp only [List.length_nil]; omega)
        · cases h0; exact (H0.out.trans hfr (by simp)).cell (h4 k (by omega)) (by simp)
      have HNX : Hid (a.words.getD k 0 = b.words.getD k 0 → a.words.take (k + 1) = b.words.take (k + 1)) := Lib.hid (fun e => by
        rw [take_snoc' _ k 0 hlt, take_snoc' _ k 0 (by omega), HEQ.out, e])
      have HNE : Hid (a.words.getD k 0 ≠ b.words.getD k 0 → r = false) := Lib.hid (fun e => by
        rw [HR.out]; exact decide_eq_false (fun e2 => e (by rw [e2])))
      generalize a.words.getD k 0 = X at cx HNX HNE
      generalize b.words.getD k 0 = Y at cy HNX HNE
      have i0 : (0 : Int) ≤ (k : Int) := by omega
      have i1 : (k : Int) < (a.words.length : Int) := by omega
      have i2 : (k : Int) < (b.words.length : Int) := by omega
      clear hn
      by_cases hxy : X = Y
      · have u4 : ((X : Int) != (Y : Int)) = false := by rw [hxy]; simp
        have HTK := Lib.hid (HNX.out hxy)
        clear hxy
        go_wp2_with fail
        go_quiet (fail)
        go_wp2_with fail
        go_roundg (a.words.length - (k + 1))
        case measure => have := HG.out; omega
        case rel => exact ⟨k + 1, by omega, rfl, by go_num, HTK.out, hfr.drewN _⟩
      · have u4 : ((X : Int) != (Y : Int)) = true := by rw [bne_iff_ne]; omega
        have HRF := Lib.hid (HNE.out hxy)
        clear hxy
        go_wp2_with fail
        go_quiet (fail)
        go_wp2_with fail
        go_ret
        exact ⟨by rw [HRF.out]; rfl, ((H0.out.trans hfr (by simp)).drewN _).toBelow (by simp)⟩
    · obtain rfl : k = a.words.length := by omega
      have t1 : decide ((a.words.length : Int) < (a.words.length : Int)) = false := by simp
      have HRT : Hid (r = true) := Lib.hid (by
        rw [HR.out]
        have := HEQ.out
        rw [List.take_length, List.take_of_length_le (by rw [HN.out]; exact Nat.le_refl _)] at this
        exact decide_eq_true this)
      go_wp2_with fail
      go_ret
      exact ⟨by rw [HRT.out]; rfl, (H0.out.trans hfr (by simp)).toBelow (by simp)⟩
end Go.Proofs.YtffldampcbfgjaaGreatDoor
namespace Go.Proofs.YtffldampcbfgjaaGreatDoor
open Go.RowKit

/-- The filter of both, and the error. -/
def joinF (a b : Flt) : Flt := if okJ a b then ⟨a.bits, a.hashes, joinW a.words b.words⟩ else ⟨0, 0, []⟩
def joinEr (a b : Flt) : Int := if okJ a b then 0 else 1
theorem okJ_parts {a b : Flt} (h : okJ a b = true) : validF a = true ∧ validF b = true ∧ a.bits = b.bits ∧ a.hashes = b.hashes := by
  unfold okJ at h
  simp only [Bool.and_eq_true, decide_eq_true_eq] at h
  exact ⟨h.1.1.1, h.1.1.2, h.1.2, h.2⟩
theorem okJ_of {a b : Flt} (h1 : validF a = true) (h2 : validF b = true) (h3 : a.bits = b.bits) (h4 : a.hashes = b.hashes) : okJ a b = true := by
  unfold okJ
  simp [h1, h2, h3, h4]
theorem okJ_len {a b : Flt} (h : okJ a b = true) : a.words.length = b.words.length := by
  obtain ⟨h1, h2, h3, h4⟩ := okJ_parts h
  have e1 := (validF_parts h1).2
  have e2 := (validF_parts h2).2
  rw [h3] at e1
  omega
theorem joinF_ok {a b : Flt} (h : okJ a b = true) : joinF a b = ⟨a.bits, a.hashes, joinW a.words b.words⟩ := by unfold joinF; rw [if_pos h]
theorem joinEr_ok {a b : Flt} (h : okJ a b = true) : joinEr a b = 0 := by unfold joinEr; rw [if_pos h]
theorem joinEr_no {a b : Flt} (h : okJ a b = false) : joinEr a b = 1 := by unfold joinEr; rw [h]; rfl
theorem joinF_valid {a b : Flt} (h : okJ a b = true) : validF (joinF a b) = true := by
  have hl := okJ_len h
  obtain ⟨h1, h2, h3, h4⟩ := okJ_parts h
  rw [joinF_ok h]
  unfold validF
  obtain ⟨e1, e2⟩ := validF_parts h1
  simp only [e1, Bool.true_and, joinW_len _ _ hl, decide_eq_true_eq]
  exact e2
theorem joinF_lt {a b : Flt} (ha : W64 a.words) (hb : W64 b.words) : W64 (joinF a b).words := by
  unfold joinF
  split
  · rename_i h
    exact joinW_lt ha hb (okJ_len h)
  · intro x hx; cases hx
theorem okJ_left {a b c : Flt} (h1 : okJ a b = true) (h2 : okJ b c = true) : okJ (joinF a b) c = true := by
  have hv := joinF_valid h1
  obtain ⟨_, _, h3, h4⟩ := okJ_parts h1
  obtain ⟨_, h6, h7, h8⟩ := okJ_parts h2
  refine okJ_of hv h6 ?_ ?_
  · rw [joinF_ok h1]; exact h3.trans h7
  · rw [joinF_ok h1]; exact h4.trans h8
theorem okJ_right {a b c : Flt} (h1 : okJ a b = true) (h2 : okJ b c = true) : okJ a (joinF b c) = true := by
  have hv := joinF_valid h2
  obtain ⟨h5, _, h3, h4⟩ := okJ_parts h1
  refine okJ_of h5 hv ?_ ?_
  · rw [joinF_ok h2]; exact h3
  · rw [joinF_ok h2]; exact h4
theorem joinF_assoc {a b c : Flt} (ha : W64 a.words) (hb : W64 b.words) (hc : W64 c.words) (h1 : okJ a b = true) (h2 : okJ b c = true) : joinF (joinF a b) c = joinF a (joinF b c) := by
  rw [joinF_ok (okJ_left h1 h2), joinF_ok (okJ_right h1 h2), joinF_ok h1, joinF_ok h2]
  simp only
  rw [joinW_assoc ha hb hc (okJ_len h1) (okJ_len h2)]
theorem has_joinL {a b : Flt} (s : Int) (h : okJ a b = true) (hs : hasF a s = true) : hasF (joinF a b) s = true := by
  have hv := joinF_valid h
  have hl := okJ_len h
  unfold hasF at hs ⊢
  rw [hv, Bool.true_and]
  simp only [Bool.and_eq_true] at hs
  rw [joinF_ok h]
  have h2 := hs.2
  unfold hasW at h2 ⊢
  rw [List.all_eq_true] at h2 ⊢
  intro n hn
  show bitW (joinW a.words b.words) n = true
  rw [joinW_bit hl, h2 n hn]
  rfl
theorem has_joinR {a b : Flt} (s : Int) (h : okJ a b = true) (hs : hasF b s = true) : hasF (joinF a b) s = true := by
  have hv := joinF_valid h
  have hl := okJ_len h
  obtain ⟨_, _, h3, h4⟩ := okJ_parts h
  unfold hasF at hs ⊢
  rw [hv, Bool.true_and]
  simp only [Bool.and_eq_true] at hs
  rw [joinF_ok h]
  have h2 := hs.2
  rw [← h3, ← h4] at h2
  unfold hasW at h2 ⊢
  rw [List.all_eq_true] at h2 ⊢
  intro n hn
  show bitW (joinW a.words b.words) n = true
  rw [joinW_bit hl, h2 n hn, Bool.or_true]
/-- Join, in one form. -/
theorem joinU_any (av bv : Value) (a b : Flt) (w : World) (ha : FltR w av a) (hb : FltR w bv b) (wa : W64 a.words) (wb : W64 b.words) :
    Calls Tryz.prog 15 #[av, bv] w fun e w' => ∃ ad cp, e = .returned (.tuple #[.agg #[.int .i64 (joinF a b).bits, .int .i64 (joinF a b).hashes, .slice ad (joinF a b).words.length cp], .int .i64 (joinEr a b)]) ∧ Ws w' (.slice ad (joinF a b).words.length cp) (joinF a b).words ∧ Below w.heap.size w w' := by
  refine (join_any av bv a b w ha hb wa wb).mono ?_
  rintro e w' ⟨h1, h2, h3⟩
  cases hk : okJ a b with
  | true =>
    obtain ⟨wv, rfl, ho⟩ := h1 hk
    rw [joinEr_ok hk, joinF_ok hk]
    have hw := ho.ws
    rcases hw with ⟨h0, a0, rfl⟩ | ⟨b', off, cap, rfl, h4⟩
    · refine ⟨a0, 0, ?_, ?_, h3⟩
      · simp only [h0]; rfl
      · simp only [h0]; exact Or.inl ⟨rfl, a0, rfl⟩
    · exact ⟨_, cap, rfl, Or.inr ⟨b', off, cap, rfl, h4⟩, h3⟩
  | false =>
    obtain rfl := h2 hk
    rw [joinEr_no hk]
    unfold joinF
    rw [hk]
    exact ⟨none, 0, rfl, Or.inl ⟨rfl, none, rfl⟩, h3⟩
end Go.Proofs.YtffldampcbfgjaaGreatDoor
namespace Go.Proofs.YtffldampcbfgjaaGreatDoor
open Go.RowKit

set_option maxRecDepth 100000 in
set_option maxHeartbeats 4000000 in
theorem rhas36_any (v : Value) (f : Flt) (serial : Int) (w : World) (hv : FltR w v f) (hW : W64 f.words) (hs : -9223372036854775808 ≤ serial ∧ serial ≤ 9223372036854775807) :
    Calls Tryz.prog 21 #[v, .int .i64 serial] w fun e w' => e = .returned (.bool (hasF f serial)) ∧ Below w.heap.size w w' := by
  obtain ⟨wv, rfl, hw⟩ := hv
  obtain ⟨wa, wcap, rfl, hwl, hwc, hwa⟩ := hw.form
  have HWS := Lib.hid hw
  have HW := Lib.hid hW
  have HSR := Lib.hid hs
  clear hw hW hs
  obtain ⟨r, er⟩ : ∃ r, r = hasF f serial := ⟨_, rfl⟩
  rw [← er]
  have ER := Lib.hid er
  clear er
  obtain ⟨W0, hW0⟩ : ∃ W0, W0 = w.alloc (.cells #[.int .i64 f.bits, .int .i64 f.hashes, .slice wa f.words.length wcap] 25) := ⟨_, rfl⟩
  obtain ⟨bf, ebf⟩ : ∃ bf, bf = w.heap.size := ⟨_, rfl⟩
  have hf0 : Fr [] w W0 := by rw [hW0]; exact (Fr.refl [] w).alloc _
  have hb0 : W0.heap[bf]? = some (.cells #[.int .i64 f.bits, .int .i64 f.hashes, .slice wa f.words.length wcap] 25 (0, 0)) := by rw [hW0, ebf]; exact heap_new rfl
  have c0 := row_cell hb0 0
  have c1 := row_cell hb0 1
  have c2 := row_cell hb0 2
  simp at c0 c1 c2
  rw [hW0, ebf] at c0 c1 c2
  go_enter Tryz.func21, Tryz.ntmps21
  go_wp2_with fail
  rw [← hW0, ← ebf]
  clear c0 c1 c2
  refine (rvalid36_any _ f W0 ⟨_, rfl, HWS.out.fr0 hf0⟩).mono ?_
  rintro e w1 ⟨rfl, hb1⟩
  have h1 : Fr [] w w1 := hf0.below hb1 hf0.size
  have hq0 := (Fr.ofBelow (X := []) hb1).at hb0 (by simp)
  have HQ0 := Lib.hid hq0
  clear hb1 hb0 hW0 hf0 ebf hq0
  obtain ⟨vo, evo⟩ : ∃ vo, vo = validF f := ⟨_, rfl⟩
  rw [← evo]
  have HVO := Lib.hid evo
  clear evo
  cases vo with
  | false =>
    have HR : Hid (r = false) := Lib.hid (by rw [ER.out]; unfold hasF; rw [← HVO.out]; rfl)
    go_wp2_with fail
    go_ret
    exact ⟨by rw [HR.out]; rfl, h1.toBelow (by simp)⟩
  | true =>
    obtain ⟨hform, hlen⟩ := validF_parts HVO.out.symm
    have hp := formF_parts hform
    have HLE := Lib.hid hlen
    obtain ⟨hn, ehn, hn8⟩ : ∃ hn : Nat, f.hashes = (hn : Int) ∧ hn ≤ 8 := ⟨f.hashes.toNat, by omega, by omega⟩
    have HP := Lib.hid hp
    rw [ehn] at HQ0
    have EHN := Lib.hid ehn
    have H1 := Lib.hid h1
    clear hform hlen hp ehn h1
    go_wp2_with fail
    go_loopg [5, 6] hn (fun gh i u wr => ∃ k : Nat, k ≤ hn ∧ gh = hn - k ∧ i = .int .i64 (k : Int) ∧ (∀ j, j < k → bitW f.words (posF serial f.bits j) = true) ∧ Fr [] w1 wr)
    case atStart => exact ⟨0, by omega, by omega, rfl, fun j hj => absurd hj (Nat.not_lt_zero _), Fr.refl _ _⟩
    case round =>
      obtain ⟨k, hk, hgh, rfl, hall, hfr⟩ := hrel
      have HG := Lib.hid hgh
      have HALL := Lib.hid hall
      clear hgh hall
      have hbr := hfr.at HQ0.out (by simp)
      have c0 := row_cell hbr 0
      have c1 := row_cell hbr 1
      have c2 := row_cell hbr 2
      simp at c0 c1 c2
      have HBR := Lib.hid hbr
      clear hbr
      by_cases hlt : k < hn
      · have t1 : decide ((k : Int) < (hn : Int)) = true := by simp; omega
        have HC := Lib.hid (rpos36_any serial f.bits k wr HSR.out (by omega) ⟨HP.out.1, HP.out.2.1⟩)
        have hpx := posF_lt serial (show 1 ≤ f.bits by have := HP.out; omega) k
        have hLE := HLE.out
        have hbits := HP.out.2.1
        have HBI : Hid (bitW f.words (posF serial f.bits k) = (f.words.getD (posF serial f.bits k / 64) 0).testBit (posF serial f.bits k % 64)) := Lib.hid rfl
        have HNEG : Hid (bitW f.words (posF serial f.bits k) = false → r = false) := Lib.hid (fun h => by
          rw [ER.out]
          unfold hasF hasW posL
          rw [List.all_eq_false.2 ⟨_, List.mem_map.2 ⟨k, List.mem_range.2 (by have := EHN.out; omega), rfl⟩, by rw [h]; simp⟩, Bool.and_false])
        have HPOS : Hid (bitW f.words (posF serial f.bits k) = true → ∀ j, j < k + 1 → bitW f.words (posF serial f.bits j) = true) := Lib.hid (fun h j hj => by
          rcases Nat.lt_or_ge j k with hj | hj2
          · exact HALL.out j hj
          · obtain rfl : j = k := by omega
            exact h)
        generalize bitW f.words (posF serial f.bits k) = bt at HBI HNEG HPOS
        generalize posF serial f.bits k = p at hpx HBI HC ⊢
        obtain ⟨i, j, hi, hj⟩ : ∃ i j, i = p / 64 ∧ j = p % 64 := ⟨_, _, rfl, rfl⟩
        rw [← hi, ← hj] at HBI
        have hil : i < f.words.length := by have := HP.out; omega
        have hj64 : j < 64 := by omega
        obtain ⟨b, off, rfl⟩ := hwa i hil
        have hX := HW.out.at i
        have e1 : (p : Int).tdiv 64 = (i : Int) := by rw [Int.tdiv_eq_ediv_of_nonneg (by omega)]; omega
        have e2 : (p : Int).tmod 64 = (j : Int) := by rw [Int.tmod_eq_emod_of_nonneg (by omega)]; omega
        have w1i : IntKind.i64.wrap (i : Int) = (i : Int) := IntWalk.i64_in _ (by omega)
        have w1j : IntKind.i64.wrap (j : Int) = (j : Int) := IntWalk.i64_in _ (by omega)
        have i0 : (0 : Int) ≤ (i : Int) := by omega
        have i1 : (i : Int) < (f.words.length : Int) := by omega
        clear hi hj hpx hLE
        go_wp2_with fail
        refine HC.out.mono ?_
        rintro e w2 ⟨rfl, hb2⟩
        have hfr2 := hfr.below hb2 hfr.size
        have cx : w2.cell? ⟨b, off + i, none⟩ = some (.int .u64 (f.words.getD i 0 : Nat)) := by
          rcases HWS.out with ⟨h0, _⟩ | ⟨b', off', cap', h0, _, _, _, h4⟩
          · exact absurd (congrArg List.length h0) (by simp only [List.length_nil]; omega)
          · cases h0; exact (H1.out.trans hfr2 (by simp)).cell (h4 i hil) (by simp)
        have hbr := (Fr.ofBelow (X := []) hb2).at HBR.out (by simp)
        clear c0 c1 c2 hb2
        have c2 := row_cell hbr 2
        simp at c2
        generalize f.words.getD i 0 = X at cx HBI hX
        have hb2 := bit_and X j hX
        rw [← HBI.out] at hb2
        clear hbr HBI hfr
        cases bt with
        | true =>
          rw [Bool.not_true] at hb2
          have HPO := Lib.hid (HPOS.out rfl)
          clear HPOS HNEG
          go_wp2_with fail
          go_roundg (hn - (k + 1))
          case measure => have := HG.out; omega
          case rel => exact ⟨k + 1, by omega, rfl, by go_num, HPO.out, hfr2⟩
        | false =>
          rw [Bool.not_false] at hb2
          have HN := Lib.hid (HNEG.out rfl)
          clear HPOS HNEG
          go_wp2_with fail
          go_ret
          exact ⟨by rw [HN.out]; rfl, (H1.out.trans hfr2 (by simp)).toBelow (by simp)⟩
      · obtain rfl : k = hn := by omega
        have t1 : decide ((k : Int) < (k : Int)) = false := by simp
        have HR : Hid (r = true) := Lib.hid (by
          rw [ER.out]
          unfold hasF hasW
          rw [← HVO.out, Bool.true_and, List.all_eq_true]
          intro n hn
          obtain ⟨j, hj, rfl⟩ := List.mem_map.1 hn
          exact HALL.out j (by have := List.mem_range.1 hj; have := EHN.out; omega))
        go_wp2_with fail
        go_ret
        exact ⟨by rw [HR.out]; rfl, (H1.out.trans hfr (by simp)).toBelow (by simp)⟩
end Go.Proofs.YtffldampcbfgjaaGreatDoor
namespace Go.Proofs.YtffldampcbfgjaaGreatDoor
open Go.RowKit

/-- What Make of the reference has set. -/
def accK (bits hashes : Int) (l : List Int) (n k : Nat) : List Nat := setsW (accF bits hashes (l.take n)) ((List.range k).map fun j => posF (l.getD n 0) bits j)
theorem accK_len (bits hashes : Int) (l : List Int) (n k : Nat) : (accK bits hashes l n k).length = (bits / 64).toNat := by
  unfold accK accF
  rw [setsW_len, setsW_len, List.length_replicate]
theorem accK_lt (bits hashes : Int) (l : List Int) (n k : Nat) : W64 (accK bits hashes l n k) := setsW_lt _ _ (setsW_lt _ _ (zeros_lt _))
theorem accK_zero (bits hashes : Int) (l : List Int) (n : Nat) : accK bits hashes l n 0 = accF bits hashes (l.take n) := rfl
theorem accK_succ (bits hashes : Int) (l : List Int) (n k : Nat) : accK bits hashes l n (k + 1) = setW (accK bits hashes l n k) (posF (l.getD n 0) bits k) := by
  unfold accK
  rw [List.range_succ, List.map_append, setsW_app]
  rfl
theorem accK_end (bits hashes : Int) (l : List Int) (n hn : Nat) (h : hashes = (hn : Int)) (hk : n < l.length) : accK bits hashes l n hn = accF bits hashes (l.take (n + 1)) := by
  rw [posA_snoc l bits hashes n hk]
  unfold accK
  congr 1
  refine List.ext_getElem (by simp [h]) (fun i h1 h2 => by simp)
structure RMk (w : World) (bf rb g q : Nat) (bits hashes : Int) (wr : World) (L : List Nat) : Prop where
  fr : Fr [] w wr
  r : wr.heap[rb]? = some (.cells #[.int .i64 0, .int .i64 0, .slice none 0 0] 25 (0, 0))
  f : wr.heap[bf]? = some (.cells #[.int .i64 bits, .int .i64 hashes, .slice (some ⟨g, 0, none⟩) q q] 25 (0, 0))
  o : OwnW w.heap.size wr (.slice (some ⟨g, 0, none⟩) q q) L
theorem RMk.fr0 {w A B : World} {bf rb g q : Nat} {bits hashes : Int} {L : List Nat} (h : RMk w bf rb g q bits hashes A L) (hf : Fr [] A B) : RMk w bf rb g q bits hashes B L :=
  ⟨h.fr.trans hf (by simp), hf.at h.r (by simp), hf.at h.f (by simp), h.o.fr hf (by simp)⟩
theorem RMk.set {w A : World} {bf rb g q : Nat} {bits hashes : Int} {L : List Nat} (h : RMk w bf rb g q bits hashes A L) (hl : L.length = q) (p : Nat) (x : Nat) (hx : x = L.getD (p / 64) 0 ||| 2 ^ (p % 64)) (hgr : g ≠ rb) (hgf : g ≠ bf) :
    RMk w bf rb g q bits hashes (A.setCell ⟨g, p / 64, none⟩ (.int .u64 (x : Int))) (setW L p) := by
  obtain ⟨cur, h1, hg, h3, h4, h5, h6⟩ := h.o.formN hl
  refine ⟨h.fr.setCell _ _ (by right; exact h1), heap_other h.r _ _ hgr, heap_other h.f _ _ hgf, ?_⟩
  unfold setW
  rw [hx]
  exact ownW_set h1 hg hl h3 h4 h5 h6 _

set_option maxRecDepth 100000 in
set_option maxHeartbeats 4000000 in
theorem rmake36_any (v : Value) (l : List Int) (bits hashes : Int) (w : World) (hv : Zs w v l) (hi : ∀ s ∈ l, -9223372036854775808 ≤ s ∧ s ≤ 9223372036854775807) :
    Calls Tryz.prog 14 #[v, .int .i64 bits, .int .i64 hashes] w (MakePost w l bits hashes) := by
  obtain ⟨la, lcap, rfl, hll, hlc, hla⟩ := hv.form
  have HV := Lib.hid hv
  have HI := Lib.hid hi
  clear hv hi
  obtain ⟨W0, hW0⟩ : ∃ W0, W0 = w.alloc (.cells #[.int .i64 0, .int .i64 0, .slice none 0 0] 25) := ⟨_, rfl⟩
  obtain ⟨rb, erb⟩ : ∃ rb, rb = w.heap.size := ⟨_, rfl⟩
  have h0 : Fr [] w W0 := by rw [hW0]; exact (Fr.refl [] w).alloc _
  have hr0 : W0.heap[rb]? = some (.cells #[.int .i64 0, .int .i64 0, .slice none 0 0] 25 (0, 0)) := by rw [hW0, erb]; exact heap_new rfl
  go_enter Tryz.func14, Tryz.ntmps14
  go_wp2_with fail
  rw [← hW0, ← erb]
  have ERB := Lib.hid erb
  clear hW0 erb
  refine (rform36_any bits hashes W0).mono ?_
  rintro e w1 ⟨rfl, rfl⟩
  obtain ⟨fo, efo⟩ : ∃ fo, fo = formF bits hashes := ⟨_, rfl⟩
  rw [← efo]
  have HF := Lib.hid efo
  clear efo
  cases fo with
  | false =>
    have c0 := row_cell hr0 0
    have c1 := row_cell hr0 1
    have c2 := row_cell hr0 2
    have d0 := row_free hr0 0
    have d1 := row_free hr0 1
    have d2 := row_free hr0 2
    simp at c0 c1 c2
    have hX : Fr [] w (((W0.setCell ⟨rb, 0, none⟩ (.int .i64 0)).setCell ⟨rb, 1, none⟩ (.int .i64 0)).setCell ⟨rb, 2, none⟩ (.slice none 0 0)) := h0.store3 rb (by right; simp [ERB.out]) _ _ _
    have HX := Lib.hid hX
    have HRX := Lib.hid (row_set (row_set (row_set hr0 0 (.int .i64 0)) 1 (.int .i64 0)) 2 (.slice none 0 0))
    clear hX hr0
    go_wp2_with fail
    have x0 := row_cell HRX.out 0
    have x1 := row_cell HRX.out 1
    have x2 := row_cell HRX.out 2
    simp at x0 x1 x2
    refine bodyPost_ret (v := .tuple #[zeroF, .int .i64 1]) ?_ rfl ⟨fun h => absurd (HF.out.trans h) (by decide), fun _ => rfl, HX.out.toBelow (by simp)⟩
    unfold zeroF
    rw [results_cell_tmp rfl]
    go_simp
  | true =>
    have hp := formF_parts HF.out.symm
    have HP := Lib.hid hp
    obtain ⟨q, eq, hq⟩ : ∃ q : Nat, bits / 64 = (q : Int) ∧ q ≤ 1000000 := ⟨(bits / 64).toNat, by omega, by omega⟩
    obtain ⟨hn, ehn, hn8⟩ : ∃ hn : Nat, hashes = (hn : Int) ∧ hn ≤ 8 := ⟨hashes.toNat, by omega, by omega⟩
    have e1 : bits.tdiv 64 = (q : Int) := by rw [Int.tdiv_eq_ediv_of_nonneg (by omega)]; exact eq
    have e2 : IntKind.i64.wrap (q : Int) = (q : Int) := IntWalk.i64_in _ (by omega)
    have EQ := Lib.hid eq
    have EHN := Lib.hid ehn
    have H0 := Lib.hid h0
    have HR0 := Lib.hid hr0
    clear hp eq h0 hr0 ehn
    obtain ⟨i0, hi0, hz0, hz1, hz2⟩ := info_parts wInfo
    go_wp2_with (at_make; go_loud (refine wpList_make_full _ rfl (.tmp 20) (.tmp 20) 23 rfl W0.heap.size 71 i0 (.int .u64 0) 1 Tryz.underlying23 hi0 hz0 hz1 .i64 .i64 (q : Int) (q : Int) q rfl rfl rfl rfl (by rw [hz2]; omega) (by unfold maxLen; omega) (Nat.le_refl _) ?_))
    intro w2 hown hgrow
    have hf2 : Fr [] W0 w2 := (Fr.refl [] W0).grown hgrow (fun r e => by cases e)
    have ho2 : OwnW W0.heap.size w2 (.slice (some ⟨W0.heap.size, 0, none⟩) q q) (List.replicate q 0) := by
      rw [toList_madeCells_one] at hown
      unfold OwnW
      rw [List.length_replicate, List.map_replicate]
      exact hown
    obtain ⟨g, eg⟩ : ∃ g, g = W0.heap.size := ⟨_, rfl⟩
    rw [← eg] at ho2 ⊢
    have HO2 := Lib.hid ho2
    clear hown hgrow hi0 hz0 hz1 hz2 ho2
    have EG := Lib.hid eg
    clear eg
    go_wp2_with fail
    obtain ⟨bf, ebf⟩ : ∃ bf, bf = w2.heap.size := ⟨_, rfl⟩
    obtain ⟨w3, hw3⟩ : ∃ w3, w3 = w2.alloc (.cells #[.int .i64 bits, .int .i64 hashes, .slice (some ⟨g, 0, none⟩) q q] 25) := ⟨_, rfl⟩
    have hgrb : g ≠ rb := by have := lt_of_block HR0.out; have := EG.out; omega
    have hgbf : g ≠ bf := by have := HO2.out.lt; omega
    have hqe : (bits / 64).toNat = q := by have := EQ.out; omega
    have HI3 : Hid (RMk w bf rb g q bits hashes w3 (accF bits hashes (l.take 0))) := Lib.hid (by
      have hf23 : Fr [] w2 w3 := by rw [hw3]; exact (Fr.refl [] w2).alloc _
      refine ⟨(H0.out.trans hf2 (by simp)).trans hf23 (by simp), hf23.at (hf2.at HR0.out (by simp)) (by simp), by rw [hw3, ebf]; exact heap_new rfl, ?_⟩
      rw [show accF bits hashes (l.take 0) = List.replicate q 0 by
        unfold accF
        rw [List.take_zero, hqe]
        rfl]
      have h2 := HO2.out.fr hf23 (by simp)
      rcases h2.form with ⟨h0, _⟩ | ⟨g', cap', cur, h0, hb, hgg, h3, h4, h5, h6⟩
      · cases h0
      · exact ⟨h2.1, Or.inr ⟨g', cap', cur, h0, by have := H0.out.size; have := EG.out; omega, hgg, h3, h4, by simpa using h5, by simpa using h6⟩⟩)
    rw [← hw3, ← ebf]
    clear hw3 ebf hf2
    have HGR := Lib.hid hgrb
    have HGF := Lib.hid hgbf
    clear hgrb hgbf
    go_loopg [9, 10, 11] l.length (fun gh i u1 u2 wr => ∃ n : Nat, n ≤ l.length ∧ gh = l.length - n ∧ i = .int .i64 (n : Int) ∧ RMk w bf rb g q bits hashes wr (accF bits hashes (l.take n)))
    case atStart => exact ⟨0, by omega, by omega, rfl, HI3.out⟩
    case round =>
      clear HI3
      obtain ⟨n, hnl, hgh, rfl, hI⟩ := hrel
      have HG := Lib.hid hgh
      have HRI := Lib.hid hI
      clear hgh hI
      by_cases hlt : n < l.length
      · have t1 : decide ((n : Int) < (l.length : Int)) = true := by simp; omega
        obtain ⟨b, off, rfl⟩ := hla n hlt
        have cs0 := (HV.out.fr0 HRI.out.fr).cell n hlt
        have HCS := Lib.hid (HV.out)
        have HSR := Lib.hid (HI.out _ (getD_mem l n 0 hlt))
        have HEND := Lib.hid (accK_end bits hashes l n hn EHN.out hlt)
        have HSU := Lib.hid (accK_succ bits hashes l n)
        have HKL := Lib.hid (accK_len bits hashes l n)
        have HKW := Lib.hid (accK_lt bits hashes l n)
        have HKZ := Lib.hid (accK_zero bits hashes l n)
        have HCELL : Hid (∀ W', Fr [] w W' → W'.cell? ⟨b, off + n, none⟩ = some (.int .i64 (l.getD n 0))) := Lib.hid (fun W' hf => (HV.out.fr0 hf).cell n hlt)
        generalize accK bits hashes l n = AK at HEND HSU HKL HKW HKZ
        generalize l.getD n 0 = s at HSR HSU HCELL
        clear cs0 HCS
        go_wp2_with fail
        go_loopg [10, 11] hn (fun gh i u wr => ∃ k : Nat, k ≤ hn ∧ gh = hn - k ∧ i = .int .i64 (k : Int) ∧ RMk w bf rb g q bits hashes wr (AK k))
        case atStart => exact ⟨0, by omega, by omega, rfl, by rw [HKZ.out]; exact HRI.out⟩
        case round =>
          clear HRI
          obtain ⟨k, hk, hgh, rfl, hI⟩ := hrel
          have HG2 := Lib.hid hgh
          have HRI := Lib.hid hI
          clear hgh hI
          by_cases hlt2 : k < hn
          · have t2 : decide ((k : Int) < hashes) = true := by have := EHN.out; simp; omega
            have i0 : (0 : Int) ≤ (n : Int) := by omega
            have i1 : (n : Int) < (l.length : Int) := by omega
            have cs := HCELL.out wr HRI.out.fr
            have HC := Lib.hid (rpos36_any s bits k wr HSR.out (by omega) ⟨HP.out.1, HP.out.2.1⟩)
            have hpx := posF_lt s (show 1 ≤ bits by have := HP.out; omega) k
            have hpb := HP.out.2.1
            have hpq := EQ.out
            have HS1 := Lib.hid (HSU.out k)
            have hL := HKL.out k
            have HW := Lib.hid (HKW.out k)
            generalize AK k = L at HRI HS1 hL HW
            generalize posF s bits k = p at hpx HS1 HC ⊢
            go_wp2_with fail
            refine HC.out.mono ?_
            rintro e w5 ⟨rfl, hb5⟩
            have HR5 := Lib.hid (HRI.out.fr0 (Fr.ofBelow hb5))
            clear cs hb5 HRI HC
            obtain ⟨cur, h1, hg, h3, h4, h5, h6⟩ := HR5.out.o.formN (by omega)
            obtain ⟨i, j, hi, hj⟩ : ∃ i j, i = p / 64 ∧ j = p % 64 := ⟨_, _, rfl, rfl⟩
            have e1p : (p : Int).tdiv 64 = (i : Int) := by rw [Int.tdiv_eq_ediv_of_nonneg (by omega)]; omega
            have e2p : (p : Int).tmod 64 = (j : Int) := by rw [Int.tmod_eq_emod_of_nonneg (by omega)]; omega
            have w1 : IntKind.i64.wrap (i : Int) = (i : Int) := IntWalk.i64_in _ (by omega)
            have w2 : IntKind.i64.wrap (j : Int) = (j : Int) := IntWalk.i64_in _ (by omega)
            have hj64 : j < 64 := by omega
            have hiq : i < q := by have := HP.out.2.2.1; omega
            obtain ⟨x, hx⟩ : ∃ x, x = L.getD i 0 := ⟨_, rfl⟩
            have hx64 : x < 18446744073709551616 := by rw [hx]; exact HW.out.at i
            have cf : w5.drew.cell? ⟨bf, 2, none⟩ = some (.slice (some ⟨g, 0, none⟩) q q) := by
              have : w5.drew.heap[bf]? = _ := HR5.out.f
              rw [row_cell this 2]; rfl
            have cq : w5.drew.cell? ⟨g, i, none⟩ = some (.int .u64 (x : Int)) := by
              have h7 : w5.drew.heap[g]? = _ := hg
              rw [row_cell h7 i, hx]
              exact wrdV_at h6 (by omega) i (by omega)
            have fq : w5.drew.frozen? ⟨g, i, none⟩ = false := row_free (show w5.drew.heap[g]? = _ from hg) i
            have j0 : (0 : Int) ≤ (i : Int) := by omega
            have j1 : (i : Int) < (q : Int) := by omega
            have HV2 : Hid (Go.bits .or .u64 (x : Int) (IntKind.u64.wrap (2 ^ j)) = ((x ||| 2 ^ j : Nat) : Int)) := Lib.hid (by
              have hp : 2 ^ j < 18446744073709551616 := Nat.lt_of_lt_of_le (Nat.pow_lt_pow_right (by decide) hj64) (by decide)
              rw [show ((2 : Int) ^ j) = ((2 ^ j : Nat) : Int) by simp]
              generalize 2 ^ j = p at hp ⊢
              rw [show IntKind.u64.wrap (p : Int) = (p : Int) by rw [IntKind.wrap_u64]; omega]
              exact u64_or_nat _ _ hx64 hp)
            have HRS : Hid (RMk w bf rb g q bits hashes ((w5.setCell ⟨g, i, none⟩ (.int .u64 ((x ||| 2 ^ j : Nat) : Int))).drew) (AK (k + 1))) := Lib.hid (by
              rw [HS1.out, hi]
              exact (HR5.out.set (by omega) p _ (by rw [hx, hi, hj]) HGR.out HGF.out).fr0 ((Fr.refl [] _).drew))
            clear hx hi hj h1 hg h3 h4 h5 h6 hpx hL hpq hpb
            go_wp2_with fail
            go_region
            all_goals
              rw [HV2.out]
              go_wp2_with fail
              go_roundg (hn - (k + 1))
              case measure => have := HG2.out; omega
              case rel => exact ⟨k + 1, by omega, rfl, by go_num, HRS.out⟩
          · obtain rfl : k = hn := by omega
            have t2 : decide ((k : Int) < hashes) = false := by have := EHN.out; simp; omega
            go_wp2_with fail
            go_roundg (l.length - (n + 1))
            case measure => have := HG.out; omega
            case rel => exact ⟨n + 1, by omega, rfl, by go_num, by rw [← HEND.out]; exact HRI.out⟩
      · obtain rfl : n = l.length := by omega
        have t1 : decide ((l.length : Int) < (l.length : Int)) = false := by simp
        have HTA : Hid (accF bits hashes (l.take l.length) = makeF l bits hashes) := Lib.hid (by rw [List.take_length]; rfl)
        rw [HTA.out] at HRI
        have hbf := HRI.out.f
        have hrb := HRI.out.r
        have c0 := row_cell hbf 0
        have c1 := row_cell hbf 1
        have c2 := row_cell hbf 2
        have k0 := row_cell hrb 0
        have k1 := row_cell hrb 1
        have k2 := row_cell hrb 2
        have d0 := row_free hrb 0
        have d1 := row_free hrb 1
        have d2 := row_free hrb 2
        simp at c0 c1 c2 k0 k1 k2
        have HX := Lib.hid (HRI.out.fr.store3 rb (by right; simp [ERB.out]) (.int .i64 bits) (.int .i64 hashes) (.slice (some ⟨g, 0, none⟩) q q))
        have HRX := Lib.hid (row_set (row_set (row_set hrb 0 (.int .i64 bits)) 1 (.int .i64 hashes)) 2 (.slice (some ⟨g, 0, none⟩) q q))
        have HOX : Hid (OwnW w.heap.size (((wr.setCell ⟨rb, 0, none⟩ (.int .i64 bits)).setCell ⟨rb, 1, none⟩ (.int .i64 hashes)).setCell ⟨rb, 2, none⟩ (.slice (some ⟨g, 0, none⟩) q q)) (.slice (some ⟨g, 0, none⟩) q q) (makeF l bits hashes)) := Lib.hid (HRI.out.o.fr ((Fr.refl [rb] wr).store3 rb (by simp) _ _ _) (by intro k hk; simp [Value.ownBlock] at hk; have := HGR.out; simp; omega))
        clear hbf hrb
        go_wp2_with fail
        have x0 := row_cell HRX.out 0
        have x1 := row_cell HRX.out 1
        have x2 := row_cell HRX.out 2
        simp at x0 x1 x2
        refine bodyPost_ret (v := .tuple #[.agg #[.int .i64 bits, .int .i64 hashes, .slice (some ⟨g, 0, none⟩) q q], .int .i64 0]) ?_ rfl ⟨fun _ => ⟨_, rfl, HOX.out⟩, fun h => absurd (HF.out.trans h) (by decide), HX.out.toBelow (by simp)⟩
        rw [results_cell_tmp rfl]
        go_simp
end Go.Proofs.YtffldampcbfgjaaGreatDoor
namespace Go.Proofs.YtffldampcbfgjaaGreatDoor
open Go.RowKit

theorem ws_one {W : World} {b x : Nat} {t : TypeId} (h : W.heap[b]? = some (.cells #[.int .u64 (x : Int)] t (0, 0))) : Ws W (.slice (some ⟨b, 0, none⟩) 1 1) [x] := by
  refine Or.inr ⟨b, 0, 1, rfl, by simp, by decide, lt_of_block h, fun i hi => ?_⟩
  rw [Nat.zero_add, row_cell h i]
  match i, hi with
  | 0, _ => rfl
  | i + 1, hi => simp at hi
set_option maxRecDepth 100000 in
set_option maxHeartbeats 4000000 in
theorem rjoin36_any (av bv : Value) (a b : Flt) (w : World) (ha : FltR w av a) (hb : FltR w bv b) (wa : W64 a.words) (wb : W64 b.words) :
    Calls Tryz.prog 16 #[av, bv] w (JoinPost w a b) := by
  obtain ⟨v1, rfl, hw1⟩ := ha
  obtain ⟨v2, rfl, hw2⟩ := hb
  obtain ⟨a1, cap1, rfl, hl1, hc1, hf1⟩ := hw1.form
  obtain ⟨a2, cap2, rfl, hl2, hc2, hf2⟩ := hw2.form
  have HW1 := Lib.hid hw1
  have HW2 := Lib.hid hw2
  clear hw1 hw2
  obtain ⟨W0, hW0⟩ : ∃ W0, W0 = ((w.alloc (.cells #[.int .i64 a.bits, .int .i64 a.hashes, .slice a1 a.words.length cap1] 25)).alloc (.cells #[.int .i64 b.bits, .int .i64 b.hashes, .slice a2 b.words.length cap2] 25)).alloc (.cells #[.int .i64 0, .int .i64 0, .slice none 0 0] 25) := ⟨_, rfl⟩
  obtain ⟨p, ep⟩ : ∃ p, p = w.heap.size := ⟨_, rfl⟩
  have h0 : Fr [] w W0 := by rw [hW0]; exact (((Fr.refl [] w).alloc _).alloc _).alloc _
  have hp0 : W0.heap[p]? = some (.cells #[.int .i64 a.bits, .int .i64 a.hashes, .slice a1 a.words.length cap1] 25 (0, 0)) := by rw [hW0, ep]; exact heap_past _ (heap_past _ (heap_new rfl))
  have hp1 : W0.heap[p + 1]? = some (.cells #[.int .i64 b.bits, .int .i64 b.hashes, .slice a2 b.words.length cap2] 25 (0, 0)) := by rw [hW0, ep]; exact heap_past _ (heap_new (by simp))
  have hp2 : W0.heap[p + 1 + 1]? = some (.cells #[.int .i64 0, .int .i64 0, .slice none 0 0] 25 (0, 0)) := by rw [hW0, ep]; exact heap_new (by simp)
  have c0 := row_cell hp0 0
  have c1 := row_cell hp0 1
  have c2 := row_cell hp0 2
  simp at c0 c1 c2
  rw [hW0, ep] at c0 c1 c2
  go_enter Tryz.func16, Tryz.ntmps16
  go_wp2_with fail
  rw [← hW0, ← ep]
  clear c0 c1 c2
  refine (rvalid36_any _ a W0 ⟨_, rfl, HW1.out.fr0 h0⟩).mono ?_
  rintro e w1 ⟨rfl, hb1⟩
  have h1 : Fr [] w w1 := h0.below hb1 h0.size
  have hq0 := (Fr.ofBelow (X := []) hb1).at hp0 (by simp)
  have hq1 := (Fr.ofBelow (X := []) hb1).at hp1 (by simp)
  have hq2 := (Fr.ofBelow (X := []) hb1).at hp2 (by simp)
  have EP := Lib.hid ep
  clear hb1 hp0 hp1 hp2 hW0 h0 ep
  have c0 := row_cell hq0 0
  have c1 := row_cell hq0 1
  have c2 := row_cell hq0 2
  simp at c0 c1 c2
  have d0 := row_cell hq1 0
  have d1 := row_cell hq1 1
  have d2 := row_cell hq1 2
  simp at d0 d1 d2
  have k0 := row_cell hq2 0
  have k1 := row_cell hq2 1
  have k2 := row_cell hq2 2
  simp at k0 k1 k2
  have f0 := row_free hq2 0
  have f1 := row_free hq2 1
  have f2 := row_free hq2 2
  have hX : Fr [] w (((w1.setCell ⟨p + 1 + 1, 0, none⟩ (.int .i64 0)).setCell ⟨p + 1 + 1, 1, none⟩ (.int .i64 0)).setCell ⟨p + 1 + 1, 2, none⟩ (.slice none 0 0)) := ((h1.setCell _ _ (by right; have := EP.out; simp; omega)).setCell _ _ (by right; have := EP.out; simp; omega)).setCell _ _ (by right; have := EP.out; simp; omega)
  have HX := Lib.hid (hX.toBelow (by simp))
  have hrX := row_set (row_set (row_set hq2 0 (.int .i64 0)) 1 (.int .i64 0)) 2 (.slice none 0 0)
  have HRX := Lib.hid hrX
  clear hX hrX
  obtain ⟨va, eva⟩ : ∃ va, va = validF a := ⟨_, rfl⟩
  rw [← eva]
  have HVA := Lib.hid eva
  clear eva
  cases va with
  | false =>
    have HO : Hid (okJ a b = false) := Lib.hid (by unfold okJ; rw [← HVA.out]; rfl)
    go_wp2_with fail
    have x0 := row_cell HRX.out 0
    have x1 := row_cell HRX.out 1
    have x2 := row_cell HRX.out 2
    simp at x0 x1 x2
    refine bodyPost_ret (v := .tuple #[zeroF, .int .i64 1]) ?_ rfl ⟨fun h => absurd (HO.out.symm.trans h) (by decide), fun _ => rfl, HX.out⟩
    unfold zeroF
    rw [results_cell_tmp rfl]
    go_simp
  | true =>
    go_wp2_with fail
    refine (rvalid36_any _ b w1 ⟨_, rfl, HW2.out.fr0 h1⟩).mono ?_
    rintro e w2 ⟨rfl, hb2⟩
    have h1 : Fr [] w w2 := h1.below hb2 h1.size
    have hq0 := (Fr.ofBelow (X := []) hb2).at hq0 (by simp)
    have hq1 := (Fr.ofBelow (X := []) hb2).at hq1 (by simp)
    have hq2 := (Fr.ofBelow (X := []) hb2).at hq2 (by simp)
    clear hb2 c0 c1 c2 d0 d1 d2 k0 k1 k2 f0 f1 f2 HX HRX
    have c0 := row_cell hq0 0
    have c1 := row_cell hq0 1
    have c2 := row_cell hq0 2
    simp at c0 c1 c2
    have d0 := row_cell hq1 0
    have d1 := row_cell hq1 1
    have d2 := row_cell hq1 2
    simp at d0 d1 d2
    have k0 := row_cell hq2 0
    have k1 := row_cell hq2 1
    have k2 := row_cell hq2 2
    simp at k0 k1 k2
    have f0 := row_free hq2 0
    have f1 := row_free hq2 1
    have f2 := row_free hq2 2
    have hX : Fr [] w (((w2.setCell ⟨p + 1 + 1, 0, none⟩ (.int .i64 0)).setCell ⟨p + 1 + 1, 1, none⟩ (.int .i64 0)).setCell ⟨p + 1 + 1, 2, none⟩ (.slice none 0 0)) := ((h1.setCell _ _ (by right; have := EP.out; simp; omega)).setCell _ _ (by right; have := EP.out; simp; omega)).setCell _ _ (by right; have := EP.out; simp; omega)
    have HX := Lib.hid (hX.toBelow (by simp))
    have hrX := row_set (row_set (row_set hq2 0 (.int .i64 0)) 1 (.int .i64 0)) 2 (.slice none 0 0)
    have HRX := Lib.hid hrX
    clear hX hrX
    obtain ⟨vb, evb⟩ : ∃ vb, vb = validF b := ⟨_, rfl⟩
    rw [← evb]
    have HVB := Lib.hid evb
    clear evb
    cases vb with
    | false =>
      have HO : Hid (okJ a b = false) := Lib.hid (by unfold okJ; rw [← HVA.out, ← HVB.out]; rfl)
      go_wp2_with fail
      have x0 := row_cell HRX.out 0
      have x1 := row_cell HRX.out 1
      have x2 := row_cell HRX.out 2
      simp at x0 x1 x2
      refine bodyPost_ret (v := .tuple #[zeroF, .int .i64 1]) ?_ rfl ⟨fun h => absurd (HO.out.symm.trans h) (by decide), fun _ => rfl, HX.out⟩
      unfold zeroF
      rw [results_cell_tmp rfl]
      go_simp
    | true =>
      by_cases hbits : a.bits = b.bits
      case neg =>
        have u1 : (a.bits != b.bits) = true := by simpa using hbits
        have HO : Hid (okJ a b = false) := Lib.hid (by unfold okJ; rw [← HVA.out, ← HVB.out, decide_eq_false hbits]; rfl)
        go_wp2_with fail
        have x0 := row_cell HRX.out 0
        have x1 := row_cell HRX.out 1
        have x2 := row_cell HRX.out 2
        simp at x0 x1 x2
        refine bodyPost_ret (v := .tuple #[zeroF, .int .i64 1]) ?_ rfl ⟨fun h => absurd (HO.out.symm.trans h) (by decide), fun _ => rfl, HX.out⟩
        unfold zeroF
        rw [results_cell_tmp rfl]
        go_simp
      have u1 : (a.bits != b.bits) = false := by simpa using hbits
      have HB1 := Lib.hid hbits
      clear hbits
      by_cases hhash : a.hashes = b.hashes
      case neg =>
        have u2 : (a.hashes != b.hashes) = true := by simpa using hhash
        have HO : Hid (okJ a b = false) := Lib.hid (by unfold okJ; rw [← HVA.out, ← HVB.out, decide_eq_true HB1.out, decide_eq_false hhash]; rfl)
        go_wp2_with fail
        have x0 := row_cell HRX.out 0
        have x1 := row_cell HRX.out 1
        have x2 := row_cell HRX.out 2
        simp at x0 x1 x2
        refine bodyPost_ret (v := .tuple #[zeroF, .int .i64 1]) ?_ rfl ⟨fun h => absurd (HO.out.symm.trans h) (by decide), fun _ => rfl, HX.out⟩
        unfold zeroF
        rw [results_cell_tmp rfl]
        go_simp
      have u2 : (a.hashes != b.hashes) = false := by simpa using hhash
      have HO : Hid (okJ a b = true) := Lib.hid (by unfold okJ; rw [← HVA.out, ← HVB.out, decide_eq_true HB1.out, decide_eq_true hhash]; rfl)
      clear hhash HX HRX
      have hva := validF_parts HVA.out.symm
      have hvb := validF_parts HVB.out.symm
      have hpa := formF_parts hva.1
      have hla := hva.2
      have hlb := hvb.2
      rw [← HB1.out] at hlb
      have hn1 : 1 ≤ a.words.length := by omega
      have hnn : a.words.length ≤ 100000 := by omega
      have hlab : b.words.length = a.words.length := by omega
      have HLAB := Lib.hid hlab
      clear hva hvb hla hlb hlab
      have HP := Lib.hid hpa
      clear hpa
      have hwn : w.heap.size ≤ w2.heap.size := h1.size
      have h20 := hq0
      go_wp2_with fail
      obtain ⟨fb, efb⟩ : ∃ fb, fb = w2.heap.size := ⟨_, rfl⟩
      obtain ⟨w3, hw3⟩ : ∃ w3, w3 = w2.alloc (.cells #[.int .i64 a.bits, .int .i64 a.hashes, .slice none 0 0] 25) := ⟨_, rfl⟩
      have hw23 : Fr [] w2 w3 := by rw [hw3]; exact (Fr.refl [] w2).alloc _
      have hfb0 : w3.heap[fb]? = some (.cells #[.int .i64 a.bits, .int .i64 a.hashes, .slice none 0 0] 25 (0, 0)) := by rw [hw3, efb]; exact heap_new rfl
      rw [← hw3, ← efb]
      have hfb3 : fb < w3.heap.size := lt_of_block hfb0
      have hfb2 : w2.heap.size ≤ fb := by omega
      have HFB0 := Lib.hid hfb0
      have HW23 := Lib.hid hw23
      have hw3s : w.heap.size ≤ w3.heap.size := (h1.trans hw23 (by simp)).size
      have HQ0 := Lib.hid hq0
      have HQ1 := Lib.hid hq1
      have HQ2 := Lib.hid hq2
      have e20 := c2
      have d20 := d2
      have HH1 := Lib.hid h1
      clear hw3 efb hfb0 c0 c1 c2 d0 d1 d2 k0 k1 k2 f0 f1 f2 hq0 hq1 hq2 u1 u2 h20 h1
      go_loopg [7] (a.words.length) (fun gh i wr => ∃ (k : Nat) (fv : Value), k ≤ a.words.length ∧ gh = a.words.length - k ∧ i = .int .i64 (k : Int) ∧ wr.heap[fb]? = some (.cells #[.int .i64 a.bits, .int .i64 a.hashes, fv] 25 (0, 0)) ∧ OwnW w3.heap.size wr fv ((joinW a.words b.words).take k) ∧ Fr [] w2 wr ∧ w3.heap.size ≤ wr.heap.size)
      case atStart => exact ⟨0, _, by omega, by omega, rfl, HFB0.out, by simpa using OwnW.nil, HW23.out, Nat.le_refl _⟩
      case round =>
        obtain ⟨k, fv, hk, hgh, rfl, hfbr, hog, hfr, hsz⟩ := hrel
        have HGH := Lib.hid hgh
        have HOG := Lib.hid hog
        clear hgh hog
        have g2 := row_cell hfbr 2
        simp at g2
        have e2 := hfr.cell e20 (by simp)
        by_cases hlt : k < a.words.length
        · have t1 : decide ((k : Int) < (a.words.length : Int)) = true := by simp; omega
          have hlab := HLAB.out
          obtain ⟨ab, aoff, rfl⟩ := hf1 k hlt
          obtain ⟨bb, boff, rfl⟩ := hf2 k (by omega)
          have ca0 : w2.cell? ⟨ab, aoff + k, none⟩ = some (.int .u64 (a.words.getD k 0 : Nat)) := by
            rcases HW1.out with ⟨h0, _⟩ | ⟨b', off', cap', h0, _, _, _, h4⟩
            · exact absurd (congrArg List.length h0) (by simp only [List.length_nil]; omega)
            · cases h0; exact HH1.out.cell (h4 k hlt) (by simp)
          have cb0 : w2.cell? ⟨bb, boff + k, none⟩ = some (.int .u64 (b.words.getD k 0 : Nat)) := by
            rcases HW2.out with ⟨h0, _⟩ | ⟨b', off', cap', h0, _, _, _, h4⟩
            · exact absurd (congrArg List.length h0) (by simp only [List.length_nil]; omega)
            · cases h0; exact HH1.out.cell (h4 k (by omega)) (by simp)
          have HSN : Hid ((joinW a.words b.words).take (k + 1) = (joinW a.words b.words).take k ++ [a.words.getD k 0 ||| b.words.getD k 0]) := Lib.hid (by
            rw [take_snoc' _ k 0 (by rw [joinW_len _ _ (by omega)]; exact hlt), joinW_at (by omega)])
          have hxa := wa.at k
          have hxb := wb.at k
          have hor := u64_or_nat _ _ hxa hxb
          have hlk : ((joinW a.words b.words).take k).length + 1 < 1000000 := by rw [List.length_take]; omega
          generalize a.words.getD k 0 = xa at ca0 hor HSN
          generalize b.words.getD k 0 = xb at cb0 hor HSN
          have ca := hfr.cell ca0 (by simp)
          have cb := hfr.cell cb0 (by simp)
          have d2 := hfr.cell d20 (by simp)
          have hfrw : Fr [] w wr := HH1.out.trans hfr (by simp)
          have i0 : (0 : Int) ≤ (k : Int) := by omega
          have i1 : (k : Int) < (b.words.length : Int) := by omega
          have i2 : (k : Int) < (a.words.length : Int) := by omega
          have hw23 := HW23.out
          have hmx : Tryz.prog.follows .mixedOrders = true := by kernel_rfl
          clear hxa hxb hlab
          go_wp2_with fail
          have hD : Fr [] wr wr.drew := (Fr.refl [] wr).drew
          have hS0 : wr.drew.cell? ⟨fb, 2, none⟩ = some fv ∧ wr.drew.cell? ⟨p, 2, none⟩ = some (.slice (some ⟨ab, aoff, none⟩) a.words.length cap1) ∧ wr.drew.cell? ⟨p + 1, 2, none⟩ = some (.slice (some ⟨bb, boff, none⟩) b.words.length cap2) ∧ wr.drew.cell? ⟨ab, aoff + k, none⟩ = some (.int .u64 (xa : Int)) ∧ wr.drew.cell? ⟨bb, boff + k, none⟩ = some (.int .u64 (xb : Int)) := ⟨g2, e2, d2, ca, cb⟩
          refine region_held 16 (fun W' => W'.cell? ⟨fb, 2, none⟩ = some fv ∧ W'.cell? ⟨p, 2, none⟩ = some (.slice (some ⟨ab, aoff, none⟩) a.words.length cap1) ∧ W'.cell? ⟨p + 1, 2, none⟩ = some (.slice (some ⟨bb, boff, none⟩) b.words.length cap2) ∧ W'.cell? ⟨ab, aoff + k, none⟩ = some (.int .u64 (xa : Int)) ∧ W'.cell? ⟨bb, boff + k, none⟩ = some (.int .u64 (xb : Int))) hmx ?_
          change Held _ _ _ _ _ _ 17 (Array.replicate 17 false) _ _
          have hwd : wr.drew.heap.size = wr.heap.size := rfl
          generalize wr.drew = wd at hS0 hD hwd ⊢
          have HWD := Lib.hid hwd
          clear hwd
          refine hd_take 0 (v := .pointer (some ⟨fb, 2, none⟩)) rfl (by kernel_rfl) (by kernel_rfl) (by kernel_rfl) rfl hS0 (fun W' hS => by go_simp) rfl ?_
          refine hd_take 2 (v := .pointer (some ⟨p, 2, none⟩)) rfl (by kernel_rfl) (by kernel_rfl) (by kernel_rfl) rfl hS0 (fun W' hS => by go_simp) rfl ?_
          refine hd_take 4 (v := .int .i64 (k : Int)) rfl (by kernel_rfl) (by kernel_rfl) (by kernel_rfl) rfl hS0 (fun W' hS => by go_simp) rfl ?_
          refine hd_take 7 (v := .pointer (some ⟨p + 1, 2, none⟩)) rfl (by kernel_rfl) (by kernel_rfl) (by kernel_rfl) rfl hS0 (fun W' hS => by go_simp) rfl ?_
          refine hd_take 9 (v := .int .i64 (k : Int)) rfl (by kernel_rfl) (by kernel_rfl) (by kernel_rfl) rfl hS0 (fun W' hS => by go_simp) rfl ?_
          try simp only [Act.put, List.setIfInBounds_toArray, List.set_cons_zero, List.set_cons_succ]
          refine hd_take 1 (v := fv) rfl (by kernel_rfl) (by kernel_rfl) (by kernel_rfl) rfl hS0 (fun W' hS => by obtain ⟨s0, s1, s2, s3, s4⟩ := hS; go_simp) rfl ?_
          refine hd_take 3 (v := .slice (some ⟨ab, aoff, none⟩) a.words.length cap1) rfl (by kernel_rfl) (by kernel_rfl) (by kernel_rfl) rfl hS0 (fun W' hS => by obtain ⟨s0, s1, s2, s3, s4⟩ := hS; go_simp) rfl ?_
          refine hd_take 8 (v := .slice (some ⟨bb, boff, none⟩) b.words.length cap2) rfl (by kernel_rfl) (by kernel_rfl) (by kernel_rfl) rfl hS0 (fun W' hS => by obtain ⟨s0, s1, s2, s3, s4⟩ := hS; go_simp) rfl ?_
          try simp only [Act.put, List.setIfInBounds_toArray, List.set_cons_zero, List.set_cons_succ]
          refine hd_take 5 (v := .pointer (some ⟨ab, aoff + k, none⟩)) rfl (by kernel_rfl) (by kernel_rfl) (by kernel_rfl) rfl hS0 (fun W' hS => by go_simp) rfl ?_
          refine hd_take 10 (v := .pointer (some ⟨bb, boff + k, none⟩)) rfl (by kernel_rfl) (by kernel_rfl) (by kernel_rfl) rfl hS0 (fun W' hS => by go_simp) rfl ?_
          try simp only [Act.put, List.setIfInBounds_toArray, List.set_cons_zero, List.set_cons_succ]
          refine hd_take 6 (v := .int .u64 (xa : Int)) rfl (by kernel_rfl) (by kernel_rfl) (by kernel_rfl) rfl hS0 (fun W' hS => by obtain ⟨s0, s1, s2, s3, s4⟩ := hS; go_simp) rfl ?_
          refine hd_take 11 (v := .int .u64 (xb : Int)) rfl (by kernel_rfl) (by kernel_rfl) (by kernel_rfl) rfl hS0 (fun W' hS => by obtain ⟨s0, s1, s2, s3, s4⟩ := hS; go_simp) rfl ?_
          try simp only [Act.put, List.setIfInBounds_toArray, List.set_cons_zero, List.set_cons_succ]
          refine hd_take 12 (v := .int .u64 ((xa ||| xb : Nat) : Int)) rfl (by kernel_rfl) (by kernel_rfl) (by kernel_rfl) rfl hS0 (fun W' hS => by go_simp) rfl ?_
          try simp only [Act.put, List.setIfInBounds_toArray, List.set_cons_zero, List.set_cons_succ]
          refine hd_one 13 (by kernel_rfl) rfl (by kernel_rfl) rfl (fun K' hK => ?_)
          go_simp
          have hfa := hD.alloc (.cells #[.int .u64 ((xa ||| xb : Nat) : Int)] 71)
          refine hK.out _ _ (fun _ => ⟨hfa.cell g2 (by simp), hfa.cell e2 (by simp), hfa.cell d2 (by simp), hfa.cell ca (by simp), hfa.cell cb (by simp)⟩) ?_
          clear hK K'
          try simp only [Act.put, List.setIfInBounds_toArray, List.set_cons_zero, List.set_cons_succ]
          have hone : Ws (wd.alloc (.cells #[.int .u64 ((xa ||| xb : Nat) : Int)] 71)) (.slice (some ⟨wd.heap.size, 0, none⟩) 1 1) [xa ||| xb] := ws_one (heap_new rfl)
          generalize wd.alloc (.cells #[.int .u64 ((xa ||| xb : Nat) : Int)] 71) = we at hone hfa ⊢
          have hfwe : Fr [] w we := hfrw.trans hfa (by simp)
          refine hd_one 14 (by kernel_rfl) rfl (by kernel_rfl) rfl (fun K' hK => ?_)
          refine wp_appWs (.tmp 44) (.tmp 56) rfl w3.heap.size fv (.slice (some ⟨wd.heap.size, 0, none⟩) 1 1) ((joinW a.words b.words).take k) [xa ||| xb] w (by kernel_rfl) (by kernel_rfl) hone (HOG.out.fr hfa (by simp)) hfwe hw3s (Nat.le_trans hsz hfa.size) hlk ?_
          intro v' w7 ho7 hf7 hg7
          obtain ⟨g7, c7, hv7⟩ := ho7.someN (by simp)
          rw [show ((joinW a.words b.words).take k ++ [xa ||| xb]).length = k + 1 by rw [List.length_append, List.length_take, joinW_len _ _ (by have := HLAB.out; omega)]; simp; omega] at hv7
          subst hv7
          have hnb : ∀ x, fv.ownBlock = some x → w3.heap.size ≤ x := fun x hx => (ownBlock_cells HOG.out x hx).1
          have hg7' : Fr [] w2 w7 := (hfr.trans hfa (by simp)).trans hg7 (fun y hy => Or.inr (by have := hnb y (by simpa using hy); have := hw23.size; omega))
          have hw7 : ∀ {q : Addr} {u : Value}, we.cell? q = some u → q.block < w3.heap.size → w7.cell? q = some u := fun hc hq => hg7.cell hc (fun hm => by have := hnb _ (by simpa using hm); omega)
          have q0 := hw7 (hfa.cell g2 (by simp)) hfb3
          have hfb7 := hg7.at (hfa.at hfbr (by simp)) (fun hm => by have := hnb _ (by simpa using hm); omega)
          refine hK.out _ _ (fun _ => ⟨q0, hg7'.cell e20 (by simp), hg7'.cell d20 (by simp), hg7'.cell ca0 (by simp), hg7'.cell cb0 (by simp)⟩) ?_
          clear hK K'
          try simp only [Act.put, List.setIfInBounds_toArray, List.set_cons_zero, List.set_cons_succ]
          refine hd_take 15 (v := .pointer (some ⟨fb, 2, none⟩)) rfl (by kernel_rfl) (by kernel_rfl) (by kernel_rfl) rfl ⟨q0, hg7'.cell e20 (by simp), hg7'.cell d20 (by simp), hg7'.cell ca0 (by simp), hg7'.cell cb0 (by simp)⟩ (fun W' hS => by go_simp) rfl ?_
          try simp only [Act.put, List.setIfInBounds_toArray, List.set_cons_zero, List.set_cons_succ]
          have y2 := row_free hfb7 2
          have hzs := row_set hfb7 2 (.slice (some ⟨g7, 0, none⟩) (k + 1) c7)
          refine hd_one 16 (by kernel_rfl) rfl (by kernel_rfl) rfl (fun K' hK => ?_)
          go_simp
          refine hK.out _ _ (fun h => absurd rfl h) ?_
          clear hK K'
          refine held_done (by kernel_rfl) ?_
          have HZS := Lib.hid hzs
          have HF7 : Hid (Fr [] w2 (w7.setCell ⟨fb, 2, none⟩ (.slice (some ⟨g7, 0, none⟩) (k + 1) c7))) := Lib.hid (hg7'.setCell _ _ (by right; exact hfb2))
          have HO7 : Hid (OwnW w3.heap.size (w7.setCell ⟨fb, 2, none⟩ (.slice (some ⟨g7, 0, none⟩) (k + 1) c7)) (.slice (some ⟨g7, 0, none⟩) (k + 1) c7) ((joinW a.words b.words).take (k + 1))) := Lib.hid (by
            rw [HSN.out]
            exact ho7.fr ((Fr.refl [fb] w7).setCell _ _ (by simp)) (fun x hx hm => by
              have := (ownBlock_cells ho7 x hx).1
              have := List.mem_singleton.1 hm
              omega))
          have hs7 : w3.heap.size ≤ (w7.setCell ⟨fb, 2, none⟩ (.slice (some ⟨g7, 0, none⟩) (k + 1) c7)).heap.size := by
            have h1 : (w7.setCell ⟨fb, 2, none⟩ (.slice (some ⟨g7, 0, none⟩) (k + 1) c7)).heap.size = w7.heap.size := by simp [World.setCell]
            rw [h1]
            exact Nat.le_trans (Nat.le_trans hsz hfa.size) hg7.size
          clear hzs ho7 hf7 hg7 hg7' q0 hfb7 hw7 hnb
          go_wp2_with fail
          go_roundg (a.words.length - (k + 1))
          case measure => have := HGH.out; omega
          case rel => exact ⟨k + 1, _, by omega, rfl, by go_num, HZS.out, HO7.out, HF7.out, hs7⟩
        · obtain rfl : k = a.words.length := by omega
          have t1 : decide ((a.words.length : Int) < (a.words.length : Int)) = false := by simp
          have hTA : (joinW a.words b.words).take a.words.length = joinW a.words b.words := List.take_of_length_le (by rw [joinW_len _ _ (by have := HLAB.out; omega)]; exact Nat.le_refl _)
          rw [hTA] at HOG
          obtain ⟨g, cap, rfl⟩ := HOG.out.someN (by rw [joinW_len _ _ (by have := HLAB.out; omega)]; omega)
          have hjl : (joinW a.words b.words).length = a.words.length := joinW_len _ _ (by have := HLAB.out; omega)
          rw [hjl] at HOG hfbr g2
          have g0 := row_cell hfbr 0
          have g1 := row_cell hfbr 1
          have hq2 := hfr.at (show w2.heap[p + 1 + 1]? = _ from HQ2.out) (by simp)
          have k0 := row_cell hq2 0
          have k1 := row_cell hq2 1
          have k2 := row_cell hq2 2
          simp at g0 g1 g2 k0 k1 k2
          have f0 := row_free hq2 0
          have f1 := row_free hq2 1
          have f2 := row_free hq2 2
          have HRX := Lib.hid (row_set (row_set (row_set hq2 0 (.int .i64 a.bits)) 1 (.int .i64 a.hashes)) 2 (.slice (some ⟨g, 0, none⟩) a.words.length cap))
          have HOX : Hid (OwnW w.heap.size (((wr.setCell ⟨p + 1 + 1, 0, none⟩ (.int .i64 a.bits)).setCell ⟨p + 1 + 1, 1, none⟩ (.int .i64 a.hashes)).setCell ⟨p + 1 + 1, 2, none⟩ (.slice (some ⟨g, 0, none⟩) a.words.length cap)) (.slice (some ⟨g, 0, none⟩) a.words.length cap) (joinW a.words b.words)) := Lib.hid (by
            have h2 := HOG.out.fr ((Fr.refl [p + 1 + 1] wr).store3 (p + 1 + 1) (by simp) (.int .i64 a.bits) (.int .i64 a.hashes) (.slice (some ⟨g, 0, none⟩) a.words.length cap)) (fun k hk hm => by
              have e1 := (ownBlock_cells HOG.out k hk).1
              have e2 := List.mem_singleton.1 hm
              have := lt_of_block HQ2.out
              have := HW23.out.size
              omega)
            rcases h2.form with ⟨h0, _⟩ | ⟨g', cap', cur, h0, hb, hgg, h3, h4, h5, h6⟩
            · cases h0
            · exact ⟨h2.1, Or.inr ⟨g', cap', cur, h0, by omega, hgg, h3, h4, by simpa using h5, by simpa using h6⟩⟩)
          have HFX := Lib.hid ((HH1.out.trans hfr (by simp)).store3 (p + 1 + 1) (by right; have := EP.out; omega) (.int .i64 a.bits) (.int .i64 a.hashes) (.slice (some ⟨g, 0, none⟩) a.words.length cap))
          clear hfbr hfr hq2
          go_wp2_with fail
          have x0 := row_cell HRX.out 0
          have x1 := row_cell HRX.out 1
          have x2 := row_cell HRX.out 2
          simp at x0 x1 x2
          refine bodyPost_ret (v := .tuple #[.agg #[.int .i64 a.bits, .int .i64 a.hashes, .slice (some ⟨g, 0, none⟩) a.words.length cap], .int .i64 0]) ?_ rfl ⟨fun _ => ⟨_, rfl, HOX.out⟩, fun h => absurd (HO.out.symm.trans h) (by decide), HFX.out.toBelow (by simp)⟩
          rw [results_cell_tmp rfl]
          go_simp
end Go.Proofs.YtffldampcbfgjaaGreatDoor
namespace Go.Proofs.YtffldampcbfgjaaGreatDoor
open Go.RowKit

theorem ba_wordF (a b : List UInt8) : (⟨a.toArray⟩ : ByteArray) ++ ⟨#[32]⟩ ++ ⟨b.toArray⟩ = ⟨(a ++ 32 :: b).toArray⟩ := by
  apply ByteArray.ext
  simp
/-- The first words of a filter's text. -/
def wordsK (f : Flt) (k : Nat) : List (List UInt8) := Lib.itoa f.bits :: Lib.itoa f.hashes :: (f.words.take k).map hexS
theorem wordsK_all (f : Flt) : wordsK f f.words.length = wordsF f := by unfold wordsK wordsF; rw [List.take_length]
theorem wordsK_succ (f : Flt) (k : Nat) (hk : k < f.words.length) : wordsK f (k + 1) = wordsK f k ++ [hexS (f.words.getD k 0)] := by
  unfold wordsK
  rw [take_snoc' f.words k 0 hk, List.map_append]; rfl
theorem wordsK_len (f : Flt) (hb : -9223372036854775808 ≤ f.bits ∧ f.bits ≤ 9223372036854775807) (hh : -9223372036854775808 ≤ f.hashes ∧ f.hashes ≤ 9223372036854775807) (k : Nat) (hk : k ≤ 2000) : (spS (wordsK f k)).length ≤ 100000 := by
  have h1 := spS_len (wordsK f k) 21 (fun w hw => by
    unfold wordsK at hw
    rcases List.mem_cons.1 hw with rfl | hw
    · exact Lib.itoa_length_le _ (by omega) (by omega)
    · rcases List.mem_cons.1 hw with rfl | hw
      · exact Lib.itoa_length_le _ (by omega) (by omega)
      · obtain ⟨x, _, rfl⟩ := List.mem_map.1 hw
        rw [hexS_length]; decide)
  have h2 : (wordsK f k).length ≤ 2002 := by unfold wordsK; simp only [List.length_cons, List.length_map, List.length_take]; omega
  have h3 : (wordsK f k).length * (21 + 1) ≤ 2002 * 22 := Nat.mul_le_mul_right _ h2
  omega
set_option maxRecDepth 100000 in
set_option maxHeartbeats 4000000 in
theorem rtext36_any (v : Value) (f : Flt) (w : World) (hv : FltR w v f) (hW : W64 f.words) :
    Calls Tryz.prog 23 #[v] w fun e w' => e = .returned (.string ⟨(textF f).toArray⟩) ∧ Below w.heap.size w w' := by
  have hmx : Tryz.prog.follows .mixedOrders = true := by kernel_rfl
  obtain ⟨wv, rfl, hw⟩ := hv
  obtain ⟨a, cap, rfl, hwl, hwc, ha⟩ := hw.form
  obtain ⟨W0, hW0⟩ : ∃ W0, W0 = w.alloc (.cells #[.int .i64 f.bits, .int .i64 f.hashes, .slice a f.words.length cap] 25) := ⟨_, rfl⟩
  obtain ⟨p, ep⟩ : ∃ p, p = w.heap.size := ⟨_, rfl⟩
  have h0 : Fr [] w W0 := by rw [hW0]; exact (Fr.refl [] w).alloc _
  have hp0 : W0.heap[p]? = some (.cells #[.int .i64 f.bits, .int .i64 f.hashes, .slice a f.words.length cap] 25 (0, 0)) := by rw [hW0]; exact heap_new ep
  have c0 := row_cell hp0 0
  have c1 := row_cell hp0 1
  have c2 := row_cell hp0 2
  simp at c0 c1 c2
  rw [hW0, ep] at c0 c1 c2
  have HC := Lib.hid (hw.fr0 h0)
  have HW := Lib.hid hW
  clear hw hW
  go_enter Tryz.func23, Tryz.ntmps23
  go_wp2_with fail
  rw [← hW0, ← ep]
  clear hW0 ep c0 c1 c2
  refine (rvalid36_any _ f W0 ⟨_, rfl, HC.out⟩).mono ?_
  rintro e w1 ⟨rfl, hb1⟩
  have h01 : Fr [] W0 w1 := Fr.ofBelow hb1
  have hp0 := h01.at hp0 (by simp)
  have HC := Lib.hid (HC.out.fr0 h01)
  have h1 := h0.trans h01 (by simp)
  clear hb1 h01 h0
  cases hf : validF f with
  | false =>
    have HR : Hid (textF f = []) := Lib.hid (by unfold textF; rw [hf]; rfl)
    clear hf
    go_wp2_with fail
    go_ret
    exact ⟨by rw [HR.out]; rfl, h1.toBelow (by simp)⟩
  | true =>
    have HR : Hid (textF f = spS (wordsF f)) := Lib.hid (by unfold textF; rw [if_pos hf])
    obtain ⟨hfo, hfl⟩ := validF_parts hf
    have hp := formF_parts hfo
    have hn : f.words.length ≤ 1024 := by omega
    clear hf hfo hfl
    obtain ⟨A, eA⟩ : ∃ A, A = Lib.itoa f.bits := ⟨_, rfl⟩
    have lA : A.length ≤ 21 := by rw [eA]; exact Lib.itoa_length_le _ (by omega) (by omega)
    have EA := Lib.hid eA
    clear eA
    obtain ⟨B, eB⟩ : ∃ B, B = Lib.itoa f.hashes := ⟨_, rfl⟩
    have lB : B.length ≤ 21 := by rw [eB]; exact Lib.itoa_length_le _ (by omega) (by omega)
    have EB := Lib.hid eB
    clear eB
    have HB : Hid (∀ k, k ≤ 2000 → (spS (wordsK f k)).length ≤ 100000) := Lib.hid (wordsK_len f (by omega) (by omega))
    have c0 := row_cell hp0 0
    have c1 := row_cell hp0 1
    have c2 := row_cell hp0 2
    simp at c0 c1 c2
    have HH1 := Lib.hid h1
    go_wp2_with fail
    have gr0 : Fr [] w1 w1.drew := (Fr.refl [] w1).drew
    have hSr0 : w1.drew.cell? ⟨p, 0, none⟩ = some (.int .i64 f.bits) ∧ w1.drew.cell? ⟨p, 1, none⟩ = some (.int .i64 f.hashes) := ⟨gr0.cell c0 (by simp), gr0.cell c1 (by simp)⟩
    refine region_held 100 (fun W' => W'.cell? ⟨p, 0, none⟩ = some (.int .i64 f.bits) ∧ W'.cell? ⟨p, 1, none⟩ = some (.int .i64 f.hashes)) hmx ?_
    change Held _ _ _ _ _ _ 9 (Array.replicate 9 false) _ _
    refine hd_take 0 (v := .pointer (some ⟨p, 0, none⟩)) rfl (by kernel_rfl) (by kernel_rfl) (by kernel_rfl) rfl hSr0 (fun W' hS => by go_simp) rfl ?_
    refine hd_take 4 (v := .pointer (some ⟨p, 1, none⟩)) rfl (by kernel_rfl) (by kernel_rfl) (by kernel_rfl) rfl hSr0 (fun W' hS => by go_simp) rfl ?_
    try simp only [Act.put, List.setIfInBounds_toArray, List.set_cons_zero, List.set_cons_succ]
    refine hd_take 1 (v := .int .i64 f.bits) rfl (by kernel_rfl) (by kernel_rfl) (by kernel_rfl) rfl hSr0 (fun W' hS => by obtain ⟨s0, s1⟩ := hS; go_simp) rfl ?_
    refine hd_take 5 (v := .int .i64 f.hashes) rfl (by kernel_rfl) (by kernel_rfl) (by kernel_rfl) rfl hSr0 (fun W' hS => by obtain ⟨s0, s1⟩ := hS; go_simp) rfl ?_
    try simp only [Act.put, List.setIfInBounds_toArray, List.set_cons_zero, List.set_cons_succ]
    refine hd_one 2 (by kernel_rfl) rfl (by kernel_rfl) rfl (fun K' hK => ?_)
    go_simp
    refine (r36dec_any f.bits w1.drew (by omega) (by omega)).mono ?_
    rintro e yr1 ⟨rfl, hbb⟩
    have gr1 : Fr [] w1 yr1 := gr0.below hbb gr0.size
    clear hbb
    have hSr1 : yr1.cell? ⟨p, 0, none⟩ = some (.int .i64 f.bits) ∧ yr1.cell? ⟨p, 1, none⟩ = some (.int .i64 f.hashes) := ⟨gr1.cell c0 (by simp), gr1.cell c1 (by simp)⟩
    refine hK.out _ _ (fun _ => hSr1) ?_
    clear hK K'
    try simp only [Act.put, List.setIfInBounds_toArray, List.set_cons_zero, List.set_cons_succ]
    rw [← EA.out]
    refine hd_take 3 (v := .string (⟨A.toArray⟩ ++ ⟨#[32]⟩)) rfl (by kernel_rfl) (by kernel_rfl) (by kernel_rfl) rfl hSr1 (fun W' hS => by go_simp; omega) rfl ?_
    try simp only [Act.put, List.setIfInBounds_toArray, List.set_cons_zero, List.set_cons_succ]
    refine hd_one 6 (by kernel_rfl) rfl (by kernel_rfl) rfl (fun K' hK => ?_)
    go_simp
    refine (r36dec_any f.hashes yr1 (by omega) (by omega)).mono ?_
    rintro e yr2 ⟨rfl, hbb⟩
    have gr2 : Fr [] w1 yr2 := gr1.below hbb gr1.size
    clear hbb
    have hSr2 : yr2.cell? ⟨p, 0, none⟩ = some (.int .i64 f.bits) ∧ yr2.cell? ⟨p, 1, none⟩ = some (.int .i64 f.hashes) := ⟨gr2.cell c0 (by simp), gr2.cell c1 (by simp)⟩
    refine hK.out _ _ (fun _ => hSr2) ?_
    clear hK K'
    try simp only [Act.put, List.setIfInBounds_toArray, List.set_cons_zero, List.set_cons_succ]
    rw [← EB.out]
    refine hd_take 7 (v := .string (⟨A.toArray⟩ ++ ⟨#[32]⟩ ++ ⟨B.toArray⟩)) rfl (by kernel_rfl) (by kernel_rfl) (by kernel_rfl) rfl hSr2 (fun W' hS => by go_simp; omega) rfl ?_
    try simp only [Act.put, List.setIfInBounds_toArray, List.set_cons_zero, List.set_cons_succ]
    refine hd_take 8 (v := .string (⟨A.toArray⟩ ++ ⟨#[32]⟩ ++ ⟨B.toArray⟩)) rfl (by kernel_rfl) (by kernel_rfl) (by kernel_rfl) rfl hSr2 (fun W' hS => by go_simp) rfl ?_
    try simp only [Act.put, List.setIfInBounds_toArray, List.set_cons_zero, List.set_cons_succ]
    refine held_done (by kernel_rfl) ?_
    have he : ((⟨A.toArray⟩ : ByteArray) ++ ⟨#[32]⟩ ++ ⟨B.toArray⟩) = ⟨(spS (wordsK f 0)).toArray⟩ := by
      rw [ba_wordF, EA.out, EB.out]
      rfl
    rw [he]
    have hf1 := HH1.out.trans gr2 (by simp)
    have hp0 := gr2.at hp0 (by simp)
    have HC := Lib.hid (HC.out.fr0 gr2)
    generalize yr2 = z at hf1 hp0 HC ⊢
    clear c0 c1 c2 he lA lB EA EB h1 gr0 gr1 gr2 hSr0 hSr1 hSr2 hp
    go_wp2_with fail
    go_loopg [3, 4] f.words.length (fun gh out i wr => ∃ k : Nat, k ≤ f.words.length ∧ gh = f.words.length - k ∧ i = .int .i64 (k : Int) ∧ out = .string ⟨(spS (wordsK f k)).toArray⟩ ∧ Fr [] z wr)
    case atStart => exact ⟨0, by omega, by omega, rfl, rfl, Fr.refl _ _⟩
    case round =>
      obtain ⟨k, hk, hgh, rfl, rfl, hfr⟩ := hrel
      have HG := Lib.hid hgh
      clear hgh
      have hq := hfr.at hp0 (by simp)
      have c2 := row_cell hq 2
      simp at c2
      by_cases hlt : k < f.words.length
      · have t1 : decide ((k : Int) < (f.words.length : Int)) = true := by simp; omega
        obtain ⟨b, off, rfl⟩ := ha k hlt
        have hcell : wr.cell? ⟨b, off + k, none⟩ = some (.int .u64 ((f.words.getD k 0 : Nat) : Int)) := by
          rcases HC.out with ⟨h, _⟩ | ⟨b', off', cap', hv, _, _, _, h4⟩
          · rw [h] at hlt; simp at hlt
          · cases hv; exact hfr.cell (h4 k hlt) (by simp)
        have i0 : (0 : Int) ≤ (k : Int) := by omega
        have i1 : (k : Int) < (f.words.length : Int) := by omega
        have HSU : Hid (spS (wordsK f (k + 1)) = spS (wordsK f k) ++ 32 :: hexS (f.words.getD k 0)) := Lib.hid (by rw [wordsK_succ f k hlt]; exact spS_snoc _ _ (by simp [wordsK]))
        have HX : Hid (f.words.getD k 0 < 18446744073709551616) := Lib.hid (Nat.lt_of_lt_of_le (HW.out.at k) (by decide))
        have hb0 := HB.out k (by omega)
        obtain ⟨o, eo⟩ : ∃ o, o = spS (wordsK f k) := ⟨_, rfl⟩
        rw [← eo] at hb0 HSU ⊢
        clear eo
        generalize f.words.getD k 0 = x at hcell HSU HX
        have hx16 : (hexS x).length = 16 := hexS_length x
        have hbs := ba_wordF o (hexS x)
        rw [← HSU.out] at hbs
        go_wp2_with fail
        refine (rhex36_any x wr HX.out).mono ?_
        rintro e w5 ⟨rfl, rfl⟩
        obtain ⟨hx, ehx⟩ : ∃ q, q = hexS x := ⟨_, rfl⟩
        rw [← ehx] at hx16 hbs ⊢
        clear ehx
        go_wp2_with fail
        go_roundg (f.words.length - (k + 1))
        case measure => have := HG.out; omega
        case rel => exact ⟨k + 1, by omega, rfl, by go_num, by first | rfl | rw [hbs], hfr⟩
      · obtain rfl : k = f.words.length := by omega
        have t1 : decide ((f.words.length : Int) < (f.words.length : Int)) = false := by simp
        have HX : Hid (textF f = spS (wordsK f f.words.length)) := Lib.hid (by rw [HR.out, wordsK_all])
        go_wp2_with fail
        go_ret
        exact ⟨by rw [HX.out]; rfl, (hf1.trans hfr (by simp)).toBelow (by simp)⟩
end Go.Proofs.YtffldampcbfgjaaGreatDoor
