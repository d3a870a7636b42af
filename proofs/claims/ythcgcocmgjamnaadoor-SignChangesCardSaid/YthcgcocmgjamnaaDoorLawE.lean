/-
  foyerlaw03: index, links, own, ends, chains, shown.
-/
import Derived.Test.YthcgcocmgjamnaaDoorLawB
import Derived.Test.YthcgcocmgjamnaaDoorApp
import Derived.Test.YthcgcocmgjamnaaDoorPlnC
namespace Go.Proofs.YthcgcocmgjamnaaDoor
open Go.RowKit

def numsS : List (List UInt8) := (List.range 18).map Lib.decDigits
theorem numsS_get (i : Nat) (hi : i < 18) : numsS.getD i [] = Lib.decDigits i := by simp [numsS, List.getD_eq_getElem?_getD, hi]

set_option maxRecDepth 100000 in
set_option maxHeartbeats 1000000 in
theorem index_any (i : Nat) (w : World) (hi : i < 18) :
    Calls Tryd.prog 39 #[.int .i64 (i : Int)] w fun e w' => e = .returned (.string ⟨(Lib.decDigits i).toArray⟩) ∧ Below w.heap.size w w' := by
  go_enter Tryd.func39, Tryd.ntmps39
  have hc : (w.alloc (.cells (numsS.map strV).toArray 9)).cell? ⟨w.heap.size, i, none⟩ = some (.string ⟨(Lib.decDigits i).toArray⟩) := by
    rw [row_cell (heap_new rfl) i]
    simp [numsS, strV, hi]
  rw [show (numsS.map strV).toArray = #[.string ⟨#[48]⟩, .string ⟨#[49]⟩, .string ⟨#[50]⟩, .string ⟨#[51]⟩, .string ⟨#[52]⟩, .string ⟨#[53]⟩, .string ⟨#[54]⟩, .string ⟨#[55]⟩, .string ⟨#[56]⟩, .string ⟨#[57]⟩, .string ⟨#[49, 48]⟩, .string ⟨#[49, 49]⟩, .string ⟨#[49, 50]⟩, .string ⟨#[49, 51]⟩, .string ⟨#[49, 52]⟩, .string ⟨#[49, 53]⟩, .string ⟨#[49, 54]⟩, .string ⟨#[49, 55]⟩] by kernel_rfl] at hc
  go_wp2_with fail
  go_ret
  exact ⟨rfl, (Below.refl _ w).alloc (Nat.le_refl _) _⟩

theorem OwnS.one {base : Nat} {W : World} {x : List UInt8} (hb : base ≤ W.heap.size) : OwnS base (W.alloc (.cells #[.string ⟨x.toArray⟩] 9)) (.slice (some ⟨W.heap.size, 0, none⟩) 1 1) [x] :=
  ⟨by simp [strV], Or.inr ⟨W.heap.size, 1, #[.string ⟨x.toArray⟩], rfl, hb, heap_new rfl, Nat.le_refl _, by decide, rfl, rfl⟩⟩
theorem links_zero (t : List UInt8) : linksS t 0 = [t] := rfl
theorem links_length (t : List UInt8) (n : Nat) : (linksS t n).length = n + 1 := by simp [linksS]
theorem chainN_len (t : List UInt8) (k : Nat) (ht : t.length ≤ 1000000) : (chainN k t).length ≤ 1000000 := by
  cases k with
  | zero => exact ht
  | succ k => rw [chainN_succ, dsum_length]; decide

set_option maxRecDepth 100000 in
set_option maxHeartbeats 1000000 in
theorem links_any (t : List UInt8) (n : Nat) (w : World) (ht : t.length ≤ 1000000) (hn : n ≤ 1000) :
    Calls Tryd.prog 25 #[.string ⟨t.toArray⟩, .int .i64 (n : Int)] w fun e w' => ∃ v, e = .returned v ∧ OwnS w.heap.size w' v (linksS t n) ∧ Below w.heap.size w w' := by
  go_enter Tryd.func25, Tryd.ntmps25
  go_wp2_with fail
  go_loopg [0, 5, 6] n (fun g s ev i wr => ∃ k : Nat, k ≤ n ∧ g = n - k ∧ i = .int .i64 (k : Int) ∧ s = .string ⟨(chainN k t).toArray⟩ ∧ OwnS w.heap.size wr ev (linksS t k) ∧ Fr [] w wr)
  case atStart => exact ⟨0, by omega, by omega, rfl, rfl, OwnS.one (Nat.le_refl _), (Fr.refl [] w).alloc _⟩
  case round =>
    obtain ⟨k, hk, hg, rfl, rfl, ho, hfr⟩ := hrel
    have HG := Lib.hid hg
    have HO := Lib.hid ho
    clear hg ho
    by_cases hlt : k < n
    · have t1 : decide ((k : Int) < (n : Int)) = true := by simp; omega
      have HS := Lib.hid (links_snoc t k)
      have HN := Lib.hid (chainN_succ k t)
      have hlen : (linksS t k).length ≤ 2000 := by rw [links_length]; omega
      have hcl := chainN_len t k ht
      generalize linksS t k = L at HO HS hlen
      generalize chainN k t = c at HS HN hcl ⊢
      go_wp2_with fail
      refine (rsum_any c wr (by omega)).mono ?_
      rintro e w1 ⟨rfl, hb1⟩
      have hw1 : Fr [] wr w1 := (Fr.refl [] wr).below hb1 (Nat.le_refl _)
      have hfr1 : Fr [] w w1 := hfr.trans hw1 (by simp)
      have HO1 := Lib.hid (HO.out.fr hw1 (by simp))
      clear hb1 hw1 hfr HO
      go_wp2_with (at_builtin; refine wpList_appS rfl (.tmp 16) (.tmp 18) rfl w.heap.size _ L (dsum c) w rfl rfl HO1.out hfr1 (Nat.le_refl _) hfr1.size (by omega) ?_)
      rintro v' w3 g' cap' rfl ho3 hfr3 _
      have HO3 := Lib.hid ho3
      clear ho3 hfr1 HO1
      go_wp2_with fail
      go_roundg (n - (k + 1))
      case measure => have := HG.out; omega
      case rel => exact ⟨k + 1, by omega, rfl, by go_num, by rw [HN.out], by rw [HS.out]; exact HO3.out, hfr3⟩
    · obtain rfl : k = n := by omega
      have t1 : decide ((k : Int) < (k : Int)) = false := by simp
      go_wp2_with fail
      go_ret
      exact ⟨_, rfl, HO.out, hfr.toBelow (by simp)⟩

set_option maxRecDepth 100000 in
set_option maxHeartbeats 1000000 in
theorem own_any (secret : List UInt8) (w : World) (hs : secret.length ≤ 1000000) :
    Calls Tryd.prog 20 #[.string ⟨secret.toArray⟩] w fun e w' => ∃ v, e = .returned v ∧ OwnS w.heap.size w' v (endsS secret) ∧ Below w.heap.size w w' := by
  have H18 := Lib.hid (show (endsS secret).length = 18 by simp [endsS])
  go_enter Tryd.func20, Tryd.ntmps20
  go_wp2_with fail
  go_loopg [3, 4] 18 (fun g ev i wr => ∃ k : Nat, k ≤ 18 ∧ g = 18 - k ∧ i = .int .i64 (k : Int) ∧ OwnS w.heap.size wr ev ((endsS secret).take k) ∧ Fr [] w wr)
  case atStart => exact ⟨0, by omega, by omega, rfl, ⟨by simp, Or.inl ⟨rfl, by simp⟩⟩, Fr.refl _ _⟩
  case round =>
    obtain ⟨k, hk, hg, rfl, ho, hfr⟩ := hrel
    have HG := Lib.hid hg
    have HO := Lib.hid ho
    clear hg ho
    by_cases hlt : k < 18
    · have HS := Lib.hid (endsS_snoc secret k hlt)
      have hlen : ((endsS secret).take k).length ≤ 18 := by rw [List.length_take]; omega
      generalize (endsS secret).take k = L at HO HS hlen
      go_wp2_with fail
      refine (rstart_any secret k _ hs (by omega)).mono ?_
      rintro e w1 ⟨rfl, hb1⟩
      have HL := Lib.hid (startS_length secret k)
      go_wp2_with fail
      refine (rchain_any (startS secret k) 15 _ (by rw [HL.out]; decide)).mono ?_
      rintro e w2 ⟨rfl, hb2⟩
      have hw2 : Fr [] wr w2 := ((Fr.refl [] wr).below hb1 (Nat.le_refl _)).below hb2 hb1.size
      have hfr2 : Fr [] w w2 := hfr.trans hw2 (by simp)
      have HO2 := Lib.hid (HO.out.fr hw2 (by simp))
      clear hb1 hb2 hw2 hfr HO
      go_wp2_with (at_builtin; refine wpList_appS rfl (.tmp 9) (.tmp 14) rfl w.heap.size _ L (dchain (startS secret k) 15) w rfl rfl HO2.out hfr2 (Nat.le_refl _) hfr2.size (by omega) ?_)
      rintro v' w3 g' cap' rfl ho3 hfr3 _
      have HO3 := Lib.hid ho3
      clear ho3 hfr2 HO2
      go_wp2_with fail
      go_roundg (18 - (k + 1))
      case measure => have := HG.out; omega
      case rel => exact ⟨k + 1, by omega, rfl, by go_num, by rw [HS.out]; exact HO3.out, hfr3⟩
    · obtain rfl : k = 18 := by omega
      have HO2 : Hid (OwnS w.heap.size wr u3 (endsS secret)) := by have := HO.out; rw [List.take_of_length_le (by rw [H18.out]; decide)] at this; exact this
      clear HO
      go_wp2_with fail
      go_ret
      exact ⟨_, rfl, HO2.out, hfr.toBelow (by simp)⟩

theorem chains_snoc (secret : List UInt8) (n k : Nat) : (List.range (k + 1)).flatMap (fun i => preS secret i :: linksS (startS secret i) n) = ((List.range k).flatMap (fun i => preS secret i :: linksS (startS secret i) n) ++ [preS secret k]) ++ linksS (startS secret k) n := by
  rw [List.range_succ, List.flatMap_append, List.append_assoc]; simp
theorem chains_len (secret : List UInt8) (n : Nat) : ∀ k, ((List.range k).flatMap (fun i => preS secret i :: linksS (startS secret i) n)).length = k * (n + 2)
  | 0 => by simp
  | k + 1 => by rw [chains_snoc, List.length_append, List.length_append, chains_len secret n k, links_length, Nat.add_mul]; simp; omega

set_option maxRecDepth 100000 in
set_option maxHeartbeats 1000000 in
theorem chains_any (secret : List UInt8) (n : Nat) (w : World) (hs : secret.length ≤ 1000000) (hn : n ≤ 1000) :
    Calls Tryd.prog 23 #[.string ⟨secret.toArray⟩, .int .i64 (n : Int)] w fun e w' => ∃ v, e = .returned v ∧ OwnS w.heap.size w' v (chainsS secret n) ∧ Below w.heap.size w w' := by
  go_enter Tryd.func23, Tryd.ntmps23
  go_wp2_with fail
  go_loopg [5, 6] 18 (fun g ev i wr => ∃ k : Nat, k ≤ 18 ∧ g = 18 - k ∧ i = .int .i64 (k : Int) ∧ OwnS w.heap.size wr ev ((List.range k).flatMap (fun i => preS secret i :: linksS (startS secret i) n)) ∧ Fr [] w wr)
  case atStart => exact ⟨0, by omega, by omega, rfl, ⟨by simp, Or.inl ⟨rfl, by simp⟩⟩, Fr.refl _ _⟩
  case round =>
    obtain ⟨k, hk, hg, rfl, ho, hfr⟩ := hrel
    have HG := Lib.hid hg
    have HO := Lib.hid ho
    clear hg ho
    by_cases hlt : k < 18
    · have HS := Lib.hid (chains_snoc secret n k)
      have hlen : ((List.range k).flatMap (fun i => preS secret i :: linksS (startS secret i) n)).length ≤ 20000 := by
        rw [chains_len]
        exact Nat.le_trans (Nat.mul_le_mul (Nat.le_of_lt hlt) (show n + 2 ≤ 1002 by omega)) (by decide)
      have HPL := Lib.hid (links_length (startS secret k) n)
      have HPN : Hid ((preS secret k).length ≤ 9223372036854770000) := Nat.le_trans (starts_le secret k hs (by omega)) (by decide)
      have HDD := Lib.hid (decDigits_two k (by omega))
      generalize (List.range k).flatMap (fun i => preS secret i :: linksS (startS secret i) n) = L at HO HS hlen
      go_wp2_with fail
      refine (index_any k wr hlt).mono ?_
      rintro e w1 ⟨rfl, hb1⟩
      have hw1 : Fr [] wr w1 := (Fr.refl [] wr).below hb1 (Nat.le_refl _)
      go_wp2_with fail
      refine (r3joined_any _ [secret, Lib.decDigits k] _ (strs_two (heap_new rfl)) ?_).mono ?_
      · have := capN_le [secret, Lib.decDigits k] 1000000 (fun s h => by
          rcases List.mem_cons.1 h with h | h
          · rw [h]; exact hs
          · rw [List.mem_singleton.1 h]; have := HDD.out; omega)
        simp only [List.length_cons, List.length_nil] at this
        omega
      rintro e w2 ⟨rfl, hb2⟩
      have hw2 : Fr [] wr w2 := (hw1.alloc _).below hb2 (hw1.alloc _).size
      have hfr2 : Fr [] w w2 := hfr.trans hw2 (by simp)
      have HO2 := Lib.hid (HO.out.fr hw2 (by simp))
      clear hb1 hb2 hw1 hw2 hfr HO
      rw [show joinL [secret, Lib.decDigits k] = preS secret k from rfl]
      have HPD := Lib.hid (preS_dsum secret k)
      generalize preS secret k = pre at HS HPN HPD ⊢
      go_wp2_with (at_builtin; refine wpList_appS rfl (.tmp 17) (.tmp 19) rfl w.heap.size _ L pre w rfl rfl HO2.out hfr2 (Nat.le_refl _) hfr2.size (by omega) ?_)
      rintro v' w3 g' cap' rfl ho3 hfr3 _
      have HO3 := Lib.hid ho3
      clear ho3 hfr2 HO2
      go_wp2_with fail
      refine (rsum_any pre w3 HPN.out).mono ?_
      rintro e w4 ⟨rfl, hb4⟩
      rw [HPD.out]
      go_wp2_with fail
      refine (links_any (startS secret k) n w4 (by rw [startS_length]; decide) hn).mono ?_
      rintro e w5 ⟨lv, rfl, hol, hb5⟩
      have hw5 : Fr [] w3 w5 := ((Fr.refl [] w3).below hb4 (Nat.le_refl _)).below hb5 hb4.size
      have hfr5 : Fr [] w w5 := hfr3.trans hw5 (by simp)
      have HO5 := Lib.hid (HO3.out.fr hw5 (by simp))
      have hstr := hol.strs
      obtain ⟨a, cap, rfl, hll, ha⟩ := hstr.form
      obtain ⟨lb, loff, rfl⟩ := ha 0 (by rw [HPL.out]; omega)
      have HSTR := Lib.hid hstr
      clear hb4 hb5 hw5 hfr3 HO3 hstr ha hol
      generalize linksS (startS secret k) n = LL at HS HPL HSTR hll ⊢
      go_wp2_with (at_builtin; refine wpList_appM rfl (.tmp 21) (.tmp 25) rfl w.heap.size _ (L ++ [pre]) LL lb loff _ _ w rfl rfl rfl HSTR.out HO5.out hfr5 (Nat.le_refl _) hfr5.size (by have := HPL.out; simp; omega) ?_)
      intro v6 w6 ho6 hfr6 _
      have HO6 := Lib.hid ho6
      clear ho6 hfr5 HO5
      go_wp2_with fail
      go_roundg (18 - (k + 1))
      case measure => have := HG.out; omega
      case rel => exact ⟨k + 1, by omega, rfl, by go_num, by rw [HS.out]; simpa using HO6.out, hfr6⟩
    · obtain rfl : k = 18 := by omega
      have HO2 : Hid (OwnS w.heap.size wr u5 (chainsS secret n)) := HO.out
      clear HO
      go_wp2_with fail
      go_ret
      exact ⟨_, rfl, HO2.out, hfr.toBelow (by simp)⟩

theorem getD_map (l : List (List UInt8)) (k : Nat) (hk : k < l.length) : (l.map dsum).getD k [] = dsum (l.getD k []) := by
  simp [List.getD_eq_getElem?_getD, hk]
def NoC (l : List (List UInt8)) (k : Nat) : Prop := ∀ x y : Nat, y < x → x < k → dsum (l.getD x []) = dsum (l.getD y []) → l.getD x [] = l.getD y []
theorem noC_end {l : List (List UInt8)} (h : NoC l l.length) : ¬ Coll l := by
  rintro ⟨x, y, hx, hy, h1, h2⟩
  obtain ⟨i, hi, rfl⟩ := List.getElem_of_mem hx
  obtain ⟨j, hj, rfl⟩ := List.getElem_of_mem hy
  have e : ∀ (k : Nat) (hk : k < l.length), l.getD k [] = l[k] := fun k hk => by simp [List.getD_eq_getElem?_getD, hk]
  rcases Nat.lt_trichotomy i j with h3 | h3 | h3
  · have := h j i h3 hj (by rw [e i hi, e j hj]; exact h1.symm)
    rw [e i hi, e j hj] at this
    exact h2 this.symm
  · subst h3; exact h2 rfl
  · have := h i j h3 hi (by rw [e i hi, e j hj]; exact h1)
    rw [e i hi, e j hj] at this
    exact h2 this

set_option maxRecDepth 100000 in
set_option maxHeartbeats 1000000 in
theorem shown_any (v : Value) (l : List (List UInt8)) (w : World) (hv : Strs w v l) (hlen : l.length ≤ 100000) (hl : ∀ s ∈ l, s.length ≤ 9223372036854770000) :
    Calls Tryd.prog 22 #[v] w fun e w' => ∃ b, e = .returned (.bool b) ∧ (Coll l → b = true) ∧ Below w.heap.size w w' := by
  have HV := Lib.hid hv
  obtain ⟨a, cap, rfl, hll, ha⟩ := hv.form
  clear hv
  go_enter Tryd.func22, Tryd.ntmps22
  go_wp2_with fail
  go_loopg [3, 4] l.length (fun g ev i wr => ∃ k : Nat, k ≤ l.length ∧ g = l.length - k ∧ i = .int .i64 (k : Int) ∧ OwnS w.heap.size wr ev ((l.take k).map dsum) ∧ Fr [] w wr)
  case atStart => exact ⟨0, by omega, by omega, rfl, ⟨by simp, Or.inl ⟨rfl, by simp⟩⟩, Fr.refl _ _⟩
  case round =>
    obtain ⟨k, hk, hg, rfl, ho, hfr⟩ := hrel
    have HG := Lib.hid hg
    have HO := Lib.hid ho
    clear hg ho
    by_cases hlt : k < l.length
    · obtain ⟨b, off, rfl⟩ := ha k hlt
      have t1 : decide ((k : Int) < (l.length : Int)) = true := by simp; omega
      have hcell := (HV.out.fr0 hfr).cell k hlt
      have HS : Hid ((l.take (k + 1)).map dsum = (l.take k).map dsum ++ [dsum (l.getD k [])]) := by
        show _ = _
        rw [take_snoc' l k [] hlt, List.map_append]; rfl
      have HSL := Lib.hid (hl _ (getD_mem l k [] hlt))
      have hln : ((l.take k).map dsum).length ≤ 100000 := by rw [List.length_map, List.length_take]; omega
      generalize (l.take k).map dsum = L at HO HS hln
      generalize l.getD k [] = s at hcell HS HSL
      go_wp2_with fail
      refine (rsum_any s wr HSL.out).mono ?_
      rintro e w1 ⟨rfl, hb1⟩
      have hw1 : Fr [] wr w1 := (Fr.refl [] wr).below hb1 (Nat.le_refl _)
      have hfr1 : Fr [] w w1 := hfr.trans hw1 (by simp)
      have HO1 := Lib.hid (HO.out.fr hw1 (by simp))
      clear hb1 hw1 hfr HO
      go_wp2_with (at_builtin; refine wpList_appS rfl (.tmp 13) (.tmp 19) rfl w.heap.size _ L (dsum s) w rfl rfl HO1.out hfr1 (Nat.le_refl _) hfr1.size (by omega) ?_)
      rintro v' w3 g' cap' rfl ho3 hfr3 _
      have HO3 := Lib.hid ho3
      clear ho3 hfr1 HO1
      go_wp2_with fail
      go_roundg (l.length - (k + 1))
      case measure => have := HG.out; omega
      case rel => exact ⟨k + 1, by omega, rfl, by go_num, by rw [HS.out]; exact HO3.out, hfr3⟩
    · obtain rfl : k = l.length := by omega
      have t1 : decide ((l.length : Int) < (l.length : Int)) = false := by simp
      have HO2 : Hid (OwnS w.heap.size wr u3 (l.map dsum)) := by have := HO.out; rw [List.take_length] at this; exact this
      clear HO
      have hstr := HO2.out.strs
      obtain ⟨a2, cap2, rfl, hll2, ha2⟩ := hstr.form
      have HST2 := Lib.hid hstr
      clear hstr
      rw [List.length_map] at hll2 ⊢
      go_wp2_with fail
      go_loopg [5] (l.length + 1) (fun g i wr => ∃ k : Nat, k ≤ l.length ∧ g = l.length + 1 - k ∧ i = .int .i64 (k : Int) ∧ NoC l k ∧ Strs wr (.slice a2 l.length cap2) (l.map dsum) ∧ Fr [] w wr)
      case atStart => exact ⟨0, by omega, by omega, rfl, fun x y _ h => absurd h (Nat.not_lt_zero _), (by have := HST2.out; rwa [List.length_map] at this), hfr⟩
      case round =>
        clear hfr HST2 HO2
        obtain ⟨k, hk, hg, rfl, hno, hst, hfr⟩ := hrel
        have HG := Lib.hid hg
        have HNO := Lib.hid hno
        have HST := Lib.hid hst
        clear hg hno hst
        by_cases hlt : k < l.length
        · have t2 : decide ((k : Int) < (l.length : Int)) = true := by simp; omega
          go_wp2_with fail
          go_loopg [6] (k + 1) (fun g i wr => ∃ j : Nat, j ≤ k ∧ g = k + 1 - j ∧ i = .int .i64 (j : Int) ∧ (∀ y, y < j → dsum (l.getD k []) = dsum (l.getD y []) → l.getD k [] = l.getD y []) ∧ Strs wr (.slice a2 l.length cap2) (l.map dsum) ∧ Fr [] w wr)
          case atStart => exact ⟨0, by omega, by omega, rfl, fun y h => absurd h (Nat.not_lt_zero _), HST.out, hfr⟩
          case round =>
            clear hfr HST
            obtain ⟨j, hj, hg, rfl, hno, hst, hfr⟩ := hrel
            have HG2 := Lib.hid hg
            have HNO2 := Lib.hid hno
            have HST := Lib.hid hst
            clear hg hno hst
            by_cases hjk : j < k
            · have hjl : j < l.length := by omega
              obtain ⟨b, off, rfl⟩ := ha k hlt
              obtain ⟨b2, off2, rfl⟩ := ha2 k (by rw [List.length_map]; exact hlt)
              have c1 := (HV.out.fr0 hfr).cell k hlt
              have c2 := (HV.out.fr0 hfr).cell j hjl
              have c3 := HST.out.cellN (by rw [List.length_map]) k hlt
              have c4 := HST.out.cellN (by rw [List.length_map]) j hjl
              rw [getD_map l k hlt] at c3
              rw [getD_map l j hjl] at c4
              have t3 : decide ((j : Int) < (k : Int)) = true := by simp; omega
              have HSTEP : Hid ((dsum (l.getD k []) = dsum (l.getD j []) → l.getD k [] = l.getD j []) → ∀ y, y < j + 1 → dsum (l.getD k []) = dsum (l.getD y []) → l.getD k [] = l.getD y []) := by
                intro h y hy
                rcases Nat.lt_or_ge y j with h1 | h1
                · exact HNO2.out y h1
                · obtain rfl : y = j := by omega
                  exact h
              generalize hx0 : l.getD k [] = x at c1 c3 HSTEP
              generalize l.getD j [] = y at c2 c4 HSTEP
              have HX0 := Lib.hid hx0
              clear hx0
              by_cases hd : dsum x = dsum y
              · have t4 : (dsum x == dsum y) = true := by rw [hd]; simp
                by_cases hxy : x = y
                · have t5 : (x != y) = false := by rw [hxy]; simp
                  have t6 : (x == y) = true := by rw [hxy]; simp
                  have HSTEP2 := Lib.hid (HSTEP.out (fun _ => hxy))
                  clear hxy hd HSTEP
                  go_wp2_with fail
                  go_quiet (fail)
                  go_wp2_with fail
                  go_roundg (k + 1 - (j + 1))
                  case measure => have := HG2.out; omega
                  case rel => exact ⟨j + 1, by omega, rfl, by go_num, by rw [HX0.out]; exact HSTEP2.out, HST.out.fr0 ((Fr.refl [] _).drewN _), hfr.drewN _⟩
                · have t5 : (x != y) = true := by simpa using hxy
                  have t6 : (x == y) = false := by simpa using hxy
                  clear hxy hd HSTEP
                  go_wp2_with fail
                  go_quiet (fail)
                  go_wp2_with fail
                  go_ret
                  exact ⟨true, rfl, fun _ => rfl, (hfr.drewN _).toBelow (by simp)⟩
              · have t4 : (dsum x == dsum y) = false := by simpa using hd
                have HSTEP2 := Lib.hid (HSTEP.out (fun h => absurd h hd))
                clear hd HSTEP
                go_wp2_with fail
                go_quiet (fail)
                go_wp2_with fail
                go_roundg (k + 1 - (j + 1))
                case measure => have := HG2.out; omega
                case rel => exact ⟨j + 1, by omega, rfl, by go_num, by rw [HX0.out]; exact HSTEP2.out, HST.out.fr0 ((Fr.refl [] _).drewN _), hfr.drewN _⟩
            · obtain rfl : j = k := by omega
              have t3 : decide ((j : Int) < (j : Int)) = false := by simp
              have HN3 : Hid (NoC l (j + 1)) := by
                intro x y hy hx
                rcases Nat.lt_or_ge x j with h1 | h1
                · exact HNO.out x y hy h1
                · obtain rfl : x = j := by omega
                  exact HNO2.out y hy
              go_wp2_with fail
              go_roundg (l.length + 1 - (j + 1))
              case measure => have := HG.out; omega
              case rel => exact ⟨j + 1, by omega, rfl, by go_num, HN3.out, HST.out, hfr⟩
        · obtain rfl : k = l.length := by omega
          have t2 : decide ((l.length : Int) < (l.length : Int)) = false := by simp
          go_wp2_with fail
          go_ret
          exact ⟨false, rfl, fun h => absurd h (noC_end HNO.out), hfr.toBelow (by simp)⟩

set_option maxRecDepth 100000 in
set_option maxHeartbeats 1000000 in
theorem ends_any (message : List UInt8) (sv : Value) (sig : List (List UInt8)) (w : World) (hm : message.length ≤ 1000000) (h18 : sig.length = 18) (hs : ∀ s ∈ sig, s.length ≤ 1000000) (hsv : Strs w sv sig) :
    Calls Tryd.prog 21 #[.string ⟨message.toArray⟩, sv] w fun e w' => ∃ v, e = .returned v ∧ OwnS w.heap.size w' v (vends message sig) ∧ Below w.heap.size w w' := by
  have hmx : Tryd.prog.follows .mixedOrders = true := by kernel_rfl
  have HV := Lib.hid hsv
  obtain ⟨a, cap, rfl, hlen, ha⟩ := hsv.form
  clear hsv
  obtain ⟨b, off, rfl⟩ := ha 0 (by omega)
  rw [h18]
  have H18 := Lib.hid h18
  clear h18 ha
  go_enter Tryd.func21, Tryd.ntmps21
  go_wp2_with fail
  refine (rsum_any message w (by omega)).mono ?_
  rintro e w1 ⟨rfl, hb1⟩
  go_wp2_with fail
  refine (rdigs_any (dsum message) w1 (hexS_hex _) (by rw [dsum_length]; decide)).mono ?_
  rintro e w2 ⟨dv, rfl, hd, hb2⟩
  obtain ⟨dg, dcap, rfl, hdb, hdl, hdc, hdm, hcells⟩ := hd.form (by rw [digs_length]; decide)
  rw [digs_length] at hcells hdc ⊢
  have hf2 : Fr [] w w2 := ((Fr.refl [] w).below hb1 (Nat.le_refl _)).below hb2 hb1.size
  have HV2 := Lib.hid (HV.out.fr0 hf2)
  clear hd hb1 hb2
  go_wp2_with fail
  go_loopg [6, 7] 18 (fun g ev i wr => ∃ k : Nat, k ≤ 18 ∧ g = 18 - k ∧ i = .int .i64 (k : Int) ∧ OwnS w2.heap.size wr ev (vends message (sig.take k)) ∧ Fr [] w2 wr)
  case atStart => exact ⟨0, by omega, by omega, rfl, ⟨by simp [vends], Or.inl ⟨rfl, by simp [vends]⟩⟩, Fr.refl _ _⟩
  case round =>
    obtain ⟨k, hk, hg, rfl, ho, hfr⟩ := hrel
    have HG := Lib.hid hg
    have HO := Lib.hid ho
    clear hg ho
    by_cases hlt : k < 18
    · have hls : k < sig.length := by have := H18.out; omega
      have hcell := (HV2.out.fr0 hfr).cell k hls
      have hcell0 := HV2.out.cell k hls
      have hsl := hs (sig.getD k []) (getD_mem _ _ _ hls)
      have hc0 := hcells k hlt
      have hd15 := digs_lt message k hlt
      have HS := Lib.hid (vends_snoc message sig k hls)
      have hlenL : (vends message (sig.take k)).length ≤ 18 := by rw [vends_length, List.length_take]; omega
      generalize vends message (sig.take k) = L at HO HS hlenL
      generalize sig.getD k [] = s at hcell hcell0 hsl HS
      generalize (digs (dsum message)).getD k 0 = d at hc0 hd15 HS
      have hc := hfr.cell hc0 (by simp)
      go_wp2_with fail
      have hc0' := hc0
      have hc0 := hc
      have hc1 := hcell
      have hh0 : Fr [] wr wr.drew := (Fr.refl [] wr).drew
      have hS0 : wr.drew.cell? ⟨dg, k, none⟩ = some (.int .i64 (d : Int)) ∧ wr.drew.cell? ⟨b, off + k, none⟩ = some (.string ⟨s.toArray⟩) := ⟨hh0.cell hc0 (by simp), hh0.cell hc1 (by simp)⟩
      refine region_held 13 (fun W' => W'.cell? ⟨dg, k, none⟩ = some (.int .i64 (d : Int)) ∧ W'.cell? ⟨b, off + k, none⟩ = some (.string ⟨s.toArray⟩)) hmx ?_
      change Held _ _ _ _ _ _ 14 (Array.replicate 14 false) _ _
      refine held_take 0 (v := u6) rfl (by kernel_rfl) (by kernel_rfl) (by kernel_rfl) rfl hS0 (fun W' hS => by go_simp) rfl ?_
      refine held_take 1 (v := .slice (some ⟨b, off, none⟩) 18 cap) rfl (by kernel_rfl) (by kernel_rfl) (by kernel_rfl) rfl hS0 (fun W' hS => by go_simp) rfl ?_
      refine held_take 2 (v := .int .i64 (k : Int)) rfl (by kernel_rfl) (by kernel_rfl) (by kernel_rfl) rfl hS0 (fun W' hS => by go_simp) rfl ?_
      refine held_take 5 (v := .slice (some ⟨dg, 0, none⟩) 18 dcap) rfl (by kernel_rfl) (by kernel_rfl) (by kernel_rfl) rfl hS0 (fun W' hS => by go_simp) rfl ?_
      refine held_take 6 (v := .int .i64 (k : Int)) rfl (by kernel_rfl) (by kernel_rfl) (by kernel_rfl) rfl hS0 (fun W' hS => by go_simp) rfl ?_
      simp only [Act.put]
      refine held_take 3 (v := .pointer (some ⟨b, off + k, none⟩)) rfl (by kernel_rfl) (by kernel_rfl) (by kernel_rfl) rfl hS0 (fun W' hS => by go_simp) rfl ?_
      refine held_take 7 (v := .pointer (some ⟨dg, k, none⟩)) rfl (by kernel_rfl) (by kernel_rfl) (by kernel_rfl) rfl hS0 (fun W' hS => by go_simp) rfl ?_
      simp only [Act.put]
      refine held_take 4 (v := .string ⟨s.toArray⟩) rfl (by kernel_rfl) (by kernel_rfl) (by kernel_rfl) rfl hS0 (fun W' hS => by obtain ⟨h0, h1⟩ := hS; go_simp) rfl ?_
      refine held_take 8 (v := .int .i64 (d : Int)) rfl (by kernel_rfl) (by kernel_rfl) (by kernel_rfl) rfl hS0 (fun W' hS => by obtain ⟨h0, h1⟩ := hS; go_simp) rfl ?_
      simp only [Act.put]
      refine held_take 9 (v := .int .i64 (15 - (d : Int))) rfl (by kernel_rfl) (by kernel_rfl) (by kernel_rfl) rfl hS0 (fun W' hS => by have wd : IntKind.i64.wrap (15 - (d : Int)) = 15 - (d : Int) := IntWalk.i64_in _ (by omega); go_simp) rfl ?_
      simp only [Act.put]
      refine held_one 10 (by kernel_rfl) rfl rfl rfl (fun K' hK => ?_)
      go_simp
      refine (rchain_any s (15 - (d : Int)) wr.drew (by omega)).mono ?_
      rintro e wq1 ⟨rfl, hb⟩
      have hh1 : Fr [] wr wq1 := hh0.below hb hh0.size
      clear hb
      have hS1 : wq1.cell? ⟨dg, k, none⟩ = some (.int .i64 (d : Int)) ∧ wq1.cell? ⟨b, off + k, none⟩ = some (.string ⟨s.toArray⟩) := ⟨hh1.cell hc0 (by simp), hh1.cell hc1 (by simp)⟩
      refine hK.out _ _ (fun _ => hS1) ?_
      clear hK K'
      try simp only [Act.put]
      refine held_one 11 (by kernel_rfl) rfl rfl rfl (fun K' hK => ?_)
      go_simp
      have hh2 := hh1.alloc (.cells #[.string ⟨(dchain s (15 - (d : Int))).toArray⟩] 9)
      have hS2 : (wq1.alloc (.cells #[.string ⟨(dchain s (15 - (d : Int))).toArray⟩] 9)).cell? ⟨dg, k, none⟩ = some (.int .i64 (d : Int)) ∧ (wq1.alloc (.cells #[.string ⟨(dchain s (15 - (d : Int))).toArray⟩] 9)).cell? ⟨b, off + k, none⟩ = some (.string ⟨s.toArray⟩) := ⟨hh2.cell hc0 (by simp), hh2.cell hc1 (by simp)⟩
      refine hK.out _ _ (fun _ => hS2) ?_
      clear hK K'
      try simp only [Act.put]
      refine held_one 12 (by kernel_rfl) rfl rfl rfl (fun K' hK => ?_)
      have hfr4 : Fr [] w2 wq1 := hfr.trans hh1 (by simp)
      have HO4 := Lib.hid (HO.out.fr hh1 (by simp))
      refine wp_appS (.tmp 21) (.tmp 32) rfl w2.heap.size _ L (dchain s (15 - (d : Int))) w2 rfl rfl HO4.out hfr4 (Nat.le_refl _) hfr4.size (by omega) ?_
      rintro v' w5 ⟨g', cap', rfl⟩ ho5 hfr5 _
      have HO5 := Lib.hid ho5
      have hc0 := hc0'
      have hc1 := hcell0
      clear ho5 HO4 HO hfr4
      have hS3 : w5.cell? ⟨dg, k, none⟩ = some (.int .i64 (d : Int)) ∧ w5.cell? ⟨b, off + k, none⟩ = some (.string ⟨s.toArray⟩) := ⟨hfr5.cell hc0 (by simp), hfr5.cell hc1 (by simp)⟩
      refine hK.out _ _ (fun _ => hS3) ?_
      clear hK K'
      try simp only [Act.put]
      refine held_one 13 (by kernel_rfl) rfl rfl rfl (fun K' hK => ?_)
      go_simp
      refine hK.out _ _ (fun h => absurd rfl h) ?_
      clear hK K'
      refine held_done (by kernel_rfl) ?_
      go_wp2_with fail
      go_roundg (18 - (k + 1))
      case measure => have := HG.out; omega
      case rel => exact ⟨k + 1, by omega, rfl, by go_num, by rw [HS.out]; exact HO5.out, hfr5⟩
    · obtain rfl : k = 18 := by omega
      have ht : sig.take 18 = sig := List.take_of_length_le (by have := H18.out; omega)
      have HO2 : Hid (OwnS w2.heap.size wr u6 (vends message sig)) := by have := HO.out; rw [ht] at this; exact this
      clear HO ht
      go_wp2_with fail
      go_ret
      exact ⟨_, rfl, HO2.out.mono hf2.size, (hf2.trans hfr (by simp)).toBelow (by simp)⟩
end Go.Proofs.YthcgcocmgjamnaaDoor
