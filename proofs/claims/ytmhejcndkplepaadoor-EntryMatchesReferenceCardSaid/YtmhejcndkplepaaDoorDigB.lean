/-
  Contracts of package digest: text, Sum.
-/
import Derived.Test.YtmhejcndkplepaaDoorDigA
namespace Go.Proofs.YtmhejcndkplepaaDoor
open Go.RowKit

def hexd (d : Nat) : Nat := if d < 10 then 48 + d else 87 + d
/-- The sixteen digits of a state. -/
def hexS (s : Nat) : List UInt8 := (List.range 16).map fun i => UInt8.ofNat (hexd (s / 2 ^ (60 - 4 * i) % 16))
/-- The program's table of digits lies where it was laid. -/
def HexTab (w : World) : Prop := 0 < w.heap.size ∧ ∀ d, d < 16 → w.cell? ⟨0, d, none⟩ = some (.int .u8 (hexd d : Nat))
theorem HexTab.fr {X : List Nat} {w w' : World} (h : HexTab w) (hf : Fr X w w') (hx : 0 ∉ X) : HexTab w' :=
  ⟨Nat.lt_of_lt_of_le h.1 hf.size, fun d hd => hf.cell (h.2 d hd) hx⟩

def textTab (s k : Nat) : Array Value := ((List.range 16).map fun i => Value.int .u8 (if i < k then (hexd (s / 2 ^ (60 - 4 * i) % 16) : Nat) else 0)).toArray

theorem textTab_get (s k i : Nat) (hi : i < 16) : (textTab s k)[i]? = some (.int .u8 (if i < k then (hexd (s / 2 ^ (60 - 4 * i) % 16) : Nat) else 0)) := by
  simp [textTab, hi]
theorem textTab_set (s k : Nat) (hk : k < 16) : (textTab s k).setIfInBounds k (.int .u8 (hexd (s / 2 ^ (60 - 4 * k) % 16) : Nat)) = textTab s (k + 1) := by
  apply Array.ext_getElem?
  intro i
  rw [Array.getElem?_setIfInBounds]
  by_cases hi : i < 16
  · rw [textTab_get s (k + 1) i hi]
    by_cases he : k = i
    · subst he
      simp [textTab, hk]
    · rw [if_neg he, textTab_get s k i hi]
      by_cases h1 : i < k
      · simp [h1, show i < k + 1 by omega]
      · simp [h1, show ¬ i < k + 1 by omega]
  · have h16 : ∀ j, (textTab s j).size = 16 := fun j => by simp [textTab]
    rw [if_neg (by omega), Array.getElem?_eq_none (by rw [h16]; omega), Array.getElem?_eq_none (by rw [h16]; omega)]
theorem textTab_zero (s : Nat) : textTab s 0 = #[.int .u8 0, .int .u8 0, .int .u8 0, .int .u8 0, .int .u8 0, .int .u8 0, .int .u8 0, .int .u8 0, .int .u8 0, .int .u8 0, .int .u8 0, .int .u8 0, .int .u8 0, .int .u8 0, .int .u8 0, .int .u8 0] := rfl

set_option maxRecDepth 100000 in
set_option maxHeartbeats 400000 in
theorem text_any (s : Nat) (w : World) (hs : s < 18446744073709551616) (hT : HexTab w) :
    Calls Tryd.prog 80 #[.int .u64 (s : Int)] w fun e w' => e = .returned (.string ⟨(hexS s).toArray⟩) ∧ Below w.heap.size w w' := by
  have HT := Lib.hid hT
  clear hT
  go_enter Tryd.func80, Tryd.ntmps80
  go_wp2_with fail
  go_loopw [5] (fun i wr => ∃ k : Nat, k ≤ 16 ∧ i = .int .i64 (k : Int) ∧ wr.heap[w.heap.size]? = some (.cells (textTab s k) 126 (0, 0)) ∧ Fr [] w wr) (fun i _ => 16 - (intOf i).toNat)
  case atStart => exact ⟨0, by omega, rfl, by rw [textTab_zero]; exact heap_alloc_new _ _, (Fr.refl _ w).alloc _⟩
  case round =>
    obtain ⟨k, hk, rfl, hb, hfr⟩ := hrel
    have hT' := HT.out.fr hfr (by simp)
    by_cases hlt : k < 16
    · have w1 : IntKind.i64.wrap (4 * (k : Int)) = 4 * (k : Int) := IntWalk.i64_in _ (by omega)
      have w2 : IntKind.i64.wrap (60 - 4 * (k : Int)) = 60 - 4 * (k : Int) := IntWalk.i64_in _ (by omega)
      have w3 : (0 : Int) ≤ 60 - 4 * (k : Int) := by omega
      have w4 : (60 - 4 * (k : Int)).toNat = 60 - 4 * k := by omega
      have hdiv : s / 2 ^ (60 - 4 * k) < 18446744073709551616 := Nat.lt_of_le_of_lt (Nat.div_le_self _ _) hs
      obtain ⟨d, hd, ed, w5⟩ : ∃ d : Nat, d < 16 ∧ d = s / 2 ^ (60 - 4 * k) % 16 ∧ bits .and .u64 ((s : Int) / 2 ^ (60 - 4 * k)) 15 = (d : Int) := by
        refine ⟨_, Nat.mod_lt _ (by decide), rfl, ?_⟩
        rw [show ((s : Int) / 2 ^ (60 - 4 * k)) = ((s / 2 ^ (60 - 4 * k) : Nat) : Int) by simp, show (15 : Int) = ((15 : Nat) : Int) by rfl, u64_and_nat _ _ hdiv (by decide), nat_mask4]
      have ED := Lib.hid ed
      have hc1 := hT'.2 d hd
      have hc2 := row_cell hb k
      rw [textTab_get s k k hlt, if_neg (Nat.lt_irrefl k)] at hc2
      have hf2 := row_free hb k
      have HB := Lib.hid hb
      clear hb ed hT'
      go_wp2_with fail
      go_roundw
      case rel => exact ⟨k + 1, by omega, by go_num, by rw [← textTab_set s k hlt, ← ED.out]; exact row_set HB.out k _, hfr.setCell _ _ (by simp)⟩
      case measure => simp [intOf]; omega
    · have hke : k = 16 := by omega
      subst hke
      have kc := run_convert_bytes_back (P := Tryd.prog) wr 91 9 5 ⟨w.heap.size, 0, none⟩ 16 (hexS s) Tryd.underlying91 Tryd.underlying5 Tryd.underlying9 (fun j hj => by
        have hj' : j < 16 := by simpa [hexS] using hj
        rw [show (⟨w.heap.size, 0, none⟩ : Addr).add j = ⟨w.heap.size, j, none⟩ by simp [Addr.add]; omega, row_cell hb j, textTab_get s 16 j hj', if_pos hj']
        have h2 : ∀ d, d < 16 → hexd d < 256 := by decide
        simp [hexS, Nat.mod_eq_of_lt (h2 _ (Nat.mod_lt _ (by decide)))])
      rw [show (hexS s).length = 16 by simp [hexS]] at kc
      have HB := Lib.hid hb
      clear hb hT'
      go_wp2_with fail
      go_ret
      exact ⟨rfl, hfr.toBelow (by simp)⟩

def q0 : Nat × Nat × Nat := (7046029254386353131, 0, 0)
def sumQ (l : List UInt8) : Nat × Nat × Nat := l.foldl (fun q c => addB q c.toNat) q0
def padQ : Nat → Nat × Nat × Nat → Nat × Nat × Nat
  | 0, q => q
  | f + 1, q => if q.2.2 = 0 then q else padQ f (addB q 0)
/-- The digest of a text, as the program computes it. -/
def dsum (l : List UInt8) : List UInt8 := hexS (padQ 8 (addB (sumQ l) 1)).1
theorem addB_ok {q : Nat × Nat × Nat} {c : Nat} (h : QOk q) (hc : c < 256) : QOk (addB q c) := by
  obtain ⟨s, b, n⟩ := q
  obtain ⟨h1, h2, h3⟩ := h
  simp only at h1 h2 h3
  unfold addB
  by_cases h7 : n = 7
  · simp only [h7, if_true]; exact ⟨mix_lt _, by show 0 < 2 ^ (8 * 0); decide, by show 0 < 8; decide⟩
  · simp only [h7, if_false]
    obtain ⟨_, _, _, _, b', hb', eb, _⟩ := or_shl b c n h2 h3 hc
    exact ⟨h1, by rw [← eb]; exact hb', by show n + 1 < 8; omega⟩
theorem sumQ_snoc (l : List UInt8) (k : Nat) (hk : k < l.length) : sumQ (l.take (k + 1)) = addB (sumQ (l.take k)) l[k].toNat := by
  unfold sumQ
  rw [List.take_succ_eq_append_getElem hk, List.foldl_append]
  rfl

set_option maxRecDepth 100000 in
set_option maxHeartbeats 400000 in
theorem sum_any (s : ByteArray) (w : World) (hs : s.size ≤ 9223372036854775807) (hT : HexTab w) :
    Calls Tryd.prog 48 #[.string s] w fun e w' => e = .returned (.string ⟨(dsum s.data.toList).toArray⟩) ∧ Below w.heap.size w w' := by
  have HT := Lib.hid hT
  clear hT
  go_enter Tryd.func48, Tryd.ntmps48
  go_wp2_with fail
  have hq0 : QBox (((w.alloc (.cells #[.int .u64 7046029254386353131] 93)).alloc (.cells #[.int .u64 0] 92)).alloc (.cells #[.int .i64 0] 3)) (w.heap.size + 1) (w.heap.size + 1 + 1) w.heap.size q0 :=
    ⟨heap_past _ (heap_new (by simp)), heap_new (by simp), heap_past _ (heap_past _ (heap_new rfl)), by omega, by omega, by omega, by decide, by decide, by decide⟩
  go_loopw [11] (fun i wr => ∃ k : Nat, k ≤ s.size ∧ i = .int .i64 (k : Int) ∧ QBox wr (w.heap.size + 1) (w.heap.size + 1 + 1) w.heap.size (sumQ (s.data.toList.take k)) ∧ Fr [] w wr) (fun i _ => s.size - (intOf i).toNat)
  case atStart => exact ⟨0, Nat.zero_le _, rfl, hq0, (((Fr.refl _ w).alloc _).alloc _).alloc _⟩
  case round =>
    obtain ⟨k, hk, rfl, hQ, hfr⟩ := hrel
    have HQ := Lib.hid hQ
    clear hQ
    by_cases hlt : k < s.size
    · have hl : k < s.data.toList.length := by simpa using hlt
      go_wp2_with fail
      refine (add_any _ _ _ s[k].toNat _ _ s[k].toNat_lt HQ.out).mono ?_
      rintro e w' ⟨rfl, hQ', hf'⟩
      have hfr' : Fr [] w w' := hfr.trans hf' (by have := hfr.size; simp; omega)
      have HQ' := Lib.hid hQ'
      clear hQ' hfr hf'
      go_wp2_with fail
      go_roundw
      case rel => exact ⟨k + 1, by omega, by go_num, by rw [sumQ_snoc _ _ hl]; exact HQ'.out, hfr'⟩
      case measure => simp [intOf]; omega
    · have hke : k = s.data.toList.length := by simp; omega
      have HQ2 : Hid (QBox wr (w.heap.size + 1) (w.heap.size + 1 + 1) w.heap.size (sumQ s.data.toList)) := by
        have := HQ.out; rw [hke, List.take_length] at this; exact this
      clear HQ hke
      go_wp2_with fail
      refine (add_any _ _ _ 1 _ _ (by decide) HQ2.out).mono ?_
      rintro e w1 ⟨rfl, hQ1, hf1⟩
      have hfr1 : Fr [] w w1 := hfr.trans hf1 (by have := hfr.size; simp; omega)
      have hcn1 := cell_of_one hQ1.n
      have HQ1 := Lib.hid hQ1
      clear hQ1 hfr hf1 HQ2
      go_wp2_with fail
      clear hcn1
      obtain ⟨q1, eq1⟩ : ∃ q1, q1 = addB (sumQ s.data.toList) 1 := ⟨_, rfl⟩
      have HQ1' : Hid (QBox w1 (w.heap.size + 1) (w.heap.size + 1 + 1) w.heap.size q1) := by have := HQ1.out; rw [← eq1] at this; exact this
      have EQ1 := Lib.hid eq1
      clear HQ1 eq1
      go_loopg [22] 8 (fun g _ wr => ∃ q, QBox wr (w.heap.size + 1) (w.heap.size + 1 + 1) w.heap.size q ∧ Fr [] w wr ∧ padQ g q = padQ 8 q1 ∧ (q.2.2 = 0 ∨ 8 - q.2.2 ≤ g))
      case atStart => exact ⟨q1, HQ1'.out, hfr1, rfl, by omega⟩
      case round =>
        obtain ⟨q, hQ, hfr2, hp, hg⟩ := hrel
        obtain ⟨qs, qb, qn⟩ := q
        have hok := hQ.ok
        simp only at hg
        have hcn2 := cell_of_one hQ.n
        have hcs2 := cell_of_one hQ.s
        simp only at hcn2 hcs2
        have HQ := Lib.hid hQ
        have HP := Lib.hid hp
        clear hQ hp
        by_cases hz : qn = 0
        · have t0 : decide (0 < qn) = false := by simp; omega
          have HZ := Lib.hid hz
          have hlt1 := hok.1
          simp only at hlt1
          clear hz hg hok
          go_wp2_with fail
          refine (text_any qs _ hlt1 (HT.out.fr hfr2 (by simp))).mono ?_
          rintro e w3 ⟨rfl, hb3⟩
          have hfin : dsum s.data.toList = hexS qs := by
            unfold dsum
            rw [← EQ1.out, ← HP.out]
            cases gk with
            | zero => rfl
            | succ f => rw [padQ, if_pos (by exact HZ.out)]
          have HF := Lib.hid hfin
          clear hfin
          go_wp2_with fail
          go_ret
          exact ⟨by rw [HF.out]; rfl, (hfr2.below hb3 hfr2.size).toBelow (by simp)⟩
        · have t0 : decide (0 < qn) = true := by simp; omega
          have HZ := Lib.hid hz
          have hlt8 := hok.2.2
          simp only at hlt8
          have hg1 : 8 - qn ≤ gk := by omega
          clear hz hg hok
          go_wp2_with fail
          refine (add_any _ _ _ 0 _ _ (by decide) HQ.out).mono ?_
          rintro e w3 ⟨rfl, hQ3, hf3⟩
          have hfr3 : Fr [] w w3 := hfr2.trans hf3 (by have := hfr2.size; simp; omega)
          have HQ3 := Lib.hid hQ3
          clear hQ3 hfr2 hf3
          go_wp2_with fail
          obtain ⟨f, rfl⟩ : ∃ f, gk = f + 1 := ⟨gk - 1, by omega⟩
          go_roundg f
          case measure => omega
          case rel =>
            refine ⟨_, HQ3.out, hfr3, ?_, ?_⟩
            · rw [← HP.out, padQ, if_neg (by exact HZ.out)]
            · simp only [addB]
              split
              · exact Or.inl rfl
              · right; show 8 - (qn + 1) ≤ f; omega
end Go.Proofs.YtmhejcndkplepaaDoor
