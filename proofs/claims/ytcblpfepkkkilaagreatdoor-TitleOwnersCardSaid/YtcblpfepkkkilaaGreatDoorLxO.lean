/-
  foyerlaw30.TitleOwners.
-/
import Derived.Test.YtcblpfepkkkilaaGreatDoorHeT
import Derived.Test.YtcblpfepkkkilaaGreatDoorRtS
import Derived.Test.YtcblpfepkkkilaaGreatDoorRtF
namespace Go.Proofs.YtcblpfepkkkilaaGreatDoor
open Go.RowKit

/-- The strings of the chains, in the order of the law. -/
def chainsO (se : List UInt8) (k : Nat) : List (List UInt8) := (List.range k).flatMap fun i => linksS (startS se i) 30 ++ [preS se i]
theorem chainsO_snoc (se : List UInt8) (k : Nat) : chainsO se (k + 1) = (chainsO se k ++ linksS (startS se k) 30) ++ [preS se k] := by
  unfold chainsO
  rw [List.range_succ, List.flatMap_append, List.append_assoc]; simp
theorem linksO_length (t : List UInt8) (n : Nat) : (linksS t n).length = n + 1 := by simp [linksS]
theorem chainsO_len (se : List UInt8) : ∀ k, (chainsO se k).length = k * 32
  | 0 => by simp [chainsO]
  | k + 1 => by rw [chainsO_snoc, List.length_append, List.length_append, chainsO_len se k, linksO_length]; simp; omega
theorem chainsO_mem (se : List UInt8) {x : List UInt8} (h : x ∈ chainsS se 30) : x ∈ chainsO se 18 := by
  unfold chainsS at h
  obtain ⟨i, hi, hx⟩ := List.mem_flatMap.1 h
  refine List.mem_flatMap.2 ⟨i, hi, ?_⟩
  rcases List.mem_cons.1 hx with rfl | hx
  · exact List.mem_append_right _ (by simp)
  · exact List.mem_append_left _ hx
theorem linksP_snoc (s : List UInt8) (j : Nat) : (List.range (j + 1)).map (fun q => chainN q s) = (List.range j).map (fun q => chainN q s) ++ [chainN j s] := by
  rw [List.range_succ, List.map_append]; rfl
theorem chainO_len (t : List UInt8) (k : Nat) (ht : t.length ≤ 1000000) : (chainN k t).length ≤ 1000000 := by
  cases k with
  | zero => exact ht
  | succ k => rw [chainN_succ, dsum_length]; decide
theorem chainsO_small {se : List UInt8} (hs : se.length ≤ 1000000) : ∀ x ∈ chainsO se 18, x.length ≤ 140737488355328 := by
  intro x hx
  obtain ⟨i, hi, hx⟩ := List.mem_flatMap.1 hx
  rcases List.mem_append.1 hx with hx | hx
  · obtain ⟨q, _, rfl⟩ := List.mem_map.1 hx
    exact Nat.le_trans (chainO_len _ _ (by rw [startS_length]; decide)) (by decide)
  · rw [List.mem_singleton.1 hx]
    exact starts_le se i hs (by have := List.mem_range.1 hi; omega)
theorem capO_small (l : List (List UInt8)) (h : ∀ s ∈ l, s.length ≤ 1000000) (hn : l.length ≤ 100) : capN l ≤ 140737488355328 := by
  have h1 := capN_le l 1000000 h
  have h2 : l.length * (1000000 + 21) ≤ 100 * 1000021 := Nat.mul_le_mul_right _ hn
  omega
theorem joinO_small (l : List (List UInt8)) (h : ∀ s ∈ l, s.length ≤ 1000000) (hn : l.length ≤ 100) : (joinL l).length ≤ 140737488355328 :=
  Nat.le_trans (joinL_capN l (fun s hs => Nat.lt_of_le_of_lt (h s hs) (by decide))) (capO_small l h hn)
theorem endsO_small (se : List UInt8) : ∀ s ∈ endsS se, s.length ≤ 1000000 := by
  intro s hs
  obtain ⟨i, _, rfl⟩ := List.mem_map.1 hs
  exact chainO_len _ _ (by rw [startS_length]; decide)
theorem vendsO_small (m : List UInt8) {sig : List (List UInt8)} (h : ∀ s ∈ sig, s.length ≤ 1000000) : ∀ s ∈ vends m sig, s.length ≤ 1000000 := by
  intro s hs
  obtain ⟨p, hp, rfl⟩ := List.mem_map.1 hs
  refine chainO_len _ _ (h _ ?_)
  have := List.mem_zipIdx' hp
  rw [this.2]
  exact List.getElem_mem _
/-- The forged title: its last step is the law's premise. -/
theorem forged_step {t : Ttl} {tk other se : List UInt8} (hv : validT { t with chain := t.chain ++ [⟨other, sigS se (msgT t tk)⟩] } = true) : verifyS (ownerT t) (msgT t other) (sigS se (msgT t tk)) = true := by
  unfold validT at hv
  rw [Bool.and_eq_true] at hv
  have h1 := List.all_eq_true.1 hv.2 t.chain.length (List.mem_range.2 (by simp))
  have hcut : cutT { t with chain := t.chain ++ [⟨other, sigS se (msgT t tk)⟩] } t.chain.length = t := by
    unfold cutT
    simp
  unfold stepT at h1
  rw [List.getElem?_append_right (Nat.le_refl _), Nat.sub_self, List.getElem?_cons_zero] at h1
  simp only [hcut, Bool.and_eq_true] at h1
  exact h1.2
/-- The last of some transfers is another one. -/
theorem RawT.last {w w' : World} {g c m k : Nat} {R : List Rtf} {q q' : Rtf} (h : RawT w (.slice (some ⟨g, 0, none⟩) m c) (R ++ [q])) (hk : R.length = k) (hf : w.heap.size ≤ w'.heap.size)
    (ho : ∀ j, j < k * 2 → w'.cell? ⟨g, j, none⟩ = w.cell? ⟨g, j, none⟩) (h0 : w'.cell? ⟨g, k * 2, none⟩ = some (.string ⟨q'.1.nk.toArray⟩)) (h1 : w'.cell? ⟨g, k * 2 + 1, none⟩ = some q'.2) :
    RawT w' (.slice (some ⟨g, 0, none⟩) m c) (R ++ [q']) := by
  rcases h with ⟨h, _⟩ | ⟨b, off, cap, hv, h2, h3, h4, h5⟩
  · simp at h
  · simp only [Value.slice.injEq, Option.some.injEq, Addr.mk.injEq, and_true] at hv
    obtain ⟨⟨rfl, rfl⟩, rfl, rfl⟩ := hv
    refine Or.inr ⟨g, 0, c, by simp, by simpa using h2, h3, Nat.lt_of_lt_of_le h4 hf, fun i x hx => ?_⟩
    rcases Nat.lt_or_ge i k with hi | hi
    · rw [List.getElem?_append_left (by omega)] at hx
      have h6 := h5 i x (by rw [List.getElem?_append_left (by omega)]; exact hx)
      rw [Nat.zero_add] at h6 ⊢
      rw [ho _ (by omega), ho _ (by omega)]
      exact h6
    · have hik : i = k := by
        have := (List.getElem?_eq_some_iff.1 hx).1
        simp only [List.length_append, List.length_singleton] at this
        omega
      subst hik
      rw [← hk, List.getElem?_append_right (Nat.le_refl _), Nat.sub_self, List.getElem?_cons_zero] at hx
      cases hx
      rw [Nat.zero_add]
      exact ⟨h0, h1⟩
theorem RawT.at {w : World} {b off m c k : Nat} {R : List Rtf} {q : Rtf} (h : RawT w (.slice (some ⟨b, off, none⟩) m c) (R ++ [q])) (hk : R.length = k) : w.cell? ⟨b, off + k * 2 + 1, none⟩ = some q.2 := by
  rcases h with ⟨h, _⟩ | ⟨b', off', cap, hv, h2, h3, h4, h5⟩
  · simp at h
  · cases hv
    exact (h5 k q (by rw [← hk, List.getElem?_append_right (Nat.le_refl _), Nat.sub_self, List.getElem?_cons_zero])).2
/-- A transfer is stored at the end of an own slice. -/
theorem RawT.put {w : World} {g c m k : Nat} {R : List Rtf} {q : Rtf} {x : Trf} {u : Value} {cur : Array Value} {T : TypeId} (h : RawT w (.slice (some ⟨g, 0, none⟩) m c) (R ++ [q])) (hk : R.length = k)
    (hg : w.heap[g]? = some (.cells cur T (0, 0))) (hs : k * 2 + 1 < cur.size) :
    RawT ((w.setCell ⟨g, k * 2, none⟩ (.string ⟨x.nk.toArray⟩)).setCell ⟨g, k * 2 + 1, none⟩ u) (.slice (some ⟨g, 0, none⟩) m c) (R ++ [(x, u)]) := by
  have h2 := row_set hg (k * 2) (.string ⟨x.nk.toArray⟩)
  have h3 := row_set h2 (k * 2 + 1) u
  have hz := (((Fr.refl [g] w).setCell ⟨g, k * 2, none⟩ (.string ⟨x.nk.toArray⟩) (by simp)).setCell ⟨g, k * 2 + 1, none⟩ u (by simp)).size
  refine RawT.last h hk hz (fun j hj => ?_) ?_ ?_
  · rw [row_cell h3 j, row_cell hg j, Array.getElem?_setIfInBounds, if_neg (by omega), Array.getElem?_setIfInBounds, if_neg (by omega)]
  · rw [row_cell h3, Array.getElem?_setIfInBounds, if_neg (by omega), Array.getElem?_setIfInBounds, if_pos rfl, if_pos (by omega)]
  · rw [row_cell h3, Array.getElem?_setIfInBounds, if_pos rfl, if_pos (by rw [Array.size_setIfInBounds]; omega)]
set_option maxRecDepth 100000 in
set_option maxHeartbeats 8000000 in
theorem titleOwners_any (tv : Value) (t : Ttl) (tk other se : List UInt8) (w : World) (hT : TabsU w) (ht : TtlR w tv t) (hnt : TNum t) :
    Calls Tryz.prog 4 #[tv, .string ⟨tk.toArray⟩, .string ⟨other.toArray⟩, .string ⟨se.toArray⟩] w fun e w' => e = .returned (.bool true) ∧ Below w.heap.size w w' := by
  have hmx : Tryz.prog.follows .mixedOrders = true := by kernel_rfl
  obtain ⟨vt, rfl, hct⟩ := ht
  obtain ⟨a_t, kt, rfl, _, _, _⟩ := hct.form
  have HT := Lib.hid hT
  have HN := Lib.hid hnt
  clear hT hnt
  obtain ⟨W0, hW0⟩ : ∃ W0, W0 = w.alloc (.cells #[.int .i64 t.serial, .int .i64 t.shw, .int .i64 t.place, .string ⟨t.first.toArray⟩, .slice a_t t.chain.length kt] 24) := ⟨_, rfl⟩
  obtain ⟨p, ep⟩ : ∃ p, p = w.heap.size := ⟨_, rfl⟩
  have fW0 : Fr [] w W0 := by rw [hW0]; exact (Fr.refl [] w).alloc _
  have hbt : W0.heap[p]? = some (.cells #[.int .i64 t.serial, .int .i64 t.shw, .int .i64 t.place, .string ⟨t.first.toArray⟩, .slice a_t t.chain.length kt] 24 (0, 0)) := by rw [hW0]; exact heap_new ep
  have Ht := Lib.hid (hct.fr fW0)
  clear hct
  go_enter Tryz.func4, Tryz.ntmps4
  go_wp2_with fail
  rw [← hW0, ← ep]
  clear hW0 ep
  refine (head30_any W0 (HT.out.fr fW0)).mono ?_
  rintro e y1 ⟨rfl, hbb⟩
  have hf : Fr [] W0 y1 := Fr.ofBelow hbb
  have hbt := hf.at hbt (by simp)
  have Ht := Lib.hid (Ht.out.fr hf)
  have fy1 := fW0.trans hf (by simp)
  clear hbb hf fW0
  have c0 := row_cell hbt 0
  have c1 := row_cell hbt 1
  have c2 := row_cell hbt 2
  have c3 := row_cell hbt 3
  have c4 := row_cell hbt 4
  simp at c0 c1 c2 c3 c4
  go_wp2_with fail
  obtain ⟨W2, hW2⟩ : ∃ W2, W2 = (y1.alloc (.cells #[.int .i64 t.serial, .int .i64 t.shw, .int .i64 t.place, .string ⟨t.first.toArray⟩, .slice a_t t.chain.length kt] 24)).alloc (.cells #[.string ⟨tk.toArray⟩, .string ⟨other.toArray⟩, .string ⟨se.toArray⟩] 9) := ⟨_, rfl⟩
  have hf : Fr [] y1 W2 := by rw [hW2]; exact ((Fr.refl [] y1).alloc _).alloc _
  have hbt := hf.at hbt (by simp)
  have Ht := Lib.hid (Ht.out.fr hf)
  have fW2 := fy1.trans hf (by simp)
  have hrow : W2.heap[y1.heap.size]? = some (.cells #[.int .i64 t.serial, .int .i64 t.shw, .int .i64 t.place, .string ⟨t.first.toArray⟩, .slice a_t t.chain.length kt] 24 (0, 0)) := by rw [hW2]; exact heap_past _ (heap_new rfl)
  have hstr : Strs W2 (.slice (some ⟨y1.heap.size + 1, 0, none⟩) 3 3) [tk, other, se] := by rw [hW2]; exact strs_three (heap_new (by simp))
  rw [← hW2]
  clear c0 c1 c2 c3 c4
  have htts : Tts W2 (.slice (some ⟨y1.heap.size, 0, none⟩) 1 1) [t] := tts_row hrow rfl (by decide) (fun i x hx => by
    match i with
    | 0 => obtain rfl : t = x := by simpa using hx
           exact ⟨rfl, rfl, rfl, rfl, a_t, kt, rfl, Ht.out⟩
    | i + 1 => simp at hx)
  have HTTS := Lib.hid (And.intro htts hstr)
  clear htts hrow hstr hW2 hf fy1
  refine (small30_any _ _ [t] [tk, other, se] W2 HTTS.out.1 HTTS.out.2).mono ?_
  rintro e y2 ⟨rfl, hbb⟩
  have hf : Fr [] W2 y2 := Fr.ofBelow hbb
  have hbt := hf.at hbt (by simp)
  have Ht := Lib.hid (Ht.out.fr hf)
  have fy2 := fW2.trans hf (by simp)
  clear hbb hf fW2
  clear HTTS
  obtain ⟨sm, hsm⟩ : ∃ q, q = smallT [t] [tk, other, se] := ⟨_, rfl⟩
  rw [← hsm]
  have HEX : Hid (Fr [] w y2) := fy2
  cases sm with
  | false =>
    clear hsm
    go_wp2_with fail
    go_ret
    exact ⟨rfl, HEX.out.toBelow (by simp)⟩
  | true =>
    have hsp := smallT_parts hsm.symm
    have HST := Lib.hid (fewT_small (hsp.1 t (by simp)) (by decide) HN.out)
    have HTK := Lib.hid (And.intro (hsp.2 tk (by simp)) (And.intro (hsp.2 other (by simp)) (hsp.2 se (by simp))))
    have HC6 : Hid (t.chain.length ≤ 6) := Lib.hid (by
      have h := hsp.1 t (by simp)
      unfold fewT at h
      simp only [Bool.and_eq_true, decide_eq_true_eq] at h
      exact h.1.1)
    clear hsm hsp HEX
    by_cases hto : tk = other
    · have u1 : (tk == other) = true := by rw [hto]; simp
      clear hto
      go_wp2_with fail
      go_ret
      exact ⟨rfl, fy2.toBelow (by simp)⟩
    have HTO := Lib.hid hto
    have u1 : (tk == other) = false := by rw [beq_eq_false_iff_ne]; exact hto
    clear hto
    obtain ⟨q, hq⟩ : ∃ q, q = isD other := ⟨_, rfl⟩
    go_wp2_with fail
    refine (is_any other y2 (by have := HTK.out; omega)).mono ?_
    rintro e z0 ⟨rfl, hbb⟩
    rw [← hq]
    clear u1
    have hf : Fr [] y2 z0 := Fr.ofBelow hbb
    have hbt := hf.at hbt (by simp)
    have Ht := Lib.hid (Ht.out.fr hf)
    have fz0 := fy2.trans hf (by simp)
    clear hbb hf fy2
    cases q with
    | false =>
      clear hq
      go_wp2_with fail
      go_ret
      exact ⟨rfl, fz0.toBelow (by simp)⟩
    | true =>
      clear hq
      have c0 := row_cell hbt 0
      have c1 := row_cell hbt 1
      have c2 := row_cell hbt 2
      have c3 := row_cell hbt 3
      have c4 := row_cell hbt 4
      simp at c0 c1 c2 c3 c4
      go_wp2_with fail
      refine (pass_any _ t tk se z0 ⟨_, rfl, Ht.out⟩ HST.out (by have := HTK.out; omega) (by have := HTK.out; omega) (HT.out.t.fr fz0)).mono ?_
      rintro e y3 ⟨vv, rfl, hv, hbb⟩
      have hf : Fr [] z0 y3 := Fr.ofBelow hbb
      have hbt := hf.at hbt (by simp)
      have Ht := Lib.hid (Ht.out.fr hf)
      have fy3 := fz0.trans hf (by simp)
      clear hbb hf fz0
      clear c0 c1 c2 c3 c4
      obtain ⟨pt, hpt⟩ : ∃ r, r = passT t tk se := ⟨_, rfl⟩
      cases pt with
      | inr er =>
        have hR : passR t tk se = (zeroTtl, er) := by unfold passR; rw [← hpt]
        rw [hR] at hv ⊢
        have u2 : (er != 0) = true := by simpa using (passT_err hpt.symm).1
        clear hpt hR
        obtain ⟨vx, rfl, hcx⟩ := hv
        obtain ⟨ax, kx, rfl, _, _, _⟩ := hcx.form
        clear hcx
        go_wp2_with fail
        go_ret
        exact ⟨rfl, (fy3.alloc _).toBelow (by simp)⟩
      | inl x =>
        have hR : passR t tk se = (x, 0) := by unfold passR; rw [← hpt]
        rw [hR] at hv ⊢
        clear hR
        have hv : TtlR y3 vv x := hv
        obtain ⟨vx, rfl, hcx⟩ := hv
        obtain ⟨ax, kx, rfl, hlx, _, hax⟩ := hcx.form
        have HPT := Lib.hid hpt.symm
        have hok := passT_ok hpt.symm
        obtain ⟨_, _, _, _, _, hxx⟩ := hok
        have hm : x.chain.length = t.chain.length + 1 := by rw [hxx]; simp
        have HXX := Lib.hid hxx
        clear hpt hxx
        obtain ⟨bx, ox, rfl⟩ := hax 0 (by omega)
        clear hax
        obtain ⟨n, en⟩ : ∃ n, n = t.chain.length := ⟨_, rfl⟩
        obtain ⟨m, em⟩ : ∃ m, m = x.chain.length := ⟨_, rfl⟩
        rw [← en] at hbt
        rw [← em]
        rw [← em, ← en] at hm
        have HM := Lib.hid hm
        have hnm : n < m := by omega
        have hm7 : m ≤ 7 := by have := HC6.out; omega
        have hn6 : n ≤ 6 := by have := HC6.out; omega
        have HEN := Lib.hid en
        have HEM := Lib.hid em
        rw [← em] at hlx
        have Hx : Hid (Trs y3 (.slice (some ⟨bx, ox, none⟩) m kx) x.chain) := by rw [em]; exact hcx
        clear hcx
        have Ht : Hid (Trs y3 (.slice a_t n kt) t.chain) := by rw [en]; exact Ht.out
        clear hm en em
        obtain ⟨W4, hW4⟩ : ∃ W4, W4 = y3.alloc (.cells #[.int .i64 x.serial, .int .i64 x.shw, .int .i64 x.place, .string ⟨x.first.toArray⟩, .slice (some ⟨bx, ox, none⟩) m kx] 24) := ⟨_, rfl⟩
        obtain ⟨b, eb⟩ : ∃ b, b = y3.heap.size := ⟨_, rfl⟩
        have hf : Fr [] y3 W4 := by rw [hW4]; exact (Fr.refl [] y3).alloc _
        have hbt := hf.at hbt (by simp)
        have Ht := Lib.hid (Ht.out.fr hf)
        have Hx := Lib.hid (Hx.out.fr hf)
        have fW4 := fy3.trans hf (by simp)
        have hbx : W4.heap[b]? = some (.cells #[.int .i64 x.serial, .int .i64 x.shw, .int .i64 x.place, .string ⟨x.first.toArray⟩, .slice (some ⟨bx, ox, none⟩) m kx] 24 (0, 0)) := by rw [hW4]; exact heap_new eb
        have c0 := row_cell hbt 0
        have c1 := row_cell hbt 1
        have c2 := row_cell hbt 2
        have c3 := row_cell hbt 3
        have c4 := row_cell hbt 4
        simp at c0 c1 c2 c3 c4
        rw [hW4] at c0 c1 c2 c3 c4
        obtain ⟨us, hus⟩ : ∃ q, q = usedT t other := ⟨_, rfl⟩
        go_wp2_with fail
        rw [← eb, ← hW4]
        clear hf hW4 eb fy3
        refine (rused30_any _ t other W4 ⟨_, rfl, Ht.out⟩).mono ?_
        rintro e y5 ⟨rfl, hbb⟩
        rw [← hus]
        have hf : Fr [] W4 y5 := Fr.ofBelow hbb
        have hbt := hf.at hbt (by simp)
        have hbx := hf.at hbx (by simp)
        have Ht := Lib.hid (Ht.out.fr hf)
        have Hx := Lib.hid (Hx.out.fr hf)
        have fy5 := fW4.trans hf (by simp)
        clear hbb hf fW4
        clear c0 c1 c2 c3 c4
        cases us with
        | true =>
          clear hus
          go_wp2_with fail
          go_ret
          exact ⟨rfl, fy5.toBelow (by simp)⟩
        | false =>
          clear hus
          have x0 := row_cell hbx 0
          have x1 := row_cell hbx 1
          have x2 := row_cell hbx 2
          have x3 := row_cell hbx 3
          have x4 := row_cell hbx 4
          simp at x0 x1 x2 x3 x4
          have hwr : IntKind.i64.wrap ((m : Int) - 1) = (n : Int) := by rw [IntWalk.i64_in _ (by omega)]; have := HM.out; omega
          obtain ⟨RR, hR1, hR2, hR3⟩ := (show Trs y5 (.slice (some ⟨bx, ox, none⟩) m kx) x.chain from Hx.out).raw
          obtain ⟨R, q, rfl, hR4, hq⟩ : ∃ R q, RR = R ++ [q] ∧ R.map Prod.fst = t.chain ∧ q.1 = ⟨tk, sigS se (msgT t tk)⟩ := by
            rw [HXX.out] at hR1
            obtain ⟨l1, l2, rfl, h1, h2⟩ := List.map_eq_append_iff.1 hR1
            obtain ⟨q, rfl, h3⟩ := List.map_eq_singleton_iff.1 h2
            exact ⟨l1, q, rfl, h1, h3⟩
          obtain ⟨q1, u⟩ := q
          simp only at hq
          subst hq
          have hRn : R.length = n := by rw [HEN.out, ← hR4, List.length_map]
          have HRN := Lib.hid hRn
          have hxc := hR2.at hRn
          have hus : StrsW y5 u (sigS se (msgT t tk)) := hR3 ((⟨tk, sigS se (msgT t tk)⟩ : Trf), u) (by simp)
          obtain ⟨au, cu, eu, _, _, hau⟩ := hus.form
          rw [sigS_length] at eu hau
          obtain ⟨ub, uo, rfl⟩ := hau 0 (by decide)
          subst eu
          clear hau
          have HR := Lib.hid (And.intro hR2 hR3)
          have HR4 := Lib.hid hR4
          clear hR1 hR2 hR3 hR4 hRn
          have HRL : Hid ((R ++ [((⟨tk, sigS se (msgT t tk)⟩ : Trf), (Value.slice (some ⟨ub, uo, none⟩) 18 cu))]).length = m) := Lib.hid (by rw [List.length_append, HRN.out, HM.out]; rfl)
          obtain ⟨W6, hW6⟩ : ∃ W6, W6 = y5.alloc (.cells #[.int .i64 x.serial, .int .i64 x.shw, .int .i64 x.place, .string ⟨x.first.toArray⟩, .slice (some ⟨bx, ox, none⟩) m kx] 24) := ⟨_, rfl⟩
          obtain ⟨f, ef⟩ : ∃ f, f = y5.heap.size := ⟨_, rfl⟩
          have hbf : W6.heap[f]? = some (.cells #[.int .i64 x.serial, .int .i64 x.shw, .int .i64 x.place, .string ⟨x.first.toArray⟩, .slice (some ⟨bx, ox, none⟩) m kx] 24 (0, 0)) := by rw [hW6]; exact heap_new ef
          obtain ⟨W7, hW7⟩ : ∃ W7, W7 = W6.alloc (.cells #[] 41) := ⟨_, rfl⟩
          have k7 : Fr [] W6 W7 := by rw [hW7]; exact (Fr.refl [] W6).alloc _
          have hf57 : Fr [] y5 W7 := by rw [hW7, hW6]; exact ((Fr.refl [] y5).alloc _).alloc _
          have hbx7 := hf57.at hbx (by simp)
          have hbf7 := k7.at hbf (by simp)
          have x4b := row_cell hbx7 4
          simp at x4b
          rw [hW7, hW6] at x4b
          have hoE : OwnT y5.heap.size W7 (.slice (some ⟨y5.heap.size + 1, 0, none⟩) 0 0) [] := by
            have h1 : y5.heap.size + 1 = W6.heap.size := by rw [hW6]; simp
            rw [hW7, h1]
            exact ownT_empty (by rw [← h1]; omega)
          have HRW := HR.out.1.fr hf57
          have HRS := HR.out.2.fr hf57
          rw [hW7, hW6] at hoE hf57 HRW HRS
          have HWW := Lib.hid (And.intro hW6 hW7)
          have HEF := Lib.hid ef
          have HBF := Lib.hid hbf7
          clear hW6 hW7 ef k7 hbx7 hbf hbf7
          go_wp2_with (at_builtin; go_loud (refine wpList_appT rfl (.tmp 61) (.tmp 63) rfl y5.heap.size (.slice (some ⟨y5.heap.size + 1, 0, none⟩) 0 0) (.slice (some ⟨bx, ox, none⟩) m kx) [] (R ++ [((⟨tk, sigS se (msgT t tk)⟩ : Trf), (Value.slice (some ⟨ub, uo, none⟩) 18 cu))]) y5 rfl rfl HRW HRS hoE hf57 (Nat.le_refl _) hf57.size (by have := HRL.out; simp only [List.length_nil]; omega) ?_))
          intro v' w8 hown hf8 hg8
          rw [← HWW.out.1, ← HWW.out.2] at hg8
          have hbf8 := hg8.at HBF.out (by rw [HEF.out]; simp [Value.ownBlock])
          rw [← HEF.out]
          obtain ⟨gF, cF, hv8, hgF⟩ := hown.someN (by rw [HRL.out]; omega)
          rw [HRL.out] at hv8
          subst hv8
          clear hg8 HWW HBF x0 x1 x2 x3 x4 x4b hoE hf57 HRW HRS
          have hfree := row_free hbf8 4
          have f4 := row_cell hbf8 4
          simp at f4
          have hf9 : Fr [] y5 (w8.setCell ⟨f, 4, none⟩ (.slice (some ⟨gF, 0, none⟩) m cF)) := hf8.setCell _ _ (Or.inr (Nat.le_of_eq HEF.out.symm))
          have hbf9 := row_set hbf8 4 (.slice (some ⟨gF, 0, none⟩) m cF)
          have hgf : gF ≠ f := by
            have h1 := row_ne hbf8 (by decide) hown
            intro h2
            exact h1 (by rw [h2]; rfl)
          have hown9 := hown.fr ((Fr.refl [f] w8).setCell ⟨f, 4, none⟩ (.slice (some ⟨gF, 0, none⟩) m cF) (by simp)) (fun k hk hm => by
            have h1 : gF = k := by simpa [Value.ownBlock] using hk
            rw [List.mem_singleton] at hm
            omega)
          have hbx9 := hf9.at hbx (by simp)
          have x4 := row_cell hbx9 4
          simp at x4
          have HO9 := Lib.hid hown9
          have HF9 := Lib.hid hf9
          have HBF9 := Lib.hid hbf9
          clear hown9 hf9 hbf9 hown hf8 hbx9
          go_wp2_with fail
          generalize w8.setCell ⟨f, 4, none⟩ (.slice (some ⟨gF, 0, none⟩) m cF) = z at HO9 HF9 HBF9 x4 ⊢
          clear x4 hfree f4 hbf8
          have x4 := row_cell (HF9.out.at hbx (by simp)) 4
          have f4 := row_cell HBF9.out 4
          simp at x4 f4
          have xu := HF9.out.cell hxc (by simp)
          have i0 : (0 : Int) ≤ (n : Int) := by omega
          have i1 : (n : Int) < (m : Int) := by omega
          obtain ⟨cur, hcz, hcs⟩ : ∃ cur, z.drew.heap[gF]? = some (.cells cur 41 (0, 0)) ∧ n * 2 + 1 < cur.size := by
            rcases HO9.out.2 with ⟨h, _⟩ | ⟨g, cap, cur, hv, _, hg, h3, _, h5, _⟩
            · cases h
            · cases hv
              exact ⟨cur, hg, by have := HRL.out; omega⟩
          obtain ⟨v0, hv0⟩ : ∃ v, cur[n * 2]? = some v := ⟨_, Array.getElem?_eq_getElem (by omega)⟩
          obtain ⟨v1, hv1⟩ : ∃ v, cur[n * 2 + 1]? = some v := ⟨_, Array.getElem?_eq_getElem hcs⟩
          have gt0 : Fr [] z z.drew := (Fr.refl [] z).drew
          have hSt0 : z.drew.cell? ⟨f, 4, none⟩ = some (.slice (some ⟨gF, 0, none⟩) m cF) ∧ z.drew.cell? ⟨b, 4, none⟩ = some (.slice (some ⟨bx, ox, none⟩) m kx) ∧ z.drew.cell? ⟨bx, ox + n * 2 + 1, none⟩ = some (.slice (some ⟨ub, uo, none⟩) 18 cu) := ⟨gt0.cell f4 (by simp), gt0.cell x4 (by simp), gt0.cell xu (by simp)⟩
          refine region_held 12 (fun W' => W'.cell? ⟨f, 4, none⟩ = some (.slice (some ⟨gF, 0, none⟩) m cF) ∧ W'.cell? ⟨b, 4, none⟩ = some (.slice (some ⟨bx, ox, none⟩) m kx) ∧ W'.cell? ⟨bx, ox + n * 2 + 1, none⟩ = some (.slice (some ⟨ub, uo, none⟩) 18 cu)) hmx ?_
          change Held _ _ _ _ _ _ 13 (Array.replicate 13 false) _ _
          refine hd_take 0 (v := .pointer (some ⟨f, 4, none⟩)) rfl (by kernel_rfl) (by kernel_rfl) (by kernel_rfl) rfl hSt0 (fun W' hS => by go_simp) rfl ?_
          refine hd_take 2 (v := .int .i64 (n : Int)) rfl (by kernel_rfl) (by kernel_rfl) (by kernel_rfl) rfl hSt0 (fun W' hS => by go_simp) rfl ?_
          refine hd_take 3 (v := .string ⟨other.toArray⟩) rfl (by kernel_rfl) (by kernel_rfl) (by kernel_rfl) rfl hSt0 (fun W' hS => by go_simp) rfl ?_
          refine hd_take 4 (v := .pointer (some ⟨b, 4, none⟩)) rfl (by kernel_rfl) (by kernel_rfl) (by kernel_rfl) rfl hSt0 (fun W' hS => by go_simp) rfl ?_
          refine hd_take 6 (v := .int .i64 (n : Int)) rfl (by kernel_rfl) (by kernel_rfl) (by kernel_rfl) rfl hSt0 (fun W' hS => by go_simp) rfl ?_
          try simp only [Act.put, List.setIfInBounds_toArray, List.set_cons_zero, List.set_cons_succ]
          refine hd_take 1 (v := .slice (some ⟨gF, 0, none⟩) m cF) rfl (by kernel_rfl) (by kernel_rfl) (by kernel_rfl) rfl hSt0 (fun W' hS => by obtain ⟨s0, s1, s2⟩ := hS; go_simp) rfl ?_
          refine hd_take 5 (v := .slice (some ⟨bx, ox, none⟩) m kx) rfl (by kernel_rfl) (by kernel_rfl) (by kernel_rfl) rfl hSt0 (fun W' hS => by obtain ⟨s0, s1, s2⟩ := hS; go_simp) rfl ?_
          try simp only [Act.put, List.setIfInBounds_toArray, List.set_cons_zero, List.set_cons_succ]
          refine hd_take 7 (v := .pointer (some ⟨bx, ox + n * 2, none⟩)) rfl (by kernel_rfl) (by kernel_rfl) (by kernel_rfl) rfl hSt0 (fun W' hS => by go_simp) rfl ?_
          try simp only [Act.put, List.setIfInBounds_toArray, List.set_cons_zero, List.set_cons_succ]
          refine hd_take 8 (v := .pointer (some ⟨bx, ox + n * 2 + 1, none⟩)) rfl (by kernel_rfl) (by kernel_rfl) (by kernel_rfl) rfl hSt0 (fun W' hS => by go_simp) rfl ?_
          try simp only [Act.put, List.setIfInBounds_toArray, List.set_cons_zero, List.set_cons_succ]
          refine hd_take 9 (v := .slice (some ⟨ub, uo, none⟩) 18 cu) rfl (by kernel_rfl) (by kernel_rfl) (by kernel_rfl) rfl hSt0 (fun W' hS => by obtain ⟨s0, s1, s2⟩ := hS; go_simp) rfl ?_
          try simp only [Act.put, List.setIfInBounds_toArray, List.set_cons_zero, List.set_cons_succ]
          refine hd_take 10 (v := .agg #[.string ⟨other.toArray⟩, .slice (some ⟨ub, uo, none⟩) 18 cu]) rfl (by kernel_rfl) (by kernel_rfl) (by kernel_rfl) rfl hSt0 (fun W' hS => by go_simp) rfl ?_
          try simp only [Act.put, List.setIfInBounds_toArray, List.set_cons_zero, List.set_cons_succ]
          refine hd_take 11 (v := .pointer (some ⟨gF, n * 2, none⟩)) rfl (by kernel_rfl) (by kernel_rfl) (by kernel_rfl) rfl hSt0 (fun W' hS => by go_simp) rfl ?_
          try simp only [Act.put, List.setIfInBounds_toArray, List.set_cons_zero, List.set_cons_succ]
          generalize z.drew = zd at gt0 hcz ⊢
          have s0 := row_cell hcz (n * 2)
          rw [hv0] at s0
          have s1 := row_free hcz (n * 2)
          have hc2 := row_set hcz (n * 2) (.string ⟨other.toArray⟩)
          have s2 := row_cell hc2 (n * 2 + 1)
          rw [Array.getElem?_setIfInBounds, if_neg (by omega), hv1] at s2
          have s3 := row_free hc2 (n * 2 + 1)
          refine hd_one 12 (by kernel_rfl) rfl (by kernel_rfl) rfl (fun K' hK => ?_)
          go_simp
          refine hK.out _ _ (fun h => absurd rfl h) ?_
          clear hK K'
          refine held_done (by kernel_rfl) ?_
          have hyz : Fr [] y5 zd := HF9.out.trans gt0 (by simp)
          have hrw := (HO9.out.raw.fr gt0).put (x := ⟨other, sigS se (msgT t tk)⟩) (u := .slice (some ⟨ub, uo, none⟩) 18 cu) HRN.out hcz hcs
          have hyz2 : Fr [] y5 ((zd.setCell ⟨gF, n * 2, none⟩ (.string ⟨other.toArray⟩)).setCell ⟨gF, n * 2 + 1, none⟩ (.slice (some ⟨ub, uo, none⟩) 18 cu)) := (hyz.setCell _ _ (Or.inr hgF)).setCell _ _ (Or.inr hgF)
          have hbf2 := gt0.at HBF9.out (by simp)
          have hbf3 := heap_other (heap_other hbf2 ⟨gF, n * 2, none⟩ (.string ⟨other.toArray⟩) hgf) ⟨gF, n * 2 + 1, none⟩ (.slice (some ⟨ub, uo, none⟩) 18 cu) hgf
          generalize (zd.setCell ⟨gF, n * 2, none⟩ (.string ⟨other.toArray⟩)).setCell ⟨gF, n * 2 + 1, none⟩ (.slice (some ⟨ub, uo, none⟩) 18 cu) = z2 at hrw hyz2 hbf3 ⊢
          clear hyz hbf2 s0 s1 s2 s3 hc2 hcz hv0 hv1 hcs gt0 hSt0 x4 f4 xu i0 i1
          have hsg2 : SigsR z2 (R ++ [((⟨other, sigS se (msgT t tk)⟩ : Trf), (Value.slice (some ⟨ub, uo, none⟩) 18 cu))]) := fun q hq => by
            rcases List.mem_append.1 hq with hq | hq
            · exact (HR.out.2 q (List.mem_append_left _ hq)).fr hyz2
            · rw [List.mem_singleton.1 hq]
              exact hus.fr hyz2
          have htf : Trs z2 (.slice (some ⟨gF, 0, none⟩) m cF) (t.chain ++ [⟨other, sigS se (msgT t tk)⟩]) := by
            have h1 := hrw.trs hsg2
            rw [List.map_append, HR4.out] at h1
            exact h1
          have htr : TtlR z2 (.agg #[.int .i64 x.serial, .int .i64 x.shw, .int .i64 x.place, .string ⟨x.first.toArray⟩, .slice (some ⟨gF, 0, none⟩) m cF]) { t with chain := t.chain ++ [⟨other, sigS se (msgT t tk)⟩] } := ⟨_, by rw [HXX.out], htf⟩
          have HST2 : Hid (TSmall { t with chain := t.chain ++ [⟨other, sigS se (msgT t tk)⟩] }) := Lib.hid (by
            refine ⟨⟨HN.out.s, HN.out.h, HN.out.p⟩, HST.out.f, by simp only [List.length_append, List.length_singleton]; have := HC6.out; omega, fun y hy => ?_⟩
            rcases List.mem_append.1 hy with hy | hy
            · exact HST.out.c y hy
            · rw [List.mem_singleton.1 hy]
              refine ⟨by have := HTK.out; simp only; omega, by rw [sigS_length]; decide, fun s hs => ?_⟩
              rw [isD_16 (List.all_eq_true.1 (sigS_isD _ _) s hs)]; decide)
          have HTF := Lib.hid htr
          have HY := Lib.hid hyz2
          have HUS := Lib.hid hus
          clear htr hyz2 hus htf hsg2 hrw
          have q0 := row_cell hbf3 0
          have q1 := row_cell hbf3 1
          have q2 := row_cell hbf3 2
          have q3 := row_cell hbf3 3
          have q4 := row_cell hbf3 4
          simp at q0 q1 q2 q3 q4
          go_wp2_with fail
          refine (valid30_any _ { t with chain := t.chain ++ [⟨other, sigS se (msgT t tk)⟩] } z2 HTF.out HST2.out (HT.out.t.fr (fy5.trans HY.out (by simp)))).mono ?_
          rintro e z3 ⟨rfl, hbb⟩
          have HY := Lib.hid (HY.out.trans (Fr.ofBelow (X := []) hbb) (by simp))
          clear hbb hbf3 q0 q1 q2 q3 q4 HTF HST2 HBF9 HO9 HF9
          obtain ⟨vf, hvf⟩ : ∃ q, q = validT { t with chain := t.chain ++ [⟨other, sigS se (msgT t tk)⟩] } := ⟨_, rfl⟩
          rw [← hvf]
          cases vf with
          | false =>
            clear hvf
            go_wp2_with fail
            go_ret
            exact ⟨rfl, (fy5.trans HY.out (by simp)).toBelow (by simp)⟩
          | true =>
            have HVS := Lib.hid (forged_step hvf.symm)
            clear hvf
            have HBT := Lib.hid hbt
            have HBX := Lib.hid hbx
            have HTY := Lib.hid Ht.out
            have HXC := Lib.hid hxc
            clear hbt hbx hxc Ht Hx
            have HFY := Lib.hid fy5
            clear fy5
            have hbt := HY.out.at HBT.out (by simp)
            have c0 := row_cell hbt 0
            have c1 := row_cell hbt 1
            have c2 := row_cell hbt 2
            have c3 := row_cell hbt 3
            have c4 := row_cell hbt 4
            simp at c0 c1 c2 c3 c4
            clear hbt
            go_wp2_with fail
            obtain ⟨ja, hja⟩ : ∃ q, q = joinL (fieldsT t tk) := ⟨_, rfl⟩
            obtain ⟨jb, hjb⟩ : ∃ q, q = joinL (fieldsT t other) := ⟨_, rfl⟩
            have HJA := Lib.hid hja
            have HJB := Lib.hid hjb
            clear hja hjb
            have HCA : Hid (capN (fieldsT t tk) ≤ 140737488355328) := Lib.hid (fieldsT_cap HST.out (by have := HTK.out; omega))
            have HCB : Hid (capN (fieldsT t other) ≤ 140737488355328) := Lib.hid (fieldsT_cap HST.out (by have := HTK.out; omega))
            have gh0 : Fr [] z3 z3.drew := (Fr.refl [] z3).drew
            have hSh0 : z3.drew.cell? ⟨p, 0, none⟩ = some (.int .i64 t.serial) ∧ z3.drew.cell? ⟨p, 1, none⟩ = some (.int .i64 t.shw) ∧ z3.drew.cell? ⟨p, 2, none⟩ = some (.int .i64 t.place) ∧ z3.drew.cell? ⟨p, 3, none⟩ = some (.string ⟨t.first.toArray⟩) ∧ z3.drew.cell? ⟨p, 4, none⟩ = some (.slice a_t n kt) := ⟨gh0.cell c0 (by simp), gh0.cell c1 (by simp), gh0.cell c2 (by simp), gh0.cell c3 (by simp), gh0.cell c4 (by simp)⟩
            refine region_held 100 (fun W' => W'.cell? ⟨p, 0, none⟩ = some (.int .i64 t.serial) ∧ W'.cell? ⟨p, 1, none⟩ = some (.int .i64 t.shw) ∧ W'.cell? ⟨p, 2, none⟩ = some (.int .i64 t.place) ∧ W'.cell? ⟨p, 3, none⟩ = some (.string ⟨t.first.toArray⟩) ∧ W'.cell? ⟨p, 4, none⟩ = some (.slice a_t n kt)) hmx ?_
            change Held _ _ _ _ _ _ 10 (Array.replicate 10 false) _ _
            refine hd_take 0 (v := .agg #[.int .i64 t.serial, .int .i64 t.shw, .int .i64 t.place, .string ⟨t.first.toArray⟩, .slice a_t n kt]) rfl (by kernel_rfl) (by kernel_rfl) (by kernel_rfl) rfl hSh0 (fun W' hS => by obtain ⟨s0, s1, s2, s3, s4⟩ := hS; go_simp) rfl ?_
            refine hd_take 1 (v := .string ⟨tk.toArray⟩) rfl (by kernel_rfl) (by kernel_rfl) (by kernel_rfl) rfl hSh0 (fun W' hS => by go_simp) rfl ?_
            refine hd_take 4 (v := .agg #[.int .i64 t.serial, .int .i64 t.shw, .int .i64 t.place, .string ⟨t.first.toArray⟩, .slice a_t n kt]) rfl (by kernel_rfl) (by kernel_rfl) (by kernel_rfl) rfl hSh0 (fun W' hS => by obtain ⟨s0, s1, s2, s3, s4⟩ := hS; go_simp) rfl ?_
            refine hd_take 5 (v := .string ⟨other.toArray⟩) rfl (by kernel_rfl) (by kernel_rfl) (by kernel_rfl) rfl hSh0 (fun W' hS => by go_simp) rfl ?_
            try simp only [Act.put, List.setIfInBounds_toArray, List.set_cons_zero, List.set_cons_succ]
            refine hd_one 2 (by kernel_rfl) rfl (by kernel_rfl) rfl (fun K' hK => ?_)
            go_simp
            refine (rfields30_any _ t tk z3.drew ⟨_, rfl, HTY.out.fr (HY.out.trans gh0 (by simp))⟩ HST.out (by have := HTK.out; omega)).mono ?_
            rintro e yh1 ⟨va, rfl, hsa, hbb⟩
            have gh1 : Fr [] z3 yh1 := gh0.below hbb gh0.size
            have HSA := Lib.hid hsa
            clear hsa
            clear hbb
            have hSh1 : yh1.cell? ⟨p, 0, none⟩ = some (.int .i64 t.serial) ∧ yh1.cell? ⟨p, 1, none⟩ = some (.int .i64 t.shw) ∧ yh1.cell? ⟨p, 2, none⟩ = some (.int .i64 t.place) ∧ yh1.cell? ⟨p, 3, none⟩ = some (.string ⟨t.first.toArray⟩) ∧ yh1.cell? ⟨p, 4, none⟩ = some (.slice a_t n kt) := ⟨gh1.cell c0 (by simp), gh1.cell c1 (by simp), gh1.cell c2 (by simp), gh1.cell c3 (by simp), gh1.cell c4 (by simp)⟩
            refine hK.out _ _ (fun _ => hSh1) ?_
            clear hK K'
            try simp only [Act.put, List.setIfInBounds_toArray, List.set_cons_zero, List.set_cons_succ]
            refine hd_one 3 (by kernel_rfl) rfl (by kernel_rfl) rfl (fun K' hK => ?_)
            go_simp
            refine (rjoined_any _ _ yh1 HSA.out HCA.out).mono ?_
            rintro e yh2 ⟨rfl, hbb⟩
            have gh2 : Fr [] z3 yh2 := gh1.below hbb gh1.size
            clear hbb
            have hSh2 : yh2.cell? ⟨p, 0, none⟩ = some (.int .i64 t.serial) ∧ yh2.cell? ⟨p, 1, none⟩ = some (.int .i64 t.shw) ∧ yh2.cell? ⟨p, 2, none⟩ = some (.int .i64 t.place) ∧ yh2.cell? ⟨p, 3, none⟩ = some (.string ⟨t.first.toArray⟩) ∧ yh2.cell? ⟨p, 4, none⟩ = some (.slice a_t n kt) := ⟨gh2.cell c0 (by simp), gh2.cell c1 (by simp), gh2.cell c2 (by simp), gh2.cell c3 (by simp), gh2.cell c4 (by simp)⟩
            refine hK.out _ _ (fun _ => hSh2) ?_
            clear hK K'
            try simp only [Act.put, List.setIfInBounds_toArray, List.set_cons_zero, List.set_cons_succ]
            rw [← HJA.out]
            refine hd_one 6 (by kernel_rfl) rfl (by kernel_rfl) rfl (fun K' hK => ?_)
            go_simp
            refine (rfields30_any _ t other yh2 ⟨_, rfl, HTY.out.fr (HY.out.trans gh2 (by simp))⟩ HST.out (by have := HTK.out; omega)).mono ?_
            rintro e yh3 ⟨vb, rfl, hsb, hbb⟩
            have gh3 : Fr [] z3 yh3 := gh2.below hbb gh2.size
            have HSB := Lib.hid hsb
            clear hsb
            clear hbb
            have hSh3 : yh3.cell? ⟨p, 0, none⟩ = some (.int .i64 t.serial) ∧ yh3.cell? ⟨p, 1, none⟩ = some (.int .i64 t.shw) ∧ yh3.cell? ⟨p, 2, none⟩ = some (.int .i64 t.place) ∧ yh3.cell? ⟨p, 3, none⟩ = some (.string ⟨t.first.toArray⟩) ∧ yh3.cell? ⟨p, 4, none⟩ = some (.slice a_t n kt) := ⟨gh3.cell c0 (by simp), gh3.cell c1 (by simp), gh3.cell c2 (by simp), gh3.cell c3 (by simp), gh3.cell c4 (by simp)⟩
            refine hK.out _ _ (fun _ => hSh3) ?_
            clear hK K'
            try simp only [Act.put, List.setIfInBounds_toArray, List.set_cons_zero, List.set_cons_succ]
            refine hd_one 7 (by kernel_rfl) rfl (by kernel_rfl) rfl (fun K' hK => ?_)
            go_simp
            refine (rjoined_any _ _ yh3 HSB.out HCB.out).mono ?_
            rintro e yh4 ⟨rfl, hbb⟩
            have gh4 : Fr [] z3 yh4 := gh3.below hbb gh3.size
            clear hbb
            have hSh4 : yh4.cell? ⟨p, 0, none⟩ = some (.int .i64 t.serial) ∧ yh4.cell? ⟨p, 1, none⟩ = some (.int .i64 t.shw) ∧ yh4.cell? ⟨p, 2, none⟩ = some (.int .i64 t.place) ∧ yh4.cell? ⟨p, 3, none⟩ = some (.string ⟨t.first.toArray⟩) ∧ yh4.cell? ⟨p, 4, none⟩ = some (.slice a_t n kt) := ⟨gh4.cell c0 (by simp), gh4.cell c1 (by simp), gh4.cell c2 (by simp), gh4.cell c3 (by simp), gh4.cell c4 (by simp)⟩
            refine hK.out _ _ (fun _ => hSh4) ?_
            clear hK K'
            try simp only [Act.put, List.setIfInBounds_toArray, List.set_cons_zero, List.set_cons_succ]
            rw [← HJB.out]
            refine hd_take 8 (v := .string ⟨ja.toArray⟩) rfl (by kernel_rfl) (by kernel_rfl) (by kernel_rfl) rfl hSh4 (fun W' hS => by go_simp) rfl ?_
            try simp only [Act.put, List.setIfInBounds_toArray, List.set_cons_zero, List.set_cons_succ]
            refine hd_take 9 (v := .string ⟨jb.toArray⟩) rfl (by kernel_rfl) (by kernel_rfl) (by kernel_rfl) rfl hSh4 (fun W' hS => by go_simp) rfl ?_
            try simp only [Act.put, List.setIfInBounds_toArray, List.set_cons_zero, List.set_cons_succ]
            refine held_done (by kernel_rfl) ?_
            have HY := Lib.hid (HY.out.trans gh4 (by simp))
            generalize yh4 = z4 at HY ⊢
            clear HSA HSB HCA HCB
            clear c0 c1 c2 c3 c4
            clear gh0 gh1 gh2 gh3 gh4 hSh0 hSh1 hSh2 hSh3 hSh4
            have hbt := HY.out.at HBT.out (by simp)
            have c0 := row_cell hbt 0
            have c1 := row_cell hbt 1
            have c2 := row_cell hbt 2
            have c3 := row_cell hbt 3
            have c4 := row_cell hbt 4
            simp at c0 c1 c2 c3 c4
            clear hbt
            go_wp2_with fail
            obtain ⟨ma, hma⟩ : ∃ q, q = msgT t tk := ⟨_, rfl⟩
            obtain ⟨mb, hmb⟩ : ∃ q, q = msgT t other := ⟨_, rfl⟩
            have HMA := Lib.hid hma
            have HMB := Lib.hid hmb
            clear hma hmb
            have gi0 : Fr [] z4 z4.drew := (Fr.refl [] z4).drew
            have hSi0 : z4.drew.cell? ⟨p, 0, none⟩ = some (.int .i64 t.serial) ∧ z4.drew.cell? ⟨p, 1, none⟩ = some (.int .i64 t.shw) ∧ z4.drew.cell? ⟨p, 2, none⟩ = some (.int .i64 t.place) ∧ z4.drew.cell? ⟨p, 3, none⟩ = some (.string ⟨t.first.toArray⟩) ∧ z4.drew.cell? ⟨p, 4, none⟩ = some (.slice a_t n kt) := ⟨gi0.cell c0 (by simp), gi0.cell c1 (by simp), gi0.cell c2 (by simp), gi0.cell c3 (by simp), gi0.cell c4 (by simp)⟩
            refine region_held 100 (fun W' => W'.cell? ⟨p, 0, none⟩ = some (.int .i64 t.serial) ∧ W'.cell? ⟨p, 1, none⟩ = some (.int .i64 t.shw) ∧ W'.cell? ⟨p, 2, none⟩ = some (.int .i64 t.place) ∧ W'.cell? ⟨p, 3, none⟩ = some (.string ⟨t.first.toArray⟩) ∧ W'.cell? ⟨p, 4, none⟩ = some (.slice a_t n kt)) hmx ?_
            change Held _ _ _ _ _ _ 10 (Array.replicate 10 false) _ _
            refine hd_take 0 (v := .string ⟨ja.toArray⟩) rfl (by kernel_rfl) (by kernel_rfl) (by kernel_rfl) rfl hSi0 (fun W' hS => by go_simp) rfl ?_
            refine hd_take 1 (v := .string ⟨jb.toArray⟩) rfl (by kernel_rfl) (by kernel_rfl) (by kernel_rfl) rfl hSi0 (fun W' hS => by go_simp) rfl ?_
            refine hd_take 2 (v := .agg #[.int .i64 t.serial, .int .i64 t.shw, .int .i64 t.place, .string ⟨t.first.toArray⟩, .slice a_t n kt]) rfl (by kernel_rfl) (by kernel_rfl) (by kernel_rfl) rfl hSi0 (fun W' hS => by obtain ⟨s0, s1, s2, s3, s4⟩ := hS; go_simp) rfl ?_
            refine hd_take 3 (v := .string ⟨tk.toArray⟩) rfl (by kernel_rfl) (by kernel_rfl) (by kernel_rfl) rfl hSi0 (fun W' hS => by go_simp) rfl ?_
            refine hd_take 5 (v := .agg #[.int .i64 t.serial, .int .i64 t.shw, .int .i64 t.place, .string ⟨t.first.toArray⟩, .slice a_t n kt]) rfl (by kernel_rfl) (by kernel_rfl) (by kernel_rfl) rfl hSi0 (fun W' hS => by obtain ⟨s0, s1, s2, s3, s4⟩ := hS; go_simp) rfl ?_
            refine hd_take 6 (v := .string ⟨other.toArray⟩) rfl (by kernel_rfl) (by kernel_rfl) (by kernel_rfl) rfl hSi0 (fun W' hS => by go_simp) rfl ?_
            try simp only [Act.put, List.setIfInBounds_toArray, List.set_cons_zero, List.set_cons_succ]
            refine hd_one 4 (by kernel_rfl) rfl (by kernel_rfl) rfl (fun K' hK => ?_)
            go_simp
            refine (message_any _ t tk z4.drew ⟨_, rfl, HTY.out.fr (HY.out.trans gi0 (by simp))⟩ HST.out (by have := HTK.out; omega) (HT.out.t.fr ((HFY.out.trans HY.out (by simp)).trans gi0 (by simp)))).mono ?_
            rintro e yi1 ⟨rfl, hbb⟩
            have gi1 : Fr [] z4 yi1 := gi0.below hbb gi0.size
            clear hbb
            have hSi1 : yi1.cell? ⟨p, 0, none⟩ = some (.int .i64 t.serial) ∧ yi1.cell? ⟨p, 1, none⟩ = some (.int .i64 t.shw) ∧ yi1.cell? ⟨p, 2, none⟩ = some (.int .i64 t.place) ∧ yi1.cell? ⟨p, 3, none⟩ = some (.string ⟨t.first.toArray⟩) ∧ yi1.cell? ⟨p, 4, none⟩ = some (.slice a_t n kt) := ⟨gi1.cell c0 (by simp), gi1.cell c1 (by simp), gi1.cell c2 (by simp), gi1.cell c3 (by simp), gi1.cell c4 (by simp)⟩
            refine hK.out _ _ (fun _ => hSi1) ?_
            clear hK K'
            try simp only [Act.put, List.setIfInBounds_toArray, List.set_cons_zero, List.set_cons_succ]
            rw [← HMA.out]
            refine hd_one 7 (by kernel_rfl) rfl (by kernel_rfl) rfl (fun K' hK => ?_)
            go_simp
            refine (message_any _ t other yi1 ⟨_, rfl, HTY.out.fr (HY.out.trans gi1 (by simp))⟩ HST.out (by have := HTK.out; omega) (HT.out.t.fr ((HFY.out.trans HY.out (by simp)).trans gi1 (by simp)))).mono ?_
            rintro e yi2 ⟨rfl, hbb⟩
            have gi2 : Fr [] z4 yi2 := gi1.below hbb gi1.size
            clear hbb
            have hSi2 : yi2.cell? ⟨p, 0, none⟩ = some (.int .i64 t.serial) ∧ yi2.cell? ⟨p, 1, none⟩ = some (.int .i64 t.shw) ∧ yi2.cell? ⟨p, 2, none⟩ = some (.int .i64 t.place) ∧ yi2.cell? ⟨p, 3, none⟩ = some (.string ⟨t.first.toArray⟩) ∧ yi2.cell? ⟨p, 4, none⟩ = some (.slice a_t n kt) := ⟨gi2.cell c0 (by simp), gi2.cell c1 (by simp), gi2.cell c2 (by simp), gi2.cell c3 (by simp), gi2.cell c4 (by simp)⟩
            refine hK.out _ _ (fun _ => hSi2) ?_
            clear hK K'
            try simp only [Act.put, List.setIfInBounds_toArray, List.set_cons_zero, List.set_cons_succ]
            rw [← HMB.out]
            refine hd_one 8 (by kernel_rfl) rfl (by kernel_rfl) rfl (fun K' hK => ?_)
            go_simp
            have gi3 := gi2.alloc (.cells #[.string ⟨ja.toArray⟩, .string ⟨jb.toArray⟩, .string ⟨ma.toArray⟩, .string ⟨mb.toArray⟩] 9)
            have hSi3 : (yi2.alloc (.cells #[.string ⟨ja.toArray⟩, .string ⟨jb.toArray⟩, .string ⟨ma.toArray⟩, .string ⟨mb.toArray⟩] 9)).cell? ⟨p, 0, none⟩ = some (.int .i64 t.serial) ∧ (yi2.alloc (.cells #[.string ⟨ja.toArray⟩, .string ⟨jb.toArray⟩, .string ⟨ma.toArray⟩, .string ⟨mb.toArray⟩] 9)).cell? ⟨p, 1, none⟩ = some (.int .i64 t.shw) ∧ (yi2.alloc (.cells #[.string ⟨ja.toArray⟩, .string ⟨jb.toArray⟩, .string ⟨ma.toArray⟩, .string ⟨mb.toArray⟩] 9)).cell? ⟨p, 2, none⟩ = some (.int .i64 t.place) ∧ (yi2.alloc (.cells #[.string ⟨ja.toArray⟩, .string ⟨jb.toArray⟩, .string ⟨ma.toArray⟩, .string ⟨mb.toArray⟩] 9)).cell? ⟨p, 3, none⟩ = some (.string ⟨t.first.toArray⟩) ∧ (yi2.alloc (.cells #[.string ⟨ja.toArray⟩, .string ⟨jb.toArray⟩, .string ⟨ma.toArray⟩, .string ⟨mb.toArray⟩] 9)).cell? ⟨p, 4, none⟩ = some (.slice a_t n kt) := ⟨gi3.cell c0 (by simp), gi3.cell c1 (by simp), gi3.cell c2 (by simp), gi3.cell c3 (by simp), gi3.cell c4 (by simp)⟩
            refine hK.out _ _ (fun _ => hSi3) ?_
            clear hK K'
            try simp only [Act.put, List.setIfInBounds_toArray, List.set_cons_zero, List.set_cons_succ]
            have hown0 : OwnS y5.heap.size (yi2.alloc (.cells #[.string ⟨ja.toArray⟩, .string ⟨jb.toArray⟩, .string ⟨ma.toArray⟩, .string ⟨mb.toArray⟩] 9)) (.slice (some ⟨yi2.heap.size, 0, none⟩) 4 4) [ja, jb, ma, mb] := ⟨by simp [strV], Or.inr ⟨yi2.heap.size, 4, _, rfl, (HY.out.trans gi2 (by simp)).size, heap_new rfl, Nat.le_refl _, by decide, rfl, rfl⟩⟩
            refine hd_take 9 (v := .slice (some ⟨yi2.heap.size, 0, none⟩) 4 4) rfl (by kernel_rfl) (by kernel_rfl) (by kernel_rfl) rfl hSi3 (fun W' hS => by go_simp) rfl ?_
            try simp only [Act.put, List.setIfInBounds_toArray, List.set_cons_zero, List.set_cons_succ]
            refine held_done (by kernel_rfl) ?_
            have HY := Lib.hid (HY.out.trans gi3 (by simp))
            have HO0 := Lib.hid hown0
            clear hown0 gi0 gi1 gi2 gi3 hSi0 hSi1 hSi2 hSi3
            clear c0 c1 c2 c3 c4
            obtain ⟨lb, elb⟩ : ∃ q, q = yi2.heap.size := ⟨_, rfl⟩
            rw [← elb] at HO0 ⊢
            clear elb
            generalize yi2.alloc (.cells #[.string ⟨ja.toArray⟩, .string ⟨jb.toArray⟩, .string ⟨ma.toArray⟩, .string ⟨mb.toArray⟩] 9) = z5 at HY HO0 ⊢
            have hse : se.length ≤ 1000000 := by have := HTK.out; omega
            go_wp2_with fail
            go_loopg [16, 17] 18 (fun gh ev i wr => ∃ k : Nat, k ≤ 18 ∧ gh = 18 - k ∧ i = .int .i64 (k : Int) ∧ OwnS y5.heap.size wr ev ([ja, jb, ma, mb] ++ chainsO se k) ∧ Fr [] y5 wr)
            case atStart => exact ⟨0, by omega, by omega, rfl, HO0.out, HY.out⟩
            case round =>
              obtain ⟨k, hk, hgh, rfl, ho, hfr⟩ := hrel
              have HG := Lib.hid hgh
              have HO := Lib.hid ho
              clear hgh ho
              obtain ⟨wo, rfl⟩ : ∃ wo : World, wo = wr := ⟨_, rfl⟩
              by_cases hlt : k < 18
              · have t1 : decide ((k : Int) < 18) = true := by simp; omega
                have HS : Hid ([ja, jb, ma, mb] ++ chainsO se (k + 1) = ([ja, jb, ma, mb] ++ chainsO se k ++ linksS (startS se k) 30) ++ [preS se k]) := Lib.hid (by rw [chainsO_snoc, List.append_assoc, List.append_assoc, List.append_assoc])
                have hlen : ([ja, jb, ma, mb] ++ chainsO se k).length ≤ 1000 := by rw [List.length_append, chainsO_len]; simp; omega
                have HSL : Hid ((startS se k).length ≤ 1000000) := Lib.hid (by rw [startS_length]; decide)
                generalize [ja, jb, ma, mb] ++ chainsO se k = L at HO HS hlen
                go_wp2_with fail
                refine (rstart_any se k wo hse (by omega)).mono ?_
                rintro e w1 ⟨rfl, hb1⟩
                have hf1 : Fr [] wo w1 := Fr.ofBelow hb1
                have hfr1 := hfr.trans hf1 (by simp)
                have HO1 := Lib.hid (HO.out.fr hf1 (by simp))
                clear hb1 hf1 hfr HO
                obtain ⟨s0, es0⟩ : ∃ q, q = startS se k := ⟨_, rfl⟩
                rw [← es0] at HS HSL ⊢
                clear es0
                go_wp2_with fail
                go_loopg [16, 18, 19] 31 (fun gh ev st i wr => ∃ j : Nat, j ≤ 31 ∧ gh = 31 - j ∧ i = .int .i64 (j : Int) ∧ st = .string ⟨(chainN j s0).toArray⟩ ∧ OwnS y5.heap.size wr ev (L ++ (List.range j).map fun q => chainN q s0) ∧ Fr [] y5 wr)
                case atStart => exact ⟨0, by omega, by omega, rfl, rfl, by simpa using HO1.out, hfr1⟩
                case round =>
                  clear hfr1 HO1
                  obtain ⟨j, hj, hgh, rfl, rfl, ho, hfr⟩ := hrel
                  have HG2 := Lib.hid hgh
                  have HO := Lib.hid ho
                  clear hgh ho
                  obtain ⟨wi, rfl⟩ : ∃ wi : World, wi = wr := ⟨_, rfl⟩
                  by_cases hjl : j < 31
                  · have t2 : decide ((j : Int) < 31) = true := by simp; omega
                    have HM : Hid ((L ++ (List.range (j + 1)).map fun q => chainN q s0) = (L ++ (List.range j).map fun q => chainN q s0) ++ [chainN j s0]) := Lib.hid (by rw [linksP_snoc, List.append_assoc])
                    have HN : Hid (chainN (j + 1) s0 = dsum (chainN j s0)) := Lib.hid (chainN_succ j s0)
                    have HCL : Hid ((chainN j s0).length ≤ 1000000) := Lib.hid (chainO_len s0 j HSL.out)
                    have hlen2 : (L ++ (List.range j).map fun q => chainN q s0).length ≤ 2000 := by rw [List.length_append, List.length_map, List.length_range]; omega
                    generalize (L ++ (List.range j).map fun q => chainN q s0) = M at HO HM hlen2
                    generalize chainN j s0 = c at HM HN HCL ⊢
                    go_wp2_with (at_builtin; go_loud (refine wpList_appS rfl (.tmp 114) (.tmp 116) rfl y5.heap.size _ M c y5 rfl rfl HO.out hfr (Nat.le_refl _) hfr.size (by omega) ?_))
                    rintro v' w3 g' cap' rfl ho3 hfr3 _
                    have HO3 := Lib.hid ho3
                    clear ho3 hfr HO
                    go_wp2_with fail
                    refine (sumL_any c w3 (Nat.le_trans HCL.out (by decide)) (HT.out.t.fr (HFY.out.trans hfr3 (by simp)))).mono ?_
                    rintro e w4 ⟨rfl, hb4⟩
                    have hf4 : Fr [] w3 w4 := Fr.ofBelow hb4
                    have hfr4 := hfr3.trans hf4 (by simp)
                    have HO4 := Lib.hid (HO3.out.fr hf4 (by simp))
                    clear hb4 hf4 hfr3 HO3
                    go_wp2_with fail
                    go_roundg (31 - (j + 1))
                    case measure => have := HG2.out; omega
                    case rel => exact ⟨j + 1, by omega, rfl, by go_num, by rw [HN.out], by rw [HM.out]; exact HO4.out, hfr4⟩
                  · obtain rfl : j = 31 := by omega
                    have t2 : decide (((31 : Nat) : Int) < 31) = false := by simp
                    have HO2 := Lib.hid (show OwnS y5.heap.size wi u16 (L ++ linksS s0 30) from HO.out)
                    clear HO
                    have hlen3 : (L ++ linksS s0 30).length ≤ 2000 := by rw [List.length_append, linksO_length]; omega
                    generalize L ++ linksS s0 30 = M at HO2 HS hlen3
                    go_wp2_with fail
                    refine (rdecimal_any k wi (by omega)).mono ?_
                    rintro e w2 ⟨rfl, rfl⟩
                    go_wp2_with fail
                    have HDD := Lib.hid (decDigits_two k (by omega))
                    refine (rjoined_any _ [se, Lib.decDigits k] _ (strs_two (heap_new rfl)) (capO_small _ (fun s hs => by
                      rcases List.mem_cons.1 hs with hs | hs
                      · rw [hs]; exact hse
                      · rw [List.mem_singleton.1 hs]; have := HDD.out; omega) (by simp))).mono ?_
                    rintro e w3 ⟨rfl, hb3⟩
                    have hf3 : Fr [] wi w3 := ((Fr.refl [] wi).alloc _).below hb3 ((Fr.refl [] wi).alloc _).size
                    have hfr3 := hfr.trans hf3 (by simp)
                    have HO3 := Lib.hid (HO2.out.fr hf3 (by simp))
                    clear hb3 hf3 hfr HO2
                    rw [show joinL [se, Lib.decDigits k] = preS se k from rfl]
                    generalize preS se k = pre at HS ⊢
                    go_wp2_with (at_builtin; go_loud (refine wpList_appS rfl (.tmp 120) (.tmp 126) rfl y5.heap.size _ M pre y5 rfl rfl HO3.out hfr3 (Nat.le_refl _) hfr3.size (by omega) ?_))
                    rintro v' w4 g' cap' rfl ho4 hfr4 _
                    have HO4 := Lib.hid ho4
                    clear ho4 hfr3 HO3
                    go_wp2_with fail
                    go_roundg (18 - (k + 1))
                    case measure => have := HG.out; omega
                    case rel => exact ⟨k + 1, by omega, rfl, by go_num, by rw [HS.out]; exact HO4.out, hfr4⟩
              · obtain rfl : k = 18 := by omega
                have t1 : decide (((18 : Nat) : Int) < 18) = false := by simp
                have HOL : Hid (OwnS y5.heap.size wo u16 ([ja, jb, ma, mb] ++ chainsO se 18)) := HO.out
                clear HO HO0 HY
                obtain ⟨LL, eLL⟩ : ∃ q, q = [ja, jb, ma, mb] ++ chainsO se 18 := ⟨_, rfl⟩
                rw [← eLL] at HOL
                have HLL := Lib.hid eLL
                have hLLn : LL.length ≤ 1000 := by rw [eLL, List.length_append, chainsO_len]; simp
                clear eLL
                go_wp2_with fail
                have HFO : Hid (Fr [] y5 wo) := hfr
                have HOL2 : Hid (OwnS y5.heap.size wo u16 LL) := HOL
                go_loopg [20, 22] 18 (fun gh ev i wr => ∃ k : Nat, k ≤ 18 ∧ gh = 18 - k ∧ i = .int .i64 (k : Int) ∧ OwnS wo.heap.size wr ev ((endsS se).take k) ∧ Fr [] wo wr)
                case atStart => exact ⟨0, by omega, by omega, rfl, ⟨by simp, Or.inl ⟨rfl, by simp⟩⟩, Fr.refl _ _⟩
                case round =>
                  clear hfr
                  obtain ⟨k, hk2, hgh, rfl, ho, hfr⟩ := hrel
                  have HG2 := Lib.hid hgh
                  have HO := Lib.hid ho
                  clear hgh ho
                  obtain ⟨wp, rfl⟩ : ∃ wp : World, wp = wr := ⟨_, rfl⟩
                  by_cases hlt3 : k < 18
                  · have t2 : decide ((k : Int) < 18) = true := by simp; omega
                    have HS := Lib.hid (endsS_snoc se k hlt3)
                    have hlen : ((endsS se).take k).length ≤ 18 := by rw [List.length_take]; omega
                    generalize (endsS se).take k = L at HO HS hlen
                    go_wp2_with fail
                    refine (rstart_any se k _ hse (by omega)).mono ?_
                    rintro e w1 ⟨rfl, hb1⟩
                    have HL := Lib.hid (startS_length se k)
                    have hf1 : Fr [] wp w1 := Fr.ofBelow hb1
                    go_wp2_with fail
                    refine (chain_any (startS se k) 15 _ (by rw [HL.out]; decide) (HT.out.t.fr (HFY.out.trans (HFO.out.trans (hfr.trans hf1 (by simp)) (by simp)) (by simp)))).mono ?_
                    rintro e w2 ⟨rfl, hb2⟩
                    have hf2 := hf1.below hb2 hf1.size
                    have hfr2 := hfr.trans hf2 (by simp)
                    have HO2 := Lib.hid (HO.out.fr hf2 (by simp))
                    clear hb1 hb2 hf1 hf2 hfr HO
                    go_wp2_with (at_builtin; go_loud (refine wpList_appS rfl (.tmp 132) (.tmp 137) rfl wo.heap.size _ L (dchain (startS se k) 15) wo rfl rfl HO2.out hfr2 (Nat.le_refl _) hfr2.size (by omega) ?_))
                    rintro v' w3 g' cap' rfl ho3 hfr3 _
                    have HO3 := Lib.hid ho3
                    clear ho3 hfr2 HO2
                    go_wp2_with fail
                    go_roundg (18 - (k + 1))
                    case measure => have := HG2.out; omega
                    case rel => exact ⟨k + 1, by omega, rfl, by go_num, by rw [HS.out]; exact HO3.out, hfr3⟩
                  · obtain rfl : k = 18 := by omega
                    have t2 : decide (((18 : Nat) : Int) < 18) = false := by simp
                    have HOE : Hid (OwnS wo.heap.size wp u20 (endsS se)) := Lib.hid (by have := HO.out; rw [List.take_of_length_le (by simp [endsS])] at this; exact this)
                    clear HO
                    have hfp := HFO.out.trans hfr (by simp)
                    have HFP := Lib.hid hfp
                    have HOL3 := Lib.hid (HOL2.out.fr hfr (by simp))
                    clear HOL HOL2 hfr HFO
                    have hbt := hfp.at HBT.out (by simp)
                    have c0 := row_cell hbt 0
                    have c1 := row_cell hbt 1
                    have c2 := row_cell hbt 2
                    have c3 := row_cell hbt 3
                    have c4 := row_cell hbt 4
                    simp at c0 c1 c2 c3 c4
                    clear hbt
                    go_wp2_with fail
                    refine (message_any _ t other wp ⟨_, rfl, HTY.out.fr hfp⟩ HST.out (by have := HTK.out; omega) (HT.out.t.fr (HFY.out.trans hfp (by simp)))).mono ?_
                    rintro e w1 ⟨rfl, hb1⟩
                    rw [← HMB.out]
                    have hf1 : Fr [] wp w1 := Fr.ofBelow hb1
                    clear c0 c1 c2 c3 c4
                    have HMBL : Hid (mb.length ≤ 1000000) := Lib.hid (by rw [HMB.out]; exact msgT_len _ _)
                    go_wp2_with fail
                    refine (sumL_any mb w1 (Nat.le_trans HMBL.out (by decide)) (HT.out.t.fr (HFY.out.trans (hfp.trans hf1 (by simp)) (by simp)))).mono ?_
                    rintro e w2 ⟨rfl, hb2⟩
                    have hf2 := hf1.below hb2 hf1.size
                    go_wp2_with fail
                    refine (rdigs_any (dsum mb) w2 (hexS_hex _) (by rw [dsum_length]; decide)).mono ?_
                    rintro e w3 ⟨dv, rfl, hd, hb3⟩
                    have hf3 := hf2.below hb3 hf2.size
                    clear hb1 hb2 hb3 hf1 hf2
                    obtain ⟨dg, dcap, rfl, hdb, hdl, hdc, hdm, hcells⟩ := hd.form (by rw [digs_length]; decide)
                    rw [digs_length] at hcells hdc ⊢
                    have hfq := hfp.trans hf3 (by simp)
                    have HFQ := Lib.hid hfq
                    have HOL4 := Lib.hid (HOL3.out.fr hf3 (by simp))
                    have HOE4 := Lib.hid (HOE.out.fr hf3 (by simp))
                    clear hd hdb hdl hdm HOL3 HOE hfp hf3
                    have HCL := Lib.hid hcells
                    clear hcells
                    go_wp2_with fail
                    go_loopg [21, 24] 18 (fun gh ev i wr => ∃ k : Nat, k ≤ 18 ∧ gh = 18 - k ∧ i = .int .i64 (k : Int) ∧ OwnS w3.heap.size wr ev (vends mb ((sigS se (msgT t tk)).take k)) ∧ Fr [] w3 wr)
                    case atStart => exact ⟨0, by omega, by omega, rfl, ⟨by simp [vends], Or.inl ⟨rfl, by simp [vends]⟩⟩, Fr.refl _ _⟩
                    case round =>
                      obtain ⟨k, hk4, hgh, rfl, ho, hfr⟩ := hrel
                      have HG4 := Lib.hid hgh
                      have HO := Lib.hid ho
                      clear hgh ho
                      obtain ⟨wq, rfl⟩ : ∃ wq : World, wq = wr := ⟨_, rfl⟩
                      by_cases hlt4 : k < 18
                      · have t3 : decide ((k : Int) < 18) = true := by simp; omega
                        have hls : k < (sigS se (msgT t tk)).length := by rw [sigS_length]; exact hlt4
                        have cs0 := ((HUS.out.strong (by intro h; have := sigS_length se (msgT t tk); rw [h] at this; cases this)).fr0 HFQ.out).cellN (sigS_length se (msgT t tk)) k hlt4
                        have cx0 := HFQ.out.cell HXC.out (by simp)
                        have cb0 := row_cell (HFQ.out.at HBX.out (by simp)) 4
                        simp at cb0
                        have cd0 := HCL.out k hlt4
                        have hd15 := digs_lt mb k hlt4
                        have HS := Lib.hid (vends_snoc mb (sigS se (msgT t tk)) k hls)
                        have HSL2 : Hid (((sigS se (msgT t tk)).getD k []).length ≤ 1000000) := Lib.hid (by rw [isD_16 (List.all_eq_true.1 (sigS_isD _ _) _ (getD_mem _ k [] hls))]; decide)
                        have hlenL : (vends mb ((sigS se (msgT t tk)).take k)).length ≤ 18 := by rw [vends_length, List.length_take]; omega
                        generalize vends mb ((sigS se (msgT t tk)).take k) = L at HO HS hlenL
                        generalize (sigS se (msgT t tk)).getD k [] = s at cs0 HS HSL2
                        generalize (digs (dsum mb)).getD k 0 = d at cd0 hd15 HS
                        have cs := hfr.cell cs0 (by simp)
                        have cx := hfr.cell cx0 (by simp)
                        have cb := hfr.cell cb0 (by simp)
                        have cd := hfr.cell cd0 (by simp)
                        have i0 : (0 : Int) ≤ (n : Int) := by omega
                        have i1 : (n : Int) < (m : Int) := by omega
                        have i2 : (0 : Int) ≤ (k : Int) := by omega
                        have i3 : (k : Int) < 18 := by omega
                        have wd : IntKind.i64.wrap (15 - (d : Int)) = 15 - (d : Int) := IntWalk.i64_in _ (by omega)
                        go_wp2_with fail
                        have gj0 : Fr [] wq wq.drew := (Fr.refl [] wq).drew
                        have hSj0 : wq.drew.cell? ⟨b, 4, none⟩ = some (.slice (some ⟨bx, ox, none⟩) m kx) ∧ wq.drew.cell? ⟨bx, ox + n * 2 + 1, none⟩ = some (.slice (some ⟨ub, uo, none⟩) 18 cu) ∧ wq.drew.cell? ⟨ub, uo + k, none⟩ = some (.string ⟨s.toArray⟩) ∧ wq.drew.cell? ⟨dg, k, none⟩ = some (.int .i64 (d : Int)) := ⟨gj0.cell cb (by simp), gj0.cell cx (by simp), gj0.cell cs (by simp), gj0.cell cd (by simp)⟩
                        refine region_held 18 (fun W' => W'.cell? ⟨b, 4, none⟩ = some (.slice (some ⟨bx, ox, none⟩) m kx) ∧ W'.cell? ⟨bx, ox + n * 2 + 1, none⟩ = some (.slice (some ⟨ub, uo, none⟩) 18 cu) ∧ W'.cell? ⟨ub, uo + k, none⟩ = some (.string ⟨s.toArray⟩) ∧ W'.cell? ⟨dg, k, none⟩ = some (.int .i64 (d : Int))) hmx ?_
                        change Held _ _ _ _ _ _ 19 (Array.replicate 19 false) _ _
                        refine hd_take 0 (v := u21) rfl (by kernel_rfl) (by kernel_rfl) (by kernel_rfl) rfl hSj0 (fun W' hS => by go_simp) rfl ?_
                        refine hd_take 1 (v := .pointer (some ⟨b, 4, none⟩)) rfl (by kernel_rfl) (by kernel_rfl) (by kernel_rfl) rfl hSj0 (fun W' hS => by go_simp) rfl ?_
                        refine hd_take 3 (v := .int .i64 (n : Int)) rfl (by kernel_rfl) (by kernel_rfl) (by kernel_rfl) rfl hSj0 (fun W' hS => by go_simp) rfl ?_
                        refine hd_take 7 (v := .int .i64 (k : Int)) rfl (by kernel_rfl) (by kernel_rfl) (by kernel_rfl) rfl hSj0 (fun W' hS => by go_simp) rfl ?_
                        refine hd_take 10 (v := .slice (some ⟨dg, 0, none⟩) 18 dcap) rfl (by kernel_rfl) (by kernel_rfl) (by kernel_rfl) rfl hSj0 (fun W' hS => by go_simp) rfl ?_
                        refine hd_take 11 (v := .int .i64 (k : Int)) rfl (by kernel_rfl) (by kernel_rfl) (by kernel_rfl) rfl hSj0 (fun W' hS => by go_simp) rfl ?_
                        try simp only [Act.put, List.setIfInBounds_toArray, List.set_cons_zero, List.set_cons_succ]
                        refine hd_take 2 (v := .slice (some ⟨bx, ox, none⟩) m kx) rfl (by kernel_rfl) (by kernel_rfl) (by kernel_rfl) rfl hSj0 (fun W' hS => by obtain ⟨s0, s1, s2, s3⟩ := hS; go_simp) rfl ?_
                        try simp only [Act.put, List.setIfInBounds_toArray, List.set_cons_zero, List.set_cons_succ]
                        refine hd_take 4 (v := .pointer (some ⟨bx, ox + n * 2, none⟩)) rfl (by kernel_rfl) (by kernel_rfl) (by kernel_rfl) rfl hSj0 (fun W' hS => by go_simp) rfl ?_
                        refine hd_take 12 (v := .pointer (some ⟨dg, k, none⟩)) rfl (by kernel_rfl) (by kernel_rfl) (by kernel_rfl) rfl hSj0 (fun W' hS => by go_simp) rfl ?_
                        try simp only [Act.put, List.setIfInBounds_toArray, List.set_cons_zero, List.set_cons_succ]
                        refine hd_take 5 (v := .pointer (some ⟨bx, ox + n * 2 + 1, none⟩)) rfl (by kernel_rfl) (by kernel_rfl) (by kernel_rfl) rfl hSj0 (fun W' hS => by go_simp) rfl ?_
                        refine hd_take 13 (v := .int .i64 (d : Int)) rfl (by kernel_rfl) (by kernel_rfl) (by kernel_rfl) rfl hSj0 (fun W' hS => by obtain ⟨s0, s1, s2, s3⟩ := hS; go_simp) rfl ?_
                        try simp only [Act.put, List.setIfInBounds_toArray, List.set_cons_zero, List.set_cons_succ]
                        refine hd_take 6 (v := .slice (some ⟨ub, uo, none⟩) 18 cu) rfl (by kernel_rfl) (by kernel_rfl) (by kernel_rfl) rfl hSj0 (fun W' hS => by obtain ⟨s0, s1, s2, s3⟩ := hS; go_simp) rfl ?_
                        refine hd_take 14 (v := .int .i64 (15 - (d : Int))) rfl (by kernel_rfl) (by kernel_rfl) (by kernel_rfl) rfl hSj0 (fun W' hS => by go_simp) rfl ?_
                        try simp only [Act.put, List.setIfInBounds_toArray, List.set_cons_zero, List.set_cons_succ]
                        refine hd_take 8 (v := .pointer (some ⟨ub, uo + k, none⟩)) rfl (by kernel_rfl) (by kernel_rfl) (by kernel_rfl) rfl hSj0 (fun W' hS => by go_simp) rfl ?_
                        try simp only [Act.put, List.setIfInBounds_toArray, List.set_cons_zero, List.set_cons_succ]
                        refine hd_take 9 (v := .string ⟨s.toArray⟩) rfl (by kernel_rfl) (by kernel_rfl) (by kernel_rfl) rfl hSj0 (fun W' hS => by obtain ⟨s0, s1, s2, s3⟩ := hS; go_simp) rfl ?_
                        try simp only [Act.put, List.setIfInBounds_toArray, List.set_cons_zero, List.set_cons_succ]
                        refine hd_one 15 (by kernel_rfl) rfl (by kernel_rfl) rfl (fun K' hK => ?_)
                        go_simp
                        refine (chain_any s (15 - (d : Int)) wq.drew (Nat.le_trans HSL2.out (by decide)) (HT.out.t.fr (HFY.out.trans (HFQ.out.trans (hfr.trans gj0 (by simp)) (by simp)) (by simp)))).mono ?_
                        rintro e yj1 ⟨rfl, hbb⟩
                        have gj1 : Fr [] wq yj1 := gj0.below hbb gj0.size
                        clear hbb
                        have hSj1 : yj1.cell? ⟨b, 4, none⟩ = some (.slice (some ⟨bx, ox, none⟩) m kx) ∧ yj1.cell? ⟨bx, ox + n * 2 + 1, none⟩ = some (.slice (some ⟨ub, uo, none⟩) 18 cu) ∧ yj1.cell? ⟨ub, uo + k, none⟩ = some (.string ⟨s.toArray⟩) ∧ yj1.cell? ⟨dg, k, none⟩ = some (.int .i64 (d : Int)) := ⟨gj1.cell cb (by simp), gj1.cell cx (by simp), gj1.cell cs (by simp), gj1.cell cd (by simp)⟩
                        refine hK.out _ _ (fun _ => hSj1) ?_
                        clear hK K'
                        try simp only [Act.put, List.setIfInBounds_toArray, List.set_cons_zero, List.set_cons_succ]
                        refine hd_one 16 (by kernel_rfl) rfl (by kernel_rfl) rfl (fun K' hK => ?_)
                        go_simp
                        have ga := gj1.alloc (.cells #[.string ⟨(dchain s (15 - (d : Int))).toArray⟩] 9)
                        refine hK.out _ _ (fun _ => ⟨ga.cell cb (by simp), ga.cell cx (by simp), ga.cell cs (by simp), ga.cell cd (by simp)⟩) ?_
                        clear hK K'
                        have hfr4 := hfr.trans gj1 (by simp)
                        have HO4 := Lib.hid (HO.out.fr gj1 (by simp))
                        refine hd_one 17 (by kernel_rfl) rfl (by kernel_rfl) rfl (fun K' hK => ?_)
                        refine wp_appS (.tmp 148) (.tmp 164) rfl w3.heap.size _ L (dchain s (15 - (d : Int))) w3 rfl rfl HO4.out hfr4 (Nat.le_refl _) hfr4.size (by omega) ?_
                        rintro v' w5 ⟨g', cap', rfl⟩ ho5 hfr5 _
                        have HO5 := Lib.hid ho5
                        refine hK.out _ _ (fun _ => ⟨hfr5.cell cb0 (by simp), hfr5.cell cx0 (by simp), hfr5.cell cs0 (by simp), hfr5.cell cd0 (by simp)⟩) ?_
                        clear hK K' HO4 HO hfr4 ho5
                        refine hd_one 18 (by kernel_rfl) rfl (by kernel_rfl) rfl (fun K' hK => ?_)
                        go_simp
                        refine hK.out _ _ (fun h => absurd rfl h) ?_
                        clear hK K'
                        refine held_done (by kernel_rfl) ?_
                        clear cs0 cx0 cb0 cd0 cs cx cb cd gj0 gj1 hSj0 hSj1 ga i0 i1 i2 i3 wd hd15
                        go_wp2_with fail
                        go_roundg (18 - (k + 1))
                        case measure => have := HG4.out; omega
                        case rel => exact ⟨k + 1, by omega, rfl, by go_num, by rw [HS.out]; exact HO5.out, hfr5⟩
                      · obtain rfl : k = 18 := by omega
                        have t3 : decide (((18 : Nat) : Int) < 18) = false := by simp
                        have HOV : Hid (OwnS w3.heap.size wq u21 (vends mb (sigS se (msgT t tk)))) := Lib.hid (by have := HO.out; rw [List.take_of_length_le (Nat.le_of_eq (sigS_length _ _))] at this; exact this)
                        clear HO
                        have HOL5 := Lib.hid (HOL4.out.fr hfr (by simp))
                        have HOE5 := Lib.hid (HOE4.out.fr hfr (by simp))
                        have fqq := HFQ.out.trans hfr (by simp)
                        clear HOL4 HOE4 hfr hdc
                        go_wp2_with fail
                        refine (rjoined_any _ (endsS se) wq HOE5.out.strs (capO_small _ (endsO_small se) (by simp [endsS]))).mono ?_
                        rintro e w4 ⟨rfl, hb4⟩
                        have hf4 : Fr [] wq w4 := Fr.ofBelow hb4
                        clear hb4
                        go_wp2_with fail
                        have HVO : Hid (∀ s ∈ vends mb (sigS se (msgT t tk)), s.length ≤ 1000000) := Lib.hid (vendsO_small mb (fun s hs => by rw [isD_16 (List.all_eq_true.1 (sigS_isD _ _) s hs)]; decide))
                        refine (rjoined_any _ (vends mb (sigS se (msgT t tk))) w4 (HOV.out.fr hf4 (by simp)).strs (capO_small _ HVO.out (by rw [vends_length, sigS_length]; decide))).mono ?_
                        rintro e w5 ⟨rfl, hb5⟩
                        have hf5 := hf4.below hb5 hf4.size
                        have hfz := fqq.trans hf5 (by simp)
                        have HOZ := Lib.hid (HOL5.out.fr hf5 (by simp))
                        clear hb5 hf4 hf5 fqq
                        obtain ⟨J1, eJ1⟩ : ∃ q, q = joinL (endsS se) := ⟨_, rfl⟩
                        obtain ⟨J2, eJ2⟩ : ∃ q, q = joinL (vends mb (sigS se (msgT t tk))) := ⟨_, rfl⟩
                        rw [← eJ1, ← eJ2]
                        have HJ1 := Lib.hid eJ1
                        have HJ2 := Lib.hid eJ2
                        clear eJ1 eJ2
                        go_wp2_with (at_builtin; go_loud (refine wpList_appMg (by kernel_rfl) (.tmp 168) (.tmp 173) rfl y5.heap.size _ LL [J1, J2] w5.heap.size 0 2 2 y5 rfl rfl rfl (strs_two (heap_new rfl)) (HOZ.out.fr ((Fr.refl [] _).alloc _) (by simp)) (hfz.alloc _) (Nat.le_refl _) (hfz.alloc _).size (by omega) ?_))
                        rintro v' w6 ho6 hfr6 _
                        have HO6 := Lib.hid ho6
                        clear ho6 hfz HOZ
                        go_wp2_with fail
                        have hsm : ∀ s ∈ LL ++ [J1, J2], s.length ≤ 9223372036854775807 := by
                          have e1 : ja.length ≤ 140737488355328 := by rw [HJA.out]; exact fieldsT_join HST.out (by have := HTK.out; omega)
                          have e2 : jb.length ≤ 140737488355328 := by rw [HJB.out]; exact fieldsT_join HST.out (by have := HTK.out; omega)
                          have e3 : ma.length ≤ 1000000 := by rw [HMA.out]; exact msgT_len _ _
                          have e4 := HMBL.out
                          have e5 : J1.length ≤ 140737488355328 := by rw [HJ1.out]; exact joinO_small _ (endsO_small se) (by simp [endsS])
                          have e6 : J2.length ≤ 140737488355328 := by rw [HJ2.out]; exact joinO_small _ HVO.out (by rw [vends_length, sigS_length]; decide)
                          intro s hs
                          rw [HLL.out] at hs
                          simp only [List.mem_append, List.mem_cons, List.not_mem_nil, or_false] at hs
                          rcases hs with ((rfl | rfl | rfl | rfl) | hs) | rfl | rfl
                          · omega
                          · omega
                          · omega
                          · omega
                          · have := chainsO_small hse s hs; omega
                          · omega
                          · omega
                        refine (shown30_any _ (LL ++ [J1, J2]) w6 HO6.out.strs (by simp; omega) hsm (HT.out.t.fr (HFY.out.trans hfr6 (by simp)))).mono ?_
                        rintro e w7 ⟨b7, rfl, hb7, hbb⟩
                        have hT7 : b7 = true := hb7 (by
                          have h1 := owners_coll HPT.out HTO.out HVS.out
                          rw [← HJA.out, ← HJB.out, ← HMB.out, ← HJ1.out, ← HJ2.out, ← HMA.out] at h1
                          rw [HLL.out]
                          refine h1.mono (fun s hs => ?_)
                          simp only [List.mem_append] at hs ⊢
                          rcases hs with (hs | hs) | hs
                          · exact Or.inl (Or.inl hs)
                          · exact Or.inl (Or.inr (chainsO_mem se hs))
                          · exact Or.inr hs)
                        subst hT7
                        clear hb7 hsm
                        have hf7 := hfr6.trans (Fr.ofBelow (X := []) hbb) (by simp)
                        clear hbb hfr6
                        go_wp2_with fail
                        go_ret
                        exact ⟨rfl, (HFY.out.trans hf7 (by simp)).toBelow (by simp)⟩
end Go.Proofs.YtcblpfepkkkilaaGreatDoor
