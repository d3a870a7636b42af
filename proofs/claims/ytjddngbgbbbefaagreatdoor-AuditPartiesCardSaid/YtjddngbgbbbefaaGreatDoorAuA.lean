/-
  audit.texts, audit.order.
  Slices of parties that the call has made; slices.ContainsFunc over entries; slices.Clone of entries and of parties; the closure of audit.Publish.
  audit.Publish, Receipt, Included.
  audit.Receipt, Included.
-/
import Derived.Test.YtjddngbgbbbefaaGreatDoorPlnAv
import Derived.Test.YtjddngbgbbbefaaGreatDoorEnB
import Derived.Test.YtjddngbgbbbefaaGreatDoorDrA
import Derived.Test.YtjddngbgbbbefaaGreatDoorArr
import Derived.Test.YtjddngbgbbbefaaGreatDoorOwnP
import Derived.Test.YtjddngbgbbbefaaGreatDoorEnC
import Derived.Test.YtjddngbgbbbefaaGreatDoorChk
import Derived.Test.YtjddngbgbbbefaaGreatDoorPlnFl
namespace Go.Proofs.YtjddngbgbbbefaaGreatDoor
open Go.RowKit

/-- Entries whose strings are not too long. -/
def EntS (l : List Pty) : Prop := ∀ p ∈ l, p.name.length ≤ 1000000 ∧ p.com.length ≤ 1000000 ∧ p.rev.length ≤ 1000000
theorem textsE_snoc (l : List Pty) (k : Nat) (p : Pty) (hp : l[k]? = some p) : textsE (l.take (k + 1)) = textsE (l.take k) ++ [textS p] := by
  unfold textsE
  rw [List.take_add_one, hp, List.map_append]
  rfl
set_option maxRecDepth 100000 in
set_option maxHeartbeats 2000000 in
theorem atexts_any (v : Value) (l : List Pty) (w : World) (hv : Pts w v l) (hn : l.length ≤ 100000) (hl : EntS l) :
    Calls Tryz.prog 33 #[v] w fun e w' => ∃ v', e = .returned v' ∧ OwnS w.heap.size w' v' (textsE l) ∧ Below w.heap.size w w' := by
  have HV := Lib.hid hv
  have HL := Lib.hid hl
  obtain ⟨a, cap, rfl, hlc, hcap, ha⟩ := hv.form
  clear hv hl
  go_enter Tryz.func33, Tryz.ntmps33
  go_wp2_with fail
  go_loopg [3, 8] (l.length + 1) (fun g ev i wr => ∃ k : Nat, k ≤ l.length ∧ g = l.length + 1 - k ∧ i = .int .i64 (k : Int) ∧ OwnS w.heap.size wr ev (textsE (l.take k)) ∧ Fr [] w wr)
  case atStart => exact ⟨0, by omega, by omega, rfl, ⟨rfl, Or.inl ⟨rfl, rfl⟩⟩, Fr.refl _ _⟩
  case round =>
    obtain ⟨k, hk, hg, rfl, ho, hfr⟩ := hrel
    have HG := Lib.hid hg
    have HO := Lib.hid ho
    have HF := Lib.hid hfr
    clear hg ho
    by_cases hlt : k < l.length
    · obtain ⟨b, off, rfl⟩ := ha k hlt
      have t2 : decide ((k : Int) < (l.length : Int)) = true := by simp; omega
      obtain ⟨p, hp⟩ : ∃ p, l[k]? = some p := ⟨l[k], List.getElem?_eq_getElem hlt⟩
      obtain ⟨c0, c1, c2⟩ := (HV.out.fr hfr).cells k p hp
      have HS := Lib.hid (textsE_snoc l k p hp)
      have HPS := Lib.hid (HL.out p (List.mem_of_getElem? hp))
      have hlen : (textsE (l.take k)).length < 1000000 := by unfold textsE; rw [List.length_map, List.length_take]; omega
      have i0 : (0 : Int) ≤ (k : Int) := by omega
      have i1 : (k : Int) < (l.length : Int) := by omega
      clear hp hfr
      generalize textsE (l.take k) = L at HO HS hlen
      go_wp2_with fail
      have hf1 : Fr [] wr (wr.alloc (.cells #[.string ⟨p.name.toArray⟩, .string ⟨p.com.toArray⟩, .string ⟨p.rev.toArray⟩] 43)) := (Fr.refl [] wr).alloc _
      generalize wr.alloc (.cells #[.string ⟨p.name.toArray⟩, .string ⟨p.com.toArray⟩, .string ⟨p.rev.toArray⟩] 43) = w1 at hf1 ⊢
      refine (textE_any p w1 HPS.out.1 HPS.out.2.1 HPS.out.2.2).mono ?_
      rintro e w2 ⟨rfl, hb⟩
      have hf2 : Fr [] wr w2 := hf1.below hb hf1.size
      have HO2 := Lib.hid (HO.out.fr hf2 (by simp))
      have HF2 := Lib.hid (HF.out.trans hf2 (by simp))
      clear hb hf1 hf2 c0 c1 c2
      obtain ⟨tx, etx⟩ : ∃ q, q = textS p := ⟨_, rfl⟩
      rw [← etx]
      rw [← etx] at HS
      clear etx
      go_wp2_with (at_builtin; go_loud (refine wpList_appS rfl (.tmp 12) (.tmp 15) rfl w.heap.size _ L tx w rfl rfl HO2.out HF2.out (Nat.le_refl _) HF2.out.size hlen ?_))
      intro v' w' g9 c9 hv9 ho' hf' _
      subst hv9
      have HO3 := Lib.hid ho'
      have HF3 := Lib.hid hf'
      clear ho' hf'
      go_wp2_with fail
      go_roundg (l.length + 1 - (k + 1))
      case measure => have := HG.out; omega
      case rel => exact ⟨k + 1, by omega, rfl, by go_num, by rw [HS.out]; exact HO3.out, HF3.out⟩
    · obtain rfl : k = l.length := by omega
      have t2 : decide ((l.length : Int) < (l.length : Int)) = false := by simp
      have HOE : Hid (OwnS w.heap.size wr _ (textsE l)) := Lib.hid (by have := HO.out; rwa [List.take_length] at this)
      go_wp2_with fail
      go_ret
      exact ⟨_, rfl, HOE.out, HF.out.toBelow (by simp)⟩

theorem Nums.frX {X : List Nat} {w w' : World} {v : Value} {l : List Nat} (h : Nums w v l) (hf : Fr X w w') (hx : ∀ b, v.ownBlock = some b → b ∉ X) : Nums w' v l := by
  rcases h with h | ⟨b, off, cap, hv, h1, h2, h3, h4⟩
  · exact Or.inl h
  · exact Or.inr ⟨b, off, cap, hv, h1, h2, Nat.lt_of_lt_of_le h3 hf.size, fun i hi => hf.cell (h4 i hi) (hx b (by rw [hv]; rfl))⟩
def headsK (o : List Nat) (k : Nat) : List Nat := (List.range k).filter fun i => o.getD i 0 == i
theorem headsK_all (o : List Nat) : headsK o o.length = headsO o := rfl
theorem headsK_yes {o : List Nat} {k : Nat} (h : o.getD k 0 = k) : headsK o (k + 1) = headsK o k ++ [k] := by
  unfold headsK
  rw [List.range_succ, List.filter_append]
  simp only [List.filter_cons, List.filter_nil]
  rw [if_pos (by rw [h]; simp)]
theorem headsK_no {o : List Nat} {k : Nat} (h : o.getD k 0 ≠ k) : headsK o (k + 1) = headsK o k := by
  unfold headsK
  rw [List.range_succ, List.filter_append]
  simp only [List.filter_cons, List.filter_nil]
  rw [if_neg (by simpa using h), List.append_nil]
theorem headsK_le (o : List Nat) (k : Nat) : (headsK o k).length ≤ k := by
  have := List.length_filter_le (fun i => o.getD i 0 == i) (List.range k)
  rw [List.length_range] at this
  exact this
/-- The order while its places are set. -/
def ordK (o : List Nat) (seed : List UInt8) (k : Nat) : List Nat := (orderO o seed).take k ++ (shufS seed (headsO o).length).drop k
theorem ordK_zero (o : List Nat) (seed : List UInt8) : ordK o seed 0 = shufS seed (headsO o).length := by simp [ordK]
theorem ordK_len (o : List Nat) (seed : List UInt8) (k : Nat) (hk : k ≤ (headsO o).length) : (ordK o seed k).length = (headsO o).length := by
  simp [ordK, order_length, shufS_length]
  omega
theorem ordK_all (o : List Nat) (seed : List UInt8) : ordK o seed (headsO o).length = orderO o seed := by
  unfold ordK
  rw [List.take_of_length_le (by rw [order_length]; omega), List.drop_eq_nil_of_le (by rw [shufS_length]; omega), List.append_nil]
theorem ordK_at (o : List Nat) (seed : List UInt8) {k : Nat} (hk : k < (headsO o).length) : (ordK o seed k).getD k 0 = (shufS seed (headsO o).length).getD k 0 := by
  unfold ordK
  have h1 : ((orderO o seed).take k).length = k := by rw [List.length_take, order_length]; omega
  rw [List.getD_eq_getElem?_getD, List.getElem?_append_right (by omega), h1, Nat.sub_self, List.getElem?_drop, Nat.add_zero, List.getD_eq_getElem?_getD]
theorem ordK_set (o : List Nat) (seed : List UInt8) {k : Nat} (hk : k < (headsO o).length) : (ordK o seed k).set k ((headsO o).getD ((shufS seed (headsO o).length).getD k 0) 0) = ordK o seed (k + 1) := by
  have h1 : ((orderO o seed).take k).length = k := by rw [List.length_take, order_length]; omega
  have h2 := (order_at o seed hk).1
  unfold ordK
  rw [List.set_append_right _ _ (by omega), h1, Nat.sub_self, ← h2, List.take_add_one, List.append_assoc]
  congr 1
  have h3 : k < (shufS seed (headsO o).length).length := by rw [shufS_length]; exact hk
  have h4 : k < (orderO o seed).length := by rw [order_length]; exact hk
  rw [List.drop_eq_getElem_cons h3, List.set_cons_zero, List.getElem?_eq_getElem h4, List.getD_eq_getElem?_getD, List.getElem?_eq_getElem h4]
  rfl

set_option maxRecDepth 100000 in
set_option maxHeartbeats 4000000 in
theorem aorder_any (v : Value) (l : List Pty) (seed : List UInt8) (w : World) (hv : Pts w v l) (hn : l.length ≤ 4000) (hl : EntS l) (hse : seed.length ≤ 1000000) (hT : Tabs w) :
    Calls Tryz.prog 36 #[v, .string ⟨seed.toArray⟩] w fun e w' => ∃ g, e = .returned (.slice (some ⟨g, 0, none⟩) (orderO (clsL l) seed).length (orderO (clsL l) seed).length) ∧ w.heap.size ≤ g ∧ ArrN w' g (orderO (clsL l) seed) ∧ Below w.heap.size w w' := by
  have HT := Lib.hid hT
  have HSE := Lib.hid hse
  obtain ⟨n, en⟩ : ∃ n, n = l.length := ⟨_, rfl⟩
  have HCC := Lib.hid (classes_any v l w hv (by omega) (fun p hp => ⟨(hl p hp).1, (hl p hp).2.1⟩))
  obtain ⟨a, cap, rfl, hlc, hcap, ha⟩ := hv.form
  rw [← en] at HCC hn hlc ⊢
  have HN := Lib.hid en
  clear hv hl hT en ha
  go_enter Tryz.func36, Tryz.ntmps36
  go_wp2_with fail
  refine HCC.out.mono ?_
  rintro e w1 ⟨g0, o, rfl, hg0, ha0, hcls, hb⟩
  have HLN : Hid (o.length = n) := Lib.hid (by rw [hcls.len, HN.out])
  have HCL : Hid (clsL l = o) := Lib.hid (clsL_eq hcls)
  have HF1 := Lib.hid (Fr.ofBelow (X := []) hb)
  have HA0 := Lib.hid ha0
  clear hcls hb ha0 HCC
  go_wp2_with fail
  go_loopg [5, 14] (n + 1) (fun gh hv i wr => ∃ k : Nat, k ≤ n ∧ gh = n + 1 - k ∧ i = .int .i64 (k : Int) ∧ OwnI w1.heap.size wr hv (headsK o k) ∧ ArrN wr g0 o ∧ Fr [] w1 wr)
  case atStart => exact ⟨0, by omega, by omega, rfl, OwnI.nil, HA0.out, Fr.refl _ _⟩
  case round =>
    obtain ⟨k, hk, hgh, rfl, ho, ha0, hfr⟩ := hrel
    have HG := Lib.hid hgh
    have HO := Lib.hid ho
    have HA := Lib.hid ha0
    have HF := Lib.hid hfr
    have hkl := headsK_le o k
    clear hgh ho hfr
    by_cases hlt : k < n
    · have t2 : decide ((k : Int) < (n : Int)) = true := by simp; omega
      have c0 := ha0.cell k (by rw [HLN.out]; exact hlt)
      have i0 : (0 : Int) ≤ (k : Int) := by omega
      have i1 : (k : Int) < (n : Int) := by omega
      clear ha0
      have hyes := headsK_yes (o := o) (k := k)
      have hno := headsK_no (o := o) (k := k)
      generalize o.getD k 0 = x at c0 hyes hno
      by_cases hh : x = k
      · have HY := Lib.hid (hyes hh)
        rw [hh] at c0
        have t3 : ((k : Int) == (k : Int)) = true := by simp
        clear hh
        clear hyes hno
        go_wp2_with (at_builtin; go_loud (refine wpList_appI rfl (.tmp 22) (.tmp 24) rfl w1.heap.size _ (headsK o k) k w1 rfl rfl HO.out HF.out (Nat.le_refl _) HF.out.size (by omega) ?_))
        rintro v' w' ho' hf' hx'
        have HO3 := Lib.hid ho'
        have HF3 := Lib.hid hf'
        have HA3 : Hid (ArrN w' g0 o) := Lib.hid (HA.out.fr hx' (fun hm => by
          have h1 := (ownBlock_cells HO.out g0 (Option.mem_toList.1 hm)).1
          have h2 := lt_of_block HA0.out
          omega))
        clear ho' hf' hx'
        go_wp2_with fail
        go_roundg (n + 1 - (k + 1))
        case measure => have := HG.out; omega
        case rel => exact ⟨k + 1, by omega, rfl, by go_num, by rw [HY.out]; exact HO3.out, HA3.out, HF3.out⟩
      · have HY := Lib.hid (hno hh)
        have t3 : ((x : Int) == (k : Int)) = false := by rw [beq_eq_false_iff_ne]; omega
        clear hh hyes hno
        go_wp2_with fail
        go_roundg (n + 1 - (k + 1))
        case measure => have := HG.out; omega
        case rel => exact ⟨k + 1, by omega, rfl, by go_num, by rw [HY.out]; exact HO.out, HA.out, HF.out⟩
    · obtain rfl : k = n := by omega
      have t2 : decide ((k : Int) < (k : Int)) = false := by simp
      have HOE : Hid (OwnI w1.heap.size wr _ (headsO o)) := Lib.hid (by have := HO.out; rwa [← HLN.out, headsK_all] at this)
      have hml : (headsO o).length ≤ 4000 := by have := headsK_le o k; rw [← HLN.out, headsK_all] at this; have := HLN.out; omega
      obtain ⟨m, em⟩ : ∃ m, m = (headsO o).length := ⟨_, rfl⟩
      obtain ⟨ah, ch, hfm, _, hao⟩ := HOE.out.nums.form
      have HMM := Lib.hid em
      rw [← em] at hfm hml
      have HAO : Hid (∀ i, i < m → ∃ b off, ah = some ⟨b, off, none⟩) := Lib.hid (by rw [em]; exact hao)
      subst hfm
      clear em hao ha0 hkl
      go_wp2_with fail
      refine (shuffle_any seed m wr hml HSE.out (HT.out.fr (HF1.out.trans HF.out (by simp)))).mono ?_
      rintro e w3 ⟨g1, rfl, hg1, ha1, hb⟩
      have hf3 : Fr [] wr w3 := Fr.ofBelow hb
      have HF3 := Lib.hid ((HF1.out.trans HF.out (by simp)).trans hf3 (by simp))
      have HO3 : Hid (Nums w3 (.slice ah m ch) (headsO o)) := Lib.hid (HOE.out.nums.fr0 hf3)
      have HB3 : Hid (∀ b, (Value.slice ah m ch).ownBlock = some b → b ≠ g1) := Lib.hid (fun b hb2 => by
        have h1 := HOE.out
        rcases h1.form with ⟨h0, _⟩ | ⟨g, cap', cur, h0, _, hgc, _⟩
        · rw [h0] at hb2; simp [Value.ownBlock] at hb2
        · rw [h0] at hb2
          obtain rfl : g = b := by simpa [Value.ownBlock] using hb2
          have := lt_of_block hgc
          omega)
      have HA1 : Hid (ArrN w3 g1 (ordK o seed 0)) := Lib.hid (by rw [ordK_zero, ← HMM.out]; exact ha1)
      have HG1 : Hid (w.heap.size ≤ g1) := Lib.hid (Nat.le_trans (HF1.out.trans HF.out (by simp)).size hg1)
      clear hb hf3 hg1 ha1
      go_wp2_with fail
      obtain ⟨wo, rfl⟩ : ∃ wo : World, wo = wr := ⟨_, rfl⟩
      go_loopg [33] (m + 1) (fun gh i wr => ∃ j : Nat, j ≤ m ∧ gh = m + 1 - j ∧ i = .int .i64 (j : Int) ∧ ArrN wr g1 (ordK o seed j) ∧ Nums wr (.slice ah m ch) (headsO o) ∧ Fr [] w wr)
      case atStart => exact ⟨0, by omega, by omega, rfl, HA1.out, HO3.out, HF3.out⟩
      case round =>
        obtain ⟨j, hj, hgj, rfl, ha1, hno, hfr⟩ := hrel
        have HGJ := Lib.hid hgj
        have HAJ := Lib.hid ha1
        have HNJ := Lib.hid hno
        have HFJ := Lib.hid hfr
        clear hgj hno hfr
        by_cases hlj : j < m
        · have t5 : decide ((j : Int) < (m : Int)) = true := by simp; omega
          have hjm : j < (headsO o).length := by rw [← HMM.out]; exact hlj
          have hln := ordK_len o seed j (by omega)
          have c1 := ha1.cell j (by rw [hln]; exact hjm)
          rw [ordK_at o seed hjm] at c1
          have hset := ordK_set o seed hjm
          have hsl := (order_at o seed hjm).2
          obtain ⟨x, ex⟩ : ∃ x, x = (shufS seed (headsO o).length).getD j 0 := ⟨_, rfl⟩
          rw [← ex] at c1 hset hsl
          obtain ⟨hb5, ho5, rfl⟩ := HAO.out x (by rw [HMM.out]; exact hsl)
          have c2 := (by have h := HNJ.out; rw [HMM.out] at h; exact h.cell x hsl : wr.cell? ⟨hb5, ho5 + x, none⟩ = some (.int .i64 ((headsO o).getD x 0 : Nat)))
          obtain ⟨y, ey⟩ : ∃ y, y = (headsO o).getD x 0 := ⟨_, rfl⟩
          rw [← ey] at c2 hset
          have f1 := row_free ha1 j
          have HA2 : Hid (ArrN (wr.setCell ⟨g1, j, none⟩ (.int .i64 (y : Int))) g1 (ordK o seed (j + 1))) := Lib.hid (by rw [← hset]; exact HAJ.out.set j y)
          have hfx : Fr [g1] wr (wr.setCell ⟨g1, j, none⟩ (.int .i64 (y : Int))) := (Fr.refl [g1] wr).setCell _ _ (by simp)
          have HN2 : Hid (Nums (wr.setCell ⟨g1, j, none⟩ (.int .i64 (y : Int))) (.slice (some ⟨hb5, ho5, none⟩) m ch) (headsO o)) := Lib.hid (HNJ.out.frX hfx (fun b hb2 hm => HB3.out b hb2 (List.mem_singleton.1 hm)))
          have HF2 : Hid (Fr [] w (wr.setCell ⟨g1, j, none⟩ (.int .i64 (y : Int)))) := Lib.hid (HFJ.out.trans hfx (fun y hy => Or.inr (by rw [List.mem_singleton.1 hy]; exact HG1.out)))
          have i0 : (0 : Int) ≤ (j : Int) := by omega
          have i1 : (j : Int) < (m : Int) := by omega
          have i2 : (0 : Int) ≤ (x : Int) := by omega
          have i3 : (x : Int) < (m : Int) := by have := HMM.out; omega
          clear hset ex ey hfx ha1 hln hjm hsl
          go_wp2_with fail
          generalize wr.setCell ⟨g1, j, none⟩ (.int .i64 (y : Int)) = w5 at HA2 HN2 HF2 ⊢
          go_roundg (m + 1 - (j + 1))
          case measure => have := HGJ.out; omega
          case rel => exact ⟨j + 1, by omega, rfl, by go_num, HA2.out, HN2.out, HF2.out⟩
        · obtain rfl : j = m := by omega
          have t5 : decide ((j : Int) < (j : Int)) = false := by simp
          have HAE : Hid (ArrN wr g1 (orderO o seed)) := Lib.hid (by have := HAJ.out; rwa [HMM.out, ordK_all] at this)
          have HLE : Hid ((orderO o seed).length = j) := Lib.hid (by rw [order_length, HMM.out])
          clear ha1
          go_wp2_with fail
          go_ret
          rw [HCL.out, HLE.out]
          exact ⟨g1, rfl, HG1.out, HAE.out, HFJ.out.toBelow (by simp)⟩
end Go.Proofs.YtjddngbgbbbefaaGreatDoor
namespace Go.Proofs.YtjddngbgbbbefaaGreatDoor
open Go.RowKit

/-- A slice of parties that the call has made. -/
def OwnQ (base : Nat) (w : World) (v : Value) (l : List Pty) : Prop := w.ownsRow base 46 3 v l.length (l.flatMap ptyCells)
theorem OwnQ.nil {base : Nat} {w : World} : OwnQ base w (.slice none 0 0) [] := ⟨rfl, Or.inl ⟨rfl, rfl⟩⟩
theorem OwnQ.fr {X : List Nat} {base : Nat} {w w' : World} {v : Value} {l : List Pty} (h : OwnQ base w v l) (hf : Fr X w w') (hx : ∀ k, v.ownBlock = some k → k ∉ X) : OwnQ base w' v l := ownsRow_fr h hf hx
theorem OwnQ.pts {base : Nat} {w : World} {v : Value} {l : List Pty} (h : OwnQ base w v l) : Pts w v l := by
  rcases h.2 with ⟨h1, h2⟩ | ⟨g, cap, cur, hv, hb, hg, h3, h4, h5, h6⟩
  · exact Or.inl ⟨h1, List.length_eq_zero_iff.1 h2⟩
  · refine Or.inr ⟨g, 0, cap, hv, h3, by unfold maxLen at h4; omega, lt_of_block hg, fun i p hp => ?_⟩
    have hi : i < l.length := (List.getElem?_eq_some_iff.1 hp).1
    have key : ∀ j, j < 3 → w.cell? ⟨g, i * 3 + j, none⟩ = (ptyCells p)[j]? := by
      intro j hj
      rw [row_cell hg, ← ptyCells_at l i p hp j hj, ← h6, List.getElem?_take, if_pos (by omega), Array.getElem?_toList]
    rw [Nat.zero_add]
    exact ⟨key 0 (by decide), key 1 (by decide), key 2 (by decide)⟩
theorem qInfo : (Tryz.prog.info? 46).map (fun i => (i.zero, i.size, i.bytes)) = some (some (.agg #[.string ⟨#[]⟩, .string ⟨#[]⟩, .string ⟨#[]⟩]), 3, 48) := by kernel_rfl

theorem run_appQ_nil (w : World) (base : Nat) (ty : TypeId) (v : Value) (l : List Pty) (hown : OwnQ base w v l) (c : Nat) : (Builtin.append_ #[23, 23] ty #[v, .slice none 0 c]).run Tryz.prog w = .ok v w := by
  obtain ⟨i0, hi, hz0, hz1, hz2⟩ := info_parts qInfo
  rcases hown.2 with ⟨rfl, _⟩ | ⟨g, cap, cur, rfl, _, _, hnc, _⟩
  · simp [Builtin.append_, run_underlying Tryz.underlying23, sizeOf, typeInfo, hi, Builtin.lenOf, Builtin.firstCells]
  · simp [Builtin.append_, run_underlying Tryz.underlying23, sizeOf, typeInfo, hi, Builtin.lenOf, Builtin.firstCells, hnc, storeCells]
theorem wp_appQ {o : Oper} {a : Act} {K : Act → World → Prop} {Q : Exit → Act → World → Prop} {w : World} (s x : Operand)
    (ho : o.op = .call { callee := .builtin .append, args := #[s, x], argTypes := #[23, 23] }) (base : Nat) (ev xv : Value) (l xs : List Pty) (w0 : World)
    (hs : a.eval s = ev) (hx : a.eval x = xv) (hxs : Pts w xv xs) (hown : OwnQ base w ev l) (hfr : Fr [] w0 w) (hb0 : w0.heap.size ≤ base) (hb : base ≤ w.heap.size) (hl : l.length + xs.length < 1000000)
    (h : ∀ v' w', OwnQ base w' v' (l ++ xs) → Fr [] w0 w' → Fr ev.ownBlock.toList w w' → K (a.put o.dst v') w') :
    o.wp Tryz.prog a w K Q := by
  obtain ⟨i0, hi, hz0, hz1, hz2⟩ := info_parts qInfo
  rcases hxs with ⟨rfl, rfl⟩ | ⟨b, off, cap, rfl, h1, h2, h3, h4⟩
  · have hrun := run_appQ_nil w base o.type ev l hown 0
    have := h ev w (by simpa using hown) hfr (Fr.refl _ _)
    unfold Oper.wp execOp
    simp only [ho, resolve, invoke, builtin, Sem.run_bind, Sem.run_pure, Result.andThen_ok, List.map_toArray, List.map_cons, List.map_nil, hs, hx, hrun]
    exact this
  · refine wp_append_own _ s x 23 ho base 46 i0 (.agg #[.string ⟨#[]⟩, .string ⟨#[]⟩, .string ⟨#[]⟩]) 3 48 Tryz.underlying23 hi hz0 hz1 hz2 rfl (by decide) ev _ _ hs hown ⟨b, off, none⟩ xs.length cap (xs.flatMap ptyCells) hx (ptyCells_length xs)
      (fun j u hj => ?_) (ptyCells_one xs) (by unfold maxLen; omega) (by omega) hb ?_
    · have hjl : j < xs.length * 3 := by
        rw [← ptyCells_length]; exact (List.getElem?_eq_some_iff.1 hj).1
      obtain ⟨p, hp⟩ : ∃ p, xs[j / 3]? = some p := ⟨xs[j / 3]'(by omega), List.getElem?_eq_getElem _⟩
      have he := ptyCells_at xs (j / 3) p hp (j % 3) (Nat.mod_lt _ (by decide))
      rw [show j / 3 * 3 + j % 3 = j by omega, hj] at he
      obtain ⟨c0, c1, c2⟩ := h4 (j / 3) p hp
      rw [show (⟨b, off, none⟩ : Addr).add j = ⟨b, off + j, none⟩ by cases j <;> simp [Addr.add], show off + j = off + j / 3 * 3 + j % 3 by omega]
      have hm : j % 3 < 3 := Nat.mod_lt _ (by decide)
      generalize j % 3 = r at he hm ⊢
      match r, hm with
      | 0, _ => rw [Nat.add_zero, c0]; exact he.symm
      | 1, _ => rw [c1]; exact he.symm
      | 2, _ => rw [c2]; exact he.symm
    · intro v' w' hown' hgrow _
      refine h v' w' ?_ (hfr.grown hgrow (fun r e => Or.inr ?_)) ((Fr.refl _ w).grown hgrow (fun r e => Or.inl (by simp [e])))
      · simpa [OwnQ] using hown'
      · exact Nat.le_trans hb0 (ownBlock_cells hown r e).1
theorem wpList_appQ {ops : Array Oper} {rest : List Oper} {o : Oper} {a : Act} {Q : Exit → Act → World → Prop} {w : World} (hg : o.guard = none) (s x : Operand)
    (ho : o.op = .call { callee := .builtin .append, args := #[s, x], argTypes := #[23, 23] }) (base : Nat) (ev xv : Value) (l xs : List Pty) (w0 : World)
    (hs : a.eval s = ev) (hx : a.eval x = xv) (hxs : Pts w xv xs) (hown : OwnQ base w ev l) (hfr : Fr [] w0 w) (hb0 : w0.heap.size ≤ base) (hb : base ≤ w.heap.size) (hl : l.length + xs.length < 1000000)
    (h : ∀ v' w', OwnQ base w' v' (l ++ xs) → Fr [] w0 w' → Fr ev.ownBlock.toList w w' → wpList Tryz.prog ops Q rest (a.put o.dst v') w') :
    wpList Tryz.prog ops Q (o :: rest) a w :=
  wpList_plain hg fun _ hK => wp_appQ s x ho base ev xv l xs w0 hs hx hxs hown hfr hb0 hb hl fun v' w' h2 h3 h4 => hK _ _ (h v' w' h2 h3 h4)
theorem ownQ_empty {base : Nat} {W : World} (hb : base ≤ W.heap.size) : OwnQ base (W.alloc (.cells #[] 46)) (.slice (some ⟨W.heap.size, 0, none⟩) 0 0) [] :=
  ⟨rfl, Or.inr ⟨W.heap.size, 0, #[], rfl, hb, heap_new rfl, Nat.le_refl _, by decide, rfl, rfl⟩⟩
set_option maxRecDepth 100000 in
set_option maxHeartbeats 1000000 in
theorem indexE_any (v : Value) (l : List Pty) (lf : Nat) (lc : Array Value) (pr : Pty → Bool) (w : World) (hv : Pts w v l)
    (he : ∀ args w, (callFunc lf args).run Tryz.prog w = .ok (.enter lf args) w)
    (hcall : ∀ (p : Pty) (W : World), p ∈ l → Fr [] w W → Calls Tryz.prog lf (#[ptyV p] ++ lc) W fun e W' => e = .returned (.bool (pr p)) ∧ Below W.heap.size W W') :
    Calls Tryz.prog 69 #[v, .func (.func lf) #[] lc] w fun e w' => ∃ k : Int, e = .returned (.int .i64 k) ∧ decide (0 ≤ k) = l.any pr ∧ Below w.heap.size w w' := by
  have HV := Lib.hid hv
  obtain ⟨a, cap, rfl, hlc, hcap, ha⟩ := hv.form
  clear hv
  have HCALL := Lib.hid hcall
  clear hcall
  go_enter Tryz.func69, Tryz.ntmps69
  go_wp2_with fail
  go_loopg [8] (l.length + 1) (fun g i wr => ∃ k : Nat, k ≤ l.length ∧ g = l.length + 1 - k ∧ i = .int .i64 (k : Int) ∧ (l.take k).any pr = false ∧ Fr [] w wr)
  case atStart => exact ⟨0, by omega, by omega, rfl, by simp, Fr.refl _ _⟩
  case round =>
    obtain ⟨k, hk, hg, rfl, hany, hfr⟩ := hrel
    have HG := Lib.hid hg
    have HANY := Lib.hid hany
    clear hg hany
    by_cases hlt : k < l.length
    · obtain ⟨b, off, rfl⟩ := ha k hlt
      have t1 : decide ((k : Int) < (l.length : Int)) = true := by simp; omega
      obtain ⟨p, hp⟩ : ∃ p, l[k]? = some p := ⟨l[k], List.getElem?_eq_getElem hlt⟩
      have hc := (HV.out.fr hfr).cells k p hp
      obtain ⟨c0, c1, c2⟩ := hc
      have HM := Lib.hid (List.mem_of_getElem? hp)
      have HP := Lib.hid hp
      have HC := Lib.hid (HCALL.out p wr HM.out hfr)
      clear hp
      unfold ptyV at HC
      go_wp2_with fail
      refine HC.out.mono ?_
      rintro e w1 ⟨rfl, hb1⟩
      have hf1 : Fr [] w w1 := hfr.below hb1 hfr.size
      have HS : Hid ((l.take (k + 1)).any pr = ((l.take k).any pr || pr p)) := Lib.hid (by
        rw [List.take_add_one, HP.out, List.any_append]; simp)
      cases hpr : pr p with
      | true =>
        have HR : Hid (l.any pr = true) := Lib.hid (List.any_eq_true.2 ⟨p, HM.out, hpr⟩)
        clear hpr
        go_wp2_with fail
        go_ret
        exact ⟨k, rfl, by rw [HR.out]; simp, hf1.toBelow (by simp)⟩
      | false =>
        have HQ := Lib.hid hpr
        clear hpr
        go_wp2_with fail
        go_roundg (l.length + 1 - (k + 1))
        case measure => have := HG.out; omega
        case rel => exact ⟨k + 1, by omega, rfl, by go_num, by rw [HS.out, HANY.out, HQ.out]; rfl, hf1⟩
    · obtain rfl : k = l.length := by omega
      have t1 : decide ((l.length : Int) < (l.length : Int)) = false := by simp
      have HR : Hid (l.any pr = false) := Lib.hid (by have := HANY.out; rwa [List.take_length] at this)
      go_wp2_with fail
      go_ret
      exact ⟨-1, rfl, by rw [HR.out]; rfl, hfr.toBelow (by simp)⟩

set_option maxRecDepth 100000 in
theorem containsE_any (v : Value) (l : List Pty) (lf : Nat) (lc : Array Value) (pr : Pty → Bool) (w : World) (hv : Pts w v l)
    (he : ∀ args w, (callFunc lf args).run Tryz.prog w = .ok (.enter lf args) w)
    (hcall : ∀ (p : Pty) (W : World), p ∈ l → Fr [] w W → Calls Tryz.prog lf (#[ptyV p] ++ lc) W fun e W' => e = .returned (.bool (pr p)) ∧ Below W.heap.size W W') :
    Calls Tryz.prog 28 #[v, .func (.func lf) #[] lc] w fun e w' => e = .returned (.bool (l.any pr)) ∧ Below w.heap.size w w' := by
  go_enter Tryz.func28, Tryz.ntmps28
  go_wp2_with fail
  refine (indexE_any v l lf lc pr w hv he hcall).mono ?_
  rintro e w1 ⟨k, rfl, hk, hb1⟩
  go_wp2_with fail
  go_ret
  exact ⟨by rw [← hk]; rfl, hb1⟩


set_option maxRecDepth 100000 in
set_option maxHeartbeats 1000000 in
theorem cloneE_any (v : Value) (l : List Pty) (w : World) (hv : Pts w v l) (hn : l.length ≤ 100000) :
    Calls Tryz.prog 31 #[v] w fun e w' => ∃ v', e = .returned v' ∧ Pts w' v' l ∧ (∀ b, v'.ownBlock = some b → w.heap.size ≤ b ∧ b < w'.heap.size) ∧ Below w.heap.size w w' := by
  have HV := Lib.hid hv
  obtain ⟨av, cap, rfl, hc⟩ : ∃ av cap, v = .slice av l.length cap ∧ ((av = none ∧ cap = 0 ∧ l = []) ∨ ∃ x, av = some x) := by
    rcases hv with ⟨rfl, rfl⟩ | ⟨b, off, cap, rfl, _⟩
    · exact ⟨none, 0, rfl, Or.inl ⟨rfl, rfl, rfl⟩⟩
    · exact ⟨_, cap, rfl, Or.inr ⟨_, rfl⟩⟩
  clear hv
  rcases hc with ⟨rfl, rfl, rfl⟩ | ⟨av, rfl⟩
  · have hq : ∀ w, (binOp .eql 22 (.slice none 0 0) (.slice none 0 0)).run Tryz.prog w = .ok (.bool true) w := fun _ => by kernel_rfl
    go_enter Tryz.func31, Tryz.ntmps31
    go_wp2_with fail
    go_ret
    exact ⟨_, rfl, Or.inl ⟨rfl, rfl⟩, fun b hb => (by simp [Value.ownBlock] at hb), Below.refl _ _⟩
  · have hq : ∀ w, (binOp .eql 22 (.slice (some av) l.length cap) (.slice none 0 0)).run Tryz.prog w = .ok (.bool false) w := fun _ => by kernel_rfl
    go_enter Tryz.func31, Tryz.ntmps31
    go_wp2_with (at_builtin; go_loud (refine wpList_appP rfl (.tmp 5) (.tmp 6) rfl w.heap.size (.slice (some ⟨w.heap.size, 0, none⟩) 0 0) (.slice (some av) l.length cap) [] l w rfl rfl (HV.out.fr ((Fr.refl [] w).alloc _)) (ownP_empty (Nat.le_refl _)) ((Fr.refl [] w).alloc _) (Nat.le_refl _) (by simp) (by simp; omega) ?_))
    intro v' w' hown hf _
    have HO : Hid (Pts w' v' l) := Lib.hid (by have := hown.pts; simpa using this)
    have HB : Hid (∀ b, v'.ownBlock = some b → w.heap.size ≤ b ∧ b < w'.heap.size) := Lib.hid (fun b hb => by
      refine ⟨(ownBlock_cells hown b hb).1, ?_⟩
      rcases hown.2 with ⟨h1, _⟩ | ⟨g, cap, cur, h1, _, hg, _⟩
      · rw [h1] at hb; simp [Value.ownBlock] at hb
      · rw [h1] at hb
        obtain rfl : g = b := by simpa [Value.ownBlock] using hb
        exact lt_of_block hg)
    clear hown
    go_wp2_with fail
    go_ret
    exact ⟨v', rfl, HO.out, HB.out, hf.toBelow (by simp)⟩

set_option maxRecDepth 100000 in
set_option maxHeartbeats 1000000 in
theorem cloneQ_any (v : Value) (l : List Pty) (w : World) (hv : Pts w v l) (hn : l.length ≤ 100000) :
    Calls Tryz.prog 34 #[v] w fun e w' => ∃ v', e = .returned v' ∧ Pts w' v' l ∧ (∀ b, v'.ownBlock = some b → w.heap.size ≤ b ∧ b < w'.heap.size) ∧ Below w.heap.size w w' := by
  have HV := Lib.hid hv
  obtain ⟨av, cap, rfl, hc⟩ : ∃ av cap, v = .slice av l.length cap ∧ ((av = none ∧ cap = 0 ∧ l = []) ∨ ∃ x, av = some x) := by
    rcases hv with ⟨rfl, rfl⟩ | ⟨b, off, cap, rfl, _⟩
    · exact ⟨none, 0, rfl, Or.inl ⟨rfl, rfl, rfl⟩⟩
    · exact ⟨_, cap, rfl, Or.inr ⟨_, rfl⟩⟩
  clear hv
  rcases hc with ⟨rfl, rfl, rfl⟩ | ⟨av, rfl⟩
  · have hq : ∀ w, (binOp .eql 23 (.slice none 0 0) (.slice none 0 0)).run Tryz.prog w = .ok (.bool true) w := fun _ => by kernel_rfl
    go_enter Tryz.func34, Tryz.ntmps34
    go_wp2_with fail
    go_ret
    exact ⟨_, rfl, Or.inl ⟨rfl, rfl⟩, fun b hb => (by simp [Value.ownBlock] at hb), Below.refl _ _⟩
  · have hq : ∀ w, (binOp .eql 23 (.slice (some av) l.length cap) (.slice none 0 0)).run Tryz.prog w = .ok (.bool false) w := fun _ => by kernel_rfl
    go_enter Tryz.func34, Tryz.ntmps34
    go_wp2_with (at_builtin; go_loud (refine wpList_appQ rfl (.tmp 5) (.tmp 6) rfl w.heap.size (.slice (some ⟨w.heap.size, 0, none⟩) 0 0) (.slice (some av) l.length cap) [] l w rfl rfl (HV.out.fr ((Fr.refl [] w).alloc _)) (ownQ_empty (Nat.le_refl _)) ((Fr.refl [] w).alloc _) (Nat.le_refl _) (by simp) (by simp; omega) ?_))
    intro v' w' hown hf _
    have HO : Hid (Pts w' v' l) := Lib.hid (by have := hown.pts; simpa using this)
    have HB : Hid (∀ b, v'.ownBlock = some b → w.heap.size ≤ b ∧ b < w'.heap.size) := Lib.hid (fun b hb => by
      refine ⟨(ownBlock_cells hown b hb).1, ?_⟩
      rcases hown.2 with ⟨h1, _⟩ | ⟨g, cap, cur, h1, _, hg, _⟩
      · rw [h1] at hb; simp [Value.ownBlock] at hb
      · rw [h1] at hb
        obtain rfl : g = b := by simpa [Value.ownBlock] using hb
        exact lt_of_block hg)
    clear hown
    go_wp2_with fail
    go_ret
    exact ⟨v', rfl, HO.out, HB.out, hf.toBelow (by simp)⟩

set_option maxRecDepth 100000 in
theorem apub1_any (p : Pty) (w : World) (h0 : p.name.length ≤ 1000000) (h1 : p.com.length ≤ 1000000) (h2 : p.rev.length ≤ 1000000) :
    Calls Tryz.prog 29 #[ptyV p] w fun e w' => e = .returned (.bool (!validB p)) ∧ Below w.heap.size w w' := by
  have HC := Lib.hid (fun w => validE_any p w h0 h1 h2)
  unfold ptyV at HC ⊢
  go_enter Tryz.func29, Tryz.ntmps29
  go_wp2_with fail
  have hf0 : Fr [] w (w.alloc (.cells #[.string ⟨p.name.toArray⟩, .string ⟨p.com.toArray⟩, .string ⟨p.rev.toArray⟩] 43)) := (Fr.refl [] w).alloc _
  refine (HC.out _).mono ?_
  rintro e w1 ⟨rfl, hb1⟩
  go_wp2_with fail
  go_ret
  exact ⟨rfl, (hf0.below hb1 hf0.size).toBelow (by simp)⟩
end Go.Proofs.YtjddngbgbbbefaaGreatDoor
namespace Go.Proofs.YtjddngbgbbbefaaGreatDoor
open Go.RowKit

/-- A value reads as published records. -/
def PblR (W : World) (v : Value) (p : Pbl) : Prop := ∃ ev pv ov sv, v = .agg #[ev, .string ⟨p.root.toArray⟩, pv, ov, sv] ∧ Pts W ev p.ents ∧ Pts W pv p.parts ∧ Zs W ov p.order ∧ Zs W sv p.served
theorem PblR.fr {w w' : World} {v : Value} {p : Pbl} (h : PblR w v p) (hf : Fr [] w w') : PblR w' v p := by
  obtain ⟨ev, pv, ov, sv, hv, h1, h2, h3, h4⟩ := h
  exact ⟨ev, pv, ov, sv, hv, h1.fr hf, h2.fr hf, h3.fr0 hf, h4.fr0 hf⟩
theorem zeroPb_reads (W : World) : PblR W (.agg #[.slice none 0 0, .string ⟨#[]⟩, .slice none 0 0, .slice none 0 0, .slice none 0 0]) zeroPb :=
  ⟨_, _, _, _, rfl, Or.inl ⟨rfl, rfl⟩, Or.inl ⟨rfl, rfl⟩, Or.inl ⟨rfl, none, rfl⟩, Or.inl ⟨rfl, none, rfl⟩⟩
theorem isD_l16A {l : List UInt8} (h : isD l = true) : l.length = 16 := by
  unfold isD at h
  simp only [Bool.and_eq_true] at h
  simpa using h.1
theorem textS_len (p : Pty) : (textS p).length ≤ 100 := by
  unfold textS
  split
  · rename_i h
    unfold validB at h
    simp only [Bool.and_eq_true] at h
    have h1 : p.name.length ≤ 24 := by
      have := h.1.1
      unfold nameB at this
      simp only [decide_eq_true_eq] at this
      exact this.2.2
    have h2 := isD_l16A h.1.2
    have h3 := isD_l16A h.2
    simp
    omega
  · simp
theorem textsE_len (l : List Pty) : ∀ s ∈ textsE l, s.length ≤ 1000000 := by
  intro s hs
  unfold textsE at hs
  obtain ⟨p, _, rfl⟩ := List.mem_map.1 hs
  have := textS_len p
  omega
theorem rootL_len (l : List (List UInt8)) : (rootL (l)).length ≤ 16 := by
  have key : ∀ n (l : List (List UInt8)), l.length = n → l ≠ [] → (∀ s ∈ l, s.length = 16) → (topL l).length = 16 := by
    intro n
    induction n using Nat.strongRecOn with
    | ind n ih =>
      intro l hn hne hl
      unfold topL
      split
      · rename_i h1
        have hu := upL_length l
        refine ih (upL l).length (by omega) (upL l) rfl (fun h => by rw [h] at hu; simp at hu; omega) (fun s hs => ?_)
        obtain ⟨k, hk, rfl⟩ := List.getElem_of_mem hs
        have h2 := upL_at l k (by omega)
        have h3 : (upL l)[k] = (upL l).getD k [] := by rw [List.getD_eq_getElem?_getD, List.getElem?_eq_getElem hk]; rfl
        rw [h3, h2]
        split
        · exact dlist_len _
        · rw [List.getD_eq_getElem?_getD, List.getElem?_eq_getElem (by omega)]
          exact hl _ (List.getElem_mem _)
      · cases l with
        | nil => exact absurd rfl hne
        | cons x t => exact hl x (by simp)
  unfold rootL
  split
  · exact Nat.le_of_eq (dlist_len _)
  · rename_i h
    refine Nat.le_of_eq (key _ _ rfl (by simpa using h) (fun s hs => ?_))
    obtain ⟨x, _, rfl⟩ := List.mem_map.1 hs
    exact dlist_len _
theorem set5P {w W : World} {p : Nat} {t : TypeId} {c0 c1 c2 c3 c4 : Value} (d0 d1 d2 d3 d4 : Value) (h : W.heap[p]? = some (.cells #[c0, c1, c2, c3, c4] t (0, 0))) (hf : Fr [] w W) (hp : w.heap.size ≤ p) :
    Fr [] w ((((((W).setCell ⟨p, 0, none⟩ (d0)).setCell ⟨p, 1, none⟩ (d1)).setCell ⟨p, 2, none⟩ (d2)).setCell ⟨p, 3, none⟩ (d3)).setCell ⟨p, 4, none⟩ (d4)) ∧ ((((((W).setCell ⟨p, 0, none⟩ (d0)).setCell ⟨p, 1, none⟩ (d1)).setCell ⟨p, 2, none⟩ (d2)).setCell ⟨p, 3, none⟩ (d3)).setCell ⟨p, 4, none⟩ (d4)).heap[p]? = some (.cells #[d0, d1, d2, d3, d4] t (0, 0)) := by
  refine ⟨?_, ?_⟩
  · have hq : ∀ k, (⟨p, k, none⟩ : Addr).block ∈ ([] : List Nat) ∨ w.heap.size ≤ (⟨p, k, none⟩ : Addr).block := fun k => Or.inr hp
    exact ((((hf.setCell ⟨p, 0, none⟩ d0 (hq 0)).setCell ⟨p, 1, none⟩ d1 (hq 1)).setCell ⟨p, 2, none⟩ d2 (hq 2)).setCell ⟨p, 3, none⟩ d3 (hq 3)).setCell ⟨p, 4, none⟩ d4 (hq 4)
  · exact row_set (row_set (row_set (row_set (row_set h 0 d0) 1 d1) 2 d2) 3 d3) 4 d4
theorem Nums.zs {w : World} {v : Value} {l : List Nat} (h : Nums w v l) : Zs w v (l.map Int.ofNat) := by
  rcases h with ⟨rfl, rfl⟩ | ⟨b, off, cap, rfl, h1, h2, h3, h4⟩
  · exact Or.inl ⟨rfl, none, rfl⟩
  · refine Or.inr ⟨b, off, cap, by rw [List.length_map], by rw [List.length_map]; exact h1, h2, h3, fun i hi => ?_⟩
    rw [List.length_map] at hi
    rw [h4 i hi, List.getD_eq_getElem?_getD, List.getD_eq_getElem?_getD, List.getElem?_map, List.getElem?_eq_getElem hi]
    rfl
theorem seedS_len (l : List Pty) (root : List UInt8) : (seedS l root).1.length ≤ 16 := by
  unfold seedS
  split
  · simp
  · split
    · simp
    · split
      · simp
      · exact Nat.le_of_eq (dlist_len _)
theorem Pts.frX {X : List Nat} {w w' : World} {v : Value} {l : List Pty} (h : Pts w v l) (hf : Fr X w w') (hx : ∀ b, v.ownBlock = some b → b ∉ X) : Pts w' v l := by
  rcases h with h | ⟨b, off, cap, hv, h1, h2, h3, h4⟩
  · exact Or.inl h
  · have hb := hx b (by rw [hv]; rfl)
    exact Or.inr ⟨b, off, cap, hv, h1, h2, Nat.lt_of_lt_of_le h3 hf.size, fun i p hp => ⟨hf.cell (h4 i p hp).1 hb, hf.cell (h4 i p hp).2.1 hb, hf.cell (h4 i p hp).2.2 hb⟩⟩
theorem clsL_len (l : List Pty) : (clsL l).length ≤ l.length := by
  unfold clsL
  split
  · rename_i h
    exact Nat.le_of_eq h.choose_spec.len
  · simp
theorem entersP1 : ∀ args w, (callFunc 29 args).run Tryz.prog w = .ok (.enter 29 args) w := enters_of Tryz.func29 (by kernel_rfl) rfl

set_option maxRecDepth 100000 in
set_option maxHeartbeats 8000000 in
theorem publish_any (ev pv : Value) (es ps : List Pty) (w : World) (he : Pts w ev es) (hp : Pts w pv ps) (hl : EntS es) (hn : es.length ≤ 100000) (hpn : ps.length ≤ 100000) (hps : ∀ p ∈ ps, p.name.length ≤ 1000000 ∧ p.rev.length ≤ 1000000) (hT : Tabs w) :
    Calls Tryz.prog 8 #[ev, pv] w fun e w' => ∃ v, e = .returned (.tuple #[v, .int .i64 (pubS (clsL es) es ps).2]) ∧ PblR w' v (pubS (clsL es) es ps).1 ∧ Below w.heap.size w w' := by
  have HE := Lib.hid he
  have HP := Lib.hid hp
  have HL := Lib.hid hl
  have HPS := Lib.hid hps
  have HT := Lib.hid hT
  obtain ⟨ea, ec, rfl, _, _, _⟩ := he.form
  obtain ⟨pa, pc, rfl, _, _, _⟩ := hp.form
  clear he hp hl hps hT
  obtain ⟨W0, hW0⟩ : ∃ W0, W0 = w.alloc (.cells #[.slice none 0 0, .string ⟨#[]⟩, .slice none 0 0, .slice none 0 0, .slice none 0 0] 26) := ⟨_, rfl⟩
  obtain ⟨p, ep⟩ : ∃ p, p = w.heap.size := ⟨_, rfl⟩
  have f0 : Fr [] w W0 := by rw [hW0]; exact (Fr.refl [] w).alloc _
  have hp0 : W0.heap[p]? = some (.cells #[.slice none 0 0, .string ⟨#[]⟩, .slice none 0 0, .slice none 0 0, .slice none 0 0] 26 (0, 0)) := by rw [hW0]; exact heap_new ep
  have EP := Lib.hid ep
  have HF0 := Lib.hid f0
  have HP0 := Lib.hid hp0
  by_cases h4 : 4000 < es.length
  · have t1 : decide ((4000 : Int) < (es.length : Int)) = true := by simp; omega
    have HR : Hid (pubS (clsL es) es ps = (zeroPb, 3)) := Lib.hid (by unfold pubS; rw [if_pos h4])
    clear h4
    go_enter Tryz.func8, Tryz.ntmps8
    go_wp2_with fail
    rw [← hW0, ← ep]
    have m0 := row_cell hp0 0
    have m1 := row_cell hp0 1
    have m2 := row_cell hp0 2
    have m3 := row_cell hp0 3
    have m4 := row_cell hp0 4
    simp at m0 m1 m2 m3 m4
    clear hp0 f0 hW0 ep
    refine bodyPost_ret (v := .tuple #[.agg #[.slice none 0 0, .string ⟨#[]⟩, .slice none 0 0, .slice none 0 0, .slice none 0 0], .int .i64 3]) ?_ rfl ⟨_, by rw [HR.out], by rw [HR.out]; exact zeroPb_reads _, by rw [EP.out]; exact HF0.out.toBelow (by simp)⟩
    rw [results_cell_tmp rfl]
    go_simp
  have t1 : decide ((4000 : Int) < (es.length : Int)) = false := by simp; omega
  have HPUB : Hid (pubS (clsL es) es ps = if es.any (fun e => !validB e) then (zeroPb, 1) else if (seedS ps (rootL (textsE es))).2 ≠ 0 then (zeroPb, (seedS ps (rootL (textsE es))).2) else (⟨es, rootL (textsE es), ps, (orderO (clsL es) (seedS ps (rootL (textsE es))).1).map Int.ofNat, []⟩, 0)) := Lib.hid (by unfold pubS; rw [if_neg h4])
  have h40 : es.length ≤ 4000 := by omega
  clear h4
  go_enter Tryz.func8, Tryz.ntmps8
  go_wp2_with fail
  rw [← hW0, ← ep]
  clear hW0 ep
  refine (containsE_any _ es 29 #[] (fun e => !validB e) W0 (HE.out.fr HF0.out) entersP1 (fun q W hq _ => ?_)).mono ?_
  · have h := HL.out q hq
    exact apub1_any q W h.1 h.2.1 h.2.2
  rintro e w1 ⟨rfl, hb⟩
  have HF1 := Lib.hid (HF0.out.below hb HF0.out.size)
  have HP1 := Lib.hid ((Fr.ofBelow (X := []) hb).at HP0.out (by simp))
  clear hb hp0 f0
  obtain ⟨vb, evb⟩ : ∃ q, q = es.any (fun e => !validB e) := ⟨_, rfl⟩
  rw [← evb] at HPUB ⊢
  clear evb
  cases vb with
  | true =>
    have HR : Hid (pubS (clsL es) es ps = (zeroPb, 1)) := HPUB
    have hset := set5P (.slice none 0 0) (.string ⟨#[]⟩) (.slice none 0 0) (.slice none 0 0) (.slice none 0 0) HP1.out HF1.out (by have := EP.out; omega)
    have y0 := row_free HP1.out 0
    have y1 := row_free HP1.out 1
    have y2 := row_free HP1.out 2
    have y3 := row_free HP1.out 3
    have y4 := row_free HP1.out 4
    have z0 := row_cell HP1.out 0
    have z1 := row_cell HP1.out 1
    have z2 := row_cell HP1.out 2
    have z3 := row_cell HP1.out 3
    have z4 := row_cell HP1.out 4
    simp at z0 z1 z2 z3 z4
    have HSET := Lib.hid hset
    clear hset HPUB
    go_wp2_with fail
    obtain ⟨hfx, hrx⟩ := HSET.out
    have HFX := Lib.hid hfx
    have m0 := row_cell hrx 0
    have m1 := row_cell hrx 1
    have m2 := row_cell hrx 2
    have m3 := row_cell hrx 3
    have m4 := row_cell hrx 4
    simp at m0 m1 m2 m3 m4
    clear hfx hrx
    refine bodyPost_ret (v := .tuple #[.agg #[.slice none 0 0, .string ⟨#[]⟩, .slice none 0 0, .slice none 0 0, .slice none 0 0], .int .i64 1]) ?_ rfl ⟨_, by rw [HR.out], by rw [HR.out]; exact zeroPb_reads _, HFX.out.toBelow (by simp)⟩
    rw [results_cell_tmp rfl]
    go_simp
  | false =>
    go_wp2_with fail
    refine (cloneE_any _ es w1 (HE.out.fr HF1.out) hn).mono ?_
    rintro e w2 ⟨ev2, rfl, hev2, hbe, hb⟩
    have HF2 := Lib.hid (HF1.out.below hb HF1.out.size)
    have HP2 := Lib.hid ((Fr.ofBelow (X := []) hb).at HP1.out (by simp))
    obtain ⟨ea2, ec2, rfl, _, _, _⟩ := hev2.form
    have HE2 := Lib.hid hev2
    have HBE0 : Hid (∀ b, (Value.slice ea2 es.length ec2).ownBlock = some b → b < w2.heap.size ∧ b ≠ p) := Lib.hid (fun b hb => by have h1 := hbe b hb; have h2 := lt_of_block HP1.out; omega)
    clear hb hev2 hbe
    go_wp2_with fail
    refine (atexts_any _ es w2 (HE.out.fr HF2.out) hn HL.out).mono ?_
    rintro e w3 ⟨tv, rfl, htv, hb⟩
    have hf := Fr.ofBelow (X := []) hb
    have HF3 := Lib.hid (HF2.out.trans hf (by simp))
    have HP3 := Lib.hid (hf.at HP2.out (by simp))
    have HE3 := Lib.hid (HE2.out.fr hf)
    obtain ⟨ta, tc, rfl, _, _⟩ := htv.strs.form
    have HTV := Lib.hid htv.strs
    have HS23 : Hid (w2.heap.size ≤ w3.heap.size) := Lib.hid hf.size
    clear hb htv hf
    go_wp2_with fail
    refine (root_any _ (textsE es) w3 HTV.out (by unfold textsE; rw [List.length_map]; omega) (textsE_len es) (HT.out.fr HF3.out)).mono ?_
    rintro e w4 ⟨rfl, hb⟩
    have hf := Fr.ofBelow (X := []) hb
    have HF4 := Lib.hid (HF3.out.trans hf (by simp))
    have HP4 := Lib.hid (hf.at HP3.out (by simp))
    have HE4 := Lib.hid (HE3.out.fr hf)
    have hrl := rootL_len (textsE es)
    have HS34 : Hid (w3.heap.size ≤ w4.heap.size) := Lib.hid hf.size
    obtain ⟨rt, ert⟩ : ∃ q, q = rootL (textsE es) := ⟨_, rfl⟩
    rw [← ert] at HPUB hrl ⊢
    clear hb hf ert
    go_wp2_with fail
    refine (cloneQ_any _ ps w4 (HP.out.fr HF4.out) hpn).mono ?_
    rintro e w5 ⟨pv2, rfl, hpv2, hbq, hb⟩
    have hf := Fr.ofBelow (X := []) hb
    have HF5 := Lib.hid (HF4.out.trans hf (by simp))
    have HP5 := Lib.hid (hf.at HP4.out (by simp))
    have HE5 := Lib.hid (HE4.out.fr hf)
    obtain ⟨pa2, pc2, rfl, _, _, _⟩ := hpv2.form
    have HQ5 := Lib.hid hpv2
    have hs25 : w2.heap.size ≤ w5.heap.size := by have := hf.size; have := HS23.out; have := HS34.out; omega
    have HBQ0 : Hid (∀ b, (Value.slice pa2 ps.length pc2).ownBlock = some b → b < w5.heap.size ∧ b ≠ p) := Lib.hid (fun b hb => by have h1 := hbq b hb; have h2 := lt_of_block HP4.out; omega)
    clear hb hf hpv2 hbq
    obtain ⟨W6, hW6⟩ : ∃ W6, W6 = w5.alloc (.cells #[.slice ea2 es.length ec2, .string ⟨rt.toArray⟩, .slice pa2 ps.length pc2, .slice none 0 0, .slice none 0 0] 26) := ⟨_, rfl⟩
    obtain ⟨q, eq⟩ : ∃ q, q = w5.heap.size := ⟨_, rfl⟩
    have f56 : Fr [] w5 W6 := by rw [hW6]; exact (Fr.refl [] w5).alloc _
    have hq6 : W6.heap[q]? = some (.cells #[.slice ea2 es.length ec2, .string ⟨rt.toArray⟩, .slice pa2 ps.length pc2, .slice none 0 0, .slice none 0 0] 26 (0, 0)) := by rw [hW6]; exact heap_new eq
    have HF6 := Lib.hid (HF5.out.trans f56 (by simp))
    have HP6 := Lib.hid (f56.at HP5.out (by simp))
    have HE6 := Lib.hid (HE5.out.fr f56)
    have HQ6 := Lib.hid (HQ5.out.fr f56)
    have HQB := Lib.hid hq6
    have HBE : Hid (∀ b, (Value.slice ea2 es.length ec2).ownBlock = some b → b ≠ p ∧ b ≠ q) := Lib.hid (fun b hb => by have h1 := HBE0.out b hb; omega)
    have HBQ : Hid (∀ b, (Value.slice pa2 ps.length pc2).ownBlock = some b → b ≠ p ∧ b ≠ q) := Lib.hid (fun b hb => by have h1 := HBQ0.out b hb; omega)
    clear hs25
    have HQP : Hid (q ≠ p ∧ w.heap.size ≤ q) := Lib.hid (by have := lt_of_block HP5.out; have := HF5.out.size; omega)
    have b1 := row_cell hq6 1
    simp at b1
    rw [hW6, eq] at b1
    clear f56 hq6
    go_wp2_with fail
    rw [← hW6, ← eq]
    clear b1 hW6 eq
    refine (seed_any _ ps rt W6 (HP.out.fr HF6.out) HPS.out (by omega) (HT.out.fr HF6.out)).mono ?_
    rintro e w7 ⟨rfl, hb⟩
    have hf := Fr.ofBelow (X := []) hb
    have HF7 := Lib.hid (HF6.out.trans hf (by simp))
    have HP7 := Lib.hid (hf.at HP6.out (by simp))
    have HE7 := Lib.hid (HE6.out.fr hf)
    have HQ7 := Lib.hid (HQ6.out.fr hf)
    have HQB7 := Lib.hid (hf.at HQB.out (by simp))
    have hsl := seedS_len ps rt
    obtain ⟨sd, er, esd⟩ : ∃ a b, seedS ps rt = (a, b) := ⟨_, _, rfl⟩
    rw [esd] at HPUB hsl ⊢
    simp only at HPUB hsl ⊢
    clear hb hf esd
    by_cases her : er = 0
    case neg =>
      have t2 : (er != 0) = true := by simpa using her
      have HR : Hid (pubS (clsL es) es ps = (zeroPb, er)) := Lib.hid (by rw [HPUB.out, if_neg (by decide), if_pos her])
      clear her
      have hset := set5P (.slice none 0 0) (.string ⟨#[]⟩) (.slice none 0 0) (.slice none 0 0) (.slice none 0 0) HP7.out HF7.out (by have := EP.out; omega)
      have y0 := row_free HP7.out 0
      have y1 := row_free HP7.out 1
      have y2 := row_free HP7.out 2
      have y3 := row_free HP7.out 3
      have y4 := row_free HP7.out 4
      have z0 := row_cell HP7.out 0
      have z1 := row_cell HP7.out 1
      have z2 := row_cell HP7.out 2
      have z3 := row_cell HP7.out 3
      have z4 := row_cell HP7.out 4
      simp at z0 z1 z2 z3 z4
      have HSET := Lib.hid hset
      clear hset HPUB
      go_wp2_with fail
      obtain ⟨hfx, hrx⟩ := HSET.out
      have HFX := Lib.hid hfx
      have m0 := row_cell hrx 0
      have m1 := row_cell hrx 1
      have m2 := row_cell hrx 2
      have m3 := row_cell hrx 3
      have m4 := row_cell hrx 4
      simp at m0 m1 m2 m3 m4
      clear hfx hrx
      refine bodyPost_ret (v := .tuple #[.agg #[.slice none 0 0, .string ⟨#[]⟩, .slice none 0 0, .slice none 0 0, .slice none 0 0], .int .i64 er]) ?_ rfl ⟨_, by rw [HR.out], by rw [HR.out]; exact zeroPb_reads _, HFX.out.toBelow (by simp)⟩
      rw [results_cell_tmp rfl]
      go_simp
    have t2 : (er != 0) = false := by simpa using her
    have HR : Hid (pubS (clsL es) es ps = (⟨es, rt, ps, (orderO (clsL es) sd).map Int.ofNat, []⟩, 0)) := Lib.hid (by rw [HPUB.out, if_neg (by decide), if_neg (by simpa using her)])
    clear her HPUB
    go_wp2_with fail
    refine (aorder_any _ es sd w7 (HE.out.fr HF7.out) h40 HL.out (by omega) (HT.out.fr HF7.out)).mono ?_
    rintro e w8 ⟨g, rfl, hg, hag, hb⟩
    have hf := Fr.ofBelow (X := []) hb
    have HF8 := Lib.hid (HF7.out.trans hf (by simp))
    have hp8 := hf.at HP7.out (by simp)
    have hq8 := hf.at HQB7.out (by simp)
    have HE8 := Lib.hid (HE7.out.fr hf)
    have HQ8 := Lib.hid (HQ7.out.fr hf)
    have HOL : Hid ((orderO (clsL es) sd).length ≤ 100000) := Lib.hid (by rw [order_length]; have := headsK_le (clsL es) (clsL es).length; rw [headsK_all] at this; have := clsL_len es; omega)
    have HOR : Hid (Zs w8 (.slice (some ⟨g, 0, none⟩) (orderO (clsL es) sd).length (orderO (clsL es) sd).length) ((orderO (clsL es) sd).map Int.ofNat)) := Lib.hid (hag.nums rfl (by have := HOL.out; omega)).zs
    have HGN : Hid (g ≠ p ∧ g ≠ q) := Lib.hid (by have := lt_of_block HP7.out; have := lt_of_block HQB7.out; omega)
    obtain ⟨on, eon⟩ : ∃ on, on = (orderO (clsL es) sd).length := ⟨_, rfl⟩
    rw [← eon] at HOR ⊢
    clear hb hf hg hag eon
    have x3o := row_cell hq8 3
    simp at x3o
    have y3o := row_free hq8 3
    have hq9 := row_set hq8 3 (.slice (some ⟨g, 0, none⟩) on on)
    have hp9 := heap_other hp8 ⟨q, 3, none⟩ (.slice (some ⟨g, 0, none⟩) on on) (by simpa using HQP.out.1)
    have hf9 : Fr [] w (w8.setCell ⟨q, 3, none⟩ (.slice (some ⟨g, 0, none⟩) on on)) := HF8.out.setCell _ _ (Or.inr HQP.out.2)
    have hg9 : Fr [q] w8 (w8.setCell ⟨q, 3, none⟩ (.slice (some ⟨g, 0, none⟩) on on)) := (Fr.refl [q] w8).setCell _ _ (by simp)
    have hset := set5P (.slice ea2 es.length ec2) (.string ⟨rt.toArray⟩) (.slice pa2 ps.length pc2) (.slice (some ⟨g, 0, none⟩) on on) (.slice none 0 0) hp9 hf9 (by have := EP.out; omega)
    have hall : Fr [q, p] w8 (((((((w8.setCell ⟨q, 3, none⟩ (.slice (some ⟨g, 0, none⟩) on on))).setCell ⟨p, 0, none⟩ (.slice ea2 es.length ec2)).setCell ⟨p, 1, none⟩ (.string ⟨rt.toArray⟩)).setCell ⟨p, 2, none⟩ (.slice pa2 ps.length pc2)).setCell ⟨p, 3, none⟩ (.slice (some ⟨g, 0, none⟩) on on)).setCell ⟨p, 4, none⟩ (.slice none 0 0)) := (((((hg9.mono (Y := [q, p]) (fun x hx => Or.inl (by rw [List.mem_singleton.1 hx]; simp))).setCell _ _ (by simp)).setCell _ _ (by simp)).setCell _ _ (by simp)).setCell _ _ (by simp)).setCell _ _ (by simp)
    have HSET := Lib.hid hset
    have HALL := Lib.hid hall
    have q0 := row_cell hq9 0
    have q1 := row_cell hq9 1
    have q2 := row_cell hq9 2
    have q3 := row_cell hq9 3
    have q4 := row_cell hq9 4
    simp at q0 q1 q2 q3 q4
    have y0 := row_free hp9 0
    have y1 := row_free hp9 1
    have y2 := row_free hp9 2
    have y3 := row_free hp9 3
    have y4 := row_free hp9 4
    have z0 := row_cell hp9 0
    have z1 := row_cell hp9 1
    have z2 := row_cell hp9 2
    have z3 := row_cell hp9 3
    have z4 := row_cell hp9 4
    simp at z0 z1 z2 z3 z4
    clear hq9 hp9 hf9 hg9 hset hall hp8 hq8
    go_wp2_with fail
    obtain ⟨hfx, hrx⟩ := HSET.out
    have HFX := Lib.hid hfx
    have HRD : Hid (PblR (((((((w8.setCell ⟨q, 3, none⟩ (.slice (some ⟨g, 0, none⟩) on on))).setCell ⟨p, 0, none⟩ (.slice ea2 es.length ec2)).setCell ⟨p, 1, none⟩ (.string ⟨rt.toArray⟩)).setCell ⟨p, 2, none⟩ (.slice pa2 ps.length pc2)).setCell ⟨p, 3, none⟩ (.slice (some ⟨g, 0, none⟩) on on)).setCell ⟨p, 4, none⟩ (.slice none 0 0)) (.agg #[.slice ea2 es.length ec2, .string ⟨rt.toArray⟩, .slice pa2 ps.length pc2, .slice (some ⟨g, 0, none⟩) on on, .slice none 0 0]) ⟨es, rt, ps, (orderO (clsL es) sd).map Int.ofNat, []⟩) := Lib.hid
      ⟨_, _, _, _, rfl, HE8.out.frX HALL.out (fun b hb hm => by
        have h1 := HBE.out b hb
        simp at hm
        omega), HQ8.out.frX HALL.out (fun b hb hm => by
        have h1 := HBQ.out b hb
        simp at hm
        omega), HOR.out.fr HALL.out (fun b hb hm => by
        obtain rfl : g = b := by simpa [Value.ownBlock] using hb
        have h1 := HGN.out
        simp at hm
        omega), Or.inl ⟨rfl, none, rfl⟩⟩
    have m0 := row_cell hrx 0
    have m1 := row_cell hrx 1
    have m2 := row_cell hrx 2
    have m3 := row_cell hrx 3
    have m4 := row_cell hrx 4
    simp at m0 m1 m2 m3 m4
    clear hfx hrx
    refine bodyPost_ret (v := .tuple #[.agg #[.slice ea2 es.length ec2, .string ⟨rt.toArray⟩, .slice pa2 ps.length pc2, .slice (some ⟨g, 0, none⟩) on on, .slice none 0 0], .int .i64 0]) ?_ rfl ⟨_, by rw [HR.out], by rw [HR.out]; exact HRD.out, HFX.out.toBelow (by simp)⟩
    rw [results_cell_tmp rfl]
    go_simp
end Go.Proofs.YtjddngbgbbbefaaGreatDoor
namespace Go.Proofs.YtjddngbgbbbefaaGreatDoor
open Go.RowKit

set_option maxRecDepth 100000 in
set_option maxHeartbeats 1000000 in
theorem receipt_any (v : Value) (p : Pbl) (i : Int) (w : World) (hv : PblR w v p) (hl : EntS p.ents) (hn : p.ents.length ≤ 100000) (hT : Tabs w) :
    Calls Tryz.prog 10 #[v, .int .i64 i] w fun e w' => ∃ v' e', e = .returned (.tuple #[v', .int .i64 e']) ∧ ((i < 0 ∨ (p.ents.length : Int) ≤ i) → v' = .slice none 0 0 ∧ e' = 1) ∧
      (∀ k : Nat, i = (k : Int) → k < p.ents.length → e' = 0 ∧ OwnS w.heap.size w' v' (pathL ((textsE p.ents).map leafD) k)) ∧ Below w.heap.size w w' := by
  obtain ⟨ev, pv, ov, sv, rfl, h1, _, _, _⟩ := hv
  obtain ⟨ea, ec, rfl, _, _, _⟩ := h1.form
  have HE := Lib.hid h1
  have HT := Lib.hid hT
  have HL := Lib.hid hl
  have HLEN : Hid ((textsE p.ents).length = p.ents.length) := Lib.hid (by unfold textsE; rw [List.length_map])
  clear h1 hT hl
  go_enter Tryz.func10, Tryz.ntmps10
  go_wp2_with fail
  have f0 : Fr [] w (w.alloc (.cells #[.slice ea p.ents.length ec, .string ⟨p.root.toArray⟩, pv, ov, sv] 26)) := (Fr.refl [] w).alloc _
  generalize w.alloc (.cells #[.slice ea p.ents.length ec, .string ⟨p.root.toArray⟩, pv, ov, sv] 26) = w0 at f0 ⊢
  have HF0 := Lib.hid f0
  refine (atexts_any _ p.ents w0 (HE.out.fr f0) hn HL.out).mono ?_
  rintro e w1 ⟨tv, rfl, htv, hb⟩
  have HF1 := Lib.hid (f0.below hb f0.size)
  obtain ⟨ta, tc, rfl, _, _⟩ := htv.strs.form
  have HTV := Lib.hid htv.strs
  clear hb htv f0
  go_wp2_with fail
  refine (path_any _ (textsE p.ents) i w1 HTV.out (by rw [HLEN.out]; omega) (textsE_len _) (HT.out.fr HF1.out)).mono ?_
  rintro e w2 ⟨v', e', rfl, ha, hb, hbl⟩
  rw [HLEN.out] at ha hb
  have HA := Lib.hid ha
  have HB := Lib.hid hb
  have HF2 := Lib.hid (HF1.out.below hbl HF1.out.size)
  have HS := Lib.hid HF1.out.size
  clear ha hb hbl
  go_wp2_with fail
  go_ret2
  exact ⟨v', e', rfl, HA.out, fun k h1 h2 => ⟨(HB.out k h1 h2).1, (HB.out k h1 h2).2.mono HS.out⟩, HF2.out.toBelow (by simp)⟩

set_option maxRecDepth 100000 in
set_option maxHeartbeats 1000000 in
theorem included_any (root : List UInt8) (n i : Int) (p : Pty) (pv : Value) (path : List (List UInt8)) (w : World) (hn : -9223372036854775808 ≤ n ∧ n < 9223372036854775808) (hi : -9223372036854775808 ≤ i ∧ i < 9223372036854775808)
    (h0 : p.name.length ≤ 1000000) (h1 : p.com.length ≤ 1000000) (h2 : p.rev.length ≤ 1000000) (hp : Strs w pv path) (hps : ∀ s ∈ path, s.length ≤ 1000000) (hT : Tabs w) :
    Calls Tryz.prog 17 #[.string ⟨root.toArray⟩, .int .i64 n, .int .i64 i, ptyV p, pv] w fun e w' => e = .returned (.bool (validB p && chkB root n i (textS p) path)) ∧ Below w.heap.size w w' := by
  have HV := Lib.hid (fun W => validE_any p W h0 h1 h2)
  have HX := Lib.hid (fun W => textE_any p W h0 h1 h2)
  have HP := Lib.hid hp
  have HT := Lib.hid hT
  have HPS := Lib.hid hps
  obtain ⟨pa, pc, rfl, _, _⟩ := hp.form
  have htl := textS_len p
  clear hp hT hps
  unfold ptyV at HV HX ⊢
  obtain ⟨W0, hW0⟩ : ∃ W0, W0 = w.alloc (.cells #[.string ⟨p.name.toArray⟩, .string ⟨p.com.toArray⟩, .string ⟨p.rev.toArray⟩] 43) := ⟨_, rfl⟩
  obtain ⟨q, eq⟩ : ∃ q, q = w.heap.size := ⟨_, rfl⟩
  have f0 : Fr [] w W0 := by rw [hW0]; exact (Fr.refl [] w).alloc _
  have hq0 : W0.heap[q]? = some (.cells #[.string ⟨p.name.toArray⟩, .string ⟨p.com.toArray⟩, .string ⟨p.rev.toArray⟩] 43 (0, 0)) := by rw [hW0]; exact heap_new eq
  have HF0 := Lib.hid f0
  have HQ0 := Lib.hid hq0
  obtain ⟨vb, evb⟩ : ∃ b, b = validB p := ⟨_, rfl⟩
  rw [← evb] at HV ⊢
  clear evb hq0
  go_enter Tryz.func17, Tryz.ntmps17
  go_wp2_with fail
  rw [← hW0, ← eq]
  clear hW0 eq
  refine (HV.out W0).mono ?_
  rintro e w1 ⟨rfl, hb⟩
  have HF1 := Lib.hid (f0.below hb f0.size)
  have hq1 := (Fr.ofBelow (X := []) hb).at HQ0.out (by simp)
  have x0 := row_cell hq1 0
  have x1 := row_cell hq1 1
  have x2 := row_cell hq1 2
  simp at x0 x1 x2
  clear hb f0 hq1
  cases vb with
  | false =>
    go_wp2_with fail
    go_ret
    exact ⟨rfl, HF1.out.toBelow (by simp)⟩
  | true =>
    go_wp2_with fail
    refine (HX.out w1).mono ?_
    rintro e w2 ⟨rfl, hb⟩
    have HF2 := Lib.hid (HF1.out.below hb HF1.out.size)
    clear hb x0 x1 x2
    obtain ⟨tx, etx⟩ : ∃ t, t = textS p := ⟨_, rfl⟩
    rw [← etx] at htl ⊢
    have ETX := Lib.hid etx
    clear etx
    go_wp2_with fail
    refine (check_any root tx n i _ path w2 hn hi (HP.out.fr HF2.out (by simp)) (by omega) HPS.out (HT.out.fr HF2.out)).mono ?_
    rintro e w3 ⟨rfl, hb⟩
    have HF3 := Lib.hid (HF2.out.below hb HF2.out.size)
    clear hb
    go_wp2_with fail
    go_ret
    exact ⟨by rw [← ETX.out]; rfl, HF3.out.toBelow (by simp)⟩
end Go.Proofs.YtjddngbgbbbefaaGreatDoor
