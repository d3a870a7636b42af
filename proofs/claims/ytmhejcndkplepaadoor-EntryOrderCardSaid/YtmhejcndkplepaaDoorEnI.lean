/-
  foyerlaw18: EntryOrder.
-/
import Derived.Test.YtmhejcndkplepaaDoorEnE
import Derived.Test.YtmhejcndkplepaaDoorOwnP
import Derived.Deep.QuietTactic
namespace Go.Proofs.YtmhejcndkplepaaDoor
open Go.RowKit

theorem rev_step (l : List Pty) (k : Nat) (p : Pty) (hp : l[k]? = some p) : (l.drop k).reverse = (l.drop (k + 1)).reverse ++ [p] := by
  have hk : k < l.length := (List.getElem?_eq_some_iff.1 hp).1
  rw [List.drop_eq_getElem_cons hk, List.reverse_cons]
  rw [List.getElem?_eq_getElem hk] at hp
  cases hp; rfl

theorem classesN_of (v : Value) (l : List Pty) (n : Nat) (w : World) (hv : Pts w v l) (hn : l.length = n) (h5 : n ≤ 100000) (hl : ∀ p ∈ l, p.name.length ≤ 1000000 ∧ p.com.length ≤ 1000000) :
    Calls Tryd.prog 44 #[v] w fun e w' => ∃ g o, e = .returned (.slice (some ⟨g, 0, none⟩) n n) ∧ ArrN w' g o ∧ Cls l o ∧ Below w.heap.size w w' := by
  subst hn
  exact (classes_any v l w hv h5 hl).mono fun e w' ⟨g, o, he, _, ha, hc, hb⟩ => ⟨g, o, he, ha, hc, hb⟩

set_option maxRecDepth 100000 in
set_option maxHeartbeats 16000000 in
theorem entryOrder_any (lv : Value) (l : List Pty) (mv : Value) (m : List Pty) (w : World) (hT : TabsM w) (hl : Pts w lv l) (hm : Pts w mv m) :
    Calls Tryd.prog 14 #[lv, mv] w fun e w' => e = .returned (.bool true) ∧ Below w.heap.size w w' := by
  have hmx : Tryd.prog.follows .mixedOrders = true := by kernel_rfl
  have HT := Lib.hid hT
  have HL := Lib.hid hl
  have HM := Lib.hid hm
  obtain ⟨la, lcap, rfl, hlc, hcap, hla⟩ := hl.form
  obtain ⟨ma, mcap, rfl, hmc, hmcap, hma⟩ := hm.form
  clear hT hl hm
  go_enter Tryd.func14, Tryd.ntmps14
  go_wp2_with fail
  refine (head18_any w HT.out).mono ?_
  rintro e w1 ⟨rfl, hb1⟩
  have hf1 : Fr [] w w1 := (Fr.refl [] w).below hb1 (Nat.le_refl _)
  go_wp2_with fail
  refine (few18_any _ l 40 w1 (HL.out.fr hf1)).mono ?_
  rintro e w2 ⟨rfl, hb2⟩
  have hf2 : Fr [] w w2 := hf1.below hb2 hf1.size
  cases hfl : few18B l 40 with
  | false => go_wp2_with fail; go_ret; exact ⟨rfl, hf2.toBelow (by simp)⟩
  | true => ?_
  have HFL := Lib.hid (few18_all hfl)
  clear hfl hb1 hb2 hf1
  go_wp2_with fail
  refine (few18_any _ m 40 w2 (HM.out.fr hf2)).mono ?_
  rintro e w3 ⟨rfl, hb3⟩
  have hf3 : Fr [] w w3 := hf2.below hb3 hf2.size
  cases hfm : few18B m 40 with
  | false => go_wp2_with fail; go_ret; exact ⟨rfl, hf3.toBelow (by simp)⟩
  | true => ?_
  have HFM := Lib.hid (few18_all hfm)
  clear hfm hb3 hf2
  have hn40 : l.length ≤ 40 := HFL.out.2
  have hm40 : m.length ≤ 40 := HFM.out.2
  go_wp2_with fail
  go_loopg [6, 7] (l.length + 1) (fun gh bv i wr => ∃ (k : Nat) (z : Int), k ≤ l.length ∧ gh = k + 1 ∧ i = .int .i64 z ∧ z = (k : Int) - 1 ∧ OwnP w.heap.size wr bv (l.drop k).reverse ∧ Fr [] w wr)
  case atStart => exact ⟨l.length, _, Nat.le_refl _, rfl, rfl, rfl, by rw [List.drop_length]; exact OwnP.nil, hf3⟩
  case round =>
    clear hf3
    obtain ⟨k, z, hk, hgh, rfl, hz, ho, hfr⟩ := hrel
    have HG := Lib.hid hgh
    have HO := Lib.hid ho
    clear hgh ho
    by_cases hk0 : 0 < k
    · obtain ⟨j, hj, ej⟩ : ∃ j : Nat, k = j + 1 ∧ z = (j : Int) := ⟨k - 1, by omega, by omega⟩
      subst ej
      have HJ := Lib.hid hj
      have hjl : j < l.length := by omega
      obtain ⟨b, off, rfl⟩ := hla j hjl
      obtain ⟨p, hp⟩ : ∃ p, l[j]? = some p := ⟨l[j], List.getElem?_eq_getElem hjl⟩
      obtain ⟨c0, c1, c2⟩ := (HL.out.fr hfr).cells j p hp
      have HRS := Lib.hid (rev_step l j p hp)
      have HDL : Hid (((l.drop k).reverse).length + ([p] : List Pty).length < 1000000) := Lib.hid (by simp; omega)
      have t1 : decide ((0 : Int) ≤ (j : Int)) = true := by simp
      have HO2 : Hid (∀ cs, OwnP w.heap.size (wr.alloc cs) _ (l.drop k).reverse) := Lib.hid (fun cs => HO.out.fr ((Fr.refl [] wr).alloc cs) (by simp))
      clear hp hz hj
      go_wp2_with (at_builtin; go_loud (refine wpList_appP rfl (.tmp 32) (.tmp 37) rfl w.heap.size _ _ (l.drop k).reverse [p] w rfl rfl (pts_one (heap_new rfl)) (HO2.out _) (hfr.alloc _) (Nat.le_refl _) (hfr.alloc _).size HDL.out ?_))
      intro v3 w4 ho4 hf4 _
      have HO4 : Hid (OwnP w.heap.size w4 v3 (l.drop j).reverse) := Lib.hid (by rw [HRS.out, ← HJ.out]; exact ho4)
      clear ho4 HO HO2 hfr
      go_wp2_with fail
      go_roundg (j + 1)
      case measure => have := HG.out; have := HJ.out; omega
      case rel => exact ⟨j, _, by omega, rfl, rfl, rfl, HO4.out, hf4⟩
    · obtain rfl : k = 0 := by omega
      obtain rfl : z = -1 := by omega
      have t1 : decide ((0 : Int) ≤ (-1 : Int)) = false := by decide
      have HO0 : Hid (OwnP w.heap.size wr _ l.reverse) := Lib.hid (by have := HO.out; rwa [List.drop_zero] at this)
      clear HO hz
      go_wp2_with fail
      refine (classes_any _ l wr (HL.out.fr hfr) (by omega) (fun p hp => by have := HFL.out.1 p hp; omega)).mono ?_
      rintro e w4 ⟨ga, a, rfl, _, ha4, hca, hb4⟩
      have hf4 : Fr [] w w4 := hfr.below hb4 hfr.size
      have hw4 : Fr [] wr w4 := Fr.ofBelow hb4
      have HCA := Lib.hid hca
      have HPR := Lib.hid ((HO0.out.fr hw4 (by simp)).pts)
      clear hca hb4 hfr
      go_wp2_with fail
      refine (classesN_of _ l.reverse l.length w4 HPR.out (by simp) (by omega) (fun p hp => by have := HFL.out.1 p (List.mem_reverse.1 hp); omega)).mono ?_
      rintro e w5 ⟨gb, bb, rfl, hb5a, hcb, hb5⟩
      have hf5 : Fr [] w w5 := hf4.below hb5 hf4.size
      have HA5 := Lib.hid (ha4.fr (Fr.ofBelow (X := []) hb5) (by simp))
      have HB5 := Lib.hid hb5a
      have HCB := Lib.hid hcb
      clear ha4 hcb hb5 hb5a hf4 hw4 HPR
      have HDM : Hid (([] : List Pty).length + m.length < 1000000) := Lib.hid (by simp; omega)
      have HDN : Hid (m.length + l.length < 1000000) := Lib.hid (by omega)
      go_wp2_with (at_builtin; go_loud (refine wpList_appP rfl (.tmp 43) (.tmp 44) rfl w5.heap.size _ _ [] m w5 rfl rfl (HM.out.fr (hf5.alloc _)) (ownP_empty (Nat.le_refl _)) ((Fr.refl [] w5).alloc _) (Nat.le_refl _) (by simp) HDM.out ?_))
      intro v6 w6 ho6 hf6 _
      have HO6 := Lib.hid ho6
      clear ho6
      go_wp2_with (at_builtin; go_loud (refine wpList_appP rfl (.tmp 45) (.tmp 46) rfl w5.heap.size _ _ m l w5 rfl rfl (HL.out.fr (hf5.trans hf6 (by simp))) HO6.out hf6 (Nat.le_refl _) hf6.size HDN.out ?_))
      intro v7 w7 ho7 hf7 _
      have HO7 := Lib.hid ho7.pts
      clear ho7 hf6
      go_wp2_with fail
      refine (classesN_of _ (m ++ l) (m.length + l.length) w7 HO7.out (by simp) (by omega) (fun p hp => by
        rcases List.mem_append.1 hp with h | h
        · have := HFM.out.1 p h; omega
        · have := HFL.out.1 p h; omega)).mono ?_
      rintro e w8 ⟨gc, cc, rfl, hc8, hcc, hb8⟩
      have hf78 : Fr [] w5 w8 := hf7.below hb8 hf7.size
      have HA8 := Lib.hid (HA5.out.fr hf78 (by simp))
      have HB8 := Lib.hid (HB5.out.fr hf78 (by simp))
      have HC8 := Lib.hid hc8
      have HCC := Lib.hid hcc
      have hf8 : Fr [] w w8 := hf5.trans hf78 (by simp)
      clear hb8 hf7 hf78 hf5 hc8 hcc HA5 HB5
      have u1 : ((l.length : Int) != (l.length : Int)) = false := by simp
      have u2 : (((m.length + l.length : Nat) : Int) != (l.length : Int) + (m.length : Int)) = false := by simp; omega
      have u3 : ((m.length : Int) + (l.length : Int) != (l.length : Int) + (m.length : Int)) = false := by simp; omega
      go_wp2_with fail
      go_loopg [12] (l.length + 1) (fun gh i wr => ∃ k : Nat, k ≤ l.length ∧ gh = l.length + 1 - k ∧ i = .int .i64 (k : Int) ∧ Fr [] w8 wr)
      case atStart => exact ⟨0, by omega, by omega, rfl, Fr.refl _ _⟩
      case round =>
        obtain ⟨i, hi, hgh, rfl, hfr⟩ := hrel
        have HG1 := Lib.hid hgh
        clear hgh
        by_cases hlt : i < l.length
        · have t1 : decide ((i : Int) < (l.length : Int)) = true := by simp; omega
          go_wp2_with fail
          go_loopg [13] (l.length + 1) (fun gh i wr => ∃ k : Nat, k ≤ l.length ∧ gh = l.length + 1 - k ∧ i = .int .i64 (k : Int) ∧ Fr [] w8 wr)
          case atStart => exact ⟨0, by omega, by omega, rfl, hfr⟩
          case round =>
            clear hfr
            obtain ⟨k, hk, hgh, rfl, hfr⟩ := hrel
            have HG2 := Lib.hid hgh
            clear hgh
            by_cases hltk : k < l.length
            · have t2 : decide ((k : Int) < (l.length : Int)) = true := by simp; omega
              obtain ⟨n1, hn1, en1⟩ : ∃ n1 : Nat, n1 = l.length - 1 ∧ (l.length : Int) - 1 = (n1 : Int) := ⟨l.length - 1, rfl, by omega⟩
              obtain ⟨ri, hri, eri⟩ : ∃ r : Nat, r = l.length - 1 - i ∧ (n1 : Int) - (i : Int) = (r : Int) := ⟨l.length - 1 - i, rfl, by omega⟩
              obtain ⟨rk, hrk, erk⟩ : ∃ r : Nat, r = l.length - 1 - k ∧ (n1 : Int) - (k : Int) = (r : Int) := ⟨l.length - 1 - k, rfl, by omega⟩
              obtain ⟨si, hsi, esi⟩ : ∃ r : Nat, r = m.length + i ∧ (m.length : Int) + (i : Int) = (r : Int) := ⟨m.length + i, rfl, by omega⟩
              obtain ⟨sk, hsk, esk⟩ : ∃ r : Nat, r = m.length + k ∧ (m.length : Int) + (k : Int) = (r : Int) := ⟨m.length + k, rfl, by omega⟩
              have q1 : IntKind.i64.wrap ((l.length : Int) - 1) = (n1 : Int) := by rw [en1]; exact IntWalk.i64_in _ (by omega)
              have q2 : IntKind.i64.wrap ((n1 : Int) - (i : Int)) = (ri : Int) := by rw [eri]; exact IntWalk.i64_in _ (by omega)
              have q3 : IntKind.i64.wrap ((n1 : Int) - (k : Int)) = (rk : Int) := by rw [erk]; exact IntWalk.i64_in _ (by omega)
              have q4 : IntKind.i64.wrap ((m.length : Int) + (i : Int)) = (si : Int) := by rw [esi]; exact IntWalk.i64_in _ (by omega)
              have q5 : IntKind.i64.wrap ((m.length : Int) + (k : Int)) = (sk : Int) := by rw [esk]; exact IntWalk.i64_in _ (by omega)
              have ca1 := hfr.cell (HA8.out.cell i (by rw [HCA.out.len]; exact hlt)) (by simp)
              have ca2 := hfr.cell (HA8.out.cell k (by rw [HCA.out.len]; exact hltk)) (by simp)
              have cb1 := hfr.cell (HB8.out.cell ri (by rw [HCB.out.len, List.length_reverse]; omega)) (by simp)
              have cb2 := hfr.cell (HB8.out.cell rk (by rw [HCB.out.len, List.length_reverse]; omega)) (by simp)
              have cc1 := hfr.cell (HC8.out.cell si (by rw [HCC.out.len, List.length_append]; omega)) (by simp)
              have cc2 := hfr.cell (HC8.out.cell sk (by rw [HCC.out.len, List.length_append]; omega)) (by simp)
              have hback := Cls.back HCA.out HCB.out hlt hltk
              have hfront := Cls.front HCA.out HCC.out hlt hltk
              rw [← hri, ← hrk] at hback
              rw [← hsi, ← hsk] at hfront
              have b1 : (0 : Int) ≤ (ri : Int) ∧ (ri : Int) < (l.length : Int) := by omega
              have b2 : (0 : Int) ≤ (rk : Int) ∧ (rk : Int) < (l.length : Int) := by omega
              obtain ⟨b10, b11⟩ := b1
              obtain ⟨b20, b21⟩ := b2
              have b30 : (0 : Int) ≤ (i : Int) := by omega
              have b40 : (0 : Int) ≤ (k : Int) := by omega
              have b31 : (i : Int) < (l.length : Int) := by omega
              have b41 : (k : Int) < (l.length : Int) := by omega
              have b50 : (0 : Int) ≤ (si : Int) := by omega
              have b60 : (0 : Int) ≤ (sk : Int) := by omega
              have b51 : (si : Int) < (m.length : Int) + (l.length : Int) := by omega
              have b61 : (sk : Int) < (m.length : Int) + (l.length : Int) := by omega
              clear hn1 hri hrk hsi hsk
              generalize a.getD i 0 = x at ca1 hback hfront
              generalize a.getD k 0 = y at ca2 hback hfront
              generalize bb.getD ri 0 = u at cb1 hback
              generalize bb.getD rk 0 = v at cb2 hback
              generalize cc.getD si 0 = p at cc1 hfront
              generalize cc.getD sk 0 = q at cc2 hfront
              by_cases hxy : x = y
              · have t3 : ((x : Int) == (y : Int)) = true := by simp; omega
                have t4 : ((u : Int) == (v : Int)) = true := by have := hback.1 hxy; simp; omega
                have t5 : ((p : Int) != (q : Int)) = false := by have := hfront hxy; simp; omega
                clear hback hfront hxy
                go_wp2_with fail
                go_quiet (fail)
                go_wp2_with fail
                go_quiet (fail)
                go_wp2_with fail
                go_roundg (l.length + 1 - (k + 1))
                case measure => have := HG2.out; omega
                case rel => exact ⟨k + 1, by omega, rfl, by go_num, hfr.drewN _⟩
              · have t3 : ((x : Int) == (y : Int)) = false := by simp; omega
                have t4 : ((u : Int) == (v : Int)) = false := by
                  have h : ¬ u = v := fun h => hxy (hback.2 h)
                  simp; omega
                clear hback hfront hxy
                go_wp2_with fail
                go_quiet (fail)
                go_wp2_with fail
                go_quiet (fail)
                go_wp2_with fail
                go_roundg (l.length + 1 - (k + 1))
                case measure => have := HG2.out; omega
                case rel => exact ⟨k + 1, by omega, rfl, by go_num, hfr.drewN _⟩
            · obtain rfl : k = l.length := by omega
              have t2 : decide ((l.length : Int) < (l.length : Int)) = false := by simp
              go_wp2_with fail
              go_roundg (l.length + 1 - (i + 1))
              case measure => have := HG1.out; omega
              case rel => exact ⟨i + 1, by omega, rfl, by go_num, hfr⟩
        · obtain rfl : i = l.length := by omega
          have t1 : decide ((l.length : Int) < (l.length : Int)) = false := by simp
          go_wp2_with fail
          go_ret
          exact ⟨rfl, (hf8.trans hfr (by simp)).toBelow (by simp)⟩
end Go.Proofs.YtmhejcndkplepaaDoor
