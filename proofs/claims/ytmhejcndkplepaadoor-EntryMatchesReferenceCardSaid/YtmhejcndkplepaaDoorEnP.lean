/-
  foyerref18.Classes.
-/
import Derived.Test.YtmhejcndkplepaaDoorEnO
import Derived.Test.YtmhejcndkplepaaDoorEnN
import Derived.Test.YtmhejcndkplepaaDoorAppAt
import Derived.Test.YtmhejcndkplepaaDoorPlnLk
namespace Go.Proofs.YtmhejcndkplepaaDoor
open Go.RowKit

theorem apart_new {n : Nat} {w : World} {v sv : Value} {s : List Nat} (h : ∀ k, v.ownBlock = some k → k < n) (hs : OwnI n w sv s) : Apart v sv := by
  intro k hk hk'
  have h1 := h k hk
  have h2 := (ownBlock_cells hs k hk').1
  omega
theorem perm_lt {n : Nat} {s : List Nat} (h : s.Perm (List.range n)) : ∀ i, i < s.length → s.getD i 0 < n := by
  intro i hi
  exact List.mem_range.1 (h.mem_iff.1 (getD_mem s i 0 hi))
theorem link_all (l : List Ent) (base n bo : Nat) (R : Nat → Nat) (p : List Nat) (v ov bv : Value) (order : List Nat) (bys : List (List UInt8)) (w : World) (hO : OwnI base w v p) (hn : p.length = n)
    (hU : UF n p R) (hS : Sound l n R) (hov : OwnI bo w ov order) (hord : ∀ i, i < order.length → order.getD i 0 < n) (hbv : Strs w bv bys) (hbn : bys.length = n) (ho1 : Apart v ov) (ho2 : Apart v bv)
    (hsel : ∀ x y, x < n → y < n → bys.getD x [] = bys.getD y [] → Conn l x y) (hol : order.length ≤ 1000000) :
    Calls Tryd.prog 74 #[v, ov, bv] w fun e w' => e = .returned (.tuple #[]) ∧ ∃ p' R', OwnI base w' v p' ∧ p'.length = n ∧ UF n p' R' ∧ Linked l n R R' bys order order.length ∧ Fr v.ownBlock.toList w w' := by
  rcases hO.form with ⟨rfl, rfl⟩ | ⟨g, cap, cur, rfl, _⟩
  · obtain rfl : n = 0 := by simpa using hn.symm
    obtain rfl : order = [] := by
      cases order with
      | nil => rfl
      | cons x t => exact absurd (hord 0 (by simp)) (by omega)
    refine (link_none bo _ ov bv w hov).mono ?_
    rintro e w' ⟨rfl, rfl⟩
    exact ⟨rfl, [], R, hO, rfl, hU, ⟨hS, fun _ _ h => h, fun i hi => absurd hi (by simp)⟩, Fr.refl _ _⟩
  · subst hn
    exact link_any l base g p.length cap bo R p ov bv order bys w hO rfl hU hS hov hord hbv hbn (fun k hk e => ho1 g rfl (e ▸ hk)) (fun k hk e => ho2 g rfl (e ▸ hk)) hsel hol

/-- The first loop of Classes: i entries are read. -/
structure InvR (w wr : World) (l : List Pty) (i : Nat) (v3 v4 v5 v6 : Value) : Prop where
  o3 : OwnI w.heap.size wr v3 (List.range i)
  o4 : OwnI w.heap.size wr v4 (List.range i)
  o5 : OwnS w.heap.size wr v5 ((l.map Pty.name).take i)
  o6 : OwnS w.heap.size wr v6 ((l.map Pty.com).take i)
  d34 : Apart v3 v4
  d35 : Apart v3 v5
  d36 : Apart v3 v6
  d45 : Apart v4 v5
  d46 : Apart v4 v6
  d56 : Apart v5 v6
  fr : Fr [] w wr

set_option maxRecDepth 100000 in
set_option maxHeartbeats 8000000 in
theorem rclasses_any (v : Value) (l : List Pty) (w : World) (hv : Pts w v l) (hn : l.length ≤ 100000) :
    Calls Tryd.prog 45 #[v] w fun e w' => ∃ v' o, e = .returned v' ∧ OwnI w.heap.size w' v' o ∧ Cls l o ∧ Below w.heap.size w w' := by
  have hmx : Tryd.prog.follows .mixedOrders = true := by kernel_rfl
  have HV := Lib.hid hv
  obtain ⟨pa, cap, rfl, hc1, hc2, hpa⟩ := hv.form
  clear hv
  go_enter Tryd.func45, Tryd.ntmps45
  go_wp2_with fail
  go_loopg [3, 4, 5, 6, 7] (l.length + 1) (fun gh v3 v4 v5 v6 iv wr => ∃ i : Nat, i ≤ l.length ∧ gh = l.length + 1 - i ∧ iv = .int .i64 (i : Int) ∧ InvR w wr l i v3 v4 v5 v6)
  case atStart => exact ⟨0, by omega, by omega, rfl, OwnI.nil, OwnI.nil, ⟨rfl, Or.inl ⟨rfl, rfl⟩⟩, ⟨rfl, Or.inl ⟨rfl, rfl⟩⟩, .nil, .nil, .nil, .nil, .nil, .nil, .refl _ _⟩
  case round =>
    obtain ⟨i, hi, hgh, rfl, hinv⟩ := hrel
    have HGH := Lib.hid hgh
    have HI := Lib.hid hinv
    clear hgh hinv
    by_cases hlt : i < l.length
    · have t1 : decide ((i : Int) < (l.length : Int)) = true := by simp; omega
      obtain ⟨gp, op, rfl⟩ := hpa i hlt
      obtain ⟨p, hp⟩ : ∃ p, l[i]? = some p := ⟨_, List.getElem?_eq_getElem hlt⟩
      have HPC := Lib.hid (HV.out.cells i p hp)
      have i1 : (i : Int) < (l.length : Int) := by omega
      have HTN : Hid ((l.map Pty.name).take (i + 1) = (l.map Pty.name).take i ++ [p.name]) := Lib.hid (by rw [List.take_add_one]; simp [hp])
      have HTC : Hid ((l.map Pty.com).take (i + 1) = (l.map Pty.com).take i ++ [p.com]) := Lib.hid (by rw [List.take_add_one]; simp [hp])
      have HTR : Hid (List.range (i + 1) = List.range i ++ [i]) := Lib.hid List.range_succ
      clear hp
      go_wp2_with (at_builtin; go_loud (refine wpList_appIa rfl (.tmp 16) (.tmp 18) rfl w.heap.size _ (List.range i) i w rfl rfl HI.out.o3 HI.out.fr (Nat.le_refl _) HI.out.fr.size (by rw [List.length_range]; omega) ?_))
      intro v3' w1 ho3 hf1 hg1 hat1
      have HI1 : Hid (OwnI w.heap.size w1 v3' (List.range (i + 1))) := Lib.hid (by rw [HTR.out]; exact ho3)
      have h4 := HI.out.o4.fr hg1 HI.out.d34.notin
      have h5 := HI.out.o5.fr hg1 HI.out.d35.notin
      have h6 := HI.out.o6.fr hg1 HI.out.d36.notin
      have a34 := HI.out.d34.step hat1 HI.out.o4.lt
      have a35 := HI.out.d35.step hat1 HI.out.o5.lt
      have a36 := HI.out.d36.step hat1 HI.out.o6.lt
      have H4 := Lib.hid h4
      have H5 := Lib.hid h5
      have H6 := Lib.hid h6
      have A34 := Lib.hid a34
      have A35 := Lib.hid a35
      have A36 := Lib.hid a36
      clear ho3 h4 h5 h6 a34 a35 a36 hat1 hg1
      go_wp2_with (at_builtin; go_loud (refine wpList_appIa rfl (.tmp 20) (.tmp 22) rfl w.heap.size _ (List.range i) i w rfl rfl H4.out hf1 (Nat.le_refl _) hf1.size (by rw [List.length_range]; omega) ?_))
      intro v4' w2 ho4 hf2 hg2 hat2
      have HI2 : Hid (OwnI w.heap.size w2 v4' (List.range (i + 1))) := Lib.hid (by rw [HTR.out]; exact ho4)
      have HJ1 := Lib.hid (HI1.out.fr hg2 A34.out.symm.notin)
      have HJ5 := Lib.hid (H5.out.fr hg2 HI.out.d45.notin)
      have HJ6 := Lib.hid (H6.out.fr hg2 HI.out.d46.notin)
      have B34 := Lib.hid (A34.out.symm.step hat2 HI1.out.lt).symm
      have B45 := Lib.hid (HI.out.d45.step hat2 H5.out.lt)
      have B46 := Lib.hid (HI.out.d46.step hat2 H6.out.lt)
      clear ho4 hat2 hg2 hf1 H4 H5 H6 HI1 A34
      have c2 := hf2.cell HPC.out.1 (by simp)
      go_wp2_with (at_builtin; go_loud (refine wpList_appSa rfl (.tmp 24) (.tmp 30) rfl w.heap.size _ ((l.map Pty.name).take i) p.name w rfl rfl HJ5.out hf2 (Nat.le_refl _) hf2.size (by simp; omega) ?_))
      intro v5' w3 ho5 hf3 hg3 hat3
      have HK5 : Hid (OwnS w.heap.size w3 v5' ((l.map Pty.name).take (i + 1))) := Lib.hid (by rw [HTN.out]; exact ho5)
      have HK1 := Lib.hid (HJ1.out.fr hg3 A35.out.symm.notin)
      have HK2 := Lib.hid (HI2.out.fr hg3 B45.out.symm.notin)
      have HK6 := Lib.hid (HJ6.out.fr hg3 HI.out.d56.notin)
      have C35 := Lib.hid (A35.out.symm.step hat3 HJ1.out.lt).symm
      have C45 := Lib.hid (B45.out.symm.step hat3 HI2.out.lt).symm
      have C56 := Lib.hid (HI.out.d56.step hat3 HJ6.out.lt)
      have c3 := hf3.cell HPC.out.2.1 (by simp)
      clear ho5 hat3 hg3 hf2 c2 HJ1 HJ5 HJ6 HI2 A35 B45
      go_wp2_with (at_builtin; go_loud (refine wpList_appSa rfl (.tmp 32) (.tmp 38) rfl w.heap.size _ ((l.map Pty.com).take i) p.com w rfl rfl HK6.out hf3 (Nat.le_refl _) hf3.size (by simp; omega) ?_))
      intro v6' w4 ho6 hf4 hg4 hat4
      have HINV : Hid (InvR w w4 l (i + 1) v3' v4' v5' v6') := Lib.hid
        ⟨HK1.out.fr hg4 A36.out.symm.notin, HK2.out.fr hg4 B46.out.symm.notin, HK5.out.fr hg4 C56.out.symm.notin, by rw [HTC.out]; exact ho6,
          B34.out, C35.out, (A36.out.symm.step hat4 HK1.out.lt).symm, C45.out, (B46.out.symm.step hat4 HK2.out.lt).symm, (C56.out.symm.step hat4 HK5.out.lt).symm, hf4⟩
      clear ho6 hat4 hg4 hf3 c3
      go_wp2_with fail
      go_roundg (l.length + 1 - (i + 1))
      case measure => have := HGH.out; omega
      case rel => exact ⟨i + 1, by omega, rfl, by go_num, HINV.out⟩
    · obtain rfl : i = l.length := by omega
      have t1 : decide ((l.length : Int) < (l.length : Int)) = false := by simp
      have H5 : Hid (OwnS w.heap.size wr u5 (l.map Pty.name)) := Lib.hid (by have := HI.out.o5; rwa [List.take_of_length_le (by simp)] at this)
      have H6 : Hid (OwnS w.heap.size wr u6 (l.map Pty.com)) := Lib.hid (by have := HI.out.o6; rwa [List.take_of_length_le (by simp)] at this)
      have HRB : Hid (∀ f : Pty → List UInt8, ∀ j, j < (List.range l.length).length → (List.range l.length).getD j 0 < (l.map f).length) := Lib.hid (fun f j hj => by rw [List.length_range] at hj; rw [getD_range hj, List.length_map]; exact hj)
      go_wp2_with fail
      refine (sorted_any u5 (l.map Pty.name) (l.length + 1) (List.range l.length) u4 wr (by simp) HI.out.o4.nums H5.out.strs (HRB.out Pty.name) (by simp; omega)).mono ?_
      rintro e w1 ⟨s1, sv1, rfl, hos1, hso1, hb1⟩
      have hf1 : Fr [] wr w1 := Fr.ofBelow hb1
      have hsl1 : s1.length = l.length := by rw [hso1.perm.length_eq, List.length_range]
      have HSO1 := Lib.hid hso1
      have HOS1 := Lib.hid hos1
      have H31 := Lib.hid (HI.out.o3.fr hf1 (by simp))
      have H41 := Lib.hid (HI.out.o4.fr hf1 (by simp))
      have H51 := Lib.hid (H5.out.fr hf1 (by simp))
      have H61 := Lib.hid (H6.out.fr hf1 (by simp))
      have HAP1 := Lib.hid (apart_new HI.out.o3.lt hos1)
      clear hos1 hso1 hb1
      go_wp2_with fail
      refine (link_all l w.heap.size l.length wr.heap.size id (List.range l.length) u3 sv1 u5 s1 (l.map Pty.name) w1 H31.out (by simp) (uf_range _) (sound_id _ _) HOS1.out (perm_lt HSO1.out.perm) H51.out.strs (by simp) HAP1.out HI.out.d35 (fun x y hx hy h => conn_names hx hy h) (by omega)).mono ?_
      rintro e w2 ⟨rfl, p1, R1, hop1, hpn1, hu1, hl1, hf2⟩
      have HOP1 := Lib.hid hop1
      have HPN1 := Lib.hid hpn1
      have HU1 := Lib.hid hu1
      have HL1 := Lib.hid hl1
      have H42 := Lib.hid (H41.out.fr hf2 HI.out.d34.notin)
      have H62 := Lib.hid (H61.out.fr hf2 HI.out.d36.notin)
      have HF2 := Lib.hid ((HI.out.fr.trans hf1 (by simp)).trans hf2 (fun y hy => Or.inr (by
        have := (ownBlock_cells H31.out y (by simpa using hy)).1
        omega)))
      clear hop1 hpn1 hu1 hl1 hf2 hf1 H31 H41 H51 H61 HAP1
      go_wp2_with fail
      refine (sorted_any u6 (l.map Pty.com) (l.length + 1) (List.range l.length) u4 w2 (by simp) H42.out.nums H62.out.strs (HRB.out Pty.com) (by simp; omega)).mono ?_
      rintro e w3 ⟨s2, sv2, rfl, hos2, hso2, hb3⟩
      have hf3 : Fr [] w2 w3 := Fr.ofBelow hb3
      have hsl2 : s2.length = l.length := by rw [hso2.perm.length_eq, List.length_range]
      have HSO2 := Lib.hid hso2
      have HOS2 := Lib.hid hos2
      have HOP2 := Lib.hid (HOP1.out.fr hf3 (by simp))
      have H63 := Lib.hid (H62.out.fr hf3 (by simp))
      have HAP2 := Lib.hid (apart_new HOP1.out.lt hos2)
      clear hos2 hso2 hb3
      go_wp2_with fail
      refine (link_all l w.heap.size l.length w2.heap.size R1 p1 u3 sv2 u6 s2 (l.map Pty.com) w3 HOP2.out HPN1.out HU1.out HL1.out.so HOS2.out (perm_lt HSO2.out.perm) H63.out.strs (by simp) HAP2.out HI.out.d36 (fun x y hx hy h => conn_pays hx hy h) (by omega)).mono ?_
      rintro e w4 ⟨rfl, p2, R2, hop2, hpn2, hu2, hl2, hf4⟩
      have HOP3 := Lib.hid hop2
      have HPN2 := Lib.hid hpn2
      have HU2 := Lib.hid hu2
      have HSO3 := Lib.hid hl2.so
      have HCO3 := Lib.hid (compl_link HL1.out hl2 HSO1.out HSO2.out)
      have hF4 : Fr [] w w4 := ((HF2.out.trans hf3 (by simp)).trans hf4 (fun y hy => Or.inr (by
        have := (ownBlock_cells HOP2.out y (by simpa using hy)).1
        omega)))
      have hws : w.heap.size ≤ w4.heap.size := hF4.size
      clear hop2 hpn2 hu2 hl2 hf4 hf3 HOP1 HOP2 H63 H62 H42 HAP2 HSO1 HSO2 HOS1 HOS2 HL1 HU1 HPN1 hsl1 hsl2 t1
      have HF4 := Lib.hid hF4
      clear hF4
      go_wp2_with fail
      go_loopg [8, 9] (l.length + 1) (fun gh ov iv wr' => ∃ (j : Nat) (q out : List Nat), j ≤ l.length ∧ gh = l.length + 1 - j ∧ iv = .int .i64 (j : Int) ∧ OwnI w.heap.size wr' u3 q ∧ q.length = l.length ∧ UF l.length q R2 ∧ OwnI w.heap.size wr' ov out ∧ out.length = j ∧ (∀ i, i < j → out.getD i 0 = R2 i) ∧ Apart ov u3 ∧ Fr [] w wr')
      case atStart => exact ⟨0, p2, [], by omega, by omega, rfl, HOP3.out, HPN2.out, HU2.out, OwnI.nil, rfl, fun i hi => absurd hi (Nat.not_lt_zero _), .nil, HF4.out⟩
      case round =>
        obtain ⟨j, q, out, hj, hgh, rfl, hoq, hqn, huq, hoo, hol, hog, hap, hfr⟩ := hrel
        have HGH := Lib.hid hgh
        have HOQ := Lib.hid hoq
        have HQN := Lib.hid hqn
        have HUQ := Lib.hid huq
        have HOO := Lib.hid hoo
        have HOG := Lib.hid hog
        have HAP := Lib.hid hap
        clear hgh hoq hqn huq hoo hog hap HI H5 H6
        by_cases hlt : j < l.length
        · have t1 : decide ((j : Int) < (l.length : Int)) = true := by simp; omega
          obtain ⟨g, cp, hu3⟩ : ∃ g cp, u3 = .slice (some ⟨g, 0, none⟩) l.length cp := by
            rcases HOQ.out.form with ⟨_, h⟩ | ⟨g, cp, _, h, _⟩
            · have := HQN.out; rw [h] at this; simp at this; omega
            · exact ⟨g, cp, by rw [h, HQN.out]⟩
          subst hu3
          go_wp2_with fail
          refine (rhead_any w.heap.size g l.length cp l.length j R2 q _ hlt HOQ.out HQN.out HUQ.out).mono ?_
          rintro e w5 ⟨rfl, q', hoq', hqn', hsh', hf5⟩
          have HOQ2 := Lib.hid hoq'
          have HQN2 := Lib.hid hqn'
          have HUQ2 := Lib.hid (HUQ.out.shrt hsh')
          have hg : w.heap.size ≤ g := (ownBlock_cells hoq' g rfl).1
          have hf6 : Fr [] w w5 := hfr.trans hf5 (fun y hy => Or.inr (by simp at hy; omega))
          have HOO2 := Lib.hid (HOO.out.fr hf5 (fun k hk hm => by simp at hm; subst hm; exact HAP.out k hk rfl))
          clear hoq' hqn' hsh' hf5
          go_wp2_with (at_builtin; go_loud (refine wpList_appIa rfl (.tmp 58) (.tmp 62) rfl w.heap.size _ out (R2 j) w rfl rfl HOO2.out hf6 (Nat.le_refl _) hf6.size (by omega) ?_))
          intro v' w7 ho7 hf7 hg7 hat7
          have HO7 := Lib.hid ho7
          have HAP7 := Lib.hid (HAP.out.step hat7 HOQ2.out.lt)
          have HOQ7 := Lib.hid (HOQ2.out.fr hg7 HAP.out.notin)
          have HOG7 : Hid (∀ i, i < j + 1 → (out ++ [R2 j]).getD i 0 = R2 i) := Lib.hid (fun i hi => by
            by_cases h : i = j
            · subst h; simp [List.getD_eq_getElem?_getD, ← hol]
            · rw [← HOG.out i (by omega)]; simp [List.getD_eq_getElem?_getD, List.getElem?_append_left (show i < out.length by omega)])
          clear ho7 hat7 hg7 hf6
          go_wp2_with fail
          go_roundg (l.length + 1 - (j + 1))
          case measure => have := HGH.out; omega
          case rel => exact ⟨j + 1, q', out ++ [R2 j], by omega, rfl, by go_num, HOQ7.out, HQN2.out, HUQ2.out, HO7.out, by simp [hol], HOG7.out, HAP7.out, hf7⟩
        · obtain rfl : j = l.length := by omega
          have t1 : decide ((l.length : Int) < (l.length : Int)) = false := by simp
          have HCLS : Hid (Cls l out) := Lib.hid (cls_of_uf hol HSO3.out HCO3.out HUQ.out.rle HOG.out)
          go_wp2_with fail
          go_ret
          exact ⟨_, out, rfl, HOO.out, HCLS.out, hfr.toBelow (by simp)⟩
end Go.Proofs.YtmhejcndkplepaaDoor
