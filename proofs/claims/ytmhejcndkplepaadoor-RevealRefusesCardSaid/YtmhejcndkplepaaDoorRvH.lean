/-
  foyerlaw31.digits, salt; foyerref31.Salt.
  foyerlaw31.elements, foyerref31.Elements, foyerref31.Seal.
-/
import Derived.Test.YtmhejcndkplepaaDoorRvG
import Derived.Test.YtmhejcndkplepaaDoorTrD
import Derived.Test.YtmhejcndkplepaaDoorRound
namespace Go.Proofs.YtmhejcndkplepaaDoor
open Go.RowKit

theorem dec_ten (n : Nat) (h : 10 ≤ n) : Lib.decDigits (n / 10) ++ Lib.decDigits (n % 10) = Lib.decDigits n := by
  rw [dec_step n h, dec_small (n % 10) (by omega), Nat.mod_mod]

set_option maxRecDepth 100000 in
set_option maxHeartbeats 1000000 in
theorem digits31_any : ∀ (n : Nat) (w : World), n ≤ 1000000 →
    Calls Tryd.prog 62 #[.int .i64 (n : Int)] w fun e w' => e = .returned (.string ⟨(Lib.decDigits n).toArray⟩) ∧ w = w' := by
  intro n
  induction n using Nat.strongRecOn with
  | ind n ih =>
    intro w hn
    have IH := Lib.hid ih
    clear ih
    have hd9 := dec_short n
    by_cases h : n < 10
    · have t1 : decide ((n : Int) < 10) = true := by simp; omega
      have t1' : decide (n < 10) = true := by simp; omega
      have HC := Lib.hid (dec_cut n h)
      have HD : Hid (Lib.decDigits n = [decC n]) := Lib.hid (by rw [dec_small n h, Nat.mod_eq_of_lt h])
      have g1 : (0 : Int) ≤ (n : Int) := by omega
      have g2 : (n : Int) ≤ (n : Int) + 1 := by omega
      have g3 : (n : Int) + 1 ≤ 10 := by omega
      clear hd9
      go_enter Tryd.func62, Tryd.ntmps62
      go_wp2_with fail
      go_ret
      exact ⟨by rw [HD.out, ← HC.out]; rfl, rfl⟩
    · have t1 : decide ((n : Int) < 10) = false := by simp; omega
      have t1' : decide (n < 10) = false := by simp; omega
      have HD := Lib.hid (dec_ten n (by omega))
      have HL1 := dec_short (n / 10) (by omega)
      have HL2 := dec_short (n % 10) (by omega)
      obtain ⟨a, ea⟩ : ∃ a, a = n / 10 := ⟨_, rfl⟩
      obtain ⟨b, eb⟩ : ∃ b, b = n % 10 := ⟨_, rfl⟩
      have e1 : (n : Int) / 10 = (a : Int) := by omega
      have e2 : (n : Int) % 10 = (b : Int) := by omega
      have e1' : (n : Int).tdiv 10 = (a : Int) := by rw [Int.tdiv_eq_ediv_of_nonneg (by omega)]; omega
      have e2' : (n : Int).tmod 10 = (b : Int) := by rw [Int.tmod_eq_emod_of_nonneg (by omega)]; omega
      rw [← ea, ← eb] at HD
      rw [← ea] at HL1
      rw [← eb] at HL2
      have ha : a < n := by omega
      have hb : b < n := by omega
      clear hd9 ea eb h
      go_enter Tryd.func62, Tryd.ntmps62
      go_wp2_with fail
      refine (IH.out a ha _ (by omega)).mono ?_
      rintro e w1 ⟨rfl, rfl⟩
      go_wp2_with fail
      refine (IH.out b hb _ (by omega)).mono ?_
      rintro e w1 ⟨rfl, rfl⟩
      generalize Lib.decDigits a = la at HL1 HD ⊢
      generalize Lib.decDigits b = lb at HL2 HD ⊢
      go_wp2_with fail
      go_ret
      exact ⟨by rw [← HD.out]; rfl, rfl⟩

set_option maxRecDepth 100000 in
set_option maxHeartbeats 1000000 in
theorem salt31_any (s : List UInt8) (i : Nat) (w : World) (hi : i < 1000000) (hs : s.length ≤ 1000000) (hT : Tabs w) :
    Calls Tryd.prog 28 #[.string ⟨s.toArray⟩, .int .i64 (i : Int)] w fun e w' => e = .returned (.string ⟨(saltS s i).toArray⟩) ∧ Below w.heap.size w w' := by
  have HT := Lib.hid hT
  have HL := Lib.hid (dec_short i hi)
  clear hT
  unfold saltS
  obtain ⟨t, et⟩ : ∃ t, t = Lib.decDigits i := ⟨_, rfl⟩
  rw [← et] at HL ⊢
  have ET := Lib.hid et
  clear et
  go_enter Tryd.func28, Tryd.ntmps28
  go_wp2_with fail
  refine (digits31_any i _ (by omega)).mono ?_
  rintro e w1 ⟨rfl, rfl⟩
  rw [← ET.out]
  go_wp2_with fail
  have hA : Fr [] w (w.alloc (.cells #[.string ⟨s.toArray⟩, .string ⟨t.toArray⟩] 9)) := (Fr.refl [] w).alloc _
  refine (list_any _ [s, t] _ (strs_two (heap_new rfl)) (joinL_cap _ (by simp) (fun x hx => ?_)) (HT.out.fr hA)).mono ?_
  · rcases List.mem_cons.1 hx with rfl | hx
    · exact hs
    · rw [List.mem_singleton.1 hx]; have := HL.out; omega
  rintro e w2 ⟨rfl, hb2⟩
  have hf2 : Fr [] w w2 := hA.below hb2 hA.size
  clear hb2 hA
  go_wp2_with fail
  go_ret
  exact ⟨rfl, hf2.toBelow (by simp)⟩

set_option maxRecDepth 100000 in
set_option maxHeartbeats 1000000 in
theorem rsalt_any (s : List UInt8) (i : Nat) (w : World) (hi : i < 1000000) (hs : s.length ≤ 1000000) :
    Calls Tryd.prog 57 #[.string ⟨s.toArray⟩, .int .i64 (i : Int)] w fun e w' => e = .returned (.string ⟨(saltS s i).toArray⟩) ∧ Below w.heap.size w w' := by
  have HL := Lib.hid (dec_short i hi)
  unfold saltS
  obtain ⟨t, et⟩ : ∃ t, t = Lib.decDigits i := ⟨_, rfl⟩
  rw [← et] at HL ⊢
  have ET := Lib.hid et
  clear et
  go_enter Tryd.func57, Tryd.ntmps57
  go_wp2_with fail
  refine (rdecimal_any i _ (by omega)).mono ?_
  rintro e w1 ⟨rfl, rfl⟩
  rw [← ET.out]
  go_wp2_with fail
  have hA : Fr [] w (w.alloc (.cells #[.string ⟨s.toArray⟩, .string ⟨t.toArray⟩] 9)) := (Fr.refl [] w).alloc _
  refine (rlist_any _ [s, t] _ (strs_two (heap_new rfl)) (capN_cap _ (by simp) (fun x hx => ?_))).mono ?_
  · rcases List.mem_cons.1 hx with rfl | hx
    · exact hs
    · rw [List.mem_singleton.1 hx]; have := HL.out; omega
  rintro e w2 ⟨rfl, hb2⟩
  have hf2 : Fr [] w w2 := hA.below hb2 hA.size
  clear hb2 hA
  go_wp2_with fail
  go_ret
  exact ⟨rfl, hf2.toBelow (by simp)⟩
end Go.Proofs.YtmhejcndkplepaaDoor
namespace Go.Proofs.YtmhejcndkplepaaDoor
open Go.RowKit

theorem elems_snoc {fields : List (List UInt8)} {s : List UInt8} {k : Nat} : (List.range (k + 1)).map (eleS fields s) = (List.range k).map (eleS fields s) ++ [saltS s k ++ fields.getD k []] := by
  rw [List.range_succ, List.map_append]; rfl

set_option maxRecDepth 100000 in
set_option maxHeartbeats 2000000 in
theorem elements31_any (v : Value) (fields : List (List UInt8)) (s : List UInt8) (w : World) (hv : Strs w v fields) (hn : fields.length ≤ 50000) (hs : s.length ≤ 1000000) (hfs : ∀ f ∈ fields, f.length ≤ 1000000) (hT : Tabs w) :
    Calls Tryd.prog 27 #[v, .string ⟨s.toArray⟩] w fun e w' => ∃ ov, e = .returned ov ∧ OwnS w.heap.size w' ov (elemsL fields s) ∧ Below w.heap.size w w' := by
  have hmx : Tryd.prog.follows .mixedOrders = true := by kernel_rfl
  have HV := Lib.hid hv
  have HT := Lib.hid hT
  have HFS := Lib.hid hfs
  obtain ⟨fa, fcap, rfl, hfl, hfa⟩ := hv.form
  obtain ⟨r, er⟩ : ∃ r, r = elemsL fields s := ⟨_, rfl⟩
  have HR := Lib.hid er
  rw [← er]
  clear hv hT hfs er
  go_enter Tryd.func27, Tryd.ntmps27
  go_wp2_with fail
  go_loopg [5, 6] (fields.length + 1) (fun g ov iv wr => ∃ k : Nat, k ≤ fields.length ∧ g = fields.length + 1 - k ∧ iv = .int .i64 (k : Int) ∧ OwnS w.heap.size wr ov ((List.range k).map (eleS fields s)) ∧ Fr [] w wr)
  case atStart => exact ⟨0, by omega, by omega, rfl, ⟨rfl, Or.inl ⟨rfl, rfl⟩⟩, Fr.refl _ _⟩
  case round =>
    obtain ⟨k, hk, hg, rfl, hown, hfr⟩ := hrel
    have HG := Lib.hid hg
    have HO := Lib.hid hown
    clear hg hown
    by_cases hlt : k < fields.length
    · have t1 : decide ((k : Int) < (fields.length : Int)) = true := by simp; omega
      obtain ⟨fb, fo, rfl⟩ := hfa k hlt
      have cf := HV.out.cell k hlt
      have hfsm := HFS.out _ (getD_mem fields k [] hlt)
      have HEQ := Lib.hid (elems_snoc (fields := fields) (s := s) (k := k))
      have hsx := saltS_length s k
      obtain ⟨sx, esx⟩ : ∃ sx, sx = saltS s k := ⟨_, rfl⟩
      rw [← esx] at hsx HEQ
      have ESX := Lib.hid esx
      generalize fields.getD k [] = f at cf hfsm HEQ
      have hsx' : sx.length ≤ 16 := by omega
      clear hsx esx
      have g0 : (0 : Int) ≤ (k : Int) := by omega
      have g1 : (k : Int) < (fields.length : Int) := by omega
      go_wp2_with fail
      have hc0 := cf
      have hh0 : Fr [] w wr.drew := hfr.drew
      have hS0 : wr.drew.cell? ⟨fb, fo + k, none⟩ = some (.string ⟨f.toArray⟩) := hh0.cell hc0 (by simp)
      refine region_held 11 (fun W' => W'.cell? ⟨fb, fo + k, none⟩ = some (.string ⟨f.toArray⟩)) hmx ?_
      change Held _ _ _ _ _ _ 12 (Array.replicate 12 false) _ _
      refine hd_take 0 (v := u5) rfl (by kernel_rfl) (by kernel_rfl) (by kernel_rfl) rfl hS0 (fun W' hS => by go_simp) rfl ?_
      refine hd_take 1 (v := .string ⟨s.toArray⟩) rfl (by kernel_rfl) (by kernel_rfl) (by kernel_rfl) rfl hS0 (fun W' hS => by go_simp) rfl ?_
      refine hd_take 2 (v := .int .i64 (k : Int)) rfl (by kernel_rfl) (by kernel_rfl) (by kernel_rfl) rfl hS0 (fun W' hS => by go_simp) rfl ?_
      refine hd_take 4 (v := .slice (some ⟨fb, fo, none⟩) fields.length fcap) rfl (by kernel_rfl) (by kernel_rfl) (by kernel_rfl) rfl hS0 (fun W' hS => by go_simp) rfl ?_
      refine hd_take 5 (v := .int .i64 (k : Int)) rfl (by kernel_rfl) (by kernel_rfl) (by kernel_rfl) rfl hS0 (fun W' hS => by go_simp) rfl ?_
      simp only [Act.put, List.setIfInBounds_toArray, List.set_cons_zero, List.set_cons_succ]
      refine hd_take 6 (v := .pointer (some ⟨fb, fo + k, none⟩)) rfl (by kernel_rfl) (by kernel_rfl) (by kernel_rfl) rfl hS0 (fun W' hS => by first | (go_simp; done) | (go_simp; intro hix; omega)) rfl ?_
      simp only [Act.put, List.setIfInBounds_toArray, List.set_cons_zero, List.set_cons_succ]
      refine hd_take 7 (v := .string ⟨f.toArray⟩) rfl (by kernel_rfl) (by kernel_rfl) (by kernel_rfl) rfl hS0 (fun W' hS => by have h1 := hS; go_simp) rfl ?_
      simp only [Act.put, List.setIfInBounds_toArray, List.set_cons_zero, List.set_cons_succ]
      refine hd_one 3 (by kernel_rfl) rfl (by kernel_rfl) rfl (fun K' hK => ?_)
      go_simp
      refine (salt31_any s k wr.drew (by omega) hs (HT.out.fr hh0)).mono ?_
      rintro e wq1 ⟨rfl, hb⟩
      rw [← ESX.out]
      have hw1 : Fr [] wr wq1 := ((Fr.refl [] wr).drew).below hb (Nat.le_refl _)
      have hh1 : Fr [] w wq1 := hh0.below hb hh0.size
      clear hb
      have hS1 : wq1.cell? ⟨fb, fo + k, none⟩ = some (.string ⟨f.toArray⟩) := hh1.cell hc0 (by simp)
      refine hK.out _ _ (fun _ => hS1) ?_
      clear hK K'
      try simp only [Act.put, List.setIfInBounds_toArray, List.set_cons_zero, List.set_cons_succ]
      refine hd_take 8 (v := .string ⟨(sx ++ f).toArray⟩) rfl (by kernel_rfl) (by kernel_rfl) (by kernel_rfl) rfl hS1 (fun W' hS => by first | (go_simp; done) | (go_simp; rw [if_neg (by omega), ba_append])) rfl ?_
      simp only [Act.put, List.setIfInBounds_toArray, List.set_cons_zero, List.set_cons_succ]
      refine hd_one 9 (by kernel_rfl) rfl (by kernel_rfl) rfl (fun K' hK => ?_)
      go_simp
      have hh2 := hh1.alloc (.cells #[.string ⟨(sx ++ f).toArray⟩] 9)
      have hS2 : (wq1.alloc (.cells #[.string ⟨(sx ++ f).toArray⟩] 9)).cell? ⟨fb, fo + k, none⟩ = some (.string ⟨f.toArray⟩) := hh2.cell hc0 (by simp)
      refine hK.out _ _ (fun _ => hS2) ?_
      clear hK K'
      try simp only [Act.put, List.setIfInBounds_toArray, List.set_cons_zero, List.set_cons_succ]
      refine hd_one 10 (by kernel_rfl) rfl (by kernel_rfl) rfl (fun K' hK => ?_)
      refine wp_appS (.tmp 13) (.tmp 22) rfl w.heap.size _ ((List.range k).map (eleS fields s)) (sx ++ f) w rfl rfl ?_ hh1 (Nat.le_refl _) hh1.size (by simp; omega) ?_
      · exact HO.out.fr hw1 (by simp)
      rintro nv wq3 ⟨gn, cn, rfl⟩ hown3 hh3 hgr3
      rw [← HEQ.out] at hown3
      have HO3 := Lib.hid hown3
      clear hown3 hgr3
      have hS3 : wq3.cell? ⟨fb, fo + k, none⟩ = some (.string ⟨f.toArray⟩) := hh3.cell hc0 (by simp)
      refine hK.out _ _ (fun _ => hS3) ?_
      clear hK K'
      try simp only [Act.put, List.setIfInBounds_toArray, List.set_cons_zero, List.set_cons_succ]
      refine hd_one 11 (by kernel_rfl) rfl (by kernel_rfl) rfl (fun K' hK => ?_)
      go_simp
      refine hK.out _ _ (fun h => absurd rfl h) ?_
      clear hK K'
      refine held_done (by kernel_rfl) ?_
      simp only [List.length_map, List.length_range] at HO3 ⊢
      go_wp2_with fail
      go_roundg (fields.length + 1 - (k + 1))
      case measure => have := HG.out; omega
      case rel => exact ⟨k + 1, by omega, rfl, by go_num, HO3.out, hh3⟩
    · obtain rfl : k = fields.length := by omega
      have t1 : decide ((fields.length : Int) < (fields.length : Int)) = false := by simp
      go_wp2_with fail
      go_ret
      exact ⟨_, rfl, by rw [HR.out]; exact HO.out, hfr.toBelow (by simp)⟩

set_option maxRecDepth 100000 in
set_option maxHeartbeats 2000000 in
theorem relements31_any (v : Value) (fields : List (List UInt8)) (s : List UInt8) (w : World) (hv : Strs w v fields) (hn : fields.length ≤ 50000) (hs : s.length ≤ 1000000) (hfs : ∀ f ∈ fields, f.length ≤ 1000000) :
    Calls Tryd.prog 55 #[v, .string ⟨s.toArray⟩] w fun e w' => ∃ ov, e = .returned ov ∧ OwnS w.heap.size w' ov (elemsL fields s) ∧ Below w.heap.size w w' := by
  have hmx : Tryd.prog.follows .mixedOrders = true := by kernel_rfl
  have HV := Lib.hid hv
  have HT := Lib.hid True.intro
  have HFS := Lib.hid hfs
  obtain ⟨fa, fcap, rfl, hfl, hfa⟩ := hv.form
  obtain ⟨r, er⟩ : ∃ r, r = elemsL fields s := ⟨_, rfl⟩
  have HR := Lib.hid er
  rw [← er]
  clear hv  hfs er
  go_enter Tryd.func55, Tryd.ntmps55
  go_wp2_with fail
  go_loopg [5, 6] (fields.length + 1) (fun g ov iv wr => ∃ k : Nat, k ≤ fields.length ∧ g = fields.length + 1 - k ∧ iv = .int .i64 (k : Int) ∧ OwnS w.heap.size wr ov ((List.range k).map (eleS fields s)) ∧ Fr [] w wr)
  case atStart => exact ⟨0, by omega, by omega, rfl, ⟨rfl, Or.inl ⟨rfl, rfl⟩⟩, Fr.refl _ _⟩
  case round =>
    obtain ⟨k, hk, hg, rfl, hown, hfr⟩ := hrel
    have HG := Lib.hid hg
    have HO := Lib.hid hown
    clear hg hown
    by_cases hlt : k < fields.length
    · have t1 : decide ((k : Int) < (fields.length : Int)) = true := by simp; omega
      obtain ⟨fb, fo, rfl⟩ := hfa k hlt
      have cf := HV.out.cell k hlt
      have hfsm := HFS.out _ (getD_mem fields k [] hlt)
      have HEQ := Lib.hid (elems_snoc (fields := fields) (s := s) (k := k))
      have hsx := saltS_length s k
      obtain ⟨sx, esx⟩ : ∃ sx, sx = saltS s k := ⟨_, rfl⟩
      rw [← esx] at hsx HEQ
      have ESX := Lib.hid esx
      generalize fields.getD k [] = f at cf hfsm HEQ
      have hsx' : sx.length ≤ 16 := by omega
      clear hsx esx
      have g0 : (0 : Int) ≤ (k : Int) := by omega
      have g1 : (k : Int) < (fields.length : Int) := by omega
      go_wp2_with fail
      have hc0 := cf
      have hh0 : Fr [] w wr.drew := hfr.drew
      have hS0 : wr.drew.cell? ⟨fb, fo + k, none⟩ = some (.string ⟨f.toArray⟩) := hh0.cell hc0 (by simp)
      refine region_held 11 (fun W' => W'.cell? ⟨fb, fo + k, none⟩ = some (.string ⟨f.toArray⟩)) hmx ?_
      change Held _ _ _ _ _ _ 12 (Array.replicate 12 false) _ _
      refine hd_take 0 (v := u5) rfl (by kernel_rfl) (by kernel_rfl) (by kernel_rfl) rfl hS0 (fun W' hS => by go_simp) rfl ?_
      refine hd_take 1 (v := .string ⟨s.toArray⟩) rfl (by kernel_rfl) (by kernel_rfl) (by kernel_rfl) rfl hS0 (fun W' hS => by go_simp) rfl ?_
      refine hd_take 2 (v := .int .i64 (k : Int)) rfl (by kernel_rfl) (by kernel_rfl) (by kernel_rfl) rfl hS0 (fun W' hS => by go_simp) rfl ?_
      refine hd_take 4 (v := .slice (some ⟨fb, fo, none⟩) fields.length fcap) rfl (by kernel_rfl) (by kernel_rfl) (by kernel_rfl) rfl hS0 (fun W' hS => by go_simp) rfl ?_
      refine hd_take 5 (v := .int .i64 (k : Int)) rfl (by kernel_rfl) (by kernel_rfl) (by kernel_rfl) rfl hS0 (fun W' hS => by go_simp) rfl ?_
      simp only [Act.put, List.setIfInBounds_toArray, List.set_cons_zero, List.set_cons_succ]
      refine hd_take 6 (v := .pointer (some ⟨fb, fo + k, none⟩)) rfl (by kernel_rfl) (by kernel_rfl) (by kernel_rfl) rfl hS0 (fun W' hS => by first | (go_simp; done) | (go_simp; intro hix; omega)) rfl ?_
      simp only [Act.put, List.setIfInBounds_toArray, List.set_cons_zero, List.set_cons_succ]
      refine hd_take 7 (v := .string ⟨f.toArray⟩) rfl (by kernel_rfl) (by kernel_rfl) (by kernel_rfl) rfl hS0 (fun W' hS => by have h1 := hS; go_simp) rfl ?_
      simp only [Act.put, List.setIfInBounds_toArray, List.set_cons_zero, List.set_cons_succ]
      refine hd_one 3 (by kernel_rfl) rfl (by kernel_rfl) rfl (fun K' hK => ?_)
      go_simp
      refine (rsalt_any s k wr.drew (by omega) hs).mono ?_
      rintro e wq1 ⟨rfl, hb⟩
      rw [← ESX.out]
      have hw1 : Fr [] wr wq1 := ((Fr.refl [] wr).drew).below hb (Nat.le_refl _)
      have hh1 : Fr [] w wq1 := hh0.below hb hh0.size
      clear hb
      have hS1 : wq1.cell? ⟨fb, fo + k, none⟩ = some (.string ⟨f.toArray⟩) := hh1.cell hc0 (by simp)
      refine hK.out _ _ (fun _ => hS1) ?_
      clear hK K'
      try simp only [Act.put, List.setIfInBounds_toArray, List.set_cons_zero, List.set_cons_succ]
      refine hd_take 8 (v := .string ⟨(sx ++ f).toArray⟩) rfl (by kernel_rfl) (by kernel_rfl) (by kernel_rfl) rfl hS1 (fun W' hS => by first | (go_simp; done) | (go_simp; rw [if_neg (by omega), ba_append])) rfl ?_
      simp only [Act.put, List.setIfInBounds_toArray, List.set_cons_zero, List.set_cons_succ]
      refine hd_one 9 (by kernel_rfl) rfl (by kernel_rfl) rfl (fun K' hK => ?_)
      go_simp
      have hh2 := hh1.alloc (.cells #[.string ⟨(sx ++ f).toArray⟩] 9)
      have hS2 : (wq1.alloc (.cells #[.string ⟨(sx ++ f).toArray⟩] 9)).cell? ⟨fb, fo + k, none⟩ = some (.string ⟨f.toArray⟩) := hh2.cell hc0 (by simp)
      refine hK.out _ _ (fun _ => hS2) ?_
      clear hK K'
      try simp only [Act.put, List.setIfInBounds_toArray, List.set_cons_zero, List.set_cons_succ]
      refine hd_one 10 (by kernel_rfl) rfl (by kernel_rfl) rfl (fun K' hK => ?_)
      refine wp_appS (.tmp 13) (.tmp 22) rfl w.heap.size _ ((List.range k).map (eleS fields s)) (sx ++ f) w rfl rfl ?_ hh1 (Nat.le_refl _) hh1.size (by simp; omega) ?_
      · exact HO.out.fr hw1 (by simp)
      rintro nv wq3 ⟨gn, cn, rfl⟩ hown3 hh3 hgr3
      rw [← HEQ.out] at hown3
      have HO3 := Lib.hid hown3
      clear hown3 hgr3
      have hS3 : wq3.cell? ⟨fb, fo + k, none⟩ = some (.string ⟨f.toArray⟩) := hh3.cell hc0 (by simp)
      refine hK.out _ _ (fun _ => hS3) ?_
      clear hK K'
      try simp only [Act.put, List.setIfInBounds_toArray, List.set_cons_zero, List.set_cons_succ]
      refine hd_one 11 (by kernel_rfl) rfl (by kernel_rfl) rfl (fun K' hK => ?_)
      go_simp
      refine hK.out _ _ (fun h => absurd rfl h) ?_
      clear hK K'
      refine held_done (by kernel_rfl) ?_
      simp only [List.length_map, List.length_range] at HO3 ⊢
      go_wp2_with fail
      go_roundg (fields.length + 1 - (k + 1))
      case measure => have := HG.out; omega
      case rel => exact ⟨k + 1, by omega, rfl, by go_num, HO3.out, hh3⟩
    · obtain rfl : k = fields.length := by omega
      have t1 : decide ((fields.length : Int) < (fields.length : Int)) = false := by simp
      go_wp2_with fail
      go_ret
      exact ⟨_, rfl, by rw [HR.out]; exact HO.out, hfr.toBelow (by simp)⟩

theorem rseal_any (v : Value) (fields : List (List UInt8)) (s : List UInt8) (w : World) (hv : Strs w v fields) (hn : fields.length ≤ 50000) (hsl : s.length ≤ 1000000) (hfs : ∀ f ∈ fields, f.length ≤ 100000) :
    Calls Tryd.prog 22 #[v, .string ⟨s.toArray⟩] w fun e w' => e = .returned (.string ⟨(sealS fields s).toArray⟩) ∧ Below w.heap.size w w' := by
  obtain ⟨fa, fcap, rfl, hfl, hfa⟩ := hv.form
  go_enter Tryd.func22, Tryd.ntmps22
  go_wp2_with fail
  refine (relements31_any _ fields s w hv hn hsl (fun f hf => Nat.le_trans (hfs f hf) (by decide))).mono ?_
  rintro e w1 ⟨ov, rfl, ho, hb1⟩
  have hf1 : Fr [] w w1 := Fr.ofBelow hb1
  have HO := Lib.hid ho
  clear ho hb1
  go_wp2_with fail
  refine (rroot_any _ (elemsL fields s) w1 HO.out.strs (by rw [elemsL_length]; omega) (elemsL_short hfs)).mono ?_
  rintro e w2 ⟨rfl, hb2⟩
  have hf2 := hf1.below hb2 hf1.size
  clear hb2
  go_wp2_with fail
  go_ret
  exact ⟨rfl, hf2.toBelow (by simp)⟩
end Go.Proofs.YtmhejcndkplepaaDoor
