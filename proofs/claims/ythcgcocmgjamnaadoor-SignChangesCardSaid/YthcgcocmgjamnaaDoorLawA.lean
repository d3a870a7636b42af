/-
  foyerlaw03: short, head.
-/
import Derived.Test.YthcgcocmgjamnaaDoorRefF
import Derived.Test.YthcgcocmgjamnaaDoorPlnB
namespace Go.Proofs.YthcgcocmgjamnaaDoor
open Go.RowKit

def shortB (l : List (List UInt8)) : Bool := l.all (fun s => decide (s.length ≤ 300)) && decide (l.length ≤ 40)

set_option maxRecDepth 100000 in
set_option maxHeartbeats 1000000 in
theorem short_any (v : Value) (l : List (List UInt8)) (w : World) (hv : Strs w v l) :
    Calls Tryd.prog 10 #[v] w fun e w' => e = .returned (.bool (shortB l)) ∧ Below w.heap.size w w' := by
  have HV := Lib.hid hv
  obtain ⟨a, cap, rfl, hlen, ha⟩ := hv.form
  clear hv
  go_enter Tryd.func10, Tryd.ntmps10
  go_wp2_with fail
  go_loopg [3] (l.length + 1) (fun g i wr => ∃ k : Nat, k ≤ l.length ∧ g = l.length + 1 - k ∧ i = .int .i64 (k : Int) ∧ (l.take k).all (fun s => decide (s.length ≤ 300)) = true ∧ Fr [] w wr)
  case atStart => exact ⟨0, by omega, by omega, rfl, by simp, Fr.refl _ _⟩
  case round =>
    obtain ⟨k, hk, hg, rfl, hall, hfr⟩ := hrel
    have HG := Lib.hid hg
    have HALL := Lib.hid hall
    clear hg hall
    by_cases hlt : k < l.length
    · obtain ⟨b, off, rfl⟩ := ha k hlt
      have hc := (HV.out.fr0 hfr).cell k hlt
      have HS := Lib.hid (take_snoc' l k [] hlt)
      have HM := Lib.hid (getD_mem l k [] hlt)
      have t1 : decide ((k : Int) < (l.length : Int)) = true := by simp; omega
      generalize l.getD k [] = s at hc HS HM
      by_cases h3 : s.length ≤ 300
      · have t2 : decide ((300 : Int) < (s.length : Int)) = false := by simp; omega
        go_wp2_with fail
        go_roundg (l.length + 1 - (k + 1))
        case measure => have := HG.out; omega
        case rel => exact ⟨k + 1, by omega, rfl, by go_num, by rw [HS.out, List.all_append, HALL.out]; simp [h3], hfr⟩
      · have t2 : decide ((300 : Int) < (s.length : Int)) = true := by simp; omega
        have hf : shortB l = false := by
          simp only [shortB, Bool.and_eq_false_iff]
          left
          rw [List.all_eq_false]
          exact ⟨s, HM.out, by simp [h3]⟩
        have HF := Lib.hid hf
        clear hf
        go_wp2_with fail
        go_ret
        exact ⟨by rw [HF.out]; rfl, hfr.toBelow (by simp)⟩
    · obtain rfl : k = l.length := by omega
      have t1 : decide ((l.length : Int) < (l.length : Int)) = false := by simp
      have hf : shortB l = decide ((l.length : Int) ≤ 40) := by
        have := HALL.out
        rw [List.take_length] at this
        simp only [shortB, this, Bool.true_and]
        rw [Bool.eq_iff_iff]; simp; omega
      have HF := Lib.hid hf
      clear hf
      go_wp2_with fail
      go_ret
      exact ⟨by rw [HF.out]; rfl, hfr.toBelow (by simp)⟩

def z16 : List UInt8 := [48, 48, 48, 48, 48, 48, 48, 48, 48, 48, 48, 48, 48, 48, 48, 48]
def b16 : List UInt8 := [49, 50, 51, 52, 53, 54, 55, 56, 57, 97, 98, 99, 100, 101, 102, 48]
def tSecret : List UInt8 := [115, 101, 99, 114, 101, 116]
def tMessage : List UInt8 := [109, 101, 115, 115, 97, 103, 101]
theorem sigS_short (s m : List UInt8) : ∀ x ∈ sigS s m, x.length ≤ 1000000 := by
  intro x hx
  have := List.all_eq_true.1 (sigS_isD s m) x hx
  simp only [isD, Bool.and_eq_true, beq_iff_eq] at this
  omega
theorem publicS_length (s : List UInt8) : (publicS s).length = 16 := dsum_length _
theorem verify_no (p m : List UInt8) (sig : List (List UInt8)) (h : sig.length ≠ 18) : verifyS p m sig = false := by simp [verifyS, h]
theorem Strs.tail {w : World} {g cap n : Nat} {l : List (List UInt8)} (h : Strs w (.slice (some ⟨g, 0, none⟩) l.length cap) l) (hl : l.length = n + 1) : Strs w (.slice (some ⟨g, 1, none⟩) n (cap - 1)) (l.drop 1) := by
  rcases h with ⟨h, _⟩ | ⟨b, off, cap', hv, h1, h2, h3, h4⟩
  · cases h
  · cases hv
    refine Or.inr ⟨g, 1, cap - 1, ?_, ?_, by omega, h3, fun i hi => ?_⟩
    · rw [List.length_drop, hl]; rfl
    · rw [List.length_drop]; omega
    · rw [List.length_drop] at hi
      have := h4 (i + 1) (by omega)
      rw [show 1 + i = 0 + (i + 1) by omega, this]
      simp [List.getD_eq_getElem?_getD]

set_option maxRecDepth 100000 in
set_option maxHeartbeats 2000000 in
theorem head_any (w : World) (hT : Tabs w) :
    Calls Tryd.prog 9 #[] w fun e w' => e = .returned (.bool true) ∧ Below w.heap.size w w' := by
  have hmx : Tryd.prog.follows .mixedOrders = true := by kernel_rfl
  go_enter Tryd.func9, Tryd.ntmps9
  go_wp2_with fail
  refine (rdigs_any z16 w (by decide) (by decide)).mono ?_
  rintro e w1 ⟨dv, rfl, hd, hb1⟩
  obtain ⟨g1, c1, rfl, _, hl1, hc1, hm1, hcell1⟩ := hd.form (by decide)
  have e1 : (digs z16).length = 18 := by decide
  have a16 := hcell1 16 (by decide)
  have a17 := hcell1 17 (by decide)
  rw [show ((digs z16).getD 16 0 : Nat) = 15 by decide] at a16
  rw [show ((digs z16).getD 17 0 : Nat) = 0 by decide] at a17
  rw [e1] at hc1 ⊢
  clear hd hcell1 e1
  go_wp2_with fail
  refine (rdigs_any b16 w1 (by decide) (by decide)).mono ?_
  rintro e w2 ⟨dv, rfl, hd, hb2⟩
  obtain ⟨g2, c2, rfl, _, hl2, hc2, hm2, hcell2⟩ := hd.form (by decide)
  have e2 : (digs b16).length = 18 := by decide
  have b9 := hcell2 9 (by decide)
  have b16' := hcell2 16 (by decide)
  have b17 := hcell2 17 (by decide)
  rw [show ((digs b16).getD 9 0 : Nat) = 10 by decide] at b9
  rw [show ((digs b16).getD 16 0 : Nat) = 7 by decide] at b16'
  rw [show ((digs b16).getD 17 0 : Nat) = 8 by decide] at b17
  rw [e2] at hc2 ⊢
  clear hd hcell2 e2
  have hf2 : Fr [] w w2 := ((Fr.refl [] w).below hb1 (Nat.le_refl _)).below hb2 hb1.size
  have hf12 : Fr [] w1 w2 := Fr.ofBelow hb2
  go_wp2_with fail
  refine (sign_any tSecret tMessage w2 (by decide) (by decide) (hT.fr hf2)).mono ?_
  rintro e w3 ⟨sv, rfl, hs, hb3⟩
  have hf23 : Fr [] w2 w3 := Fr.ofBelow hb3
  have hstr := hs.strs
  have hsl := sigS_length tSecret tMessage
  obtain ⟨sa, sc, rfl, hscap⟩ : ∃ g c, sv = .slice (some ⟨g, 0, none⟩) (sigS tSecret tMessage).length c ∧ 18 ≤ c := by
    rcases hs.2 with ⟨_, h0⟩ | ⟨g, c, _, hv, _, _, hc, _⟩
    · rw [hsl] at h0; omega
    · exact ⟨g, c, hv, by rw [hsl] at hc; exact hc⟩
  have htail := hstr.tail (n := 17) hsl
  rw [hsl] at hstr
  have HVS := Lib.hid (verify_sig tSecret tMessage)
  have HSTR := Lib.hid hstr
  have HTAIL := Lib.hid htail
  have HSL := Lib.hid hsl
  have HT := Lib.hid hT
  have hf3 : Fr [] w w3 := hf2.trans hf23 (by simp)
  rw [hsl]
  have HSH := Lib.hid (sigS_short tSecret tMessage)
  generalize sigS tSecret tMessage = S at HSTR HTAIL HSL HSH HVS
  have a16' := (hf12.trans hf23 (by simp)).cell a16 (by simp)
  have a17' := (hf12.trans hf23 (by simp)).cell a17 (by simp)
  have b9' := hf23.cell b9 (by simp)
  have b16'' := hf23.cell b16' (by simp)
  have b17' := hf23.cell b17 (by simp)
  clear hs hstr htail hsl a16 a17 b9 b16' b17
  go_wp2_with fail
  refine region_held 22 (fun _ => True) hmx ?_
  change Held _ _ _ _ _ _ 23 (Array.replicate 23 false) _ _
  refine held_take 0 (v := .bool true) rfl (by kernel_rfl) (by kernel_rfl) (by kernel_rfl) rfl trivial (fun W' _ => by go_simp) rfl ?_
  refine held_take 1 (v := .bool true) rfl (by kernel_rfl) (by kernel_rfl) (by kernel_rfl) rfl trivial (fun W' _ => by go_simp) rfl ?_
  simp only [Act.put]
  refine held_take_g 2 (v := .slice (some ⟨sa, 0, none⟩) 18 sc) rfl (by kernel_rfl) (by kernel_rfl) (by kernel_rfl) rfl trivial (fun W' _ => by go_simp) rfl ?_
  refine held_take_g 3 (v := .int .i64 18) rfl (by kernel_rfl) (by kernel_rfl) (by kernel_rfl) rfl trivial (fun W' _ => by go_simp) rfl ?_
  simp only [Act.put]
  refine held_take_g 4 (v := .bool true) rfl (by kernel_rfl) (by kernel_rfl) (by kernel_rfl) rfl trivial (fun W' _ => by go_simp) rfl ?_
  refine held_take 5 (v := .bool true) rfl (by kernel_rfl) (by kernel_rfl) (by kernel_rfl) rfl trivial (fun W' _ => by go_simp) rfl ?_
  refine held_take 6 (v := .bool true) rfl (by kernel_rfl) (by kernel_rfl) (by kernel_rfl) rfl trivial (fun W' _ => by go_simp) rfl ?_
  simp only [Act.put]
  refine held_take_g 8 (v := .slice (some ⟨sa, 0, none⟩) 18 sc) rfl (by kernel_rfl) (by kernel_rfl) (by kernel_rfl) rfl trivial (fun W' _ => by go_simp) rfl ?_
  simp only [Act.put]
  refine held_one_g 7 (by kernel_rfl) rfl (by kernel_rfl) rfl (fun K' hK => ?_)
  go_simp
  refine (public_any tSecret w3.drew (by decide) (HT.out.fr hf3.drew)).mono ?_
  rintro e w4 ⟨rfl, hb4⟩
  have hf4 : Fr [] w3 w4 := (Fr.refl [] w3).drew.below hb4 (Nat.le_refl _)
  refine hK.out _ _ (fun _ => trivial) ?_
  clear hK K'
  refine held_one_g 9 (by kernel_rfl) rfl (by kernel_rfl) rfl (fun K' hK => ?_)
  go_simp
  refine (verify_any (publicS tSecret) tMessage _ S w4 (by rw [publicS_length]; decide) (by decide) HSH.out (HSTR.out.fr0 hf4) (HT.out.fr (hf3.trans hf4 (by simp)))).mono ?_
  rintro e w5 ⟨rfl, hb5⟩
  rw [HVS.out]
  have hf5 : Fr [] w3 w5 := hf4.below hb5 hf4.size
  refine hK.out _ _ (fun _ => trivial) ?_
  clear hK K'
  refine held_take 10 (v := .bool true) rfl (by kernel_rfl) (by kernel_rfl) (by kernel_rfl) rfl trivial (fun W' _ => by go_simp) rfl ?_
  refine held_take 11 (v := .bool true) rfl (by kernel_rfl) (by kernel_rfl) (by kernel_rfl) rfl trivial (fun W' _ => by go_simp) rfl ?_
  simp only [Act.put]
  refine held_take_g 13 (v := .slice (some ⟨sa, 0, none⟩) 18 sc) rfl (by kernel_rfl) (by kernel_rfl) (by kernel_rfl) rfl trivial (fun W' _ => by go_simp) rfl ?_
  refine held_take_g 14 (v := .slice (some ⟨sa, 1, none⟩) 17 (sc - 1)) rfl (by kernel_rfl) (by kernel_rfl) (by kernel_rfl) rfl trivial (fun W' _ => by go_simp; omega) rfl ?_
  simp only [Act.put]
  refine held_one_g 12 (by kernel_rfl) rfl (by kernel_rfl) rfl (fun K' hK => ?_)
  go_simp
  refine (public_any tSecret w5 (by decide) (HT.out.fr (hf3.trans hf5 (by simp)))).mono ?_
  rintro e w6 ⟨rfl, hb6⟩
  have hf6 : Fr [] w3 w6 := hf5.below hb6 hf5.size
  refine hK.out _ _ (fun _ => trivial) ?_
  clear hK K'
  refine held_one_g 15 (by kernel_rfl) rfl (by kernel_rfl) rfl (fun K' hK => ?_)
  go_simp
  refine (verify_any (publicS tSecret) tMessage _ (S.drop 1) w6 (by rw [publicS_length]; decide) (by decide) (fun s hs => HSH.out s (List.mem_of_mem_drop hs)) (HTAIL.out.fr0 hf6) (HT.out.fr (hf3.trans hf6 (by simp)))).mono ?_
  rintro e w7 ⟨rfl, hb7⟩
  rw [verify_no _ _ _ (by rw [List.length_drop, HSL.out]; decide)]
  have hf7 : Fr [] w3 w7 := hf6.below hb7 hf6.size
  refine hK.out _ _ (fun _ => trivial) ?_
  clear hK K'
  refine held_take_g 16 (v := .bool true) rfl (by kernel_rfl) (by kernel_rfl) (by kernel_rfl) rfl trivial (fun W' _ => by go_simp) rfl ?_
  refine held_take 17 (v := .bool true) rfl (by kernel_rfl) (by kernel_rfl) (by kernel_rfl) rfl trivial (fun W' _ => by go_simp) rfl ?_
  refine held_take 18 (v := .bool true) rfl (by kernel_rfl) (by kernel_rfl) (by kernel_rfl) rfl trivial (fun W' _ => by go_simp) rfl ?_
  simp only [Act.put]
  refine held_one_g 19 (by kernel_rfl) rfl (by kernel_rfl) rfl (fun K' hK => ?_)
  go_simp
  refine (verify_any [] tMessage _ [] w7 (by decide) (by decide) (by simp) (Or.inl ⟨rfl, rfl⟩) (HT.out.fr (hf3.trans hf7 (by simp)))).mono ?_
  rintro e w8 ⟨rfl, hb8⟩
  rw [verify_no _ _ _ (by decide)]
  have hf8 : Fr [] w3 w8 := hf7.below hb8 hf7.size
  refine hK.out _ _ (fun _ => trivial) ?_
  clear hK K'
  refine held_take_g 20 (v := .bool true) rfl (by kernel_rfl) (by kernel_rfl) (by kernel_rfl) rfl trivial (fun W' _ => by go_simp) rfl ?_
  refine held_take 21 (v := .bool true) rfl (by kernel_rfl) (by kernel_rfl) (by kernel_rfl) rfl trivial (fun W' _ => by go_simp) rfl ?_
  simp only [Act.put]
  refine held_one 22 (by kernel_rfl) rfl rfl rfl (fun K' hK => ?_)
  go_simp
  refine hK.out _ _ (fun h => absurd rfl h) ?_
  clear hK K'
  refine held_done (by kernel_rfl) ?_
  go_wp2_with fail
  go_ret
  exact ⟨rfl, (hf3.trans hf8 (by simp)).toBelow (by simp)⟩
end Go.Proofs.YthcgcocmgjamnaaDoor
