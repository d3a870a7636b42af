/-
  Plain law: lengths of titles' texts; the title of the head, passed twice.
-/
import Derived.Test.YtcblpfepkkkilaaGreatDoorPlnTt
import Derived.Test.YtcblpfepkkkilaaGreatDoorTtI
namespace Go.Proofs.YtcblpfepkkkilaaGreatDoor
open Go.RowKit
set_option maxRecDepth 1000000

theorem isD_16 {l : List UInt8} (h : isD l = true) : l.length = 16 := by
  simp only [isD, Bool.and_eq_true, beq_iff_eq] at h
  exact h.1
theorem spS_sum : ∀ ws : List (List UInt8), (spS ws).length ≤ (ws.map fun s => s.length + 1).sum
  | [] => by simp [spS]
  | [a] => by simp [spS]
  | a :: b :: ws => by
    have := spS_sum (b :: ws)
    rw [spS, List.length_append, List.length_cons, List.map_cons, List.sum_cons]
    omega
theorem sum_16 (l : List (List UInt8)) (h : l.all isD = true) : (l.map fun s => s.length + 1).sum = 17 * l.length := by
  induction l with
  | nil => rfl
  | cons a l ih =>
    rw [List.all_cons, Bool.and_eq_true] at h
    rw [List.map_cons, List.sum_cons, ih h.2, isD_16 h.1, List.length_cons]
    omega
theorem chainW_sum : ∀ l : List Trf, l.all formX = true → ((chainW l).map fun s => s.length + 1).sum = 323 * l.length
  | [], _ => rfl
  | x :: l, h => by
    rw [List.all_cons, Bool.and_eq_true] at h
    obtain ⟨h1, h2, h3⟩ := formX_parts h.1
    have ih := chainW_sum l h.2
    unfold chainW at ih ⊢
    rw [List.flatMap_cons, List.map_append, List.sum_append, ih, List.map_cons, List.sum_cons, sum_16 _ h3, h1, isD_16 h2, List.length_cons]
    omega
/-- The text of a title is short. -/
theorem textT_len (t : Ttl) (hN : TNum t) : (textT t).length ≤ 83 + 323 * t.chain.length := by
  cases hf : formedT t with
  | false => rw [textT_nil hf]; simp
  | true =>
    have hp := formedT_parts hf
    unfold textT
    rw [if_pos hf]
    refine Nat.le_trans (spS_sum _) ?_
    unfold wordsT
    rw [List.map_append, List.sum_append, chainW_sum _ hp.2.2.2.2.2]
    simp only [List.map_cons, List.map_nil, List.sum_cons, List.sum_nil]
    have h1 := Lib.itoa_length_le t.serial hN.s.1 hN.s.2
    have h2 := Lib.itoa_length_le t.shw hN.h.1 hN.h.2
    have h3 := Lib.itoa_length_le t.place hN.p.1 hN.p.2
    have h4 := isD_16 hp.2.2.2.1
    omega
theorem pub_ab : publicS [97] ≠ publicS [98] := by decide +kernel
theorem pub_ac : publicS [97] ≠ publicS [99] := by decide +kernel
theorem pub_bc : publicS [98] ≠ publicS [99] := by decide +kernel
def t30 : Ttl := ⟨20001, 1, 7, publicS [97], []⟩
theorem text30 : textT t30 = [50, 48, 48, 48, 49, 32, 49, 32, 55, 32] ++ publicS [97] := by decide +kernel
theorem pass_then (t : Ttl) (tk secret : List UInt8) (hv : validT t = true) (hd : isD tk = true) (h5 : t.chain.length ≠ 50) (hu : usedT t tk = false) (hp : publicS secret = ownerT t) :
    passR t tk secret = ({ t with chain := t.chain ++ [⟨tk, sigS secret (msgT t tk)⟩] }, 0) := by
  unfold passR passT
  rw [hv, hd, hu, hp]
  simp [h5]
theorem pass_inl {t x : Ttl} {tk secret : List UInt8} (h : passR t tk secret = (x, 0)) : passT t tk secret = .inl x := by
  unfold passR at h
  cases hq : passT t tk secret with
  | inl y => rw [hq] at h; simp only [Prod.mk.injEq] at h; rw [h.1]
  | inr e =>
    rw [hq] at h
    simp only [Prod.mk.injEq] at h
    exact absurd h.2 (passT_err hq).1
/-- The title of the head, passed to b and to c. -/
theorem head30_plain : ∃ (pa pb pc : List UInt8) (u v : Ttl), pa = publicS [97] ∧ pb = publicS [98] ∧ pc = publicS [99] ∧ pa ≠ pb ∧
    passR ⟨20001, 1, 7, pa, []⟩ pb [97] = (u, 0) ∧ passR u pc [98] = (v, 0) ∧ passR u pc [97] = (zeroTtl, 20) ∧ passR u pa [98] = (zeroTtl, 9) ∧ passR ⟨20001, 1, 7, pa, []⟩ [99] [97] = (zeroTtl, 1) ∧
    TSmall ⟨20001, 1, 7, pa, []⟩ ∧ TSmall u ∧ TSmall v ∧ (textT v).length ≤ 10000 ∧ (∀ o, ParsedT (textT v) o → o = some v) ∧ ownerT ⟨20001, 1, 7, pa, []⟩ = pa ∧ ownerT v = pc ∧ validT { v with place := 8 } = true ∧
    extT v ⟨20001, 1, 7, pa, []⟩ = true ∧ extT ⟨20001, 1, 7, pa, []⟩ v = false ∧ textT ⟨20001, 1, 7, pa, []⟩ = [50, 48, 48, 48, 49, 32, 49, 32, 55, 32] ++ pa ∧ pa.length = 16 ∧ pb.length = 16 ∧ pc.length = 16 ∧ 2 ≤ v.chain.length ∧ ∀ x ∈ v.chain, 2 ≤ x.sig.length := by
  have key : ∀ (a : List UInt8) (l : List Trf), TNum ⟨20001, 1, 7, a, l⟩ := fun a l => ⟨⟨by simp, by simp⟩, ⟨by simp, by simp⟩, ⟨by simp, by simp⟩⟩
  have hda : isD (publicS [97]) = true := publicS_isD _
  have hdb : isD (publicS [98]) = true := publicS_isD _
  have hdc : isD (publicS [99]) = true := publicS_isD _
  have hab := pub_ab
  have hac := pub_ac
  have hbc := pub_bc
  have htx := text30
  unfold t30 at htx
  obtain ⟨pa, ea⟩ : ∃ p, p = publicS [97] := ⟨_, rfl⟩
  obtain ⟨pb, eb⟩ : ∃ p, p = publicS [98] := ⟨_, rfl⟩
  obtain ⟨pc, ec⟩ : ∃ p, p = publicS [99] := ⟨_, rfl⟩
  rw [← ea] at hda hab hac htx
  rw [← eb] at hdb hab hbc
  rw [← ec] at hdc hac hbc
  have hv0 : validT ⟨20001, 1, 7, pa, []⟩ = true := by simp [validT, formedT, hda]
  have hu0 : usedT ⟨20001, 1, 7, pa, []⟩ pb = false := by simp [usedT, hab]
  have h1 := pass_then ⟨20001, 1, 7, pa, []⟩ pb [97] hv0 hdb (by simp) hu0 ea.symm
  obtain ⟨s1, es1⟩ : ∃ s, s = sigS [97] (msgT ⟨20001, 1, 7, pa, []⟩ pb) := ⟨_, rfl⟩
  rw [← es1] at h1
  simp only [List.nil_append] at h1
  have hl1 : s1.length = 18 := by rw [es1, sigS_length]
  have hi1 : s1.all isD = true := by rw [es1, sigS_isD]
  have hv1 := passT_valid (pass_inl h1)
  have hu1 : usedT ⟨20001, 1, 7, pa, [⟨pb, s1⟩]⟩ pc = false := by simp [usedT, hac, hbc]
  have h2 := pass_then ⟨20001, 1, 7, pa, [⟨pb, s1⟩]⟩ pc [98] hv1 hdc (by simp) hu1 (by rw [← eb]; rfl)
  obtain ⟨s2, es2⟩ : ∃ s, s = sigS [98] (msgT ⟨20001, 1, 7, pa, [⟨pb, s1⟩]⟩ pc) := ⟨_, rfl⟩
  rw [← es2] at h2
  simp only [List.cons_append, List.nil_append] at h2
  have hl2 : s2.length = 18 := by rw [es2, sigS_length]
  have hi2 : s2.all isD = true := by rw [es2, sigS_isD]
  have hv2 := passT_valid (pass_inl h2)
  have hs : ∀ s : List (List UInt8), s.all isD = true → ∀ x ∈ s, x.length ≤ 100000 := fun s h x hx => by rw [isD_16 (List.all_eq_true.1 h x hx)]; decide
  have ka := isD_16 hda
  have kb := isD_16 hdb
  have kc := isD_16 hdc
  have hf2 : formedT ⟨20001, 1, 7, pa, [⟨pb, s1⟩, ⟨pc, s2⟩]⟩ = true := by
    unfold validT at hv2
    rw [Bool.and_eq_true] at hv2
    exact hv2.1
  refine ⟨pa, pb, pc, ⟨20001, 1, 7, pa, [⟨pb, s1⟩]⟩, ⟨20001, 1, 7, pa, [⟨pb, s1⟩, ⟨pc, s2⟩]⟩, ea, eb, ec, hab, h1, h2, ?_, ?_, ?_, ?_, ?_, ?_, ?_, ?_, rfl, rfl, ?_, ?_, ?_, htx, ka, kb, kc, Nat.le_refl 2, fun x hx => ?_⟩
  · unfold passR passT
    rw [hv1, hdc, hu1, ← ea]
    simp [ownerT, hab]
  · unfold passR passT
    rw [hv1, hda]
    simp [usedT]
  · unfold passR passT
    rw [show isD [99] = false by decide]
    simp
  · exact ⟨key _ _, by simp only; omega, by simp, by simp⟩
  · refine ⟨key _ _, by simp only; omega, by simp, fun x hx => ?_⟩
    simp only [List.mem_cons, List.not_mem_nil, or_false] at hx
    subst hx
    exact ⟨by simp only; omega, by simp only; omega, hs _ hi1⟩
  · refine ⟨key _ _, by simp only; omega, by simp, fun x hx => ?_⟩
    simp only [List.mem_cons, List.not_mem_nil, or_false] at hx
    rcases hx with rfl | rfl
    · exact ⟨by simp only; omega, by simp only; omega, hs _ hi1⟩
    · exact ⟨by simp only; omega, by simp only; omega, hs _ hi2⟩
  · refine Nat.le_trans (textT_len _ (key _ _)) ?_
    simp
  · exact fun o ho => (ho _).2 ⟨hf2, rfl⟩
  · exact (validT_place (t := ⟨20001, 1, 7, pa, [⟨pb, s1⟩, ⟨pc, s2⟩]⟩) (p := 8) (by simp) (by simp)).trans hv2
  · exact (extT_iff _ _).2 ⟨rfl, rfl, rfl, rfl⟩
  · rw [Bool.eq_false_iff]
    intro h
    have := extT_len h
    simp at this
  · simp only [List.mem_cons, List.not_mem_nil, or_false] at hx
    rcases hx with rfl | rfl
    · simp only; omega
    · simp only; omega
end Go.Proofs.YtcblpfepkkkilaaGreatDoor
