/-
  entry.Classes: the head of a class, the union of two classes.
-/
import Derived.Test.YtjddngbgbbbefaaGreatDoorPlnEn
import Derived.Test.YtjddngbgbbbefaaGreatDoorArr
import Derived.Test.YtjddngbgbbbefaaGreatDoorMrk
import Derived.Deep.RegionHeld3
import Derived.BigRegion
namespace Go.Proofs.YtjddngbgbbbefaaGreatDoor
open Go.RowKit

def headV (bo bh : Nat) : Value := .func (.func 87) #[] #[.pointer (some ⟨bo, 0, none⟩), .pointer (some ⟨bh, 0, none⟩)]
/-- The parents lie in a row at g; the boxes bo and bh hold that slice and the function 'head'. -/
structure Lay (w : World) (bo bh g n : Nat) (p : List Nat) : Prop where
  o : w.heap[bo]? = some (.cells #[.slice (some ⟨g, 0, none⟩) n n] 24 (0, 0))
  h : w.heap[bh]? = some (.cells #[headV bo bh] 75 (0, 0))
  a : ArrN w g p
  len : p.length = n
  n1 : bo ≠ g
  n2 : bh ≠ g
  n3 : bo ≠ bh
theorem Lay.fr {X : List Nat} {w w' : World} {bo bh g n : Nat} {p : List Nat} (h : Lay w bo bh g n p) (hf : Fr X w w') (h1 : bo ∉ X) (h2 : bh ∉ X) (h3 : g ∉ X) : Lay w' bo bh g n p :=
  ⟨hf.at h.o h1, hf.at h.h h2, h.a.fr hf h3, h.len, h.n1, h.n2, h.n3⟩
theorem Lay.set {w : World} {bo bh g n : Nat} {p : List Nat} (h : Lay w bo bh g n p) (i x : Nat) : Lay (w.setCell ⟨g, i, none⟩ (.int .i64 (x : Int))) bo bh g n (p.set i x) :=
  ⟨heap_other h.o _ _ (fun e => h.n1 e.symm), heap_other h.h _ _ (fun e => h.n2 e.symm), h.a.set i x, by rw [List.length_set]; exact h.len, h.n1, h.n2, h.n3⟩
def HeadPost (bo bh g n k i : Nat) (p : List Nat) (R : Nat → Nat) (w : World) (e : Ending) (w' : World) : Prop :=
  e = .returned (.int .i64 (R i : Nat)) ∧ ∃ p', Lay w' bo bh g n p' ∧ Shrt k p p' R ∧ p'.getD i 0 = R i ∧ (∀ j, i < j → p'.getD j 0 = p.getD j 0) ∧ Fr [g] w w'
theorem enters_head : ∀ args w, (callFunc 87 args).run Tryz.prog w = .ok (.enter 87 args) w := enters_of Tryz.func87 (by kernel_rfl) rfl

set_option maxRecDepth 100000 in
set_option maxHeartbeats 4000000 in
theorem head_any (bo bh g n k : Nat) (R : Nat → Nat) : ∀ (d i : Nat) (p : List Nat) (w : World), i < d → i < k → Lay w bo bh g n p → UF k p R →
    Calls Tryz.prog 87 #[.int .i64 (i : Int), .pointer (some ⟨bo, 0, none⟩), .pointer (some ⟨bh, 0, none⟩)] w (HeadPost bo bh g n k i p R w) := by
  intro d
  induction d with
  | zero => intro i p w h; exact absurd h (Nat.not_lt_zero _)
  | succ d ih =>
    intro i p w hd hi hL hU
    have hmx : Tryz.prog.follows .mixedOrders = true := by kernel_rfl
    have hin : i < n := by have := hU.len; have := hL.len; omega
    have cb := cell_of_one hL.o
    have ch := cell_of_one hL.h
    have ca := hL.a.cell i (by rw [hL.len]; exact hin)
    have hle := hU.le i hi
    have HFX := Lib.hid (hU.fx i hi)
    have HRT := Lib.hid (hU.rt i hi)
    have i0 : (0 : Int) ≤ (i : Int) := by omega
    have i1 : (i : Int) < (n : Int) := by omega
    by_cases hx : p.getD i 0 = i
    · rw [hx] at ca
      have HR : Hid (R i = i) := Lib.hid (HFX.out.1 hx)
      have HXI := Lib.hid hx
      have HL := Lib.hid hL
      have t1 : ((i : Int) != (i : Int)) = false := by simp
      clear hx hL hU HFX HRT
      go_enter Tryz.func87, Tryz.ntmps87
      go_wp2_with fail
      go_ret
      exact ⟨by rw [HR.out]; rfl, p, HL.out, .refl _ _ _, by rw [HR.out]; exact HXI.out, fun _ _ => rfl, .refl _ _⟩
    · obtain ⟨x, ex⟩ : ∃ x, p.getD i 0 = x := ⟨_, rfl⟩
      rw [ex] at ca hle HRT hx
      have HX := Lib.hid ex
      have hlt : x < i := by omega
      have HL := Lib.hid hL
      have HU := Lib.hid hU
      have HC := Lib.hid (fun w (hw : Lay w bo bh g n p) => ih x p w (by omega) (by omega) hw hU)
      have t1 : ((x : Int) != (i : Int)) = true := by simp; omega
      clear ex hx hL hU HFX ih hd
      unfold headV at ch
      have hen := enters_head
      go_enter Tryz.func87, Tryz.ntmps87
      go_wp2_with fail
      have hc0 := cb
      have hc1 := ch
      have hc2 := ca
      have hh0 : Fr [] w w.drew := (Fr.refl [] w).drew
      have hS0 : w.drew.cell? ⟨bo, 0, none⟩ = some (.slice (some ⟨g, 0, none⟩) n n) ∧ w.drew.cell? ⟨bh, 0, none⟩ = some (.func (.func 87) #[] #[.pointer (some ⟨bo, 0, none⟩), .pointer (some ⟨bh, 0, none⟩)]) ∧ w.drew.cell? ⟨g, i, none⟩ = some (.int .i64 (x : Int)) := ⟨hh0.cell hc0 (by simp), hh0.cell hc1 (by simp), hh0.cell hc2 (by simp)⟩
      refine region_held 9 (fun W' => W'.cell? ⟨bo, 0, none⟩ = some (.slice (some ⟨g, 0, none⟩) n n) ∧ W'.cell? ⟨bh, 0, none⟩ = some (.func (.func 87) #[] #[.pointer (some ⟨bo, 0, none⟩), .pointer (some ⟨bh, 0, none⟩)]) ∧ W'.cell? ⟨g, i, none⟩ = some (.int .i64 (x : Int))) hmx ?_
      change Held _ _ _ _ _ _ 10 (Array.replicate 10 false) _ _
      refine held_take 0 (v := .slice (some ⟨g, 0, none⟩) n n) rfl (by kernel_rfl) (by kernel_rfl) (by kernel_rfl) rfl hS0 (fun W' hS => by obtain ⟨h0, h1, h2⟩ := hS; go_simp) rfl ?_
      refine held_take 1 (v := .int .i64 (i : Int)) rfl (by kernel_rfl) (by kernel_rfl) (by kernel_rfl) rfl hS0 (fun W' hS => by go_simp) rfl ?_
      refine held_take 2 (v := .func (.func 87) #[] #[.pointer (some ⟨bo, 0, none⟩), .pointer (some ⟨bh, 0, none⟩)]) rfl (by kernel_rfl) (by kernel_rfl) (by kernel_rfl) rfl hS0 (fun W' hS => by obtain ⟨h0, h1, h2⟩ := hS; go_simp) rfl ?_
      refine held_take 3 (v := .slice (some ⟨g, 0, none⟩) n n) rfl (by kernel_rfl) (by kernel_rfl) (by kernel_rfl) rfl hS0 (fun W' hS => by obtain ⟨h0, h1, h2⟩ := hS; go_simp) rfl ?_
      refine held_take 4 (v := .int .i64 (i : Int)) rfl (by kernel_rfl) (by kernel_rfl) (by kernel_rfl) rfl hS0 (fun W' hS => by go_simp) rfl ?_
      simp only [Act.put]
      refine held_take 5 (v := .pointer (some ⟨g, i, none⟩)) rfl (by kernel_rfl) (by kernel_rfl) (by kernel_rfl) rfl hS0 (fun W' hS => by first | (go_simp; done) | (go_simp; intro hix; omega)) rfl ?_
      simp only [Act.put]
      refine held_take 6 (v := .int .i64 (x : Int)) rfl (by kernel_rfl) (by kernel_rfl) (by kernel_rfl) rfl hS0 (fun W' hS => by obtain ⟨h0, h1, h2⟩ := hS; go_simp) rfl ?_
      simp only [Act.put]
      refine held_one 7 (by kernel_rfl) rfl rfl rfl (fun K' hK => ?_)
      go_simp
      refine (HC.out _ (HL.out.fr hh0 (by simp) (by simp) (by simp))).mono ?_
      rintro e wq1 ⟨rfl, p', hl5, hsh5, hx5, hgt5, hf5⟩
      have e1 := cell_of_one hl5.o
      have e2 := cell_of_one hl5.h
      have e3 : wq1.cell? ⟨g, i, none⟩ = some (.int .i64 (x : Int)) := by rw [hl5.a.cell i (by rw [hl5.len]; exact hin), hgt5 i hlt, HX.out]
      have e4 := row_free hl5.a i
      unfold headV at e2
      have hS1 : wq1.cell? ⟨bo, 0, none⟩ = some (.slice (some ⟨g, 0, none⟩) n n) ∧ wq1.cell? ⟨bh, 0, none⟩ = some (.func (.func 87) #[] #[.pointer (some ⟨bo, 0, none⟩), .pointer (some ⟨bh, 0, none⟩)]) ∧ wq1.cell? ⟨g, i, none⟩ = some (.int .i64 (x : Int)) := ⟨e1, e2, e3⟩
      refine hK.out _ _ (fun _ => hS1) ?_
      clear hK K'
      try simp only [Act.put]
      refine held_take 8 (v := .pointer (some ⟨g, i, none⟩)) rfl (by kernel_rfl) (by kernel_rfl) (by kernel_rfl) rfl hS1 (fun W' hS => by first | (go_simp; done) | (go_simp; intro hix; omega)) rfl ?_
      simp only [Act.put]
      refine held_one 9 (by kernel_rfl) rfl rfl rfl (fun K' hK => ?_)
      go_simp
      refine hK.out _ _ (fun h => absurd rfl h) ?_
      clear hK K'
      refine held_done (by kernel_rfl) ?_
      have HRX : Hid (R x = R i) := HRT
      have hl6 := hl5.set i (R x)
      have hsh6 : Shrt k p (p'.set i (R x)) R := hsh5.trans (by rw [HRX.out]; exact Shrt.set (by have := hl5.len; have := hl5.a; omega))
      have HL6 := Lib.hid hl6
      have HSH := Lib.hid hsh6
      have hin' : i < p'.length := by rw [hl5.len]; exact hin
      have HI6 : Hid ((p'.set i (R x)).getD i 0 = R i) := Lib.hid (by rw [getD_set _ _ _ _ hin', if_pos rfl, HRX.out])
      have HG6 : Hid (∀ j, i < j → (p'.set i (R x)).getD j 0 = p.getD j 0) := Lib.hid (fun j hj => by rw [getD_set _ _ _ _ hin', if_neg (by omega)]; exact hgt5 j (by omega))
      have HF6 : Hid (Fr [g] w (wq1.setCell ⟨g, i, none⟩ (.int .i64 (R x : Nat)))) := Lib.hid (((Fr.refl [g] w).drew.trans hf5 (by simp)).setCell _ _ (by simp))
      have g1 := cell_of_one hl6.o
      have g2 := hl6.a.cell i (by rw [List.length_set]; exact hin')
      rw [HI6.out] at g2
      generalize p'.set i (R x) = p6 at HL6 HSH HI6 HG6
      clear e1 e2 e3 e4 hS0 hS1 hl5 hl6 hsh5 hsh6 hx5 hgt5 hf5 hc0 hc1 hc2
      go_wp2_with fail
      go_ret
      exact ⟨rfl, p6, HL6.out, HSH.out, HI6.out, HG6.out, HF6.out⟩

theorem enters_unite : ∀ args w, (callFunc 88 args).run Tryz.prog w = .ok (.enter 88 args) w := enters_of Tryz.func88 (by kernel_rfl) rfl
def UnitePost (bo bh g n k i j : Nat) (R : Nat → Nat) (w : World) (e : Ending) (w' : World) : Prop :=
  e = .returned (.tuple #[]) ∧ ∃ p', Lay w' bo bh g n p' ∧ UF k p' (uniR R (R i) (R j)) ∧ Fr [g] w w'
set_option maxRecDepth 100000 in
set_option maxHeartbeats 4000000 in
theorem unite_any (bo bh g n k i j : Nat) (R : Nat → Nat) (p : List Nat) (w : World) (hi : i < k) (hj : j < k) (hL : Lay w bo bh g n p) (hU : UF k p R) :
    Calls Tryz.prog 88 #[.int .i64 (i : Int), .int .i64 (j : Int), .pointer (some ⟨bh, 0, none⟩), .pointer (some ⟨bo, 0, none⟩)] w (UnitePost bo bh g n k i j R w) := by
  have hmx : Tryz.prog.follows .mixedOrders = true := by kernel_rfl
  have hkn : k ≤ n := by have := hU.len; have := hL.len; omega
  have ch := cell_of_one hL.h
  have HL := Lib.hid hL
  have HU := Lib.hid hU
  have hen := enters_head
  unfold headV at ch
  clear hL hU
  go_enter Tryz.func88, Tryz.ntmps88
  go_wp2_with fail
  have hc0 := ch
  have hh0 : Fr [] w w.drew := (Fr.refl [] w).drew
  have hS0 : w.drew.cell? ⟨bh, 0, none⟩ = some (.func (.func 87) #[] #[.pointer (some ⟨bo, 0, none⟩), .pointer (some ⟨bh, 0, none⟩)]) := hh0.cell hc0 (by simp)
  refine region_held 7 (fun W' => W'.cell? ⟨bh, 0, none⟩ = some (.func (.func 87) #[] #[.pointer (some ⟨bo, 0, none⟩), .pointer (some ⟨bh, 0, none⟩)])) hmx ?_
  change Held _ _ _ _ _ _ 8 (Array.replicate 8 false) _ _
  refine held_take 0 (v := .func (.func 87) #[] #[.pointer (some ⟨bo, 0, none⟩), .pointer (some ⟨bh, 0, none⟩)]) rfl (by kernel_rfl) (by kernel_rfl) (by kernel_rfl) rfl hS0 (fun W' hS => by have h1 := hS; go_simp) rfl ?_
  refine held_take 1 (v := .int .i64 (i : Int)) rfl (by kernel_rfl) (by kernel_rfl) (by kernel_rfl) rfl hS0 (fun W' hS => by go_simp) rfl ?_
  refine held_take 3 (v := .func (.func 87) #[] #[.pointer (some ⟨bo, 0, none⟩), .pointer (some ⟨bh, 0, none⟩)]) rfl (by kernel_rfl) (by kernel_rfl) (by kernel_rfl) rfl hS0 (fun W' hS => by have h1 := hS; go_simp) rfl ?_
  refine held_take 4 (v := .int .i64 (j : Int)) rfl (by kernel_rfl) (by kernel_rfl) (by kernel_rfl) rfl hS0 (fun W' hS => by go_simp) rfl ?_
  simp only [Act.put]
  refine held_one 2 (by kernel_rfl) rfl rfl rfl (fun K' hK => ?_)
  go_simp
  refine (head_any bo bh g n k R (i + 1) i p _ (Nat.lt_succ_self _) hi (HL.out.fr hh0 (by simp) (by simp) (by simp)) HU.out).mono ?_
  rintro e wq1 ⟨rfl, p1, hl1, hs1, _, _, hf1⟩
  have HU1 := Lib.hid (HU.out.shrt hs1)
  have e1 := cell_of_one hl1.h
  unfold headV at e1
  have hS1 : wq1.cell? ⟨bh, 0, none⟩ = some (.func (.func 87) #[] #[.pointer (some ⟨bo, 0, none⟩), .pointer (some ⟨bh, 0, none⟩)]) := e1
  refine hK.out _ _ (fun _ => hS1) ?_
  clear hK K'
  try simp only [Act.put]
  refine held_one 5 (by kernel_rfl) rfl rfl rfl (fun K' hK => ?_)
  go_simp
  refine (head_any bo bh g n k R (j + 1) j p1 wq1 (Nat.lt_succ_self _) hj hl1 HU1.out).mono ?_
  rintro e wq2 ⟨rfl, p2, hl2, hs2, _, _, hf2⟩
  have HU2 := Lib.hid (HU1.out.shrt hs2)
  have e2 := cell_of_one hl2.h
  unfold headV at e2
  have hS2 : wq2.cell? ⟨bh, 0, none⟩ = some (.func (.func 87) #[] #[.pointer (some ⟨bo, 0, none⟩), .pointer (some ⟨bh, 0, none⟩)]) := e2
  refine hK.out _ _ (fun _ => hS2) ?_
  clear hK K'
  try simp only [Act.put]
  refine held_take 6 (v := .int .i64 (R i : Int)) rfl (by kernel_rfl) (by kernel_rfl) (by kernel_rfl) rfl hS2 (fun W' hS => by go_simp) rfl ?_
  simp only [Act.put]
  refine held_one 7 (by kernel_rfl) rfl rfl rfl (fun K' hK => ?_)
  go_simp
  refine hK.out _ _ (fun h => absurd rfl h) ?_
  clear hK K'
  refine held_done (by kernel_rfl) ?_
  have hra := HU.out.rle i hi
  have hrb := HU.out.rle j hj
  have HUF : Hid (UF k (p2.set (max (R i) (R j)) (min (R i) (R j))) (uniR R (R i) (R j))) := Lib.hid (HU2.out.unite (by omega) (by omega) (HU.out.rr i hi) (HU.out.rr j hj))
  have HPO : ∀ w', Lay w' bo bh g n (p2.set (max (R i) (R j)) (min (R i) (R j))) → Fr [g] w w' → UnitePost bo bh g n k i j R w (.returned (.tuple #[])) w' := fun w' h1 h2 => ⟨rfl, _, h1, HUF.out, h2⟩
  have HPOST := Lib.hid HPO
  have hf12 : Fr [g] w wq2 := ((Fr.refl [g] w).drew.trans hf1 (by simp)).trans hf2 (by simp)
  clear HPO HUF
  generalize R i = a at hra HPOST ⊢
  generalize R j = b at hrb HPOST ⊢
  obtain ⟨mx, hmx1, hmx2⟩ : ∃ mx : Nat, mx = max a b ∧ max (a : Int) (b : Int) = (mx : Int) := ⟨_, rfl, by omega⟩
  obtain ⟨mn, hmn1, hmn2⟩ : ∃ mn : Nat, mn = min a b ∧ min (a : Int) (b : Int) = (mn : Int) := ⟨_, rfl, by omega⟩
  have hmxn : mx < n := by omega
  rw [← hmx1, ← hmn1] at HPOST
  have d1 := cell_of_one hl2.o
  have d3 := hl2.a.cell mx (by rw [hl2.len]; exact hmxn)
  have d4 := row_free hl2.a mx
  have HL6 := Lib.hid (hl2.set mx mn)
  have HF6 := Lib.hid (hf12.setCell ⟨g, mx, none⟩ (.int .i64 (mn : Int)) (by simp))
  clear hmx1 hmn1 hl1 hl2 hs1 hs2 hf1 hf2 hf12 hS0 hS1 hS2 hc0 e1 e2
  go_wp2_with fail
  go_end0
  exact HPOST.out _ HL6.out HF6.out
end Go.Proofs.YtjddngbgbbbefaaGreatDoor
