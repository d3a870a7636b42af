/-
  foyerlaw18: head.
-/
import Derived.Test.YtmhejcndkplepaaDoorEnB
import Derived.Test.YtmhejcndkplepaaDoorEnD
import Derived.Test.YtmhejcndkplepaaDoorNums
import Derived.Test.YtmhejcndkplepaaDoorTwo
import Derived.Deep.RegionHeld3
namespace Go.Proofs.YtmhejcndkplepaaDoor
open Go.RowKit

def tA : List UInt8 := [97, 110, 110]
def tB : List UInt8 := [98, 111, 98]
def tC : List UInt8 := [99, 97, 114, 108]
def tOk : List UInt8 := [97, 110, 110, 32, 48, 49, 50, 51, 52, 53, 54, 55, 56, 57, 97, 98, 99, 100, 101, 102, 32, 102, 101, 100, 99, 98, 97, 57, 56, 55, 54, 53, 52, 51, 50, 49, 48]
def tNo : List UInt8 := [97, 110, 110, 32, 48, 49, 50, 51, 52, 53, 54, 55, 56, 57, 97, 98, 99, 100, 101, 102, 32, 32, 102, 101, 100, 99, 98, 97, 57, 56, 55, 54, 53, 52, 51, 50, 49, 48]
def tX : List UInt8 := [48, 49, 50, 51, 52, 53, 54, 55, 56, 57, 97, 98, 99, 100, 101, 102]
def tY : List UInt8 := [102, 101, 100, 99, 98, 97, 57, 56, 55, 54, 53, 52, 51, 50, 49, 48]
theorem parse_ok : parseS tOk = (⟨tA, tX, tY⟩, 0) := by decide +kernel
theorem parse_no : parseS tNo = (noE, 4) := by decide +kernel

theorem tAC : tA ≠ tC := by decide
theorem tBC : tB ≠ tC := by decide
theorem tAB : tA ≠ tB := by decide
/-- The classes of the four entries. -/
theorem cls_four (p q r : List UInt8) (hpr : p ≠ r) (hqr : q ≠ r) : Cls [⟨tA, p, p⟩, ⟨tB, q, p⟩, ⟨tA, q, q⟩, ⟨tC, r, r⟩] [0, 0, 0, 3] := by
  have l02 : Lnk [⟨tA, p, p⟩, ⟨tB, q, p⟩, ⟨tA, q, q⟩, ⟨tC, r, r⟩] 0 2 := ⟨_, _, rfl, rfl, Or.inl rfl⟩
  have l12 : Lnk [⟨tA, p, p⟩, ⟨tB, q, p⟩, ⟨tA, q, q⟩, ⟨tC, r, r⟩] 1 2 := ⟨_, _, rfl, rfl, Or.inr rfl⟩
  refine ⟨rfl, fun i hi => ?_, fun i hi => ?_, fun i j hl => ?_⟩
  · match i, hi with
    | 0, _ => decide
    | 1, _ => decide
    | 2, _ => decide
    | 3, _ => decide
  · match i, hi with
    | 0, _ => exact .refl _
    | 1, _ => exact (Conn.one l12).trans (Conn.one l02.symm)
    | 2, _ => exact Conn.one l02.symm
    | 3, _ => exact .refl _
  · have hlt := hl.lt
    obtain ⟨a, b, ha, hb, h⟩ := hl
    simp only [List.length_cons, List.length_nil] at hlt
    have key : ∀ k, k < 3 → ∀ a, ([⟨tA, p, p⟩, ⟨tB, q, p⟩, ⟨tA, q, q⟩, ⟨tC, r, r⟩] : List Ent)[k]? = some a → a.name ≠ tC ∧ a.com ≠ r := by
      intro k hk a ha
      match k, hk with
      | 0, _ => cases ha; exact ⟨tAC, hpr⟩
      | 1, _ => cases ha; exact ⟨tBC, hqr⟩
      | 2, _ => cases ha; exact ⟨tAC, hqr⟩
    have z : ∀ k, k < 3 → ([0, 0, 0, 3] : List Nat).getD k 0 = 0 := by
      intro k hk
      match k, hk with
      | 0, _ => rfl
      | 1, _ => rfl
      | 2, _ => rfl
    rcases Nat.lt_or_ge i 3 with h1 | h1
    · rcases Nat.lt_or_ge j 3 with h2 | h2
      · rw [z i h1, z j h2]
      · obtain rfl : j = 3 := by omega
        cases hb
        have := key i h1 a ha
        rcases h with h | h
        · exact absurd h this.1
        · exact absurd h this.2
    · obtain rfl : i = 3 := by omega
      rcases Nat.lt_or_ge j 3 with h2 | h2
      · cases ha
        have := key j h2 b hb
        rcases h with h | h
        · exact absurd h.symm this.1
        · exact absurd h.symm this.2
      · obtain rfl : j = 3 := by omega
        rfl
theorem cls_three (p q r : List UInt8) (hpq : p ≠ q) (hpr : p ≠ r) (hqr : q ≠ r) : Cls [⟨tA, p, p⟩, ⟨tB, q, p⟩, ⟨tC, r, r⟩] [0, 1, 2] := by
  refine ⟨rfl, fun i hi => ?_, fun i hi => ?_, fun i j hl => ?_⟩
  · match i, hi with
    | 0, _ => decide
    | 1, _ => decide
    | 2, _ => decide
  · match i, hi with
    | 0, _ => exact .refl _
    | 1, _ => exact .refl _
    | 2, _ => exact .refl _
  · have hlt := hl.lt
    simp only [List.length_cons, List.length_nil] at hlt
    have key : ∀ i j, i < j → j < 3 → ¬ Lnk [⟨tA, p, p⟩, ⟨tB, q, p⟩, ⟨tC, r, r⟩] i j := by
      rintro i j h1 h2 ⟨a, b, ha, hb, h⟩
      have : (i = 0 ∧ j = 1) ∨ (i = 0 ∧ j = 2) ∨ (i = 1 ∧ j = 2) := by omega
      rcases this with ⟨rfl, rfl⟩ | ⟨rfl, rfl⟩ | ⟨rfl, rfl⟩
      · cases ha; cases hb; rcases h with h | h; exact absurd h tAB; exact hpq h
      · cases ha; cases hb; rcases h with h | h; exact absurd h tAC; exact hpr h
      · cases ha; cases hb; rcases h with h | h; exact absurd h tBC; exact hqr h
    rcases Nat.lt_trichotomy i j with h | h | h
    · exact absurd hl (key i j h (by omega))
    · rw [h]
    · exact absurd hl.symm (key j i h (by omega))
theorem dsum_pqr : dsum [112] ≠ dsum [113] ∧ dsum [112] ≠ dsum [114] ∧ dsum [113] ≠ dsum [114] := by decide +kernel

theorem pts_list {W : World} {b n : Nat} {cs : Array Value} {t : TypeId} {l : List Pty} (hn : l.length = n) (hsz : n ≤ 1000000) (h : W.heap[b]? = some (.cells cs t (0, 0)))
    (hc : ∀ (i : Nat) (p : Pty), l[i]? = some p → cs[i * 3]? = some (.string ⟨p.name.toArray⟩) ∧ cs[i * 3 + 1]? = some (.string ⟨p.com.toArray⟩) ∧ cs[i * 3 + 2]? = some (.string ⟨p.rev.toArray⟩)) : Pts W (.slice (some ⟨b, 0, none⟩) n n) l := by
  refine Or.inr ⟨b, 0, n, by rw [hn], by omega, by omega, lt_of_block h, fun i p hp => ?_⟩
  obtain ⟨h1, h2, h3⟩ := hc i p hp
  exact ⟨by rw [Nat.zero_add, row_cell h]; exact h1, by rw [Nat.zero_add, row_cell h]; exact h2, by rw [Nat.zero_add, row_cell h]; exact h3⟩

theorem classesN_any (v : Value) (l : List Pty) (o : List Nat) (n : Nat) (w : World) (hv : Pts w v l) (hn : l.length = n) (h5 : n ≤ 100000) (hl : ∀ p ∈ l, p.name.length ≤ 1000000 ∧ p.com.length ≤ 1000000) (ho : Cls l o) :
    Calls Tryd.prog 44 #[v] w fun e w' => ∃ g, e = .returned (.slice (some ⟨g, 0, none⟩) n n) ∧ ArrN w' g o ∧ Below w.heap.size w w' := by
  subst hn
  refine (classes_any v l w hv h5 hl).mono ?_
  rintro e w' ⟨g, o', he, _, ha, hc, hb⟩
  exact ⟨g, he, by rw [ho.unique hc]; exact ha, hb⟩
theorem nums_list {W : World} {b n : Nat} {cs : Array Value} {t : TypeId} {l : List Nat} (hn : l.length = n) (hsz : n ≤ 1000000) (h : W.heap[b]? = some (.cells cs t (0, 0)))
    (hc : ∀ i, i < n → cs[i]? = some (.int .i64 (l.getD i 0 : Nat))) : Nums W (.slice (some ⟨b, 0, none⟩) n n) l :=
  Or.inr ⟨b, 0, n, by rw [hn], by omega, by omega, lt_of_block h, fun i hi => by rw [Nat.zero_add, row_cell h]; exact hc i (by omega)⟩
theorem nums4 {W : World} {b : Nat} {t : TypeId} (h : W.heap[b]? = some (.cells #[.int .i64 0, .int .i64 0, .int .i64 0, .int .i64 3] t (0, 0))) : Nums W (.slice (some ⟨b, 0, none⟩) 4 4) [0, 0, 0, 3] :=
  nums_list rfl (by decide) h (fun i hi => by
    match i, hi with
    | 0, _ => rfl
    | 1, _ => rfl
    | 2, _ => rfl
    | 3, _ => rfl)
theorem nums3 {W : World} {b : Nat} {t : TypeId} (h : W.heap[b]? = some (.cells #[.int .i64 0, .int .i64 1, .int .i64 2] t (0, 0))) : Nums W (.slice (some ⟨b, 0, none⟩) 3 3) [0, 1, 2] :=
  nums_list rfl (by decide) h (fun i hi => by
    match i, hi with
    | 0, _ => rfl
    | 1, _ => rfl
    | 2, _ => rfl)
theorem pts3 {W : World} {b : Nat} {t : TypeId} {p q r : List UInt8} (h : W.heap[b]? = some (.cells #[.string ⟨#[97, 110, 110]⟩, .string ⟨p.toArray⟩, .string ⟨p.toArray⟩, .string ⟨#[98, 111, 98]⟩, .string ⟨q.toArray⟩, .string ⟨p.toArray⟩, .string ⟨#[99, 97, 114, 108]⟩, .string ⟨r.toArray⟩, .string ⟨r.toArray⟩] t (0, 0))) :
    Pts W (.slice (some ⟨b, 0, none⟩) 3 3) [⟨tA, p, p⟩, ⟨tB, q, p⟩, ⟨tC, r, r⟩] :=
  pts_list rfl (by decide) h (fun i p hp => by
    match i, hp with
    | 0, hp => cases hp; exact ⟨rfl, rfl, rfl⟩
    | 1, hp => cases hp; exact ⟨rfl, rfl, rfl⟩
    | 2, hp => cases hp; exact ⟨rfl, rfl, rfl⟩
    | i + 3, hp => simp at hp)

set_option maxRecDepth 100000 in
set_option maxHeartbeats 8000000 in
theorem head18_any (w : World) (hT : TabsM w) :
    Calls Tryd.prog 33 #[] w fun e w' => e = .returned (.bool true) ∧ Below w.heap.size w w' := by
  have hmx : Tryd.prog.follows .mixedOrders = true := by kernel_rfl
  have HT := Lib.hid hT
  clear hT
  obtain ⟨p, ep⟩ : ∃ p, p = dsum [112] := ⟨_, rfl⟩
  obtain ⟨q, eq⟩ : ∃ q, q = dsum [113] := ⟨_, rfl⟩
  obtain ⟨r, er⟩ : ∃ r, r = dsum [114] := ⟨_, rfl⟩
  have HNE : Hid (p ≠ q ∧ p ≠ r ∧ q ≠ r) := Lib.hid (by rw [ep, eq, er]; exact dsum_pqr)
  have HP16 : Hid (p.length ≤ 1000000 ∧ q.length ≤ 1000000 ∧ r.length ≤ 1000000) := Lib.hid (by rw [ep, eq, er, dsum_length, dsum_length, dsum_length]; decide)
  have HEP := Lib.hid ep
  have HEQ := Lib.hid eq
  have HER := Lib.hid er
  clear ep eq er
  go_enter Tryd.func33, Tryd.ntmps33
  go_wp2_with fail
  refine (sum_any ⟨#[112]⟩ w (by decide) (HT.out.t.hex)).mono ?_
  rintro e w1 ⟨rfl, hb1⟩
  have hf1 : Fr [] w w1 := (Fr.refl [] w).below hb1 (Nat.le_refl _)
  rw [show dsum (ByteArray.mk #[112]).data.toList = p from HEP.out.symm]
  go_wp2_with fail
  refine (sum_any ⟨#[113]⟩ w1 (by decide) ((HT.out.fr hf1).t.hex)).mono ?_
  rintro e w2 ⟨rfl, hb2⟩
  have hf2 : Fr [] w w2 := hf1.below hb2 hf1.size
  rw [show dsum (ByteArray.mk #[113]).data.toList = q from HEQ.out.symm]
  go_wp2_with fail
  refine (sum_any ⟨#[114]⟩ w2 (by decide) ((HT.out.fr hf2).t.hex)).mono ?_
  rintro e w3 ⟨rfl, hb3⟩
  have hf3 : Fr [] w w3 := hf2.below hb3 hf2.size
  rw [show dsum (ByteArray.mk #[114]).data.toList = r from HER.out.symm]
  clear hb1 hb2 hb3 hf1 hf2
  go_wp2_with fail
  obtain ⟨w4, hw4⟩ : ∃ w4, w4 = w3.alloc (.cells #[.string ⟨#[97, 110, 110]⟩, .string ⟨p.toArray⟩, .string ⟨p.toArray⟩, .string ⟨#[98, 111, 98]⟩, .string ⟨q.toArray⟩, .string ⟨p.toArray⟩, .string ⟨#[97, 110, 110]⟩, .string ⟨q.toArray⟩, .string ⟨q.toArray⟩, .string ⟨#[99, 97, 114, 108]⟩, .string ⟨r.toArray⟩, .string ⟨r.toArray⟩] 55) := ⟨_, rfl⟩
  have hbk : w4.heap[w3.heap.size]? = some (.cells #[.string ⟨#[97, 110, 110]⟩, .string ⟨p.toArray⟩, .string ⟨p.toArray⟩, .string ⟨#[98, 111, 98]⟩, .string ⟨q.toArray⟩, .string ⟨p.toArray⟩, .string ⟨#[97, 110, 110]⟩, .string ⟨q.toArray⟩, .string ⟨q.toArray⟩, .string ⟨#[99, 97, 114, 108]⟩, .string ⟨r.toArray⟩, .string ⟨r.toArray⟩] 55 (0, 0)) := by rw [hw4]; exact heap_new rfl
  have hf4 : Fr [] w w4 := by rw [hw4]; exact hf3.alloc _
  rw [← hw4]
  have HBK := Lib.hid hbk
  clear hw4 hbk hf3
  generalize w3.heap.size = be at HBK ⊢
  refine (parse_any tOk w4 (by decide) (HT.out.fr hf4)).mono ?_
  rintro e w5 ⟨rfl, hb5⟩
  have hf45 : Fr [] w4 w5 := Fr.ofBelow hb5
  rw [parse_ok]
  unfold ptyV
  go_wp2_with fail
  have ha5 : (w5.alloc (.cells #[.string ⟨tA.toArray⟩, .string ⟨tX.toArray⟩, .string ⟨tY.toArray⟩] 55)).heap[w5.heap.size]? = some (.cells #[.string ⟨tA.toArray⟩, .string ⟨tX.toArray⟩, .string ⟨tY.toArray⟩] 55 (0, 0)) := heap_new rfl
  have hf6 : Fr [] w4 (w5.alloc (.cells #[.string ⟨tA.toArray⟩, .string ⟨tX.toArray⟩, .string ⟨tY.toArray⟩] 55)) := hf45.alloc _
  generalize w5.alloc (.cells #[.string ⟨tA.toArray⟩, .string ⟨tX.toArray⟩, .string ⟨tY.toArray⟩] 55) = w6 at ha5 hf6 ⊢
  generalize w5.heap.size = b5 at ha5 ⊢
  refine (parse_any tNo w6 (by decide) (HT.out.fr (hf4.trans hf6 (by simp)))).mono ?_
  rintro e w7 ⟨rfl, hb7⟩
  have hf67 : Fr [] w6 w7 := Fr.ofBelow hb7
  rw [parse_no]
  unfold ptyV noE
  have hf8 : Fr [] w6 (w7.alloc (.cells #[.string ⟨#[]⟩, .string ⟨#[]⟩, .string ⟨#[]⟩] 55)) := hf67.alloc _
  have HBK8 := Lib.hid ((hf6.trans hf8 (by simp)).at HBK.out (by simp))
  have HA8 := Lib.hid (hf8.at ha5 (by simp))
  have hw8 : Fr [] w (w7.alloc (.cells #[.string ⟨#[]⟩, .string ⟨#[]⟩, .string ⟨#[]⟩] 55)) := hf4.trans (hf6.trans hf8 (by simp)) (by simp)
  clear hb5 hb7 hf45 hf6 hf67 hf8 ha5 hf4
  go_wp2_with fail
  generalize w7.alloc (.cells #[.string ⟨#[]⟩, .string ⟨#[]⟩, .string ⟨#[]⟩] 55) = w8 at HBK8 HA8 hw8 ⊢
  have HP4 : Hid (Pts w8 (.slice (some ⟨be, 0, none⟩) 4 4) [⟨tA, p, p⟩, ⟨tB, q, p⟩, ⟨tA, q, q⟩, ⟨tC, r, r⟩]) := Lib.hid (pts_list rfl (by decide) HBK8.out (fun i p hp => by
    match i, hp with
    | 0, hp => cases hp; exact ⟨rfl, rfl, rfl⟩
    | 1, hp => cases hp; exact ⟨rfl, rfl, rfl⟩
    | 2, hp => cases hp; exact ⟨rfl, rfl, rfl⟩
    | 3, hp => cases hp; exact ⟨rfl, rfl, rfl⟩
    | i + 4, hp => simp at hp))
  have HC4 := Lib.hid (cls_four p q r HNE.out.2.1 HNE.out.2.2)
  have HC3 := Lib.hid (cls_three p q r HNE.out.1 HNE.out.2.1 HNE.out.2.2)
  have HL4 : Hid (∀ e ∈ ([⟨tA, p, p⟩, ⟨tB, q, p⟩, ⟨tA, q, q⟩, ⟨tC, r, r⟩] : List Pty), e.name.length ≤ 1000000 ∧ e.com.length ≤ 1000000) := Lib.hid (fun e he => by
    obtain ⟨h1, h2, h3⟩ := HP16.out
    simp only [List.mem_cons, List.not_mem_nil, or_false] at he
    rcases he with rfl | rfl | rfl | rfl
    · exact ⟨by show (3 : Nat) ≤ _; decide, h1⟩
    · exact ⟨by show (3 : Nat) ≤ _; decide, h2⟩
    · exact ⟨by show (3 : Nat) ≤ _; decide, h2⟩
    · exact ⟨by show (4 : Nat) ≤ _; decide, h3⟩)
  have HL3 : Hid (∀ e ∈ ([⟨tA, p, p⟩, ⟨tB, q, p⟩, ⟨tC, r, r⟩] : List Pty), e.name.length ≤ 1000000 ∧ e.com.length ≤ 1000000) := Lib.hid (fun e he => HL4.out e (by
    simp only [List.mem_cons, List.not_mem_nil, or_false] at he ⊢
    rcases he with h | h | h
    · exact Or.inl h
    · exact Or.inr (Or.inl h)
    · exact Or.inr (Or.inr (Or.inr h))))
  have e00 : w8.cell? ⟨be, 0, none⟩ = some (.string ⟨#[97, 110, 110]⟩) := by rw [row_cell HBK8.out]; rfl
  have e01 : w8.cell? ⟨be, 1, none⟩ = some (.string ⟨p.toArray⟩) := by rw [row_cell HBK8.out]; rfl
  have e02 : w8.cell? ⟨be, 2, none⟩ = some (.string ⟨p.toArray⟩) := by rw [row_cell HBK8.out]; rfl
  have e03 : w8.cell? ⟨be, 3, none⟩ = some (.string ⟨#[98, 111, 98]⟩) := by rw [row_cell HBK8.out]; rfl
  have e04 : w8.cell? ⟨be, 4, none⟩ = some (.string ⟨q.toArray⟩) := by rw [row_cell HBK8.out]; rfl
  have e05 : w8.cell? ⟨be, 5, none⟩ = some (.string ⟨p.toArray⟩) := by rw [row_cell HBK8.out]; rfl
  have e09 : w8.cell? ⟨be, 9, none⟩ = some (.string ⟨#[99, 97, 114, 108]⟩) := by rw [row_cell HBK8.out]; rfl
  have e10 : w8.cell? ⟨be, 10, none⟩ = some (.string ⟨r.toArray⟩) := by rw [row_cell HBK8.out]; rfl
  have e11 : w8.cell? ⟨be, 11, none⟩ = some (.string ⟨r.toArray⟩) := by rw [row_cell HBK8.out]; rfl
  have hd : Fr [] w8 w8.drew := (Fr.refl [] w8).drew
  have hda : ∀ o, Fr [] w8 (w8.alloc o).drew := fun o => ((Fr.refl [] w8).alloc o).drew
  have HA4 : Hid (∀ W, Fr [] w8 W → Calls Tryd.prog 44 #[.slice (some ⟨be, 0, none⟩) 4 4] W fun e w' => ∃ g, e = .returned (.slice (some ⟨g, 0, none⟩) 4 4) ∧ ArrN w' g [0, 0, 0, 3] ∧ Below W.heap.size W w') :=
    Lib.hid (fun W h => classesN_any _ [⟨tA, p, p⟩, ⟨tB, q, p⟩, ⟨tA, q, q⟩, ⟨tC, r, r⟩] [0, 0, 0, 3] 4 W (HP4.out.fr h) rfl (by decide) HL4.out HC4.out)
  have HA3 : Hid (∀ b W, Pts W (.slice (some ⟨b, 0, none⟩) 3 3) [⟨tA, p, p⟩, ⟨tB, q, p⟩, ⟨tC, r, r⟩] → Calls Tryd.prog 44 #[.slice (some ⟨b, 0, none⟩) 3 3] W fun e w' => ∃ g, e = .returned (.slice (some ⟨g, 0, none⟩) 3 3) ∧ ArrN w' g [0, 1, 2] ∧ Below W.heap.size W w') :=
    Lib.hid (fun b W h => classesN_any _ [⟨tA, p, p⟩, ⟨tB, q, p⟩, ⟨tC, r, r⟩] [0, 1, 2] 3 W h rfl (by decide) HL3.out HC3.out)
  have HI4 : Hid (∀ a b W, Nums W (.slice (some ⟨a, 0, none⟩) 4 4) [0, 0, 0, 3] → Nums W (.slice (some ⟨b, 0, none⟩) 4 4) [0, 0, 0, 3] → Calls Tryd.prog 43 #[.slice (some ⟨a, 0, none⟩) 4 4, .slice (some ⟨b, 0, none⟩) 4 4] W fun e w' => e = .returned (.bool true) ∧ Below W.heap.size W w') :=
    Lib.hid (fun a b W h1 h2 => (ints_any _ _ _ _ W h1 h2).mono fun e w' ⟨he, hb⟩ => ⟨by rw [he, decide_eq_true (rfl : ([0, 0, 0, 3] : List Nat) = [0, 0, 0, 3])], hb⟩)
  have HI3 : Hid (∀ a b W, Nums W (.slice (some ⟨a, 0, none⟩) 3 3) [0, 1, 2] → Nums W (.slice (some ⟨b, 0, none⟩) 3 3) [0, 1, 2] → Calls Tryd.prog 43 #[.slice (some ⟨a, 0, none⟩) 3 3, .slice (some ⟨b, 0, none⟩) 3 3] W fun e w' => e = .returned (.bool true) ∧ Below W.heap.size W w') :=
    Lib.hid (fun a b W h1 h2 => (ints_any _ _ _ _ W h1 h2).mono fun e w' ⟨he, hb⟩ => ⟨by rw [he, decide_eq_true (rfl : ([0, 1, 2] : List Nat) = [0, 1, 2])], hb⟩)
  have HN4 : Hid (∀ g W, ArrN W g [0, 0, 0, 3] → Nums W (.slice (some ⟨g, 0, none⟩) 4 4) [0, 0, 0, 3]) := Lib.hid (fun g W h => h.nums rfl (by decide))
  have HN3 : Hid (∀ g W, ArrN W g [0, 1, 2] → Nums W (.slice (some ⟨g, 0, none⟩) 3 3) [0, 1, 2]) := Lib.hid (fun g W h => h.nums rfl (by decide))
  have HS9 : Hid (∀ W, Fr [] w8 W → (W.cell? ⟨be, 0, none⟩ = some (.string ⟨#[97, 110, 110]⟩) ∧ W.cell? ⟨be, 1, none⟩ = some (.string ⟨p.toArray⟩) ∧ W.cell? ⟨be, 2, none⟩ = some (.string ⟨p.toArray⟩) ∧ W.cell? ⟨be, 3, none⟩ = some (.string ⟨#[98, 111, 98]⟩) ∧ W.cell? ⟨be, 4, none⟩ = some (.string ⟨q.toArray⟩) ∧ W.cell? ⟨be, 5, none⟩ = some (.string ⟨p.toArray⟩) ∧ W.cell? ⟨be, 9, none⟩ = some (.string ⟨#[99, 97, 114, 108]⟩) ∧ W.cell? ⟨be, 10, none⟩ = some (.string ⟨r.toArray⟩) ∧ W.cell? ⟨be, 11, none⟩ = some (.string ⟨r.toArray⟩))) := Lib.hid (fun W h => ⟨h.cell e00 (by simp), h.cell e01 (by simp), h.cell e02 (by simp), h.cell e03 (by simp), h.cell e04 (by simp), h.cell e05 (by simp), h.cell e09 (by simp), h.cell e10 (by simp), h.cell e11 (by simp)⟩)
  go_region_held3 (fun W => W.cell? ⟨be, 0, none⟩ = some (.string ⟨#[97, 110, 110]⟩) ∧ W.cell? ⟨be, 1, none⟩ = some (.string ⟨p.toArray⟩) ∧ W.cell? ⟨be, 2, none⟩ = some (.string ⟨p.toArray⟩) ∧ W.cell? ⟨be, 3, none⟩ = some (.string ⟨#[98, 111, 98]⟩) ∧ W.cell? ⟨be, 4, none⟩ = some (.string ⟨q.toArray⟩) ∧ W.cell? ⟨be, 5, none⟩ = some (.string ⟨p.toArray⟩) ∧ W.cell? ⟨be, 9, none⟩ = some (.string ⟨#[99, 97, 114, 108]⟩) ∧ W.cell? ⟨be, 10, none⟩ = some (.string ⟨r.toArray⟩) ∧ W.cell? ⟨be, 11, none⟩ = some (.string ⟨r.toArray⟩))
    (with_reducible (first | exact HS9.out _ hz | exact HS9.out _ hF3 | exact HS9.out _ (hF3.alloc _) | exact HS9.out _ hF2 | exact HS9.out _ (hF2.alloc _) | exact HS9.out _ ((hF2.alloc _).alloc _) | exact HS9.out _ hF1 | exact HS9.out _ (hF1.alloc _) | exact HS9.out _ (hda _) | exact HS9.out _ hd))
    ((first
      | ((with_reducible refine (HA4.out _ (by first | exact hd | exact hda _)).mono ?_)
         rintro e W1 ⟨g1, rfl, ha1, hb1⟩
         have hF1 : Fr [] w8 W1 := by first | exact hd.below hb1 hd.size | exact (hda _).below hb1 (hda _).size
         have hn1 := HN4.out g1 W1 ha1
         try (have hli : Nums W1 (.slice (some ⟨w8.heap.size, 0, none⟩) 4 4) [0, 0, 0, 3] := Nums.fr0 (nums4 (heap_drew (heap_new (w := w8) rfl))) (Fr.ofBelow hb1)))
      | ((with_reducible refine (HI4.out _ _ _ (by first | exact hn1 | exact hn1.fr0 ((Fr.refl [] W1).alloc _)) (by first | exact hli | exact nums4 (heap_new rfl))).mono ?_)
         rintro e W2 ⟨rfl, hb2⟩
         have hF2 : Fr [] w8 W2 := by first | exact hF1.below hb2 hF1.size | exact (hF1.alloc _).below hb2 (hF1.alloc _).size)
      | ((with_reducible refine (HA3.out _ _ (by first | exact pts3 (heap_new rfl) | exact pts3 (heap_new (by simp)) | exact pts3 (heap_past _ (heap_new rfl)))).mono ?_)
         rintro e W3 ⟨g3, rfl, ha3, hb3⟩
         have hF3 : Fr [] w8 W3 := by first | exact (hF2.alloc _).below hb3 (hF2.alloc _).size | exact ((hF2.alloc _).alloc _).below hb3 ((hF2.alloc _).alloc _).size
         have hn3 := HN3.out g3 W3 ha3
         try (have hlj : Nums W3 (.slice (some ⟨W2.heap.size, 0, none⟩) 3 3) [0, 1, 2] := Nums.fr0 (nums3 (heap_past _ (heap_new (w := W2) rfl))) (Fr.ofBelow hb3))
         try (have hlk : Nums W3 (.slice (some ⟨W2.heap.size + 1, 0, none⟩) 3 3) [0, 1, 2] := Nums.fr0 (nums3 (heap_new (w := W2.alloc _) (by simp))) (Fr.ofBelow hb3)))
      | ((with_reducible refine (HI3.out _ _ _ (by first | exact hn3 | exact hn3.fr0 ((Fr.refl [] W3).alloc _)) (by first | exact hlj | exact hlk | exact nums3 (heap_new rfl))).mono ?_)
         rintro e wz ⟨rfl, hbz⟩
         have hz : Fr [] w8 wz := by first | exact hF3.below hbz hF3.size | exact (hF3.alloc _).below hbz (hF3.alloc _).size)))
  all_goals
    have hy0 := hz.at HA8.out (by simp)
    have x0 : wz.cell? ⟨b5, 0, none⟩ = some (.string ⟨#[97, 110, 110]⟩) := (three_cells hy0).1
    have x1 : wz.cell? ⟨b5, 1, none⟩ = some (.string ⟨#[48, 49, 50, 51, 52, 53, 54, 55, 56, 57, 97, 98, 99, 100, 101, 102]⟩) := (three_cells hy0).2.1
    have x2 : wz.cell? ⟨b5, 2, none⟩ = some (.string ⟨#[102, 101, 100, 99, 98, 97, 57, 56, 55, 54, 53, 52, 51, 50, 49, 48]⟩) := (three_cells hy0).2.2
    have hwz : Fr [] w wz := hw8.trans hz (by simp)
    clear hy0 e00 e01 e02 e03 e04 e05 e09 e10 e11 hda hd
    go_wp2_with fail
    refine (commit_any [97] [98] wz (by decide) (by decide) (HT.out.fr hwz).t).mono ?_
    rintro e wy ⟨rfl, hby⟩
    have hwy : Fr [] w wy := hwz.below hby hwz.size
    have HD : Hid ((dlist [[97], [98]] == dlist [[97], [98]]) = true) := Lib.hid (by simp)
    clear hby x0 x1 x2
    go_wp2_with fail
    refine (list_any _ [[97], [98]] _ (strs_two (heap_new rfl)) (two_joinE _ _ (by decide) (by decide)) (HT.out.fr (hwy.alloc _)).t).mono ?_
    rintro e wx ⟨rfl, hbx⟩
    have hwx : Fr [] w wx := (hwy.alloc _).below hbx (hwy.alloc _).size
    have hD := HD.out
    generalize dlist [[97], [98]] = D at hD ⊢
    clear hbx
    go_wp2_with fail
    go_ret
    exact ⟨rfl, hwx.toBelow (by simp)⟩
end Go.Proofs.YtmhejcndkplepaaDoor
