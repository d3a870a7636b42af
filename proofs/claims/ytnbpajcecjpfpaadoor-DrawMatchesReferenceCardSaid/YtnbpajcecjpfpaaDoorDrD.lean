/-
  foyerref01.Ints; foyerlaw19: head.
-/
import Derived.Test.YtnbpajcecjpfpaaDoorDrC
import Derived.Test.YtnbpajcecjpfpaaDoorTwo
import Derived.Test.YtnbpajcecjpfpaaDoorRefG
namespace Go.Proofs.YtnbpajcecjpfpaaDoor
open Go.RowKit

/-- A slice of numbers. -/
def Nums (w : World) (v : Value) (l : List Nat) : Prop :=
  (v = .slice none 0 0 ∧ l = []) ∨ ∃ b off cap, v = .slice (some ⟨b, off, none⟩) l.length cap ∧ l.length ≤ cap ∧ cap ≤ 9223372036854775807 ∧ b < w.heap.size ∧
    ∀ i, i < l.length → w.cell? ⟨b, off + i, none⟩ = some (.int .i64 (l.getD i 0 : Nat))
theorem Nums.fr0 {w w' : World} {v : Value} {l : List Nat} (h : Nums w v l) (hf : Fr [] w w') : Nums w' v l := by
  rcases h with h | ⟨b, off, cap, hv, h1, h2, h3, h4⟩
  · exact Or.inl h
  · exact Or.inr ⟨b, off, cap, hv, h1, h2, Nat.lt_of_lt_of_le h3 hf.size, fun i hi => hf.cell (h4 i hi) (by simp)⟩
theorem Nums.form {w : World} {v : Value} {l : List Nat} (h : Nums w v l) : ∃ a cap, v = .slice a l.length cap ∧ l.length ≤ 9223372036854775807 ∧ (∀ i, i < l.length → ∃ b off, a = some ⟨b, off, none⟩) := by
  rcases h with ⟨rfl, rfl⟩ | ⟨b, off, cap, hv, h1, h2, h3, h4⟩
  · exact ⟨none, 0, rfl, by simp, fun i hi => by simp at hi⟩
  · exact ⟨_, cap, hv, by omega, fun i _ => ⟨b, off, rfl⟩⟩
theorem Nums.cell {w : World} {b off cap : Nat} {l : List Nat} (h : Nums w (.slice (some ⟨b, off, none⟩) l.length cap) l) (k : Nat) (hk : k < l.length) : w.cell? ⟨b, off + k, none⟩ = some (.int .i64 (l.getD k 0 : Nat)) := by
  rcases h with ⟨h, _⟩ | ⟨b', off', cap', hv, _, _, _, h4⟩
  · cases h
  · cases hv; exact h4 k hk
theorem ArrN.nums {w : World} {g n : Nat} {l : List Nat} (h : ArrN w g l) (hl : l.length = n) (hn : n ≤ 9223372036854775807) : Nums w (.slice (some ⟨g, 0, none⟩) n n) l :=
  Or.inr ⟨g, 0, n, by rw [hl], by omega, hn, lt_of_block h, fun i hi => by rw [Nat.zero_add]; exact h.cell i hi⟩

set_option maxRecDepth 100000 in
set_option maxHeartbeats 1000000 in
theorem ints_any (av bv : Value) (la lb : List Nat) (w : World) (ha : Nums w av la) (hb : Nums w bv lb) :
    Calls Tryd.prog 15 #[av, bv] w fun e w' => e = .returned (.bool (decide (la = lb))) ∧ Below w.heap.size w w' := by
  have hmx : Tryd.prog.follows .mixedOrders = true := by kernel_rfl
  have HA := Lib.hid ha
  have HB := Lib.hid hb
  obtain ⟨aa, acap, rfl, hla, hfa⟩ := ha.form
  obtain ⟨ab, bcap, rfl, hlb, hfb⟩ := hb.form
  clear ha hb
  by_cases hlen : la.length = lb.length
  · have t1 : ((la.length : Int) != (lb.length : Int)) = false := by rw [hlen]; simp
    have HLEN := Lib.hid hlen
    clear hlen
    go_enter Tryd.func15, Tryd.ntmps15
    go_wp2_with fail
    go_loopg [5] (la.length + 1) (fun g i wr => ∃ k : Nat, k ≤ la.length ∧ g = la.length + 1 - k ∧ i = .int .i64 (k : Int) ∧ la.take k = lb.take k ∧ Fr [] w wr)
    case atStart => exact ⟨0, by omega, by omega, rfl, by simp, Fr.refl _ _⟩
    case round =>
      obtain ⟨k, hk, hg, rfl, heq, hfr⟩ := hrel
      have HG := Lib.hid hg
      have HEQ := Lib.hid heq
      clear hg heq
      by_cases hlt : k < la.length
      · have hltb : k < lb.length := by have := HLEN.out; omega
        obtain ⟨ba, offa, rfl⟩ := hfa k hlt
        obtain ⟨bb, offb, rfl⟩ := hfb k hltb
        have hca := (HA.out.fr0 hfr).cell k hlt
        have hcb := (HB.out.fr0 hfr).cell k hltb
        have HSA := Lib.hid (take_snoc' la k 0 hlt)
        have HSB := Lib.hid (take_snoc' lb k 0 hltb)
        have t2 : decide ((k : Int) < (la.length : Int)) = true := by simp; omega
        have HGA : Hid (la.getD k 0 ≠ lb.getD k 0 → la ≠ lb) := fun h h' => h (by rw [h'])
        generalize la.getD k 0 = x at hca HSA HGA
        generalize lb.getD k 0 = y at hcb HSB HGA
        by_cases hxy : x = y
        · have t3 : ((x : Int) != (y : Int)) = false := by rw [hxy]; simp
          have t4 : ((x : Int) == (y : Int)) = true := by rw [hxy]; simp
          have HXY := Lib.hid hxy
          clear hxy
          go_wp2_with fail
          go_quiet (fail)
          go_wp2_with fail
          go_roundg (la.length + 1 - (k + 1))
          case measure => have := HG.out; omega
          case rel => exact ⟨k + 1, by omega, rfl, by go_num, by rw [HSA.out, HSB.out, HEQ.out, HXY.out], hfr.drewN _⟩
        · have t3 : ((x : Int) != (y : Int)) = true := by simp; omega
          have t4 : ((x : Int) == (y : Int)) = false := by simp; omega
          have HXY := Lib.hid hxy
          clear hxy
          go_wp2_with fail
          go_quiet (fail)
          go_wp2_with fail
          go_ret
          have hne : decide (la = lb) = false := decide_eq_false (HGA.out HXY.out)
          exact ⟨by rw [hne]; rfl, (hfr.drewN _).toBelow (by simp)⟩
      · obtain rfl : k = la.length := by omega
        have t2 : decide ((la.length : Int) < (la.length : Int)) = false := by simp
        have HE : Hid (la = lb) := by
          have := HEQ.out
          rw [List.take_length, List.take_of_length_le (by have := HLEN.out; omega)] at this
          exact this
        go_wp2_with fail
        go_ret
        exact ⟨by rw [decide_eq_true HE.out]; rfl, hfr.toBelow (by simp)⟩
  · have t1 : ((la.length : Int) != (lb.length : Int)) = true := by simp; omega
    have HLEN := Lib.hid hlen
    clear hlen
    go_enter Tryd.func15, Tryd.ntmps15
    go_wp2_with fail
    go_ret
    have hne : decide (la = lb) = false := decide_eq_false (fun h => HLEN.out (by rw [h]))
    exact ⟨by rw [hne]; rfl, Below.refl _ _⟩

/-- What follows, proved once, for both ways that lead there. -/
theorem held_key2 {P : Program} {md : Region.Mode} {ops : Array Oper} {Q : Exit → Act → World → Prop} {S : World → Prop} {m : Nat} {fuel fuel' : Nat} {listed : Array Bool} {a : Act} {w : World} (d1 d2 : Nat) (listed' : Array Bool) (R : Value → Value → World → Prop)
    (key : (∀ x y w', R x y w' → Held P md ops (OnlyNormal Q) S m fuel' listed' ((a.put (some d1) x).put (some d2) y) w') → Held P md ops (OnlyNormal Q) S m fuel listed a w)
    (h : ∀ x y w', R x y w' → Held P md ops (OnlyNormal Q) S m fuel' listed' ((a.put (some d1) x).put (some d2) y) w') : Held P md ops (OnlyNormal Q) S m fuel listed a w := key h
theorem pInfoD : (Tryd.prog.info? 27).map (fun i => (i.zero, i.size, i.bytes)) = some (some (.agg #[.string ⟨#[]⟩, .string ⟨#[]⟩, .string ⟨#[]⟩]), 3, 48) := by kernel_rfl
theorem seed_big (a : Option Addr) (n cap : Nat) (root : List UInt8) (w : World) (hn : 16 < n) :
    Calls Tryd.prog 13 #[.slice a n cap, .string ⟨root.toArray⟩] w fun e w' => e = .returned (.tuple #[.string ⟨#[]⟩, .int .i64 3]) ∧ Below w.heap.size w w' := by
  have t1 : decide ((16 : Int) < (n : Int)) = true := by simp; omega
  go_enter Tryd.func13, Tryd.ntmps13
  go_wp2_with fail
  go_ret2
  exact ⟨rfl, Below.refl _ _⟩
theorem pts_one {W : World} {b : Nat} {x y z : List UInt8} {t : TypeId} (h : W.heap[b]? = some (.cells #[.string ⟨x.toArray⟩, .string ⟨y.toArray⟩, .string ⟨z.toArray⟩] t (0, 0))) : Pts W (.slice (some ⟨b, 0, none⟩) 1 1) [⟨x, y, z⟩] := by
  refine Or.inr ⟨b, 0, 1, rfl, by simp, by decide, lt_of_block h, fun i p hp => ?_⟩
  match i, hp with
  | 0, hp =>
    cases hp
    exact ⟨by rw [row_cell h]; rfl, by rw [row_cell h]; rfl, by rw [row_cell h]; rfl⟩
  | i + 1, hp => simp at hp
theorem pts_two {W : World} {b : Nat} {x y z x' y' z' : List UInt8} {t : TypeId} (h : W.heap[b]? = some (.cells #[.string ⟨x.toArray⟩, .string ⟨y.toArray⟩, .string ⟨z.toArray⟩, .string ⟨x'.toArray⟩, .string ⟨y'.toArray⟩, .string ⟨z'.toArray⟩] t (0, 0))) : Pts W (.slice (some ⟨b, 0, none⟩) 2 2) [⟨x, y, z⟩, ⟨x', y', z'⟩] := by
  refine Or.inr ⟨b, 0, 2, rfl, by simp, by decide, lt_of_block h, fun i p hp => ?_⟩
  match i, hp with
  | 0, hp =>
    cases hp
    exact ⟨by rw [row_cell h]; rfl, by rw [row_cell h]; rfl, by rw [row_cell h]; rfl⟩
  | 1, hp =>
    cases hp
    exact ⟨by rw [row_cell h]; rfl, by rw [row_cell h]; rfl, by rw [row_cell h]; rfl⟩
  | i + 2, hp => simp at hp
def tAnn : List UInt8 := [97, 110, 110]
def tRed : List UInt8 := [114, 101, 100]
def tBlue : List UInt8 := [98, 108, 117, 101]
def tRoot : List UInt8 := [114, 111, 111, 116]
set_option maxRecDepth 100000 in
set_option maxHeartbeats 2000000 in
theorem head19_any (w : World) (hT : Tabs w) :
    Calls Tryd.prog 9 #[] w fun e w' => e = .returned (.bool true) ∧ Below w.heap.size w w' := by
  have hmx : Tryd.prog.follows .mixedOrders = true := by kernel_rfl
  have HT := Lib.hid hT
  clear hT
  go_enter Tryd.func9, Tryd.ntmps9
  go_wp2_with fail
  refine (list_any _ [tAnn, tRed] _ (strs_two (heap_new rfl)) (two_join _ _ (by decide) (by decide)) (HT.out.fr ((Fr.refl [] w).alloc _))).mono ?_
  rintro e w1 ⟨rfl, hb1⟩
  have hf1 : Fr [] w w1 := ((Fr.refl [] w).alloc _).below hb1 ((Fr.refl [] w).alloc _).size
  obtain ⟨C, hC⟩ : ∃ C, C = dlist [tAnn, tRed] := ⟨_, rfl⟩
  rw [← hC]
  have HC := Lib.hid hC
  clear hC hb1
  go_wp2_with fail
  have r1 : ((w1.alloc (.cells #[.string ⟨#[97, 110, 110]⟩, .string ⟨C.toArray⟩, .string ⟨#[114, 101, 100]⟩] 27)).alloc (.cells #[.string ⟨#[97, 110, 110]⟩, .string ⟨C.toArray⟩, .string ⟨#[98, 108, 117, 101]⟩] 27)).heap[w1.heap.size]? = _ := heap_past _ (heap_new rfl)
  have r2 : ((w1.alloc (.cells #[.string ⟨#[97, 110, 110]⟩, .string ⟨C.toArray⟩, .string ⟨#[114, 101, 100]⟩] 27)).alloc (.cells #[.string ⟨#[97, 110, 110]⟩, .string ⟨C.toArray⟩, .string ⟨#[98, 108, 117, 101]⟩] 27)).heap[w1.heap.size + 1]? = _ := heap_new (by simp)
  have hfu : Fr [] w ((w1.alloc (.cells #[.string ⟨#[97, 110, 110]⟩, .string ⟨C.toArray⟩, .string ⟨#[114, 101, 100]⟩] 27)).alloc (.cells #[.string ⟨#[97, 110, 110]⟩, .string ⟨C.toArray⟩, .string ⟨#[98, 108, 117, 101]⟩] 27)) := (hf1.alloc _).alloc _
  have hsz : w1.heap.size + 1 + 1 = ((w1.alloc (.cells #[.string ⟨#[97, 110, 110]⟩, .string ⟨C.toArray⟩, .string ⟨#[114, 101, 100]⟩] 27)).alloc (.cells #[.string ⟨#[97, 110, 110]⟩, .string ⟨C.toArray⟩, .string ⟨#[98, 108, 117, 101]⟩] 27)).heap.size := by simp
  rw [hsz]
  generalize (w1.alloc (.cells #[.string ⟨#[97, 110, 110]⟩, .string ⟨C.toArray⟩, .string ⟨#[114, 101, 100]⟩] 27)).alloc (.cells #[.string ⟨#[97, 110, 110]⟩, .string ⟨C.toArray⟩, .string ⟨#[98, 108, 117, 101]⟩] 27) = u at r1 r2 hfu ⊢
  clear hsz hf1
  generalize w1.heap.size + 1 = b2 at r2 ⊢
  generalize w1.heap.size = b1 at r1 ⊢
  have ka0 : u.cell? ⟨b1, 0, none⟩ = some (.string ⟨#[97, 110, 110]⟩) := by rw [row_cell r1 0]; rfl
  have ka1 : u.cell? ⟨b1, 1, none⟩ = some (.string ⟨C.toArray⟩) := by rw [row_cell r1 1]; rfl
  have ka2 : u.cell? ⟨b1, 2, none⟩ = some (.string ⟨#[114, 101, 100]⟩) := by rw [row_cell r1 2]; rfl
  have kb0 : u.cell? ⟨b2, 0, none⟩ = some (.string ⟨#[97, 110, 110]⟩) := by rw [row_cell r2 0]; rfl
  have kb1 : u.cell? ⟨b2, 1, none⟩ = some (.string ⟨C.toArray⟩) := by rw [row_cell r2 1]; rfl
  have kb2 : u.cell? ⟨b2, 2, none⟩ = some (.string ⟨#[98, 108, 117, 101]⟩) := by rw [row_cell r2 2]; rfl
  clear r1 r2
  have hS1 : seedS [⟨tAnn, C, tRed⟩] tRoot = (dlist [tRoot, tAnn, tRed], 0) := by
    simp [seedS, dupAt, rightB, HC.out, textsS, List.range_succ]
  have hS2 : seedS [⟨tAnn, C, tRed⟩, ⟨tAnn, C, tRed⟩] tRoot = ([], 9) := by
    simp [seedS, dupAt, List.range_succ]
  have HSS2 := Lib.hid hS2
  refine (seed_any _ [⟨tAnn, C, tRed⟩] tRoot _ (pts_one (heap_new rfl)) (fun p hp => by rw [List.mem_singleton.1 hp]; exact ⟨by show (3:Nat) ≤ _; decide, by show (3:Nat) ≤ _; decide⟩) (by decide) (HT.out.fr (hfu.alloc _))).mono ?_
  rw [hS1]
  clear hS1 hS2
  rintro e w2 ⟨rfl, hb2⟩
  have hu2 : Fr [] u w2 := ((Fr.refl [] u).alloc _).below hb2 ((Fr.refl [] u).alloc _).size
  clear hb2
  simp only
  have HDL : Hid ((dlist [tRoot, tAnn, tRed]).length = 16) := Lib.hid (dsum_length _)
  generalize hDD : dlist [tRoot, tAnn, tRed] = D at HDL ⊢
  have HDD := Lib.hid hDD
  clear hDD
  replace ka0 := hu2.cell ka0 (by simp)
  replace ka1 := hu2.cell ka1 (by simp)
  replace ka2 := hu2.cell ka2 (by simp)
  replace kb0 := hu2.cell kb0 (by simp)
  replace kb1 := hu2.cell kb1 (by simp)
  replace kb2 := hu2.cell kb2 (by simp)
  have hf2 : Fr [] w w2 := hfu.trans hu2 (by simp)
  clear hu2 hfu
  go_wp2_with fail
  refine (seed_any _ [⟨tAnn, C, tRed⟩, ⟨tAnn, C, tRed⟩] tRoot _ (pts_two (heap_new rfl)) (fun p hp => by
    simp only [List.mem_cons, List.not_mem_nil, or_false, or_self] at hp; rw [hp]; exact ⟨by show (3:Nat) ≤ _; decide, by show (3:Nat) ≤ _; decide⟩) (by decide) (HT.out.fr (hf2.alloc _))).mono ?_
  rw [HSS2.out]
  clear HSS2
  rintro e w3 ⟨rfl, hb3⟩
  have hu3 : Fr [] w2 w3 := ((Fr.refl [] w2).alloc _).below hb3 ((Fr.refl [] w2).alloc _).size
  clear hb3
  simp only
  replace ka0 := hu3.cell ka0 (by simp)
  replace ka1 := hu3.cell ka1 (by simp)
  replace ka2 := hu3.cell ka2 (by simp)
  replace kb0 := hu3.cell kb0 (by simp)
  replace kb1 := hu3.cell kb1 (by simp)
  replace kb2 := hu3.cell kb2 (by simp)
  have hf3 : Fr [] w w3 := hf2.trans hu3 (by simp)
  clear hu3 hf2
  go_wp2_with fail
  obtain ⟨RB, hRB⟩ : ∃ RB, RB = rightB ⟨tAnn, C, tBlue⟩ := ⟨_, rfl⟩
  have hval : seedS [⟨tAnn, C, tBlue⟩] tRoot = if rightB ⟨tAnn, C, tBlue⟩ then (dlist (textsS tRoot [⟨tAnn, C, tBlue⟩]), 0) else ([], 20) := by
    unfold seedS
    rw [if_neg (by simp), if_neg (by simp [dupAt, List.range_succ])]
    cases h : rightB ⟨tAnn, C, tBlue⟩ <;> simp [h]
  obtain ⟨DB, eC, hS3, hz⟩ : ∃ (DB : List UInt8) (z : Int), seedS [⟨tAnn, C, tBlue⟩] tRoot = (DB, z) ∧ z = if RB then 0 else 20 := by
    rw [hval, hRB]
    cases rightB ⟨tAnn, C, tBlue⟩
    · exact ⟨_, _, rfl, rfl⟩
    · exact ⟨_, _, rfl, rfl⟩
  clear hval
  have HS3 := Lib.hid hS3
  have HZ := Lib.hid hz
  have HRB := Lib.hid hRB
  clear hS3 hz hRB
  refine (seed_any _ [⟨tAnn, C, tBlue⟩] tRoot _ (pts_one (heap_new rfl)) (fun p hp => by rw [List.mem_singleton.1 hp]; exact ⟨by show (3:Nat) ≤ _; decide, by show (4:Nat) ≤ _; decide⟩) (by decide) (HT.out.fr (hf3.alloc _))).mono ?_
  rw [HS3.out]
  rintro e w4 ⟨rfl, hb4⟩
  have hu4 : Fr [] w3 w4 := ((Fr.refl [] w3).alloc _).below hb4 ((Fr.refl [] w3).alloc _).size
  clear hb4 HS3
  simp only
  replace ka0 := hu4.cell ka0 (by simp)
  replace ka1 := hu4.cell ka1 (by simp)
  replace ka2 := hu4.cell ka2 (by simp)
  replace kb0 := hu4.cell kb0 (by simp)
  replace kb1 := hu4.cell kb1 (by simp)
  replace kb2 := hu4.cell kb2 (by simp)
  have hf4 : Fr [] w w4 := hf3.trans hu4 (by simp)
  clear hu4 hf3
  obtain ⟨i0, hi, hz0, hz1, hz2⟩ := info_parts pInfoD
  go_wp2_with (at_make; go_loud (refine wpList_make_full _ rfl (.const (.int .i64 17)) (.const (.int .i64 17)) 22 rfl w4.heap.size 27 i0 (.agg #[.string ⟨#[]⟩, .string ⟨#[]⟩, .string ⟨#[]⟩]) 3 Tryd.underlying22 hi hz0 hz1 .i64 .i64 17 17 17 rfl rfl rfl rfl (by rw [hz2]; decide) (by decide) (Nat.le_refl _) ?_))
  intro w5 _ hgrow
  have hu5 : Fr [] w4 w5 := (Fr.refl [] w4).grown hgrow (fun r e => by cases e)
  replace ka0 := hu5.cell ka0 (by simp)
  replace ka1 := hu5.cell ka1 (by simp)
  replace ka2 := hu5.cell ka2 (by simp)
  replace kb0 := hu5.cell kb0 (by simp)
  replace kb1 := hu5.cell kb1 (by simp)
  replace kb2 := hu5.cell kb2 (by simp)
  have hf5 : Fr [] w w5 := hf4.trans hu5 (by simp)
  clear hu5 hf4 hgrow hi hz0 hz1 hz2
  go_wp2_with fail
  refine (seed_big _ 17 _ tRoot w5 (by decide)).mono ?_
  rintro e w6 ⟨rfl, hb6⟩
  have hu6 : Fr [] w5 w6 := Fr.ofBelow hb6
  replace ka0 := hu6.cell ka0 (by simp)
  replace ka1 := hu6.cell ka1 (by simp)
  replace ka2 := hu6.cell ka2 (by simp)
  replace kb0 := hu6.cell kb0 (by simp)
  replace kb1 := hu6.cell kb1 (by simp)
  replace kb2 := hu6.cell kb2 (by simp)
  have hf6 : Fr [] w w6 := hf5.trans hu6 (by simp)
  clear hu6 hf5 hb6
  go_wp2_with fail
  have HRA : Hid (rightB ⟨tAnn, C, tRed⟩ = true) := Lib.hid (by rw [HC.out]; simp [rightB])
  refine (right_any ⟨tAnn, C, tRed⟩ w6 (by show (3 : Nat) ≤ _; decide) (by show (3 : Nat) ≤ _; decide) (HT.out.fr hf6)).mono ?_
  rintro e w7 ⟨rfl, hb7⟩
  rw [HRA.out]
  have hu7 : Fr [] w6 w7 := Fr.ofBelow hb7
  replace ka0 := hu7.cell ka0 (by simp)
  replace ka1 := hu7.cell ka1 (by simp)
  replace ka2 := hu7.cell ka2 (by simp)
  replace kb0 := hu7.cell kb0 (by simp)
  replace kb1 := hu7.cell kb1 (by simp)
  replace kb2 := hu7.cell kb2 (by simp)
  have hf7 : Fr [] w w7 := hf6.trans hu7 (by simp)
  clear hu7 hf6 hb7
  go_wp2_with fail
  refine (list_any _ [tRoot, tAnn, tRed] _ (strs_three (heap_new rfl)) (by
    have := joinL_capN [tRoot, tAnn, tRed] (by decide)
    have h2 : capN [tRoot, tAnn, tRed] ≤ 1000 := by decide
    omega) (HT.out.fr (hf7.alloc _))).mono ?_
  rintro e w8 ⟨rfl, hb8⟩
  rw [HDD.out]
  have hu8 : Fr [] w7 w8 := ((Fr.refl [] w7).alloc _).below hb8 ((Fr.refl [] w7).alloc _).size
  replace ka0 := hu8.cell ka0 (by simp)
  replace ka1 := hu8.cell ka1 (by simp)
  replace ka2 := hu8.cell ka2 (by simp)
  replace kb0 := hu8.cell kb0 (by simp)
  replace kb1 := hu8.cell kb1 (by simp)
  replace kb2 := hu8.cell kb2 (by simp)
  have hf8 : Fr [] w w8 := hf7.trans hu8 (by simp)
  clear hu8 hf7 hb8
  have q1 : (D == D) = true := by simp
  have q2 : ((D.length : Int) == 16) = true := by rw [HDL.out]; rfl
  go_wp2_with fail
  have q3 : (dlist [tAnn, tBlue] == C) = RB := by rw [HRB.out, rightB, Bool.eq_iff_iff, beq_iff_eq, beq_iff_eq]; exact eq_comm
  have q4 : (RB == RB) = true := by simp
  have q5 : (eC == 20) = !RB := by rw [HZ.out]; cases RB <;> rfl
  have q6 : ((!RB) == (!RB)) = true := by simp
  have hc0 := kb0
  have hc1 := kb1
  have hc2 := kb2
  have hc3 := ka1
  have hh0 : Fr [] w8 w8.drew := (Fr.refl [] w8).drew
  have hS0 : w8.drew.cell? ⟨b2, 0, none⟩ = some (.string ⟨#[97, 110, 110]⟩) ∧ w8.drew.cell? ⟨b2, 1, none⟩ = some (.string ⟨C.toArray⟩) ∧ w8.drew.cell? ⟨b2, 2, none⟩ = some (.string ⟨#[98, 108, 117, 101]⟩) ∧ w8.drew.cell? ⟨b1, 1, none⟩ = some (.string ⟨C.toArray⟩) := ⟨hh0.cell hc0 (by simp), hh0.cell hc1 (by simp), hh0.cell hc2 (by simp), hh0.cell hc3 (by simp)⟩
  refine region_held 16 (fun W' => W'.cell? ⟨b2, 0, none⟩ = some (.string ⟨#[97, 110, 110]⟩) ∧ W'.cell? ⟨b2, 1, none⟩ = some (.string ⟨C.toArray⟩) ∧ W'.cell? ⟨b2, 2, none⟩ = some (.string ⟨#[98, 108, 117, 101]⟩) ∧ W'.cell? ⟨b1, 1, none⟩ = some (.string ⟨C.toArray⟩)) hmx ?_
  change Held _ _ _ _ _ _ 17 (Array.replicate 17 false) _ _
  refine held_take 0 (v := .agg #[.string ⟨#[97, 110, 110]⟩, .string ⟨C.toArray⟩, .string ⟨#[98, 108, 117, 101]⟩]) rfl (by kernel_rfl) (by kernel_rfl) (by kernel_rfl) rfl hS0 (fun W' hS => by obtain ⟨h0, h1, h2, h3⟩ := hS; go_simp) rfl ?_
  refine held_take 4 (v := .pointer (some ⟨b1, 1, none⟩)) rfl (by kernel_rfl) (by kernel_rfl) (by kernel_rfl) rfl hS0 (fun W' hS => by go_simp) rfl ?_
  simp only [Act.put]
  refine held_take 5 (v := .string ⟨C.toArray⟩) rfl (by kernel_rfl) (by kernel_rfl) (by kernel_rfl) rfl hS0 (fun W' hS => by obtain ⟨h0, h1, h2, h3⟩ := hS; go_simp) rfl ?_
  simp only [Act.put]
  refine held_key2 68 69 #[true, true, true, false, true, true, false, false, false, false, false, false, false, false, false, false, false] (fun x y W' => x = .bool RB ∧ (∃ g, y = .slice (some ⟨g, 0, none⟩) 2 2 ∧ Strs W' y [tAnn, tBlue]) ∧ Fr [] w8 W') (fuel' := 12) (fun key => ?_) (fun x y wp hR => ?_)
  · refine held_two_g 1 2 (by kernel_rfl) rfl rfl (by kernel_rfl) (by kernel_rfl) (fun K' hK => ?_) (fun K' hK => ?_)
    · go_simp
      refine (right_any ⟨tAnn, C, tBlue⟩ _ (by show (3 : Nat) ≤ _; decide) (by show (4 : Nat) ≤ _; decide) (HT.out.fr (hf8.trans hh0 (by simp)))).mono ?_
      rintro e x1 ⟨rfl, hb⟩
      rw [← HRB.out]
      have g1 : Fr [] w8 x1 := hh0.below hb hh0.size
      refine hK.out _ _ (fun _ => ⟨(g1).cell hc0 (by simp), (g1).cell hc1 (by simp), (g1).cell hc2 (by simp), (g1).cell hc3 (by simp)⟩) ?_
      clear hK K'
      refine held_one_g 2 (by kernel_rfl) rfl (by kernel_rfl) rfl (fun K' hK => ?_)
      go_simp
      refine hK.out _ _ (fun _ => ⟨(g1.alloc _).cell hc0 (by simp), (g1.alloc _).cell hc1 (by simp), (g1.alloc _).cell hc2 (by simp), (g1.alloc _).cell hc3 (by simp)⟩) ?_
      clear hK K'
      have hk := key (.bool RB) (.slice (some ⟨x1.heap.size, 0, none⟩) 2 2) (x1.alloc (.cells #[.string ⟨#[97, 110, 110]⟩, .string ⟨#[98, 108, 117, 101]⟩] 9)) ⟨rfl, ⟨_, rfl, strs_two (heap_new rfl)⟩, g1.alloc _⟩
      exact held_same hk (by kernel_rfl) (by kernel_rfl)
    · go_simp
      refine hK.out _ _ (fun _ => ⟨(hh0.alloc _).cell hc0 (by simp), (hh0.alloc _).cell hc1 (by simp), (hh0.alloc _).cell hc2 (by simp), (hh0.alloc _).cell hc3 (by simp)⟩) ?_
      clear hK K'
      refine held_one_g 1 (by kernel_rfl) rfl (by kernel_rfl) rfl (fun K' hK => ?_)
      go_simp
      refine (right_any ⟨tAnn, C, tBlue⟩ _ (by show (3 : Nat) ≤ _; decide) (by show (4 : Nat) ≤ _; decide) (HT.out.fr (hf8.trans (hh0.alloc _) (by simp)))).mono ?_
      rintro e x1 ⟨rfl, hb⟩
      rw [← HRB.out]
      have g1 : Fr [] w8 x1 := (hh0.alloc _).below hb (hh0.alloc _).size
      refine hK.out _ _ (fun _ => ⟨(g1).cell hc0 (by simp), (g1).cell hc1 (by simp), (g1).cell hc2 (by simp), (g1).cell hc3 (by simp)⟩) ?_
      clear hK K'
      have hz : Strs x1 (.slice (some ⟨w8.heap.size, 0, none⟩) 2 2) [tAnn, tBlue] := Strs.frN (X := []) (strs_two (W := w8.drew.alloc (.cells #[.string ⟨#[97, 110, 110]⟩, .string ⟨#[98, 108, 117, 101]⟩] 9)) (heap_new rfl)) (Fr.ofBelow hb) (by simp)
      have hk := key (.bool RB) (.slice (some ⟨w8.heap.size, 0, none⟩) 2 2) x1 ⟨rfl, ⟨_, rfl, hz⟩, g1⟩
      exact held_same hk (by kernel_rfl) (by kernel_rfl)
  obtain ⟨rfl, ⟨gz, rfl, hzs⟩, hhp⟩ := hR
  have hS100 : wp.cell? ⟨b2, 0, none⟩ = some (.string ⟨#[97, 110, 110]⟩) ∧ wp.cell? ⟨b2, 1, none⟩ = some (.string ⟨C.toArray⟩) ∧ wp.cell? ⟨b2, 2, none⟩ = some (.string ⟨#[98, 108, 117, 101]⟩) ∧ wp.cell? ⟨b1, 1, none⟩ = some (.string ⟨C.toArray⟩) := ⟨hhp.cell hc0 (by simp), hhp.cell hc1 (by simp), hhp.cell hc2 (by simp), hhp.cell hc3 (by simp)⟩
  simp only [Act.put]
  refine held_one 3 (by kernel_rfl) rfl rfl rfl (fun K' hK => ?_)
  go_simp
  refine (list_any _ [tAnn, tBlue] wp hzs (two_join _ _ (by decide) (by decide)) (HT.out.fr (hf8.trans hhp (by simp)))).mono ?_
  rintro e wq101 ⟨rfl, hb⟩
  have hh101 : Fr [] w8 wq101 := hhp.below hb hhp.size
  clear hb
  have hS101 : wq101.cell? ⟨b2, 0, none⟩ = some (.string ⟨#[97, 110, 110]⟩) ∧ wq101.cell? ⟨b2, 1, none⟩ = some (.string ⟨C.toArray⟩) ∧ wq101.cell? ⟨b2, 2, none⟩ = some (.string ⟨#[98, 108, 117, 101]⟩) ∧ wq101.cell? ⟨b1, 1, none⟩ = some (.string ⟨C.toArray⟩) := ⟨hh101.cell hc0 (by simp), hh101.cell hc1 (by simp), hh101.cell hc2 (by simp), hh101.cell hc3 (by simp)⟩
  refine hK.out _ _ (fun _ => hS101) ?_
  clear hK K'
  try simp only [Act.put]
  refine held_take 6 (v := .bool RB) rfl (by kernel_rfl) (by kernel_rfl) (by kernel_rfl) rfl hS101 (fun W' hS => by go_simp) rfl ?_
  simp only [Act.put]
  refine held_take 7 (v := .bool true) rfl (by kernel_rfl) (by kernel_rfl) (by kernel_rfl) rfl hS101 (fun W' hS => by go_simp) rfl ?_
  simp only [Act.put]
  refine held_take 8 (v := .bool true) rfl (by kernel_rfl) (by kernel_rfl) (by kernel_rfl) rfl hS101 (fun W' hS => by go_simp) rfl ?_
  simp only [Act.put]
  refine held_take_g 9 (v := .int .i64 eC) rfl (by kernel_rfl) (by kernel_rfl) (by kernel_rfl) rfl hS101 (fun W' hS => by go_simp) rfl ?_
  refine held_take_g 11 (v := .agg #[.string ⟨#[97, 110, 110]⟩, .string ⟨C.toArray⟩, .string ⟨#[98, 108, 117, 101]⟩]) rfl (by kernel_rfl) (by kernel_rfl) (by kernel_rfl) rfl hS101 (fun W' hS => by obtain ⟨h0, h1, h2, h3⟩ := hS; go_simp) rfl ?_
  simp only [Act.put]
  refine held_take_g 10 (v := .bool (!RB)) rfl (by kernel_rfl) (by kernel_rfl) (by kernel_rfl) rfl hS101 (fun W' hS => by go_simp) rfl ?_
  simp only [Act.put]
  refine held_one_g 12 (by kernel_rfl) rfl (by kernel_rfl) rfl (fun K' hK => ?_)
  go_simp
  refine (right_any ⟨tAnn, C, tBlue⟩ wq101 (by show (3 : Nat) ≤ _; decide) (by show (4 : Nat) ≤ _; decide) (HT.out.fr (hf8.trans hh101 (by simp)))).mono ?_
  rintro e wq102 ⟨rfl, hb⟩
  rw [← HRB.out]
  have hh102 : Fr [] w8 wq102 := hh101.below hb hh101.size
  clear hb
  have hS102 : wq102.cell? ⟨b2, 0, none⟩ = some (.string ⟨#[97, 110, 110]⟩) ∧ wq102.cell? ⟨b2, 1, none⟩ = some (.string ⟨C.toArray⟩) ∧ wq102.cell? ⟨b2, 2, none⟩ = some (.string ⟨#[98, 108, 117, 101]⟩) ∧ wq102.cell? ⟨b1, 1, none⟩ = some (.string ⟨C.toArray⟩) := ⟨hh102.cell hc0 (by simp), hh102.cell hc1 (by simp), hh102.cell hc2 (by simp), hh102.cell hc3 (by simp)⟩
  refine hK.out _ _ (fun _ => hS102) ?_
  clear hK K'
  try simp only [Act.put]
  refine held_take_g 13 (v := .bool (!RB)) rfl (by kernel_rfl) (by kernel_rfl) (by kernel_rfl) rfl hS102 (fun W' hS => by go_simp) rfl ?_
  simp only [Act.put]
  refine held_take_g 14 (v := .bool true) rfl (by kernel_rfl) (by kernel_rfl) (by kernel_rfl) rfl hS102 (fun W' hS => by go_simp) rfl ?_
  simp only [Act.put]
  refine held_take 15 (v := .bool true) rfl (by kernel_rfl) (by kernel_rfl) (by kernel_rfl) rfl hS102 (fun W' hS => by go_simp) rfl ?_
  simp only [Act.put]
  refine held_one 16 (by kernel_rfl) rfl rfl rfl (fun K' hK => ?_)
  go_simp
  refine hK.out _ _ (fun h => absurd rfl h) ?_
  clear hK K'
  refine held_done (by kernel_rfl) ?_
  go_wp2_with fail
  have hf9 : Fr [] w wq102 := hf8.trans hh102 (by simp)
  clear q1 q3 q5 q6 hh101 hh102 hhp hh0 hf8
  refine (shuffle_any D 1 wq102 (by decide) (by rw [HDL.out]; decide) (HT.out.fr hf9)).mono ?_
  rintro e w10 ⟨g1, rfl, _, ha, hb10⟩
  have hf10 : Fr [] w w10 := hf9.below hb10 hf9.size
  have hn1 := ha.nums (n := 1) (shufS_length D 1) (by decide)
  have HN1 := Lib.hid hn1
  clear ha hn1 hb10
  go_wp2_with fail
  have hn0 : Nums (w10.alloc (.cells #[.int .i64 0] 3)) (.slice (some ⟨w10.heap.size, 0, none⟩) 1 1) [0] :=
    ArrN.nums (w := w10.alloc (.cells #[.int .i64 0] 3)) (l := [0]) (heap_new rfl) rfl (by decide)
  refine (ints_any _ _ (shufS D 1) [0] _ (HN1.out.fr0 ((Fr.refl [] w10).alloc _)) hn0).mono ?_
  rintro e w11 ⟨rfl, hb11⟩
  rw [show decide (shufS D 1 = [0]) = true from rfl]
  have hf11 : Fr [] w w11 := (hf10.alloc _).below hb11 (hf10.alloc _).size
  clear hn0 hb11 HN1 hf10
  go_wp2_with fail
  refine (shuffle_any D 0 w11 (by decide) (by rw [HDL.out]; decide) (HT.out.fr hf11)).mono ?_
  rintro e w12 ⟨g2, rfl, _, _, hb12⟩
  have hf12 : Fr [] w w12 := hf11.below hb12 hf11.size
  clear hb12 hf11
  go_wp2_with fail
  refine (shuffle_any D 5 w12 (by decide) (by rw [HDL.out]; decide) (HT.out.fr hf12)).mono ?_
  rintro e w13 ⟨g3, rfl, _, _, hb13⟩
  have hf13 : Fr [] w w13 := hf12.below hb13 hf12.size
  clear hb13 hf12
  go_wp2_with fail
  go_ret
  exact ⟨rfl, hf13.toBelow (by simp)⟩
end Go.Proofs.YtnbpajcecjpfpaaDoor
