/-
  draw.of, draw.Shuffle.
  draw.Right, draw.Seed.
  slices.ContainsFunc over parties; draw.Seed.
-/
import Derived.Test.YtjddngbgbbbefaaGreatDoorPlnDr
import Derived.Test.YtjddngbgbbbefaaGreatDoorOwn
import Derived.Test.YtjddngbgbbbefaaGreatDoorArr
import Derived.Test.YtjddngbgbbbefaaGreatDoorRefA
import Derived.Test.YtjddngbgbbbefaaGreatDoorMrk
import Derived.Laws.OwnMore
import Derived.BigRegion
import Derived.Test.YtjddngbgbbbefaaGreatDoorPty
namespace Go.Proofs.YtjddngbgbbbefaaGreatDoor
open Go.RowKit

/-- The row while it is filled: the places below k hold their own numbers. -/
def initL (n k : Nat) : List Nat := (List.range n).map fun i => if i < k then i else 0
theorem initL_zero (n : Nat) : initL n 0 = List.replicate n 0 := by
  apply List.ext_getElem <;> simp [initL]
theorem initL_end (n : Nat) : initL n n = List.range n := by
  apply List.ext_getElem
  · simp [initL]
  · intro i h1 h2
    have : i < n := by simpa [initL] using h1
    simp [initL, this]
theorem initL_length (n k : Nat) : (initL n k).length = n := by simp [initL]
theorem initL_set (n k : Nat) : (initL n k).set k k = initL n (k + 1) := by
  apply List.ext_getElem
  · simp [initL]
  · intro i h1 h2
    simp only [List.getElem_set, initL, List.getElem_map, List.getElem_range]
    split <;> split <;> (try split) <;> omega
theorem ofDr_any (v : Value) (l : List (List UInt8)) (w : World) (hv : Strs w v l) (hl : (joinL l).length ≤ 140737488355328) (hT : Tabs w) :
    Calls Tryz.prog 78 #[v] w fun e w' => e = .returned (.string ⟨(dlist l).toArray⟩) ∧ Below w.heap.size w w' := by
  go_enter Tryz.func78, Tryz.ntmps78
  go_wp2_with fail
  refine (list_any v l w hv hl hT).mono ?_
  rintro e w1 ⟨rfl, hb1⟩
  go_wp2_with fail
  go_ret
  exact ⟨rfl, hb1⟩

set_option maxRecDepth 100000 in
set_option maxHeartbeats 2000000 in
theorem shuffle_any (seed : List UInt8) (n : Nat) (w : World) (hn : n ≤ 4000) (hs : seed.length ≤ 1000000) (hT : Tabs w) :
    Calls Tryz.prog 79 #[.string ⟨seed.toArray⟩, .int .i64 (n : Int)] w fun e w' => ∃ g, e = .returned (.slice (some ⟨g, 0, none⟩) n n) ∧ w.heap.size ≤ g ∧ ArrN w' g (shufS seed n) ∧ Below w.heap.size w w' := by
  have hmx : Tryz.prog.follows .mixedOrders = true := by kernel_rfl
  have HT := Lib.hid hT
  clear hT
  have t1 : decide ((n : Int) < 0) = false := by simp
  have t2 : decide ((4000 : Int) < (n : Int)) = false := by simp; omega
  go_enter Tryz.func79, Tryz.ntmps79
  obtain ⟨i0, hi, hz0, hz1, hz2⟩ := info_parts iInfoD
  go_wp2_with (at_make; go_loud (refine wpList_make_full _ rfl (.tmp 16) (.tmp 16) 24 rfl w.heap.size 3 i0 (.int .i64 0) 1 Tryz.underlying24 hi hz0 hz1 .i64 .i64 (n : Int) (n : Int) n rfl rfl rfl rfl (by rw [hz2]; omega) (by unfold maxLen; omega) (Nat.le_refl _) ?_))
  intro w1 hown hgrow
  have hf1 : Fr [] w w1 := (Fr.refl [] w).grown hgrow (fun r e => by cases e)
  rw [toList_madeCells_one, show List.replicate n (Value.int .i64 0) = (initL n 0).map fun n : Nat => Value.int .i64 (n : Int) by simp [initL_zero]] at hown
  have harr := (arr_of_own hown).2
  clear hown hgrow
  obtain ⟨g, hg⟩ : ∃ g, g = w.heap.size := ⟨_, rfl⟩
  rw [← hg] at harr ⊢
  have HG0 := Lib.hid hg
  have HARR := Lib.hid harr
  clear hg harr hi hz0 hz1 hz2
  go_wp2_with fail
  go_loopg [19] (n + 1) (fun gh i wr => ∃ k : Nat, k ≤ n ∧ gh = n + 1 - k ∧ i = .int .i64 (k : Int) ∧ ArrN wr g (initL n k) ∧ Fr [] w wr)
  case atStart => exact ⟨0, by omega, by omega, rfl, HARR.out, hf1⟩
  case round =>
    clear HARR hf1
    obtain ⟨k, hk, hgh, rfl, ha, hfr⟩ := hrel
    have HGH := Lib.hid hgh
    clear hgh
    by_cases hlt : k < n
    · have t3 : decide ((k : Int) < (n : Int)) = true := by simp; omega
      have hcu := ha.cell k (by rw [initL_length]; exact hlt)
      have hfz := row_free ha k
      have ha2 := ha.set k k
      rw [initL_set] at ha2
      have HA := Lib.hid ha2
      have hfr2 : Fr [] w (wr.setCell ⟨g, k, none⟩ (.int .i64 (k : Int))) := hfr.setCell _ _ (Or.inr (by rw [HG0.out]; exact Nat.le_refl _))
      clear ha ha2 hfr
      go_wp2_with fail
      go_roundg (n + 1 - (k + 1))
      case measure => have := HGH.out; omega
      case rel => exact ⟨k + 1, by omega, rfl, by go_num, HA.out, hfr2⟩
    · obtain rfl : n = k := by omega
      have t3 : decide ((n : Int) < (n : Int)) = false := by simp
      rw [initL_end] at ha
      have HA := Lib.hid ha
      clear ha
      go_wp2_with fail
      go_loopg [28] (n + 1) (fun gh i wr => ∃ (k : Nat) (cur : List Nat), k ≤ n ∧ gh = n + 1 - k ∧ i = .int .i64 (k : Int) ∧ cur.length = n ∧ shufT seed cur (n - 1 - k) = shufS seed n ∧ ArrN wr g cur ∧ Fr [] w wr)
      case atStart => exact ⟨0, _, by omega, by omega, rfl, List.length_range, rfl, HA.out, hfr⟩
      case round =>
        clear HA hfr
        obtain ⟨k, cur, hk, hgh, rfl, hcl, hsh, ha, hfr⟩ := hrel
        have HGH := Lib.hid hgh
        have HSH := Lib.hid hsh
        have HA := Lib.hid ha
        clear hgh hsh ha
        by_cases hlt : k < n
        · have t4 : decide ((k : Int) < (n : Int)) = true := by simp; omega
          obtain ⟨i, hi, ei⟩ : ∃ i : Nat, i = n - 1 - k ∧ (n : Int) - 1 - (k : Int) = (i : Int) := ⟨n - 1 - k, rfl, by omega⟩
          by_cases hi0 : i = 0
          · have t5 : decide (0 < i) = false := by simp; omega
            have HI := Lib.hid hi
            have HI0 := Lib.hid hi0
            clear hi hi0
            go_wp2_with fail
            go_roundg (n + 1 - (k + 1))
            case measure => have := HGH.out; omega
            case rel => exact ⟨k + 1, cur, by omega, rfl, by go_num, hcl, by rw [← HSH.out, show n - 1 - (k + 1) = 0 by have := HI.out; have := HI0.out; omega, show n - 1 - k = 0 by have := HI.out; have := HI0.out; omega], HA.out, hfr⟩
          · have t5 : decide (0 < i) = true := by simp; omega
            have hin : i < n := by omega
            have hj := jS_le seed i
            have HJ := Lib.hid (jS_below seed i)
            have HST : Hid (shufT seed (swapL cur i (jS seed i)) (n - 1 - (k + 1)) = shufS seed n) := Lib.hid (by
              rw [← HSH.out, ← hi, show i = (n - 1 - (k + 1)) + 1 by omega]; rfl)
            have HDD := Lib.hid (dec_len i (by omega))
            clear hi hi0
            go_wp2_with fail
            refine (itoa_any i wr (by omega) (HT.out.fr hfr)).mono ?_
            rintro e w2 ⟨rfl, hb2⟩
            have hw2 : Fr [] wr w2 := (Fr.refl [] wr).below hb2 (Nat.le_refl _)
            go_wp2_with fail
            refine (ofDr_any _ [seed, Lib.decDigits i] _ (strs_two (heap_new rfl)) ?_ (HT.out.fr (hfr.trans (hw2.alloc _) (by simp)))).mono ?_
            · have := HDD.out
              simp [joinL, joinE]
              have := dec_len seed.length (by omega)
              have := dec_len (Lib.decDigits i).length (by omega)
              omega
            rintro e w3 ⟨rfl, hb3⟩
            have hw3 : Fr [] wr w3 := (hw2.alloc _).below hb3 (hw2.alloc _).size
            go_wp2_with fail
            refine (below_any _ ((i : Int) + 1) w3 (by rw [show (dlist [seed, Lib.decDigits i]).length = 16 from dsum_length _]; decide) (by omega)).mono ?_
            rintro e w4 ⟨rfl, hb4⟩
            have hw4 : Fr [] wr w4 := hw3.below hb4 hw3.size
            rw [HJ.out]
            generalize jS seed i = j at hj HST ⊢
            have ha4 := HA.out.fr hw4 (by simp)
            have c1 := ha4.cell i (by omega)
            have c2 := ha4.cell j (by omega)
            have f1 := row_free ha4 i
            have ha5 := ha4.set i (cur.getD j 0)
            have c3 := ha5.cell j (by rw [List.length_set]; omega)
            have f3 := row_free ha5 j
            have ha6 := ha5.set j (cur.getD i 0)
            have HA6 : Hid (ArrN ((w4.setCell ⟨g, i, none⟩ (.int .i64 (cur.getD j 0 : Nat))).setCell ⟨g, j, none⟩ (.int .i64 (cur.getD i 0 : Nat))) g (swapL cur i j)) := Lib.hid ha6
            have hg6 : Fr [] w ((w4.setCell ⟨g, i, none⟩ (.int .i64 (cur.getD j 0 : Nat))).setCell ⟨g, j, none⟩ (.int .i64 (cur.getD i 0 : Nat))) :=
              ((hfr.trans hw4 (by simp)).setCell _ _ (Or.inr (by rw [HG0.out]; exact Nat.le_refl _))).setCell _ _ (Or.inr (by rw [HG0.out]; exact Nat.le_refl _))
            have HG6 := Lib.hid hg6
            have hjn : j < n := by omega
            have HSL := Lib.hid (swapL_length cur i j)
            have HCL := Lib.hid hcl
            generalize ((cur.set i (cur.getD j 0)).getD j 0) = z at c3
            generalize swapL cur i j = cur2 at HA6 HST HSL
            generalize cur.getD i 0 = x at c1 HA6 HG6
            generalize cur.getD j 0 = y at c2 c3 f3 HA6 HG6
            clear ha4 ha5 ha6 hg6 hb2 hb3 hb4 hw2 hw3 hw4 HA hfr HJ HDD hcl
            go_wp2_with fail
            go_region
            go_wp2_with fail
            go_roundg (n + 1 - (k + 1))
            case measure => have := HGH.out; omega
            case rel => exact ⟨k + 1, cur2, by omega, rfl, by go_num, by rw [HSL.out, HCL.out], HST.out, HA6.out, HG6.out.drew⟩
        · obtain rfl : n = k := by omega
          have t4 : decide ((n : Int) < (n : Int)) = false := by simp
          have HSE : Hid (cur = shufS seed n) := Lib.hid (by rw [← HSH.out, show n - 1 - n = 0 by omega]; rfl)
          go_wp2_with fail
          go_ret
          exact ⟨g, rfl, by rw [HG0.out]; exact Nat.le_refl _, by rw [← HSE.out]; exact HA.out, hfr.toBelow (by simp)⟩
end Go.Proofs.YtjddngbgbbbefaaGreatDoor
namespace Go.Proofs.YtjddngbgbbbefaaGreatDoor
open Go.RowKit

def rightB (p : Pty) : Bool := p.com == dlist [p.name, p.rev]
theorem two_join (x y : List UInt8) (hx : x.length ≤ 1000000) (hy : y.length ≤ 1000000) : (joinL [x, y]).length ≤ 140737488355328 := by
  have := dec_len x.length (by omega)
  have := dec_len y.length (by omega)
  simp [joinL, joinE]
  omega

set_option maxRecDepth 100000 in
set_option maxHeartbeats 1000000 in
theorem right_any (p : Pty) (w : World) (hn : p.name.length ≤ 1000000) (hr : p.rev.length ≤ 1000000) (hT : Tabs w) :
    Calls Tryz.prog 77 #[ptyV p] w fun e w' => e = .returned (.bool (rightB p)) ∧ Below w.heap.size w w' := by
  obtain ⟨a, c, r⟩ := p
  have HT := Lib.hid hT
  clear hT
  unfold ptyV rightB
  simp only at hn hr ⊢
  go_enter Tryz.func77, Tryz.ntmps77
  go_wp2_with fail
  have hf0 : Fr [] w (w.alloc (.cells #[.string ⟨a.toArray⟩, .string ⟨c.toArray⟩, .string ⟨r.toArray⟩] 46)) := (Fr.refl [] w).alloc _
  have k0 : (w.alloc (.cells #[.string ⟨a.toArray⟩, .string ⟨c.toArray⟩, .string ⟨r.toArray⟩] 46)).cell? ⟨w.heap.size, 0, none⟩ = some (.string ⟨a.toArray⟩) := by rw [row_cell (heap_new rfl) 0]; rfl
  have k1 : (w.alloc (.cells #[.string ⟨a.toArray⟩, .string ⟨c.toArray⟩, .string ⟨r.toArray⟩] 46)).cell? ⟨w.heap.size, 1, none⟩ = some (.string ⟨c.toArray⟩) := by rw [row_cell (heap_new rfl) 1]; rfl
  have k2 : (w.alloc (.cells #[.string ⟨a.toArray⟩, .string ⟨c.toArray⟩, .string ⟨r.toArray⟩] 46)).cell? ⟨w.heap.size, 2, none⟩ = some (.string ⟨r.toArray⟩) := by rw [row_cell (heap_new rfl) 2]; rfl
  generalize w.heap.size = b at k0 k1 k2 ⊢
  generalize w.alloc (.cells #[.string ⟨a.toArray⟩, .string ⟨c.toArray⟩, .string ⟨r.toArray⟩] 46) = w0 at hf0 k0 k1 k2 ⊢
  have hmx : Tryz.prog.follows .mixedOrders = true := by kernel_rfl
  have HJ := Lib.hid (two_join a r hn hr)
  have hc0 := k0
  have hc1 := k1
  have hc2 := k2
  have hh0 : Fr [] w0 w0.drew := (Fr.refl [] w0).drew
  have hS0 : w0.drew.cell? ⟨b, 0, none⟩ = some (.string ⟨a.toArray⟩) ∧ w0.drew.cell? ⟨b, 1, none⟩ = some (.string ⟨c.toArray⟩) ∧ w0.drew.cell? ⟨b, 2, none⟩ = some (.string ⟨r.toArray⟩) := ⟨hh0.cell hc0 (by simp), hh0.cell hc1 (by simp), hh0.cell hc2 (by simp)⟩
  refine region_held 9 (fun W' => W'.cell? ⟨b, 0, none⟩ = some (.string ⟨a.toArray⟩) ∧ W'.cell? ⟨b, 1, none⟩ = some (.string ⟨c.toArray⟩) ∧ W'.cell? ⟨b, 2, none⟩ = some (.string ⟨r.toArray⟩)) hmx ?_
  change Held _ _ _ _ _ _ 10 (Array.replicate 10 false) _ _
  refine held_take 0 (v := .pointer (some ⟨b, 1, none⟩)) rfl (by kernel_rfl) (by kernel_rfl) (by kernel_rfl) rfl hS0 (fun W' hS => by go_simp) rfl ?_
  refine held_take 2 (v := .pointer (some ⟨b, 0, none⟩)) rfl (by kernel_rfl) (by kernel_rfl) (by kernel_rfl) rfl hS0 (fun W' hS => by go_simp) rfl ?_
  refine held_take 4 (v := .pointer (some ⟨b, 2, none⟩)) rfl (by kernel_rfl) (by kernel_rfl) (by kernel_rfl) rfl hS0 (fun W' hS => by go_simp) rfl ?_
  simp only [Act.put]
  refine held_take 1 (v := .string ⟨c.toArray⟩) rfl (by kernel_rfl) (by kernel_rfl) (by kernel_rfl) rfl hS0 (fun W' hS => by obtain ⟨h0, h1, h2⟩ := hS; go_simp) rfl ?_
  refine held_take 3 (v := .string ⟨a.toArray⟩) rfl (by kernel_rfl) (by kernel_rfl) (by kernel_rfl) rfl hS0 (fun W' hS => by obtain ⟨h0, h1, h2⟩ := hS; go_simp) rfl ?_
  refine held_take 5 (v := .string ⟨r.toArray⟩) rfl (by kernel_rfl) (by kernel_rfl) (by kernel_rfl) rfl hS0 (fun W' hS => by obtain ⟨h0, h1, h2⟩ := hS; go_simp) rfl ?_
  simp only [Act.put]
  refine held_one 6 (by kernel_rfl) rfl rfl rfl (fun K' hK => ?_)
  go_simp
  have hh1 := hh0.alloc (.cells #[.string ⟨a.toArray⟩, .string ⟨r.toArray⟩] 9)
  have hS1 : (w0.drew.alloc (.cells #[.string ⟨a.toArray⟩, .string ⟨r.toArray⟩] 9)).cell? ⟨b, 0, none⟩ = some (.string ⟨a.toArray⟩) ∧ (w0.drew.alloc (.cells #[.string ⟨a.toArray⟩, .string ⟨r.toArray⟩] 9)).cell? ⟨b, 1, none⟩ = some (.string ⟨c.toArray⟩) ∧ (w0.drew.alloc (.cells #[.string ⟨a.toArray⟩, .string ⟨r.toArray⟩] 9)).cell? ⟨b, 2, none⟩ = some (.string ⟨r.toArray⟩) := ⟨hh1.cell hc0 (by simp), hh1.cell hc1 (by simp), hh1.cell hc2 (by simp)⟩
  refine hK.out _ _ (fun _ => hS1) ?_
  clear hK K'
  try simp only [Act.put]
  refine held_one 7 (by kernel_rfl) rfl rfl rfl (fun K' hK => ?_)
  go_simp
  refine (ofDr_any _ [a, r] _ (strs_two (heap_new rfl)) HJ.out (HT.out.fr (hf0.trans hh1 (by simp)))).mono ?_
  rintro e wq2 ⟨rfl, hb⟩
  have hh2 : Fr [] w0 wq2 := hh1.below hb hh1.size
  clear hb
  have hS2 : wq2.cell? ⟨b, 0, none⟩ = some (.string ⟨a.toArray⟩) ∧ wq2.cell? ⟨b, 1, none⟩ = some (.string ⟨c.toArray⟩) ∧ wq2.cell? ⟨b, 2, none⟩ = some (.string ⟨r.toArray⟩) := ⟨hh2.cell hc0 (by simp), hh2.cell hc1 (by simp), hh2.cell hc2 (by simp)⟩
  refine hK.out _ _ (fun _ => hS2) ?_
  clear hK K'
  try simp only [Act.put]
  refine held_take 8 (v := .bool (c == dlist [a, r])) rfl (by kernel_rfl) (by kernel_rfl) (by kernel_rfl) rfl hS2 (fun W' hS => by go_simp) rfl ?_
  simp only [Act.put]
  refine held_one 9 (by kernel_rfl) rfl rfl rfl (fun K' hK => ?_)
  go_simp
  refine hK.out _ _ (fun h => absurd rfl h) ?_
  clear hK K'
  refine held_done (by kernel_rfl) ?_
  go_wp2_with fail
  go_ret
  exact ⟨rfl, (hf0.trans hh2 (by simp)).toBelow (by simp)⟩
end Go.Proofs.YtjddngbgbbbefaaGreatDoor
namespace Go.Proofs.YtjddngbgbbbefaaGreatDoor
open Go.RowKit

set_option maxRecDepth 100000 in
set_option maxHeartbeats 1000000 in
theorem index_any (v : Value) (l : List Pty) (lf : Nat) (lc : Array Value) (pr : Pty → Bool) (w : World) (hv : Pts w v l)
    (he : ∀ args w, (callFunc lf args).run Tryz.prog w = .ok (.enter lf args) w)
    (hcall : ∀ (p : Pty) (W : World), p ∈ l → Fr [] w W → Calls Tryz.prog lf (#[ptyV p] ++ lc) W fun e W' => e = .returned (.bool (pr p)) ∧ Below W.heap.size W W') :
    Calls Tryz.prog 110 #[v, .func (.func lf) #[] lc] w fun e w' => ∃ k : Int, e = .returned (.int .i64 k) ∧ decide (0 ≤ k) = l.any pr ∧ Below w.heap.size w w' := by
  have HV := Lib.hid hv
  obtain ⟨a, cap, rfl, hlc, hcap, ha⟩ := hv.form
  clear hv
  have HCALL := Lib.hid hcall
  clear hcall
  go_enter Tryz.func110, Tryz.ntmps110
  go_wp2_with fail
  go_loopg [8] (l.length + 1) (fun g i wr => ∃ k : Nat, k ≤ l.length ∧ g = l.length + 1 - k ∧ i = .int .i64 (k : Int) ∧ (l.take k).any pr = false ∧ Fr [] w wr)
  case atStart => exact ⟨0, by omega, by omega, rfl, by simp, Fr.refl _ _⟩
  case round =>
    obtain ⟨k, hk, hg, rfl, hany, hfr⟩ := hrel
    have HG := Lib.hid hg
    have HANY := Lib.hid hany
    clear hg hany
    by_cases hlt : k < l.length
    · obtain ⟨b, off, rfl⟩ := ha k hlt
      have t1 : decide ((k : Int) < (l.length : Int)) = true := by simp; omega
      obtain ⟨p, hp⟩ : ∃ p, l[k]? = some p := ⟨l[k], List.getElem?_eq_getElem hlt⟩
      have hc := (HV.out.fr hfr).cells k p hp
      obtain ⟨c0, c1, c2⟩ := hc
      have HM := Lib.hid (List.mem_of_getElem? hp)
      have HP := Lib.hid hp
      have HC := Lib.hid (HCALL.out p wr HM.out hfr)
      clear hp
      unfold ptyV at HC
      go_wp2_with fail
      refine HC.out.mono ?_
      rintro e w1 ⟨rfl, hb1⟩
      have hf1 : Fr [] w w1 := hfr.below hb1 hfr.size
      have HS : Hid ((l.take (k + 1)).any pr = ((l.take k).any pr || pr p)) := Lib.hid (by
        rw [List.take_add_one, HP.out, List.any_append]; simp)
      cases hpr : pr p with
      | true =>
        have HR : Hid (l.any pr = true) := Lib.hid (List.any_eq_true.2 ⟨p, HM.out, hpr⟩)
        clear hpr
        go_wp2_with fail
        go_ret
        exact ⟨k, rfl, by rw [HR.out]; simp, hf1.toBelow (by simp)⟩
      | false =>
        have HQ := Lib.hid hpr
        clear hpr
        go_wp2_with fail
        go_roundg (l.length + 1 - (k + 1))
        case measure => have := HG.out; omega
        case rel => exact ⟨k + 1, by omega, rfl, by go_num, by rw [HS.out, HANY.out, HQ.out]; rfl, hf1⟩
    · obtain rfl : k = l.length := by omega
      have t1 : decide ((l.length : Int) < (l.length : Int)) = false := by simp
      have HR : Hid (l.any pr = false) := Lib.hid (by have := HANY.out; rwa [List.take_length] at this)
      go_wp2_with fail
      go_ret
      exact ⟨-1, rfl, by rw [HR.out]; rfl, hfr.toBelow (by simp)⟩

set_option maxRecDepth 100000 in
theorem contains_any (v : Value) (l : List Pty) (lf : Nat) (lc : Array Value) (pr : Pty → Bool) (w : World) (hv : Pts w v l)
    (he : ∀ args w, (callFunc lf args).run Tryz.prog w = .ok (.enter lf args) w)
    (hcall : ∀ (p : Pty) (W : World), p ∈ l → Fr [] w W → Calls Tryz.prog lf (#[ptyV p] ++ lc) W fun e W' => e = .returned (.bool (pr p)) ∧ Below W.heap.size W W') :
    Calls Tryz.prog 74 #[v, .func (.func lf) #[] lc] w fun e w' => e = .returned (.bool (l.any pr)) ∧ Below w.heap.size w w' := by
  go_enter Tryz.func74, Tryz.ntmps74
  go_wp2_with fail
  refine (index_any v l lf lc pr w hv he hcall).mono ?_
  rintro e w1 ⟨k, rfl, hk, hb1⟩
  go_wp2_with fail
  go_ret
  exact ⟨by rw [← hk]; rfl, hb1⟩

set_option maxRecDepth 100000 in
theorem seed1_any (q p : Pty) (b : Nat) (w : World) (hb : w.cell? ⟨b, 0, none⟩ = some (.string ⟨p.name.toArray⟩)) :
    Calls Tryz.prog 75 #[ptyV q, .pointer (some ⟨b, 0, none⟩)] w fun e w' => e = .returned (.bool (q.name == p.name)) ∧ Below w.heap.size w w' := by
  obtain ⟨a, c, r⟩ := q
  unfold ptyV
  simp only
  have hb2 := ((Fr.refl [] w).alloc (.cells #[.string ⟨a.toArray⟩, .string ⟨c.toArray⟩, .string ⟨r.toArray⟩] 46)).cell hb (by simp)
  go_enter Tryz.func75, Tryz.ntmps75
  go_wp2_with fail
  go_ret
  exact ⟨rfl, (Below.refl _ w).alloc (Nat.le_refl _) _⟩

set_option maxRecDepth 100000 in
theorem seed2_any (p : Pty) (w : World) (hn : p.name.length ≤ 1000000) (hr : p.rev.length ≤ 1000000) (hT : Tabs w) :
    Calls Tryz.prog 76 #[ptyV p] w fun e w' => e = .returned (.bool (!rightB p)) ∧ Below w.heap.size w w' := by
  go_enter Tryz.func76, Tryz.ntmps76
  unfold ptyV
  go_wp2_with fail
  have hf0 : Fr [] w (w.alloc (.cells #[.string ⟨p.name.toArray⟩, .string ⟨p.com.toArray⟩, .string ⟨p.rev.toArray⟩] 46)) := (Fr.refl [] w).alloc _
  refine (right_any p _ hn hr (hT.fr hf0)).mono ?_
  rintro e w1 ⟨rfl, hb1⟩
  go_wp2_with fail
  go_ret
  exact ⟨rfl, (hf0.below hb1 hf0.size).toBelow (by simp)⟩

def dupAt (l : List Pty) (i : Nat) : Bool := match l[i]? with
  | some p => (l.take i).any fun q => q.name == p.name
  | none => false
def textsS (root : List UInt8) (l : List Pty) : List (List UInt8) := root :: l.flatMap fun p => [p.name, p.rev]
def seedS (l : List Pty) (root : List UInt8) : List UInt8 × Int :=
  if 16 < l.length then ([], 3) else if (List.range l.length).any (dupAt l) then ([], 9) else if l.any (fun p => !rightB p) then ([], 20) else (dlist (textsS root l), 0)
theorem texts_snoc (root : List UInt8) (l : List Pty) (k : Nat) (p : Pty) (hp : l[k]? = some p) : textsS root (l.take (k + 1)) = textsS root (l.take k) ++ [p.name, p.rev] := by
  simp only [textsS, List.take_add_one, hp, List.flatMap_append]
  simp
theorem texts_length (root : List UInt8) (l : List Pty) : (textsS root l).length = 1 + 2 * l.length := by
  induction l with
  | nil => rfl
  | cons p l ih =>
    simp only [textsS, List.flatMap_cons, List.length_cons, List.length_append, List.length_nil] at ih ⊢
    omega

theorem enters1 : ∀ args w, (callFunc 75 args).run Tryz.prog w = .ok (.enter 75 args) w := enters_of Tryz.func75 (by kernel_rfl) rfl
theorem enters2 : ∀ args w, (callFunc 76 args).run Tryz.prog w = .ok (.enter 76 args) w := enters_of Tryz.func76 (by kernel_rfl) rfl
theorem texts_join {root : List UInt8} {l : List Pty} (hr : root.length ≤ 1000000) (hl : ∀ p ∈ l, p.name.length ≤ 1000000 ∧ p.rev.length ≤ 1000000) (h16 : l.length ≤ 16) : (joinL (textsS root l)).length ≤ 140737488355328 := by
  have h1 : ∀ s ∈ textsS root l, s.length ≤ 1000000 := by
    intro s hs
    rcases List.mem_cons.1 hs with rfl | hs
    · exact hr
    · obtain ⟨p, hp, hs⟩ := List.mem_flatMap.1 hs
      simp only [List.mem_cons, List.not_mem_nil, or_false] at hs
      rcases hs with rfl | rfl
      · exact (hl p hp).1
      · exact (hl p hp).2
  have h2 := joinL_capN (textsS root l) (fun s hs => by have := h1 s hs; omega)
  have h3 := capN_le (textsS root l) 1000000 h1
  have h4 := texts_length root l
  have h5 : (textsS root l).length * (1000000 + 21) ≤ 33 * (1000000 + 21) := Nat.mul_le_mul_right _ (by omega)
  omega
set_option maxRecDepth 100000 in
set_option maxHeartbeats 1000000 in
theorem seed_any (v : Value) (l : List Pty) (root : List UInt8) (w : World) (hv : Pts w v l) (hl : ∀ p ∈ l, p.name.length ≤ 1000000 ∧ p.rev.length ≤ 1000000) (hr : root.length ≤ 1000000) (hT : Tabs w) :
    Calls Tryz.prog 35 #[v, .string ⟨root.toArray⟩] w fun e w' => e = .returned (.tuple #[.string ⟨(seedS l root).1.toArray⟩, .int .i64 (seedS l root).2]) ∧ Below w.heap.size w w' := by
  have HV := Lib.hid hv
  obtain ⟨a, cap, rfl, hlc, hcap, ha⟩ := hv.form
  have HT := Lib.hid hT
  have HLL := Lib.hid hl
  clear hv hT hl
  by_cases h16 : l.length ≤ 16
  · have t1 : decide ((16 : Int) < (l.length : Int)) = false := by simp; omega
    go_enter Tryz.func35, Tryz.ntmps35
    go_wp2_with fail
    go_loopg [6, 16] (l.length + 1) (fun g ev i wr => ∃ k : Nat, k ≤ l.length ∧ g = l.length + 1 - k ∧ i = .int .i64 (k : Int) ∧ (∀ j, j < k → dupAt l j = false) ∧ OwnS w.heap.size wr ev (textsS root (l.take k)) ∧ Fr [] w wr)
    case atStart => exact ⟨0, by omega, by omega, rfl, fun j hj => absurd hj (Nat.not_lt_zero _), OwnS.one (Nat.le_refl _), (Fr.refl [] w).alloc _⟩
    case round =>
      obtain ⟨k, hk, hg, rfl, hdup, ho, hfr⟩ := hrel
      have HG := Lib.hid hg
      have HDUP := Lib.hid hdup
      have HO := Lib.hid ho
      clear hg hdup ho
      by_cases hlt : k < l.length
      · obtain ⟨b, off, rfl⟩ := ha k hlt
        have t2 : decide ((k : Int) < (l.length : Int)) = true := by simp; omega
        obtain ⟨p, hp⟩ : ∃ p, l[k]? = some p := ⟨l[k], List.getElem?_eq_getElem hlt⟩
        have HV2 := Lib.hid (HV.out.fr hfr)
        obtain ⟨c0, c1, c2⟩ := HV2.out.cells k p hp
        have HM := Lib.hid (List.mem_of_getElem? hp)
        have HD : Hid (dupAt l k = (l.take k).any fun q => q.name == p.name) := Lib.hid (by unfold dupAt; rw [hp])
        have HS := Lib.hid (texts_snoc root l k p hp)
        have HTL := Lib.hid (texts_length root (l.take k))
        clear hp
        go_wp2_with fail
        have hw1 : Fr [] wr (wr.alloc (.cells #[.string ⟨p.name.toArray⟩, .string ⟨p.com.toArray⟩, .string ⟨p.rev.toArray⟩] 46)) := (Fr.refl [] wr).alloc _
        have k0 : (wr.alloc (.cells #[.string ⟨p.name.toArray⟩, .string ⟨p.com.toArray⟩, .string ⟨p.rev.toArray⟩] 46)).cell? ⟨wr.heap.size, 0, none⟩ = some (.string ⟨p.name.toArray⟩) := by rw [row_cell (heap_new rfl) 0]; rfl
        have k2 : (wr.alloc (.cells #[.string ⟨p.name.toArray⟩, .string ⟨p.com.toArray⟩, .string ⟨p.rev.toArray⟩] 46)).cell? ⟨wr.heap.size, 2, none⟩ = some (.string ⟨p.rev.toArray⟩) := by rw [row_cell (heap_new rfl) 2]; rfl
        generalize wr.heap.size = bx at k0 k2 ⊢
        generalize wr.alloc (.cells #[.string ⟨p.name.toArray⟩, .string ⟨p.com.toArray⟩, .string ⟨p.rev.toArray⟩] 46) = w1 at hw1 k0 k2 ⊢
        refine (contains_any _ (l.take k) 75 #[.pointer (some ⟨bx, 0, none⟩)] (fun q => q.name == p.name) w1 ((HV2.out.fr hw1).take k (Nat.le_of_lt hlt)) enters1
          (fun q W _ hW => seed1_any q p bx W (hW.cell k0 (by simp)))).mono ?_
        rintro e w2 ⟨rfl, hb2⟩
        rw [← HD.out]
        have hw12 : Fr [] w1 w2 := Fr.ofBelow hb2
        have hw2 : Fr [] wr w2 := hw1.trans hw12 (by simp)
        have hfr2 : Fr [] w w2 := hfr.trans hw2 (by simp)
        have d0 := hw12.cell k0 (by simp)
        have d2 := hw12.cell k2 (by simp)
        have HO2 := Lib.hid (HO.out.fr hw2 (by simp))
        clear hb2 hw1 k0 k2 c0 c1 c2 hw12 hw2 HO hfr
        cases hdk : dupAt l k with
        | true =>
          have HR : Hid (seedS l root = ([], 9)) := Lib.hid (by
            unfold seedS
            rw [if_neg (by omega), if_pos (List.any_eq_true.2 ⟨k, List.mem_range.2 hlt, hdk⟩)])
          clear hdk
          go_wp2_with fail
          go_ret2
          exact ⟨by rw [HR.out]; rfl, hfr2.toBelow (by simp)⟩
        | false =>
          have HDK := Lib.hid hdk
          clear hdk
          have hlen : (textsS root (l.take k)).length ≤ 1000 := by rw [HTL.out, List.length_take]; omega
          generalize textsS root (l.take k) = L at HO2 HS hlen
          go_wp2_with (at_builtin; go_loud (refine wpList_appM rfl (.tmp 26) (.tmp 31) rfl w.heap.size _ L [p.name, p.rev] w2.heap.size 0 2 2 w rfl rfl rfl (strs_two (heap_new rfl)) (HO2.out.fr ((Fr.refl [] w2).alloc _) (by simp)) (hfr2.alloc _) (Nat.le_refl _) (hfr2.alloc _).size (by omega) ?_))
          intro v3 w3 ho3 hf3 _
          have HO3 := Lib.hid ho3
          clear ho3 HO2 hfr2
          go_wp2_with fail
          go_roundg (l.length + 1 - (k + 1))
          case measure => have := HG.out; omega
          case rel =>
            refine ⟨k + 1, by omega, rfl, by go_num, fun j hj => ?_, by rw [HS.out]; exact HO3.out, hf3⟩
            rcases Nat.lt_or_ge j k with h | h
            · exact HDUP.out j h
            · obtain rfl : j = k := by omega
              exact HDK.out
      · obtain rfl : k = l.length := by omega
        have t2 : decide ((l.length : Int) < (l.length : Int)) = false := by simp
        have HO2 : Hid (OwnS w.heap.size wr u6 (textsS root l)) := Lib.hid (by have := HO.out; rwa [List.take_length] at this)
        have HND : Hid ((List.range l.length).any (dupAt l) = false) := Lib.hid (by
          rw [List.any_eq_false]; intro j hj; rw [HDUP.out j (List.mem_range.1 hj)]; decide)
        clear HO HDUP
        go_wp2_with fail
        refine (contains_any _ l 76 #[] (fun p => !rightB p) wr (HV.out.fr hfr) enters2
          (fun q W hq hW => seed2_any q W (HLL.out q hq).1 (HLL.out q hq).2 (HT.out.fr (hfr.trans hW (by simp))))).mono ?_
        rintro e w2 ⟨rfl, hb2⟩
        have hw2 : Fr [] wr w2 := Fr.ofBelow hb2
        have hfr2 : Fr [] w w2 := hfr.trans hw2 (by simp)
        have HO3 := Lib.hid (HO2.out.fr hw2 (by simp))
        cases hrt : l.any (fun p => !rightB p) with
        | true =>
          have HR : Hid (seedS l root = ([], 20)) := Lib.hid (by
            unfold seedS
            rw [if_neg (by omega), if_neg (by rw [HND.out]; decide), if_pos hrt])
          clear hrt
          go_wp2_with fail
          go_ret2
          exact ⟨by rw [HR.out]; rfl, hfr2.toBelow (by simp)⟩
        | false =>
          have HR : Hid (seedS l root = (dlist (textsS root l), 0)) := Lib.hid (by
            unfold seedS
            rw [if_neg (by omega), if_neg (by rw [HND.out]; decide), if_neg (by rw [hrt]; decide)])
          have HJ : Hid ((joinL (textsS root l)).length ≤ 140737488355328) := Lib.hid (texts_join hr HLL.out h16)
          clear hrt
          go_wp2_with fail
          refine (ofDr_any _ (textsS root l) w2 HO3.out.strs HJ.out (HT.out.fr hfr2)).mono ?_
          rintro e w4 ⟨rfl, hb4⟩
          go_wp2_with fail
          go_ret2
          exact ⟨by rw [HR.out]; rfl, (hfr2.below hb4 hfr2.size).toBelow (by simp)⟩
  · have t1 : decide ((16 : Int) < (l.length : Int)) = true := by simp; omega
    have HR : Hid (seedS l root = ([], 3)) := Lib.hid (by unfold seedS; rw [if_pos (by omega)])
    go_enter Tryz.func35, Tryz.ntmps35
    go_wp2_with fail
    go_ret2
    exact ⟨by rw [HR.out]; rfl, Below.refl _ _⟩
end Go.Proofs.YtjddngbgbbbefaaGreatDoor
