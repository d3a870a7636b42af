/-
  foyerref30: decimal, Owner, Used, Fields.
-/
import Derived.Test.YtcblpfepkkkilaaGreatDoorTtI
import Derived.Test.YtcblpfepkkkilaaGreatDoorRefB
import Derived.Test.YtcblpfepkkkilaaGreatDoorPlnNm
namespace Go.Proofs.YtcblpfepkkkilaaGreatDoor
open Go.RowKit

set_option maxRecDepth 100000 in
set_option maxHeartbeats 1000000 in
theorem r30dec_nat (fuel : Nat) : ∀ (n : Nat) (w : World), n < 10 ^ (fuel + 1) → n ≤ 9223372036854775807 →
    Calls Tryz.prog 61 #[.int .i64 (n : Int)] w fun e w' => e = .returned (.string ⟨(Lib.decDigits n).toArray⟩) ∧ Below w.heap.size w w' := by
  induction fuel with
  | zero =>
    intro n w h h9
    have h10 : n < 10 := by omega
    have hcut := dec_cut n h10
    have HD := Lib.hid (dec_small n h10)
    rw [Nat.mod_eq_of_lt h10] at HD
    have hn0 : ¬ ((n : Int) < 0) := by omega
    clear h
    go_enter Tryz.func61, Tryz.ntmps61
    go_wp2_with fail
    go_ret
    exact ⟨by rw [HD.out]; rfl, Below.refl _ _⟩
  | succ fuel ih =>
    intro n w h h9
    have IH := Lib.hid ih
    clear ih
    have hn0 : ¬ ((n : Int) < 0) := by omega
    by_cases h10 : n < 10
    · have hcut := dec_cut n h10
      have HD := Lib.hid (dec_small n h10)
      rw [Nat.mod_eq_of_lt h10] at HD
      clear h
      go_enter Tryz.func61, Tryz.ntmps61
      go_wp2_with fail
      go_ret
      exact ⟨by rw [HD.out]; rfl, Below.refl _ _⟩
    · obtain ⟨q, r, hq, hr, eq, er⟩ : ∃ q r : Nat, q = n / 10 ∧ r = n % 10 ∧ (n : Int) / 10 = (q : Int) ∧ (n : Int) % 10 = (r : Int) := ⟨n / 10, n % 10, rfl, rfl, by omega, by omega⟩
      have hq1 : q < 10 ^ (fuel + 1) := by rw [hq]; rw [Nat.pow_succ] at h; omega
      have hq2 : q ≤ 9223372036854775807 := by omega
      have hr1 : r < 10 := by omega
      have HD : Hid (Lib.decDigits n = Lib.decDigits q ++ [decC r]) := by
        show _ = _
        rw [dec_step n (by omega), hq, hr]
      have hcut := dec_cut r hr1
      have hd20 := dec_len q (by omega)
      have HQ := Lib.hid hq1
      clear hq hr h hq1
      have hmx : Tryz.prog.follows .mixedOrders = true := by kernel_rfl
      have g0 : (0 : Int) ≤ (r : Int) := by omega
      have g1 : (r : Int) ≤ (r : Int) + 1 := by omega
      have g2 : (r : Int) + 1 ≤ 10 := by omega
      have g3 : IntKind.i64.wrap ((r : Int) + 1) = (r : Int) + 1 := IntWalk.i64_in _ (by omega)
      have g4 : ((r : Int) + 1).toNat = r + 1 := by omega
      have g7 : (n : Int).tmod 10 = (r : Int) := by rw [Int.tmod_eq_emod_of_nonneg (by omega)]; exact er
      have hnsz : ¬ (9223372036854775807 < (Lib.decDigits q).length + 1) := by omega
      have g5 : IntKind.i64.wrap (q : Int) = (q : Int) := IntWalk.i64_in _ (by omega)
      have g6 : IntKind.i64.wrap (r : Int) = (r : Int) := IntWalk.i64_in _ (by omega)
      go_enter Tryz.func61, Tryz.ntmps61
      go_wp2_with fail
      refine region_held 11 (fun _ => True) hmx ?_
      change Held _ _ _ _ _ _ 12 (Array.replicate 12 false) _ _
      refine hd_take 0 (v := .int .i64 (n : Int)) rfl (by kernel_rfl) (by kernel_rfl) (by kernel_rfl) rfl trivial (fun W' hS => by go_simp) rfl ?_
      refine hd_take 3 (v := .string ⟨#[48, 49, 50, 51, 52, 53, 54, 55, 56, 57]⟩) rfl (by kernel_rfl) (by kernel_rfl) (by kernel_rfl) rfl trivial (fun W' hS => by go_simp) rfl ?_
      refine hd_take 4 (v := .int .i64 (n : Int)) rfl (by kernel_rfl) (by kernel_rfl) (by kernel_rfl) rfl trivial (fun W' hS => by go_simp) rfl ?_
      refine hd_take 6 (v := .int .i64 (n : Int)) rfl (by kernel_rfl) (by kernel_rfl) (by kernel_rfl) rfl trivial (fun W' hS => by go_simp) rfl ?_
      simp only [Act.put, List.setIfInBounds_toArray, List.set_cons_zero, List.set_cons_succ]
      refine hd_take 1 (v := .int .i64 (q : Int)) rfl (by kernel_rfl) (by kernel_rfl) (by kernel_rfl) rfl trivial (fun W' hS => by go_simp) rfl ?_
      refine hd_take 5 (v := .int .i64 (r : Int)) rfl (by kernel_rfl) (by kernel_rfl) (by kernel_rfl) rfl trivial (fun W' hS => by go_simp) rfl ?_
      refine hd_take 7 (v := .int .i64 (r : Int)) rfl (by kernel_rfl) (by kernel_rfl) (by kernel_rfl) rfl trivial (fun W' hS => by go_simp) rfl ?_
      simp only [Act.put, List.setIfInBounds_toArray, List.set_cons_zero, List.set_cons_succ]
      refine hd_take 8 (v := .int .i64 ((r : Int) + 1)) rfl (by kernel_rfl) (by kernel_rfl) (by kernel_rfl) rfl trivial (fun W' hS => by go_simp) rfl ?_
      simp only [Act.put, List.setIfInBounds_toArray, List.set_cons_zero, List.set_cons_succ]
      refine hd_take 9 (v := .string ⟨[decC r].toArray⟩) rfl (by kernel_rfl) (by kernel_rfl) (by kernel_rfl) rfl trivial (fun W' hS => by go_simp) rfl ?_
      simp only [Act.put, List.setIfInBounds_toArray, List.set_cons_zero, List.set_cons_succ]
      refine hd_one 2 (by kernel_rfl) rfl (by kernel_rfl) rfl (fun K' hK => ?_)
      go_simp
      refine (IH.out q _ HQ.out hq2).mono ?_
      rintro e w1 ⟨rfl, hb1⟩
      have hbb := (Fr.refl [] w).drew.below hb1 (Nat.le_refl _)
      refine hK.out _ _ (fun _ => trivial) ?_
      clear hK K'
      try simp only [Act.put, List.setIfInBounds_toArray, List.set_cons_zero, List.set_cons_succ]
      refine hd_one 10 (by kernel_rfl) rfl (by kernel_rfl) rfl (fun K' hK => ?_)
      go_simp
      refine hK.out _ _ (fun _ => trivial) ?_
      clear hK K'
      try simp only [Act.put, List.setIfInBounds_toArray, List.set_cons_zero, List.set_cons_succ]
      refine hd_one 11 (by kernel_rfl) rfl (by kernel_rfl) rfl (fun K' hK => ?_)
      go_simp
      refine hK.out _ _ (fun h => absurd rfl h) ?_
      clear hK K'
      refine held_done (by kernel_rfl) ?_
      go_wp2_with fail
      go_ret
      exact ⟨by rw [HD.out, ← ba_append]; rfl, hbb.toBelow (by simp)⟩
set_option maxRecDepth 100000 in
set_option maxHeartbeats 1000000 in
theorem r30dec_neg (fuel : Nat) : ∀ (m : Nat) (x : Int) (w : World), x = -(m : Int) → 1 ≤ m → m < 10 ^ (fuel + 1) → m ≤ 9223372036854775808 →
    Calls Tryz.prog 61 #[.int .i64 x] w fun e w' => e = .returned (.string ⟨(45 :: Lib.decDigits m).toArray⟩) ∧ Below w.heap.size w w' := by
  induction fuel with
  | zero =>
    intro m x w hx h1 h h9
    have hx0 : x < 0 := by omega
    have e1 : x.tdiv 10 = 0 := by rw [hx, Int.neg_tdiv, Int.tdiv_eq_ediv_of_nonneg (by omega)]; omega
    have e2 : IntKind.i64.wrap (-x) = (m : Int) := by rw [hx, Int.neg_neg]; exact IntWalk.i64_in _ (by omega)
    have e3 : IntKind.i64.wrap 0 = 0 := by decide
    have hm20 := dec_len m (by omega)
    have hm9 : m ≤ 9 := by omega
    clear hx
    go_enter Tryz.func61, Tryz.ntmps61
    go_wp2_with fail
    refine (r30dec_nat 1 m _ (by omega) (by omega)).mono ?_
    rintro e w1 ⟨rfl, hb1⟩
    go_wp2_with fail
    go_ret
    exact ⟨by rw [show 45 :: Lib.decDigits m = [45] ++ Lib.decDigits m from rfl, ← ba_append]; rfl, hb1⟩
  | succ fuel ih =>
    intro m x w hx h1 h h9
    have IH := Lib.hid ih
    clear ih
    have hx0 : x < 0 := by omega
    by_cases h10 : m < 10
    · have e1 : x.tdiv 10 = 0 := by rw [hx, Int.neg_tdiv, Int.tdiv_eq_ediv_of_nonneg (by omega)]; omega
      have e2 : IntKind.i64.wrap (-x) = (m : Int) := by rw [hx, Int.neg_neg]; exact IntWalk.i64_in _ (by omega)
      have e3 : IntKind.i64.wrap 0 = 0 := by decide
      have hm20 := dec_len m (by omega)
      clear hx h
      go_enter Tryz.func61, Tryz.ntmps61
      go_wp2_with fail
      refine (r30dec_nat 1 m _ (by omega) (by omega)).mono ?_
      rintro e w1 ⟨rfl, hb1⟩
      go_wp2_with fail
      go_ret
      exact ⟨by rw [show 45 :: Lib.decDigits m = [45] ++ Lib.decDigits m from rfl, ← ba_append]; rfl, hb1⟩
    · obtain ⟨q, r, hq, hr⟩ : ∃ q r : Nat, q = m / 10 ∧ r = m % 10 := ⟨_, _, rfl, rfl⟩
      obtain ⟨y, hy, e1⟩ : ∃ y : Int, y = -(q : Int) ∧ x.tdiv 10 = y := ⟨_, rfl, by rw [hx, Int.neg_tdiv, Int.tdiv_eq_ediv_of_nonneg (by omega)]; omega⟩
      obtain ⟨z, hz, e4⟩ : ∃ z : Int, z = -(r : Int) ∧ x.tmod 10 = z := ⟨_, rfl, by rw [hx, Int.neg_tmod, Int.tmod_eq_emod_of_nonneg (by omega)]; omega⟩
      have e2 : (y == 0) = false := by rw [beq_eq_false_iff_ne]; omega
      have e3 : IntKind.i64.wrap y = y := IntWalk.i64_in _ (by omega)
      have e5 : IntKind.i64.wrap z = z := IntWalk.i64_in _ (by omega)
      have e6 : IntKind.i64.wrap (-z) = (r : Int) := by rw [hz, Int.neg_neg]; exact IntWalk.i64_in _ (by omega)
      have hq1 : q < 10 ^ (fuel + 1) := by rw [hq]; rw [Nat.pow_succ] at h; omega
      have hq2 : q ≤ 9223372036854775808 := by omega
      have hq0 : 1 ≤ q := by omega
      have hr1 : r < 10 := by omega
      have HD : Hid (45 :: Lib.decDigits m = (45 :: Lib.decDigits q) ++ Lib.decDigits r) := by
        show _ = _
        rw [dec_step m (by omega), dec_small r hr1, Nat.mod_eq_of_lt hr1, hq, hr]; rfl
      have hd20 := dec_len q (by omega)
      have hr20 := dec_len r (by omega)
      have HQ := Lib.hid hq1
      have HY := Lib.hid hy
      clear hq hr h hq1 hx hy hz
      have hmx : Tryz.prog.follows .mixedOrders = true := by kernel_rfl
      go_enter Tryz.func61, Tryz.ntmps61
      go_wp2_with fail
      refine (IH.out q y _ HY.out hq0 HQ.out hq2).mono ?_
      rintro e w1 ⟨rfl, hb1⟩
      go_wp2_with fail
      refine (r30dec_nat 1 r _ (by omega) (by omega)).mono ?_
      rintro e w2 ⟨rfl, hb2⟩
      go_wp2_with fail
      go_ret
      exact ⟨by rw [HD.out, ← ba_append]; rfl, hb1.trans (hb2.mono hb1.size)⟩
theorem r30dec_any (x : Int) (w : World) (h0 : -9223372036854775808 ≤ x) (h1 : x ≤ 9223372036854775807) :
    Calls Tryz.prog 61 #[.int .i64 x] w fun e w' => e = .returned (.string ⟨(Lib.itoa x).toArray⟩) ∧ Below w.heap.size w w' := by
  by_cases h : x < 0
  · rw [show Lib.itoa x = 45 :: Lib.decDigits x.natAbs by unfold Lib.itoa; rw [if_pos h]]
    have h2 : x.natAbs ≤ 9223372036854775808 := by omega
    exact r30dec_neg 20 x.natAbs x w (by omega) (by omega) (Nat.lt_of_le_of_lt h2 (by decide)) h2
  · rw [show Lib.itoa x = Lib.decDigits x.toNat by unfold Lib.itoa; rw [if_neg h]]
    have h2 : x.toNat ≤ 9223372036854775807 := by omega
    have := r30dec_nat 20 x.toNat w (Nat.lt_of_le_of_lt h2 (by decide)) h2
    rwa [show ((x.toNat : Nat) : Int) = x by omega] at this
set_option maxRecDepth 100000 in
set_option maxHeartbeats 4000000 in
theorem rowner30_any (v : Value) (t : Ttl) (w : World) (hv : TtlR w v t) :
    Calls Tryz.prog 15 #[v] w fun e w' => e = .returned (.string ⟨(ownerT t).toArray⟩) ∧ Below w.heap.size w w' := by
  obtain ⟨cv, rfl, hc⟩ := hv
  obtain ⟨a, cap, rfl, hlc, hcap, ha⟩ := hc.form
  have HC := Lib.hid hc
  clear hc
  obtain ⟨n, hn⟩ : ∃ n, n = t.chain.length := ⟨_, rfl⟩
  have H0 := Lib.hid ((Fr.refl [] w).alloc (.cells #[.int .i64 t.serial, .int .i64 t.shw, .int .i64 t.place, .string ⟨t.first.toArray⟩, .slice a t.chain.length cap] 24))
  rw [← hn] at HC hlc ha H0 ⊢
  cases n with
  | zero =>
    have HO := Lib.hid (ownerT_none hn.symm)
    rw [HO.out]
    clear hn
    go_enter Tryz.func15, Tryz.ntmps15
    go_wp2_with fail
    go_ret
    exact ⟨rfl, H0.out.toBelow (by simp)⟩
  | succ n =>
    obtain ⟨b, off, rfl⟩ := ha n (by omega)
    obtain ⟨x, hx⟩ : ∃ x, t.chain[n]? = some x := ⟨_, List.getElem?_eq_getElem (by omega)⟩
    have HO := Lib.hid (ownerT_at hn.symm hx)
    rw [HO.out]
    have c0 := H0.out.cell (HC.out.cells n x hx).1 (by simp)
    have g1 : IntKind.i64.wrap (((n + 1 : Nat) : Int) - 1) = (n : Int) := by rw [IntWalk.i64_in _ (by omega)]; omega
    have g2 : (0 : Int) < ((n + 1 : Nat) : Int) := by omega
    have g3 : decide ((0 : Int) < ((n + 1 : Nat) : Int)) = true := decide_eq_true g2
    have g4 : (0 : Int) ≤ (n : Int) := by omega
    have g5 : (n : Int) < ((n + 1 : Nat) : Int) := by omega
    clear hn hx
    go_enter Tryz.func15, Tryz.ntmps15
    go_wp2_with fail
    go_ret
    exact ⟨rfl, H0.out.toBelow (by simp)⟩

set_option maxRecDepth 100000 in
set_option maxHeartbeats 2000000 in
theorem rused30_any (v : Value) (t : Ttl) (key : List UInt8) (w : World) (hv : TtlR w v t) :
    Calls Tryz.prog 23 #[v, .string ⟨key.toArray⟩] w fun e w' => e = .returned (.bool (usedT t key)) ∧ Below w.heap.size w w' := by
  obtain ⟨cv, rfl, hc⟩ := hv
  obtain ⟨a, cap, rfl, hlc, hcap, ha⟩ := hc.form
  obtain ⟨W0, hW0⟩ : ∃ W0, W0 = w.alloc (.cells #[.int .i64 t.serial, .int .i64 t.shw, .int .i64 t.place, .string ⟨t.first.toArray⟩, .slice a t.chain.length cap] 24) := ⟨_, rfl⟩
  obtain ⟨p, ep⟩ : ∃ p, p = w.heap.size := ⟨_, rfl⟩
  have h0 : Fr [] w W0 := by rw [hW0]; exact (Fr.refl [] w).alloc _
  have hp0 : W0.heap[p]? = some (.cells #[.int .i64 t.serial, .int .i64 t.shw, .int .i64 t.place, .string ⟨t.first.toArray⟩, .slice a t.chain.length cap] 24 (0, 0)) := by rw [hW0, ep]; exact heap_new rfl
  have c3 := row_cell hp0 3
  have c4 := row_cell hp0 4
  simp at c3 c4
  rw [hW0, ep] at c3 c4
  obtain ⟨r, er⟩ : ∃ r, r = usedT t key := ⟨_, rfl⟩
  rw [← er]
  have ER := Lib.hid er
  have HC := Lib.hid (hc.fr h0)
  clear hc er
  by_cases h1 : t.first = key
  · have u1 : (t.first == key) = true := by rw [h1]; simp
    have HR : Hid (r = true) := Lib.hid (by rw [ER.out]; unfold usedT; rw [u1]; rfl)
    have HF := Lib.hid h0
    rw [hW0] at HF
    clear h1 hW0 hp0 h0 ep
    go_enter Tryz.func23, Tryz.ntmps23
    go_wp2_with fail
    go_ret
    exact ⟨by rw [HR.out]; first | rfl | simp, HF.out.toBelow (by simp)⟩
  have u1 : (t.first == key) = false := by rw [beq_eq_false_iff_ne]; exact h1
  have HR : Hid (r = t.chain.any fun x => x.nk == key) := Lib.hid (by rw [ER.out]; unfold usedT; rw [u1]; rfl)
  go_enter Tryz.func23, Tryz.ntmps23
  go_wp2_with fail
  rw [← hW0, ← ep]
  rw [← hW0, ← ep] at c3 c4
  clear hW0 ep h1
  go_loopg [5] t.chain.length (fun gh i wr => ∃ k : Nat, k ≤ t.chain.length ∧ gh = t.chain.length - k ∧ i = .int .i64 (k : Int) ∧ (∀ x ∈ t.chain.take k, (x.nk == key) = false) ∧ W0 = wr)
  case atStart => exact ⟨0, by omega, by omega, rfl, fun x hx => by simp at hx, rfl⟩
  case round =>
    obtain ⟨k, hk, hgh, rfl, hall, rfl⟩ := hrel
    have HG := Lib.hid hgh
    have HA := Lib.hid hall
    clear hgh hall
    by_cases hlt : k < t.chain.length
    · have t3 : decide ((k : Int) < (t.chain.length : Int)) = true := by simp; omega
      obtain ⟨b, off, rfl⟩ := ha k hlt
      obtain ⟨x, hx⟩ : ∃ x, t.chain[k]? = some x := ⟨_, List.getElem?_eq_getElem hlt⟩
      obtain ⟨e0, u, e1, hu⟩ := HC.out.cells k x hx
      have HXM : Hid (x ∈ t.chain) := Lib.hid (List.mem_of_getElem? hx)
      have HNX : Hid ((x.nk == key) = false → ∀ y ∈ t.chain.take (k + 1), (y.nk == key) = false) := Lib.hid (fun h y hy => by
        rw [List.take_add_one, hx, List.mem_append] at hy
        rcases hy with hy | hy
        · exact HA.out y hy
        · obtain rfl : y = x := by simpa using hy
          exact h)
      have i0 : (0 : Int) ≤ (k : Int) := by omega
      have i1 : (k : Int) < (t.chain.length : Int) := by omega
      clear hx hu e1
      by_cases h2 : x.nk = key
      · have u2 : (x.nk == key) = true := by rw [h2]; simp
        have HT : Hid (r = true) := Lib.hid (by rw [HR.out]; exact List.any_eq_true.2 ⟨x, HXM.out, u2⟩)
        clear h2
        go_wp2_with fail
        go_ret
        exact ⟨by rw [HT.out]; first | rfl | simp, h0.toBelow (by simp)⟩
      · have u2 : (x.nk == key) = false := by rw [beq_eq_false_iff_ne]; exact h2
        have HT := Lib.hid (HNX.out u2)
        clear h2
        go_wp2_with fail
        go_roundg (t.chain.length - (k + 1))
        case measure => have := HG.out; omega
        case rel => exact ⟨k + 1, by omega, rfl, by go_num, HT.out, rfl⟩
    · obtain rfl : k = t.chain.length := by omega
      have t3 : decide ((t.chain.length : Int) < (t.chain.length : Int)) = false := by simp
      have HT : Hid (r = false) := Lib.hid (by
        rw [HR.out]
        have := HA.out
        rw [List.take_length] at this
        rw [List.any_eq_false]
        exact fun x hx => by rw [this x hx]; decide)
      go_wp2_with fail
      go_ret
      exact ⟨by rw [HT.out]; rfl, h0.toBelow (by simp)⟩
set_option maxRecDepth 100000 in
set_option maxHeartbeats 4000000 in
theorem rfields30_any (v : Value) (t : Ttl) (tk : List UInt8) (w : World) (hv : TtlR w v t) (hS : TSmall t) (hto : tk.length ≤ 100000) :
    Calls Tryz.prog 25 #[v, .string ⟨tk.toArray⟩] w fun e w' => ∃ v, e = .returned v ∧ Strs w' v (fieldsT t tk) ∧ Below w.heap.size w w' := by
  have hmx : Tryz.prog.follows .mixedOrders = true := by kernel_rfl
  obtain ⟨cv, rfl, hc⟩ := hv
  obtain ⟨a, cap, rfl, hlc, hcap, ha⟩ := hc.form
  have HC := Lib.hid hc
  have HS := Lib.hid hS
  have hs1 := hS.s.1
  have hs2 := hS.s.2
  have hh1 := hS.h.1
  have hh2 := hS.h.2
  have hp1 := hS.p.1
  have hp2 := hS.p.2
  have hn100 := hS.n
  clear hc hS
  have HJ := Lib.hid (fieldsT_join HS.out hto)
  obtain ⟨W0, hW0⟩ : ∃ W0, W0 = w.alloc (.cells #[.int .i64 t.serial, .int .i64 t.shw, .int .i64 t.place, .string ⟨t.first.toArray⟩, .slice a t.chain.length cap] 24) := ⟨_, rfl⟩
  obtain ⟨p, ep⟩ : ∃ p, p = w.heap.size := ⟨_, rfl⟩
  have h0 : Fr [] w W0 := by rw [hW0]; exact (Fr.refl [] w).alloc _
  have hp0 : W0.heap[p]? = some (.cells #[.int .i64 t.serial, .int .i64 t.shw, .int .i64 t.place, .string ⟨t.first.toArray⟩, .slice a t.chain.length cap] 24 (0, 0)) := by rw [hW0, ep]; exact heap_new rfl
  go_enter Tryz.func25, Tryz.ntmps25
  go_wp2_with fail
  rw [← hW0, ← ep]
  clear hW0 ep
  have c0 := row_cell hp0 0
  have c1 := row_cell hp0 1
  have c3 := row_cell hp0 3
  simp at c0 c1 c3
  have hD : Fr [] W0 W0.drew := (Fr.refl [] W0).drew
  have hS0 : W0.drew.cell? ⟨p, 0, none⟩ = some (.int .i64 t.serial) ∧ W0.drew.cell? ⟨p, 1, none⟩ = some (.int .i64 t.shw) ∧ W0.drew.cell? ⟨p, 3, none⟩ = some (.string ⟨t.first.toArray⟩) := ⟨hD.cell c0 (by simp), hD.cell c1 (by simp), hD.cell c3 (by simp)⟩
  refine region_held 9 (fun W' => W'.cell? ⟨p, 0, none⟩ = some (.int .i64 t.serial) ∧ W'.cell? ⟨p, 1, none⟩ = some (.int .i64 t.shw) ∧ W'.cell? ⟨p, 3, none⟩ = some (.string ⟨t.first.toArray⟩)) hmx ?_
  change Held _ _ _ _ _ _ 10 (Array.replicate 10 false) _ _
  refine hd_take 0 (v := .pointer (some ⟨p, 0, none⟩)) rfl (by kernel_rfl) (by kernel_rfl) (by kernel_rfl) rfl hS0 (fun W' hS => by go_simp) rfl ?_
  refine hd_take 3 (v := .pointer (some ⟨p, 1, none⟩)) rfl (by kernel_rfl) (by kernel_rfl) (by kernel_rfl) rfl hS0 (fun W' hS => by go_simp) rfl ?_
  refine hd_take 6 (v := .pointer (some ⟨p, 3, none⟩)) rfl (by kernel_rfl) (by kernel_rfl) (by kernel_rfl) rfl hS0 (fun W' hS => by go_simp) rfl ?_
  try simp only [Act.put, List.setIfInBounds_toArray, List.set_cons_zero, List.set_cons_succ]
  refine hd_take 1 (v := .int .i64 t.serial) rfl (by kernel_rfl) (by kernel_rfl) (by kernel_rfl) rfl hS0 (fun W' hS => by obtain ⟨s0, s1, s2⟩ := hS; go_simp) rfl ?_
  refine hd_take 4 (v := .int .i64 t.shw) rfl (by kernel_rfl) (by kernel_rfl) (by kernel_rfl) rfl hS0 (fun W' hS => by obtain ⟨s0, s1, s2⟩ := hS; go_simp) rfl ?_
  refine hd_take 7 (v := .string ⟨t.first.toArray⟩) rfl (by kernel_rfl) (by kernel_rfl) (by kernel_rfl) rfl hS0 (fun W' hS => by obtain ⟨s0, s1, s2⟩ := hS; go_simp) rfl ?_
  try simp only [Act.put, List.setIfInBounds_toArray, List.set_cons_zero, List.set_cons_succ]
  refine hd_one 2 (by kernel_rfl) rfl (by kernel_rfl) rfl (fun K' hK => ?_)
  go_simp
  refine (r30dec_any t.serial _ hs1 hs2).mono ?_
  rintro e v1 ⟨rfl, hbb1⟩
  have hf1 : Fr [] W0 v1 := hD.below hbb1 hD.size
  refine hK.out _ _ (fun _ => ⟨hf1.cell c0 (by simp), hf1.cell c1 (by simp), hf1.cell c3 (by simp)⟩) ?_
  clear hK K'
  try simp only [Act.put, List.setIfInBounds_toArray, List.set_cons_zero, List.set_cons_succ]
  refine hd_one 5 (by kernel_rfl) rfl (by kernel_rfl) rfl (fun K' hK => ?_)
  go_simp
  refine (r30dec_any t.shw _ hh1 hh2).mono ?_
  rintro e v2 ⟨rfl, hbb2⟩
  have hf2 : Fr [] W0 v2 := hf1.below hbb2 hf1.size
  refine hK.out _ _ (fun _ => ⟨hf2.cell c0 (by simp), hf2.cell c1 (by simp), hf2.cell c3 (by simp)⟩) ?_
  clear hK K'
  try simp only [Act.put, List.setIfInBounds_toArray, List.set_cons_zero, List.set_cons_succ]
  refine hd_one 8 (by kernel_rfl) rfl (by kernel_rfl) rfl (fun K' hK => ?_)
  go_simp
  have hfa := hf2.alloc (.cells #[.string ⟨(Lib.itoa t.serial).toArray⟩, .string ⟨(Lib.itoa t.shw).toArray⟩, .string ⟨t.first.toArray⟩] 9)
  refine hK.out _ _ (fun _ => ⟨hfa.cell c0 (by simp), hfa.cell c1 (by simp), hfa.cell c3 (by simp)⟩) ?_
  clear hK K'
  try simp only [Act.put, List.setIfInBounds_toArray, List.set_cons_zero, List.set_cons_succ]
  have hos : OwnS v2.heap.size (v2.alloc (.cells #[.string ⟨(Lib.itoa t.serial).toArray⟩, .string ⟨(Lib.itoa t.shw).toArray⟩, .string ⟨t.first.toArray⟩] 9)) (.slice (some ⟨v2.heap.size, 0, none⟩) 3 3) [(Lib.itoa t.serial), (Lib.itoa t.shw), t.first] := ⟨rfl, Or.inr ⟨v2.heap.size, 3, _, rfl, Nat.le_refl _, heap_new rfl, Nat.le_refl _, by decide, rfl, rfl⟩⟩
  obtain ⟨wz, hwz⟩ : ∃ wz, wz = v2.alloc (.cells #[.string ⟨(Lib.itoa t.serial).toArray⟩, .string ⟨(Lib.itoa t.shw).toArray⟩, .string ⟨t.first.toArray⟩] 9) := ⟨_, rfl⟩
  rw [← hwz] at hos hfa ⊢
  clear hwz
  refine hd_one 9 (by kernel_rfl) rfl (by kernel_rfl) rfl (fun K' hK => ?_)
  go_simp
  refine hK.out _ _ (fun h => absurd rfl h) ?_
  clear hK K'
  refine held_done (by kernel_rfl) ?_
  have HOS := Lib.hid (hos.mono (base' := W0.heap.size) hf2.size)
  have HFA := Lib.hid hfa
  clear hos hfa hS0 hD hf1 hf2 hbb1 hbb2
  have HP0 := Lib.hid hp0
  have H0 := Lib.hid h0
  have hqz := HFA.out.at HP0.out (by simp)
  have c4 := row_cell hqz 4
  simp at c4
  clear hqz c0 c1 c3 hp0
  go_wp2_with fail
  clear c4
  have h0s : w.heap.size ≤ W0.heap.size := h0.size
  have hzs : W0.heap.size ≤ wz.heap.size := HFA.out.size
  have HPW : Hid (p < W0.heap.size) := Lib.hid (lt_of_block HP0.out)
  have HQZ := Lib.hid (HFA.out.at HP0.out (by simp))
  clear h0
  go_loopg [5, 6] t.chain.length (fun gh out i wr => ∃ k : Nat, k ≤ t.chain.length ∧ gh = t.chain.length - k ∧ i = .int .i64 (k : Int) ∧ OwnS W0.heap.size wr out ((fieldsT t tk).take (k + 3)) ∧ Fr [] w wr ∧ W0.heap.size ≤ wr.heap.size ∧ wr.heap[p]? = some (.cells #[.int .i64 t.serial, .int .i64 t.shw, .int .i64 t.place, .string ⟨t.first.toArray⟩, .slice a t.chain.length cap] 24 (0, 0)))
  case atStart => exact ⟨0, by omega, by omega, rfl, by rw [fieldsT_three]; exact HOS.out, H0.out.trans HFA.out (by simp), hzs, HQZ.out⟩
  case round =>
    clear HOS HFA
    obtain ⟨k, hk, hgh, rfl, hos, hfr, hsz, hq⟩ := hrel
    have HG := Lib.hid hgh
    have HOS := Lib.hid hos
    clear hgh
    have c4 := row_cell hq 4
    simp at c4
    have HQ := Lib.hid hq
    clear hq
    have HLE : Hid (((fieldsT t tk).take (k + 3)).length = k + 3) := Lib.hid (by rw [List.length_take, fieldsT_len]; omega)
    clear hos
    by_cases hlt : k < t.chain.length
    · have t1 : decide ((k : Int) < (t.chain.length : Int)) = true := by simp; omega
      obtain ⟨b, off, rfl⟩ := ha k hlt
      obtain ⟨x, hx⟩ : ∃ x, t.chain[k]? = some x := ⟨_, List.getElem?_eq_getElem hlt⟩
      obtain ⟨e0, u, e1, hu⟩ := (HC.out.fr hfr).cells k x hx
      have HSN := Lib.hid (fieldsT_snoc t tk k x hx)
      clear hx hu e1
      have hl2 : ((fieldsT t tk).take (k + 3)).length < 1000000 := by rw [HLE.out]; omega
      generalize (fieldsT t tk).take (k + 3) = L at HOS HSN hl2 HLE
      have i0 : (0 : Int) ≤ (k : Int) := by omega
      have i1 : (k : Int) < (t.chain.length : Int) := by omega
      go_wp2_with (at_builtin; go_loud (refine wpList_appS rfl (.tmp 23) (.tmp 30) rfl W0.heap.size _ L x.nk w rfl rfl HOS.out hfr h0s hsz hl2 ?_))
      intro v7 w7 g7 c7 hv7 ho7 hf7 hg7
      subst hv7
      have HO7 := Lib.hid ho7
      have hs7 : W0.heap.size ≤ w7.heap.size := Nat.le_trans hsz hg7.size
      have HQ7 := Lib.hid (hg7.at HQ.out (fun hm => by have := (ownBlock_cells HOS.out p (Option.mem_toList.1 hm)).1; have := HPW.out; omega))
      clear ho7 hg7
      go_wp2_with fail
      go_roundg (t.chain.length - (k + 1))
      case measure => have := HG.out; omega
      case rel => exact ⟨k + 1, by omega, rfl, by go_num, by rw [HSN.out]; exact HO7.out, hf7, hs7, HQ7.out⟩
    · obtain rfl : k = t.chain.length := by omega
      have t1 : decide ((t.chain.length : Int) < (t.chain.length : Int)) = false := by simp
      have HEN := Lib.hid (fieldsT_end t tk)
      have hl2 : ((fieldsT t tk).take (t.chain.length + 3)).length < 1000000 := by rw [HLE.out]; omega
      generalize (fieldsT t tk).take (t.chain.length + 3) = L at HOS HEN hl2 HLE
      go_wp2_with (at_builtin; go_loud (refine wpList_appS rfl (.tmp 32) (.tmp 34) rfl W0.heap.size _ L tk w rfl rfl HOS.out hfr h0s hsz hl2 ?_))
      intro v7 w7 g7 c7 hv7 ho7 hf7 _
      subst hv7
      rw [HEN.out] at ho7
      have HO7 := Lib.hid ho7
      clear ho7
      go_wp2_with fail
      go_ret
      exact ⟨_, rfl, HO7.out.strs, hf7.toBelow (by simp)⟩
end Go.Proofs.YtcblpfepkkkilaaGreatDoor
