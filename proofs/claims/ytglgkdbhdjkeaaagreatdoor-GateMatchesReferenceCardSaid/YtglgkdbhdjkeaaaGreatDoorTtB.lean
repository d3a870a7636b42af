/-
  slices.ContainsFunc over strings and over transfers; title.Owner, used, formed.
  title.Message.
-/
import Derived.Test.YtglgkdbhdjkeaaaGreatDoorTtA
import Derived.Test.YtglgkdbhdjkeaaaGreatDoorDigE
import Derived.Test.YtglgkdbhdjkeaaaGreatDoorItI
import Derived.Test.YtglgkdbhdjkeaaaGreatDoorSgnC
import Derived.Test.YtglgkdbhdjkeaaaGreatDoorMrk
namespace Go.Proofs.YtglgkdbhdjkeaaaGreatDoor
open Go.RowKit

set_option maxRecDepth 100000 in
set_option maxHeartbeats 1000000 in
theorem indexS_any (v : Value) (l : List (List UInt8)) (lf : Nat) (lc : Array Value) (pr : List UInt8 → Bool) (w : World) (hv : StrsW w v l)
    (he : ∀ args w, (callFunc lf args).run Tryz.prog w = .ok (.enter lf args) w)
    (hcall : ∀ (p : List UInt8) (W : World), p ∈ l → Fr [] w W → Calls Tryz.prog lf (#[.string ⟨p.toArray⟩] ++ lc) W fun e W' => e = .returned (.bool (pr p)) ∧ Below W.heap.size W W') :
    Calls Tryz.prog 98 #[v, .func (.func lf) #[] lc] w fun e w' => ∃ k : Int, e = .returned (.int .i64 k) ∧ decide (0 ≤ k) = l.any pr ∧ Below w.heap.size w w' := by
  have HV := Lib.hid hv
  obtain ⟨a, cap, rfl, hlc, hcap, ha⟩ := hv.form
  clear hv
  have HCALL := Lib.hid hcall
  clear hcall
  go_enter Tryz.func98, Tryz.ntmps98
  go_wp2_with fail
  go_loopg [8] (l.length + 1) (fun g i wr => ∃ k : Nat, k ≤ l.length ∧ g = l.length + 1 - k ∧ i = .int .i64 (k : Int) ∧ (l.take k).any pr = false ∧ Fr [] w wr)
  case atStart => exact ⟨0, by omega, by omega, rfl, by simp, Fr.refl _ _⟩
  case round =>
    obtain ⟨k, hk, hg, rfl, hany, hfr⟩ := hrel
    have HG := Lib.hid hg
    have HANY := Lib.hid hany
    clear hg hany
    by_cases hlt : k < l.length
    · obtain ⟨b, off, rfl⟩ := ha k hlt
      have t1 : decide ((k : Int) < (l.length : Int)) = true := by simp; omega
      have c0 := hfr.cell (HV.out.cell k hlt) (by simp)
      have HM := Lib.hid (getD_mem l k [] hlt)
      have HS : Hid (∀ p, p = l.getD k [] → (l.take (k + 1)).any pr = ((l.take k).any pr || pr p)) := Lib.hid (fun p hp => by
        rw [take_snoc' l k [] hlt, List.any_append, ← hp]; simp)
      generalize l.getD k [] = p at c0 HM HS
      have HS := Lib.hid (HS.out p rfl)
      have HC := Lib.hid (HCALL.out p wr HM.out hfr)
      go_wp2_with fail
      refine HC.out.mono ?_
      rintro e w1 ⟨rfl, hb1⟩
      have hf1 : Fr [] w w1 := hfr.below hb1 hfr.size
      cases hpr : pr p with
      | true =>
        have HR : Hid (l.any pr = true) := Lib.hid (List.any_eq_true.2 ⟨p, HM.out, hpr⟩)
        clear hpr
        go_wp2_with fail
        go_ret
        exact ⟨k, rfl, by rw [HR.out]; simp, hf1.toBelow (by simp)⟩
      | false =>
        have HQ := Lib.hid hpr
        clear hpr
        go_wp2_with fail
        go_roundg (l.length + 1 - (k + 1))
        case measure => have := HG.out; omega
        case rel => exact ⟨k + 1, by omega, rfl, by go_num, by rw [HS.out, HANY.out, HQ.out]; rfl, hf1⟩
    · obtain rfl : k = l.length := by omega
      have t1 : decide ((l.length : Int) < (l.length : Int)) = false := by simp
      have HR : Hid (l.any pr = false) := Lib.hid (by have := HANY.out; rwa [List.take_length] at this)
      go_wp2_with fail
      go_ret
      exact ⟨-1, rfl, by rw [HR.out]; rfl, hfr.toBelow (by simp)⟩
set_option maxRecDepth 100000 in
theorem containsS_any (v : Value) (l : List (List UInt8)) (lf : Nat) (lc : Array Value) (pr : List UInt8 → Bool) (w : World) (hv : StrsW w v l)
    (he : ∀ args w, (callFunc lf args).run Tryz.prog w = .ok (.enter lf args) w)
    (hcall : ∀ (p : List UInt8) (W : World), p ∈ l → Fr [] w W → Calls Tryz.prog lf (#[.string ⟨p.toArray⟩] ++ lc) W fun e W' => e = .returned (.bool (pr p)) ∧ Below W.heap.size W W') :
    Calls Tryz.prog 71 #[v, .func (.func lf) #[] lc] w fun e w' => e = .returned (.bool (l.any pr)) ∧ Below w.heap.size w w' := by
  go_enter Tryz.func71, Tryz.ntmps71
  go_wp2_with fail
  refine (indexS_any v l lf lc pr w hv he hcall).mono ?_
  rintro e w1 ⟨k, rfl, hk, hb1⟩
  go_wp2_with fail
  go_ret
  exact ⟨by rw [← hk]; rfl, hb1⟩

/-- A transfer as a value. -/
def trfV (x : Trf) (u : Value) : Value := .agg #[.string ⟨x.nk.toArray⟩, u]
set_option maxRecDepth 100000 in
set_option maxHeartbeats 1000000 in
theorem indexT_any (v : Value) (l : List Trf) (lf : Nat) (lc : Array Value) (pr : Trf → Bool) (w : World) (hv : Trs w v l)
    (he : ∀ args w, (callFunc lf args).run Tryz.prog w = .ok (.enter lf args) w)
    (hcall : ∀ (p : Trf) (u : Value) (W : World), p ∈ l → StrsW W u p.sig → Fr [] w W → Calls Tryz.prog lf (#[trfV p u] ++ lc) W fun e W' => e = .returned (.bool (pr p)) ∧ Below W.heap.size W W') :
    Calls Tryz.prog 99 #[v, .func (.func lf) #[] lc] w fun e w' => ∃ k : Int, e = .returned (.int .i64 k) ∧ decide (0 ≤ k) = l.any pr ∧ Below w.heap.size w w' := by
  have HV := Lib.hid hv
  obtain ⟨a, cap, rfl, hlc, hcap, ha⟩ := hv.form
  clear hv
  have HCALL := Lib.hid hcall
  clear hcall
  go_enter Tryz.func99, Tryz.ntmps99
  go_wp2_with fail
  go_loopg [8] (l.length + 1) (fun g i wr => ∃ k : Nat, k ≤ l.length ∧ g = l.length + 1 - k ∧ i = .int .i64 (k : Int) ∧ (l.take k).any pr = false ∧ Fr [] w wr)
  case atStart => exact ⟨0, by omega, by omega, rfl, by simp, Fr.refl _ _⟩
  case round =>
    obtain ⟨k, hk, hg, rfl, hany, hfr⟩ := hrel
    have HG := Lib.hid hg
    have HANY := Lib.hid hany
    clear hg hany
    by_cases hlt : k < l.length
    · obtain ⟨b, off, rfl⟩ := ha k hlt
      have t1 : decide ((k : Int) < (l.length : Int)) = true := by simp; omega
      obtain ⟨p, hp⟩ : ∃ p, l[k]? = some p := ⟨l[k], List.getElem?_eq_getElem hlt⟩
      obtain ⟨c0, u, c1, hu⟩ := (HV.out.fr hfr).cells k p hp
      have HM := Lib.hid (List.mem_of_getElem? hp)
      have HP := Lib.hid hp
      have HC := Lib.hid (HCALL.out p u wr HM.out hu hfr)
      clear hp hu
      unfold trfV at HC
      go_wp2_with fail
      refine HC.out.mono ?_
      rintro e w1 ⟨rfl, hb1⟩
      have hf1 : Fr [] w w1 := hfr.below hb1 hfr.size
      have HS : Hid ((l.take (k + 1)).any pr = ((l.take k).any pr || pr p)) := Lib.hid (by
        rw [List.take_add_one, HP.out, List.any_append]; simp)
      cases hpr : pr p with
      | true =>
        have HR : Hid (l.any pr = true) := Lib.hid (List.any_eq_true.2 ⟨p, HM.out, hpr⟩)
        clear hpr
        go_wp2_with fail
        go_ret
        exact ⟨k, rfl, by rw [HR.out]; simp, hf1.toBelow (by simp)⟩
      | false =>
        have HQ := Lib.hid hpr
        clear hpr
        go_wp2_with fail
        go_roundg (l.length + 1 - (k + 1))
        case measure => have := HG.out; omega
        case rel => exact ⟨k + 1, by omega, rfl, by go_num, by rw [HS.out, HANY.out, HQ.out]; rfl, hf1⟩
    · obtain rfl : k = l.length := by omega
      have t1 : decide ((l.length : Int) < (l.length : Int)) = false := by simp
      have HR : Hid (l.any pr = false) := Lib.hid (by have := HANY.out; rwa [List.take_length] at this)
      go_wp2_with fail
      go_ret
      exact ⟨-1, rfl, by rw [HR.out]; rfl, hfr.toBelow (by simp)⟩
set_option maxRecDepth 100000 in
theorem containsT_any (v : Value) (l : List Trf) (lf : Nat) (lc : Array Value) (pr : Trf → Bool) (w : World) (hv : Trs w v l)
    (he : ∀ args w, (callFunc lf args).run Tryz.prog w = .ok (.enter lf args) w)
    (hcall : ∀ (p : Trf) (u : Value) (W : World), p ∈ l → StrsW W u p.sig → Fr [] w W → Calls Tryz.prog lf (#[trfV p u] ++ lc) W fun e W' => e = .returned (.bool (pr p)) ∧ Below W.heap.size W W') :
    Calls Tryz.prog 74 #[v, .func (.func lf) #[] lc] w fun e w' => e = .returned (.bool (l.any pr)) ∧ Below w.heap.size w w' := by
  go_enter Tryz.func74, Tryz.ntmps74
  go_wp2_with fail
  refine (indexT_any v l lf lc pr w hv he hcall).mono ?_
  rintro e w1 ⟨k, rfl, hk, hb1⟩
  go_wp2_with fail
  go_ret
  exact ⟨by rw [← hk]; rfl, hb1⟩

/-- The block of a title. -/
abbrev ttlO (t : Ttl) (cv : Value) : Obj := .cells #[.int .i64 t.serial, .int .i64 t.shw, .int .i64 t.place, .string ⟨t.first.toArray⟩, cv] 34
theorem ownerT_at {t : Ttl} {n : Nat} {x : Trf} (h : t.chain.length = n + 1) (hx : t.chain[n]? = some x) : ownerT t = x.nk := by
  unfold ownerT
  rw [List.getLast?_eq_getElem?, h, Nat.add_sub_cancel, hx]
theorem ownerT_none {t : Ttl} (h : t.chain.length = 0) : ownerT t = t.first := by
  unfold ownerT
  rw [List.length_eq_zero_iff.1 h]
  rfl
set_option maxRecDepth 100000 in
set_option maxHeartbeats 1000000 in
theorem owner_any (v : Value) (t : Ttl) (w : World) (hv : TtlR w v t) :
    Calls Tryz.prog 44 #[v] w fun e w' => e = .returned (.string ⟨(ownerT t).toArray⟩) ∧ Below w.heap.size w w' := by
  obtain ⟨cv, rfl, hc⟩ := hv
  obtain ⟨a, cap, rfl, hlc, hcap, ha⟩ := hc.form
  have HC := Lib.hid hc
  clear hc
  obtain ⟨n, hn⟩ : ∃ n, n = t.chain.length := ⟨_, rfl⟩
  have H0 := Lib.hid ((Fr.refl [] w).alloc (.cells #[.int .i64 t.serial, .int .i64 t.shw, .int .i64 t.place, .string ⟨t.first.toArray⟩, .slice a t.chain.length cap] 34))
  rw [← hn] at HC hlc ha H0 ⊢
  cases n with
  | zero =>
    have HO := Lib.hid (ownerT_none hn.symm)
    rw [HO.out]
    clear hn
    go_enter Tryz.func44, Tryz.ntmps44
    go_wp2_with fail
    go_ret
    exact ⟨rfl, H0.out.toBelow (by simp)⟩
  | succ n =>
    obtain ⟨b, off, rfl⟩ := ha n (by omega)
    obtain ⟨x, hx⟩ : ∃ x, t.chain[n]? = some x := ⟨_, List.getElem?_eq_getElem (by omega)⟩
    have HO := Lib.hid (ownerT_at hn.symm hx)
    rw [HO.out]
    have c0 := H0.out.cell (HC.out.cells n x hx).1 (by simp)
    have g1 : IntKind.i64.wrap (((n + 1 : Nat) : Int) - 1) = (n : Int) := by rw [IntWalk.i64_in _ (by omega)]; omega
    have g2 : (0 : Int) < ((n + 1 : Nat) : Int) := by omega
    have g3 : decide ((0 : Int) < ((n + 1 : Nat) : Int)) = true := decide_eq_true g2
    have g4 : (0 : Int) ≤ (n : Int) := by omega
    have g5 : (n : Int) < ((n + 1 : Nat) : Int) := by omega
    clear hn hx
    go_enter Tryz.func44, Tryz.ntmps44
    go_wp2_with fail
    go_ret
    exact ⟨rfl, H0.out.toBelow (by simp)⟩
set_option maxRecDepth 100000 in
set_option maxHeartbeats 1000000 in
theorem used1_any (x : Trf) (u : Value) (key : List UInt8) (b : Nat) (w : World) (hb : w.cell? ⟨b, 0, none⟩ = some (.string ⟨key.toArray⟩)) :
    Calls Tryz.prog 75 #[trfV x u, .pointer (some ⟨b, 0, none⟩)] w fun e w' => e = .returned (.bool (x.nk == key)) ∧ Below w.heap.size w w' := by
  obtain ⟨t, s⟩ := x
  unfold trfV
  simp only
  have hb2 := ((Fr.refl [] w).alloc (.cells #[.string ⟨t.toArray⟩, u] 82)).cell hb (by simp)
  go_enter Tryz.func75, Tryz.ntmps75
  go_wp2_with fail
  go_ret
  exact ⟨rfl, (Below.refl _ w).alloc (Nat.le_refl _) _⟩
theorem enters_used1 : ∀ args w, (callFunc 75 args).run Tryz.prog w = .ok (.enter 75 args) w := enters_of Tryz.func75 (by kernel_rfl) rfl
set_option maxRecDepth 100000 in
set_option maxHeartbeats 1000000 in
theorem used_any (v : Value) (t : Ttl) (key : List UInt8) (w : World) (hv : TtlR w v t) :
    Calls Tryz.prog 42 #[v, .string ⟨key.toArray⟩] w fun e w' => e = .returned (.bool (usedT t key)) ∧ Below w.heap.size w w' := by
  obtain ⟨cv, rfl, hc⟩ := hv
  obtain ⟨W0, hW0⟩ : ∃ W0, W0 = (w.alloc (.cells #[.int .i64 t.serial, .int .i64 t.shw, .int .i64 t.place, .string ⟨t.first.toArray⟩, cv] 34)).alloc (.cells #[.string ⟨key.toArray⟩] 9) := ⟨_, rfl⟩
  obtain ⟨p, ep⟩ : ∃ p, p = w.heap.size := ⟨_, rfl⟩
  have h0 : Fr [] w W0 := by rw [hW0]; exact ((Fr.refl [] w).alloc _).alloc _
  have hp0 : W0.heap[p]? = some (.cells #[.int .i64 t.serial, .int .i64 t.shw, .int .i64 t.place, .string ⟨t.first.toArray⟩, cv] 34 (0, 0)) := by rw [hW0, ep]; exact heap_past _ (heap_new rfl)
  have hp1 : W0.heap[p + 1]? = some (.cells #[.string ⟨key.toArray⟩] 9 (0, 0)) := by rw [hW0, ep]; exact heap_new (by simp)
  have c3 := row_cell hp0 3
  have c4 := row_cell hp0 4
  have k0 := row_cell hp1 0
  simp at c3 c4 k0
  rw [hW0, ep] at c3 c4
  have K0 := Lib.hid k0
  rw [hW0, ep] at k0
  have HC := Lib.hid (hc.fr h0)
  have H0 := Lib.hid h0
  clear hc h0 hp0 hp1
  obtain ⟨r, er⟩ : ∃ r, r = usedT t key := ⟨_, rfl⟩
  rw [← er]
  have ER : Hid (r = (t.first == key || t.chain.any fun x => x.nk == key)) := Lib.hid er
  clear er
  cases hq : (t.first == key) with
  | true =>
    have HR : Hid (r = true) := Lib.hid (by rw [ER.out, hq]; rfl)
    have q2 : (t.first != key) = false := by rw [bne, hq]; rfl
    have HB := Lib.hid (H0.out.toBelow (by simp))
    rw [hW0] at HB
    clear hW0 ep
    go_enter Tryz.func42, Tryz.ntmps42
    go_wp2_with fail
    go_ret
    exact ⟨by rw [HR.out]; rfl, HB.out⟩
  | false =>
    have HR : Hid (r = t.chain.any fun x => x.nk == key) := Lib.hid (by rw [ER.out, hq]; rfl)
    have q2 : (t.first != key) = true := by rw [bne, hq]; rfl
    go_enter Tryz.func42, Tryz.ntmps42
    go_wp2_with fail
    rw [← hW0, ← ep]
    refine (containsT_any cv t.chain 75 #[.pointer (some ⟨p + 1, 0, none⟩)] (fun x => x.nk == key) W0 HC.out enters_used1 (fun x u W _ _ hW => used1_any x u key (p + 1) W (hW.cell K0.out (by simp)))).mono ?_
    rintro e w2 ⟨rfl, hb2⟩
    go_wp2_with fail
    go_ret
    exact ⟨by rw [HR.out]; rfl, (H0.out.below hb2 H0.out.size).toBelow (by simp)⟩
set_option maxRecDepth 100000 in
theorem formed1_any (s : List UInt8) (w : World) (hs : s.length ≤ 9223372036854775807) :
    Calls Tryz.prog 72 #[.string ⟨s.toArray⟩] w fun e w' => e = .returned (.bool (!isD s)) ∧ Below w.heap.size w w' := by
  go_enter Tryz.func72, Tryz.ntmps72
  go_wp2_with fail
  refine (is_any s w hs).mono ?_
  rintro e w1 ⟨rfl, hb1⟩
  go_wp2_with fail
  go_ret
  exact ⟨rfl, hb1⟩
theorem enters_formed1 : ∀ args w, (callFunc 72 args).run Tryz.prog w = .ok (.enter 72 args) w := enters_of Tryz.func72 (by kernel_rfl) rfl
/-- The number of a serial number within its show. -/
theorem kk_wrap {s h : Int} (hs : -9223372036854775808 ≤ s ∧ s ≤ 9223372036854775807) (h0 : 0 ≤ h) (h20 : h < 20) : ∃ kk : Int, IntKind.i64.wrap (s - IntKind.i64.wrap (IntKind.i64.wrap (h + 1) * 10000)) = kk ∧ ((1 ≤ kk ∧ kk ≤ 9999) ↔ (1 ≤ s - (h + 1) * 10000 ∧ s - (h + 1) * 10000 ≤ 9999)) := by
  refine ⟨_, rfl, ?_⟩
  rw [IntWalk.i64_in (h + 1) (by omega), IntWalk.i64_in ((h + 1) * 10000) (by omega), IntKind.wrap_i64]
  omega
set_option maxRecDepth 100000 in
set_option maxHeartbeats 4000000 in
theorem formed_any (v : Value) (t : Ttl) (w : World) (hv : TtlR w v t) (hS : TSmall t) :
    Calls Tryz.prog 40 #[v] w fun e w' => e = .returned (.bool (formedT t)) ∧ Below w.heap.size w w' := by
  obtain ⟨cv, rfl, hc⟩ := hv
  obtain ⟨a, cap, rfl, hlc, hcap, ha⟩ := hc.form
  have HC := Lib.hid hc
  have HS := Lib.hid hS
  have hs1 := hS.s
  clear hc hS
  obtain ⟨r, er⟩ : ∃ r, r = formedT t := ⟨_, rfl⟩
  rw [← er]
  have HNO : Hid (¬ ((0 ≤ t.shw ∧ t.shw < 20) ∧ (1 ≤ t.serial - (t.shw + 1) * 10000 ∧ t.serial - (t.shw + 1) * 10000 ≤ 9999) ∧ (-1 ≤ t.place ∧ t.place < 4000) ∧ isD t.first = true ∧ t.chain.length ≤ 50 ∧ t.chain.all formX = true) → r = false) := Lib.hid (fun h => er.trans (formedT_no h))
  have HYE : Hid ((0 ≤ t.shw ∧ t.shw < 20) ∧ (1 ≤ t.serial - (t.shw + 1) * 10000 ∧ t.serial - (t.shw + 1) * 10000 ≤ 9999) ∧ (-1 ≤ t.place ∧ t.place < 4000) ∧ isD t.first = true ∧ t.chain.length ≤ 50 ∧ t.chain.all formX = true → r = true) := Lib.hid (fun h => er.trans (formedT_yes h))
  clear er
  obtain ⟨W0, hW0⟩ : ∃ W0, W0 = w.alloc (.cells #[.int .i64 t.serial, .int .i64 t.shw, .int .i64 t.place, .string ⟨t.first.toArray⟩, .slice a t.chain.length cap] 34) := ⟨_, rfl⟩
  obtain ⟨p, ep⟩ : ∃ p, p = w.heap.size := ⟨_, rfl⟩
  have h0 : Fr [] w W0 := by rw [hW0]; exact (Fr.refl [] w).alloc _
  have hp0 : W0.heap[p]? = some (.cells #[.int .i64 t.serial, .int .i64 t.shw, .int .i64 t.place, .string ⟨t.first.toArray⟩, .slice a t.chain.length cap] 34 (0, 0)) := by rw [hW0, ep]; exact heap_new rfl
  have c0 := row_cell hp0 0
  have c1 := row_cell hp0 1
  have c2 := row_cell hp0 2
  have c3 := row_cell hp0 3
  have c4 := row_cell hp0 4
  simp at c0 c1 c2 c3 c4
  rw [hW0, ep] at c0 c1 c2 c3 c4
  have HP0 := Lib.hid hp0
  have H0 := Lib.hid h0
  have HFW := Lib.hid h0
  rw [hW0] at HFW
  clear hp0 h0
  by_cases h1 : 0 ≤ t.shw
  case neg =>
    have t0 : decide (t.shw < 0) = true := by simp; omega
    have HX : Hid (r = false) := Lib.hid (HNO.out (fun hp => h1 hp.1.1))
    clear hW0 ep h1
    go_enter Tryz.func40, Tryz.ntmps40
    go_wp2_with fail
    go_ret
    exact ⟨by rw [HX.out]; rfl, HFW.out.toBelow (by simp)⟩
  have t0 : decide (t.shw < 0) = false := by simp; omega
  by_cases h2 : t.shw < 20
  case neg =>
    have t1 : decide (20 ≤ t.shw) = true := by simp; omega
    have HX : Hid (r = false) := Lib.hid (HNO.out (fun hp => h2 hp.1.2))
    clear hW0 ep h1 h2
    go_enter Tryz.func40, Tryz.ntmps40
    go_wp2_with fail
    go_ret
    exact ⟨by rw [HX.out]; rfl, HFW.out.toBelow (by simp)⟩
  have t1 : decide (20 ≤ t.shw) = false := by simp; omega
  obtain ⟨kk, ekk, hkk⟩ := kk_wrap hs1 h1 h2
  have w1 : IntKind.i64.wrap (t.shw + 1) = t.shw + 1 := IntWalk.i64_in _ (by omega)
  have w2 : IntKind.i64.wrap ((t.shw + 1) * 10000) = (t.shw + 1) * 10000 := IntWalk.i64_in _ (by omega)
  rw [w1, w2] at ekk
  have HKK := Lib.hid hkk
  clear hkk
  by_cases h3 : 1 ≤ kk
  case neg =>
    have t2 : decide (kk < 1) = true := by simp; omega
    have HX : Hid (r = false) := Lib.hid (HNO.out (fun hp => h3 (HKK.out.2 hp.2.1).1))
    clear hW0 ep h1 h2 h3
    go_enter Tryz.func40, Tryz.ntmps40
    go_wp2_with fail
    go_ret
    exact ⟨by rw [HX.out]; rfl, HFW.out.toBelow (by simp)⟩
  have t2 : decide (kk < 1) = false := by simp; omega
  by_cases h4 : kk ≤ 9999
  case neg =>
    have t3 : decide (9999 < kk) = true := by simp; omega
    have HX : Hid (r = false) := Lib.hid (HNO.out (fun hp => h4 (HKK.out.2 hp.2.1).2))
    clear hW0 ep h1 h2 h3 h4
    go_enter Tryz.func40, Tryz.ntmps40
    go_wp2_with fail
    go_ret
    exact ⟨by rw [HX.out]; rfl, HFW.out.toBelow (by simp)⟩
  have t3 : decide (9999 < kk) = false := by simp; omega
  by_cases h5 : -1 ≤ t.place
  case neg =>
    have t4 : decide (t.place < -1) = true := by simp; omega
    have HX : Hid (r = false) := Lib.hid (HNO.out (fun hp => h5 hp.2.2.1.1))
    clear hW0 ep h1 h2 h3 h4 h5
    go_enter Tryz.func40, Tryz.ntmps40
    go_wp2_with fail
    go_ret
    exact ⟨by rw [HX.out]; rfl, HFW.out.toBelow (by simp)⟩
  have t4 : decide (t.place < -1) = false := by simp; omega
  by_cases h6 : t.place < 4000
  case neg =>
    have t5 : decide (4000 ≤ t.place) = true := by simp; omega
    have HX : Hid (r = false) := Lib.hid (HNO.out (fun hp => h6 hp.2.2.1.2))
    clear hW0 ep h1 h2 h3 h4 h5 h6
    go_enter Tryz.func40, Tryz.ntmps40
    go_wp2_with fail
    go_ret
    exact ⟨by rw [HX.out]; rfl, HFW.out.toBelow (by simp)⟩
  have t5 : decide (4000 ≤ t.place) = false := by simp; omega
  have HA : Hid ((0 ≤ t.shw ∧ t.shw < 20) ∧ (1 ≤ t.serial - (t.shw + 1) * 10000 ∧ t.serial - (t.shw + 1) * 10000 ≤ 9999) ∧ (-1 ≤ t.place ∧ t.place < 4000)) := Lib.hid ⟨⟨h1, h2⟩, HKK.out.1 ⟨h3, h4⟩, ⟨h5, h6⟩⟩
  clear h1 h2 h3 h4 h5 h6
  have hfl : t.first.length ≤ 9223372036854775807 := by have := HS.out.f; omega
  go_enter Tryz.func40, Tryz.ntmps40
  go_wp2_with fail
  rw [← hW0, ← ep]
  rw [← hW0, ← ep] at c0 c1 c2 c3 c4
  clear hW0 ep
  refine (is_any t.first W0 hfl).mono ?_
  rintro e w1 ⟨rfl, hb1⟩
  have h1 : Fr [] w w1 := H0.out.below hb1 H0.out.size
  have hq0 := (Fr.ofBelow (X := []) hb1).at HP0.out (by simp)
  clear hb1 c0 c1 c2 c3 c4
  have c4 := row_cell hq0 4
  simp at c4
  have HQ0 := Lib.hid hq0
  clear hq0
  cases hd : isD t.first with
  | false =>
    have HX : Hid (r = false) := Lib.hid (HNO.out (fun hp => by rw [hd] at hp; exact absurd hp.2.2.2.1 (by decide)))
    clear hd
    go_wp2_with fail
    go_ret
    exact ⟨by rw [HX.out]; rfl, h1.toBelow (by simp)⟩
  | true =>
    have HD := Lib.hid hd
    clear hd
    by_cases hl : t.chain.length ≤ 50
    case neg =>
      have t7 : decide ((50 : Int) < (t.chain.length : Int)) = true := by simp; omega
      have HX : Hid (r = false) := Lib.hid (HNO.out (fun hp => hl hp.2.2.2.2.1))
      go_wp2_with fail
      go_ret
      exact ⟨by rw [HX.out]; rfl, h1.toBelow (by simp)⟩
    have t7 : decide ((50 : Int) < (t.chain.length : Int)) = false := by simp; omega
    go_wp2_with fail
    go_loopg [5, 54] (t.chain.length + 1) (fun g u i wr => ∃ k : Nat, k ≤ t.chain.length ∧ g = t.chain.length + 1 - k ∧ i = .int .i64 (k : Int) ∧ (t.chain.take k).all formX = true ∧ Fr [] w1 wr)
    case atStart => exact ⟨0, by omega, by omega, rfl, by simp, Fr.refl _ _⟩
    case round =>
      obtain ⟨k, hk, hg, rfl, hall, hfr⟩ := hrel
      have HG := Lib.hid hg
      have HALL := Lib.hid hall
      clear hg hall
      by_cases hlt : k < t.chain.length
      · obtain ⟨b, off, rfl⟩ := ha k hlt
        have t8 : decide ((k : Int) < (t.chain.length : Int)) = true := by simp; omega
        obtain ⟨x, hx⟩ : ∃ x, t.chain[k]? = some x := ⟨_, List.getElem?_eq_getElem hlt⟩
        obtain ⟨e0, u, e1, hu⟩ := ((HC.out.fr h1).fr hfr).cells k x hx
        obtain ⟨sa, scap, rfl, hsl, hsc, hsa⟩ := hu.form
        have HU := Lib.hid hu
        have HM := Lib.hid (List.mem_of_getElem? hx)
        have HTK : Hid ((t.chain.take (k + 1)).all formX = ((t.chain.take k).all formX && formX x)) := Lib.hid (by rw [List.take_add_one, hx, List.all_append]; simp)
        have HFO : Hid (formX x = false → r = false) := Lib.hid (fun h => HNO.out (fun hp => by
          have := List.all_eq_true.1 hp.2.2.2.2.2 x HM.out
          rw [h] at this
          cases this))
        have hxs := HS.out.c x HM.out
        clear hx hu
        by_cases h18 : x.sig.length = 18
        case neg =>
          have t9 : ((x.sig.length : Int) != 18) = true := by rw [bne_iff_ne]; omega
          have HX : Hid (r = false) := Lib.hid (HFO.out (by unfold formX; rw [decide_eq_false h18]; rfl))
          go_wp2_with fail
          go_ret
          exact ⟨by rw [HX.out]; rfl, ((h1.trans hfr (by simp)).alloc _).toBelow (by simp)⟩
        have t9 : ((x.sig.length : Int) != 18) = false := by rw [h18]; rfl
        have HFE : Hid (formX x = (isD x.nk && x.sig.all isD)) := Lib.hid (by unfold formX; rw [decide_eq_true h18, Bool.true_and])
        have htl : x.nk.length ≤ 9223372036854775807 := by omega
        have HXS := Lib.hid hxs.2.2
        obtain ⟨W5, hW5⟩ : ∃ W5, W5 = wr.alloc (.cells #[.string ⟨x.nk.toArray⟩, .slice sa x.sig.length scap] 82) := ⟨_, rfl⟩
        obtain ⟨q, eq⟩ : ∃ q, q = wr.heap.size := ⟨_, rfl⟩
        have hf5 : Fr [] wr W5 := by rw [hW5]; exact (Fr.refl [] wr).alloc _
        have hq5 : W5.heap[q]? = some (.cells #[.string ⟨x.nk.toArray⟩, .slice sa x.sig.length scap] 82 (0, 0)) := by rw [hW5, eq]; exact heap_new rfl
        clear h18 hxs
        go_wp2_with fail
        rw [← hW5, ← eq]
        refine (is_any x.nk W5 htl).mono ?_
        rintro e w6 ⟨rfl, hb6⟩
        have hf6 : Fr [] w1 w6 := (hfr.trans hf5 (by simp)).below hb6 ((hfr.trans hf5 (by simp)).size)
        have hq6 := (Fr.ofBelow (X := []) hb6).at hq5 (by simp)
        have hf56 : Fr [] wr w6 := hf5.below hb6 hf5.size
        clear hb6 hq5 hW5 eq e0 e1 hf5
        have d1 := row_cell hq6 1
        simp at d1
        clear hq6
        cases hd2 : isD x.nk with
        | false =>
          have HX : Hid (r = false) := Lib.hid (HFO.out (by rw [HFE.out, hd2]; rfl))
          clear hd2
          go_wp2_with fail
          go_ret
          exact ⟨by rw [HX.out]; rfl, (h1.trans hf6 (by simp)).toBelow (by simp)⟩
        | true =>
          have HFE2 : Hid (formX x = x.sig.all isD) := Lib.hid (by rw [HFE.out, hd2]; rfl)
          clear hd2
          go_wp2_with fail
          refine (containsS_any (.slice sa x.sig.length scap) x.sig 72 #[] (fun s => !isD s) w6 (HU.out.fr hf56) enters_formed1 (fun s W hs _ => formed1_any s W (by have := HXS.out s hs; omega))).mono ?_
          rintro e w7 ⟨rfl, hb7⟩
          have hf7 : Fr [] w1 w7 := hf6.below hb7 hf6.size
          have HNA : Hid (x.sig.any (fun s => !isD s) = !formX x) := Lib.hid (by rw [HFE2.out, List.any_eq_not_all_not]; simp)
          rw [HNA.out]
          cases hfx : formX x with
          | false =>
            have HX : Hid (r = false) := Lib.hid (HFO.out hfx)
            clear hfx
            go_wp2_with fail
            go_ret
            exact ⟨by rw [HX.out]; rfl, (h1.trans hf7 (by simp)).toBelow (by simp)⟩
          | true =>
            have HFX := Lib.hid hfx
            clear hfx
            go_wp2_with fail
            go_roundg (t.chain.length + 1 - (k + 1))
            case measure => have := HG.out; omega
            case rel => exact ⟨k + 1, by omega, rfl, by go_num, by rw [HTK.out, HALL.out, HFX.out]; rfl, hf7⟩
      · obtain rfl : k = t.chain.length := by omega
        have t8 : decide ((t.chain.length : Int) < (t.chain.length : Int)) = false := by simp
        have HX : Hid (r = true) := Lib.hid (HYE.out ⟨HA.out.1, HA.out.2.1, HA.out.2.2, HD.out, hl, by have := HALL.out; rwa [List.take_length] at this⟩)
        go_wp2_with fail
        go_ret
        exact ⟨by rw [HX.out]; rfl, (h1.trans hfr (by simp)).toBelow (by simp)⟩
end Go.Proofs.YtglgkdbhdjkeaaaGreatDoor
namespace Go.Proofs.YtglgkdbhdjkeaaaGreatDoor
open Go.RowKit

/-- The first strings of a message. -/
theorem fieldsT_len (t : Ttl) (tk : List UInt8) : (fieldsT t tk).length = t.chain.length + 4 := by
  simp [fieldsT]
theorem fieldsT_three (t : Ttl) (tk : List UInt8) : (fieldsT t tk).take 3 = [Lib.itoa t.serial, Lib.itoa t.shw, t.first] := by simp [fieldsT]
theorem fieldsT_snoc (t : Ttl) (tk : List UInt8) (k : Nat) (x : Trf) (hx : t.chain[k]? = some x) : (fieldsT t tk).take (k + 1 + 3) = (fieldsT t tk).take (k + 3) ++ [x.nk] := by
  have hk := (List.getElem?_eq_some_iff.1 hx).1
  have hl := fieldsT_len t tk
  rw [show k + 1 + 3 = (k + 3) + 1 by omega, take_snoc' _ (k + 3) [] (by omega)]
  congr 2
  unfold fieldsT
  rw [List.getD_eq_getElem?_getD, List.append_assoc, List.getElem?_append_right (by simp), List.getElem?_append_left (by simpa using hk)]
  simp [hx]
theorem fieldsT_end (t : Ttl) (tk : List UInt8) : (fieldsT t tk).take (t.chain.length + 3) ++ [tk] = fieldsT t tk := by
  unfold fieldsT
  rw [List.take_append_of_le_length (by simp), List.take_of_length_le (by simp)]
theorem fieldsT_small {t : Ttl} (h : TSmall t) {tk : List UInt8} (hto : tk.length ≤ 100000) : ∀ s ∈ fieldsT t tk, s.length ≤ 100000 := by
  intro s hs
  unfold fieldsT at hs
  rcases List.mem_append.1 hs with hs | hs
  · rcases List.mem_append.1 hs with hs | hs
    · simp only [List.mem_cons, List.not_mem_nil, or_false] at hs
      rcases hs with rfl | rfl | rfl
      · have := Lib.itoa_length_le t.serial h.s.1 h.s.2; omega
      · have := Lib.itoa_length_le t.shw h.h.1 h.h.2; omega
      · exact h.f
    · obtain ⟨x, hx, rfl⟩ := List.mem_map.1 hs
      exact (h.c x hx).1
  · rw [List.mem_singleton.1 hs]; exact hto
theorem fieldsT_join {t : Ttl} (h : TSmall t) {tk : List UInt8} (hto : tk.length ≤ 100000) : (joinL (fieldsT t tk)).length ≤ 140737488355328 := by
  have h1 := joinL_bound (fieldsT t tk) 100000 (by decide) (fieldsT_small h hto)
  rw [fieldsT_len] at h1
  have h2 := h.n
  have h3 : (t.chain.length + 4) * (100000 + 22) ≤ 1004 * 100022 := Nat.mul_le_mul_right _ (by omega)
  omega
set_option maxRecDepth 100000 in
set_option maxHeartbeats 4000000 in
theorem message_any (v : Value) (t : Ttl) (tk : List UInt8) (w : World) (hv : TtlR w v t) (hS : TSmall t) (hto : tk.length ≤ 100000) (hT : Tabs w) :
    Calls Tryz.prog 45 #[v, .string ⟨tk.toArray⟩] w fun e w' => e = .returned (.string ⟨(msgT t tk).toArray⟩) ∧ Below w.heap.size w w' := by
  have hmx : Tryz.prog.follows .mixedOrders = true := by kernel_rfl
  obtain ⟨cv, rfl, hc⟩ := hv
  obtain ⟨a, cap, rfl, hlc, hcap, ha⟩ := hc.form
  have HC := Lib.hid hc
  have HT := Lib.hid hT
  have HS := Lib.hid hS
  have hs1 := hS.s.1
  have hs2 := hS.s.2
  have hh1 := hS.h.1
  have hh2 := hS.h.2
  have hp1 := hS.p.1
  have hp2 := hS.p.2
  have hn100 := hS.n
  clear hc hT hS
  have HJ := Lib.hid (fieldsT_join HS.out hto)
  obtain ⟨W0, hW0⟩ : ∃ W0, W0 = w.alloc (.cells #[.int .i64 t.serial, .int .i64 t.shw, .int .i64 t.place, .string ⟨t.first.toArray⟩, .slice a t.chain.length cap] 34) := ⟨_, rfl⟩
  obtain ⟨p, ep⟩ : ∃ p, p = w.heap.size := ⟨_, rfl⟩
  have h0 : Fr [] w W0 := by rw [hW0]; exact (Fr.refl [] w).alloc _
  have hp0 : W0.heap[p]? = some (.cells #[.int .i64 t.serial, .int .i64 t.shw, .int .i64 t.place, .string ⟨t.first.toArray⟩, .slice a t.chain.length cap] 34 (0, 0)) := by rw [hW0, ep]; exact heap_new rfl
  go_enter Tryz.func45, Tryz.ntmps45
  go_wp2_with fail
  rw [← hW0, ← ep]
  clear hW0 ep
  have c0 := row_cell hp0 0
  have c1 := row_cell hp0 1
  have c3 := row_cell hp0 3
  simp at c0 c1 c3
  have hD : Fr [] W0 W0.drew := (Fr.refl [] W0).drew
  have hS0 : W0.drew.cell? ⟨p, 0, none⟩ = some (.int .i64 t.serial) ∧ W0.drew.cell? ⟨p, 1, none⟩ = some (.int .i64 t.shw) ∧ W0.drew.cell? ⟨p, 3, none⟩ = some (.string ⟨t.first.toArray⟩) := ⟨hD.cell c0 (by simp), hD.cell c1 (by simp), hD.cell c3 (by simp)⟩
  refine region_held 9 (fun W' => W'.cell? ⟨p, 0, none⟩ = some (.int .i64 t.serial) ∧ W'.cell? ⟨p, 1, none⟩ = some (.int .i64 t.shw) ∧ W'.cell? ⟨p, 3, none⟩ = some (.string ⟨t.first.toArray⟩)) hmx ?_
  change Held _ _ _ _ _ _ 10 (Array.replicate 10 false) _ _
  refine hd_take 0 (v := .pointer (some ⟨p, 0, none⟩)) rfl (by kernel_rfl) (by kernel_rfl) (by kernel_rfl) rfl hS0 (fun W' hS => by go_simp) rfl ?_
  refine hd_take 3 (v := .pointer (some ⟨p, 1, none⟩)) rfl (by kernel_rfl) (by kernel_rfl) (by kernel_rfl) rfl hS0 (fun W' hS => by go_simp) rfl ?_
  refine hd_take 6 (v := .pointer (some ⟨p, 3, none⟩)) rfl (by kernel_rfl) (by kernel_rfl) (by kernel_rfl) rfl hS0 (fun W' hS => by go_simp) rfl ?_
  try simp only [Act.put, List.setIfInBounds_toArray, List.set_cons_zero, List.set_cons_succ]
  refine hd_take 1 (v := .int .i64 t.serial) rfl (by kernel_rfl) (by kernel_rfl) (by kernel_rfl) rfl hS0 (fun W' hS => by obtain ⟨s0, s1, s2⟩ := hS; go_simp) rfl ?_
  refine hd_take 4 (v := .int .i64 t.shw) rfl (by kernel_rfl) (by kernel_rfl) (by kernel_rfl) rfl hS0 (fun W' hS => by obtain ⟨s0, s1, s2⟩ := hS; go_simp) rfl ?_
  refine hd_take 7 (v := .string ⟨t.first.toArray⟩) rfl (by kernel_rfl) (by kernel_rfl) (by kernel_rfl) rfl hS0 (fun W' hS => by obtain ⟨s0, s1, s2⟩ := hS; go_simp) rfl ?_
  try simp only [Act.put, List.setIfInBounds_toArray, List.set_cons_zero, List.set_cons_succ]
  refine hd_one 2 (by kernel_rfl) rfl (by kernel_rfl) rfl (fun K' hK => ?_)
  go_simp
  refine (itoaI_any t.serial _ hs1 hs2 ((HT.out.fr h0).fr hD)).mono ?_
  rintro e v1 ⟨rfl, hbb1⟩
  have hf1 : Fr [] W0 v1 := hD.below hbb1 hD.size
  refine hK.out _ _ (fun _ => ⟨hf1.cell c0 (by simp), hf1.cell c1 (by simp), hf1.cell c3 (by simp)⟩) ?_
  clear hK K'
  try simp only [Act.put, List.setIfInBounds_toArray, List.set_cons_zero, List.set_cons_succ]
  refine hd_one 5 (by kernel_rfl) rfl (by kernel_rfl) rfl (fun K' hK => ?_)
  go_simp
  refine (itoaI_any t.shw _ hh1 hh2 ((HT.out.fr h0).fr hf1)).mono ?_
  rintro e v2 ⟨rfl, hbb2⟩
  have hf2 : Fr [] W0 v2 := hf1.below hbb2 hf1.size
  refine hK.out _ _ (fun _ => ⟨hf2.cell c0 (by simp), hf2.cell c1 (by simp), hf2.cell c3 (by simp)⟩) ?_
  clear hK K'
  try simp only [Act.put, List.setIfInBounds_toArray, List.set_cons_zero, List.set_cons_succ]
  refine hd_one 8 (by kernel_rfl) rfl (by kernel_rfl) rfl (fun K' hK => ?_)
  go_simp
  have hfa := hf2.alloc (.cells #[.string ⟨(Lib.itoa t.serial).toArray⟩, .string ⟨(Lib.itoa t.shw).toArray⟩, .string ⟨t.first.toArray⟩] 9)
  refine hK.out _ _ (fun _ => ⟨hfa.cell c0 (by simp), hfa.cell c1 (by simp), hfa.cell c3 (by simp)⟩) ?_
  clear hK K'
  try simp only [Act.put, List.setIfInBounds_toArray, List.set_cons_zero, List.set_cons_succ]
  have hos : OwnS v2.heap.size (v2.alloc (.cells #[.string ⟨(Lib.itoa t.serial).toArray⟩, .string ⟨(Lib.itoa t.shw).toArray⟩, .string ⟨t.first.toArray⟩] 9)) (.slice (some ⟨v2.heap.size, 0, none⟩) 3 3) [(Lib.itoa t.serial), (Lib.itoa t.shw), t.first] := ⟨rfl, Or.inr ⟨v2.heap.size, 3, _, rfl, Nat.le_refl _, heap_new rfl, Nat.le_refl _, by decide, rfl, rfl⟩⟩
  obtain ⟨wz, hwz⟩ : ∃ wz, wz = v2.alloc (.cells #[.string ⟨(Lib.itoa t.serial).toArray⟩, .string ⟨(Lib.itoa t.shw).toArray⟩, .string ⟨t.first.toArray⟩] 9) := ⟨_, rfl⟩
  rw [← hwz] at hos hfa ⊢
  clear hwz
  refine hd_one 9 (by kernel_rfl) rfl (by kernel_rfl) rfl (fun K' hK => ?_)
  go_simp
  refine hK.out _ _ (fun h => absurd rfl h) ?_
  clear hK K'
  refine held_done (by kernel_rfl) ?_
  have HOS := Lib.hid (hos.mono (base' := W0.heap.size) hf2.size)
  have HFA := Lib.hid hfa
  clear hos hfa hS0 hD hf1 hf2 hbb1 hbb2
  have HP0 := Lib.hid hp0
  have H0 := Lib.hid h0
  have hqz := HFA.out.at HP0.out (by simp)
  have c4 := row_cell hqz 4
  simp at c4
  clear hqz c0 c1 c3 hp0
  go_wp2_with fail
  clear c4
  have h0s : w.heap.size ≤ W0.heap.size := h0.size
  have hzs : W0.heap.size ≤ wz.heap.size := HFA.out.size
  clear h0
  go_loopg [5, 7, 20] t.chain.length (fun gh out u i wr => ∃ k : Nat, k ≤ t.chain.length ∧ gh = t.chain.length - k ∧ i = .int .i64 (k : Int) ∧ OwnS W0.heap.size wr out ((fieldsT t tk).take (k + 3)) ∧ Fr [] w wr ∧ W0.heap.size ≤ wr.heap.size)
  case atStart => exact ⟨0, by omega, by omega, rfl, by rw [fieldsT_three]; exact HOS.out, H0.out.trans HFA.out (by simp), hzs⟩
  case round =>
    clear HOS HFA
    obtain ⟨k, hk, hgh, rfl, hos, hfr, hsz⟩ := hrel
    have HG := Lib.hid hgh
    have HOS := Lib.hid hos
    clear hgh hos
    have HLE : Hid (((fieldsT t tk).take (k + 3)).length = k + 3) := Lib.hid (by rw [List.length_take, fieldsT_len]; omega)
    by_cases hlt : k < t.chain.length
    · have t1 : decide ((k : Int) < (t.chain.length : Int)) = true := by simp; omega
      obtain ⟨b, off, rfl⟩ := ha k hlt
      obtain ⟨x, hx⟩ : ∃ x, t.chain[k]? = some x := ⟨_, List.getElem?_eq_getElem hlt⟩
      obtain ⟨e0, u, e1, hu⟩ := (HC.out.fr hfr).cells k x hx
      obtain ⟨sa, scap, rfl, _, _, _⟩ := hu.form
      have HSN := Lib.hid (fieldsT_snoc t tk k x hx)
      clear hx hu
      have hl2 : ((fieldsT t tk).take (k + 3)).length < 1000000 := by rw [HLE.out]; omega
      generalize (fieldsT t tk).take (k + 3) = L at HOS HSN hl2 HLE
      have hA := (Fr.refl [] wr).alloc (.cells #[.string ⟨x.nk.toArray⟩, .slice sa x.sig.length scap] 82)
      have HA := Lib.hid hA
      clear hA
      go_wp2_with (at_builtin; go_loud (refine wpList_appS rfl (.tmp 24) (.tmp 27) rfl W0.heap.size _ L x.nk w rfl (by rw [World.size_alloc]; rfl) (HOS.out.fr HA.out (by simp)) (hfr.trans HA.out (by simp)) h0s (Nat.le_trans hsz HA.out.size) hl2 ?_))
      intro v7 w7 g7 c7 hv7 ho7 hf7 hg7
      subst hv7
      have HO7 := Lib.hid ho7
      have hs7 : W0.heap.size ≤ w7.heap.size := Nat.le_trans (Nat.le_trans hsz HA.out.size) hg7.size
      clear ho7 hg7
      go_wp2_with fail
      go_roundg (t.chain.length - (k + 1))
      case measure => have := HG.out; omega
      case rel => exact ⟨k + 1, by omega, rfl, by go_num, by rw [HSN.out]; exact HO7.out, hf7, hs7⟩
    · obtain rfl : k = t.chain.length := by omega
      have t1 : decide ((t.chain.length : Int) < (t.chain.length : Int)) = false := by simp
      have HEN := Lib.hid (fieldsT_end t tk)
      have hl2 : ((fieldsT t tk).take (t.chain.length + 3)).length < 1000000 := by rw [HLE.out]; omega
      generalize (fieldsT t tk).take (t.chain.length + 3) = L at HOS HEN hl2 HLE
      go_wp2_with (at_builtin; go_loud (refine wpList_appS rfl (.tmp 30) (.tmp 32) rfl W0.heap.size _ L tk w rfl rfl HOS.out hfr h0s hsz hl2 ?_))
      intro v7 w7 g7 c7 hv7 ho7 hf7 _
      subst hv7
      rw [HEN.out] at ho7
      have HO7 := Lib.hid ho7
      clear ho7
      go_wp2_with fail
      refine (list_any _ (fieldsT t tk) w7 HO7.out.strs HJ.out (HT.out.fr hf7)).mono ?_
      rintro e w8 ⟨rfl, hb8⟩
      go_wp2_with fail
      go_ret
      exact ⟨rfl, (hf7.below hb8 hf7.size).toBelow (by simp)⟩
end Go.Proofs.YtglgkdbhdjkeaaaGreatDoor
