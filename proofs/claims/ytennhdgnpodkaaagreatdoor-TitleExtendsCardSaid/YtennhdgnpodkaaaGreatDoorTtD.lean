/-
  title.steps: the iterator over the transfers of a title, each with the title before it.
-/
import Derived.Test.YtennhdgnpodkaaaGreatDoorTtC
import Derived.Test.YtennhdgnpodkaaaGreatDoorRfX
import Derived.Test.YtennhdgnpodkaaaGreatDoorMrk
import Derived.Test.YtennhdgnpodkaaaGreatDoorYld
import Derived.Test.YtennhdgnpodkaaaGreatDoorSgnA
import Derived.Sort.BigQuietIn
import Derived.Sort.LoopGhostIn
namespace Go.Proofs.YtennhdgnpodkaaaGreatDoor
open Go.RowKit Go.Shelf
attribute [local go_sem] Oper.semAt_some

theorem steps_any (v : Value) (t : Ttl) (w : World) (hv : TtlR w v t) :
    Calls Tryz.prog 56 #[v] w fun e w' => e = .returned (.func (.func 90) #[] #[.pointer (some ⟨w.heap.size, 0, none⟩)]) ∧ ∃ cv, v = .agg #[.int .i64 t.serial, .int .i64 t.shw, .int .i64 t.place, .string ⟨t.first.toArray⟩, cv] ∧ w' = w.alloc (ttlO t cv) := by
  obtain ⟨cv, rfl, _⟩ := hv
  go_enter Tryz.func56, Tryz.ntmps56
  go_wp2
  go_ret
  exact ⟨rfl, cv, rfl, rfl⟩
/-- What the iterator reads: the title, and the cells of its transfers. -/
structure ChT (bt : Nat) (t : Ttl) (a : Option Addr) (cap : Nat) (sv : Nat → Value) (W : World) : Prop where
  b : W.heap[bt]? = some (.cells #[.int .i64 t.serial, .int .i64 t.shw, .int .i64 t.place, .string ⟨t.first.toArray⟩, .slice a t.chain.length cap] 24 (0, 0))
  c : ∀ (i : Nat) (x : Trf), t.chain[i]? = some x → ∃ b off, a = some ⟨b, off, none⟩ ∧ W.cell? ⟨b, off + i * 2, none⟩ = some (.string ⟨x.nk.toArray⟩) ∧ W.cell? ⟨b, off + i * 2 + 1, none⟩ = some (sv i)
theorem ChT.std {bt : Nat} {t : Ttl} {a : Option Addr} {cap : Nat} {sv : Nat → Value} {B : Nat} {W W' : World} (h : ChT bt t a cap sv W) (g : Std B W W') : ChT bt t a cap sv W' :=
  ⟨g.at h.b, fun i x hx => let ⟨b, off, h1, h2, h3⟩ := h.c i x hx; ⟨b, off, h1, g.cell h2, g.cell h3⟩⟩
theorem ChT.fr {bt : Nat} {t : Ttl} {a : Option Addr} {cap : Nat} {sv : Nat → Value} {W W' : World} (h : ChT bt t a cap sv W) (g : Fr [] W W') : ChT bt t a cap sv W' := h.std (g.std 0)
/-- The title before a transfer, and the transfer. -/
def encsT (t : Ttl) (a : Option Addr) (cap : Nat) (sv : Nat → Value) (i : Fin t.chain.length) : Array Value :=
  #[.agg #[.int .i64 t.serial, .int .i64 t.shw, .int .i64 t.place, .string ⟨t.first.toArray⟩, .slice a i.val cap], .agg #[.string ⟨t.chain[i].nk.toArray⟩, sv i.val]]
def KpT (bt : Nat) (t : Ttl) (a : Option Addr) (cap : Nat) (sv : Nat → Value) (A B : World) : Prop := ChT bt t a cap sv A → ChT bt t a cap sv B

set_option maxRecDepth 100000 in
set_option maxHeartbeats 2000000 in
theorem steps_stops (m bt : Nat) (t : Ttl) (a : Option Addr) (cap : Nat) (sv : Nat → Value) (w : World) (hm : 1 ≤ m) (hn : t.chain.length ≤ 1000000) (hcap : t.chain.length ≤ cap) (_hc9 : cap ≤ 9223372036854775807) (hsv : ∀ i, i < t.chain.length → ∃ sa sl sc, sv i = .slice sa sl sc) (h : ChT bt t a cap sv w) :
    SeqStopsK Fence.wide m Tryz.prog 90 #[.pointer (some ⟨bt, 0, none⟩)] (encsT t a cap sv) (KpT bt t a cap sv) (fun xs => xs = List.finRange t.chain.length) (fun _ => True) t.chain.length w := fun l J Jx W hW hJ hJx hY h0 => by
  have hCW := h.fr (Fr.ofBelow hW)
  have HY := Lib.hid hY
  have HJ := Lib.hid hJ
  have HSV := Lib.hid hsv
  clear hY hJ hJx h hW hsv
  have c4 := row_cell hCW.b 4
  simp at c4
  have HCW := Lib.hid hCW
  clear hCW
  refine callsIn_of_wp Tryz.func90 rfl trivial ?_ rfl
  simp only [Tryz.ntmps90, List.size_toArray, List.length_cons, List.length_nil, Nat.reduceAdd, Nat.reduceSub, Array.replicate_succ, Array.replicate_zero, List.push_toArray, List.append_toArray, List.nil_append, List.cons_append]
  gi_wp2_with fail
  clear c4
  gi_loopw [9] (fun i wr => ∃ k : Nat, k ≤ t.chain.length ∧ i = .int .i64 (k : Int) ∧ J ((List.finRange t.chain.length).take k) wr ∧ ChT bt t a cap sv wr)
    (fun i _ => t.chain.length + 1 - (intOf i).toNat)
  case atStart => exact ⟨0, by omega, rfl, h0, HCW.out⟩
  case round =>
    obtain ⟨k, hk, rfl, hJk, hCk⟩ := hrel
    have HK := Lib.hid hJk
    have HC := Lib.hid hCk
    clear hJk hCk HCW
    by_cases hlt : k < t.chain.length
    · have t1 : decide ((k : Int) < (t.chain.length : Int)) = true := by simp; omega
      obtain ⟨x, hx⟩ : ∃ x, t.chain[k]? = some x := ⟨_, List.getElem?_eq_getElem hlt⟩
      have hxe : t.chain[k] = x := (List.getElem?_eq_some_iff.1 hx).2
      obtain ⟨b, off, rfl, e0, e1⟩ := HC.out.c k x hx
      obtain ⟨sa, sl, sc, hs⟩ := HSV.out k hlt
      rw [hs] at e1
      have c0 := row_cell HC.out.b 0
      have c1 := row_cell HC.out.b 1
      have c2 := row_cell HC.out.b 2
      have c3 := row_cell HC.out.b 3
      have c4 := row_cell HC.out.b 4
      simp at c0 c1 c2 c3 c4
      have HXE := Lib.hid hxe
      have HSS := Lib.hid hs
      have i0 : (0 : Int) ≤ (k : Int) := by omega
      have i1 : (k : Int) < (t.chain.length : Int) := by omega
      have i2 : (k : Int) ≤ (cap : Int) := by omega
      have i3 : (k : Int) ≤ (t.chain.length : Int) := by omega
      clear hx hxe hs
      have hA1 := (Fr.refl [] wr).alloc (.cells #[.string ⟨x.nk.toArray⟩, .slice sa sl sc] 44)
      have hA2 := hA1.alloc (.cells #[.int .i64 t.serial, .int .i64 t.shw, .int .i64 t.place, .string ⟨t.first.toArray⟩, .slice (some ⟨b, off, none⟩) t.chain.length cap] 24)
      have d0 := hA1.cell c0 (by simp)
      have d1 := hA1.cell c1 (by simp)
      have d2 := hA1.cell c2 (by simp)
      have d3 := hA1.cell c3 (by simp)
      have d4 := hA1.cell c4 (by simp)
      have d5 := hA2.cell c4 (by simp)
      have hA3 := hA1.alloc (.cells #[.int .i64 t.serial, .int .i64 t.shw, .int .i64 t.place, .string ⟨t.first.toArray⟩, .slice (some ⟨b, off, none⟩) k cap] 24)
      clear c0 c1 c2 c3 c4 hA2
      have HA3 := Lib.hid hA3
      clear hA1 hA3
      gi_wp2_with fail
      obtain ⟨W3, hW3⟩ : ∃ W3, W3 = (wr.alloc (.cells #[.string ⟨x.nk.toArray⟩, .slice sa sl sc] 44)).alloc (.cells #[.int .i64 t.serial, .int .i64 t.shw, .int .i64 t.place, .string ⟨t.first.toArray⟩, .slice (some ⟨b, off, none⟩) k cap] 24) := ⟨_, rfl⟩
      rw [← hW3] at HA3 ⊢
      clear hW3 d0 d1 d2 d3 d4 d5
      have hJ2 := J_below HJ.out HK.out HA3.out
      obtain ⟨fn, tmps, asg, bd, hy, hR⟩ := HY.out ((List.finRange t.chain.length).take k) ⟨k, hlt⟩ W3 hJ2 (by rw [List.length_take, List.length_finRange]; omega)
      unfold encsT at hy
      dsimp only at hy
      have hxe2 : t.chain[(⟨k, hlt⟩ : Fin t.chain.length)] = x := HXE.out
      rw [hxe2, HSS.out] at hy
      clear hxe2
      have HR := Lib.hid (hR.mono (R' := fun e W' => ∃ b', e = .returned (.bool b') ∧ YPost J Jx (KpT bt t (some ⟨b, off, none⟩) cap sv) ((List.finRange t.chain.length).take k) ⟨k, hlt⟩ W3 b' W') (fun e W' h => by rcases h with ⟨h1, h2, h3⟩ | ⟨h1, h2⟩; exact ⟨true, h1, Or.inl ⟨rfl, h2, h3⟩⟩; exact ⟨false, h1, Or.inr ⟨rfl, h2⟩⟩))
      clear hR hJ2
      rw [hy]
      gi_wp2_with fail
      refine HR.out.mono ?_
      rintro e w3 ⟨yb, rfl, hyp⟩
      have HYP := Lib.hid hyp
      clear hyp HR hy
      cases yb with
      | true =>
        obtain ⟨_, hJ3, hK3⟩ | ⟨h, _⟩ := HYP.out
        · have HC3 := Lib.hid (hK3 (HC.out.fr HA3.out))
          have HJ3 : Hid (J ((List.finRange t.chain.length).take (k + 1)) w3) := Lib.hid (by rw [List.take_succ_eq_append_getElem (by simpa using hlt)]; simpa using hJ3)
          clear hJ3 hK3 HYP
          gi_wp2_with fail
          go_roundw
          case rel => exact ⟨k + 1, by omega, by go_num, HJ3.out, HC3.out⟩
          case measure => simp [intOf]; omega
        · cases h
      | false =>
        obtain ⟨h, _⟩ | ⟨_, hx3⟩ := HYP.out
        · cases h
        · have HX3 := Lib.hid hx3
          clear hx3 HYP
          gi_wp2_with fail
          refine bodyPost_ret (results_none rfl _ _ _) rfl ?_
          exact ⟨⟨_, rfl⟩, .inr ⟨_, trivial, HX3.out⟩⟩
    · obtain rfl : k = t.chain.length := by omega
      have t1 : decide ((t.chain.length : Int) < (t.chain.length : Int)) = false := by simp
      have HJk : Hid (J (List.finRange t.chain.length) wr) := by have := HK.out; rw [List.take_of_length_le (by simp)] at this; exact this
      gi_wp2_with fail
      go_end0
      exact ⟨⟨_, rfl⟩, .inl ⟨_, rfl, HJk.out⟩⟩
end Go.Proofs.YtennhdgnpodkaaaGreatDoor
