/-
  reveal.of, reveal.elements: the iterator over the salts and the elements.
-/
import Derived.Test.YtmhejcndkplepaaDoorRvA
import Derived.Test.YtmhejcndkplepaaDoorTrB
namespace Go.Proofs.YtmhejcndkplepaaDoor
open Go.RowKit Go.Shelf
attribute [local go_sem] Oper.semAt_some

theorem rof_any (v : Value) (l : List (List UInt8)) (w : World) (hv : Strs w v l) (hn : l.length ≤ 1000000) (hl : ∀ s ∈ l, s.length ≤ 1000000) (hT : Tabs w) :
    Calls Tryd.prog 108 #[v] w fun e w' => e = .returned (.string ⟨(dlist l).toArray⟩) ∧ Below w.heap.size w w' := by
  obtain ⟨a, cap, rfl, hln, hf⟩ := hv.form
  go_enter Tryd.func108, Tryd.ntmps108
  go_wp2_with fail
  refine (list_any _ l w hv (joinL_cap l hn hl) hT).mono ?_
  rintro e w' ⟨rfl, hb⟩
  go_wp2_with fail
  go_ret
  exact ⟨rfl, hb⟩

/-- The salt of a field; its element. -/
def saltS (s : List UInt8) (i : Nat) : List UInt8 := dlist [s, Lib.decDigits i]
def eleS (fields : List (List UInt8)) (s : List UInt8) (i : Nat) : List UInt8 := saltS s i ++ fields.getD i []
theorem saltS_length (s : List UInt8) (i : Nat) : (saltS s i).length = 16 := dsum_length _
def encsE (fields : List (List UInt8)) (s : List UInt8) (i : Fin fields.length) : Array Value := #[.string ⟨(saltS s i.val).toArray⟩, .string ⟨(eleS fields s i.val).toArray⟩]
/-- What a round keeps for the iterator. -/
def KpE (fv : Value) (fields : List (List UInt8)) (bt : Nat) (s : List UInt8) (A B : World) : Prop :=
  (Strs A fv fields → Strs B fv fields) ∧ (A.heap[bt]? = some (.cells #[.string ⟨s.toArray⟩] 9 (0, 0)) → B.heap[bt]? = some (.cells #[.string ⟨s.toArray⟩] 9 (0, 0))) ∧ (Tabs A → Tabs B)
theorem KpE.t {fv : Value} {fields : List (List UInt8)} {bt : Nat} {s : List UInt8} {A B C : World} (h : KpE fv fields bt s A B) (k : KpE fv fields bt s B C) : KpE fv fields bt s A C :=
  ⟨fun x => k.1 (h.1 x), fun x => k.2.1 (h.2.1 x), fun x => k.2.2 (h.2.2 x)⟩
theorem dec_short (i : Nat) (h : i < 1000000) : (Lib.decDigits i).length ≤ 21 := by
  have := Lib.itoa_length_le (i : Int) (by omega) (by omega)
  rwa [Lib.itoa_nonneg] at this

theorem elements_any (a : Option Addr) (n c : Nat) (s : List UInt8) (w : World) :
    Calls Tryd.prog 85 #[.slice a n c, .string ⟨s.toArray⟩] w fun e w' => e = .returned (.func (.func 107) #[] #[.pointer (some ⟨w.heap.size, 0, none⟩), .pointer (some ⟨w.heap.size + 1, 0, none⟩)]) ∧
      w' = (w.alloc (.cells #[.slice a n c] 22)).alloc (.cells #[.string ⟨s.toArray⟩] 9) := by
  go_enter Tryd.func85, Tryd.ntmps85
  go_wp2
  go_ret
  exact ⟨by simp, rfl⟩

set_option maxRecDepth 100000 in
set_option maxHeartbeats 2000000 in
theorem elements_stops (m bs bt : Nat) (fv : Value) (fields : List (List UInt8)) (s : List UInt8) (w : World) (hm : 1 ≤ m) (hn : fields.length ≤ 100000) (hsl : s.length ≤ 1000000) (hfs : ∀ f ∈ fields, f.length ≤ 1000000) (hv : Strs w fv fields)
    (hb1 : w.heap[bs]? = some (.cells #[fv] 22 (0, 0))) (hb2 : w.heap[bt]? = some (.cells #[.string ⟨s.toArray⟩] 9 (0, 0))) (hT : Tabs w) :
    SeqStopsK Fence.wide m Tryd.prog 107 #[.pointer (some ⟨bs, 0, none⟩), .pointer (some ⟨bt, 0, none⟩)] (encsE fields s) (KpE fv fields bt s) (fun xs => xs = List.finRange fields.length) (fun _ => True) fields.length w := fun l J Jx W hW hJ hJx hY h0 => by
  have hB1 := (Fr.ofBelow (X := []) hW).at hb1 (by simp)
  have hB2 := (Fr.ofBelow (X := []) hW).at hb2 (by simp)
  have hT2 := hT.fr (Fr.ofBelow hW)
  have hV2 := hv.fr0 (Fr.ofBelow hW)
  obtain ⟨fa, fcap, rfl, hfl, hfa⟩ := hv.form
  have hcs := cell_of_one hB1
  have HY := Lib.hid hY
  have HJ := Lib.hid hJ
  clear hY hJ hJx hb1 hb2 hW hv hT
  refine callsIn_of_wp Tryd.func107 rfl trivial ?_ rfl
  simp only [Tryd.ntmps107, List.size_toArray, List.length_cons, List.length_nil, Nat.reduceAdd, Nat.reduceSub, Array.replicate_succ, Array.replicate_zero, List.push_toArray, List.append_toArray, List.nil_append, List.cons_append]
  gi_wp2_with fail
  clear hcs hB1
  gi_loopw [9] (fun i wr => ∃ k : Nat, k ≤ fields.length ∧ i = .int .i64 (k : Int) ∧ J ((List.finRange fields.length).take k) wr ∧ Strs wr (.slice fa fields.length fcap) fields ∧ wr.heap[bt]? = some (.cells #[.string ⟨s.toArray⟩] 9 (0, 0)) ∧ Tabs wr)
    (fun i _ => fields.length - (intOf i).toNat)
  case atStart => exact ⟨0, by omega, rfl, h0, hV2, hB2, hT2⟩
  case round =>
    clear hB2 hT2 hV2 h0
    obtain ⟨k, hk, rfl, hJk, hvk, hbk, hTk⟩ := hrel
    have HV := Lib.hid hvk
    have HB := Lib.hid hbk
    have HT := Lib.hid hTk
    have HK := Lib.hid hJk
    have hcs := cell_of_one hbk
    clear hvk hbk hTk hJk
    by_cases hlt : k < fields.length
    · have hmx : Tryd.prog.follows .mixedOrders = true := by kernel_rfl
      have t1 : decide ((k : Int) < (fields.length : Int)) = true := by simp; omega
      obtain ⟨b, off, rfl⟩ := hfa k hlt
      have c0 := HV.out.cell k hlt
      have HE : Hid (eleS fields s k = saltS s k ++ fields.getD k []) := Lib.hid rfl
      have hfk := hfs _ (getD_mem fields k [] hlt)
      generalize fields.getD k [] = f at c0 HE hfk
      have g0 : (0 : Int) ≤ (k : Int) := by omega
      have g1 : (k : Int) < (fields.length : Int) := by omega
      gi_wp2_with fail
      gi_region_with_o (first
        | (refine ⟨trivial, ?_⟩; gi_at_call 82; refine (callsIn_wide.2 (itoa_any k _ (by omega) (HT.out.fr (by repeat (first | exact Fr.refl _ _ | apply Fr.drew | apply Fr.alloc))))).mono ?_; rintro e w1 ⟨rfl, hb1⟩; have hw1 : Fr [] wr w1 := ((Fr.refl [] wr).drew).below hb1 (Nat.le_refl _); have hcs1 : w1.cell? ⟨bt, 0, none⟩ = some (.string ⟨s.toArray⟩) := cell_of_one (hw1.at HB.out (by simp)))
        | (refine ⟨trivial, ?_⟩; gi_at_call 108; refine (callsIn_wide.2 (rof_any _ [s, Lib.decDigits k] _ (strs_two (heap_new rfl)) (by simp) (fun x hx => by rcases List.mem_cons.1 hx with rfl | hx; exact hsl; rw [List.mem_singleton.1 hx]; have := dec_short k (by omega); omega) (HT.out.fr (hw1.alloc _)))).mono ?_; rintro e w2 ⟨rfl, hb2⟩; have hw2 : Fr [] wr w2 := (hw1.alloc _).below hb2 (hw1.alloc _).size))
      all_goals
        have HS : Hid (dlist [s, Lib.decDigits k] = saltS s k) := Lib.hid rfl
        have hJ2 := JC_below HJ.out HK.out hw2
        obtain ⟨fn, tmps, asg, bd, hy, hR⟩ := HY.out ((List.finRange fields.length).take k) ⟨k, hlt⟩ w2 hJ2 (by rw [List.length_take, List.length_finRange]; omega)
        unfold encsE at hy
        dsimp only at hy
        rw [HE.out] at hy
        rw [HS.out]
        have HR := Lib.hid (hR.mono (R' := fun e W' => ∃ b', e = .returned (.bool b') ∧ YPostC J Jx (KpE (.slice (some ⟨b, off, none⟩) fields.length fcap) fields bt s) ((List.finRange fields.length).take k) ⟨k, hlt⟩ w2 b' W') (fun e W' h => by rcases h with ⟨h1, h2, h3⟩ | ⟨h1, h2⟩; exact ⟨true, h1, Or.inl ⟨rfl, h2, h3⟩⟩; exact ⟨false, h1, Or.inr ⟨rfl, h2⟩⟩))
        have hba := ba_append (saltS s k) f
        have hss := saltS_length s k
        have hsz : (saltS s k).length + f.length ≤ 9223372036854775807 := by omega
        generalize saltS s k = ss at hy hba hsz ⊢
        clear hss
        clear hR hJ2 hcs hcs1 c0 HS
        gi_wp2_with fail
        refine HR.out.mono ?_
        rintro e w3 ⟨yb, rfl, hyp⟩
        have HYP := Lib.hid hyp
        clear hyp HR hy
        cases yb with
        | true =>
          obtain ⟨_, hJ3, hK3⟩ | ⟨h, _⟩ := HYP.out
          · have HV3 := Lib.hid (hK3.1 (HV.out.fr0 hw2))
            have HB3 := Lib.hid (hK3.2.1 (hw2.at HB.out (by simp)))
            have HT3 := Lib.hid (hK3.2.2 (HT.out.fr hw2))
            have HJ3 : Hid (J ((List.finRange fields.length).take (k + 1)) w3) := Lib.hid (by rw [List.take_succ_eq_append_getElem (by simpa using hlt)]; simpa using hJ3)
            clear hJ3 hK3 HYP
            gi_wp2_with fail
            go_roundw
            case rel => exact ⟨k + 1, by omega, by go_num, HJ3.out, HV3.out, HB3.out, HT3.out⟩
            case measure => simp [intOf]; omega
          · cases h
        | false =>
          obtain ⟨h, _⟩ | ⟨_, hx3⟩ := HYP.out
          · cases h
          · have HX3 := Lib.hid hx3
            clear hx3 HYP
            gi_wp2_with fail
            refine bodyPost_ret (results_none rfl _ _ _) rfl ?_
            exact ⟨⟨_, rfl⟩, .inr ⟨_, trivial, HX3.out⟩⟩
    · obtain rfl : k = fields.length := by omega
      have t1 : decide ((fields.length : Int) < (fields.length : Int)) = false := by simp
      have HJk : Hid (J (List.finRange fields.length) wr) := by have := HK.out; rw [List.take_of_length_le (by simp)] at this; exact Lib.hid this
      gi_wp2_with fail
      go_end0
      exact ⟨⟨_, rfl⟩, .inl ⟨_, rfl, HJk.out⟩⟩
end Go.Proofs.YtmhejcndkplepaaDoor
