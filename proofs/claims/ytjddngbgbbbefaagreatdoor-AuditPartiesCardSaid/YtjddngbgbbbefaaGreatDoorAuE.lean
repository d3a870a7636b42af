/-
  The map of findings: keys that are structs of three ints.
  maps.Keys over findings.
  The iterator of maps.Keys over findings.
  Slices of findings; append to those that the call has made.
  The statement 'for .. range' over an iterator whose variables lie in boxes of their own; what the rounds keep bears the iterator's own steps alone (so it may speak of memory that the rounds made).
  slices.AppendSeq, Collect over findings.
  slices.Collect over findings.
  cmp.Compare over int.
  cmp.Or over three ints.
  The comparison of findings.
  slices.SortedFunc over findings: what it hands back is in order, each finding once.
-/
import Derived.Test.YtjddngbgbbbefaaGreatDoorAuA
import Derived.Maps.Own
import Derived.Maps.OwnSet
import Derived.DeepKeys4
import Derived.Laws.IdiomMaps
import Derived.Shelf.SlIter.Collect
import Derived.Test.YtjddngbgbbbefaaGreatDoorRfAt
import Derived.RangeFuncKeeps
import Derived.Maps.OwnIn
import Derived.Deep.RegionHeld3
import Derived.Test.YtjddngbgbbbefaaGreatDoorPlnAu
import Derived.Test.YtjddngbgbbbefaaGreatDoorShelfB
import Derived.Shelf.SlSortCmp.NoneTotal
namespace Go.Proofs.YtjddngbgbbbefaaGreatDoor
open Go.RowKit Go.WideMaps Go.Maps
set_option maxRecDepth 100000

def inI (k : Int) : Prop := -9223372036854775808 ≤ k ∧ k ≤ 9223372036854775807
structure inA (x : Aud) : Prop where
  k : inI x.kind
  a : inI x.a
  b : inI x.b
def audV (x : Aud) : Value := .agg #[.int .i64 x.kind, .int .i64 x.a, .int .i64 x.b]
def keyA (x : Aud) : Lit := .string (keyBytes [.int .i64 x.kind, .int .i64 x.a, .int .i64 x.b])
theorem wf_inI {k : Int} (h : inI k) : (Lit.int .i64 k).wf = true := WalkArith.wf_i64 (by unfold inI at h; omega)
theorem rowA : (48 : TypeId) < Tryz.prog.types.size := of_decide_eq_true (by kernel_rfl)
theorem wideA : (match Tryz.prog.underlying 48 with | some (.array _ _) | some (.struct _) => true | _ => false) = true := by kernel_rfl
theorem deepA : Tryz.prog.keyType 48 = true := by kernel_rfl
theorem laidOutA : laidOutB Tryz.prog = true := by kernel_rfl
theorem lawA : Keyed Tryz.prog 48 := Keyed.of_law (deep_law_laid laidOutA (m := 2) (by omega) rowA (by kernel_rfl) wideA)
theorem cellsA : Tryz.prog.cellsOf 48 = 3 := by kernel_rfl
theorem cellsI : Tryz.prog.cellsOf 3 = 1 := by kernel_rfl
theorem size_pos {n t : Nat} (h : t < n) : ∃ m, n = m + 1 := ⟨n - 1, by omega⟩
theorem sizeA : ∃ m, Tryz.prog.types.size = m + 1 := size_pos rowA
theorem key_A {x : Aud} (h : inA x) : keyOf Tryz.prog 48 (audV x) = some (keyA x) := by
  obtain ⟨m, hm⟩ := sizeA
  have u := Tryz.underlying48
  have i := Tryz.underlying3
  have w1 := wf_inI h.k
  have w2 := wf_inI h.a
  have w3 := wf_inI h.b
  have hf : (audV x).formed Tryz.prog 48 = true := by simp [audV, Value.formed, u, cellsA]
  have hl : Tryz.prog.keyLits (Tryz.prog.types.size + 1) 48 (audV x).cells.toList = some [.int .i64 x.kind, .int .i64 x.a, .int .i64 x.b] := by
    rw [hm]
    simp [Program.keyLits, u, i, audV, Value.cells, cellsA, cellsI, w1, w2, w3]
  unfold keyOf
  rw [u]
  simp only [deepA, hf, hl, Bool.and_self, if_true, Option.map_some]
  rfl
theorem lit_A (x : Aud) : WideAt.IsKeyLit (keyA x) := by first | trivial | exact ⟨⟩ | simp [WideAt.IsKeyLit, keyA]
theorem keyA_inj {x y : Aud} (hx : inA x) (hy : inA y) (h : keyA x = keyA y) : x = y := by
  have h1 := key_A hx
  have h2 := key_A hy
  rw [← h] at h2
  have := lawA.inj h1 h2
  unfold audV at this
  cases x; cases y
  simp at this
  simp [this]

/-- Block b is a map of at most n entries, whose keys are the findings of F. -/
def MapA (w : World) (b n : Nat) (F : List Aud) : Prop :=
  (∀ x ∈ F, inA x) ∧ ∃ D : DataW Unit, w.ownsMap Tryz.prog 48 (plainElem Tryz.prog 4) b n D ∧ ∀ k, WideAt.IsKeyLit k → (has D k = true ↔ ∃ x ∈ F, k = keyA x)
theorem MapA.made (w : World) : MapA (w.alloc (.map #[] 0)) w.heap.size 0 [] := ⟨fun x h => (by cases h), _, World.ownsMap_made _ _ _ _, fun k _ => ⟨fun h => (by cases h), fun ⟨x, h, _⟩ => (by cases h)⟩⟩
theorem MapA.fr {X : List Nat} {w w' : World} {b n : Nat} {F : List Aud} (h : MapA w b n F) (hf : Fr X w w') (hx : b ∉ X) : MapA w' b n F := by
  obtain ⟨hi, D, ⟨es, clock, hb, r⟩, hat⟩ := h
  exact ⟨hi, D, ⟨es, clock, hf.at hb hx, r⟩, hat⟩
theorem MapA.lt {w : World} {b n : Nat} {F : List Aud} (h : MapA w b n F) : b < w.heap.size := by
  obtain ⟨_, D, hown, _⟩ := h
  exact hown.lt
theorem MapA.more {w : World} {b n n' : Nat} {F : List Aud} (h : MapA w b n F) (hn : n ≤ n') : MapA w b n' F := by
  obtain ⟨hi, D, hown, hat⟩ := h
  exact ⟨hi, D, hown.mono hn, hat⟩
theorem wpList_putA {ops : Array Oper} {rest : List Oper} {o : Oper} {a : Act} {Q : Exit → Act → World → Prop} {w : World} (hg : o.guard = none) (m x v : Operand) (hop : o.op = Op.mapUpdate 67 m x v)
    (b n : Nat) (F : List Aud) (hm : a.eval m = .map (some b)) (h : MapA w b n F) (hn : n < 1000000) (y : Aud) (hy : inA y) (hx : a.eval x = audV y) (hv : a.eval v = .bool true)
    (hK : ∀ w', MapA w' b (n + 1) (F ++ [y]) → Fr [b] w w' → wpList Tryz.prog ops Q rest (a.put o.dst undef) w') :
    wpList Tryz.prog ops Q (o :: rest) a w := by
  obtain ⟨hi, D, hown, hat⟩ := h
  refine wpList_mapUpdate_own w hg m x v 67 hop 48 4 lawA Tryz.underlying67 (plainElem Tryz.prog 4) b n D hm hown (by unfold maxLen; omega) _ _ _ hx hv (key_A hy) _ [] (plainElem_bool Tryz.underlying4 true) ?_
  intro w' h' hgrow
  refine hK w' ⟨fun z hz => ?_, _, h', fun k hk => ?_⟩ ((Fr.refl [b] w).grown hgrow (fun r e => Or.inl (by cases e; simp)))
  · rcases List.mem_append.1 hz with hz | hz
    · exact hi z hz
    · rw [List.mem_singleton.1 hz]; exact hy
  · by_cases e : k = keyA y
    · subst e
      rw [has_put_same hown.isMap (lit_A y)]
      exact ⟨fun _ => ⟨y, by simp, rfl⟩, fun _ => rfl⟩
    · rw [has_put_other e, hat k hk]
      constructor
      · rintro ⟨z, hz, e2⟩
        exact ⟨z, by simp [hz], e2⟩
      · rintro ⟨z, hz, e2⟩
        rcases List.mem_append.1 hz with hz | hz
        · exact ⟨z, hz, e2⟩
        · rw [List.mem_singleton.1 hz] at e2
          exact absurd e2 e
theorem find_any (b n : Nat) (F : List Aud) (x : Aud) (w : World) (h : MapA w b n F) (hn : n < 1000000) (hx : inA x) :
    Calls Tryz.prog 44 #[.map (some b), .int .i64 x.kind, .int .i64 x.a, .int .i64 x.b] w fun e w' => e = .returned (.tuple #[]) ∧ MapA w' b (n + 1) (F ++ [x]) ∧ Fr [b] w w' := by
  have HM := Lib.hid h
  have HX := Lib.hid hx
  clear h hx
  go_enter Tryz.func44, Tryz.ntmps44
  go_wp2_with (at_mapUpdate; go_loud (refine wpList_putA rfl (.tmp 8) (.tmp 12) (.const (.bool true)) rfl b n F rfl HM.out hn x HX.out rfl rfl ?_))
  intro w' hm hf
  have HM2 := Lib.hid hm
  have HF2 := Lib.hid hf
  clear hm hf
  go_wp2_with fail
  go_end0
  exact ⟨rfl, HM2.out, HF2.out⟩
end Go.Proofs.YtjddngbgbbbefaaGreatDoor
namespace Go.Proofs.YtjddngbgbbbefaaGreatDoor
open Go.RowKit Go.WideMaps Go.Maps Go.Shelf
set_option maxRecDepth 100000

theorem MapA.len {w : World} {b n : Nat} {F : List Aud} (h : MapA w b n F) (ty : TypeId) : ∃ m : Nat, (Builtin.len_ #[67] ty #[.map (some b)]).run Tryz.prog w = .ok (.int .i64 (m : Int)) w ∧ (m = 0 ↔ F = []) ∧ m ≤ n := by
  obtain ⟨hi, D, hown, hat⟩ := h
  refine ⟨Maps.size D, hown.len Tryz.underlying67 ty, ?_, hown.size_le⟩
  obtain ⟨es, rfl, _, hk⟩ := hown.entries lawA
  rw [Maps.size_eq]
  constructor
  · intro h0
    cases F with
    | nil => rfl
    | cons x F =>
      have := (hat _ (lit_A x)).2 ⟨x, by simp, rfl⟩
      rw [List.length_eq_zero_iff.1 h0] at this
      cases this
  · rintro rfl
    cases es with
    | nil => rfl
    | cons e es =>
      have hke := hk e (by simp)
      obtain ⟨x, hx, _⟩ := (hat e.1 hke).1 (by rw [Maps.has_eq, List.any_cons, WideAt.sameKey_self hke]; rfl)
      cases hx
theorem int_lits {d : Nat} {c : Value} {ls : List Lit} (h : Tryz.prog.keyLits (d + 1) 3 [c] = some ls) : ∃ n, c = .int .i64 n ∧ (Lit.int .i64 n).wf = true ∧ ls = [.int .i64 n] := by
  have i := Tryz.underlying3
  unfold Program.keyLits at h
  rw [i] at h
  cases c <;> simp at h
  rename_i q n
  obtain ⟨⟨rfl, hw⟩, rfl⟩ := h
  exact ⟨n, rfl, hw, rfl⟩
theorem aud_lits {m : Nat} {c0 c1 c2 : Value} {ls : List Lit} (h : Tryz.prog.keyLits (m + 1 + 1) 48 [c0, c1, c2] = some ls) :
    ∃ a b c, Tryz.prog.keyLits (m + 1) 3 [c0] = some a ∧ Tryz.prog.keyLits (m + 1) 3 [c1] = some b ∧ Tryz.prog.keyLits (m + 1) 3 [c2] = some c ∧ ls = a ++ (b ++ c) := by
  have u := Tryz.underlying48
  unfold Program.keyLits at h
  rw [u] at h
  cases h0 : Tryz.prog.keyLits (m + 1) 3 [c0] with
  | none => simp [cellsA, cellsI, h0] at h
  | some a =>
    cases h1 : Tryz.prog.keyLits (m + 1) 3 [c1] with
    | none => simp [cellsA, cellsI, h0, h1] at h
    | some b =>
      cases h2 : Tryz.prog.keyLits (m + 1) 3 [c2] with
      | none => simp [cellsA, cellsI, h0, h1, h2] at h
      | some c =>
        simp [cellsA, cellsI, h0, h1, h2] at h
        exact ⟨a, b, c, rfl, rfl, rfl, h.symm⟩
/-- Every key is a finding. -/
theorem key_inv {v : Value} {l : Lit} (h : keyOf Tryz.prog 48 v = some l) : ∃ x, inA x ∧ v = audV x ∧ l = keyA x := by
  obtain ⟨m, hm⟩ := sizeA
  have u := Tryz.underlying48
  unfold keyOf at h
  rw [u] at h
  simp only at h
  split at h
  · rename_i hf
    rw [Bool.and_eq_true] at hf
    cases v with
    | agg cs =>
      have hs : cs.size = 3 := by have := hf.2; simp [Value.formed, u, cellsA] at this; exact this
      obtain ⟨c0, c1, c2, rfl⟩ : ∃ c0 c1 c2, cs = #[c0, c1, c2] := by
        obtain ⟨l⟩ := cs
        match l, hs with
        | [c0, c1, c2], _ => exact ⟨c0, c1, c2, rfl⟩
      rw [hm] at h
      have hc : (Value.agg #[c0, c1, c2]).cells.toList = [c0, c1, c2] := rfl
      rw [hc, Option.map_eq_some_iff] at h
      obtain ⟨ls, h1, rfl⟩ := h
      obtain ⟨a, b, c, h2, h4, h6, h7⟩ := aud_lits h1
      obtain ⟨x, rfl, hx, rfl⟩ := int_lits h2
      obtain ⟨y, rfl, hy, rfl⟩ := int_lits h4
      obtain ⟨z, rfl, hz, rfl⟩ := int_lits h6
      have wf_in : ∀ k : Int, (Lit.int .i64 k).wf = true → inI k := fun k hk => by
        simp [Lit.wf, IntKind.min, IntKind.max, IntKind.signed, IntKind.bits] at hk
        unfold inI
        omega
      refine ⟨⟨x, y, z⟩, ⟨wf_in _ hx, wf_in _ hy, wf_in _ hz⟩, rfl, ?_⟩
      rw [h7]
      rfl
    | _ => simp [Value.formed, u] at hf
  · cases h

/-- The keys that have come, and those that are left. -/
def CollA {H : Type} (D0 : DataW H) (left : Lit → Bool) (ss : List Aud) : Prop := ss.Nodup ∧ (∀ x ∈ ss, inA x) ∧ ∀ x, inA x → (x ∈ ss ↔ (has D0 (keyA x) = true ∧ left (keyA x) = false))
theorem CollA.start {H : Type} (D0 : DataW H) : CollA D0 (has D0) [] := ⟨List.nodup_nil, fun x h => (by cases h), fun x _ => by cases has D0 (keyA x) <;> simp⟩
theorem CollA.step {H : Type} {D0 : DataW H} {left : Lit → Bool} {ss : List Aud} (h : CollA D0 left ss) {x : Aud} {y : DataW H} (hx : inA x) (hlk : left (keyA x) = true) (hat : ∀ zd, D0.atKey (keyA x) zd = y) : CollA D0 (fun z => left z && !z.sameKey (keyA x)) (ss ++ [x]) := by
  have hhas : has D0 (keyA x) = true := has_true_of_atKey hat
  have hnew : x ∉ ss := fun hm => by have := ((h.2.2 x hx).1 hm).2; rw [hlk] at this; cases this
  refine ⟨List.nodup_append.2 ⟨h.1, by simp, fun a ha b hb => by simp at hb; subst hb; exact fun e => hnew (e ▸ ha)⟩, fun z hz => ?_, fun z hz => ?_⟩
  · rcases List.mem_append.1 hz with hz | hz
    · exact h.2.1 z hz
    · rw [List.mem_singleton.1 hz]; exact hx
  · by_cases e : z = x
    · subst e
      simp [hhas, WideAt.sameKey_self (lit_A z)]
    · have hne : keyA z ≠ keyA x := fun h2 => e (keyA_inj hz hx h2)
      simp [h.2.2 z hz, e, Maps.sameKey_ne hne]
theorem CollA.done {F : List Aud} {D : DataW Unit} {left : Lit → Bool} {ss : List Aud} (h : CollA D left ss) (hi : ∀ x ∈ F, inA x) (hat : ∀ k, WideAt.IsKeyLit k → (has D k = true ↔ ∃ x ∈ F, k = keyA x)) (hl : ∀ kl, left kl = false) : ss.Nodup ∧ ∀ x, x ∈ ss ↔ x ∈ F := by
  refine ⟨h.1, fun x => ?_⟩
  constructor
  · intro hx
    have hin := h.2.1 x hx
    obtain ⟨y, hy, e⟩ := (hat _ (lit_A x)).1 ((h.2.2 x hin).1 hx).1
    rw [keyA_inj hin (hi y hy) e]
    exact hy
  · intro hx
    exact (h.2.2 x (hi x hx)).2 ⟨(hat _ (lit_A x)).2 ⟨x, hx, rfl⟩, hl _⟩
end Go.Proofs.YtjddngbgbbbefaaGreatDoor
namespace Go.Proofs.YtjddngbgbbbefaaGreatDoor
open Go.RowKit Go.WideMaps Go.Maps Go.Sort Go.Shelf
set_option maxRecDepth 100000

set_option maxHeartbeats 2000000 in
theorem keysA1_in (n : Nat) (hn : 1 ≤ n) (l Bm b nn : Nat) (D0 : DataW Unit) {R : Value → Option (DataW Unit × List MemPlace)} (J Jx : List Aud → World → Prop)
    (hY : ∀ pre x W, J pre W → pre.length < Maps.size D0 → YieldAt Fence.wide (n - 1) Tryz.prog l #[audV x] W fun e W' => (e = .returned (.bool true) ∧ J (pre ++ [x]) W' ∧ KeepsWalks W W') ∨ (e = .returned (.bool false) ∧ Jx (pre ++ [x]) W'))
    (W : World) (hJ : AbidesFrom W.heap.size J) (hm : W.cell? ⟨Bm, 0, none⟩ = some (.map (some b))) (hown : W.ownsMap Tryz.prog 48 R b nn D0) (h0 : J [] W) :
    CallsIn Fence.wide n Tryz.prog 91 #[.func (.yield l) #[] #[], .pointer (some ⟨Bm, 0, none⟩)] W fun e W' => (∃ v, e = .returned v) ∧ ((∃ (left : Lit → Bool) (ss : List Aud), (∀ kl, left kl = false) ∧ CollA D0 left ss ∧ J ss W') ∨ ∃ pre, Jx pre W') := by
  have HY := Lib.hid hY
  refine callsIn_of_wp Tryz.func91 rfl trivial ?_ rfl
  simp only [Tryz.ntmps91, List.size_toArray, List.length_cons, List.length_nil, Nat.reduceAdd, Nat.reduceSub, Array.replicate_succ, Array.replicate_zero, List.push_toArray, List.append_toArray, List.nil_append, List.cons_append]
  gi_wp2_with (first
    | (gi_at_range; refine wpListIn_range_own _ rfl _ 67 rfl 48 4 lawA Tryz.underlying67 _ b nn _ rfl hown ?_; intro w0 hrg0 hg0 hs0)
    | gi_in)
  go_frame
  gi_loopw [3] (fun _ wr => ∃ (left : Lit → Bool) (cnt : Nat) (ss : List Aud), wr.ranges Tryz.prog 48 R b W.heap.size nn D0 left cnt ∧ ss.length + cnt ≤ Maps.size D0 ∧ CollA D0 left ss ∧ J ss wr)
    (fun _ wr => wr.rangeLeft b W.heap.size)
  case atStart =>
    exact ⟨_, _, [], hrg0, by simp, CollA.start D0, hJ [] W w0 none h0 hg0 (fun r e => by cases e)⟩
  case round =>
    obtain ⟨left, cnt, ss, hrg, hcs, hC, hJs⟩ := hrel
    gi_wp2_with (first
      | (gi_at_next; refine wpListIn_next_ranges _ rfl _ rfl 48 lawA R audV id (fun key kl hk => by obtain ⟨x, _, hx, _⟩ := key_inv hk; exact ⟨x, hx⟩) (fun v _ _ => ⟨v, rfl⟩) b W.heap.size nn _ _ _ rfl hrg ?_ ?_)
      | gi_in)
    · intro hc0 hl0
      gi_wp2
      go_end0
      exact ⟨⟨_, rfl⟩, Or.inl ⟨left, ss, hl0, hC, hJs⟩⟩
    · intro x c kl yd yp w2 cnt2 hkey hlk hv hat hrg2 hlt hg2 hs2 hen
      obtain ⟨x', hx', ex, rfl⟩ := key_inv hkey
      have hxx : x = x' := by cases x; cases x'; simp [audV] at ex; simp [ex]
      subst hxx
      have hJ2 : J ss w2 := hJ ss wr w2 (some W.heap.size) hJs hg2 (fun r e => by cases e; exact ⟨Nat.le_refl _, hrg.iter_walk⟩)
      have hJ3 : J ss (w2.alloc (.cells #[.int .i64 x.kind, .int .i64 x.a, .int .i64 x.b] 48)) := hJ ss w2 _ none hJ2 (World.grownBy_alloc _ _ none) (fun r e => by cases e)
      obtain ⟨fn, tmps, assign, body, hy, hR⟩ := HY.out ss x _ hJ3 (by omega)
      clear hs2 hJ3
      unfold audV at *
      gi_wp2
      refine hR.mono ?_
      rintro e W3 (⟨rfl, hJ4, hk3⟩ | ⟨rfl, hJ5⟩)
      case inr =>
        gi_wp2
        refine bodyPost_ret (results_none rfl _ _ _) rfl ?_
        exact ⟨⟨_, rfl⟩, Or.inr ⟨_, hJ5⟩⟩
      gi_wp2
      have hrg3 := hrg2.of_walks ((KeepsWalks.alloc w2 (.cells #[.int .i64 x.kind, .int .i64 x.a, .int .i64 x.b] 48)).trans hk3)
      go_roundw
      case rel => exact ⟨_, cnt2, ss ++ [x], hrg3, by simp; omega, hC.step hx' hlk hat, hJ4⟩
      case measure => rw [hrg3.left_eq, hrg.left_eq]; exact hlt

/-- maps.Keys hands back an iterator over the findings. -/
theorem keysA_stops (n : Nat) (hn : 1 ≤ n) (Bm b nn : Nat) (F : List Aud) (w : World) (hBm : Bm < w.heap.size) (hm : w.cell? ⟨Bm, 0, none⟩ = some (.map (some b))) (h : MapA w b nn F) :
    SeqStopsK Fence.wide n Tryz.prog 91 #[.pointer (some ⟨Bm, 0, none⟩)] (fun x => #[audV x]) KeepsWalks (fun ss => ss.Nodup ∧ (∀ x ∈ ss, inA x) ∧ ∀ x, x ∈ ss ↔ x ∈ F) (fun _ => True) nn w := fun l J Jx W hW hJ _ hY h0 => by
  obtain ⟨hi, D, hown, hat⟩ := h
  have hown' : W.ownsMap Tryz.prog 48 (plainElem Tryz.prog 4) b nn D := by
    have hbl := hown.lt
    obtain ⟨es, clock, hb, Ft, hs, hD⟩ := hown
    exact ⟨es, clock, (hW.block b hbl).trans hb, Ft, hs, hD⟩
  have hle := hown.size_le
  refine (keysA1_in n hn l Bm b nn D J Jx (fun pre x W hj hl => hY pre x W hj (by omega)) W hJ ((hW.cell (p := ⟨Bm, 0, none⟩) hBm).trans hm) hown' h0).mono ?_
  rintro e W' ⟨hv, ⟨left, ss, hl, hC, hj⟩ | ⟨pre, hj⟩⟩
  · exact ⟨hv, Or.inl ⟨ss, ⟨(hC.done hi hat hl).1, hC.2.1, (hC.done hi hat hl).2⟩, hj⟩⟩
  · exact ⟨hv, Or.inr ⟨pre, trivial, hj⟩⟩
theorem keysF_any (mb : Option Nat) (w : World) : Calls Tryz.prog 49 #[.map mb] w fun e w' => e = .returned (.func (.func 91) #[] #[.pointer (some ⟨w.heap.size, 0, none⟩)]) ∧ w' = w.alloc (.cells #[.map mb] 67) := by
  go_enter Tryz.func49, Tryz.ntmps49
  go_wp2
  go_ret
  exact ⟨rfl, rfl⟩
end Go.Proofs.YtjddngbgbbbefaaGreatDoor
namespace Go.Proofs.YtjddngbgbbbefaaGreatDoor
open Go.RowKit

/-- A slice of findings. -/
def Ads (w : World) (v : Value) (l : List Aud) : Prop :=
  (v = .slice none 0 0 ∧ l = []) ∨ ∃ b off cap, v = .slice (some ⟨b, off, none⟩) l.length cap ∧ l.length ≤ cap ∧ cap ≤ 9223372036854775807 ∧ b < w.heap.size ∧
    ∀ (i : Nat) (p : Aud), l[i]? = some p → w.cell? ⟨b, off + i * 3, none⟩ = some (.int .i64 p.kind) ∧ w.cell? ⟨b, off + i * 3 + 1, none⟩ = some (.int .i64 p.a) ∧ w.cell? ⟨b, off + i * 3 + 2, none⟩ = some (.int .i64 p.b)
theorem Ads.fr {w w' : World} {v : Value} {l : List Aud} (h : Ads w v l) (hf : Fr [] w w') : Ads w' v l := by
  rcases h with h | ⟨b, off, cap, hv, h1, h2, h3, h4⟩
  · exact Or.inl h
  · exact Or.inr ⟨b, off, cap, hv, h1, h2, Nat.lt_of_lt_of_le h3 hf.size, fun i p hp => ⟨hf.cell (h4 i p hp).1 (by simp), hf.cell (h4 i p hp).2.1 (by simp), hf.cell (h4 i p hp).2.2 (by simp)⟩⟩
theorem Ads.form {w : World} {v : Value} {l : List Aud} (h : Ads w v l) : ∃ a cap, v = .slice a l.length cap ∧ l.length ≤ cap ∧ cap ≤ 9223372036854775807 ∧ (∀ i, i < l.length → ∃ b off, a = some ⟨b, off, none⟩) := by
  rcases h with ⟨rfl, rfl⟩ | ⟨b, off, cap, hv, h1, h2, h3, h4⟩
  · exact ⟨none, 0, rfl, by simp, by simp, fun i hi => by simp at hi⟩
  · exact ⟨_, cap, hv, h1, h2, fun i _ => ⟨b, off, rfl⟩⟩
theorem Ads.cells {w : World} {b off n cap : Nat} {l : List Aud} (h : Ads w (.slice (some ⟨b, off, none⟩) n cap) l) (i : Nat) (p : Aud) (hp : l[i]? = some p) :
    w.cell? ⟨b, off + i * 3, none⟩ = some (.int .i64 p.kind) ∧ w.cell? ⟨b, off + i * 3 + 1, none⟩ = some (.int .i64 p.a) ∧ w.cell? ⟨b, off + i * 3 + 2, none⟩ = some (.int .i64 p.b) := by
  rcases h with ⟨h, _⟩ | ⟨b', off', cap', hv, _, _, _, h4⟩
  · cases h
  · cases hv; exact h4 i p hp

def audCells (p : Aud) : List Value := [.int .i64 p.kind, .int .i64 p.a, .int .i64 p.b]
theorem audCells_length (l : List Aud) : (l.flatMap audCells).length = l.length * 3 := by
  induction l with
  | nil => rfl
  | cons p l ih => rw [List.flatMap_cons, List.length_append, ih, List.length_cons]; simp [audCells]; omega
theorem audCells_at (l : List Aud) (i : Nat) (p : Aud) (hp : l[i]? = some p) (j : Nat) (hj : j < 3) : (l.flatMap audCells)[i * 3 + j]? = (audCells p)[j]? := by
  induction l generalizing i with
  | nil => simp at hp
  | cons q l ih =>
    rw [List.flatMap_cons]
    cases i with
    | zero =>
      rw [List.getElem?_cons_zero] at hp
      cases hp
      rw [Nat.zero_mul, Nat.zero_add, List.getElem?_append_left (by simp [audCells]; omega)]
    | succ i =>
      rw [List.getElem?_cons_succ] at hp
      rw [List.getElem?_append_right (by simp [audCells]; omega)]
      rw [show (i + 1) * 3 + j - (audCells q).length = i * 3 + j by simp [audCells]; omega]
      exact ih i hp
/-- A slice of findings that the call has made. -/
def OwnA (base : Nat) (w : World) (v : Value) (l : List Aud) : Prop := w.ownsRow base 48 3 v l.length (l.flatMap audCells)
theorem OwnA.nil {base : Nat} {w : World} : OwnA base w (.slice none 0 0) [] := ⟨rfl, Or.inl ⟨rfl, rfl⟩⟩
theorem OwnA.fr {X : List Nat} {base : Nat} {w w' : World} {v : Value} {l : List Aud} (h : OwnA base w v l) (hf : Fr X w w') (hx : ∀ k, v.ownBlock = some k → k ∉ X) : OwnA base w' v l := ownsRow_fr h hf hx
theorem OwnA.ads {base : Nat} {w : World} {v : Value} {l : List Aud} (h : OwnA base w v l) : Ads w v l := by
  rcases h.2 with ⟨h1, h2⟩ | ⟨g, cap, cur, hv, hb, hg, h3, h4, h5, h6⟩
  · exact Or.inl ⟨h1, List.length_eq_zero_iff.1 h2⟩
  · refine Or.inr ⟨g, 0, cap, hv, h3, by unfold maxLen at h4; omega, lt_of_block hg, fun i p hp => ?_⟩
    have hi : i < l.length := (List.getElem?_eq_some_iff.1 hp).1
    have key : ∀ j, j < 3 → w.cell? ⟨g, i * 3 + j, none⟩ = (audCells p)[j]? := by
      intro j hj
      rw [row_cell hg, ← audCells_at l i p hp j hj, ← h6, List.getElem?_take, if_pos (by omega), Array.getElem?_toList]
    rw [Nat.zero_add]
    exact ⟨key 0 (by decide), key 1 (by decide), key 2 (by decide)⟩
theorem aInfo : (Tryz.prog.info? 48).map (fun i => (i.zero, i.size, i.bytes)) = some (some (.agg #[.int .i64 0, .int .i64 0, .int .i64 0]), 3, 24) := by kernel_rfl
theorem audCells_one (l : List Aud) : ∀ u ∈ l.flatMap audCells, u.oneCell' = true := by
  intro u hu
  obtain ⟨p, _, hu⟩ := List.mem_flatMap.1 hu
  simp only [audCells, List.mem_cons, List.not_mem_nil, or_false] at hu
  rcases hu with rfl | rfl | rfl <;> rfl

theorem run_appA_nil (w : World) (base : Nat) (ty : TypeId) (v : Value) (l : List Aud) (hown : OwnA base w v l) (c : Nat) : (Builtin.append_ #[38, 38] ty #[v, .slice none 0 c]).run Tryz.prog w = .ok v w := by
  obtain ⟨i0, hi, hz0, hz1, hz2⟩ := info_parts aInfo
  rcases hown.2 with ⟨rfl, _⟩ | ⟨g, cap, cur, rfl, _, _, hnc, _⟩
  · simp [Builtin.append_, run_underlying Tryz.underlying38, sizeOf, typeInfo, hi, Builtin.lenOf, Builtin.firstCells]
  · simp [Builtin.append_, run_underlying Tryz.underlying38, sizeOf, typeInfo, hi, Builtin.lenOf, Builtin.firstCells, hnc, storeCells]
theorem wp_appA {o : Oper} {a : Act} {K : Act → World → Prop} {Q : Exit → Act → World → Prop} {w : World} (s x : Operand)
    (ho : o.op = .call { callee := .builtin .append, args := #[s, x], argTypes := #[38, 38] }) (base : Nat) (ev xv : Value) (l xs : List Aud) (w0 : World)
    (hs : a.eval s = ev) (hx : a.eval x = xv) (hxs : Ads w xv xs) (hown : OwnA base w ev l) (hfr : Fr [] w0 w) (hb0 : w0.heap.size ≤ base) (hb : base ≤ w.heap.size) (hl : l.length + xs.length < 1000000)
    (h : ∀ v' w', OwnA base w' v' (l ++ xs) → Fr [] w0 w' → Fr ev.ownBlock.toList w w' → K (a.put o.dst v') w') :
    o.wp Tryz.prog a w K Q := by
  obtain ⟨i0, hi, hz0, hz1, hz2⟩ := info_parts aInfo
  rcases hxs with ⟨rfl, rfl⟩ | ⟨b, off, cap, rfl, h1, h2, h3, h4⟩
  · have hrun := run_appA_nil w base o.type ev l hown 0
    have := h ev w (by simpa using hown) hfr (Fr.refl _ _)
    unfold Oper.wp execOp
    simp only [ho, resolve, invoke, builtin, Sem.run_bind, Sem.run_pure, Result.andThen_ok, List.map_toArray, List.map_cons, List.map_nil, hs, hx, hrun]
    exact this
  · refine wp_append_own _ s x 38 ho base 48 i0 (.agg #[.int .i64 0, .int .i64 0, .int .i64 0]) 3 24 Tryz.underlying38 hi hz0 hz1 hz2 rfl (by decide) ev _ _ hs hown ⟨b, off, none⟩ xs.length cap (xs.flatMap audCells) hx (audCells_length xs)
      (fun j u hj => ?_) (audCells_one xs) (by unfold maxLen; omega) (by omega) hb ?_
    · have hjl : j < xs.length * 3 := by
        rw [← audCells_length]; exact (List.getElem?_eq_some_iff.1 hj).1
      obtain ⟨p, hp⟩ : ∃ p, xs[j / 3]? = some p := ⟨xs[j / 3]'(by omega), List.getElem?_eq_getElem _⟩
      have he := audCells_at xs (j / 3) p hp (j % 3) (Nat.mod_lt _ (by decide))
      rw [show j / 3 * 3 + j % 3 = j by omega, hj] at he
      obtain ⟨c0, c1, c2⟩ := h4 (j / 3) p hp
      rw [show (⟨b, off, none⟩ : Addr).add j = ⟨b, off + j, none⟩ by cases j <;> simp [Addr.add], show off + j = off + j / 3 * 3 + j % 3 by omega]
      have hm : j % 3 < 3 := Nat.mod_lt _ (by decide)
      generalize j % 3 = r at he hm ⊢
      match r, hm with
      | 0, _ => rw [Nat.add_zero, c0]; exact he.symm
      | 1, _ => rw [c1]; exact he.symm
      | 2, _ => rw [c2]; exact he.symm
    · intro v' w' hown' hgrow _
      refine h v' w' ?_ (hfr.grown hgrow (fun r e => Or.inr ?_)) ((Fr.refl _ w).grown hgrow (fun r e => Or.inl (by simp [e])))
      · simpa [OwnA] using hown'
      · exact Nat.le_trans hb0 (ownBlock_cells hown r e).1
theorem wpList_appA {ops : Array Oper} {rest : List Oper} {o : Oper} {a : Act} {Q : Exit → Act → World → Prop} {w : World} (hg : o.guard = none) (s x : Operand)
    (ho : o.op = .call { callee := .builtin .append, args := #[s, x], argTypes := #[38, 38] }) (base : Nat) (ev xv : Value) (l xs : List Aud) (w0 : World)
    (hs : a.eval s = ev) (hx : a.eval x = xv) (hxs : Ads w xv xs) (hown : OwnA base w ev l) (hfr : Fr [] w0 w) (hb0 : w0.heap.size ≤ base) (hb : base ≤ w.heap.size) (hl : l.length + xs.length < 1000000)
    (h : ∀ v' w', OwnA base w' v' (l ++ xs) → Fr [] w0 w' → Fr ev.ownBlock.toList w w' → wpList Tryz.prog ops Q rest (a.put o.dst v') w') :
    wpList Tryz.prog ops Q (o :: rest) a w :=
  wpList_plain hg fun _ hK => wp_appA s x ho base ev xv l xs w0 hs hx hxs hown hfr hb0 hb hl fun v' w' h2 h3 h4 => hK _ _ (h v' w' h2 h3 h4)
theorem ownA_empty {base : Nat} {W : World} (hb : base ≤ W.heap.size) : OwnA base (W.alloc (.cells #[] 48)) (.slice (some ⟨W.heap.size, 0, none⟩) 0 0) [] :=
  ⟨rfl, Or.inr ⟨W.heap.size, 0, #[], rfl, hb, heap_new rfl, Nat.le_refl _, by decide, rfl, rfl⟩⟩
end Go.Proofs.YtjddngbgbbbefaaGreatDoor
namespace Go.Proofs.YtjddngbgbbbefaaGreatDoor
open Go.RowKit

theorem wpIn_rangeY {α : Type} {F : Fence} {n : Nat} {P : Program} {g : Operand} {ps : Array Tmp} {assign body : Code} {Q : Exit → Act → World → Prop} {a : Act} {w : World}
    (hro : F.round = none) (h1 : 1 ≤ n) {gf : Nat} {lb : Array Value} (hg : a.eval g = .func (.func gf) #[] lb) (hFg : F.fn gf) (eg : ∀ args w, (callFunc gf args).run P w = .ok (.enter gf args) w)
    {encs : α → Array Value} {Kp : World → World → Prop} {S Sp : List α → Prop} {N : Nat} {w0 : World} (hseq : SeqStopsK F (n - 1) P gf lb encs Kp S Sp N w0)
    (hKt : ∀ {A B C : World}, Kp A B → Kp B C → Kp A C) (hKp : ∀ (A : World) (k : Nat) (o o' : Obj), A.heap[k]? = some o → o.isWalk = false → Kp A (A.putObj k o')) (hb0 : Below w0.heap.size w0 w) (hps : ∀ x, (encs x).size = ps.size)
    (I : List α → World → Prop) (Ix : Code → List α → World → Prop) (hI : ∀ s A C (row : Option Nat), I s A → A.grownBy C row → (∀ r, row = some r → w.heap.size ≤ r ∧ ∃ o : Obj, A.heap[r]? = some o ∧ o.isCells = false) → I s C) (hIx : ∀ c s A C (row : Option Nat), Ix c s A → A.grownBy C row → (∀ r, row = some r → w.heap.size ≤ r ∧ ∃ o : Obj, A.heap[r]? = some o ∧ o.isCells = false) → Ix c s C) (h0 : I [] w)
    (Af : α → World → Act → World → Prop) 
    (hAK : ∀ x W a' W', Af x W a' W' → Kp W W')
    (hAk : ∀ x W a' W' (k : Nat) (o : Obj), Af x W a' W' → W.heap[k]? = some o → W'.heap[k]? = some o)
    (hassign : ∀ (l : Nat) (x : α) (W : World) (K : Act → World → Prop), (∀ a' W', Af x W a' W' → K a' W') →
      assign.wpIn (F.inRound l) (n - 1 - 1) P (Exit.then K (fun _ _ _ => False)) { tmps := (ps.zip (encs x)).foldl (fun t (p, v) => t.setIfInBounds p v) a.tmps, defers := [] } W)
    (hbody : ∀ (l : Nat) (pre : List α) (x : α) (W : World) (a' : Act) (W' W'' : World), I pre W → pre.length < N → Af x W a' W' → Std w.heap.size W' W'' → (∃ r, W'.grownBy W'' (some r) ∧ w.heap.size ≤ r ∧ ∃ o : Obj, W'.heap[r]? = some o ∧ o.isCells = false) → body.wpIn (F.inRound l) (n - 1 - 1) P (ownPostG w.heap.size Kp I Ix (pre ++ [x]) W'') a' W'')
    (hdone : ∀ (D : Nat) (xs : List α) (W : World), w.heap.size ≤ D → S xs → I xs W → W.heap[D]? = some (.deferred (some [])) → Q .normal { a with defers := { target := .collected D, args := #[] } :: a.defers } W)
    (hstop : ∀ (D : Nat) (c : Code) (pre : List α) (W : World), w.heap.size ≤ D → Sp pre → Ix c pre W → W.heap[D]? = some (.deferred (some [])) → c.wpIn F n P Q { a with defers := { target := .collected D, args := #[] } :: a.defers } W) :
    (Code.rangeFunc g ps assign body).wpIn F n P Q a w := by
  refine wpIn_rangeFunc ?_
  intro fn hfn
  rw [hro]
  obtain ⟨rec, hrec⟩ : ∃ rec : LoopState → Option Code → Loop, rec = fun st pe => { state := st, pending := pe, fn, tmps := a.tmps, params := ps, assign, body, defers := w.heap.size } := ⟨_, rfl⟩
  obtain ⟨D, hD⟩ : ∃ D, D = w.heap.size := ⟨_, rfl⟩
  obtain ⟨W1, hW1⟩ : ∃ W1, W1 = (w.alloc (.deferred (some []))).alloc (.loop (rec .ready none)) := ⟨_, rfl⟩
  have hs1 : W1.heap.size = D + 2 := by rw [hW1, hD]; simp
  have hL1 : W1.heap[D + 1]? = some (.loop (rec .ready none)) := by rw [hW1, hD]; exact heap_new (by simp)
  have hK1 : W1.heap[D]? = some (.deferred (some [])) := by rw [hW1, hD]; exact heap_past _ (heap_new rfl)
  have hf1 : Fr [] w W1 := by rw [hW1]; exact ((Fr.refl [] w).alloc _).alloc _
  refine ⟨D + 1, [{ target := .collected D, args := #[] }], W1, { target := .fn (.func gf) lb, args := #[.func (.yield (D + 1)) #[] #[]] }, W1, gf, #[.func (.yield (D + 1)) #[] #[]] ++ lb, W1, ?_, ?_, ?_, ?_, fun _ => h1, ?_⟩
  · rw [hW1, hD, hrec]; exact run_enterLoop_outer _ _ _ _ _
  · simp only [resolve, hg]
    simp [go_sem]
  · intro f' hf'; simp [Target.leads] at hf'; subst hf'; exact hFg
  · simp [invoke, go_sem, eg]
  · have hdn : D ≤ w.heap.size := by omega
    have hgs : ∀ {A C : World} {row : Option Nat}, A.grownBy C row → (∀ r, row = some r → W1.heap.size ≤ r ∧ ∃ o : Obj, A.heap[r]? = some o ∧ o.isWalk = true) → Std W1.heap.size A C := fun {A C row} hg hr =>
      ⟨hg.os, hg.tape, hg.output, hg.size, fun k o hk ho => (hg.block k (Array.getElem?_eq_some_iff.1 hk).1 (fun e => by
        obtain ⟨h2, o', ho', hw⟩ := hr k e.symm
        rw [hk] at ho'; cases ho'
        rcases ho with h3 | h3
        · omega
        · rw [Obj.not_cells_of_walk hw] at h3; cases h3)).trans hk⟩
    have hro2 : ∀ {A : World} {row : Option Nat}, (∀ r, row = some r → W1.heap.size ≤ r ∧ ∃ o : Obj, A.heap[r]? = some o ∧ o.isWalk = true) → ∀ r, row = some r → w.heap.size ≤ r ∧ ∃ o : Obj, A.heap[r]? = some o ∧ o.isCells = false := fun {A row} hr r e => by
      obtain ⟨h2, o', ho', hw⟩ := hr r e
      exact ⟨by omega, o', ho', Obj.not_cells_of_walk hw⟩
    have hgp : ∀ (A : World) (o : Obj), A.grownBy (A.putObj (D + 1) o) (some (D + 1)) := fun A o => ⟨rfl, rfl, rfl, by simp, fun k _ hk => World.putObj_heap_other (fun e => hk (by rw [e]))⟩
    have hup : ∀ {A C : World}, Std W1.heap.size A C → Std w.heap.size A C := fun h => h.mono (by omega)
    refine (hseq (D + 1)
      (fun pre W => I pre W ∧ W.heap[D + 1]? = some (.loop (rec .ready none)) ∧ W.heap[D]? = some (.deferred (some [])))
      (fun pre W => ∃ c, Ix c pre W ∧ W.heap[D + 1]? = some (.loop (rec .done (some c))) ∧ W.heap[D]? = some (.deferred (some [])))
      W1 (hb0.trans ((hf1.toBelow (by simp)).mono hb0.size))
      (fun s A B row hs hg' hr => ⟨hI s A B row hs.1 hg' (hro2 hr), (hgs hg' hr).same _ _ hs.2.1 (Or.inl (by omega)), (hgs hg' hr).same _ _ hs.2.2 (Or.inl (by omega))⟩)
      (fun s A B row hs hg' hr => by
        obtain ⟨c, hc, hl, hk⟩ := hs
        exact ⟨c, hIx c s A B row hc hg' (hro2 hr), (hgs hg' hr).same _ _ hl (Or.inl (by omega)), (hgs hg' hr).same _ _ hk (Or.inl (by omega))⟩)
      ?_ ⟨by rw [hW1]; exact hI [] _ _ none (hI [] _ _ none h0 (World.grownBy_alloc w _ none) (fun r e => by cases e)) (World.grownBy_alloc _ _ none) (fun r e => by cases e), hL1, hK1⟩).mono ?_
    · rintro pre x W ⟨hi, hl, hk⟩ hlen
      have hy := run_yield (P := P) (args := encs x) hl (by rw [hrec]; exact hps x)
      rw [hrec] at hy
      refine ⟨fn, _, assign, body, hy, roundIn_of_wpIn hfn (hassign _ x W _ (fun a' W' haf => ?_))⟩
      have hl1 := hAk x W a' W' _ _ haf hl
      have hk1 := hAk x W a' W' _ _ haf hk
      refine ⟨_, run_beginRound hl1 (by rw [hrec]), ?_⟩
      clear hy
      have hput : Std w.heap.size W' (W'.putObj (D + 1) (.loop { rec .ready none with state := .busy })) := Std.put _ (by omega) hl1 rfl
      have hl2 : (W'.putObj (D + 1) (.loop { rec .ready none with state := .busy })).heap[D + 1]? = some (.loop { rec .ready none with state := .busy }) := World.putObj_heap_same (Array.getElem?_eq_some_iff.1 hl1).1
      have hk2 : (W'.putObj (D + 1) (.loop { rec .ready none with state := .busy })).heap[D]? = some (.deferred (some [])) := (World.putObj_heap_other (by omega)).trans hk1
      have hkW : Kp W (W'.putObj (D + 1) (.loop { rec .ready none with state := .busy })) := hKt (hAK x W a' W' haf) (hKp _ _ _ _ hl1 rfl)
      refine wpIn_mono (hbody _ pre x W a' W' _ hi hlen haf hput ⟨D + 1, hgp _ _, by omega, _, hl1, rfl⟩) ?_
      have fin : ∀ (jump : Option Code) (W3 : World), KeepsFrom w.heap.size (W'.putObj (D + 1) (.loop { rec .ready none with state := .busy })) W3 →
          (Instr.endRound (D + 1) jump).run P W3 = .ok (.bool jump.isNone) (W3.putObj (D + 1) (.loop (rec (if jump.isNone then .ready else .done) jump))) ∧
          W3.heap[D + 1]? = some (.loop { rec .ready none with state := .busy }) ∧
          (W3.putObj (D + 1) (.loop (rec (if jump.isNone then .ready else .done) jump))).heap[D + 1]? = some (.loop (rec (if jump.isNone then .ready else .done) jump)) ∧
          (W3.putObj (D + 1) (.loop (rec (if jump.isNone then .ready else .done) jump))).heap[D]? = some (.deferred (some [])) := fun jump W3 hk3 => by
        have hl3 := hk3.same _ _ (by omega) hl2 rfl
        have := run_endRound (P := P) jump hl3
        rw [hrec] at this ⊢
        exact ⟨this, by rw [hrec] at hl3; exact hl3, World.putObj_heap_same (Array.getElem?_eq_some_iff.1 hl3).1, (World.putObj_heap_other (by omega)).trans (hk3.same _ _ (by omega) hk2 rfl)⟩
      rintro e a3 W3 hp
      cases e with
      | normal =>
        obtain ⟨hk3, hkp3, hi3⟩ := hp
        obtain ⟨hr, hl3, hl4, hk4⟩ := fin none W3 hk3
        exact ⟨_, _, hr, .inl ⟨rfl, ⟨hI _ _ _ _ hi3 (hgp _ _) (fun r e => by cases e; exact ⟨by omega, _, hl3, rfl⟩), hl4, hk4⟩, hKt (hKt hkW hkp3) (hKp _ _ _ _ hl3 rfl)⟩⟩
      | ret =>
        obtain ⟨hk3, hi3⟩ := hp
        obtain ⟨hr, hl3, hl4, hk4⟩ := fin (some .ret) W3 hk3
        exact ⟨_, _, hr, .inr ⟨rfl, .ret, hIx _ _ _ _ _ hi3 (hgp _ _) (fun r e => by cases e; exact ⟨by omega, _, hl3, rfl⟩), hl4, hk4⟩⟩
      | exit id =>
        obtain ⟨hk3, hi3⟩ := hp
        obtain ⟨hr, hl3, hl4, hk4⟩ := fin (some (.exit id)) W3 hk3
        exact ⟨_, _, hr, .inr ⟨rfl, .exit id, hIx _ _ _ _ _ hi3 (hgp _ _) (fun r e => by cases e; exact ⟨by omega, _, hl3, rfl⟩), hl4, hk4⟩⟩
      | goto t =>
        obtain ⟨hk3, hi3⟩ := hp
        obtain ⟨hr, hl3, hl4, hk4⟩ := fin (some (.goto t)) W3 hk3
        exact ⟨_, _, hr, .inr ⟨rfl, .goto t, hIx _ _ _ _ _ hi3 (hgp _ _) (fun r e => by cases e; exact ⟨by omega, _, hl3, rfl⟩), hl4, hk4⟩⟩
      | panic ch => exact hp.elim
      | outgrown => exact hp.elim
    · rintro e W2 ⟨⟨v, rfl⟩, (⟨xs, hS, hi, hl, hk⟩ | ⟨pre, hSp, c, hi, hl, hk⟩)⟩
      · exact ⟨none, _, by have := run_endLoop (P := P) hl (by rw [hrec]; simp); rw [hrec] at this; exact this, hdone D xs _ (by omega) hS (hI _ _ _ _ hi (hgp _ _) (fun r e => by cases e; exact ⟨by omega, _, hl, rfl⟩)) ((World.putObj_heap_other (by omega)).trans hk)⟩
      · exact ⟨some c, _, by have := run_endLoop (P := P) hl (by rw [hrec]; simp); rw [hrec] at this; exact this, hstop D c pre _ (by omega) hSp (hIx c _ _ _ _ hi (hgp _ _) (fun r e => by cases e; exact ⟨by omega, _, hl, rfl⟩)) ((World.putObj_heap_other (by omega)).trans hk)⟩
end Go.Proofs.YtjddngbgbbbefaaGreatDoor
namespace Go.Proofs.YtjddngbgbbbefaaGreatDoor
open Go.RowKit Go.Shelf Go.Sort Go.Maps
set_option maxRecDepth 100000
attribute [local go_sem] Oper.semAt_some

theorem grown_fr {A C : World} {row : Option Nat} (hg : A.grownBy C row) (hr : ∀ r, row = some r → ∃ o : Obj, A.heap[r]? = some o ∧ o.isCells = false) : Fr row.toList A C ∧ ∀ k o, A.heap[k]? = some o → o.isCells = true → k ∉ row.toList := by
  refine ⟨(Fr.refl _ A).grown hg (fun r e => Or.inl (by simp [e])), fun k o hk ho hm => ?_⟩
  obtain ⟨o', ho', hc⟩ := hr k (Option.mem_toList.1 hm)
  rw [hk] at ho'
  cases ho'
  rw [ho] at hc
  cases hc
theorem boxNe_own {W : World} {B : Nat} {cs : Array Value} {t e : TypeId} {fr : Nat × Nat} (h : W.heap[B]? = some (.cells cs t fr)) (hte : t ≠ e) {base size k : Nat} {v : Value} {xs : List Value} (hr : W.ownsRow base e size v k xs) : some B ≠ v.ownBlock := by
  rcases hr.2 with ⟨rfl, _⟩ | ⟨g, cap, cur, rfl, _, hgb, _⟩
  · simp [Value.ownBlock]
  · intro e'
    simp only [Value.ownBlock, Option.some.injEq] at e'
    rw [← e', h] at hgb
    cases hgb
    exact hte rfl
/-- Between two rounds: the box holds what has come. -/
def ApI (w W0 : World) (bs : Nat) (pre : List Aud) (V : World) : Prop := ∃ v, V.heap[bs]? = some (.cells #[v] 38 (0, 0)) ∧ OwnA w.heap.size V v pre ∧ Fr [] w V ∧ W0.heap.size ≤ V.heap.size
theorem ApI.grown {w W0 : World} {bs : Nat} {pre : List Aud} {A C : World} {row : Option Nat} (h : ApI w W0 bs pre A) (hw : w.heap.size ≤ W0.heap.size) (hg : A.grownBy C row) (hr : ∀ r, row = some r → W0.heap.size ≤ r ∧ ∃ o : Obj, A.heap[r]? = some o ∧ o.isCells = false) : ApI w W0 bs pre C := by
  obtain ⟨v, h1, h2, h3, h4⟩ := h
  obtain ⟨f, hn⟩ := grown_fr hg (fun r e => (hr r e).2)
  refine ⟨v, f.at h1 (hn _ _ h1 rfl), h2.fr f (fun k hk => ?_), h3.grown hg (fun r e => Or.inr (Nat.le_trans hw (hr r e).1)), Nat.le_trans h4 hg.size⟩
  rcases h2.2 with ⟨e, _⟩ | ⟨g, cap, cur, e, _, hgc, _⟩
  · rw [e] at hk; simp [Value.ownBlock] at hk
  · rw [e] at hk
    obtain rfl : g = k := by simpa [Value.ownBlock] using hk
    exact hn _ _ hgc rfl
set_option maxHeartbeats 4000000 in
theorem appendSeqA_in (Bm b nn : Nat) (F : List Aud) (w : World) (hBm : Bm < w.heap.size) (hm : w.cell? ⟨Bm, 0, none⟩ = some (.map (some b))) (h : MapA w b nn F) (hnn : nn < 100000) :
    CallsIn Fence.wide 4 Tryz.prog 114 #[.slice none 0 0, .func (.func 91) #[] #[.pointer (some ⟨Bm, 0, none⟩)]] w fun e w' =>
      ∃ v ss, e = .returned v ∧ OwnA w.heap.size w' v ss ∧ ss.Nodup ∧ (∀ x ∈ ss, inA x) ∧ (∀ x, x ∈ ss ↔ x ∈ F) ∧ Fr [] w w' := by
  refine callsIn_of_wp_marks Tryz.func114 rfl trivial ?_ rfl
  simp only [Tryz.ntmps114, List.size_toArray, List.length_cons, List.length_nil, Nat.reduceAdd, Nat.reduceSub, Array.replicate_succ, Array.replicate_zero, List.push_toArray, List.append_toArray, List.nil_append, List.cons_append]
  gi_wp2_with fail
  obtain ⟨W0, hW0⟩ : ∃ W0, W0 = w.alloc (.cells #[.slice none 0 0] 38) := ⟨_, rfl⟩
  have f0 : Fr [] w W0 := by rw [hW0]; exact (Fr.refl [] w).alloc _
  have hs0 : W0.heap.size = w.heap.size + 1 := by rw [hW0]; simp
  have hb0 : W0.heap[w.heap.size]? = some (.cells #[.slice none 0 0] 38 (0, 0)) := by rw [hW0]; exact heap_new rfl
  have hw0 : w.heap.size ≤ W0.heap.size := by omega
  have hma : MapA W0 b nn F := h.fr f0 (by simp)
  have hm0 := f0.cell hm (by simp)
  rw [← hW0]
  clear hW0
  refine wpIn_rangeY rfl (by decide) (gf := 91) (lb := #[.pointer (some ⟨Bm, 0, none⟩)]) rfl trivial (enters_of Tryz.func91 (by kernel_rfl) rfl)
    (keysA_stops 3 (by decide) Bm b nn F W0 (by omega) hm0 hma) (fun h k => h.trans k) (fun A k o o' hk ho => KeepsWalks.putObj o' hk ho) (Below.refl _ _) (fun _ => rfl)
    (ApI w W0 w.heap.size) (fun _ _ _ => False) (fun s A C row hs hg hr => hs.grown hw0 hg hr) (fun c s A C row hs _ _ => hs)
    ⟨_, hb0, ⟨rfl, Or.inl ⟨rfl, rfl⟩⟩, f0, Nat.le_refl _⟩
    (fun x V a' V' => a' = { tmps := #[.slice none 0 0, .func (.func 91) #[] #[.pointer (some ⟨Bm, 0, none⟩)], .pointer (some ⟨w.heap.size, 0, none⟩), undef, .slice none 0 0, .pointer (some ⟨V.heap.size, 0, none⟩), .func (.func 91) #[] #[.pointer (some ⟨Bm, 0, none⟩)], audV x, undef, undef, undef, undef, undef], defers := [] } ∧ V' = V.alloc (.cells #[.int .i64 x.kind, .int .i64 x.a, .int .i64 x.b] 48))
    (fun x V a' V' h => by rw [h.2]; exact KeepsWalks.alloc _ _)
    (fun x V a' V' k o h hk => by rw [h.2]; exact heap_past _ hk)
    ?assign ?body ?done ?stop
  case assign =>
    intro l' x V K hK
    have HK := Lib.hid (hK _ _ ⟨rfl, rfl⟩)
    clear hK
    unfold audV at HK ⊢
    dsimp only
    gi_wp2_with fail
    exact HK.out
  case body =>
    rintro l' pre x V0 a' V' V hI hlen ⟨rfl, rfl⟩ hst ⟨r, hgr, hrr, hro⟩
    have hI1 : ApI w W0 w.heap.size pre (V0.alloc (.cells #[.int .i64 x.kind, .int .i64 x.a, .int .i64 x.b] 48)) := hI.grown hw0 (World.grownBy_alloc V0 _ none) (fun r e => by cases e)
    have hI2 := hI1.grown hw0 hgr (fun r' e => by cases e; exact ⟨hrr, hro⟩)
    obtain ⟨f, hn⟩ := grown_fr hgr (fun r' e => by cases e; exact hro)
    have hx0 : (V0.alloc (.cells #[.int .i64 x.kind, .int .i64 x.a, .int .i64 x.b] 48)).heap[V0.heap.size]? = some (.cells #[.int .i64 x.kind, .int .i64 x.a, .int .i64 x.b] 48 (0, 0)) := heap_new rfl
    have hx := f.at hx0 (hn _ _ hx0 rfl)
    obtain ⟨v, h1, h2, h3, h4⟩ := hI2
    obtain ⟨va, vc, rfl, _, _, _⟩ := h2.ads.form
    obtain ⟨i0, hi, hz0, hz1, hz2⟩ := info_parts aInfo
    have c0 := row_cell h1 0
    have y0 := row_free h1 0
    have x0 := row_cell hx 0
    have x1 := row_cell hx 1
    have x2 := row_cell hx 2
    simp at c0 x0 x1 x2
    obtain ⟨bx, ebx⟩ : ∃ q, q = V0.heap.size := ⟨_, rfl⟩
    rw [← ebx] at x0 x1 x2 ⊢
    have EBX := Lib.hid ebx
    clear ebx
    have H1 := Lib.hid h1
    have H2 := Lib.hid h2
    have H3 := Lib.hid h3
    have H4 := Lib.hid h4
    have HST := Lib.hid hst
    clear h1 h2 h3 h4 hst hx hx0 f hn hI hI1 hgr hrr hro
    unfold audV
    have hc0 : (V.alloc (.cells #[.int .i64 x.kind, .int .i64 x.a, .int .i64 x.b] 48)).heap[V.heap.size]? = some (.cells #[.int .i64 x.kind, .int .i64 x.a, .int .i64 x.b] 48 (0, 0)) := heap_new rfl
    gi_wp2_with (gi_at_builtin; refine Hid.out ?_)
    refine Lib.hid ?_
    refine wpListIn_append_own_at _ rfl (.tmp 8) (.tmp 10) 38 rfl w.heap.size 48 i0 (.agg #[.int .i64 0, .int .i64 0, .int .i64 0]) 3 24 Tryz.underlying38 hi hz0 hz1 hz2 rfl (by decide) (.slice va pre.length vc) pre.length (pre.flatMap audCells) rfl (ownsRow_fr H2.out ((Fr.refl [] V).alloc _) (by simp)) ⟨V.heap.size, 0, none⟩ 1 1 (audCells x) rfl rfl
        (fun j u hj => by
          rw [show (⟨V.heap.size, 0, none⟩ : Addr).add j = ⟨V.heap.size, j, none⟩ by cases j <;> simp [Addr.add], row_cell hc0]
          simpa [audCells] using hj)
        (fun u hu => by simp only [audCells, List.mem_cons, List.not_mem_nil, or_false] at hu; rcases hu with rfl | rfl | rfl <;> rfl) (by unfold maxLen; omega) (by omega) (by have := H4.out; simp; omega) ?_
    intro v' w1 hown' hgrow hnil hat'
    obtain ⟨va', vc', ev, _⟩ : ∃ va' vc', v' = .slice va' (pre.length + 1) vc' ∧ True := by
      rcases hown'.2 with ⟨e, e0⟩ | ⟨g, cap, cur, e, _⟩
      · omega
      · exact ⟨_, _, e, trivial⟩
    subst ev
    have hne : some w.heap.size ≠ (Value.slice va pre.length vc).ownBlock := boxNe_own H1.out (by decide) H2.out
    have hbv : w.heap.size < V.heap.size := lt_of_block H1.out
    have ga : Fr (Value.slice va pre.length vc).ownBlock.toList V w1 := ((Fr.refl _ V).alloc _).grown hgrow (fun r e => Or.inl (by simp [e]))
    have HB := Lib.hid (ga.at H1.out (by intro hm; exact hne (Option.mem_toList.1 hm).symm))
    have b0 := row_cell HB.out 0
    have b1 := row_free HB.out 0
    simp at b0
    have HOW := Lib.hid hown'
    have HGA := Lib.hid ga
    have HGR := Lib.hid hgrow
    have hbx' : some w.heap.size ≠ (Value.slice va' (pre.length + 1) vc').ownBlock := boxNe_own HB.out (by decide) hown'
    have HNE := Lib.hid hbx'
    have HN0 := Lib.hid hne
    clear hown' ga hgrow hnil hat' hc0 hbx' hne
    gi_wp2_with fail
    have gs : Fr (w.heap.size :: (Value.slice va pre.length vc).ownBlock.toList) V (w1.setCell ⟨w.heap.size, 0, none⟩ (.slice va' (pre.length + 1) vc')) := (HGA.out.mono (Y := w.heap.size :: (Value.slice va pre.length vc).ownBlock.toList) (fun k hk => Or.inl (List.mem_cons_of_mem _ hk))).setCell _ _ (by simp)
    refine ⟨keepsFrom_fr gs (fun k hk o ho => ?_), ?_, ?_⟩
    · rcases List.mem_cons.1 hk with rfl | hk
      · rw [H1.out] at ho; cases ho; rfl
      · exact (ownBlock_cells H2.out k (Option.mem_toList.1 hk)).2 o ho
    · refine ((KeepsWalks.alloc V _).trans (KeepsWalks.of_grownBy HGR.out (fun j o e ho => ?_))).trans (KeepsWalks.setCell _ _ _)
      have hc := (ownBlock_cells (ownsRow_fr (X := []) H2.out ((Fr.refl [] V).alloc _) (by simp)) j e).2 o ho
      cases o <;> first | rfl | (simp [Obj.isCells] at hc)
    · refine ⟨.slice va' (pre.length + 1) vc', row_set HB.out 0 _, ?_, ?_, ?_⟩
      · refine OwnA.fr (X := [w.heap.size]) (show OwnA w.heap.size w1 _ (pre ++ [x]) by simpa [OwnA] using HOW.out) ((Fr.refl _ w1).setCell _ _ (by simp)) (fun k hk hm => ?_)
        rw [List.mem_singleton.1 hm] at hk
        exact HNE.out hk.symm
      · exact (((H3.out.alloc _).grown HGR.out (fun r e => Or.inr (ownBlock_cells H2.out r e).1)).setCell _ _ (by right; simp))
      · exact Nat.le_trans H4.out gs.size
  case done =>
    intro D xs V hD hS hI hK
    obtain ⟨v, h1, h2, h3, h4⟩ := hI
    have HS := Lib.hid hS
    have HK := Lib.hid hK
    have H2 := Lib.hid h2
    have H3 := Lib.hid h3
    have H1 := Lib.hid h1
    have c0 := row_cell h1 0
    have y0 := row_free h1 0
    simp at c0
    have hne : some w.heap.size ≠ v.ownBlock := boxNe_own h1 (by decide) h2
    have HNE := Lib.hid hne
    clear hS hK h1 h2 h3 hne
    obtain ⟨va, vc, rfl, _, _, _⟩ := H2.out.ads.form
    gi_wp2_with fail
    refine leaves_marks (B := w.heap.size) [D] _ ⟨by simp, fun D' hD' => ?_⟩ (fun w' hst => ?_)
    · rw [List.mem_singleton.1 hD']
      exact ⟨by omega, HK.out⟩
    have HO : OwnA w.heap.size w' (.slice va xs.length vc) xs := by
      refine ⟨H2.out.1, ?_⟩
      rcases H2.out.2 with h | ⟨g, cap, cur, e, hb, hg, hr⟩
      · exact Or.inl h
      · exact Or.inr ⟨g, cap, cur, e, hb, hst.at hg, hr⟩
    have HF := H3.out.thenStd hst (Nat.le_refl _)
    refine ⟨.slice va xs.length vc, ?_, .slice va xs.length vc, xs, rfl, HO, HS.out.1, HS.out.2.1, HS.out.2.2, HF⟩
    simp only [results]
    go_simp
  case stop =>
    intro D c pre V _ _ hf
    exact hf.elim
end Go.Proofs.YtjddngbgbbbefaaGreatDoor
namespace Go.Proofs.YtjddngbgbbbefaaGreatDoor
open Go.RowKit Go.Shelf Go.Sort Go.Maps
set_option maxRecDepth 100000
theorem collectA_any (Bm b nn : Nat) (F : List Aud) (w : World) (hBm : Bm < w.heap.size) (hm : w.cell? ⟨Bm, 0, none⟩ = some (.map (some b))) (h : MapA w b nn F) (hnn : nn < 100000) :
    Calls Tryz.prog 89 #[.func (.func 91) #[] #[.pointer (some ⟨Bm, 0, none⟩)]] w fun e w' =>
      ∃ v ss, e = .returned v ∧ OwnA w.heap.size w' v ss ∧ ss.Nodup ∧ (∀ x ∈ ss, inA x) ∧ (∀ x, x ∈ ss ↔ x ∈ F) ∧ Fr [] w w' := by
  go_enter Tryz.func89, Tryz.ntmps89
  have HC := Lib.hid (callsIn_wide.1 (appendSeqA_in Bm b nn F w hBm hm h hnn))
  clear hm h
  go_wp2_with fail
  refine HC.out.mono ?_
  rintro e w' ⟨v, ss, rfl, h1, h2, h3, h4, h5⟩
  go_wp2_with fail
  go_ret
  exact ⟨v, ss, rfl, h1, h2, h3, h4, h5⟩
end Go.Proofs.YtjddngbgbbbefaaGreatDoor
namespace Go.Proofs.YtjddngbgbbbefaaGreatDoor
open Go.RowKit Go.Shelf Go.Sort Go.Maps
set_option maxRecDepth 100000
/-- What cmp.Compare answers. -/
def cmpI (a b : Int) : Int := if a < b then -1 else if b < a then 1 else 0
theorem isNaNI_any (a : Int) (w : World) : Calls Tryz.prog 92 #[.int .i64 a] w fun e w' => e = .returned (.bool false) ∧ w' = w := by
  go_enter Tryz.func92, Tryz.ntmps92
  go_wp2_with fail
  go_ret
  simp
theorem compareI_any (a b : Int) (w : World) :
    Calls Tryz.prog 52 #[.int .i64 a, .int .i64 b] w fun e w' => e = .returned (.int .i64 (cmpI a b)) ∧ w' = w := by
  have HN : ∀ x : Int, Hid (Calls Tryz.prog 92 #[.int .i64 x] w fun e w' => e = .returned (.bool false) ∧ w' = w) := fun x => Lib.hid (isNaNI_any x w)
  obtain ⟨r, er⟩ : ∃ r, r = cmpI a b := ⟨_, rfl⟩
  have ER := Lib.hid er
  rw [← er]
  clear er
  go_enter Tryz.func52, Tryz.ntmps52
  go_wp2_with fail
  refine (HN a).out.mono ?_
  rintro e w1 ⟨rfl, rfl⟩
  go_wp2_with fail
  refine (HN b).out.mono ?_
  rintro e w1 ⟨rfl, rfl⟩
  go_wp2_with fail
  all_goals
    have er := ER.out
    unfold cmpI at er
    go_ret
    refine ⟨?_, rfl⟩
    rw [er]
    try (split <;> (try split) <;> first | rfl | omega)
end Go.Proofs.YtjddngbgbbbefaaGreatDoor
namespace Go.Proofs.YtjddngbgbbbefaaGreatDoor
open Go.RowKit Go.Shelf Go.Sort Go.Maps
set_option maxRecDepth 100000
/-- What cmp.Or answers at three. -/
def orI (x y z : Int) : Int := if x ≠ 0 then x else if y ≠ 0 then y else z
set_option maxHeartbeats 1000000 in
theorem orI_any (g : Nat) (x y z : Int) (w : World) (c0 : w.cell? ⟨g, 0, none⟩ = some (.int .i64 x)) (c1 : w.cell? ⟨g, 1, none⟩ = some (.int .i64 y)) (c2 : w.cell? ⟨g, 2, none⟩ = some (.int .i64 z)) :
    Calls Tryz.prog 51 #[.slice (some ⟨g, 0, none⟩) 3 3] w fun e w' => e = .returned (.int .i64 (orI x y z)) ∧ w' = w := by
  obtain ⟨r, er⟩ : ∃ r, r = orI x y z := ⟨_, rfl⟩
  have ER := Lib.hid er
  rw [← er]
  clear er
  go_enter Tryz.func51, Tryz.ntmps51
  go_wp2_with fail
  refine wp_loop_rounds 4 ?_; rw [rounds_succ]
  by_cases hx : x = 0
  · subst hx
    go_wp2_with fail
    rw [rounds_succ]
    by_cases hy : y = 0
    · subst hy
      go_wp2_with fail
      rw [rounds_succ]
      by_cases hz : z = 0
      · subst hz
        go_wp2_with fail
        rw [rounds_succ]
        go_wp2_with fail
        have er := ER.out
        go_ret
        exact ⟨by rw [er]; simp [orI], rfl⟩
      · have t : (z == 0) = false := by simp [hz]
        go_wp2_with fail
        have er := ER.out
        go_ret
        exact ⟨by rw [er]; simp [orI], rfl⟩
    · have t : (y == 0) = false := by simp [hy]
      go_wp2_with fail
      have er := ER.out
      go_ret
      exact ⟨by rw [er]; simp [orI, hy], rfl⟩
  · have t : (x == 0) = false := by simp [hx]
    go_wp2_with fail
    have er := ER.out
    go_ret
    exact ⟨by rw [er]; simp [orI, hx], rfl⟩
end Go.Proofs.YtjddngbgbbbefaaGreatDoor
namespace Go.Proofs.YtjddngbgbbbefaaGreatDoor
open Go.RowKit Go.Shelf Go.Sort Go.Maps
set_option maxRecDepth 100000
/-- What lay when w was lies in w' as it lay: some draws, some new blocks. -/
def Grw (w w' : World) : Prop := ∃ (q : Nat) (os : Array Obj), w' = Sort.grow (w.drewN q) os
theorem Grw.refl (w : World) : Grw w w := ⟨0, #[], by rw [Sort.grow_empty]; rfl⟩
theorem Grw.alloc {w w' : World} (h : Grw w w') (o : Obj) : Grw w (w'.alloc o) := by
  obtain ⟨q, os, rfl⟩ := h
  exact ⟨q, os ++ #[o], by rw [Sort.alloc_eq_grow, Sort.grow_grow]⟩
theorem Grw.drew {w w' : World} (h : Grw w w') : Grw w w'.drew := by
  obtain ⟨q, os, rfl⟩ := h
  exact ⟨q + 1, os, rfl⟩
def cmpAud (x y : Aud) : Int := orI (cmpI x.kind y.kind) (cmpI x.a y.a) (cmpI x.b y.b)
set_option maxHeartbeats 1000000 in
theorem cmpA_any (x y : Aud) (w : World) :
    Calls Tryz.prog 50 #[audV x, audV y] w fun e w' => e = .returned (.int .i64 (cmpAud x y)) ∧ Grw w w' := by
  obtain ⟨r, er⟩ : ∃ r, r = cmpAud x y := ⟨_, rfl⟩
  have ER := Lib.hid er
  rw [← er]
  clear er
  unfold audV
  go_enter Tryz.func50, Tryz.ntmps50
  go_wp2_with fail
  obtain ⟨n, en⟩ : ∃ n, n = w.heap.size := ⟨_, rfl⟩
  obtain ⟨W, hW⟩ : ∃ W, W = (w.alloc (.cells #[.int .i64 x.kind, .int .i64 x.a, .int .i64 x.b] 48)).alloc (.cells #[.int .i64 y.kind, .int .i64 y.a, .int .i64 y.b] 48) := ⟨_, rfl⟩
  have HB : Hid (Grw w W) := Lib.hid (by rw [hW]; exact ((Grw.refl w).alloc _).alloc _)
  have hx : W.heap[n]? = some (.cells #[.int .i64 x.kind, .int .i64 x.a, .int .i64 x.b] 48 (0, 0)) := by rw [hW, en]; exact heap_past _ (heap_new rfl)
  have hy : W.heap[n + 1]? = some (.cells #[.int .i64 y.kind, .int .i64 y.a, .int .i64 y.b] 48 (0, 0)) := by rw [hW, en]; exact heap_new (by simp)
  rw [← en, ← hW]
  have x0 := row_cell hx 0
  have x1 := row_cell hx 1
  have x2 := row_cell hx 2
  have y0 := row_cell hy 0
  have y1 := row_cell hy 1
  have y2 := row_cell hy 2
  simp at x0 x1 x2 y0 y1 y2
  clear hx hy hW en
  go_region_held3 (fun V => V.cell? ⟨n, 0, none⟩ = some (.int .i64 x.kind) ∧ V.cell? ⟨n, 1, none⟩ = some (.int .i64 x.a) ∧ V.cell? ⟨n, 2, none⟩ = some (.int .i64 x.b) ∧ V.cell? ⟨n + 1, 0, none⟩ = some (.int .i64 y.kind) ∧ V.cell? ⟨n + 1, 1, none⟩ = some (.int .i64 y.a) ∧ V.cell? ⟨n + 1, 2, none⟩ = some (.int .i64 y.b))
    (first
      | exact ⟨x0, x1, x2, y0, y1, y2⟩
      | exact ⟨(((Fr.refl [] W).drew).alloc _).cell x0 (by simp), (((Fr.refl [] W).drew).alloc _).cell x1 (by simp), (((Fr.refl [] W).drew).alloc _).cell x2 (by simp), (((Fr.refl [] W).drew).alloc _).cell y0 (by simp), (((Fr.refl [] W).drew).alloc _).cell y1 (by simp), (((Fr.refl [] W).drew).alloc _).cell y2 (by simp)⟩
      | go_keep)
    (first | (with_reducible refine (compareI_any _ _ _).mono ?_; rintro e w' ⟨rfl, rfl⟩) | (with_reducible refine (orI_any _ (cmpI x.kind y.kind) (cmpI x.a y.a) (cmpI x.b y.b) _ ?_ ?_ ?_).mono ?_; exact ((Fr.refl [] _).drew).cell (row_cell (heap_new rfl) 0) (by simp); exact ((Fr.refl [] _).drew).cell (row_cell (heap_new rfl) 1) (by simp); exact ((Fr.refl [] _).drew).cell (row_cell (heap_new rfl) 2) (by simp); rintro e w' ⟨rfl, rfl⟩))
  all_goals
    go_wp2_with fail
    go_ret
    refine ⟨by rw [ER.out]; rfl, ?_⟩
    first | exact HB.out.drew.alloc _ | exact (HB.out.alloc _).drew | exact (HB.out.drew.alloc _).drew
end Go.Proofs.YtjddngbgbbbefaaGreatDoor
namespace Go.Proofs.YtjddngbgbbbefaaGreatDoor
open Go.RowKit Go.Shelf Go.Sort Go.Maps
set_option maxRecDepth 100000

instance : Inhabited Aud := ⟨⟨0, 0, 0⟩⟩
theorem cmpI_cases (a b : Int) : (a < b ∧ cmpI a b = -1) ∨ (a = b ∧ cmpI a b = 0) ∨ (b < a ∧ cmpI a b = 1) := by
  unfold cmpI
  split
  · rename_i h; exact Or.inl ⟨h, rfl⟩
  · split
    · rename_i h; exact Or.inr (Or.inr ⟨h, rfl⟩)
    · exact Or.inr (Or.inl ⟨by omega, rfl⟩)
theorem cmpAud_lt (x y : Aud) : ltOf cmpAud x y = ltA x y := by
  unfold ltOf
  rw [Bool.eq_iff_iff, decide_eq_true_eq, ltA_iff]
  unfold cmpAud orI
  rcases cmpI_cases x.kind y.kind with ⟨h, e⟩ | ⟨h, e⟩ | ⟨h, e⟩ <;> rw [e] <;>
  rcases cmpI_cases x.a y.a with ⟨h2, e2⟩ | ⟨h2, e2⟩ | ⟨h2, e2⟩ <;> rw [e2] <;>
  rcases cmpI_cases x.b y.b with ⟨h3, e3⟩ | ⟨h3, e3⟩ | ⟨h3, e3⟩ <;> rw [e3] <;> simp <;> omega
theorem swoA : SWO (ltOf cmpAud) where
  irrefl x := by rw [cmpAud_lt]; exact ltA_irrefl x
  trans x y z h k := by rw [cmpAud_lt] at *; exact ltA_trans h k
  ntrans x y z h k := by
    rw [cmpAud_lt] at *
    rw [← Bool.not_eq_true, ltA_iff] at *
    omega
theorem sorted_of {d d' : Array Aud} (hp : PermIn 0 d.size d d') (hs : SortedIn (ltOf cmpAud) 0 d.size d') (hn : d.toList.Nodup) : SortedA d'.toList ∧ ∀ x, x ∈ d'.toList ↔ x ∈ d.toList := by
  obtain ⟨h1, _, h3⟩ := hp
  have e1 : d'.extract 0 d.size = d' := by rw [← h1]; simp
  have e2 : d.extract 0 d.size = d := by simp
  rw [e1, e2] at h3
  refine ⟨?_, fun x => h3.mem_iff⟩
  have hnd := h3.nodup_iff.2 hn
  refine List.pairwise_iff_getElem.2 (fun i j hi hj hij => ?_)
  have hi' : i < d'.size := hi
  have hj' : j < d'.size := hj
  have := hs i j (Nat.zero_le _) hij (by rw [← h1]; exact hj)
  rw [cmpAud_lt, getElem!_pos d' j hj', getElem!_pos d' i hi'] at this
  rw [Array.getElem_toList, Array.getElem_toList]
  rcases ltA_tri d'[i] d'[j] with h | h | h
  · exact h
  · have h2 := List.pairwise_iff_getElem.1 hnd i j hi hj hij
    rw [Array.getElem_toList, Array.getElem_toList] at h2
    exact absurd h h2
  · rw [this] at h; cases h
theorem ads_of_holds {W : World} {blk cap : Nat} {d : Array Aud} (h : HoldsK audCells 3 W blk 0 d) (hb : blk < W.heap.size) (hc : d.size ≤ cap) (hm : cap ≤ 9223372036854775807) : Ads W (.slice (some ⟨blk, 0, none⟩) d.size cap) d.toList := by
  refine Or.inr ⟨blk, 0, cap, by rw [Array.length_toList], by rw [Array.length_toList]; exact hc, hm, hb, fun i p hp => ?_⟩
  rw [Array.getElem?_toList] at hp
  obtain ⟨hi, hpi⟩ := Array.getElem?_eq_some_iff.1 hp
  have e : d[i]! = p := by rw [getElem!_pos d i hi, hpi]
  have h0 := (h.cell (i := i) (c := 0) hi (by decide)).1
  have h1 := (h.cell (i := i) (c := 1) hi (by decide)).1
  have h2 := (h.cell (i := i) (c := 2) hi (by decide)).1
  rw [e] at h0 h1 h2
  exact ⟨h0, h1, h2⟩
theorem holds_of_own {g : Nat} {W : World} {ss : List Aud} {cur : Array Value} (hg : W.heap[g]? = some (.cells cur 48 (0, 0))) (h6 : cur.toList.take (ss.length * 3) = ss.flatMap audCells) : HoldsK audCells 3 W g 0 ss.toArray := by
  intro j hj
  rw [size_flatK] at hj
  have hj' : j < ss.length * 3 := by simpa using hj
  refine ⟨?_, row_free hg _⟩
  rw [row_cell hg, Nat.zero_add, get_flatK _ _ _ _ hj]
  obtain ⟨p, hp⟩ : ∃ p, ss[j / 3]? = some p := ⟨ss[j / 3]'(by omega), List.getElem?_eq_getElem _⟩
  have he := audCells_at ss (j / 3) p hp (j % 3) (Nat.mod_lt _ (by decide))
  rw [show j / 3 * 3 + j % 3 = j by omega, ← h6, List.getElem?_take, if_pos hj', Array.getElem?_toList] at he
  have e : ss.toArray[j / 3]! = p := by
    rw [getElem!_pos ss.toArray (j / 3) (by simp; omega)]
    have := (List.getElem?_eq_some_iff.1 hp).2
    simpa using this
  rw [e, he]
  have hm : j % 3 < 3 := Nat.mod_lt _ (by decide)
  generalize j % 3 = r at hm ⊢
  match r, hm with
  | 0, _ => rfl
  | 1, _ => rfl
  | 2, _ => rfl
theorem sortW_fr (w : World) (blk off m : Nat) (dk : Array Aud) (os : Array Obj) : Fr [blk] w (sortWorldK audCells 3 w blk off m dk os) := by
  refine ⟨rfl, rfl, rfl, size_sortWorldK_c _ _ _ _ _ _ _ _, fun k hk hx => ?_⟩
  have hne : blk ≠ k := fun e => hx (by simp [e])
  unfold sortWorldK
  rw [heap_grow_old _ _ (by rw [size_putRowK]; exact hk)]
  unfold putRowK putRow mapBlock
  simp [Array.getElem?_modify, hne, Sort.ahead]
theorem enters_cmpA : ∀ args w, (callFunc 50 args).run Tryz.prog w = .ok (.enter 50 args) w := enters_of Tryz.func50 (by kernel_rfl) rfl
theorem aggA : ∀ w, (isAgg 48).run Tryz.prog w = .ok true w := fun w => by kernel_rfl
theorem sizA : ∀ w, (Go.sizeOf 48).run Tryz.prog w = .ok 3 w := fun w => by kernel_rfl
theorem cmpLaysA (blk off size : Nat) (w : World) : CmpLays Tryz.prog 50 #[] audCells 3 cmpAud blk off size w := fun _ _ _ _ x y => cmpA_any x y _
theorem nodup_len : ∀ {l m : List Aud}, l.Nodup → (∀ x ∈ l, x ∈ m) → l.length ≤ m.length
  | [], _, _, _ => Nat.zero_le _
  | x :: l, m, h, hs => by
    have h' := List.nodup_cons.1 h
    have hx := hs x (by simp)
    have ih := nodup_len (l := l) (m := m.erase x) h'.2 (fun y hy => (List.mem_erase_of_ne (fun e => h'.1 (by rw [← e]; exact hy))).2 (hs y (List.mem_cons_of_mem _ hy)))
    rw [List.length_erase_of_mem hx] at ih
    have := List.length_pos_of_mem hx
    rw [List.length_cons]
    omega
set_option maxHeartbeats 2000000 in
theorem sortedA_any (Bm b nn : Nat) (F : List Aud) (w : World) (hBm : Bm < w.heap.size) (hm : w.cell? ⟨Bm, 0, none⟩ = some (.map (some b))) (h : MapA w b nn F) (hnn : nn < 100000) (hF : F.length ≤ 1000000) :
    Calls Tryz.prog 48 #[.func (.func 91) #[] #[.pointer (some ⟨Bm, 0, none⟩)], .func (.func 50) #[] #[]] w fun e w' =>
      ∃ v, e = .returned v ∧ Ads w' v (sortA F) ∧ Fr [] w w' := by
  have HC := Lib.hid (collectA_any Bm b nn F w hBm hm h hnn)
  clear hm h
  go_enter Tryz.func48, Tryz.ntmps48
  go_wp2_with fail
  refine HC.out.mono ?_
  rintro e w1 ⟨v, ss, rfl, h1, h2, h3, h4, h5⟩
  have HN := Lib.hid h2
  have HM := Lib.hid h4
  have HF := Lib.hid h5
  rcases h1.2 with ⟨rfl, h0⟩ | ⟨g, cap, cur, rfl, hb, hg, hc1, hc2, hc3, hc6⟩
  · have hs : ss = [] := List.length_eq_zero_iff.1 h0
    have HR : Hid (Ads w1 (.slice none 0 0) (sortA F)) := Lib.hid (by
      have : F = [] := by
        cases F with
        | nil => rfl
        | cons x F => have := (HM.out x).2 (by simp); rw [hs] at this; cases this
      rw [this]
      exact Or.inl ⟨rfl, rfl⟩)
    have HS := Lib.hid (AnyF.slices_SortFunc_none (P := Tryz.prog) Tryz.sortAud none 0 (.func (.func 50) #[] #[]) w1)
    clear h1 h0 hs h2 h3 h4 h5
    go_wp2_with fail
    refine HS.out.mono ?_
    rintro e w2 ⟨rfl, rfl⟩
    go_wp2_with fail
    go_ret
    exact ⟨_, rfl, HR.out, HF.out⟩
  · have hH := holds_of_own hg hc6
    have hblk := lt_of_block hg
    have hsz : ss.toArray.size < 4611686018427387904 := by have := nodup_len h2 (fun x hx => (h4 x).1 hx); simp; omega
    have hS := AnyQ.slices_SortFunc (P := Tryz.prog) Tryz.sortAud 3 aggA sizA audCells (fun _ => rfl) (fun x v hv => by simp only [audCells, List.mem_cons, List.not_mem_nil, or_false] at hv; rcases hv with rfl | rfl | rfl <;> rfl) cmpAud swoA 50 #[] g 0 cap ss.toArray w1 enters_cmpA (cmpLaysA g 0 ss.toArray.size w1) hH hblk hsz
    have HS := Lib.hid hS
    have HG := Lib.hid hb
    have HH := Lib.hid hH
    have HBL := Lib.hid hblk
    have hcap : ss.toArray.size ≤ cap := by simpa using hc1
    have hcm : cap ≤ 9223372036854775807 := by unfold maxLen at hc2; omega
    rw [show ss.toArray.size = ss.length by simp] at HS hcap
    clear h1 h2 h3 h4 h5 hb hg hc1 hc2 hc3 hc6 hH hS hblk hsz
    go_wp2_with fail
    refine HS.out.mono ?_
    rintro e w2 ⟨rfl, d', n, os, hp, hs, hw⟩
    obtain ⟨k1, k2⟩ := sorted_of hp hs HN.out
    have HQ : Hid (d'.toList = sortA F) := Lib.hid (sortA_eq k1 (fun x => by rw [k2 x]; exact HM.out x))
    have hsz : d'.size = ss.length := by have := hp.1; simpa using this
    have HW2 : Hid (HoldsK audCells 3 w2 g 0 d') := Lib.hid (by rw [hw]; exact holdsK_sortWorldK_c audCells 3 w1 g 0 ss.toArray d' n os HH.out HBL.out hp.1)
    have HF2 : Hid (Fr [g] w1 w2) := Lib.hid (by rw [hw]; exact sortW_fr _ _ _ _ _ _)
    clear hw hp hs k1 k2
    have HR : Hid (Ads w2 (.slice (some ⟨g, 0, none⟩) ss.length cap) (sortA F)) := Lib.hid (by
      rw [← HQ.out, ← hsz]
      exact ads_of_holds HW2.out (Nat.lt_of_lt_of_le HBL.out HF2.out.size) (by omega) hcm)
    clear hsz hcap hcm
    go_wp2_with fail
    go_ret
    exact ⟨_, rfl, HR.out, HF.out.trans HF2.out (fun y hy => Or.inr (by rw [List.mem_singleton.1 hy]; exact HG.out))⟩
end Go.Proofs.YtjddngbgbbbefaaGreatDoor
