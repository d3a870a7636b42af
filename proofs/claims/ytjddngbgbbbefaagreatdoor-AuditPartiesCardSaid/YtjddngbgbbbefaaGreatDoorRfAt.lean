/-
  An iterator that hands each round a slice of strings in memory of its own: its contract, and the statement 'for .. range' over it.
-/
import Derived.RangeFuncNested
import Derived.RangeFuncBound
import Derived.RangeFuncCalls
import Derived.RangeFuncLeaves
import Derived.RangeFuncBox
import Derived.Test.YtjddngbgbbbefaaGreatDoorOwn
namespace Go.Proofs.YtjddngbgbbbefaaGreatDoor
open Go.RowKit

/-- Whatever lay below B, and every block of cells, lies as it lay. -/
structure Std (B : Nat) (A C : World) : Prop where
  os : C.os = A.os
  tape : C.tape = A.tape
  output : C.output = A.output
  size : A.heap.size ≤ C.heap.size
  same : ∀ (k : Nat) (o : Obj), A.heap[k]? = some o → (k < B ∨ o.isCells = true) → C.heap[k]? = some o
theorem Std.refl (B : Nat) (A : World) : Std B A A := ⟨rfl, rfl, rfl, Nat.le_refl _, fun _ _ h _ => h⟩
theorem Std.trans {B : Nat} {A C D : World} (h : Std B A C) (g : Std B C D) : Std B A D :=
  ⟨g.os.trans h.os, g.tape.trans h.tape, g.output.trans h.output, Nat.le_trans h.size g.size, fun k o hk ho => g.same k o (h.same k o hk ho) ho⟩
theorem Std.mono {B B' : Nat} {A C : World} (h : Std B A C) (hb : B' ≤ B) : Std B' A C :=
  ⟨h.os, h.tape, h.output, h.size, fun k o hk ho => h.same k o hk (ho.imp (fun h => Nat.lt_of_lt_of_le h hb) id)⟩
theorem Fr.std {A C : World} (h : Fr [] A C) (B : Nat) : Std B A C := ⟨h.os, h.tape, h.output, h.size, fun _ _ hk _ => h.at hk (by simp)⟩
theorem Std.put {B l : Nat} {A : World} {o : Obj} (o' : Obj) (hl : B ≤ l) (h : A.heap[l]? = some o) (hc : o.isCells = false) : Std B A (A.putObj l o') :=
  ⟨rfl, rfl, rfl, by simp, fun k x hk hx => by
    have hne : k ≠ l := fun e => by
      subst e
      rw [h] at hk; cases hk
      rcases hx with h1 | h1
      · omega
      · rw [hc] at h1; cases h1
    exact (World.putObj_heap_other hne).trans hk⟩
theorem Fr.thenStd {X : List Nat} {B : Nat} {w A C : World} (h : Fr X w A) (g : Std B A C) (hb : w.heap.size ≤ B) : Fr X w C :=
  ⟨g.os.trans h.os, g.tape.trans h.tape, g.output.trans h.output, Nat.le_trans h.size g.size, fun k hk hx => by
    have h1 := h.block k hk hx
    have h2 : k < A.heap.size := Nat.lt_of_lt_of_le hk h.size
    rw [← h1]
    rw [Array.getElem?_eq_getElem h2]
    exact g.same k _ (Array.getElem?_eq_getElem h2) (Or.inl (Nat.lt_of_lt_of_le hk hb))⟩
theorem Std.at {B : Nat} {A C : World} (h : Std B A C) {k : Nat} {cs : Array Value} {t : TypeId} {fr : Nat × Nat} (hk : A.heap[k]? = some (.cells cs t fr)) : C.heap[k]? = some (.cells cs t fr) := h.same k _ hk (Or.inr rfl)
theorem Std.cell {B : Nat} {A C : World} (h : Std B A C) {a : Addr} {v : Value} (hc : A.cell? a = some v) : C.cell? a = some v := by
  unfold World.cell? at hc ⊢
  cases ho : A.heap[a.block]? with
  | none => simp [ho] at hc
  | some o =>
    cases o with
    | cells cs t fr => rw [h.at ho]; rw [ho] at hc; exact hc
    | _ => simp [ho] at hc
theorem Strs.std {B : Nat} {A C : World} {v : Value} {l : List (List UInt8)} (h : Strs A v l) (g : Std B A C) : Strs C v l := by
  rcases h with ⟨h1, h2⟩ | ⟨b, off, cap, hv, h1, h2, h3, h4⟩
  · exact Or.inl ⟨h1, h2⟩
  · exact Or.inr ⟨b, off, cap, hv, h1, h2, Nat.lt_of_lt_of_le h3 g.size, fun i hi => g.cell (h4 i hi)⟩
theorem OwnS.std {B base : Nat} {A C : World} {v : Value} {l : List (List UInt8)} (h : OwnS base A v l) (g : Std B A C) : OwnS base C v l := by
  obtain ⟨h1, h2⟩ := h
  refine ⟨h1, ?_⟩
  rcases h2 with h2 | ⟨b, cap, cur, hv, hb, hg, h3⟩
  · exact Or.inl h2
  · exact Or.inr ⟨b, cap, cur, hv, hb, g.at hg, h3⟩
theorem boxed_std {B k : Nat} {A C : World} {t : TypeId} {v : Value} (h : Boxed A k t v) (g : Std B A C) : Boxed C k t v := g.at h
theorem Tabs.std {B : Nat} {A C : World} (h : Tabs A) (g : Std B A C) : Tabs C := by
  refine ⟨⟨Nat.lt_of_lt_of_le h.hex.1 g.size, fun d hd => g.cell (h.hex.2 d hd)⟩, ?_⟩
  have hp := h.pow
  unfold Lib.TabIs World.var? at hp ⊢
  simp only [gPow, Option.bind_some] at hp ⊢
  cases ho : A.heap[1]? with
  | none => rw [ho] at hp; cases hp
  | some o =>
    cases o with
    | cells cs t fr => rw [g.at ho]; rw [ho] at hp; exact hp
    | _ => rw [ho] at hp; cases hp

/-- What an iterator hands a round: a slice that reads as the list; it lies in new memory. -/
def OkAt (W0 W1 : World) (x : Value × List (List UInt8)) : Prop := Strs W1 x.1 x.2 ∧ ∀ k, x.1.ownBlock = some k → W0.heap.size ≤ k
/-- What a round keeps for the iterator. -/
structure KpAt (B : Nat) (x : Value × List (List UInt8)) (A C : World) : Prop where
  fr : KeepsFrom B A C
  x : Strs A x.1 x.2 → Strs C x.1 x.2
  t : Tabs A → Tabs C
theorem OkAt.std {B : Nat} {W0 A C : World} {x : Value × List (List UInt8)} (h : OkAt W0 A x) (g : Std B A C) : OkAt W0 C x := ⟨h.1.std g, h.2⟩
/-- The iterator's contract. -/
def SeqAt (F : Fence) (n : Nat) (P : Program) (g : Nat) (lb : Array Value) (S Sp : List (Value × List (List UInt8)) → Prop) (w : World) : Prop :=
  ∀ (l : Nat) (J : List (Value × List (List UInt8)) → World → Prop) (W : World), Below w.heap.size w W → (∀ s A C, J s A → Std W.heap.size A C → J s C) →
    (∀ pre x W0 W1, J pre W0 → Std W.heap.size W0 W1 → OkAt W0 W1 x → Sp (pre ++ [x]) → YieldAt F (n - 1) P l #[x.1] W1 fun e W' =>
      e = .returned (.bool true) ∧ J (pre ++ [x]) W' ∧ KpAt W.heap.size x W1 W') →
    J [] W →
    CallsIn F n P g (#[.func (.yield l) #[] #[]] ++ lb) W fun e W' => (∃ v, e = .returned v) ∧ ∃ xs, S xs ∧ J xs W'
/-- How a round must end. -/
def postAt (B : Nat) (I : List (Value × List (List UInt8)) → World → Prop) (pre : List (Value × List (List UInt8))) (x : Value × List (List UInt8)) (W : World) : Exit → Act → World → Prop
  | .normal, _, W' => KpAt B x W W' ∧ I (pre ++ [x]) W'
  | _, _, _ => False

theorem wpIn_rangeAt {F : Fence} {n : Nat} {P : Program} {g : Operand} {ps : Array Tmp} {assign body : Code} {Q : Exit → Act → World → Prop} {a : Act} {w : World}
    (hro : F.round = none) (h1 : 1 ≤ n) {gf : Nat} {lb : Array Value} (hg : a.eval g = .func (.func gf) #[] lb) (hFg : F.fn gf) (eg : ∀ args w, (callFunc gf args).run P w = .ok (.enter gf args) w)
    {S Sp : List (Value × List (List UInt8)) → Prop} {w0 : World} (hseq : SeqAt F (n - 1) P gf lb S Sp w0) (hb0 : Below w0.heap.size w0 w) (hps : ps.size = 1)
    (I : List (Value × List (List UInt8)) → World → Prop) (hI : ∀ s A C, I s A → Std w.heap.size A C → I s C) (h0 : I [] w) (a₁ : Value → Act)
    (hassign : ∀ (l : Nat) (v : Value) (W : World) (K : Act → World → Prop), K (a₁ v) W →
      assign.wpIn (F.inRound l) (n - 1 - 1) P (Exit.then K (fun _ _ _ => False)) { tmps := (ps.zip #[v]).foldl (fun t (p, v) => t.setIfInBounds p v) a.tmps, defers := [] } W)
    (hbody : ∀ (l : Nat) (pre : List (Value × List (List UInt8))) (x : Value × List (List UInt8)) (W0 W : World), I pre W0 → Std w.heap.size W0 W → OkAt W0 W x → Sp (pre ++ [x]) →
      body.wpIn (F.inRound l) (n - 1 - 1) P (postAt w.heap.size I pre x W) (a₁ x.1) W)
    (hdone : ∀ (D : Nat) (xs : List (Value × List (List UInt8))) (W : World), w.heap.size ≤ D → S xs → I xs W → W.heap[D]? = some (.deferred (some [])) → Q .normal { a with defers := { target := .collected D, args := #[] } :: a.defers } W) :
    (Code.rangeFunc g ps assign body).wpIn F n P Q a w := by
  refine wpIn_rangeFunc ?_
  intro fn hfn
  rw [hro]
  obtain ⟨rec, hrec⟩ : ∃ rec : LoopState → Option Code → Loop, rec = fun st pe => { state := st, pending := pe, fn, tmps := a.tmps, params := ps, assign, body, defers := w.heap.size } := ⟨_, rfl⟩
  obtain ⟨D, hD⟩ : ∃ D, D = w.heap.size := ⟨_, rfl⟩
  obtain ⟨W1, hW1⟩ : ∃ W1, W1 = (w.alloc (.deferred (some []))).alloc (.loop (rec .ready none)) := ⟨_, rfl⟩
  have hs1 : W1.heap.size = D + 2 := by rw [hW1, hD]; simp
  have hL1 : W1.heap[D + 1]? = some (.loop (rec .ready none)) := by rw [hW1, hD]; exact heap_new (by simp)
  have hK1 : W1.heap[D]? = some (.deferred (some [])) := by rw [hW1, hD]; exact heap_past _ (heap_new rfl)
  have hf1 : Fr [] w W1 := by rw [hW1]; exact ((Fr.refl [] w).alloc _).alloc _
  refine ⟨D + 1, [{ target := .collected D, args := #[] }], W1, { target := .fn (.func gf) lb, args := #[.func (.yield (D + 1)) #[] #[]] }, W1, gf, #[.func (.yield (D + 1)) #[] #[]] ++ lb, W1, ?_, ?_, ?_, ?_, fun _ => h1, ?_⟩
  · rw [hW1, hD, hrec]; exact run_enterLoop_outer _ _ _ _ _
  · simp only [resolve, hg]
    simp [go_sem]
  · intro f' hf'; simp [Target.leads] at hf'; subst hf'; exact hFg
  · simp [invoke, go_sem, eg]
  · have hdn : D ≤ w.heap.size := by omega
    have hup : ∀ {A C : World}, Std W1.heap.size A C → Std w.heap.size A C := fun h => h.mono (by omega)
    refine (hseq (D + 1) (fun pre W => I pre W ∧ W.heap[D + 1]? = some (.loop (rec .ready none)) ∧ W.heap[D]? = some (.deferred (some []))) W1
      (hb0.trans ((hf1.toBelow (by simp)).mono hb0.size))
      (fun s A C hs hst => ⟨hI s A C hs.1 (hup hst), hst.same _ _ hs.2.1 (Or.inl (by omega)), hst.same _ _ hs.2.2 (Or.inl (by omega))⟩)
      ?_ ⟨hI _ _ _ h0 (hf1.std _), hL1, hK1⟩).mono ?_
    · rintro pre x W0 W ⟨hi, hl, hk⟩ hst hok hsp
      have hl1 := hst.same _ _ hl (Or.inl (by omega))
      have hk1 := hst.same _ _ hk (Or.inl (by omega))
      have hy := run_yield (P := P) (args := #[x.1]) hl1 (by rw [hrec]; exact hps.symm)
      rw [hrec] at hy
      refine ⟨fn, _, assign, body, hy, roundIn_of_wpIn hfn (hassign _ x.1 W _ ⟨_, run_beginRound hl1 (by rw [hrec]), ?_⟩)⟩
      clear hy
      have hput : Std w.heap.size W (W.putObj (D + 1) (.loop { rec .ready none with state := .busy })) := Std.put _ (by omega) hl1 rfl
      have hl2 : (W.putObj (D + 1) (.loop { rec .ready none with state := .busy })).heap[D + 1]? = some (.loop { rec .ready none with state := .busy }) := World.putObj_heap_same (Array.getElem?_eq_some_iff.1 hl1).1
      have hk2 : (W.putObj (D + 1) (.loop { rec .ready none with state := .busy })).heap[D]? = some (.deferred (some [])) := (World.putObj_heap_other (by omega)).trans hk1
      refine wpIn_mono (hbody _ pre x W0 _ hi ((hup hst).trans hput) (hok.std hput) hsp) ?_
      rintro e a3 W3 hp
      cases e with
      | normal =>
        obtain ⟨hkp, hi3⟩ := hp
        have hl3 := hkp.fr.same _ _ (by omega) hl2 rfl
        have hk3 := hkp.fr.same _ _ (by omega) hk2 rfl
        have hend := run_endRound (P := P) none hl3
        rw [hrec] at hend
        have hput3 : Std w.heap.size W3 (W3.putObj (D + 1) (.loop { rec .ready none with state := if (none : Option Code).isNone then .ready else .done, pending := none })) := Std.put _ (by omega) hl3 rfl
        have hl4 : (W3.putObj (D + 1) (.loop { rec .ready none with state := if (none : Option Code).isNone then .ready else .done, pending := none })).heap[D + 1]? = some (.loop (rec .ready none)) := by
          rw [World.putObj_heap_same (Array.getElem?_eq_some_iff.1 hl3).1, hrec]; rfl
        have hk4 : (W3.putObj (D + 1) (.loop { rec .ready none with state := if (none : Option Code).isNone then .ready else .done, pending := none })).heap[D]? = some (.deferred (some [])) := (World.putObj_heap_other (by omega)).trans hk3
        rw [hrec] at hput3 hl4 hk4
        refine ⟨_, _, hend, rfl, ⟨hI _ _ _ hi3 hput3, by rw [hl4, hrec], hk4⟩, ⟨⟨?_, ?_⟩, fun h => ((hkp.x (h.std hput)).std hput3), fun h => ((hkp.t (h.std hput)).std hput3)⟩⟩
        · rw [World.putObj_size]
          exact Nat.le_trans (by rw [World.putObj_size]; exact Nat.le_refl _) hkp.fr.size
        · intro k o hk hko hc
          have hne : k ≠ D + 1 := by omega
          exact (World.putObj_heap_other hne).trans (hkp.fr.same k o (by omega) ((World.putObj_heap_other hne).trans hko) hc)
      | ret => exact hp.elim
      | exit id => exact hp.elim
      | goto t => exact hp.elim
      | panic ch => exact hp.elim
      | outgrown => exact hp.elim
    · rintro e W2 ⟨⟨v, rfl⟩, xs, hS, hi, hl, hk⟩
      refine ⟨none, _, by have := run_endLoop (P := P) hl (by rw [hrec]; simp); rw [hrec] at this; exact this, ?_⟩
      exact hdone D xs _ (by omega) hS (hI _ _ _ hi (Std.put _ (by omega) hl rfl)) ((World.putObj_heap_other (by omega)).trans hk)
end Go.Proofs.YtjddngbgbbbefaaGreatDoor
