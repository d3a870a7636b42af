/-
  The statement 'for .. range' over an iterator whose variables lie in boxes of their own: what stands ahead of a round's body may make memory.
-/
import Derived.Test.YtjddngbgbbbefaaGreatDoorRfAt
namespace Go.Proofs.YtjddngbgbbbefaaGreatDoor
open Go.RowKit

theorem wpIn_rangeX {α : Type} {F : Fence} {n : Nat} {P : Program} {g : Operand} {ps : Array Tmp} {assign body : Code} {Q : Exit → Act → World → Prop} {a : Act} {w : World}
    (hro : F.round = none) (h1 : 1 ≤ n) {gf : Nat} {lb : Array Value} (hg : a.eval g = .func (.func gf) #[] lb) (hFg : F.fn gf) (eg : ∀ args w, (callFunc gf args).run P w = .ok (.enter gf args) w)
    {encs : α → Array Value} {Kp : World → World → Prop} {S Sp : List α → Prop} {N : Nat} {w0 : World} (hseq : SeqStopsK F (n - 1) P gf lb encs Kp S Sp N w0)
    (hKt : ∀ {A B C : World}, Kp A B → Kp B C → Kp A C) (hKs : ∀ (A C : World), Std w.heap.size A C → Kp A C) (hb0 : Below w0.heap.size w0 w) (hps : ∀ x, (encs x).size = ps.size)
    (I : List α → World → Prop) (Ix : Code → List α → World → Prop) (hI : ∀ s A C, I s A → Std w.heap.size A C → I s C) (hIx : ∀ c s A C, Ix c s A → Std w.heap.size A C → Ix c s C) (h0 : I [] w)
    (Af : α → World → Act → World → Prop) (hAf : ∀ x W a' W', Af x W a' W' → Std w.heap.size W W')
    (hAk : ∀ x W a' W' (k : Nat) (o : Obj), Af x W a' W' → W.heap[k]? = some o → W'.heap[k]? = some o)
    (hassign : ∀ (l : Nat) (x : α) (W : World) (K : Act → World → Prop), (∀ a' W', Af x W a' W' → K a' W') →
      assign.wpIn (F.inRound l) (n - 1 - 1) P (Exit.then K (fun _ _ _ => False)) { tmps := (ps.zip (encs x)).foldl (fun t (p, v) => t.setIfInBounds p v) a.tmps, defers := [] } W)
    (hbody : ∀ (l : Nat) (pre : List α) (x : α) (W : World) (a' : Act) (W' W'' : World), I pre W → pre.length < N → Af x W a' W' → Std w.heap.size W' W'' → body.wpIn (F.inRound l) (n - 1 - 1) P (ownPostG w.heap.size Kp I Ix (pre ++ [x]) W'') a' W'')
    (hdone : ∀ (D : Nat) (xs : List α) (W : World), w.heap.size ≤ D → S xs → I xs W → W.heap[D]? = some (.deferred (some [])) → Q .normal { a with defers := { target := .collected D, args := #[] } :: a.defers } W)
    (hstop : ∀ (D : Nat) (c : Code) (pre : List α) (W : World), w.heap.size ≤ D → Sp pre → Ix c pre W → W.heap[D]? = some (.deferred (some [])) → c.wpIn F n P Q { a with defers := { target := .collected D, args := #[] } :: a.defers } W) :
    (Code.rangeFunc g ps assign body).wpIn F n P Q a w := by
  refine wpIn_rangeFunc ?_
  intro fn hfn
  rw [hro]
  obtain ⟨rec, hrec⟩ : ∃ rec : LoopState → Option Code → Loop, rec = fun st pe => { state := st, pending := pe, fn, tmps := a.tmps, params := ps, assign, body, defers := w.heap.size } := ⟨_, rfl⟩
  obtain ⟨D, hD⟩ : ∃ D, D = w.heap.size := ⟨_, rfl⟩
  obtain ⟨W1, hW1⟩ : ∃ W1, W1 = (w.alloc (.deferred (some []))).alloc (.loop (rec .ready none)) := ⟨_, rfl⟩
  have hs1 : W1.heap.size = D + 2 := by rw [hW1, hD]; simp
  have hL1 : W1.heap[D + 1]? = some (.loop (rec .ready none)) := by rw [hW1, hD]; exact heap_new (by simp)
  have hK1 : W1.heap[D]? = some (.deferred (some [])) := by rw [hW1, hD]; exact heap_past _ (heap_new rfl)
  have hf1 : Fr [] w W1 := by rw [hW1]; exact ((Fr.refl [] w).alloc _).alloc _
  refine ⟨D + 1, [{ target := .collected D, args := #[] }], W1, { target := .fn (.func gf) lb, args := #[.func (.yield (D + 1)) #[] #[]] }, W1, gf, #[.func (.yield (D + 1)) #[] #[]] ++ lb, W1, ?_, ?_, ?_, ?_, fun _ => h1, ?_⟩
  · rw [hW1, hD, hrec]; exact run_enterLoop_outer _ _ _ _ _
  · simp only [resolve, hg]
    simp [go_sem]
  · intro f' hf'; simp [Target.leads] at hf'; subst hf'; exact hFg
  · simp [invoke, go_sem, eg]
  · have hdn : D ≤ w.heap.size := by omega
    have hgs : ∀ {A C : World} {row : Option Nat}, A.grownBy C row → (∀ r, row = some r → W1.heap.size ≤ r ∧ ∃ o : Obj, A.heap[r]? = some o ∧ o.isWalk = true) → Std W1.heap.size A C := fun {A C row} hg hr =>
      ⟨hg.os, hg.tape, hg.output, hg.size, fun k o hk ho => (hg.block k (Array.getElem?_eq_some_iff.1 hk).1 (fun e => by
        obtain ⟨h2, o', ho', hw⟩ := hr k e.symm
        rw [hk] at ho'; cases ho'
        rcases ho with h3 | h3
        · omega
        · rw [Obj.not_cells_of_walk hw] at h3; cases h3)).trans hk⟩
    have hup : ∀ {A C : World}, Std W1.heap.size A C → Std w.heap.size A C := fun h => h.mono (by omega)
    refine (hseq (D + 1)
      (fun pre W => I pre W ∧ W.heap[D + 1]? = some (.loop (rec .ready none)) ∧ W.heap[D]? = some (.deferred (some [])))
      (fun pre W => ∃ c, Ix c pre W ∧ W.heap[D + 1]? = some (.loop (rec .done (some c))) ∧ W.heap[D]? = some (.deferred (some [])))
      W1 (hb0.trans ((hf1.toBelow (by simp)).mono hb0.size))
      (fun s A B row hs hg' hr => ⟨hI s A B hs.1 (hup (hgs hg' hr)), (hgs hg' hr).same _ _ hs.2.1 (Or.inl (by omega)), (hgs hg' hr).same _ _ hs.2.2 (Or.inl (by omega))⟩)
      (fun s A B row hs hg' hr => by
        obtain ⟨c, hc, hl, hk⟩ := hs
        exact ⟨c, hIx c s A B hc (hup (hgs hg' hr)), (hgs hg' hr).same _ _ hl (Or.inl (by omega)), (hgs hg' hr).same _ _ hk (Or.inl (by omega))⟩)
      ?_ ⟨hI _ _ _ h0 (hf1.std _), hL1, hK1⟩).mono ?_
    · rintro pre x W ⟨hi, hl, hk⟩ hlen
      have hy := run_yield (P := P) (args := encs x) hl (by rw [hrec]; exact hps x)
      rw [hrec] at hy
      refine ⟨fn, _, assign, body, hy, roundIn_of_wpIn hfn (hassign _ x W _ (fun a' W' haf => ?_))⟩
      have hl1 := hAk x W a' W' _ _ haf hl
      have hk1 := hAk x W a' W' _ _ haf hk
      refine ⟨_, run_beginRound hl1 (by rw [hrec]), ?_⟩
      clear hy
      have hput : Std w.heap.size W' (W'.putObj (D + 1) (.loop { rec .ready none with state := .busy })) := Std.put _ (by omega) hl1 rfl
      have hl2 : (W'.putObj (D + 1) (.loop { rec .ready none with state := .busy })).heap[D + 1]? = some (.loop { rec .ready none with state := .busy }) := World.putObj_heap_same (Array.getElem?_eq_some_iff.1 hl1).1
      have hk2 : (W'.putObj (D + 1) (.loop { rec .ready none with state := .busy })).heap[D]? = some (.deferred (some [])) := (World.putObj_heap_other (by omega)).trans hk1
      have hkW : Kp W (W'.putObj (D + 1) (.loop { rec .ready none with state := .busy })) := hKt (hKs _ _ (hAf x W a' W' haf)) (hKs _ _ hput)
      refine wpIn_mono (hbody _ pre x W a' W' _ hi hlen haf hput) ?_
      have fin : ∀ (jump : Option Code) (W3 : World), KeepsFrom w.heap.size (W'.putObj (D + 1) (.loop { rec .ready none with state := .busy })) W3 →
          (Instr.endRound (D + 1) jump).run P W3 = .ok (.bool jump.isNone) (W3.putObj (D + 1) (.loop (rec (if jump.isNone then .ready else .done) jump))) ∧
          W3.heap[D + 1]? = some (.loop { rec .ready none with state := .busy }) ∧
          (W3.putObj (D + 1) (.loop (rec (if jump.isNone then .ready else .done) jump))).heap[D + 1]? = some (.loop (rec (if jump.isNone then .ready else .done) jump)) ∧
          (W3.putObj (D + 1) (.loop (rec (if jump.isNone then .ready else .done) jump))).heap[D]? = some (.deferred (some [])) := fun jump W3 hk3 => by
        have hl3 := hk3.same _ _ (by omega) hl2 rfl
        have := run_endRound (P := P) jump hl3
        rw [hrec] at this ⊢
        exact ⟨this, by rw [hrec] at hl3; exact hl3, World.putObj_heap_same (Array.getElem?_eq_some_iff.1 hl3).1, (World.putObj_heap_other (by omega)).trans (hk3.same _ _ (by omega) hk2 rfl)⟩
      rintro e a3 W3 hp
      cases e with
      | normal =>
        obtain ⟨hk3, hkp3, hi3⟩ := hp
        obtain ⟨hr, hl3, hl4, hk4⟩ := fin none W3 hk3
        have hp3 := Std.put (B := w.heap.size) (.loop (rec (if (none : Option Code).isNone then .ready else .done) none)) (by omega) hl3 rfl
        exact ⟨_, _, hr, .inl ⟨rfl, ⟨hI _ _ _ hi3 hp3, hl4, hk4⟩, hKt (hKt hkW hkp3) (hKs _ _ hp3)⟩⟩
      | ret =>
        obtain ⟨hk3, hi3⟩ := hp
        obtain ⟨hr, hl3, hl4, hk4⟩ := fin (some .ret) W3 hk3
        exact ⟨_, _, hr, .inr ⟨rfl, .ret, hIx _ _ _ _ hi3 (Std.put _ (by omega) hl3 rfl), hl4, hk4⟩⟩
      | exit id =>
        obtain ⟨hk3, hi3⟩ := hp
        obtain ⟨hr, hl3, hl4, hk4⟩ := fin (some (.exit id)) W3 hk3
        exact ⟨_, _, hr, .inr ⟨rfl, .exit id, hIx _ _ _ _ hi3 (Std.put _ (by omega) hl3 rfl), hl4, hk4⟩⟩
      | goto t =>
        obtain ⟨hk3, hi3⟩ := hp
        obtain ⟨hr, hl3, hl4, hk4⟩ := fin (some (.goto t)) W3 hk3
        exact ⟨_, _, hr, .inr ⟨rfl, .goto t, hIx _ _ _ _ hi3 (Std.put _ (by omega) hl3 rfl), hl4, hk4⟩⟩
      | panic ch => exact hp.elim
      | outgrown => exact hp.elim
    · rintro e W2 ⟨⟨v, rfl⟩, (⟨xs, hS, hi, hl, hk⟩ | ⟨pre, hSp, c, hi, hl, hk⟩)⟩
      · exact ⟨none, _, by have := run_endLoop (P := P) hl (by rw [hrec]; simp); rw [hrec] at this; exact this, hdone D xs _ (by omega) hS (hI _ _ _ hi (Std.put _ (by omega) hl rfl)) ((World.putObj_heap_other (by omega)).trans hk)⟩
      · exact ⟨some c, _, by have := run_endLoop (P := P) hl (by rw [hrec]; simp); rw [hrec] at this; exact this, hstop D c pre _ (by omega) hSp (hIx c _ _ _ hi (Std.put _ (by omega) hl rfl)) ((World.putObj_heap_other (by omega)).trans hk)⟩
end Go.Proofs.YtjddngbgbbbefaaGreatDoor
