/-
  A map[int]bool and a map[int]string that the call has made: look-ups without a second result.
-/
import Derived.Test.YtglgkdbhdjkeaaaGreatDoorPlnGt
namespace Go.Proofs.YtglgkdbhdjkeaaaGreatDoor
open Go.RowKit Go.WideMaps Go.Maps

/-- Block b is a map of at most n entries; f tells what lies at a key. -/
def MapZ (w : World) (b n : Nat) (f : Int → Bool) : Prop :=
  ∃ D : DataW Unit, w.ownsMap Tryz.prog 3 (plainElem Tryz.prog 4) b n D ∧ ∀ k, isI k → D.atKey (.int .i64 k) (.lit (.bool false)) = .lit (.bool (f k))
theorem MapZ.made (w : World) : MapZ (w.alloc (.map #[] 0)) w.heap.size 0 (fun _ => false) := ⟨_, World.ownsMap_made _ _ _ _, fun _ _ => rfl⟩
theorem MapZ.fr {X : List Nat} {w w' : World} {b n : Nat} {f : Int → Bool} (h : MapZ w b n f) (hf : Fr X w w') (hx : b ∉ X) : MapZ w' b n f := by
  obtain ⟨D, ⟨es, clock, hb, r⟩, hat⟩ := h
  exact ⟨D, ⟨es, clock, hf.at hb hx, r⟩, hat⟩
theorem MapZ.lt {w : World} {b n : Nat} {f : Int → Bool} (h : MapZ w b n f) : b < w.heap.size := by
  obtain ⟨D, hown, _⟩ := h
  exact hown.lt
theorem MapZ.ne {w : World} {b n c : Nat} {f : Int → Bool} {cs : Array Value} {t : TypeId} {fr : Nat × Nat} (h : MapZ w b n f) (hc : w.heap[c]? = some (.cells cs t fr)) : b ≠ c := by
  obtain ⟨D, ⟨es, clock, hb, r⟩, _⟩ := h
  rintro rfl
  rw [hb] at hc
  cases hc
theorem zero_boolZ (w : World) : (zeroValue 4).run Tryz.prog w = .ok (.bool false) w := by kernel_rfl
set_option maxRecDepth 100000 in
theorem MapZ.look {w : World} {b n : Nat} {f : Int → Bool} (h : MapZ w b n f) (k : Int) (hk : isI k) :
    (Instr.lookup 51 (.map (some b)) (.int .i64 k) false).run Tryz.prog w = .ok (.bool (f k)) w := by
  obtain ⟨D, hown, hat⟩ := h
  obtain ⟨v, ps, hrun, hv⟩ := hown.lookup law_intG Tryz.underlying51 (zero_boolZ w) (plainElem_bool Tryz.underlying4 false) (key_intG hk)
  rw [hat k hk] at hv
  have : v = .bool (f k) := by
    have hu := Tryz.underlying4
    unfold plainElem at hv
    simp only [hu] at hv
    cases v <;> simp at hv
    rw [hv.1]
  rw [← this]; exact hrun
def putZ (f : Int → Bool) (s : Int) (y : Bool) : Int → Bool := fun k => if k = s then y else f k
theorem MapZ.congr {w : World} {b n : Nat} {f g : Int → Bool} (h : MapZ w b n f) (e : ∀ k, isI k → f k = g k) : MapZ w b n g := by
  obtain ⟨D, hown, hat⟩ := h
  exact ⟨D, hown, fun k hk => by rw [← e k hk]; exact hat k hk⟩
theorem put_viewZ {w : World} {b n : Nat} {f : Int → Bool} {D : DataW Unit} (hm : IsMap D) (hat : ∀ k, isI k → D.atKey (.int .i64 k) (.lit (.bool false)) = .lit (.bool (f k))) (s : Int) (y : Bool)
    (hown : w.ownsMap Tryz.prog 3 (plainElem Tryz.prog 4) b n (D.put (.int .i64 s) (.lit (.bool y)))) : MapZ w b n (putZ f s y) := by
  refine ⟨_, hown, fun k hk => ?_⟩
  unfold putZ
  by_cases h : k = s
  · subst h
    rw [if_pos rfl, atKey_put_same hm (lit_intG k)]
  · rw [if_neg h, atKey_put_other (intG_ne h)]
    exact hat k hk
theorem wp_putZ {o : Oper} {a : Act} {K : Act → World → Prop} {Q : Exit → Act → World → Prop} {w : World} (m x v : Operand) (hop : o.op = Op.mapUpdate 51 m x v)
    (b n : Nat) (f : Int → Bool) (hm : a.eval m = .map (some b)) (h : MapZ w b n f) (hn : n < 1000000) (s : Int) (y : Bool) (hx : a.eval x = .int .i64 s) (hv : a.eval v = .bool y) (hs : isI s)
    (hK : ∀ w', MapZ w' b (n + 1) (putZ f s y) → Fr [b] w w' → K (a.put o.dst undef) w') : o.wp Tryz.prog a w K Q := by
  obtain ⟨D, hown, hat⟩ := h
  obtain ⟨w', hrun, h', hgrow⟩ := hown.update law_intG Tryz.underlying51 (show n < maxLen by unfold maxLen; omega) (key_intG hs) (plainElem_bool Tryz.underlying4 y)
  have hk := hK w' (put_viewZ hown.isMap hat s y (by simpa using h')) ((Fr.refl [b] w).grown hgrow (fun r e => Or.inl (by cases e; simp)))
  unfold Oper.wp
  simp [execOp, hop, hm, hx, hv, hrun, Result.andThen]
  exact hk
theorem wpList_putZ {ops : Array Oper} {rest : List Oper} {o : Oper} {a : Act} {Q : Exit → Act → World → Prop} {w : World} (hg : o.guard = none) (m x v : Operand) (hop : o.op = Op.mapUpdate 51 m x v)
    (b n : Nat) (f : Int → Bool) (hm : a.eval m = .map (some b)) (h : MapZ w b n f) (hn : n < 1000000) (s : Int) (y : Bool) (hx : a.eval x = .int .i64 s) (hv : a.eval v = .bool y) (hs : isI s)
    (hK : ∀ w', MapZ w' b (n + 1) (putZ f s y) → Fr [b] w w' → wpList Tryz.prog ops Q rest (a.put o.dst undef) w') :
    wpList Tryz.prog ops Q (o :: rest) a w := by
  obtain ⟨D, hown, hat⟩ := h
  refine wpList_mapUpdate_own w hg m x v 51 hop 3 4 law_intG Tryz.underlying51 (plainElem Tryz.prog 4) b n D hm hown (by unfold maxLen; omega) _ _ _ hx hv (key_intG hs) _ [] (plainElem_bool Tryz.underlying4 y) ?_
  intro w' h' hgrow
  exact hK w' (put_viewZ hown.isMap hat s y (by simpa using h')) ((Fr.refl [b] w).grown hgrow (fun r e => Or.inl (by cases e; simp)))
set_option maxRecDepth 100000 in
theorem MapG.look {w : World} {b n : Nat} {f : Int → Option (List UInt8)} (h : MapG w b n f) (k : Int) (hk : isI k) :
    (Instr.lookup 56 (.map (some b)) (.int .i64 k) false).run Tryz.prog w = .ok (.string ⟨((f k).getD []).toArray⟩) w := by
  obtain ⟨D, hown, hat⟩ := h
  obtain ⟨v, ps, hrun, hv⟩ := hown.lookup law_intG Tryz.underlying56 (zero_strG w) (plainElem_string Tryz.underlying9 (by decide)) (key_intG hk)
  have h2 : D.atKey (.int .i64 k) (.lit (.string [])) = .lit (.string ((f k).getD [])) := (hat k hk).2
  rw [show (⟨#[]⟩ : ByteArray).data.toList = [] from rfl, h2] at hv
  obtain ⟨s, rfl, hc, _⟩ := strG_inv hv
  have h3 : (f k).getD [] = s.data.toList := by
    have := congrArg Prod.fst hc
    simp only at this
    injection this with h1
    injection h1 with h2
  rw [h3]
  have h4 : (⟨s.data.toList.toArray⟩ : ByteArray) = s := by cases s; simp
  rw [h4]
  exact hrun
theorem MapZ.more {w : World} {b n : Nat} {f : Int → Bool} (h : MapZ w b n f) : MapZ w b (n + 1) f := by
  obtain ⟨D, hown, hat⟩ := h
  exact ⟨D, hown.mono (Nat.le_succ _), hat⟩
theorem MapG.more {w : World} {b n : Nat} {f : Int → Option (List UInt8)} (h : MapG w b n f) : MapG w b (n + 1) f := by
  obtain ⟨D, hown, hat⟩ := h
  exact ⟨D, hown.mono (Nat.le_succ _), hat⟩
end Go.Proofs.YtglgkdbhdjkeaaaGreatDoor
