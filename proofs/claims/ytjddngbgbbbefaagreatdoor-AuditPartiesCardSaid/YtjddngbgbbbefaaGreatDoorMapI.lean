/-
  A map[string]int that the call has made.
-/
import Derived.Test.YtjddngbgbbbefaaGreatDoorOwn
import Derived.Maps.OwnSet
namespace Go.Proofs.YtjddngbgbbbefaaGreatDoor
open Go.RowKit Go.WideMaps Go.Maps

theorem law_strI : Keyed Tryz.prog 9 := string_keyed Tryz.underlying9
theorem key_strI (s : List UInt8) (h : s.length ≤ 9223372036854775807) : keyOf Tryz.prog 9 (.string ⟨s.toArray⟩) = some (.string s) :=
  keyOf_string_mk Tryz.underlying9 (by unfold maxLen; simp [ByteArray.size]; omega)
theorem lit_strI (s : List UInt8) : WideAt.IsKeyLit (.string s) := by first | trivial | exact ⟨⟩ | simp [WideAt.IsKeyLit]

/-- Block b is a map of at most n entries; f tells what lies at a key. -/
def MapI (w : World) (b n : Nat) (f : List UInt8 → Option Nat) : Prop :=
  ∃ D : DataW Unit, w.ownsMap Tryz.prog 9 (plainElem Tryz.prog 3) b n D ∧ ∀ s, has D (.string s) = (f s).isSome ∧ D.atKey (.string s) (.lit (.int .i64 0)) = .lit (.int .i64 ((f s).getD 0 : Nat))
theorem MapI.made (w : World) : MapI (w.alloc (.map #[] 0)) w.heap.size 0 (fun _ => none) := ⟨_, World.ownsMap_made _ _ _ _, fun _ => ⟨rfl, rfl⟩⟩
theorem MapI.fr {X : List Nat} {w w' : World} {b n : Nat} {f : List UInt8 → Option Nat} (h : MapI w b n f) (hf : Fr X w w') (hx : b ∉ X) : MapI w' b n f := by
  obtain ⟨D, ⟨es, clock, hb, r⟩, hat⟩ := h
  exact ⟨D, ⟨es, clock, hf.at hb hx, r⟩, hat⟩
theorem MapI.lt {w : World} {b n : Nat} {f : List UInt8 → Option Nat} (h : MapI w b n f) : b < w.heap.size := by
  obtain ⟨D, hown, _⟩ := h
  exact hown.lt
theorem zero_int (w : World) : (zeroValue 3).run Tryz.prog w = .ok (.int .i64 0) w := by kernel_rfl
set_option maxRecDepth 100000 in
theorem MapI.lookOk {w : World} {b n : Nat} {f : List UInt8 → Option Nat} (h : MapI w b n f) (s : List UInt8) (hs : s.length ≤ 9223372036854775807) :
    (Instr.lookup 113 (.map (some b)) (.string ⟨s.toArray⟩) true).run Tryz.prog w = .ok (.tuple #[.int .i64 ((f s).getD 0 : Nat), .bool (f s).isSome]) w := by
  obtain ⟨D, hown, hat⟩ := h
  obtain ⟨v, ps, hrun, hv⟩ := hown.look_ok law_strI Tryz.underlying113 (zero_int w) (plainElem_int Tryz.underlying3 (by decide)) (key_strI s hs)
  rw [(hat s).2] at hv
  rw [(hat s).1] at hrun
  obtain ⟨c, rfl, hc, _⟩ := plainElem_int_inv Tryz.underlying3 hv
  have : c = ((f s).getD 0 : Nat) := by
    have := congrArg Prod.fst hc
    simp only at this
    injection this with h1
    injection h1 with _ h2
    exact h2.symm
  rw [← this]; exact hrun
def putI (f : List UInt8 → Option Nat) (s : List UInt8) (y : Nat) : List UInt8 → Option Nat := fun k => if k = s then some y else f k
theorem wp_putI {o : Oper} {a : Act} {K : Act → World → Prop} {Q : Exit → Act → World → Prop} {w : World} (m x v : Operand) (hop : o.op = Op.mapUpdate 113 m x v)
    (b n : Nat) (f : List UInt8 → Option Nat) (hm : a.eval m = .map (some b)) (h : MapI w b n f) (hn : n < 1000000) (s : List UInt8) (y : Nat) (hx : a.eval x = .string ⟨s.toArray⟩) (hv : a.eval v = .int .i64 (y : Int)) (hy : y < 9223372036854775808) (hs : s.length ≤ 9223372036854775807)
    (hK : ∀ w', MapI w' b (n + 1) (putI f s y) → Fr [b] w w' → K (a.put o.dst undef) w') :
    o.wp Tryz.prog a w K Q := by
  obtain ⟨D, hown, hat⟩ := h
  obtain ⟨w', hrun, h', hgrow⟩ := hown.update law_strI Tryz.underlying113 (show n < maxLen by unfold maxLen; omega) (key_strI s hs) (plainElem_int Tryz.underlying3 (WalkArith.wf_i64 (by omega) : (Lit.int .i64 (y : Int)).wf = true))
  have hk := hK w' ⟨_, h', fun k => ?_⟩ ((Fr.refl [b] w).grown hgrow (fun r e => Or.inl (by cases e; simp)))
  · unfold Oper.wp
    simp [execOp, hop, hm, hx, hv, hrun, Result.andThen]
    exact hk
  by_cases hk : k = s
  · subst hk
    show has (D.put _ _) _ = (if k = k then some y else f k).isSome ∧ (D.put _ _).atKey _ _ = .lit (.int .i64 ((if k = k then some y else f k).getD 0 : Nat))
    rw [if_pos rfl, atKey_put_same hown.isMap (lit_strI k), has_put_same hown.isMap (lit_strI k)]
    exact ⟨rfl, rfl⟩
  · show has (D.put _ _) _ = (if k = s then some y else f k).isSome ∧ (D.put _ _).atKey _ _ = .lit (.int .i64 ((if k = s then some y else f k).getD 0 : Nat))
    rw [if_neg hk, atKey_put_other (fun h => hk (by injection h)), has_put_other (fun h => hk (by injection h))]
    exact hat k
theorem wpList_putI {ops : Array Oper} {rest : List Oper} {o : Oper} {a : Act} {Q : Exit → Act → World → Prop} {w : World} (hg : o.guard = none) (m x v : Operand) (hop : o.op = Op.mapUpdate 113 m x v)
    (b n : Nat) (f : List UInt8 → Option Nat) (hm : a.eval m = .map (some b)) (h : MapI w b n f) (hn : n < 1000000) (s : List UInt8) (y : Nat) (hx : a.eval x = .string ⟨s.toArray⟩) (hv : a.eval v = .int .i64 (y : Int)) (hy : y < 9223372036854775808) (hs : s.length ≤ 9223372036854775807)
    (hK : ∀ w', MapI w' b (n + 1) (putI f s y) → Fr [b] w w' → wpList Tryz.prog ops Q rest (a.put o.dst undef) w') :
    wpList Tryz.prog ops Q (o :: rest) a w := by
  obtain ⟨D, hown, hat⟩ := h
  refine wpList_mapUpdate_own w hg m x v 113 hop 9 3 law_strI Tryz.underlying113 (plainElem Tryz.prog 3) b n D hm hown (by unfold maxLen; omega) _ _ _ hx hv (key_strI s hs) _ [] (plainElem_int Tryz.underlying3 (WalkArith.wf_i64 (by omega))) ?_
  intro w' h' hgrow
  refine hK w' ⟨_, h', fun k => ?_⟩ ((Fr.refl [b] w).grown hgrow (fun r e => Or.inl (by cases e; simp)))
  by_cases hk : k = s
  · subst hk
    show has (D.put _ _) _ = (if k = k then some y else f k).isSome ∧ (D.put _ _).atKey _ _ = .lit (.int .i64 ((if k = k then some y else f k).getD 0 : Nat))
    rw [if_pos rfl, atKey_put_same hown.isMap (lit_strI k), has_put_same hown.isMap (lit_strI k)]
    exact ⟨rfl, rfl⟩
  · show has (D.put _ _) _ = (if k = s then some y else f k).isSome ∧ (D.put _ _).atKey _ _ = .lit (.int .i64 ((if k = s then some y else f k).getD 0 : Nat))
    rw [if_neg hk, atKey_put_other (fun h => hk (by injection h)), has_put_other (fun h => hk (by injection h))]
    exact hat k
end Go.Proofs.YtjddngbgbbbefaaGreatDoor
