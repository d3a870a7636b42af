/-
  A map[string]bool that the call has made.
-/
import Derived.Test.YtjddngbgbbbefaaGreatDoorPty
import Derived.Maps.OwnSet
namespace Go.Proofs.YtjddngbgbbbefaaGreatDoor
open Go.RowKit Go.WideMaps Go.Maps

theorem law_str : Keyed Tryz.prog 9 := string_keyed Tryz.underlying9
theorem key_str (s : List UInt8) (h : s.length ≤ 9223372036854775807) : keyOf Tryz.prog 9 (.string ⟨s.toArray⟩) = some (.string s) :=
  keyOf_string_mk Tryz.underlying9 (by unfold maxLen; simp [ByteArray.size]; omega)
theorem lit_str (s : List UInt8) : WideAt.IsKeyLit (.string s) := by first | trivial | exact ⟨⟩ | simp [WideAt.IsKeyLit]

/-- Block b is a map of at most n entries; f tells what lies at a key. -/
def MapB (w : World) (b n : Nat) (f : List UInt8 → Bool) : Prop :=
  ∃ D : DataW Unit, w.ownsMap Tryz.prog 9 (plainElem Tryz.prog 4) b n D ∧ ∀ s, D.atKey (.string s) (.lit (.bool false)) = .lit (.bool (f s))
theorem MapB.made (w : World) : MapB (w.alloc (.map #[] 0)) w.heap.size 0 (fun _ => false) := ⟨_, World.ownsMap_made _ _ _ _, fun _ => rfl⟩
theorem MapB.fr {X : List Nat} {w w' : World} {b n : Nat} {f : List UInt8 → Bool} (h : MapB w b n f) (hf : Fr X w w') (hx : b ∉ X) : MapB w' b n f := by
  obtain ⟨D, ⟨es, clock, hb, r⟩, hat⟩ := h
  exact ⟨D, ⟨es, clock, hf.at hb hx, r⟩, hat⟩
theorem MapB.lt {w : World} {b n : Nat} {f : List UInt8 → Bool} (h : MapB w b n f) : b < w.heap.size := by
  obtain ⟨D, hown, _⟩ := h
  exact hown.lt
theorem zero_bool (w : World) : (zeroValue 4).run Tryz.prog w = .ok (.bool false) w := by kernel_rfl
set_option maxRecDepth 100000 in
theorem MapB.look {w : World} {b n : Nat} {f : List UInt8 → Bool} (h : MapB w b n f) (s : List UInt8) (hs : s.length ≤ 9223372036854775807) :
    (Instr.lookup 110 (.map (some b)) (.string ⟨s.toArray⟩) false).run Tryz.prog w = .ok (.bool (f s)) w := by
  obtain ⟨D, hown, hat⟩ := h
  obtain ⟨v, ps, hrun, hv⟩ := hown.lookup law_str Tryz.underlying110 (zero_bool w) (plainElem_bool Tryz.underlying4 false) (key_str s hs)
  rw [hat s] at hv
  have : v = .bool (f s) := by
    have hu := Tryz.underlying4
    unfold plainElem at hv
    simp only [hu] at hv
    cases v <;> simp at hv
    rw [hv.1]
  rw [← this]; exact hrun
def putB (f : List UInt8 → Bool) (s : List UInt8) (y : Bool) : List UInt8 → Bool := fun k => if k = s then y else f k
theorem wpList_putB {ops : Array Oper} {rest : List Oper} {o : Oper} {a : Act} {Q : Exit → Act → World → Prop} {w : World} (hg : o.guard = none) (m x v : Operand) (hop : o.op = Op.mapUpdate 110 m x v)
    (b n : Nat) (f : List UInt8 → Bool) (hm : a.eval m = .map (some b)) (h : MapB w b n f) (hn : n < 1000000) (s : List UInt8) (y : Bool) (hx : a.eval x = .string ⟨s.toArray⟩) (hv : a.eval v = .bool y) (hs : s.length ≤ 9223372036854775807)
    (hK : ∀ w', MapB w' b (n + 1) (putB f s y) → Fr [b] w w' → wpList Tryz.prog ops Q rest (a.put o.dst undef) w') :
    wpList Tryz.prog ops Q (o :: rest) a w := by
  obtain ⟨D, hown, hat⟩ := h
  refine wpList_mapUpdate_own w hg m x v 110 hop 9 4 law_str Tryz.underlying110 (plainElem Tryz.prog 4) b n D hm hown (by unfold maxLen; omega) _ _ _ hx hv (key_str s hs) _ [] (plainElem_bool Tryz.underlying4 y) ?_
  intro w' h' hgrow
  refine hK w' ⟨_, h', fun k => ?_⟩ ((Fr.refl [b] w).grown hgrow (fun r e => Or.inl (by cases e; simp)))
  by_cases hk : k = s
  · subst hk
    show (D.put _ _).atKey _ _ = .lit (.bool (if k = k then y else f k))
    rw [if_pos rfl, atKey_put_same hown.isMap (lit_str k)]
  · show (D.put _ _).atKey _ _ = .lit (.bool (if k = s then y else f k))
    rw [if_neg hk, atKey_put_other (fun h => hk (by injection h)), hat k]
def namesT (l : List Pty) (k : Nat) (s : List UInt8) : Bool := (l.take k).any fun q => q.name == s
theorem namesT_step (l : List Pty) (k : Nat) (p : Pty) (hp : l[k]? = some p) : namesT l (k + 1) = putB (namesT l k) p.name true := by
  funext s
  unfold namesT putB
  rw [List.take_add_one, hp, List.any_append]
  by_cases h : s = p.name
  · simp [h]
  · have : (p.name == s) = false := by simpa using fun h' => h (Eq.symm h')
    simp [h, this]
end Go.Proofs.YtjddngbgbbbefaaGreatDoor
