/-
  What gates are: their state, and what the calls of a gate do.
  Slices of scans.
  A map[int]string that the call has made.
  How a gate lies in memory; gate.time, come, New, Log, write.
  (*gate.Gate).write.
  slices.ContainsFunc over functions; the reasons of (*gate.Gate).Scan.
  (*gate.Gate).Scan.
-/
import Derived.Test.YtglgkdbhdjkeaaaGreatDoorPlnTt
import Derived.Test.YtglgkdbhdjkeaaaGreatDoorPlnFl
import Derived.Test.YtglgkdbhdjkeaaaGreatDoorOwnT
import Derived.Maps.AppendAt
import Derived.Test.YtglgkdbhdjkeaaaGreatDoorOwn
import Derived.Maps.OwnSet
import Derived.Test.YtglgkdbhdjkeaaaGreatDoorFlG
import Derived.Test.YtglgkdbhdjkeaaaGreatDoorMrk
import Derived.Test.YtglgkdbhdjkeaaaGreatDoorTtD
import Derived.BigQuiet
namespace Go.Proofs.YtglgkdbhdjkeaaaGreatDoor
open Go.RowKit

/-- A scan. -/
structure Scn where
  gate : Int
  num : Int
  time : Int
  serial : Int
  kind : Int
  owner : List UInt8
deriving DecidableEq
/-- A step of who is inside. -/
def insS (k : Int) (a : Option (List UInt8)) (s : Scn) : Option (List UInt8) := if s.serial = k then (if s.kind = 1 then some s.owner else if s.kind = 2 then none else a) else a
/-- Who is inside, by a log. -/
def insR (log : List Scn) (k : Int) : Option (List UInt8) := log.foldl (insS k) none
theorem insR_snoc (log : List Scn) (s : Scn) (k : Int) : insR (log ++ [s]) k = insS k (insR log k) s := by simp [insR]
/-- A gate: syn is the time of the last Sync, or -1. -/
structure Gst where
  id : Int
  shw : Int
  stale : Int
  now : Int
  syn : Int
  flt : Flt
  log : List Scn
def newG (id shw stale : Int) : Gst := ⟨id, shw, stale, 0, -1, ⟨0, 0, []⟩, []⟩
def timeB (n : Int) : Bool := decide (0 ≤ n ∧ n ≤ 1000000000)
/-- Are the numbers of a gate as they should be? -/
def goodG (id shw stale : Int) : Bool := decide (0 ≤ id ∧ id ≤ 999 ∧ 0 ≤ shw ∧ shw < 20) && timeB stale
def comeG (g : Gst) (now : Int) : Int := if timeB now then (if now < g.now then 17 else 0) else 1
def putG (g : Gst) (kind serial : Int) (owner : List UInt8) (now : Int) : Gst := { g with now := now, log := g.log ++ [⟨g.id, (g.log.length : Int) + 1, now, serial, kind, owner⟩] }
def syncG (g : Gst) (f : Flt) (now : Int) : Gst × Int :=
  if timeB now && validF f then (if now < g.now then (g, 17) else ({ g with now := now, syn := now, flt := f }, 0)) else (g, 1)
def admG (g : Gst) (t : Ttl) : Bool := (insR g.log t.serial).isNone && decide (t.shw = g.shw) && !hasF g.flt t.serial && validT t
def kindG (g : Gst) (t : Ttl) : Int := if admG g t then 1 else 3
def scanG (g : Gst) (t : Ttl) (now : Int) : Gst × Int × Int :=
  if comeG g now ≠ 0 then (g, 0, comeG g now) else if g.syn < 0 ∨ g.syn < now - g.stale then (g, 0, 26) else if 4000 ≤ g.log.length then (g, 0, 23)
  else (putG g (kindG g t) t.serial (ownerT t) now, kindG g t, 0)
def leaveG (g : Gst) (serial now : Int) : Gst × Int :=
  if comeG g now ≠ 0 then (g, comeG g now) else match insR g.log serial with
    | none => (g, 11)
    | some o => if 4000 ≤ g.log.length then (g, 23) else (putG g 2 serial o now, 0)
/-- An operation. -/
structure GOp where
  kind : Nat
  t : Ttl
  serial : Int
  f : Flt
  serials : List Int
  now : Int
def givenG (o : GOp) : Flt := if o.kind % 4 = 2 then o.f else ⟨64, 2, makeF o.serials 64 2⟩
/-- What an operation does: the gate behind it, the kind, the error. -/
def doG (g : Gst) (o : GOp) : Gst × Int × Int :=
  if o.kind % 4 = 0 then scanG g o.t o.now else if o.kind % 4 = 1 then ((leaveG g o.serial o.now).1, 0, (leaveG g o.serial o.now).2)
  else ((syncG g (givenG o) o.now).1, 0, (syncG g (givenG o) o.now).2)
def runG (g : Gst) (l : List GOp) : Gst := l.foldl (fun a o => (doG a o).1) g
theorem runG_snoc (g : Gst) (l : List GOp) (o : GOp) : runG g (l ++ [o]) = (doG (runG g l) o).1 := by simp [runG]
/-- What holds of each gate that New and the calls make. -/
structure GInv (g : Gst) : Prop where
  i : 0 ≤ g.id ∧ g.id ≤ 999
  s : 0 ≤ g.shw ∧ g.shw < 20
  st : 0 ≤ g.stale ∧ g.stale ≤ 1000000000
  n : 0 ≤ g.now ∧ g.now ≤ 1000000000
  sy : -1 ≤ g.syn ∧ g.syn ≤ g.now
  w : W64 g.flt.words
  l : g.log.length ≤ 4000
theorem timeB_iff {n : Int} : timeB n = true ↔ 0 ≤ n ∧ n ≤ 1000000000 := by unfold timeB; rw [decide_eq_true_eq]
theorem GInv.new {id shw stale : Int} (h : goodG id shw stale = true) : GInv (newG id shw stale) := by
  unfold goodG at h
  rw [Bool.and_eq_true, decide_eq_true_eq, timeB_iff] at h
  exact ⟨⟨h.1.1, h.1.2.1⟩, h.1.2.2, h.2, ⟨Int.le_refl 0, show (0 : Int) ≤ 1000000000 by decide⟩, ⟨Int.le_refl _, show (-1 : Int) ≤ 0 by decide⟩, fun x hx => (by cases hx), show 0 ≤ 4000 by decide⟩
theorem come_zero {g : Gst} {now : Int} (h : comeG g now = 0) : (0 ≤ now ∧ now ≤ 1000000000) ∧ g.now ≤ now := by
  unfold comeG at h
  split at h
  · rename_i ht
    refine ⟨timeB_iff.1 ht, ?_⟩
    split at h
    · cases h
    · omega
  · cases h
theorem GInv.put {g : Gst} (h : GInv g) {now : Int} (hn : 0 ≤ now ∧ now ≤ 1000000000) (hg : g.now ≤ now) (hl : g.log.length < 4000) (k s : Int) (o : List UInt8) : GInv (putG g k s o now) :=
  ⟨h.i, h.s, h.st, hn, ⟨h.sy.1, by have := h.sy; show g.syn ≤ now; omega⟩, h.w, by unfold putG; simp; omega⟩
theorem GInv.sync {g : Gst} (h : GInv g) {f : Flt} (hf : W64 f.words) (now : Int) : GInv (syncG g f now).1 := by
  unfold syncG
  split
  · rename_i ht
    rw [Bool.and_eq_true, timeB_iff] at ht
    split
    · exact h
    · exact ⟨h.i, h.s, h.st, ht.1, ⟨by show -1 ≤ now; omega, Int.le_refl _⟩, hf, h.l⟩
  · exact h
theorem GInv.scan {g : Gst} (h : GInv g) (t : Ttl) (now : Int) : GInv (scanG g t now).1 := by
  unfold scanG
  split
  · exact h
  · rename_i hc
    split
    · exact h
    · split
      · exact h
      · have := come_zero (Decidable.not_not.1 hc)
        exact h.put this.1 this.2 (by omega) _ _ _
theorem GInv.leave {g : Gst} (h : GInv g) (serial now : Int) : GInv (leaveG g serial now).1 := by
  unfold leaveG
  split
  · exact h
  · rename_i hc
    split
    · exact h
    · split
      · exact h
      · have := come_zero (Decidable.not_not.1 hc)
        exact h.put this.1 this.2 (by omega) _ _ _
theorem given_W64 {o : GOp} (h : W64 o.f.words) : W64 (givenG o).words := by
  unfold givenG
  split
  · exact h
  · exact makeF_lt _ _ _
theorem GInv.done {g : Gst} (h : GInv g) {o : GOp} (ho : W64 o.f.words) : GInv (doG g o).1 := by
  unfold doG
  split
  · exact h.scan _ _
  · split
    · exact h.leave _ _
    · exact h.sync (given_W64 ho) _
theorem do_log (g : Gst) (o : GOp) : g.log.length ≤ (doG g o).1.log.length ∧ (doG g o).1.log.length ≤ g.log.length + 1 := by
  have hp : ∀ k s ow n, g.log.length ≤ (putG g k s ow n).log.length ∧ (putG g k s ow n).log.length ≤ g.log.length + 1 := fun k s ow n => by unfold putG; simp
  unfold doG scanG leaveG syncG
  split
  · split
    · simp
    · split
      · simp
      · split
        · simp
        · exact hp _ _ _ _
  · split
    · split
      · simp
      · split
        · simp
        · split
          · simp
          · exact hp _ _ _ _
    · split
      · split
        · simp
        · simp
      · simp
theorem run_log (g : Gst) : ∀ (l : List GOp), (runG g l).log.length ≤ g.log.length + l.length := by
  intro l
  induction l generalizing g with
  | nil => simp [runG]
  | cons o l ih =>
    have h1 := ih (doG g o).1
    have h2 := (do_log g o).2
    show (runG (doG g o).1 l).log.length ≤ _
    rw [List.length_cons]
    omega
theorem GInv.run {g : Gst} (h : GInv g) : ∀ (l : List GOp), (∀ o ∈ l, W64 o.f.words) → GInv (runG g l) := by
  intro l
  induction l generalizing g with
  | nil => exact fun _ => h
  | cons o l ih => exact fun hl => ih (h.done (hl o (by simp))) (fun x hx => hl x (by simp [hx]))
end Go.Proofs.YtglgkdbhdjkeaaaGreatDoor
namespace Go.Proofs.YtglgkdbhdjkeaaaGreatDoor
open Go.RowKit Go.Maps

def scC (s : Scn) : List Value := [.int .i64 s.gate, .int .i64 s.num, .int .i64 s.time, .int .i64 s.serial, .int .i64 s.kind, .string ⟨s.owner.toArray⟩]
theorem scC_length (l : List Scn) : (l.flatMap scC).length = l.length * 6 := by
  induction l with
  | nil => rfl
  | cons p l ih => rw [List.flatMap_cons, List.length_append, ih, List.length_cons]; simp [scC]; omega
theorem scC_at (l : List Scn) (i : Nat) (p : Scn) (hp : l[i]? = some p) (j : Nat) (hj : j < 6) : (l.flatMap scC)[i * 6 + j]? = (scC p)[j]? := by
  induction l generalizing i with
  | nil => simp at hp
  | cons q l ih =>
    rw [List.flatMap_cons]
    cases i with
    | zero =>
      rw [List.getElem?_cons_zero] at hp
      cases hp
      rw [Nat.zero_mul, Nat.zero_add, List.getElem?_append_left (by simp [scC]; omega)]
    | succ i =>
      rw [List.getElem?_cons_succ] at hp
      rw [List.getElem?_append_right (by simp [scC]; omega)]
      rw [show (i + 1) * 6 + j - (scC q).length = i * 6 + j by simp [scC]; omega]
      exact ih i hp
/-- A slice of scans. -/
def Scs (w : World) (v : Value) (l : List Scn) : Prop :=
  (l = [] ∧ ∃ a, v = .slice a 0 0) ∨ ∃ b off cap, v = .slice (some ⟨b, off, none⟩) l.length cap ∧ l.length ≤ cap ∧ cap ≤ 9223372036854775807 ∧ b < w.heap.size ∧
    ∀ (i : Nat) (x : Scn), l[i]? = some x → ∀ j, j < 6 → w.cell? ⟨b, off + i * 6 + j, none⟩ = (scC x)[j]?
theorem Scs.frX {X : List Nat} {w w' : World} {v : Value} {l : List Scn} (h : Scs w v l) (hf : Fr X w w') (hx : ∀ k, v.ownBlock = some k → k ∉ X) : Scs w' v l := by
  rcases h with h | ⟨b, off, cap, hv, h1, h2, h3, h4⟩
  · exact Or.inl h
  · refine Or.inr ⟨b, off, cap, hv, h1, h2, Nat.lt_of_lt_of_le h3 hf.size, fun i x hi j hj => ?_⟩
    have h5 := h4 i x hi j hj
    obtain ⟨u, hu⟩ : ∃ u, (scC x)[j]? = some u := ⟨_, List.getElem?_eq_getElem (by simpa [scC] using hj)⟩
    rw [hu] at h5 ⊢
    exact hf.cell h5 (hx b (by rw [hv]; rfl))
theorem Scs.fr {w w' : World} {v : Value} {l : List Scn} (h : Scs w v l) (hf : Fr [] w w') : Scs w' v l := h.frX hf (by simp)
theorem Scs.form {w : World} {v : Value} {l : List Scn} (h : Scs w v l) : ∃ a cap, v = .slice a l.length cap ∧ l.length ≤ cap ∧ cap ≤ 9223372036854775807 ∧ (∀ i, i < l.length → ∃ b off, a = some ⟨b, off, none⟩) := by
  rcases h with ⟨rfl, a, rfl⟩ | ⟨b, off, cap, rfl, h1, h2, _, _⟩
  · exact ⟨a, 0, rfl, by simp, by simp, fun i hi => absurd hi (by simp)⟩
  · exact ⟨_, cap, rfl, h1, h2, fun i hi => ⟨b, off, rfl⟩⟩
theorem Scs.cells {w : World} {b off n cap : Nat} {l : List Scn} (h : Scs w (.slice (some ⟨b, off, none⟩) n cap) l) (i : Nat) (x : Scn) (hx : l[i]? = some x) :
    w.cell? ⟨b, off + i * 6, none⟩ = some (.int .i64 x.gate) ∧ w.cell? ⟨b, off + i * 6 + 1, none⟩ = some (.int .i64 x.num) ∧ w.cell? ⟨b, off + i * 6 + 2, none⟩ = some (.int .i64 x.time) ∧
    w.cell? ⟨b, off + i * 6 + 3, none⟩ = some (.int .i64 x.serial) ∧ w.cell? ⟨b, off + i * 6 + 4, none⟩ = some (.int .i64 x.kind) ∧ w.cell? ⟨b, off + i * 6 + 5, none⟩ = some (.string ⟨x.owner.toArray⟩) := by
  rcases h with ⟨rfl, _⟩ | ⟨b', off', cap', hv, _, _, _, h4⟩
  · simp at hx
  · cases hv
    exact ⟨h4 i x hx 0 (by decide), h4 i x hx 1 (by decide), h4 i x hx 2 (by decide), h4 i x hx 3 (by decide), h4 i x hx 4 (by decide), h4 i x hx 5 (by decide)⟩
theorem Scs.take {w : World} {a : Option Addr} {cap : Nat} {l : List Scn} (h : Scs w (.slice a l.length cap) l) (k : Nat) (hk : k ≤ l.length) : Scs w (.slice a k cap) (l.take k) := by
  rcases h with ⟨rfl, a', hv⟩ | ⟨b, off, cap', hv, h1, h2, h3, h4⟩
  · cases hv
    obtain rfl : k = 0 := by simpa using hk
    exact Or.inl ⟨rfl, _, rfl⟩
  · cases hv
    refine Or.inr ⟨b, off, cap, by rw [List.length_take, Nat.min_eq_left hk], by rw [List.length_take]; omega, h2, h3, fun i x hx => h4 i x ?_⟩
    rw [List.getElem?_take] at hx
    split at hx
    · exact hx
    · cases hx
/-- A slice of scans that the call has made. -/
def OwnC (base : Nat) (w : World) (v : Value) (l : List Scn) : Prop := w.ownsRow base 58 6 v l.length (l.flatMap scC)
theorem OwnC.nil {base : Nat} {w : World} : OwnC base w (.slice none 0 0) [] := ⟨rfl, Or.inl ⟨rfl, rfl⟩⟩
theorem OwnC.fr {X : List Nat} {base : Nat} {w w' : World} {v : Value} {l : List Scn} (h : OwnC base w v l) (hf : Fr X w w') (hx : ∀ k, v.ownBlock = some k → k ∉ X) : OwnC base w' v l := ownsRow_fr h hf hx
theorem OwnC.scs {base : Nat} {w : World} {v : Value} {l : List Scn} (h : OwnC base w v l) : Scs w v l := by
  rcases h.2 with ⟨h1, h2⟩ | ⟨g, cap, cur, hv, hb, hg, h3, h4, h5, h6⟩
  · exact Or.inl ⟨List.length_eq_zero_iff.1 h2, none, h1⟩
  · refine Or.inr ⟨g, 0, cap, hv, h3, by unfold maxLen at h4; omega, lt_of_block hg, fun i p hp j hj => ?_⟩
    have hi : i < l.length := (List.getElem?_eq_some_iff.1 hp).1
    rw [Nat.zero_add, row_cell hg, ← scC_at l i p hp j hj, ← h6, List.getElem?_take, if_pos (by omega), Array.getElem?_toList]
theorem OwnC.mono {base base' : Nat} {w : World} {v : Value} {l : List Scn} (h : OwnC base w v l) (hb : base' ≤ base) : OwnC base' w v l := by
  obtain ⟨h1, h2⟩ := h
  refine ⟨h1, ?_⟩
  rcases h2 with h2 | ⟨g, cap, cur, hv, h3, h4⟩
  · exact Or.inl h2
  · exact Or.inr ⟨g, cap, cur, hv, Nat.le_trans hb h3, h4⟩
theorem OwnC.block {base : Nat} {w : World} {v : Value} {l : List Scn} (h : OwnC base w v l) : ∀ k, v.ownBlock = some k → base ≤ k ∧ k < w.heap.size := fun k hk => ⟨(ownBlock_cells h k hk).1, by
  rcases h.2 with ⟨rfl, _⟩ | ⟨g, cap, cur, rfl, hb, hg, _⟩
  · simp [Value.ownBlock] at hk
  · obtain rfl : g = k := by simpa [Value.ownBlock] using hk
    exact lt_of_block hg⟩
theorem cInfo : (Tryz.prog.info? 58).map (fun i => (i.zero, i.size, i.bytes)) = some (some (.agg #[.int .i64 0, .int .i64 0, .int .i64 0, .int .i64 0, .int .i64 0, .string ⟨#[]⟩]), 6, 56) := by kernel_rfl
theorem scC_one (l : List Scn) : ∀ u ∈ l.flatMap scC, u.oneCell' = true := by
  intro u hu
  obtain ⟨p, _, hu⟩ := List.mem_flatMap.1 hu
  simp only [scC, List.mem_cons, List.not_mem_nil, or_false] at hu
  rcases hu with rfl | rfl | rfl | rfl | rfl | rfl <;> rfl
theorem run_appC_nil (w : World) (base : Nat) (ty : TypeId) (v : Value) (l : List Scn) (hown : OwnC base w v l) (a : Option Addr) : (Builtin.append_ #[48, 48] ty #[v, .slice a 0 0]).run Tryz.prog w = .ok v w := by
  obtain ⟨i0, hi, hz0, hz1, hz2⟩ := info_parts cInfo
  rcases hown.2 with ⟨rfl, _⟩ | ⟨g, cap, cur, rfl, _, _, hnc, _⟩
  · cases a <;> simp [Builtin.append_, run_underlying Tryz.underlying48, sizeOf, typeInfo, hi, Builtin.lenOf, Builtin.firstCells, loadCells, loadCellsFrom]
  · cases a <;> simp [Builtin.append_, run_underlying Tryz.underlying48, sizeOf, typeInfo, hi, Builtin.lenOf, Builtin.firstCells, hnc, loadCells, loadCellsFrom, storeCells]
theorem wp_appC {o : Oper} {a : Act} {K : Act → World → Prop} {Q : Exit → Act → World → Prop} {w : World} (s x : Operand)
    (ho : o.op = .call { callee := .builtin .append, args := #[s, x], argTypes := #[48, 48] }) (base : Nat) (ev xv : Value) (l xs : List Scn) (w0 : World)
    (hs : a.eval s = ev) (hx : a.eval x = xv) (hxs : Scs w xv xs) (hown : OwnC base w ev l) (hfr : Fr [] w0 w) (hb0 : w0.heap.size ≤ base) (hb : base ≤ w.heap.size) (hl : l.length + xs.length < 1000000)
    (h : ∀ v' w', OwnC base w' v' (l ++ xs) → Fr [] w0 w' → Fr ev.ownBlock.toList w w' → (∀ k, v'.ownBlock = some k → ev.ownBlock = some k ∨ w.heap.size ≤ k) → K (a.put o.dst v') w') :
    o.wp Tryz.prog a w K Q := by
  obtain ⟨i0, hi, hz0, hz1, hz2⟩ := info_parts cInfo
  rcases hxs with ⟨rfl, av, rfl⟩ | ⟨b, off, cap, rfl, h1, h2, h3, h4⟩
  · have hrun := run_appC_nil w base o.type ev l hown av
    have := h ev w (by simpa using hown) hfr (Fr.refl _ _) (fun k hk => Or.inl hk)
    unfold Oper.wp execOp
    simp only [ho, resolve, invoke, builtin, Sem.run_bind, Sem.run_pure, Result.andThen_ok, List.map_toArray, List.map_cons, List.map_nil, hs, hx, hrun]
    exact this
  · have hcell : ∀ j u, (xs.flatMap scC)[j]? = some u → w.cell? ((⟨b, off, none⟩ : Addr).add j) = some u := fun j u hj => by
      have hjl : j < xs.length * 6 := by
        rw [← scC_length]; exact (List.getElem?_eq_some_iff.1 hj).1
      obtain ⟨p, hp⟩ : ∃ p, xs[j / 6]? = some p := ⟨xs[j / 6]'(by omega), List.getElem?_eq_getElem _⟩
      have he := scC_at xs (j / 6) p hp (j % 6) (Nat.mod_lt _ (by decide))
      rw [show j / 6 * 6 + j % 6 = j by omega, hj] at he
      rw [show (⟨b, off, none⟩ : Addr).add j = ⟨b, off + j, none⟩ by cases j <;> simp [Addr.add], show off + j = off + j / 6 * 6 + j % 6 by omega]
      rw [h4 (j / 6) p hp (j % 6) (Nat.mod_lt _ (by decide))]
      exact he.symm
    obtain ⟨v', w', hr, hown', hgrow, _, hloc⟩ := run_append_own_at (P := Tryz.prog) w base 48 o.type 58 i0 (.agg #[.int .i64 0, .int .i64 0, .int .i64 0, .int .i64 0, .int .i64 0, .string ⟨#[]⟩]) 6 56 Tryz.underlying48 hi hz0 hz1 hz2 rfl (by decide) ev _ _ hown ⟨b, off, none⟩ xs.length cap (xs.flatMap scC) (scC_length xs) hcell (scC_one xs) (by unfold maxLen; omega) (by omega) hb
    have hk := h v' w' (by simpa [OwnC] using hown') (hfr.grown hgrow (fun r e => Or.inr (Nat.le_trans hb0 (ownBlock_cells hown r e).1))) ((Fr.refl _ w).grown hgrow (fun r e => Or.inl (by simp [e]))) (fun k hk => by
      rcases hloc with h5 | h5
      · exact Or.inl (by rw [← h5]; exact hk)
      · rw [h5] at hk
        exact Or.inr (by have := Option.some.inj hk; omega))
    unfold Oper.wp execOp
    simp only [ho, resolve, invoke, builtin, Sem.run_bind, Sem.run_pure, Result.andThen_ok, List.map_toArray, List.map_cons, List.map_nil, hs, hx, hr]
    exact hk
theorem wpList_appC {ops : Array Oper} {rest : List Oper} {o : Oper} {a : Act} {Q : Exit → Act → World → Prop} {w : World} (hg : o.guard = none) (s x : Operand)
    (ho : o.op = .call { callee := .builtin .append, args := #[s, x], argTypes := #[48, 48] }) (base : Nat) (ev xv : Value) (l xs : List Scn) (w0 : World)
    (hs : a.eval s = ev) (hx : a.eval x = xv) (hxs : Scs w xv xs) (hown : OwnC base w ev l) (hfr : Fr [] w0 w) (hb0 : w0.heap.size ≤ base) (hb : base ≤ w.heap.size) (hl : l.length + xs.length < 1000000)
    (h : ∀ v' w', OwnC base w' v' (l ++ xs) → Fr [] w0 w' → Fr ev.ownBlock.toList w w' → (∀ k, v'.ownBlock = some k → ev.ownBlock = some k ∨ w.heap.size ≤ k) → wpList Tryz.prog ops Q rest (a.put o.dst v') w') :
    wpList Tryz.prog ops Q (o :: rest) a w :=
  wpList_plain hg fun _ hK => wp_appC s x ho base ev xv l xs w0 hs hx hxs hown hfr hb0 hb hl fun v' w' h2 h3 h4 h5 => hK _ _ (h v' w' h2 h3 h4 h5)
theorem ownC_empty {base : Nat} {W : World} (hb : base ≤ W.heap.size) : OwnC base (W.alloc (.cells #[] 58)) (.slice (some ⟨W.heap.size, 0, none⟩) 0 0) [] :=
  ⟨rfl, Or.inr ⟨W.heap.size, 0, #[], rfl, hb, heap_new rfl, Nat.le_refl _, by decide, rfl, rfl⟩⟩
theorem scs_one {W : World} {b : Nat} {s : Scn} {t : TypeId} (h : W.heap[b]? = some (.cells #[.int .i64 s.gate, .int .i64 s.num, .int .i64 s.time, .int .i64 s.serial, .int .i64 s.kind, .string ⟨s.owner.toArray⟩] t (0, 0))) : Scs W (.slice (some ⟨b, 0, none⟩) 1 1) [s] := by
  refine Or.inr ⟨b, 0, 1, rfl, by simp, by decide, lt_of_block h, fun i p hp j hj => ?_⟩
  match i, hp with
  | 0, hp =>
    cases hp
    rw [row_cell h]
    match j, hj with
    | 0, _ | 1, _ | 2, _ | 3, _ | 4, _ | 5, _ => rfl
  | i + 1, hp => simp at hp

set_option maxRecDepth 100000 in
set_option maxHeartbeats 1000000 in
/-- slices.Clone of scans: nil, or a new slice. -/
theorem cloneC_any (v : Value) (l : List Scn) (w : World) (hv : Scs w v l) (hn : l.length ≤ 100000) :
    Calls Tryz.prog 39 #[v] w fun e w' => ∃ v', e = .returned v' ∧ OwnC w.heap.size w' v' l ∧ Below w.heap.size w w' := by
  have HV := Lib.hid hv
  obtain ⟨av, cap, rfl, hc⟩ : ∃ av cap, v = .slice av l.length cap ∧ (av = none → l = []) := by
    rcases hv with ⟨rfl, a, rfl⟩ | ⟨b, off, cap, rfl, _⟩
    · exact ⟨a, 0, rfl, fun _ => rfl⟩
    · exact ⟨_, cap, rfl, fun h => by cases h⟩
  clear hv
  cases av with
  | none =>
    obtain rfl := hc rfl
    have hq : ∀ w, (binOp .eql 48 (.slice none 0 cap) (.slice none 0 0)).run Tryz.prog w = .ok (.bool true) w := fun _ => by kernel_rfl
    go_enter Tryz.func39, Tryz.ntmps39
    go_wp2_with fail
    go_ret
    exact ⟨_, rfl, OwnC.nil, Below.refl _ _⟩
  | some av =>
    have hq : ∀ w, (binOp .eql 48 (.slice (some av) l.length cap) (.slice none 0 0)).run Tryz.prog w = .ok (.bool false) w := fun _ => by kernel_rfl
    clear hc
    go_enter Tryz.func39, Tryz.ntmps39
    go_wp2_with (at_builtin; go_loud (refine wpList_appC rfl (.tmp 5) (.tmp 6) rfl w.heap.size (.slice (some ⟨w.heap.size, 0, none⟩) 0 0) (.slice (some av) l.length cap) [] l w rfl rfl (HV.out.fr ((Fr.refl [] w).alloc _)) (ownC_empty (Nat.le_refl _)) ((Fr.refl [] w).alloc _) (Nat.le_refl _) (by simp) (by simp; omega) ?_))
    intro v' w' hown hf _ _
    have HO := Lib.hid hown
    clear hown
    go_wp2_with fail
    go_ret
    exact ⟨v', rfl, HO.out, hf.toBelow (by simp)⟩
end Go.Proofs.YtglgkdbhdjkeaaaGreatDoor
namespace Go.Proofs.YtglgkdbhdjkeaaaGreatDoor
open Go.RowKit Go.WideMaps Go.Maps

theorem law_intG : Keyed Tryz.prog 3 := int_keyed Tryz.underlying3
/-- A number of Go. -/
def isI (k : Int) : Prop := -9223372036854775808 ≤ k ∧ k ≤ 9223372036854775807
theorem wf_isI {k : Int} (h : isI k) : (Lit.int .i64 k).wf = true := WalkArith.wf_i64 (by unfold isI at h; omega)
theorem key_intG {k : Int} (h : isI k) : keyOf Tryz.prog 3 (.int .i64 k) = some (.int .i64 k) := keyOf_int_mk Tryz.underlying3 (wf_isI h)
theorem lit_intG (k : Int) : WideAt.IsKeyLit (.int .i64 k) := by first | trivial | exact ⟨⟩ | simp [WideAt.IsKeyLit]
set_option maxRecDepth 100000 in
theorem strG_inv {v : Value} {z : DataW Unit × List MemPlace} (h : plainElem Tryz.prog 9 v = some z) : ∃ s : ByteArray, v = .string s ∧ z = (.lit (.string s.data.toList), []) ∧ s.size ≤ maxLen := by
  unfold plainElem at h
  rw [Tryz.underlying9] at h
  cases v <;> simp at h
  exact ⟨_, rfl, h.2.symm, h.1⟩

/-- Block b is a map of at most n entries; f tells what lies at a key. -/
def MapG (w : World) (b n : Nat) (f : Int → Option (List UInt8)) : Prop :=
  ∃ D : DataW Unit, w.ownsMap Tryz.prog 3 (plainElem Tryz.prog 9) b n D ∧ ∀ k, isI k → has D (.int .i64 k) = (f k).isSome ∧ D.atKey (.int .i64 k) (.lit (.string [])) = .lit (.string ((f k).getD []))
theorem MapG.made (w : World) : MapG (w.alloc (.map #[] 0)) w.heap.size 0 (fun _ => none) := ⟨_, World.ownsMap_made _ _ _ _, fun _ _ => ⟨rfl, rfl⟩⟩
theorem MapG.fr {X : List Nat} {w w' : World} {b n : Nat} {f : Int → Option (List UInt8)} (h : MapG w b n f) (hf : Fr X w w') (hx : b ∉ X) : MapG w' b n f := by
  obtain ⟨D, ⟨es, clock, hb, r⟩, hat⟩ := h
  exact ⟨D, ⟨es, clock, hf.at hb hx, r⟩, hat⟩
theorem MapG.lt {w : World} {b n : Nat} {f : Int → Option (List UInt8)} (h : MapG w b n f) : b < w.heap.size := by
  obtain ⟨D, hown, _⟩ := h
  exact hown.lt
theorem MapG.ne {w : World} {b n c : Nat} {f : Int → Option (List UInt8)} {cs : Array Value} {t : TypeId} {fr : Nat × Nat} (h : MapG w b n f) (hc : w.heap[c]? = some (.cells cs t fr)) : b ≠ c := by
  obtain ⟨D, ⟨es, clock, hb, r⟩, _⟩ := h
  rintro rfl
  rw [hb] at hc
  cases hc
theorem zero_strG (w : World) : (zeroValue 9).run Tryz.prog w = .ok (.string ⟨#[]⟩) w := by kernel_rfl
set_option maxRecDepth 100000 in
theorem MapG.lookOk {w : World} {b n : Nat} {f : Int → Option (List UInt8)} (h : MapG w b n f) (k : Int) (hk : isI k) :
    (Instr.lookup 56 (.map (some b)) (.int .i64 k) true).run Tryz.prog w = .ok (.tuple #[.string ⟨((f k).getD []).toArray⟩, .bool (f k).isSome]) w := by
  obtain ⟨D, hown, hat⟩ := h
  obtain ⟨v, ps, hrun, hv⟩ := hown.look_ok law_intG Tryz.underlying56 (zero_strG w) (plainElem_string Tryz.underlying9 (by decide)) (key_intG hk)
  have h2 : D.atKey (.int .i64 k) (.lit (.string [])) = .lit (.string ((f k).getD [])) := (hat k hk).2
  rw [show (⟨#[]⟩ : ByteArray).data.toList = [] from rfl, h2] at hv
  rw [(hat k hk).1] at hrun
  obtain ⟨s, rfl, hc, _⟩ := strG_inv hv
  have h3 : (f k).getD [] = s.data.toList := by
    have := congrArg Prod.fst hc
    simp only at this
    injection this with h1
    injection h1 with h2
  rw [h3]
  have h4 : (⟨s.data.toList.toArray⟩ : ByteArray) = s := by cases s; simp
  rw [h4]
  exact hrun
def putM (f : Int → Option (List UInt8)) (s : Int) (y : List UInt8) : Int → Option (List UInt8) := fun k => if k = s then some y else f k
def delM (f : Int → Option (List UInt8)) (s : Int) : Int → Option (List UInt8) := fun k => if k = s then none else f k
theorem MapG.congr {w : World} {b n : Nat} {f g : Int → Option (List UInt8)} (h : MapG w b n f) (e : ∀ k, isI k → f k = g k) : MapG w b n g := by
  obtain ⟨D, hown, hat⟩ := h
  exact ⟨D, hown, fun k hk => by rw [← e k hk]; exact hat k hk⟩
theorem intG_ne {k s : Int} (h : k ≠ s) : (Lit.int .i64 k) ≠ Lit.int .i64 s := fun e => h (by injection e)
theorem put_view {w : World} {b n : Nat} {f : Int → Option (List UInt8)} {D : DataW Unit} (hm : IsMap D) (hat : ∀ k, isI k → has D (.int .i64 k) = (f k).isSome ∧ D.atKey (.int .i64 k) (.lit (.string [])) = .lit (.string ((f k).getD []))) (s : Int) (y : List UInt8)
    (hown : w.ownsMap Tryz.prog 3 (plainElem Tryz.prog 9) b n (D.put (.int .i64 s) (.lit (.string y)))) : MapG w b n (putM f s y) := by
  refine ⟨_, hown, fun k hk => ?_⟩
  unfold putM
  by_cases h : k = s
  · subst h
    rw [if_pos rfl, atKey_put_same hm (lit_intG k), has_put_same hm (lit_intG k)]
    exact ⟨rfl, rfl⟩
  · rw [if_neg h, atKey_put_other (intG_ne h), has_put_other (intG_ne h)]
    exact hat k hk
theorem wpList_putG {ops : Array Oper} {rest : List Oper} {o : Oper} {a : Act} {Q : Exit → Act → World → Prop} {w : World} (hg : o.guard = none) (m x v : Operand) (hop : o.op = Op.mapUpdate 56 m x v)
    (b n : Nat) (f : Int → Option (List UInt8)) (hm : a.eval m = .map (some b)) (h : MapG w b n f) (hn : n < 1000000) (s : Int) (y : List UInt8) (hx : a.eval x = .int .i64 s) (hv : a.eval v = .string ⟨y.toArray⟩) (hs : isI s) (hy : y.length ≤ 9223372036854775807)
    (hK : ∀ w', MapG w' b (n + 1) (putM f s y) → Fr [b] w w' → wpList Tryz.prog ops Q rest (a.put o.dst undef) w') :
    wpList Tryz.prog ops Q (o :: rest) a w := by
  obtain ⟨D, hown, hat⟩ := h
  refine wpList_mapUpdate_own w hg m x v 56 hop 3 9 law_intG Tryz.underlying56 (plainElem Tryz.prog 9) b n D hm hown (by unfold maxLen; omega) _ _ _ hx hv (key_intG hs) _ [] (plainElem_string Tryz.underlying9 (by unfold maxLen; simp [ByteArray.size]; omega)) ?_
  intro w' h' hgrow
  refine hK w' (put_view hown.isMap hat s y ?_) ((Fr.refl [b] w).grown hgrow (fun r e => Or.inl (by cases e; simp)))
  simpa using h'
theorem Fr.turned {w w' : World} {b : Nat} (h : w.mapTurned w' b) : Fr [b] w w' := (Fr.refl [b] w).grown h.grown (fun r e => Or.inl (by cases e; simp))
theorem wpList_delG {ops : Array Oper} {rest : List Oper} {o : Oper} {a : Act} {Q : Exit → Act → World → Prop} {w : World} (hg : o.guard = none) (m x : Operand) (hop : o.op = Op.call { callee := Callee.builtin Builtin.delete, args := #[m, x], argTypes := #[56, 3] })
    (b n : Nat) (f : Int → Option (List UInt8)) (hm : a.eval m = .map (some b)) (h : MapG w b n f) (s : Int) (hx : a.eval x = .int .i64 s) (hs : isI s)
    (hK : ∀ w', MapG w' b n (delM f s) → Fr [b] w w' → wpList Tryz.prog ops Q rest (a.put o.dst (.tuple #[])) w') :
    wpList Tryz.prog ops Q (o :: rest) a w := by
  obtain ⟨D, hown, hat⟩ := h
  refine wpList_delete_own w hg m x 56 3 hop 9 law_intG Tryz.underlying56 (plainElem Tryz.prog 9) b n D hm hown _ _ hx (key_intG hs) ?_
  intro w' h' ht
  refine hK w' ⟨_, h', fun k hk => ?_⟩ (Fr.turned ht)
  unfold delM
  by_cases h : k = s
  · subst h
    rw [if_pos rfl, atKey_del_same, has_del_same]
    exact ⟨rfl, rfl⟩
  · rw [if_neg h, atKey_del_other (intG_ne h), has_del_other (intG_ne h)]
    exact hat k hk
end Go.Proofs.YtglgkdbhdjkeaaaGreatDoor
namespace Go.Proofs.YtglgkdbhdjkeaaaGreatDoor
open Go.RowKit

def synB (g : Gst) : Bool := decide (0 ≤ g.syn)
def sinG (g : Gst) : Int := if g.syn < 0 then 0 else g.syn
/-- The cells of a gate. -/
def gateC (g : Gst) (fw : Value) (mp : Nat) (lv : Value) : Array Value :=
  #[.int .i64 g.id, .int .i64 g.shw, .int .i64 g.stale, .int .i64 g.now, .bool (synB g), .int .i64 (sinG g), .int .i64 g.flt.bits, .int .i64 g.flt.hashes, fw, .map (some mp), lv]
/-- Block gp is a gate; f is its map of who is inside, of at most n entries; F: the blocks that it owns, from B on. -/
structure GateM (B : Nat) (W : World) (gp : Nat) (g : Gst) (fm : Int → Option (List UInt8)) (n mp : Nat) (fw lv : Value) (F : List Nat) : Prop where
  p : W.heap[gp]? = some (.cells (gateC g fw mp lv) 69 (0, 0))
  w : Ws W fw g.flt.words
  m : MapG W mp n fm
  o : OwnC B W lv g.log
  d : ∀ k, fw.ownBlock = some k → B ≤ k ∧ k < W.heap.size ∧ k ≠ gp ∧ k ≠ mp ∧ lv.ownBlock ≠ some k
  f : F = gp :: mp :: (lv.ownBlock.toList ++ fw.ownBlock.toList)
  b : B ≤ gp ∧ B ≤ mp
  i : GInv g
theorem GateM.mem {B : Nat} {w : World} {gp : Nat} {g : Gst} {f : Int → Option (List UInt8)} {n mp : Nat} {fw lv : Value} {F : List Nat} (h : GateM B w gp g f n mp fw lv F) :
    gp ∈ F ∧ mp ∈ F ∧ (∀ k, lv.ownBlock = some k → k ∈ F) ∧ (∀ k, fw.ownBlock = some k → k ∈ F) ∧ ∀ k ∈ F, B ≤ k ∧ k < w.heap.size := by
  rw [h.f]
  refine ⟨by simp, by simp, fun k hk => by simp [hk], fun k hk => by simp [hk], fun k hk => ?_⟩
  simp only [List.mem_cons, List.mem_append, Option.mem_toList] at hk
  rcases hk with rfl | rfl | hk | hk
  · exact ⟨h.b.1, lt_of_block h.p⟩
  · exact ⟨h.b.2, h.m.lt⟩
  · exact h.o.block k hk
  · exact ⟨(h.d k hk).1, (h.d k hk).2.1⟩
theorem GateM.apart {B : Nat} {w : World} {gp : Nat} {g : Gst} {f : Int → Option (List UInt8)} {n mp : Nat} {fw lv : Value} {F : List Nat} (h : GateM B w gp g f n mp fw lv F) :
    mp ≠ gp ∧ ∀ k, lv.ownBlock = some k → k ≠ gp ∧ k ≠ mp := by
  refine ⟨h.m.ne h.p, fun k hk => ⟨?_, ?_⟩⟩
  · rintro rfl
    exact row_ne h.p (by decide) h.o hk.symm
  · rintro rfl
    rcases h.o.2 with ⟨h1, _⟩ | ⟨g', cap, cur, h1, _, hg, _⟩
    · rw [h1] at hk; simp [Value.ownBlock] at hk
    · rw [h1] at hk
      obtain rfl : g' = k := by simpa [Value.ownBlock] using hk
      exact h.m.ne hg rfl
theorem Ws.frX {X : List Nat} {w w' : World} {v : Value} {l : List Nat} (h : Ws w v l) (hf : Fr X w w') (hx : ∀ k, v.ownBlock = some k → k ∉ X) : Ws w' v l := by
  rcases h with h | ⟨b, off, cap, hv, h1, h2, h3, h4⟩
  · exact Or.inl h
  · exact Or.inr ⟨b, off, cap, hv, h1, h2, Nat.lt_of_lt_of_le h3 hf.size, fun i hi => hf.cell (h4 i hi) (hx b (by rw [hv]; rfl))⟩
theorem GateM.fr {B : Nat} {w w' : World} {gp : Nat} {g : Gst} {f : Int → Option (List UInt8)} {n mp : Nat} {fw lv : Value} {F X : List Nat} (h : GateM B w gp g f n mp fw lv F) (hf : Fr X w w') (hx : ∀ k ∈ X, k ∉ F) : GateM B w' gp g f n mp fw lv F := by
  obtain ⟨m1, m2, m3, m4, m5⟩ := h.mem
  have hn : ∀ k, k ∈ F → k ∉ X := fun k hk h2 => hx k h2 hk
  refine ⟨hf.at h.p (hn _ m1), ?_, h.m.fr hf (hn _ m2), h.o.fr hf (fun k hk => hn _ (m3 k hk)), fun k hk => ?_, h.f, h.b, h.i⟩
  · rcases h.w with hw | ⟨b, off, cap, hv, h1, h2, h3, h4⟩
    · exact Or.inl hw
    · exact Or.inr ⟨b, off, cap, hv, h1, h2, Nat.lt_of_lt_of_le h3 hf.size, fun i hi => hf.cell (h4 i hi) (hn _ (m4 b (by rw [hv]; rfl)))⟩
  · obtain ⟨d1, d2, d3⟩ := h.d k hk
    exact ⟨d1, Nat.lt_of_lt_of_le d2 hf.size, d3⟩
/-- A gate whose map tells who is inside. -/
def GateR (B : Nat) (w : World) (gp : Nat) (g : Gst) (F : List Nat) : Prop := ∃ (n mp : Nat) (fw lv : Value), n ≤ g.log.length ∧ GateM B w gp g (insR g.log) n mp fw lv F
theorem GateR.fr {B : Nat} {w w' : World} {gp : Nat} {g : Gst} {F X : List Nat} (h : GateR B w gp g F) (hf : Fr X w w') (hx : ∀ k ∈ X, k ∉ F) : GateR B w' gp g F := by
  obtain ⟨n, mp, fw, lv, hn, hm⟩ := h
  exact ⟨n, mp, fw, lv, hn, hm.fr hf hx⟩
theorem GateR.inv {B : Nat} {w : World} {gp : Nat} {g : Gst} {F : List Nat} (h : GateR B w gp g F) : GInv g := let ⟨_, _, _, _, _, hm⟩ := h; hm.i
theorem GateR.blocks {B : Nat} {w : World} {gp : Nat} {g : Gst} {F : List Nat} (h : GateR B w gp g F) : ∀ k ∈ F, B ≤ k ∧ k < w.heap.size := let ⟨_, _, _, _, _, hm⟩ := h; hm.mem.2.2.2.2
/-- What a call leaves that changes a gate alone. -/
def GateQ (B : Nat) (w : World) (gp : Nat) (g : Gst) (F : List Nat) (w' : World) : Prop := ∃ F', GateR B w' gp g F' ∧ Fr F w w' ∧ ∀ k ∈ F', k ∈ F ∨ w.heap.size ≤ k
theorem GateQ.same {B : Nat} {w : World} {gp : Nat} {g : Gst} {F : List Nat} (h : GateR B w gp g F) : GateQ B w gp g F w := ⟨F, h, Fr.refl _ _, fun _ hk => Or.inl hk⟩

set_option maxRecDepth 100000 in
theorem gtime_any (n : Int) (w : World) : Calls Tryz.prog 30 #[.int .i64 n] w fun e w' => e = .returned (.bool (timeB n)) ∧ w = w' := by
  unfold timeB
  by_cases h0 : 0 ≤ n
  · by_cases h1 : n ≤ 1000000000
    · have hd : Hid (decide (0 ≤ n ∧ n ≤ 1000000000) = true) := Lib.hid (by simp [h0, h1])
      have t1 : decide (0 ≤ n) = true := by simpa using h0
      have t2 : decide (n ≤ 1000000000) = true := by simpa using h1
      clear h0 h1
      go_enter Tryz.func30, Tryz.ntmps30
      go_wp2_with fail
      go_ret
      exact ⟨by rw [hd.out]; rfl, rfl⟩
    · have hd : Hid (decide (0 ≤ n ∧ n ≤ 1000000000) = false) := Lib.hid (by simp [h1])
      have t1 : decide (0 ≤ n) = true := by simpa using h0
      have t2 : decide (n ≤ 1000000000) = false := by simpa using h1
      clear h0 h1
      go_enter Tryz.func30, Tryz.ntmps30
      go_wp2_with fail
      go_ret
      exact ⟨by rw [hd.out]; rfl, rfl⟩
  · have hd : Hid (decide (0 ≤ n ∧ n ≤ 1000000000) = false) := Lib.hid (by simp [h0])
    have t1 : decide (0 ≤ n) = false := by simpa using h0
    clear h0
    go_enter Tryz.func30, Tryz.ntmps30
    go_wp2_with fail
    go_ret
    exact ⟨by rw [hd.out]; rfl, rfl⟩

def gateP (gp : Nat) : Value := .pointer (some ⟨gp, 0, none⟩)
set_option maxRecDepth 100000 in
theorem come_nil (now : Int) (w : World) : Calls Tryz.prog 48 #[.pointer none, .int .i64 now] w fun e w' => e = .returned (.int .i64 1) ∧ w = w' := by
  have hq : ∀ w, (binOp .eql 25 (.pointer none) (.pointer none)).run Tryz.prog w = .ok (.bool true) w := fun _ => by kernel_rfl
  go_enter Tryz.func48, Tryz.ntmps48
  go_wp2_with fail
  go_ret
  exact ⟨rfl, rfl⟩
set_option maxRecDepth 100000 in
set_option maxHeartbeats 1000000 in
theorem come_any (gp : Nat) (g : Gst) (fw lv : Value) (mp : Nat) (now : Int) (w : World) (hp : w.heap[gp]? = some (.cells (gateC g fw mp lv) 69 (0, 0))) :
    Calls Tryz.prog 48 #[gateP gp, .int .i64 now] w fun e w' => e = .returned (.int .i64 (comeG g now)) ∧ w = w' := by
  have hq : ∀ w, (binOp .eql 25 (.pointer (some ⟨gp, 0, none⟩)) (.pointer none)).run Tryz.prog w = .ok (.bool false) w := fun _ => by kernel_rfl
  have c3 := row_cell hp 3
  unfold gateC at c3
  simp at c3
  clear hp
  unfold gateP
  have HC1 : Hid (timeB now = false → comeG g now = 1) := Lib.hid (fun h => by unfold comeG; rw [h]; rfl)
  have HC2 : Hid (timeB now = true → now < g.now → comeG g now = 17) := Lib.hid (fun h h2 => by unfold comeG; rw [h]; simp [h2])
  have HC3 : Hid (timeB now = true → ¬ now < g.now → comeG g now = 0) := Lib.hid (fun h h2 => by unfold comeG; rw [h]; simp [h2])
  obtain ⟨tb, htb⟩ : ∃ q, q = timeB now := ⟨_, rfl⟩
  have HTB := Lib.hid htb
  clear htb
  go_enter Tryz.func48, Tryz.ntmps48
  go_wp2_with fail
  refine (gtime_any now w).mono ?_
  rintro e w1 ⟨rfl, rfl⟩
  rw [← HTB.out]
  cases tb with
  | false =>
    go_wp2_with fail
    go_ret
    exact ⟨by rw [HC1.out HTB.out.symm]; rfl, rfl⟩
  | true =>
    by_cases hl : now < g.now
    · have t1 : decide (now < g.now) = true := by simpa using hl
      have HL := Lib.hid hl
      clear hl
      go_wp2_with fail
      go_ret
      exact ⟨by rw [HC2.out HTB.out.symm HL.out]; rfl, rfl⟩
    · have t1 : decide (now < g.now) = false := by simpa using hl
      have HL := Lib.hid hl
      clear hl
      go_wp2_with fail
      go_ret
      exact ⟨by rw [HC3.out HTB.out.symm HL.out]; rfl, rfl⟩

set_option maxRecDepth 100000 in
theorem log_nil (w : World) : Calls Tryz.prog 20 #[.pointer none] w fun e w' => e = .returned (.slice none 0 0) ∧ w = w' := by
  have hq : ∀ w, (binOp .eql 25 (.pointer none) (.pointer none)).run Tryz.prog w = .ok (.bool true) w := fun _ => by kernel_rfl
  go_enter Tryz.func20, Tryz.ntmps20
  go_wp2_with fail
  go_ret
  exact ⟨rfl, rfl⟩
set_option maxRecDepth 100000 in
theorem log_any (B gp : Nat) (g : Gst) (F : List Nat) (w : World) (h : GateR B w gp g F) :
    Calls Tryz.prog 20 #[gateP gp] w fun e w' => ∃ v, e = .returned v ∧ OwnC w.heap.size w' v g.log ∧ Below w.heap.size w w' := by
  obtain ⟨n, mp, fw, lv, hn, hm⟩ := h
  have hq : ∀ w, (binOp .eql 25 (.pointer (some ⟨gp, 0, none⟩)) (.pointer none)).run Tryz.prog w = .ok (.bool false) w := fun _ => by kernel_rfl
  have c := row_cell hm.p 10
  unfold gateC at c
  simp at c
  have HS := Lib.hid hm.o.scs
  have hl := hm.i.l
  clear hm
  unfold gateP
  go_enter Tryz.func20, Tryz.ntmps20
  go_wp2_with fail
  refine (cloneC_any lv g.log w HS.out (by omega)).mono ?_
  rintro e w1 ⟨v, rfl, ho, hb⟩
  have HO := Lib.hid ho
  have HB := Lib.hid hb
  clear ho hb
  go_wp2_with fail
  go_ret
  exact ⟨v, rfl, HO.out, HB.out⟩

theorem newG_made (B : Nat) (w : World) (id shw stale : Int) (hi : GInv (newG id shw stale)) (hB : B ≤ w.heap.size) :
    GateR B ((w.alloc (.map #[] 0)).alloc (.cells (gateC (newG id shw stale) (.slice none 0 0) w.heap.size (.slice none 0 0)) 69)) (w.heap.size + 1) (newG id shw stale) [w.heap.size + 1, w.heap.size] := by
  refine ⟨0, w.heap.size, .slice none 0 0, .slice none 0 0, Nat.le_refl _, heap_new (by simp), Or.inl ⟨rfl, none, rfl⟩, (MapG.made w).fr ((Fr.refl [] _).alloc _) (by simp), OwnC.nil, fun k hk => by simp [Value.ownBlock] at hk, rfl, ⟨by omega, hB⟩, hi⟩
set_option maxRecDepth 100000 in
set_option maxHeartbeats 2000000 in
/-- gate.New. -/
theorem gnew_any (id shw stale : Int) (w : World) :
    Calls Tryz.prog 12 #[.int .i64 id, .int .i64 shw, .int .i64 stale] w fun e w' =>
      (goodG id shw stale = true → e = .returned (.tuple #[gateP (w.heap.size + 1), .int .i64 0]) ∧ GateR w.heap.size w' (w.heap.size + 1) (newG id shw stale) [w.heap.size + 1, w.heap.size]) ∧
      (goodG id shw stale = false → e = .returned (.tuple #[.pointer none, .int .i64 1])) ∧ Below w.heap.size w w' := by
  have hmm := @run_makeMap Tryz.prog
  go_enter Tryz.func12, Tryz.ntmps12
  by_cases h1 : id < 0
  · have HG : Hid (goodG id shw stale = false) := Lib.hid (by unfold goodG; rw [Bool.and_eq_false_iff]; left; simp; omega)
    have t1 : decide (id < 0) = true := by simpa using h1
    clear h1
    go_wp2_with fail
    go_ret2
    exact ⟨fun h => (by rw [HG.out] at h; cases h), fun _ => rfl, Below.refl _ _⟩
  have t1 : decide (id < 0) = false := by simpa using h1
  by_cases h2 : 999 < id
  · have HG : Hid (goodG id shw stale = false) := Lib.hid (by unfold goodG; rw [Bool.and_eq_false_iff]; left; simp; omega)
    have t2 : decide (999 < id) = true := by simpa using h2
    clear h1 h2
    go_wp2_with fail
    go_ret2
    exact ⟨fun h => (by rw [HG.out] at h; cases h), fun _ => rfl, Below.refl _ _⟩
  have t2 : decide (999 < id) = false := by simp; omega
  by_cases h3 : shw < 0
  · have HG : Hid (goodG id shw stale = false) := Lib.hid (by unfold goodG; rw [Bool.and_eq_false_iff]; left; simp; omega)
    have t3 : decide (shw < 0) = true := by simpa using h3
    clear h1 h2 h3
    go_wp2_with fail
    go_ret2
    exact ⟨fun h => (by rw [HG.out] at h; cases h), fun _ => rfl, Below.refl _ _⟩
  have t3 : decide (shw < 0) = false := by simpa using h3
  by_cases h4 : 20 ≤ shw
  · have HG : Hid (goodG id shw stale = false) := Lib.hid (by unfold goodG; rw [Bool.and_eq_false_iff]; left; simp; omega)
    have t4 : decide (20 ≤ shw) = true := by simpa using h4
    clear h1 h2 h3 h4
    go_wp2_with fail
    go_ret2
    exact ⟨fun h => (by rw [HG.out] at h; cases h), fun _ => rfl, Below.refl _ _⟩
  have t4 : decide (20 ≤ shw) = false := by simp; omega
  obtain ⟨tb, htb⟩ : ∃ q, q = timeB stale := ⟨_, rfl⟩
  have HG : Hid (goodG id shw stale = tb) := Lib.hid (by
    unfold goodG
    rw [htb, decide_eq_true (by omega), Bool.true_and])
  have HTB := Lib.hid htb
  clear htb h1 h2 h3 h4
  go_wp2_with fail
  refine (gtime_any stale w).mono ?_
  rintro e w1 ⟨rfl, rfl⟩
  rw [← HTB.out]
  cases tb with
  | false =>
    go_wp2_with fail
    go_ret2
    exact ⟨fun h => (by rw [HG.out] at h; cases h), fun _ => rfl, Below.refl _ _⟩
  | true =>
    go_wp2_with fail
    have hmade := newG_made w.heap.size w id shw stale (GInv.new HG.out) (Nat.le_refl _)
    unfold gateC newG at hmade
    go_ret2
    refine ⟨fun _ => ⟨rfl, hmade⟩, fun h => ?_, ((Below.refl _ w).alloc (Nat.le_refl _) _).alloc (by simp) _⟩
    rw [HG.out] at h
    cases h
end Go.Proofs.YtglgkdbhdjkeaaaGreatDoor
namespace Go.Proofs.YtglgkdbhdjkeaaaGreatDoor
open Go.RowKit

/-- A world without memory, in the place of the law's first one. -/
theorem fr_bare (w : World) : Fr [] { w with heap := #[] } w := ⟨rfl, rfl, rfl, by simp, fun k hk => by simp at hk⟩
set_option maxRecDepth 100000 in
set_option maxHeartbeats 4000000 in
theorem gwrite_any (B gp : Nat) (g : Gst) (f : Int → Option (List UInt8)) (n mp : Nat) (fw lv : Value) (F : List Nat) (kind serial : Int) (owner : List UInt8) (now : Int) (w : World) (h : GateM B w gp g f n mp fw lv F)
    (hn : 0 ≤ now ∧ now ≤ 1000000000) (hg : g.now ≤ now) (hl : g.log.length < 4000) :
    Calls Tryz.prog 55 #[gateP gp, .int .i64 kind, .int .i64 serial, .string ⟨owner.toArray⟩, .int .i64 now] w fun e w' => e = .returned (.tuple #[]) ∧
      ∃ lv' F', GateM B w' gp (putG g kind serial owner now) f n mp fw lv' F' ∧ Fr F w w' ∧ ∀ k ∈ F', k ∈ F ∨ w.heap.size ≤ k := by
  have hmx : Tryz.prog.follows .mixedOrders = true := by kernel_rfl
  obtain ⟨la, lc, hlv, hlc, hlm, _⟩ := h.o.scs.form
  subst hlv
  have HM := Lib.hid h
  have hp := h.p
  have c3 := row_cell hp 3
  have f3 := row_free hp 3
  unfold gateC at c3
  simp at c3
  clear h
  unfold gateP
  have hp1 : (w.setCell ⟨gp, 3, none⟩ (.int .i64 now)).heap[gp]? = some (.cells (gateC { g with now := now } fw mp (.slice la g.log.length lc)) 69 (0, 0)) := row_set hp 3 _
  have hX1 : Fr [gp] w (w.setCell ⟨gp, 3, none⟩ (.int .i64 now)) := (Fr.refl [gp] w).setCell _ _ (by simp)
  have HP1 := Lib.hid hp1
  have HX1 := Lib.hid hX1
  clear hp1 hX1 hp
  go_enter Tryz.func55, Tryz.ntmps55
  go_wp2_with fail
  generalize w.setCell ⟨gp, 3, none⟩ (.int .i64 now) = W1 at HP1 HX1 ⊢
  have c0 := row_cell HP1.out 0
  have c10 := row_cell HP1.out 10
  unfold gateC at c0 c10
  simp at c0 c10
  clear c3 f3
  have gr0 : Fr [] W1 W1.drew := (Fr.refl [] W1).drew
  have hSr0 : W1.drew.cell? ⟨gp, 0, none⟩ = some (.int .i64 g.id) ∧ W1.drew.cell? ⟨gp, 10, none⟩ = some (.slice la g.log.length lc) := ⟨gr0.cell c0 (by simp), gr0.cell c10 (by simp)⟩
  refine region_held 24 (fun W' => W'.cell? ⟨gp, 0, none⟩ = some (.int .i64 g.id) ∧ W'.cell? ⟨gp, 10, none⟩ = some (.slice la g.log.length lc)) hmx ?_
  change Held _ _ _ _ _ _ 25 (Array.replicate 25 false) _ _
  refine hd_take 0 (v := .pointer (some ⟨gp, 0, none⟩)) rfl (by kernel_rfl) (by kernel_rfl) (by kernel_rfl) rfl hSr0 (fun W' hS => by go_simp) rfl ?_
  refine hd_take 1 (v := .pointer (some ⟨gp, 0, none⟩)) rfl (by kernel_rfl) (by kernel_rfl) (by kernel_rfl) rfl hSr0 (fun W' hS => by go_simp) rfl ?_
  refine hd_take 5 (v := .pointer (some ⟨gp, 0, none⟩)) rfl (by kernel_rfl) (by kernel_rfl) (by kernel_rfl) rfl hSr0 (fun W' hS => by go_simp) rfl ?_
  refine hd_take 9 (v := .pointer (some ⟨gp, 0, none⟩)) rfl (by kernel_rfl) (by kernel_rfl) (by kernel_rfl) rfl hSr0 (fun W' hS => by go_simp) rfl ?_
  refine hd_take 15 (v := .int .i64 now) rfl (by kernel_rfl) (by kernel_rfl) (by kernel_rfl) rfl hSr0 (fun W' hS => by go_simp) rfl ?_
  refine hd_take 16 (v := .int .i64 serial) rfl (by kernel_rfl) (by kernel_rfl) (by kernel_rfl) rfl hSr0 (fun W' hS => by go_simp) rfl ?_
  refine hd_take 17 (v := .int .i64 kind) rfl (by kernel_rfl) (by kernel_rfl) (by kernel_rfl) rfl hSr0 (fun W' hS => by go_simp) rfl ?_
  refine hd_take 18 (v := .string ⟨owner.toArray⟩) rfl (by kernel_rfl) (by kernel_rfl) (by kernel_rfl) rfl hSr0 (fun W' hS => by go_simp) rfl ?_
  try simp only [Act.put, List.setIfInBounds_toArray, List.set_cons_zero, List.set_cons_succ]
  refine hd_take 2 (v := .pointer (some ⟨gp, 0, none⟩)) rfl (by kernel_rfl) (by kernel_rfl) (by kernel_rfl) rfl hSr0 (fun W' hS => by go_simp) rfl ?_
  refine hd_take 6 (v := .pointer (some ⟨gp, 0, none⟩)) rfl (by kernel_rfl) (by kernel_rfl) (by kernel_rfl) rfl hSr0 (fun W' hS => by go_simp) rfl ?_
  refine hd_take 10 (v := .pointer (some ⟨gp, 0, none⟩)) rfl (by kernel_rfl) (by kernel_rfl) (by kernel_rfl) rfl hSr0 (fun W' hS => by go_simp) rfl ?_
  try simp only [Act.put, List.setIfInBounds_toArray, List.set_cons_zero, List.set_cons_succ]
  refine hd_take 3 (v := .pointer (some ⟨gp, 10, none⟩)) rfl (by kernel_rfl) (by kernel_rfl) (by kernel_rfl) rfl hSr0 (fun W' hS => by go_simp) rfl ?_
  refine hd_take 7 (v := .pointer (some ⟨gp, 0, none⟩)) rfl (by kernel_rfl) (by kernel_rfl) (by kernel_rfl) rfl hSr0 (fun W' hS => by go_simp) rfl ?_
  refine hd_take 11 (v := .pointer (some ⟨gp, 10, none⟩)) rfl (by kernel_rfl) (by kernel_rfl) (by kernel_rfl) rfl hSr0 (fun W' hS => by go_simp) rfl ?_
  try simp only [Act.put, List.setIfInBounds_toArray, List.set_cons_zero, List.set_cons_succ]
  refine hd_take 4 (v := .slice la g.log.length lc) rfl (by kernel_rfl) (by kernel_rfl) (by kernel_rfl) rfl hSr0 (fun W' hS => by obtain ⟨s0, s1⟩ := hS; go_simp) rfl ?_
  refine hd_take 8 (v := .int .i64 g.id) rfl (by kernel_rfl) (by kernel_rfl) (by kernel_rfl) rfl hSr0 (fun W' hS => by obtain ⟨s0, s1⟩ := hS; go_simp) rfl ?_
  refine hd_take 12 (v := .slice la g.log.length lc) rfl (by kernel_rfl) (by kernel_rfl) (by kernel_rfl) rfl hSr0 (fun W' hS => by obtain ⟨s0, s1⟩ := hS; go_simp) rfl ?_
  try simp only [Act.put, List.setIfInBounds_toArray, List.set_cons_zero, List.set_cons_succ]
  refine hd_take 13 (v := .int .i64 (g.log.length : Int)) rfl (by kernel_rfl) (by kernel_rfl) (by kernel_rfl) rfl hSr0 (fun W' hS => by go_simp) rfl ?_
  try simp only [Act.put, List.setIfInBounds_toArray, List.set_cons_zero, List.set_cons_succ]
  refine hd_take 14 (v := .int .i64 ((g.log.length : Int) + 1)) rfl (by kernel_rfl) (by kernel_rfl) (by kernel_rfl) rfl hSr0 (fun W' hS => by have w1 : IntKind.i64.wrap ((g.log.length : Int) + 1) = (g.log.length : Int) + 1 := IntWalk.i64_in _ (by omega); go_simp) rfl ?_
  try simp only [Act.put, List.setIfInBounds_toArray, List.set_cons_zero, List.set_cons_succ]
  refine hd_take 19 (v := .agg #[.int .i64 g.id, .int .i64 ((g.log.length : Int) + 1), .int .i64 now, .int .i64 serial, .int .i64 kind, .string ⟨owner.toArray⟩]) rfl (by kernel_rfl) (by kernel_rfl) (by kernel_rfl) rfl hSr0 (fun W' hS => by go_simp) rfl ?_
  try simp only [Act.put, List.setIfInBounds_toArray, List.set_cons_zero, List.set_cons_succ]
  generalize W1.drew = wd at gr0 hSr0 ⊢
  refine hd_one 20 (by kernel_rfl) rfl (by kernel_rfl) rfl (fun K' hK => ?_)
  go_simp
  have k1 := gr0.alloc (.cells #[.int .i64 g.id, .int .i64 ((g.log.length : Int) + 1), .int .i64 now, .int .i64 serial, .int .i64 kind, .string ⟨owner.toArray⟩] 58)
  have hone : (wd.alloc (.cells #[.int .i64 g.id, .int .i64 ((g.log.length : Int) + 1), .int .i64 now, .int .i64 serial, .int .i64 kind, .string ⟨owner.toArray⟩] 58)).heap[wd.heap.size]? = some (.cells #[.int .i64 g.id, .int .i64 ((g.log.length : Int) + 1), .int .i64 now, .int .i64 serial, .int .i64 kind, .string ⟨owner.toArray⟩] 58 (0, 0)) := heap_new rfl
  obtain ⟨e5, ee5⟩ : ∃ b, b = wd.heap.size := ⟨_, rfl⟩
  rw [← ee5] at hone ⊢
  generalize wd.alloc (.cells #[.int .i64 g.id, .int .i64 ((g.log.length : Int) + 1), .int .i64 now, .int .i64 serial, .int .i64 kind, .string ⟨owner.toArray⟩] 58) = yc at k1 hone ⊢
  clear ee5
  have hS8 : yc.cell? ⟨gp, 0, none⟩ = some (.int .i64 g.id) ∧ yc.cell? ⟨gp, 10, none⟩ = some (.slice la g.log.length lc) := ⟨k1.cell c0 (by simp), k1.cell c10 (by simp)⟩
  refine hK.out _ _ (fun _ => hS8) ?_
  clear hK K'
  try simp only [Act.put, List.setIfInBounds_toArray, List.set_cons_zero, List.set_cons_succ]
  have ko := (HM.out.o.fr (HX1.out.trans (k1.mono (Y := [gp]) (by simp)) (by simp)) (fun k hk hm => (HM.out.apart.2 k hk).1 (List.mem_singleton.1 hm)))
  refine hd_one 21 (by kernel_rfl) rfl (by kernel_rfl) rfl (fun K' hK => ?_)
  refine wp_appC (.tmp 18) (.tmp 34) rfl B (.slice la g.log.length lc) _ g.log [(⟨g.id, (g.log.length : Int) + 1, now, serial, kind, owner⟩ : Scn)] { yc with heap := #[] } (by kernel_rfl) (by kernel_rfl) (scs_one hone) ko (fr_bare yc) (by simp) (Nat.le_trans HM.out.b.1 (Nat.le_of_lt (lt_of_block (k1.at HP1.out (by simp))))) (by simp; omega) ?_
  intro v' w7 ho7 _ hg7 hloc
  obtain ⟨va, vc, hv7, _, _, _⟩ := ho7.scs.form
  rw [List.length_append, List.length_singleton] at hv7
  subst hv7
  have hgl : gp ∉ (Value.slice la g.log.length lc).ownBlock.toList := fun hm => (HM.out.apart.2 gp (Option.mem_toList.1 hm)).1 rfl
  have hp7 := hg7.at (k1.at HP1.out (by simp)) hgl
  have hS7 : w7.cell? ⟨gp, 0, none⟩ = some (.int .i64 g.id) ∧ w7.cell? ⟨gp, 10, none⟩ = some (.slice la g.log.length lc) := ⟨by rw [row_cell hp7]; rfl, by rw [row_cell hp7]; rfl⟩
  refine hK.out _ _ (fun _ => hS7) ?_
  clear hK K'
  try simp only [Act.put, List.setIfInBounds_toArray, List.set_cons_zero, List.set_cons_succ]
  refine hd_one 22 (by kernel_rfl) rfl (by kernel_rfl) rfl (fun K' hK => ?_)
  go_simp
  refine hK.out _ _ (fun _ => hS7) ?_
  clear hK K'
  try simp only [Act.put, List.setIfInBounds_toArray, List.set_cons_zero, List.set_cons_succ]
  refine hd_take 23 (v := .pointer (some ⟨gp, 10, none⟩)) rfl (by kernel_rfl) (by kernel_rfl) (by kernel_rfl) rfl hS7 (fun W' hS => by go_simp) rfl ?_
  try simp only [Act.put, List.setIfInBounds_toArray, List.set_cons_zero, List.set_cons_succ]
  have r10 := row_cell hp7 10
  unfold gateC at r10
  simp at r10
  have y10 := row_free hp7 10
  refine hd_one 24 (by kernel_rfl) rfl (by kernel_rfl) rfl (fun K' hK => ?_)
  go_simp
  refine hK.out _ _ (fun h => absurd rfl h) ?_
  clear hK K'
  refine held_done (by kernel_rfl) ?_
  have hp8 : (w7.setCell ⟨gp, 10, none⟩ (.slice va (g.log.length + 1) vc)).heap[gp]? = some (.cells (gateC (putG g kind serial owner now) fw mp (.slice va (g.log.length + 1) vc)) 69 (0, 0)) := row_set hp7 10 _
  have hX8 : Fr (gp :: (Value.slice la g.log.length lc).ownBlock.toList) w (w7.setCell ⟨gp, 10, none⟩ (.slice va (g.log.length + 1) vc)) := by
    have h1 : Fr [gp] w yc := HX1.out.trans k1 (by simp)
    have h2 := (h1.mono (Y := gp :: (Value.slice la g.log.length lc).ownBlock.toList) (fun x hx => Or.inl (by rw [List.mem_singleton.1 hx]; simp))).trans hg7 (fun y hy => Or.inl (List.mem_cons_of_mem _ hy))
    exact h2.setCell _ _ (Or.inl (by simp))
  have hys : w.heap.size ≤ yc.heap.size := (HX1.out.trans k1 (by simp)).size
  have hres : GateM B (w7.setCell ⟨gp, 10, none⟩ (.slice va (g.log.length + 1) vc)) gp (putG g kind serial owner now) f n mp fw (.slice va (g.log.length + 1) vc) (gp :: mp :: ((Value.slice va (g.log.length + 1) vc).ownBlock.toList ++ fw.ownBlock.toList)) := by
    have hap := HM.out.apart
    refine ⟨hp8, ?_, ?_, ?_, fun k hk => ?_, rfl, HM.out.b, HM.out.i.put hn hg hl kind serial owner⟩
    · refine HM.out.w.frX hX8 (fun k hk hm => ?_)
      obtain ⟨_, _, d3, _, d5⟩ := HM.out.d k hk
      rcases List.mem_cons.1 hm with h1 | h1
      · exact d3 h1
      · exact d5 (Option.mem_toList.1 h1)
    · refine HM.out.m.fr hX8 (fun hm => ?_)
      rcases List.mem_cons.1 hm with h1 | h1
      · exact hap.1 h1
      · exact (hap.2 mp (Option.mem_toList.1 h1)).2 rfl
    · refine ho7.fr ((Fr.refl [gp] w7).setCell ⟨gp, 10, none⟩ (.slice va (g.log.length + 1) vc) (by simp)) (fun k hk hm => ?_)
      rw [List.mem_singleton.1 hm] at hk
      exact row_ne hp7 (by decide) ho7 hk.symm
    · obtain ⟨d1, d2, d3, d4, d5⟩ := HM.out.d k hk
      refine ⟨d1, Nat.lt_of_lt_of_le d2 hX8.size, d3, d4, fun hm => ?_⟩
      rcases hloc k hm with h1 | h1
      · exact d5 h1
      · omega
  have HRES := Lib.hid hres
  have HXX := Lib.hid hX8
  have HLOC := Lib.hid hloc
  clear hres hX8 hp8 hp7 ho7 hg7 hloc r10 y10 c0 c10 k1 hone ko hS7 hS8 gr0 hSr0 hgl
  generalize w7.setCell ⟨gp, 10, none⟩ (.slice va (g.log.length + 1) vc) = w8 at HRES HXX ⊢
  go_wp2_with fail
  go_end0
  refine ⟨rfl, _, _, HRES.out, ?_, ?_⟩
  · refine HXX.out.mono (fun x hx => Or.inl ?_)
    rcases List.mem_cons.1 hx with h1 | h1
    · rw [h1]; exact HM.out.mem.1
    · exact HM.out.mem.2.2.1 x (Option.mem_toList.1 h1)
  · intro k hk
    have hmem := HM.out.mem
    simp only [List.mem_cons, List.mem_append, Option.mem_toList] at hk
    rcases hk with rfl | rfl | hk | hk
    · exact Or.inl hmem.1
    · exact Or.inl hmem.2.1
    · rcases HLOC.out k hk with h1 | h1
      · exact Or.inl (hmem.2.2.1 k h1)
      · exact Or.inr (Nat.le_trans hys h1)
    · exact Or.inl (hmem.2.2.2.1 k hk)
end Go.Proofs.YtglgkdbhdjkeaaaGreatDoor
namespace Go.Proofs.YtglgkdbhdjkeaaaGreatDoor
open Go.RowKit

/-- A slice of functions, each with its answer. -/
def Fns (w : World) (v : Value) (l : List (Value × Bool)) : Prop := ∃ b off cap, v = .slice (some ⟨b, off, none⟩) l.length cap ∧ l.length ≤ cap ∧ cap ≤ 9223372036854775807 ∧ ∀ (i : Nat) (x : Value × Bool), l[i]? = some x → w.cell? ⟨b, off + i, none⟩ = some x.1
theorem Fns.fr {w w' : World} {v : Value} {l : List (Value × Bool)} (h : Fns w v l) (hf : Fr [] w w') : Fns w' v l := by
  obtain ⟨b, off, cap, hv, h1, h2, h3⟩ := h
  exact ⟨b, off, cap, hv, h1, h2, fun i x hx => hf.cell (h3 i x hx) (by simp)⟩
set_option maxRecDepth 100000 in
set_option maxHeartbeats 1000000 in
theorem indexF_any (v : Value) (l : List (Value × Bool)) (lf : Nat) (lc : Array Value) (w : World) (hv : Fns w v l) (hl : l.length ≤ 1000)
    (he : ∀ args w, (callFunc lf args).run Tryz.prog w = .ok (.enter lf args) w)
    (hcall : ∀ (p : Value × Bool) (W : World), p ∈ l → Fr [] w W → Calls Tryz.prog lf (#[p.1] ++ lc) W fun e W' => e = .returned (.bool p.2) ∧ Below W.heap.size W W') :
    Calls Tryz.prog 81 #[v, .func (.func lf) #[] lc] w fun e w' => ∃ k : Int, e = .returned (.int .i64 k) ∧ decide (0 ≤ k) = l.any Prod.snd ∧ Below w.heap.size w w' := by
  have HV := Lib.hid hv
  obtain ⟨b, off, cap, rfl, hlc, hcap, _⟩ := hv
  have HCALL := Lib.hid hcall
  clear hcall
  go_enter Tryz.func81, Tryz.ntmps81
  go_wp2_with fail
  go_loopg [8] (l.length + 1) (fun g i wr => ∃ k : Nat, k ≤ l.length ∧ g = l.length + 1 - k ∧ i = .int .i64 (k : Int) ∧ (l.take k).any Prod.snd = false ∧ Fr [] w wr)
  case atStart => exact ⟨0, by omega, by omega, rfl, by simp, Fr.refl _ _⟩
  case round =>
    obtain ⟨k, hk, hg, rfl, hany, hfr⟩ := hrel
    have HG := Lib.hid hg
    have HANY := Lib.hid hany
    clear hg hany
    by_cases hlt : k < l.length
    · have t1 : decide ((k : Int) < (l.length : Int)) = true := by simp; omega
      obtain ⟨p, hp⟩ : ∃ p, l[k]? = some p := ⟨l[k], List.getElem?_eq_getElem hlt⟩
      have c0 : wr.cell? ⟨b, off + k, none⟩ = some p.1 := by
        obtain ⟨b', off', cap', hv', _, _, h3⟩ := HV.out.fr hfr
        cases hv'
        exact h3 k p hp
      have HM := Lib.hid (List.mem_of_getElem? hp)
      have HP := Lib.hid hp
      have HC := Lib.hid (HCALL.out p wr HM.out hfr)
      have i0 : (0 : Int) ≤ (k : Int) := by omega
      have i1 : (k : Int) < (l.length : Int) := by omega
      obtain ⟨p1, p2⟩ := p
      simp only at c0 HC
      clear hp
      go_wp2_with fail
      refine HC.out.mono ?_
      rintro e w1 ⟨rfl, hb1⟩
      have hf1 : Fr [] w w1 := hfr.below hb1 hfr.size
      have HS : Hid ((l.take (k + 1)).any Prod.snd = ((l.take k).any Prod.snd || p2)) := Lib.hid (by
        rw [List.take_add_one, HP.out, List.any_append]; simp)
      cases p2 with
      | true =>
        have HR : Hid (l.any Prod.snd = true) := Lib.hid (List.any_eq_true.2 ⟨(p1, true), HM.out, rfl⟩)
        go_wp2_with fail
        go_ret
        exact ⟨k, rfl, by rw [HR.out]; simp, hf1.toBelow (by simp)⟩
      | false =>
        go_wp2_with fail
        go_roundg (l.length + 1 - (k + 1))
        case measure => have := HG.out; omega
        case rel => exact ⟨k + 1, by omega, rfl, by go_num, by rw [HS.out, HANY.out]; rfl, hf1⟩
    · obtain rfl : k = l.length := by omega
      have t1 : decide ((l.length : Int) < (l.length : Int)) = false := by simp
      have HR : Hid (l.any Prod.snd = false) := Lib.hid (by have := HANY.out; rwa [List.take_length] at this)
      go_wp2_with fail
      go_ret
      exact ⟨-1, rfl, by rw [HR.out]; rfl, hfr.toBelow (by simp)⟩
set_option maxRecDepth 100000 in
theorem containsF_any (v : Value) (l : List (Value × Bool)) (lf : Nat) (lc : Array Value) (w : World) (hv : Fns w v l) (hl : l.length ≤ 1000)
    (he : ∀ args w, (callFunc lf args).run Tryz.prog w = .ok (.enter lf args) w)
    (hcall : ∀ (p : Value × Bool) (W : World), p ∈ l → Fr [] w W → Calls Tryz.prog lf (#[p.1] ++ lc) W fun e W' => e = .returned (.bool p.2) ∧ Below W.heap.size W W') :
    Calls Tryz.prog 53 #[v, .func (.func lf) #[] lc] w fun e w' => e = .returned (.bool (l.any Prod.snd)) ∧ Below w.heap.size w w' := by
  go_enter Tryz.func53, Tryz.ntmps53
  go_wp2_with fail
  refine (indexF_any v l lf lc w hv hl he hcall).mono ?_
  rintro e w1 ⟨k, rfl, hk, hb1⟩
  go_wp2_with fail
  go_ret
  exact ⟨by rw [← hk]; rfl, hb1⟩

set_option maxRecDepth 100000 in
theorem scan5_any (id : Nat) (caps : Array Value) (b : Bool) (w : World) (he : ∀ args w, (callFunc id args).run Tryz.prog w = .ok (.enter id args) w)
    (h : Calls Tryz.prog id caps w fun e w' => e = .returned (.bool b) ∧ Below w.heap.size w w') :
    Calls Tryz.prog 54 #[.func (.func id) #[] caps] w fun e w' => e = .returned (.bool b) ∧ Below w.heap.size w w' := by
  have H := Lib.hid h
  clear h
  go_enter Tryz.func54, Tryz.ntmps54
  go_wp2_with fail
  refine H.out.mono ?_
  rintro e w1 ⟨rfl, hb⟩
  go_wp2_with fail
  go_ret
  exact ⟨rfl, hb⟩
set_option maxRecDepth 100000 in
theorem scan1_any (ib : Nat) (b : Bool) (w : World) (h : w.cell? ⟨ib, 0, none⟩ = some (.bool b)) :
    Calls Tryz.prog 49 #[.pointer (some ⟨ib, 0, none⟩)] w fun e w' => e = .returned (.bool b) ∧ Below w.heap.size w w' := by
  go_enter Tryz.func49, Tryz.ntmps49
  go_wp2_with fail
  go_ret
  exact ⟨rfl, Below.refl _ _⟩
set_option maxRecDepth 100000 in
set_option maxHeartbeats 1000000 in
theorem scan2_any (tb rb gp : Nat) (x y : Int) (w : World) (h1 : w.cell? ⟨tb, 1, none⟩ = some (.int .i64 x)) (h2 : w.cell? ⟨rb, 0, none⟩ = some (gateP gp)) (h3 : w.cell? ⟨gp, 1, none⟩ = some (.int .i64 y)) :
    Calls Tryz.prog 50 #[.pointer (some ⟨tb, 0, none⟩), .pointer (some ⟨rb, 0, none⟩)] w fun e w' => e = .returned (.bool (x != y)) ∧ Below w.heap.size w w' := by
  have hmx : Tryz.prog.follows .mixedOrders = true := by kernel_rfl
  unfold gateP at h2
  go_enter Tryz.func50, Tryz.ntmps50
  go_wp2_with fail
  go_quiet (fail)
  go_wp2_with fail
  go_ret
  exact ⟨rfl, ((Fr.refl [] w).drewN _).toBelow (by simp)⟩
set_option maxRecDepth 100000 in
set_option maxHeartbeats 1000000 in
theorem scan3_any (tb rb gp : Nat) (x : Int) (g : Flt) (fw : Value) (w : World) (h1 : w.cell? ⟨tb, 0, none⟩ = some (.int .i64 x)) (h2 : w.cell? ⟨rb, 0, none⟩ = some (gateP gp))
    (c6 : w.cell? ⟨gp, 6, none⟩ = some (.int .i64 g.bits)) (c7 : w.cell? ⟨gp, 7, none⟩ = some (.int .i64 g.hashes)) (c8 : w.cell? ⟨gp, 8, none⟩ = some fw) (hw : Ws w fw g.words) (hW : W64 g.words) (hx : -9223372036854775808 ≤ x ∧ x ≤ 9223372036854775807) (hT : Tabs w) :
    Calls Tryz.prog 51 #[.pointer (some ⟨rb, 0, none⟩), .pointer (some ⟨tb, 0, none⟩)] w fun e w' => e = .returned (.bool (hasF g x)) ∧ Below w.heap.size w w' := by
  have hmx : Tryz.prog.follows .mixedOrders = true := by kernel_rfl
  unfold gateP at h2
  obtain ⟨wa, wc, rfl, _, _, _⟩ := hw.form
  have HW := Lib.hid hw
  clear hw
  go_enter Tryz.func51, Tryz.ntmps51
  go_wp2_with fail
  have gr0 : Fr [] w w.drew := (Fr.refl [] w).drew
  have hSr0 : w.drew.cell? ⟨rb, 0, none⟩ = some (.pointer (some ⟨gp, 0, none⟩)) ∧ w.drew.cell? ⟨gp, 6, none⟩ = some (.int .i64 g.bits) ∧ w.drew.cell? ⟨gp, 7, none⟩ = some (.int .i64 g.hashes) ∧ w.drew.cell? ⟨gp, 8, none⟩ = some (.slice wa g.words.length wc) ∧ w.drew.cell? ⟨tb, 0, none⟩ = some (.int .i64 x) := ⟨gr0.cell h2 (by simp), gr0.cell c6 (by simp), gr0.cell c7 (by simp), gr0.cell c8 (by simp), gr0.cell h1 (by simp)⟩
  refine region_held 100 (fun W' => W'.cell? ⟨rb, 0, none⟩ = some (.pointer (some ⟨gp, 0, none⟩)) ∧ W'.cell? ⟨gp, 6, none⟩ = some (.int .i64 g.bits) ∧ W'.cell? ⟨gp, 7, none⟩ = some (.int .i64 g.hashes) ∧ W'.cell? ⟨gp, 8, none⟩ = some (.slice wa g.words.length wc) ∧ W'.cell? ⟨tb, 0, none⟩ = some (.int .i64 x)) hmx ?_
  change Held _ _ _ _ _ _ 8 (Array.replicate 8 false) _ _
  refine hd_take 0 (v := .pointer (some ⟨gp, 0, none⟩)) rfl (by kernel_rfl) (by kernel_rfl) (by kernel_rfl) rfl hSr0 (fun W' hS => by obtain ⟨s0, s1, s2, s3, s4⟩ := hS; go_simp) rfl ?_
  refine hd_take 4 (v := .pointer (some ⟨tb, 0, none⟩)) rfl (by kernel_rfl) (by kernel_rfl) (by kernel_rfl) rfl hSr0 (fun W' hS => by go_simp) rfl ?_
  try simp only [Act.put, List.setIfInBounds_toArray, List.set_cons_zero, List.set_cons_succ]
  refine hd_take 1 (v := .pointer (some ⟨gp, 0, none⟩)) rfl (by kernel_rfl) (by kernel_rfl) (by kernel_rfl) rfl hSr0 (fun W' hS => by go_simp) rfl ?_
  refine hd_take 5 (v := .int .i64 x) rfl (by kernel_rfl) (by kernel_rfl) (by kernel_rfl) rfl hSr0 (fun W' hS => by obtain ⟨s0, s1, s2, s3, s4⟩ := hS; go_simp) rfl ?_
  try simp only [Act.put, List.setIfInBounds_toArray, List.set_cons_zero, List.set_cons_succ]
  refine hd_take 2 (v := .pointer (some ⟨gp, 6, none⟩)) rfl (by kernel_rfl) (by kernel_rfl) (by kernel_rfl) rfl hSr0 (fun W' hS => by go_simp) rfl ?_
  try simp only [Act.put, List.setIfInBounds_toArray, List.set_cons_zero, List.set_cons_succ]
  refine hd_take 3 (v := .agg #[.int .i64 g.bits, .int .i64 g.hashes, .slice wa g.words.length wc]) rfl (by kernel_rfl) (by kernel_rfl) (by kernel_rfl) rfl hSr0 (fun W' hS => by obtain ⟨s0, s1, s2, s3, s4⟩ := hS; go_simp) rfl ?_
  try simp only [Act.put, List.setIfInBounds_toArray, List.set_cons_zero, List.set_cons_succ]
  refine hd_one 6 (by kernel_rfl) rfl (by kernel_rfl) rfl (fun K' hK => ?_)
  go_simp
  refine (has_any _ g x w.drew ⟨_, rfl, HW.out.fr0 gr0⟩ hW hx (hT.fr gr0)).mono ?_
  rintro e yr1 ⟨rfl, hbb⟩
  have gr1 : Fr [] w yr1 := gr0.below hbb gr0.size
  clear hbb
  have hSr1 : yr1.cell? ⟨rb, 0, none⟩ = some (.pointer (some ⟨gp, 0, none⟩)) ∧ yr1.cell? ⟨gp, 6, none⟩ = some (.int .i64 g.bits) ∧ yr1.cell? ⟨gp, 7, none⟩ = some (.int .i64 g.hashes) ∧ yr1.cell? ⟨gp, 8, none⟩ = some (.slice wa g.words.length wc) ∧ yr1.cell? ⟨tb, 0, none⟩ = some (.int .i64 x) := ⟨gr1.cell h2 (by simp), gr1.cell c6 (by simp), gr1.cell c7 (by simp), gr1.cell c8 (by simp), gr1.cell h1 (by simp)⟩
  refine hK.out _ _ (fun _ => hSr1) ?_
  clear hK K'
  try simp only [Act.put, List.setIfInBounds_toArray, List.set_cons_zero, List.set_cons_succ]
  refine hd_take 7 (v := .bool (hasF g x)) rfl (by kernel_rfl) (by kernel_rfl) (by kernel_rfl) rfl hSr1 (fun W' hS => by go_simp) rfl ?_
  try simp only [Act.put, List.setIfInBounds_toArray, List.set_cons_zero, List.set_cons_succ]
  refine held_done (by kernel_rfl) ?_
  have fe := gr1
  go_wp2_with fail
  go_ret
  exact ⟨rfl, fe.toBelow (by simp)⟩
set_option maxRecDepth 100000 in
theorem scan4_any (tb : Nat) (t : Ttl) (cv : Value) (w : World) (h : w.heap[tb]? = some (.cells #[.int .i64 t.serial, .int .i64 t.shw, .int .i64 t.place, .string ⟨t.first.toArray⟩, cv] 34 (0, 0))) (hc : Trs w cv t.chain) (hS : TSmall t) (hT : Tabs w) :
    Calls Tryz.prog 52 #[.pointer (some ⟨tb, 0, none⟩)] w fun e w' => e = .returned (.bool (!validT t)) ∧ Below w.heap.size w w' := by
  have c0 := row_cell h 0
  have c1 := row_cell h 1
  have c2 := row_cell h 2
  have c3 := row_cell h 3
  have c4 := row_cell h 4
  simp at c0 c1 c2 c3 c4
  obtain ⟨a, cap, rfl, _, _, _⟩ := hc.form
  have HV := Lib.hid (valid30_any (.agg #[.int .i64 t.serial, .int .i64 t.shw, .int .i64 t.place, .string ⟨t.first.toArray⟩, .slice a t.chain.length cap]) t w ⟨_, rfl, hc⟩ hS hT)
  clear hc hS hT h
  go_enter Tryz.func52, Tryz.ntmps52
  go_wp2_with fail
  refine HV.out.mono ?_
  rintro e w1 ⟨rfl, hb⟩
  go_wp2_with fail
  go_ret
  exact ⟨rfl, hb⟩
end Go.Proofs.YtglgkdbhdjkeaaaGreatDoor
namespace Go.Proofs.YtglgkdbhdjkeaaaGreatDoor
open Go.RowKit Go.WideMaps Go.Maps

theorem wp_putG {o : Oper} {a : Act} {K : Act → World → Prop} {Q : Exit → Act → World → Prop} {w : World} (m x v : Operand) (hop : o.op = Op.mapUpdate 56 m x v)
    (b n : Nat) (f : Int → Option (List UInt8)) (hm : a.eval m = .map (some b)) (h : MapG w b n f) (hn : n < 1000000) (s : Int) (y : List UInt8) (hx : a.eval x = .int .i64 s) (hv : a.eval v = .string ⟨y.toArray⟩) (hs : isI s) (hy : y.length ≤ 9223372036854775807)
    (hK : ∀ w', MapG w' b (n + 1) (putM f s y) → Fr [b] w w' → K (a.put o.dst undef) w') :
    o.wp Tryz.prog a w K Q := by
  obtain ⟨D, hown, hat⟩ := h
  obtain ⟨w', hrun, h', hgrow⟩ := hown.update law_intG Tryz.underlying56 (show n < maxLen by unfold maxLen; omega) (key_intG hs) (plainElem_string Tryz.underlying9 (show (⟨y.toArray⟩ : ByteArray).size ≤ maxLen by unfold maxLen; simp [ByteArray.size]; omega))
  have hk := hK w' (put_view hown.isMap hat s y (by simpa using h')) ((Fr.refl [b] w).grown hgrow (fun r e => Or.inl (by cases e; simp)))
  unfold Oper.wp
  simp [execOp, hop, hm, hx, hv, hrun, Result.andThen]
  exact hk
theorem GateM.congr {B : Nat} {w : World} {gp : Nat} {g : Gst} {f f' : Int → Option (List UInt8)} {n mp : Nat} {fw lv : Value} {F : List Nat} (h : GateM B w gp g f n mp fw lv F) (e : ∀ k, isI k → f k = f' k) : GateM B w gp g f' n mp fw lv F :=
  ⟨h.p, h.w, h.m.congr e, h.o, h.d, h.f, h.b, h.i⟩
/-- The map of a gate is changed. -/
theorem GateM.mapped {B : Nat} {w w' : World} {gp : Nat} {g : Gst} {f f' : Int → Option (List UInt8)} {n n' mp : Nat} {fw lv : Value} {F : List Nat} (h : GateM B w gp g f n mp fw lv F) (hm : MapG w' mp n' f') (hf : Fr [mp] w w') : GateM B w' gp g f' n' mp fw lv F := by
  have hap := h.apart
  refine ⟨hf.at h.p (by simpa using Ne.symm hap.1), h.w.frX hf (fun k hk hx => ?_), hm, h.o.fr hf (fun k hk hx => ?_), fun k hk => ?_, h.f, h.b, h.i⟩
  · exact (h.d k hk).2.2.2.1 (List.mem_singleton.1 hx)
  · exact (hap.2 k hk).2 (List.mem_singleton.1 hx)
  · obtain ⟨d1, d2, d3⟩ := h.d k hk
    exact ⟨d1, Nat.lt_of_lt_of_le d2 hf.size, d3⟩
theorem ins_in (log : List Scn) (g : Int) (m t s : Int) (o : List UInt8) : ∀ k, putM (insR log) s o k = insR (log ++ [⟨g, m, t, s, 1, o⟩]) k := by
  intro k
  rw [insR_snoc]
  unfold putM insS
  by_cases h : k = s
  · rw [if_pos h, if_pos h.symm, if_pos rfl]
  · rw [if_neg h, if_neg (fun e => h e.symm)]
theorem ins_ref (log : List Scn) (g : Int) (m t s : Int) (o : List UInt8) : ∀ k, insR log k = insR (log ++ [⟨g, m, t, s, 3, o⟩]) k := by
  intro k
  rw [insR_snoc]
  unfold insS
  simp
theorem ins_out (log : List Scn) (g : Int) (m t s : Int) (o : List UInt8) : ∀ k, delM (insR log) s k = insR (log ++ [⟨g, m, t, s, 2, o⟩]) k := by
  intro k
  rw [insR_snoc]
  unfold delM insS
  by_cases h : k = s
  · rw [if_pos h, if_pos h.symm]; simp
  · rw [if_neg h, if_neg (fun e => h e.symm)]
theorem adm_any (g : Gst) (t : Ttl) : ((insR g.log t.serial).isSome || ((t.shw != g.shw) || (hasF g.flt t.serial || (!validT t || false)))) = !admG g t := by
  unfold admG
  have h1 : (t.shw != g.shw) = !decide (t.shw = g.shw) := by
    by_cases h : t.shw = g.shw <;> simp [h]
  rw [h1]
  cases insR g.log t.serial <;> cases decide (t.shw = g.shw) <;> cases hasF g.flt t.serial <;> cases validT t <;> rfl
theorem cell_map {w : World} {b o : Nat} {es : Array MapEntry} {clock : Nat} {v : Value} (hb : w.heap[b]? = some (.map es clock)) (h : w.cell? ⟨b, o, none⟩ = some v) : False := by
  simp [World.cell?, hb] at h
theorem StrsW.map {w w' : World} {v : Value} {l : List (List UInt8)} {b : Nat} {es : Array MapEntry} {clock : Nat} (h : StrsW w v l) (hb : w.heap[b]? = some (.map es clock)) (hf : Fr [b] w w') : StrsW w' v l := by
  rcases h with (⟨h1, h2⟩ | ⟨b', off, cap, rfl, h1, h2, h3, h4⟩) | h
  · exact Or.inl (Or.inl ⟨h1, h2⟩)
  · refine Or.inl (Or.inr ⟨b', off, cap, rfl, h1, h2, Nat.lt_of_lt_of_le h3 hf.size, fun i hi => hf.cell (h4 i hi) ?_⟩)
    intro hx
    have := List.mem_singleton.1 hx
    simp only at this
    subst this
    exact cell_map hb (h4 i hi)
  · exact Or.inr h
theorem Trs.map {w w' : World} {v : Value} {l : List Trf} {b : Nat} {es : Array MapEntry} {clock : Nat} (h : Trs w v l) (hb : w.heap[b]? = some (.map es clock)) (hf : Fr [b] w w') : Trs w' v l := by
  rcases h with h | ⟨g, off, cap, hv, h4, h5, h6, h7⟩
  · exact Or.inl h
  refine Or.inr ⟨g, off, cap, hv, h4, h5, Nat.lt_of_lt_of_le h6 hf.size, fun i x hx => ?_⟩
  obtain ⟨e0, u, e1, hu⟩ := h7 i x hx
  have hgb : g ≠ b := by
    rintro rfl
    exact cell_map hb e0
  exact ⟨hf.cell e0 (by simpa using hgb), u, hf.cell e1 (by simpa using hgb), hu.map hb hf⟩
theorem MapG.heap {w : World} {b n : Nat} {f : Int → Option (List UInt8)} (h : MapG w b n f) : ∃ es clock, w.heap[b]? = some (.map es clock) := by
  obtain ⟨D, ⟨es, clock, hb, _⟩, _⟩ := h
  exact ⟨es, clock, hb⟩
set_option maxRecDepth 100000 in
set_option maxHeartbeats 8000000 in
theorem gscan_any (B gp : Nat) (g : Gst) (F : List Nat) (v : Value) (t : Ttl) (now : Int) (w : World) (h : GateR B w gp g F) (ht : TtlR w v t) (hS : TSmall t) (hT : Tabs w) :
    Calls Tryz.prog 24 #[gateP gp, v, .int .i64 now] w fun e w' => e = .returned (.tuple #[.int .i64 (scanG g t now).2.1, .int .i64 (scanG g t now).2.2]) ∧ GateQ B w gp (scanG g t now).1 F w' := by
  have hmx : Tryz.prog.follows .mixedOrders = true := by kernel_rfl
  have HQ0 := Lib.hid (GateQ.same h)
  obtain ⟨n, mp, fw, lv, hnl, hm⟩ := h
  have HNL := Lib.hid hnl
  obtain ⟨la, lc, hlv, hlc, hlm, _⟩ := hm.o.scs.form
  subst hlv
  obtain ⟨wa, wc, hfw, _, _, _⟩ := hm.w.form
  subst hfw
  obtain ⟨tv, rfl, htr⟩ := ht
  obtain ⟨ta, tc, rfl, _, _, _⟩ := htr.form
  have HT := Lib.hid hT
  have HS := Lib.hid hS
  clear hT hS hnl
  obtain ⟨W0, hW0⟩ : ∃ W0, W0 = (w.alloc (.cells #[.pointer (some ⟨gp, 0, none⟩)] 25)).alloc (.cells #[.int .i64 t.serial, .int .i64 t.shw, .int .i64 t.place, .string ⟨t.first.toArray⟩, .slice ta t.chain.length tc] 34) := ⟨_, rfl⟩
  obtain ⟨rb, erb⟩ : ∃ q, q = w.heap.size := ⟨_, rfl⟩
  obtain ⟨tb, etb⟩ : ∃ q, q = w.heap.size + 1 := ⟨_, rfl⟩
  have f0 : Fr [] w W0 := by rw [hW0]; exact ((Fr.refl [] w).alloc _).alloc _
  have hrb : W0.heap[rb]? = some (.cells #[.pointer (some ⟨gp, 0, none⟩)] 25 (0, 0)) := by rw [hW0, erb]; exact heap_past _ (heap_new rfl)
  have htb : W0.heap[tb]? = some (.cells #[.int .i64 t.serial, .int .i64 t.shw, .int .i64 t.place, .string ⟨t.first.toArray⟩, .slice ta t.chain.length tc] 34 (0, 0)) := by rw [hW0]; exact heap_new (by rw [etb]; simp)
  have HMP := Lib.hid (hm.m.lt)
  have HFB : Hid (∀ k ∈ F, k < w.heap.size) := Lib.hid (fun k hk => (hm.mem.2.2.2.2 k hk).2)
  have HM := Lib.hid (hm.fr f0 (by simp))
  have HTR := Lib.hid (htr.fr f0)
  clear hm htr
  have r0 := row_cell hrb 0
  simp at r0
  rw [hW0, erb] at r0
  unfold gateP
  go_enter Tryz.func24, Tryz.ntmps24
  go_wp2_with fail
  rw [← hW0, ← etb, ← erb]
  have HGE := Lib.hid (show w.heap.size ≤ rb ∧ w.heap.size ≤ tb by omega)
  clear hW0 etb erb r0
  have HRB := Lib.hid hrb
  have HTB := Lib.hid htb
  have HF := Lib.hid f0
  clear hrb htb f0
  refine (come_any gp g _ _ mp now W0 HM.out.p).mono ?_
  rintro e wz ⟨rfl, rfl⟩
  obtain ⟨ce, ece⟩ : ∃ q, q = comeG g now := ⟨_, rfl⟩
  rw [← ece]
  have HCE := Lib.hid ece
  clear ece
  have hq0 : ∀ W : World, Fr [] w W → Hid (GateQ B w gp g F W) := fun W hW => by
    obtain ⟨F0, h1, h2, h3⟩ := HQ0.out
    exact ⟨F0, h1.fr hW (by simp), h2.trans hW (by simp), h3⟩
  have HQW := Lib.hid hq0
  clear hq0
  by_cases hce : ce = 0
  case neg =>
    have u1 : (ce != 0) = true := by rw [bne_iff_ne]; exact hce
    have HR : Hid (scanG g t now = (g, 0, ce)) := Lib.hid (by unfold scanG; rw [← HCE.out, if_pos hce])
    clear hce
    go_wp2_with fail
    go_ret2
    rw [HR.out]
    exact ⟨rfl, HQW.out _ HF.out⟩
  have u1 : (ce != 0) = false := by rw [hce]; rfl
  have HC0 : Hid (comeG g now = 0) := Lib.hid (by rw [← HCE.out, hce])
  have hnow := come_zero HC0.out
  have hst := HM.out.i.st
  have hsy := HM.out.i.sy
  have hgn := HM.out.i.n
  clear hce
  have r0 := row_cell HRB.out 0
  simp at r0
  have g2 := row_cell HM.out.p 2
  have g4 := row_cell HM.out.p 4
  have g5 := row_cell HM.out.p 5
  have g10 := row_cell HM.out.p 10
  unfold gateC at g2 g4 g5 g10
  simp at g2 g4 g5 g10
  by_cases hs0 : g.syn < 0
  case pos =>
    have hsb : synB g = false := by unfold synB; simp; omega
    rw [hsb] at g4
    have HR : Hid (scanG g t now = (g, 0, 26)) := Lib.hid (by unfold scanG; rw [if_neg (by rw [HC0.out]; simp), if_pos (Or.inl hs0)])
    clear hs0 hsb
    go_wp2_with fail
    have ga0 : Fr [] W0 W0.drew := (Fr.refl [] W0).drew
    have hSa0 : W0.drew.cell? ⟨rb, 0, none⟩ = some (.pointer (some ⟨gp, 0, none⟩)) ∧ W0.drew.cell? ⟨gp, 2, none⟩ = some (.int .i64 g.stale) ∧ W0.drew.cell? ⟨gp, 4, none⟩ = some (.bool false) ∧ W0.drew.cell? ⟨gp, 5, none⟩ = some (.int .i64 (sinG g)) := ⟨ga0.cell r0 (by simp), ga0.cell g2 (by simp), ga0.cell g4 (by simp), ga0.cell g5 (by simp)⟩
    refine region_held 100 (fun W' => W'.cell? ⟨rb, 0, none⟩ = some (.pointer (some ⟨gp, 0, none⟩)) ∧ W'.cell? ⟨gp, 2, none⟩ = some (.int .i64 g.stale) ∧ W'.cell? ⟨gp, 4, none⟩ = some (.bool false) ∧ W'.cell? ⟨gp, 5, none⟩ = some (.int .i64 (sinG g))) hmx ?_
    change Held _ _ _ _ _ _ 19 (Array.replicate 19 false) _ _
    refine hd_take 0 (v := .pointer (some ⟨gp, 0, none⟩)) rfl (by kernel_rfl) (by kernel_rfl) (by kernel_rfl) rfl hSa0 (fun W' hS => by obtain ⟨s0, s1, s2, s3⟩ := hS; go_simp) rfl ?_
    try simp only [Act.put, List.setIfInBounds_toArray, List.set_cons_zero, List.set_cons_succ]
    refine hd_take 1 (v := .pointer (some ⟨gp, 0, none⟩)) rfl (by kernel_rfl) (by kernel_rfl) (by kernel_rfl) rfl hSa0 (fun W' hS => by go_simp) rfl ?_
    try simp only [Act.put, List.setIfInBounds_toArray, List.set_cons_zero, List.set_cons_succ]
    refine hd_take 2 (v := .pointer (some ⟨gp, 4, none⟩)) rfl (by kernel_rfl) (by kernel_rfl) (by kernel_rfl) rfl hSa0 (fun W' hS => by go_simp) rfl ?_
    try simp only [Act.put, List.setIfInBounds_toArray, List.set_cons_zero, List.set_cons_succ]
    refine hd_take 3 (v := .bool false) rfl (by kernel_rfl) (by kernel_rfl) (by kernel_rfl) rfl hSa0 (fun W' hS => by obtain ⟨s0, s1, s2, s3⟩ := hS; go_simp) rfl ?_
    try simp only [Act.put, List.setIfInBounds_toArray, List.set_cons_zero, List.set_cons_succ]
    refine hd_take 4 (v := .bool true) rfl (by kernel_rfl) (by kernel_rfl) (by kernel_rfl) rfl hSa0 (fun W' hS => by go_simp) rfl ?_
    try simp only [Act.put, List.setIfInBounds_toArray, List.set_cons_zero, List.set_cons_succ]
    refine hd_take 5 (v := .bool true) rfl (by kernel_rfl) (by kernel_rfl) (by kernel_rfl) rfl hSa0 (fun W' hS => by go_simp) rfl ?_
    try simp only [Act.put, List.setIfInBounds_toArray, List.set_cons_zero, List.set_cons_succ]
    refine hd_skip 6 rfl (by kernel_rfl) (by kernel_rfl) (by kernel_rfl) rfl hSa0 rfl ?_
    refine hd_skip 7 rfl (by kernel_rfl) (by kernel_rfl) (by kernel_rfl) rfl hSa0 rfl ?_
    refine hd_skip 8 rfl (by kernel_rfl) (by kernel_rfl) (by kernel_rfl) rfl hSa0 rfl ?_
    refine hd_skip 9 rfl (by kernel_rfl) (by kernel_rfl) (by kernel_rfl) rfl hSa0 rfl ?_
    refine hd_skip 10 rfl (by kernel_rfl) (by kernel_rfl) (by kernel_rfl) rfl hSa0 rfl ?_
    refine hd_skip 11 rfl (by kernel_rfl) (by kernel_rfl) (by kernel_rfl) rfl hSa0 rfl ?_
    refine hd_skip 12 rfl (by kernel_rfl) (by kernel_rfl) (by kernel_rfl) rfl hSa0 rfl ?_
    refine hd_skip 13 rfl (by kernel_rfl) (by kernel_rfl) (by kernel_rfl) rfl hSa0 rfl ?_
    refine hd_skip 14 rfl (by kernel_rfl) (by kernel_rfl) (by kernel_rfl) rfl hSa0 rfl ?_
    refine hd_skip 15 rfl (by kernel_rfl) (by kernel_rfl) (by kernel_rfl) rfl hSa0 rfl ?_
    refine hd_skip 16 rfl (by kernel_rfl) (by kernel_rfl) (by kernel_rfl) rfl hSa0 rfl ?_
    refine hd_take 17 (v := .bool true) rfl (by kernel_rfl) (by kernel_rfl) (by kernel_rfl) rfl hSa0 (fun W' hS => by go_simp) rfl ?_
    try simp only [Act.put, List.setIfInBounds_toArray, List.set_cons_zero, List.set_cons_succ]
    refine hd_take 18 (v := .bool true) rfl (by kernel_rfl) (by kernel_rfl) (by kernel_rfl) rfl hSa0 (fun W' hS => by go_simp) rfl ?_
    try simp only [Act.put, List.setIfInBounds_toArray, List.set_cons_zero, List.set_cons_succ]
    refine held_done (by kernel_rfl) ?_
    have fe := HF.out.trans ga0 (by simp)
    go_wp2_with fail
    go_ret2
    rw [HR.out]
    exact ⟨rfl, HQW.out _ fe⟩
  have hsb : synB g = true := by unfold synB; simp; omega
  have hsi : sinG g = g.syn := by unfold sinG; rw [if_neg hs0]
  rw [hsb] at g4
  rw [hsi] at g5
  clear hsb hsi
  obtain ⟨lt, elt⟩ : ∃ q, q = decide (g.stale < now - g.syn) := ⟨_, rfl⟩
  have HLT := Lib.hid elt
  have u3 : decide (g.stale < now - g.syn) = lt := elt.symm
  have w1 : IntKind.i64.wrap (now - g.syn) = now - g.syn := IntWalk.i64_in _ (by omega)
  have HS0 := Lib.hid hs0
  clear elt hs0
  go_wp2_with fail
  have gb0 : Fr [] W0 W0.drew := (Fr.refl [] W0).drew
  have hSb0 : W0.drew.cell? ⟨rb, 0, none⟩ = some (.pointer (some ⟨gp, 0, none⟩)) ∧ W0.drew.cell? ⟨gp, 2, none⟩ = some (.int .i64 g.stale) ∧ W0.drew.cell? ⟨gp, 4, none⟩ = some (.bool true) ∧ W0.drew.cell? ⟨gp, 5, none⟩ = some (.int .i64 g.syn) := ⟨gb0.cell r0 (by simp), gb0.cell g2 (by simp), gb0.cell g4 (by simp), gb0.cell g5 (by simp)⟩
  refine region_held 100 (fun W' => W'.cell? ⟨rb, 0, none⟩ = some (.pointer (some ⟨gp, 0, none⟩)) ∧ W'.cell? ⟨gp, 2, none⟩ = some (.int .i64 g.stale) ∧ W'.cell? ⟨gp, 4, none⟩ = some (.bool true) ∧ W'.cell? ⟨gp, 5, none⟩ = some (.int .i64 g.syn)) hmx ?_
  change Held _ _ _ _ _ _ 19 (Array.replicate 19 false) _ _
  refine hd_take 0 (v := .pointer (some ⟨gp, 0, none⟩)) rfl (by kernel_rfl) (by kernel_rfl) (by kernel_rfl) rfl hSb0 (fun W' hS => by obtain ⟨s0, s1, s2, s3⟩ := hS; go_simp) rfl ?_
  try simp only [Act.put, List.setIfInBounds_toArray, List.set_cons_zero, List.set_cons_succ]
  refine hd_take 1 (v := .pointer (some ⟨gp, 0, none⟩)) rfl (by kernel_rfl) (by kernel_rfl) (by kernel_rfl) rfl hSb0 (fun W' hS => by go_simp) rfl ?_
  try simp only [Act.put, List.setIfInBounds_toArray, List.set_cons_zero, List.set_cons_succ]
  refine hd_take 2 (v := .pointer (some ⟨gp, 4, none⟩)) rfl (by kernel_rfl) (by kernel_rfl) (by kernel_rfl) rfl hSb0 (fun W' hS => by go_simp) rfl ?_
  try simp only [Act.put, List.setIfInBounds_toArray, List.set_cons_zero, List.set_cons_succ]
  refine hd_take 3 (v := .bool true) rfl (by kernel_rfl) (by kernel_rfl) (by kernel_rfl) rfl hSb0 (fun W' hS => by obtain ⟨s0, s1, s2, s3⟩ := hS; go_simp) rfl ?_
  try simp only [Act.put, List.setIfInBounds_toArray, List.set_cons_zero, List.set_cons_succ]
  refine hd_take 4 (v := .bool false) rfl (by kernel_rfl) (by kernel_rfl) (by kernel_rfl) rfl hSb0 (fun W' hS => by go_simp) rfl ?_
  try simp only [Act.put, List.setIfInBounds_toArray, List.set_cons_zero, List.set_cons_succ]
  refine hd_take 5 (v := .bool false) rfl (by kernel_rfl) (by kernel_rfl) (by kernel_rfl) rfl hSb0 (fun W' hS => by go_simp) rfl ?_
  try simp only [Act.put, List.setIfInBounds_toArray, List.set_cons_zero, List.set_cons_succ]
  refine hd_take 6 (v := .int .i64 now) rfl (by kernel_rfl) (by kernel_rfl) (by kernel_rfl) rfl hSb0 (fun W' hS => by go_simp) rfl ?_
  refine hd_take 7 (v := .pointer (some ⟨gp, 0, none⟩)) rfl (by kernel_rfl) (by kernel_rfl) (by kernel_rfl) rfl hSb0 (fun W' hS => by obtain ⟨s0, s1, s2, s3⟩ := hS; go_simp) rfl ?_
  refine hd_take 12 (v := .pointer (some ⟨gp, 0, none⟩)) rfl (by kernel_rfl) (by kernel_rfl) (by kernel_rfl) rfl hSb0 (fun W' hS => by obtain ⟨s0, s1, s2, s3⟩ := hS; go_simp) rfl ?_
  try simp only [Act.put, List.setIfInBounds_toArray, List.set_cons_zero, List.set_cons_succ]
  refine hd_take 8 (v := .pointer (some ⟨gp, 0, none⟩)) rfl (by kernel_rfl) (by kernel_rfl) (by kernel_rfl) rfl hSb0 (fun W' hS => by go_simp) rfl ?_
  refine hd_take 13 (v := .pointer (some ⟨gp, 0, none⟩)) rfl (by kernel_rfl) (by kernel_rfl) (by kernel_rfl) rfl hSb0 (fun W' hS => by go_simp) rfl ?_
  try simp only [Act.put, List.setIfInBounds_toArray, List.set_cons_zero, List.set_cons_succ]
  refine hd_take 9 (v := .pointer (some ⟨gp, 5, none⟩)) rfl (by kernel_rfl) (by kernel_rfl) (by kernel_rfl) rfl hSb0 (fun W' hS => by go_simp) rfl ?_
  refine hd_take 14 (v := .pointer (some ⟨gp, 2, none⟩)) rfl (by kernel_rfl) (by kernel_rfl) (by kernel_rfl) rfl hSb0 (fun W' hS => by go_simp) rfl ?_
  try simp only [Act.put, List.setIfInBounds_toArray, List.set_cons_zero, List.set_cons_succ]
  refine hd_take 10 (v := .int .i64 g.syn) rfl (by kernel_rfl) (by kernel_rfl) (by kernel_rfl) rfl hSb0 (fun W' hS => by obtain ⟨s0, s1, s2, s3⟩ := hS; go_simp) rfl ?_
  refine hd_take 15 (v := .int .i64 g.stale) rfl (by kernel_rfl) (by kernel_rfl) (by kernel_rfl) rfl hSb0 (fun W' hS => by obtain ⟨s0, s1, s2, s3⟩ := hS; go_simp) rfl ?_
  try simp only [Act.put, List.setIfInBounds_toArray, List.set_cons_zero, List.set_cons_succ]
  refine hd_take 11 (v := .int .i64 (now - g.syn)) rfl (by kernel_rfl) (by kernel_rfl) (by kernel_rfl) rfl hSb0 (fun W' hS => by go_simp) rfl ?_
  try simp only [Act.put, List.setIfInBounds_toArray, List.set_cons_zero, List.set_cons_succ]
  refine hd_take 16 (v := .bool lt) rfl (by kernel_rfl) (by kernel_rfl) (by kernel_rfl) rfl hSb0 (fun W' hS => by go_simp) rfl ?_
  try simp only [Act.put, List.setIfInBounds_toArray, List.set_cons_zero, List.set_cons_succ]
  refine hd_take 17 (v := .bool lt) rfl (by kernel_rfl) (by kernel_rfl) (by kernel_rfl) rfl hSb0 (fun W' hS => by go_simp) rfl ?_
  try simp only [Act.put, List.setIfInBounds_toArray, List.set_cons_zero, List.set_cons_succ]
  refine hd_take 18 (v := .bool lt) rfl (by kernel_rfl) (by kernel_rfl) (by kernel_rfl) rfl hSb0 (fun W' hS => by go_simp) rfl ?_
  try simp only [Act.put, List.setIfInBounds_toArray, List.set_cons_zero, List.set_cons_succ]
  refine held_done (by kernel_rfl) ?_
  have hf : Fr [] W0 W0.drew := gb0
  have HF := Lib.hid (HF.out.trans hf (by simp))
  have HM := Lib.hid (HM.out.fr hf (by simp))
  have HRB := Lib.hid (hf.at HRB.out (by simp))
  have HTB := Lib.hid (hf.at HTB.out (by simp))
  have HTR := Lib.hid (HTR.out.fr hf)
  generalize W0.drew = W1 at HF HM HRB HTB HTR ⊢
  clear hf gb0 hSb0 g2 g4 g5 g10 r0 u3 w1 u1
  cases lt with
  | true =>
    have HR : Hid (scanG g t now = (g, 0, 26)) := Lib.hid (by
      have h1 : g.stale < now - g.syn := of_decide_eq_true HLT.out.symm
      unfold scanG
      rw [if_neg (by rw [HC0.out]; simp), if_pos (Or.inr (by omega))])
    go_wp2_with fail
    go_ret2
    rw [HR.out]
    exact ⟨rfl, HQW.out _ HF.out⟩
  | false =>
    have HNL2 : Hid (¬ (g.syn < 0 ∨ g.syn < now - g.stale)) := Lib.hid (by
      have h1 : ¬ g.stale < now - g.syn := of_decide_eq_false HLT.out.symm
      have h2 := HS0.out
      omega)
    have r0 := row_cell HRB.out 0
    simp at r0
    have g9 := row_cell HM.out.p 9
    have g10 := row_cell HM.out.p 10
    unfold gateC at g9 g10
    simp at g9 g10
    have hl4 := HM.out.i.l
    by_cases h4 : g.log.length = 4000
    case pos =>
      have u4 : ((g.log.length : Int) == 4000) = true := by rw [h4]; rfl
      have HR : Hid (scanG g t now = (g, 0, 23)) := Lib.hid (by unfold scanG; rw [if_neg (by rw [HC0.out]; simp), if_neg HNL2.out, if_pos (by omega)])
      clear h4
      go_wp2_with fail
      go_ret2
      rw [HR.out]
      exact ⟨rfl, HQW.out _ HF.out⟩
    have u4 : ((g.log.length : Int) == 4000) = false := by rw [beq_eq_false_iff_ne]; omega
    have HL4 : Hid (g.log.length < 4000) := Lib.hid (by omega)
    have HSC : Hid (scanG g t now = (putG g (kindG g t) t.serial (ownerT t) now, kindG g t, 0)) := Lib.hid (by unfold scanG; rw [if_neg (by rw [HC0.out]; simp), if_neg HNL2.out, if_neg (by omega)])
    clear h4 hl4
    have t0 := row_cell HTB.out 0
    simp at t0
    have HI : Hid (isI t.serial) := Lib.hid HS.out.s
    go_wp2_with fail
    have hi := HM.out.m
    have e0 : Fr [] W1 W1.drew := (Fr.refl [] W1).drew
    have eS : (W1.drew.cell? ⟨rb, 0, none⟩ = some (.pointer (some ⟨gp, 0, none⟩)) ∧ W1.drew.cell? ⟨gp, 9, none⟩ = some (.map (some mp)) ∧ W1.drew.cell? ⟨tb, 0, none⟩ = some (.int .i64 t.serial)) ∧ MapG W1.drew mp n (insR g.log) := ⟨⟨e0.cell r0 (by simp), e0.cell g9 (by simp), e0.cell t0 (by simp)⟩, hi.fr e0 (by simp)⟩
    refine region_held 12 (fun W' => (W'.cell? ⟨rb, 0, none⟩ = some (.pointer (some ⟨gp, 0, none⟩)) ∧ W'.cell? ⟨gp, 9, none⟩ = some (.map (some mp)) ∧ W'.cell? ⟨tb, 0, none⟩ = some (.int .i64 t.serial)) ∧ MapG W' mp n (insR g.log)) hmx ?_
    change Held _ _ _ _ _ _ 13 (Array.replicate 13 false) _ _
    refine hd_take 0 (v := .pointer (some ⟨gp, 0, none⟩)) rfl (by kernel_rfl) (by kernel_rfl) (by kernel_rfl) rfl eS (fun W' hS => by obtain ⟨⟨s0, s1, s2⟩, sm⟩ := hS; go_simp) rfl ?_
    try simp only [Act.put, List.setIfInBounds_toArray, List.set_cons_zero, List.set_cons_succ]
    refine hd_take 1 (v := .pointer (some ⟨gp, 0, none⟩)) rfl (by kernel_rfl) (by kernel_rfl) (by kernel_rfl) rfl eS (fun W' hS => by go_simp) rfl ?_
    refine hd_take 4 (v := .pointer (some ⟨tb, 0, none⟩)) rfl (by kernel_rfl) (by kernel_rfl) (by kernel_rfl) rfl eS (fun W' hS => by go_simp) rfl ?_
    try simp only [Act.put, List.setIfInBounds_toArray, List.set_cons_zero, List.set_cons_succ]
    refine hd_take 2 (v := .pointer (some ⟨gp, 9, none⟩)) rfl (by kernel_rfl) (by kernel_rfl) (by kernel_rfl) rfl eS (fun W' hS => by go_simp) rfl ?_
    refine hd_take 5 (v := .int .i64 t.serial) rfl (by kernel_rfl) (by kernel_rfl) (by kernel_rfl) rfl eS (fun W' hS => by obtain ⟨⟨s0, s1, s2⟩, sm⟩ := hS; go_simp) rfl ?_
    try simp only [Act.put, List.setIfInBounds_toArray, List.set_cons_zero, List.set_cons_succ]
    refine hd_take 3 (v := .map (some mp)) rfl (by kernel_rfl) (by kernel_rfl) (by kernel_rfl) rfl eS (fun W' hS => by obtain ⟨⟨s0, s1, s2⟩, sm⟩ := hS; go_simp) rfl ?_
    try simp only [Act.put, List.setIfInBounds_toArray, List.set_cons_zero, List.set_cons_succ]
    refine hd_take 6 (v := .tuple #[.string ⟨((insR g.log t.serial).getD []).toArray⟩, .bool (insR g.log t.serial).isSome]) rfl (by kernel_rfl) (by kernel_rfl) (by kernel_rfl) rfl eS (fun W' hS => by obtain ⟨⟨s0, s1, s2⟩, sm⟩ := hS; have slk := sm.lookOk t.serial HI.out; go_simp) rfl ?_
    try simp only [Act.put, List.setIfInBounds_toArray, List.set_cons_zero, List.set_cons_succ]
    refine hd_take 7 (v := .tuple #[.string ⟨((insR g.log t.serial).getD []).toArray⟩, .bool (insR g.log t.serial).isSome]) rfl (by kernel_rfl) (by kernel_rfl) (by kernel_rfl) rfl eS (fun W' hS => by go_simp) rfl ?_
    try simp only [Act.put, List.setIfInBounds_toArray, List.set_cons_zero, List.set_cons_succ]
    refine hd_take 8 (v := .string ⟨((insR g.log t.serial).getD []).toArray⟩) rfl (by kernel_rfl) (by kernel_rfl) (by kernel_rfl) rfl eS (fun W' hS => by go_simp) rfl ?_
    refine hd_take 9 (v := .bool (insR g.log t.serial).isSome) rfl (by kernel_rfl) (by kernel_rfl) (by kernel_rfl) rfl eS (fun W' hS => by go_simp) rfl ?_
    try simp only [Act.put, List.setIfInBounds_toArray, List.set_cons_zero, List.set_cons_succ]
    generalize W1.drew = wd at e0 eS ⊢
    refine hd_one 10 (by kernel_rfl) rfl (by kernel_rfl) rfl (fun K' hK => ?_)
    go_simp
    have k1 := e0.alloc (.cells #[.bool false] 4)
    have hib : (wd.alloc (.cells #[.bool false] 4)).heap[wd.heap.size]? = some (.cells #[.bool false] 4 (0, 0)) := heap_new rfl
    obtain ⟨ib, eib⟩ : ∃ q, q = wd.heap.size := ⟨_, rfl⟩
    have hile : W1.heap.size ≤ ib := by rw [eib]; exact e0.size
    rw [← eib] at hib ⊢
    clear eib
    generalize wd.alloc (.cells #[.bool false] 4) = yc at k1 hib ⊢
    have eS2 : (yc.cell? ⟨rb, 0, none⟩ = some (.pointer (some ⟨gp, 0, none⟩)) ∧ yc.cell? ⟨gp, 9, none⟩ = some (.map (some mp)) ∧ yc.cell? ⟨tb, 0, none⟩ = some (.int .i64 t.serial)) ∧ MapG yc mp n (insR g.log) := ⟨⟨k1.cell r0 (by simp), k1.cell g9 (by simp), k1.cell t0 (by simp)⟩, hi.fr k1 (by simp)⟩
    refine hK.out _ _ (fun _ => eS2) ?_
    clear hK K'
    try simp only [Act.put, List.setIfInBounds_toArray, List.set_cons_zero, List.set_cons_succ]
    refine hd_take 11 (v := .string ⟨((insR g.log t.serial).getD []).toArray⟩) rfl (by kernel_rfl) (by kernel_rfl) (by kernel_rfl) rfl eS2 (fun W' hS => by go_simp) rfl ?_
    try simp only [Act.put, List.setIfInBounds_toArray, List.set_cons_zero, List.set_cons_succ]
    have b0 := row_cell hib 0
    simp at b0
    have b1 := row_free hib 0
    refine hd_one 12 (by kernel_rfl) rfl (by kernel_rfl) rfl (fun K' hK => ?_)
    go_simp
    refine hK.out _ _ (fun h => absurd rfl h) ?_
    clear hK K'
    refine held_done (by kernel_rfl) ?_
    have hib2 := row_set hib 0 (.bool (insR g.log t.serial).isSome)
    have hf : Fr [] W1 (yc.setCell ⟨ib, 0, none⟩ (.bool (insR g.log t.serial).isSome)) := k1.setCell _ _ (Or.inr hile)
    have HF := Lib.hid (HF.out.trans hf (by simp))
    have HM := Lib.hid (HM.out.fr hf (by simp))
    have HRB := Lib.hid (hf.at HRB.out (by simp))
    have HTB := Lib.hid (hf.at HTB.out (by simp))
    have HTR := Lib.hid (HTR.out.fr hf)
    generalize yc.setCell ⟨ib, 0, none⟩ (.bool (insR g.log t.serial).isSome) = W2 at HF HM HRB HTB HTR hib2 ⊢
    have HIB := Lib.hid hib2
    clear hf hib2 hib b0 b1 k1 e0 eS eS2 hi hile r0 g9 g10 t0 u4
    obtain ⟨W3, hW3⟩ : ∃ W3, W3 = W2.alloc (.cells #[.func (.func 49) #[] #[.pointer (some ⟨ib, 0, none⟩)], .func (.func 50) #[] #[.pointer (some ⟨tb, 0, none⟩), .pointer (some ⟨rb, 0, none⟩)], .func (.func 51) #[] #[.pointer (some ⟨rb, 0, none⟩), .pointer (some ⟨tb, 0, none⟩)], .func (.func 52) #[] #[.pointer (some ⟨tb, 0, none⟩)]] 23) := ⟨_, rfl⟩
    obtain ⟨fb, efb⟩ : ∃ q, q = W2.heap.size := ⟨_, rfl⟩
    have hf : Fr [] W2 W3 := by rw [hW3]; exact (Fr.refl [] W2).alloc _
    have hfb : W3.heap[fb]? = some (.cells #[.func (.func 49) #[] #[.pointer (some ⟨ib, 0, none⟩)], .func (.func 50) #[] #[.pointer (some ⟨tb, 0, none⟩), .pointer (some ⟨rb, 0, none⟩)], .func (.func 51) #[] #[.pointer (some ⟨rb, 0, none⟩), .pointer (some ⟨tb, 0, none⟩)], .func (.func 52) #[] #[.pointer (some ⟨tb, 0, none⟩)]] 23 (0, 0)) := by rw [hW3]; exact heap_new efb
    have HF := Lib.hid (HF.out.trans hf (by simp))
    have HM := Lib.hid (HM.out.fr hf (by simp))
    have HRB := Lib.hid (hf.at HRB.out (by simp))
    have HTB := Lib.hid (hf.at HTB.out (by simp))
    have HTR := Lib.hid (HTR.out.fr hf)
    have HIB := Lib.hid (hf.at HIB.out (by simp))
    go_wp2_with fail
    rw [← hW3, ← efb]
    clear hf hW3 efb
    have hfns : Fns W3 (.slice (some ⟨fb, 0, none⟩) 4 4) [((.func (.func 49) #[] #[.pointer (some ⟨ib, 0, none⟩)] : Value), (insR g.log t.serial).isSome), ((.func (.func 50) #[] #[.pointer (some ⟨tb, 0, none⟩), .pointer (some ⟨rb, 0, none⟩)] : Value), t.shw != g.shw), ((.func (.func 51) #[] #[.pointer (some ⟨rb, 0, none⟩), .pointer (some ⟨tb, 0, none⟩)] : Value), hasF g.flt t.serial), ((.func (.func 52) #[] #[.pointer (some ⟨tb, 0, none⟩)] : Value), !validT t)] := ⟨fb, 0, 4, rfl, by simp, by decide, fun i x hx => by
      rw [Nat.zero_add, row_cell hfb]
      match i, hx with
      | 0, hx => cases hx; rfl
      | 1, hx => cases hx; rfl
      | 2, hx => cases hx; rfl
      | 3, hx => cases hx; rfl
      | i + 4, hx => simp at hx⟩
    have HFN := Lib.hid hfns
    clear hfns hfb
    refine (containsF_any _ [((.func (.func 49) #[] #[.pointer (some ⟨ib, 0, none⟩)] : Value), (insR g.log t.serial).isSome), ((.func (.func 50) #[] #[.pointer (some ⟨tb, 0, none⟩), .pointer (some ⟨rb, 0, none⟩)] : Value), t.shw != g.shw), ((.func (.func 51) #[] #[.pointer (some ⟨rb, 0, none⟩), .pointer (some ⟨tb, 0, none⟩)] : Value), hasF g.flt t.serial), ((.func (.func 52) #[] #[.pointer (some ⟨tb, 0, none⟩)] : Value), !validT t)] 54 #[] W3 HFN.out (by simp) (enters_of Tryz.func54 (by kernel_rfl) rfl) (fun q W hq hW => ?_)).mono ?_
    · have hm := HM.out.fr hW (by simp)
      have htb := hW.at HTB.out (by simp)
      have hrb := row_cell (hW.at HRB.out (by simp)) 0
      have hib := row_cell (hW.at HIB.out (by simp)) 0
      have hTW := HT.out.fr (HF.out.trans hW (by simp))
      simp only [List.mem_cons, List.not_mem_nil, or_false] at hq
      rcases hq with rfl | rfl | rfl | rfl
      · exact scan5_any _ _ _ W (enters_of Tryz.func49 (by kernel_rfl) rfl) (scan1_any ib _ W hib)
      · exact scan5_any _ _ _ W (enters_of Tryz.func50 (by kernel_rfl) rfl) (scan2_any tb rb gp t.shw g.shw W (by rw [row_cell htb]; rfl) hrb (by rw [row_cell hm.p]; rfl))
      · exact scan5_any _ _ _ W (enters_of Tryz.func51 (by kernel_rfl) rfl) (scan3_any tb rb gp t.serial g.flt _ W (by rw [row_cell htb]; rfl) hrb (by rw [row_cell hm.p]; rfl) (by rw [row_cell hm.p]; rfl) (by rw [row_cell hm.p]; rfl) hm.w hm.i.w HI.out hTW)
      · exact scan5_any _ _ _ W (enters_of Tryz.func52 (by kernel_rfl) rfl) (scan4_any tb t _ W htb (HTR.out.fr hW) HS.out hTW)
    rintro e W4 ⟨rfl, hbb⟩
    have hf : Fr [] W3 W4 := Fr.ofBelow hbb
    have HF := Lib.hid (HF.out.trans hf (by simp))
    have HM := Lib.hid (HM.out.fr hf (by simp))
    have HRB := Lib.hid (hf.at HRB.out (by simp))
    have HTB := Lib.hid (hf.at HTB.out (by simp))
    have HTR := Lib.hid (HTR.out.fr hf)
    clear hbb hf HFN HIB
    rw [show List.any [((.func (.func 49) #[] #[.pointer (some ⟨ib, 0, none⟩)] : Value), (insR g.log t.serial).isSome), ((.func (.func 50) #[] #[.pointer (some ⟨tb, 0, none⟩), .pointer (some ⟨rb, 0, none⟩)] : Value), t.shw != g.shw), ((.func (.func 51) #[] #[.pointer (some ⟨rb, 0, none⟩), .pointer (some ⟨tb, 0, none⟩)] : Value), hasF g.flt t.serial), ((.func (.func 52) #[] #[.pointer (some ⟨tb, 0, none⟩)] : Value), !validT t)] Prod.snd = !admG g t from adm_any g t]
    obtain ⟨ad, ead⟩ : ∃ q, q = admG g t := ⟨_, rfl⟩
    rw [← ead]
    have HAD := Lib.hid ead
    clear ead
    cases ad with
    | false =>
      have HX : Hid (Fr F w W4) := Lib.hid (HF.out.mono (by simp))
      have r0 := row_cell HRB.out 0
      simp at r0
      have t0 := row_cell HTB.out 0
      have t1 := row_cell HTB.out 1
      have t2 := row_cell HTB.out 2
      have t3 := row_cell HTB.out 3
      have t4 := row_cell HTB.out 4
      simp at t0 t1 t2 t3 t4
      go_wp2_with fail
      have gw0 : Fr [] W4 W4.drew := (Fr.refl [] W4).drew
      have hSw0 : W4.drew.cell? ⟨rb, 0, none⟩ = some (.pointer (some ⟨gp, 0, none⟩)) ∧ W4.drew.cell? ⟨tb, 0, none⟩ = some (.int .i64 t.serial) ∧ W4.drew.cell? ⟨tb, 1, none⟩ = some (.int .i64 t.shw) ∧ W4.drew.cell? ⟨tb, 2, none⟩ = some (.int .i64 t.place) ∧ W4.drew.cell? ⟨tb, 3, none⟩ = some (.string ⟨t.first.toArray⟩) ∧ W4.drew.cell? ⟨tb, 4, none⟩ = some (.slice ta t.chain.length tc) := ⟨gw0.cell r0 (by simp), gw0.cell t0 (by simp), gw0.cell t1 (by simp), gw0.cell t2 (by simp), gw0.cell t3 (by simp), gw0.cell t4 (by simp)⟩
      refine region_held 100 (fun W' => W'.cell? ⟨rb, 0, none⟩ = some (.pointer (some ⟨gp, 0, none⟩)) ∧ W'.cell? ⟨tb, 0, none⟩ = some (.int .i64 t.serial) ∧ W'.cell? ⟨tb, 1, none⟩ = some (.int .i64 t.shw) ∧ W'.cell? ⟨tb, 2, none⟩ = some (.int .i64 t.place) ∧ W'.cell? ⟨tb, 3, none⟩ = some (.string ⟨t.first.toArray⟩) ∧ W'.cell? ⟨tb, 4, none⟩ = some (.slice ta t.chain.length tc)) hmx ?_
      change Held _ _ _ _ _ _ 8 (Array.replicate 8 false) _ _
      refine hd_take 0 (v := .pointer (some ⟨gp, 0, none⟩)) rfl (by kernel_rfl) (by kernel_rfl) (by kernel_rfl) rfl hSw0 (fun W' hS => by obtain ⟨s0, s1, s2, s3, s4, s5⟩ := hS; go_simp) rfl ?_
      refine hd_take 1 (v := .int .i64 3) rfl (by kernel_rfl) (by kernel_rfl) (by kernel_rfl) rfl hSw0 (fun W' hS => by go_simp) rfl ?_
      refine hd_take 2 (v := .pointer (some ⟨tb, 0, none⟩)) rfl (by kernel_rfl) (by kernel_rfl) (by kernel_rfl) rfl hSw0 (fun W' hS => by go_simp) rfl ?_
      refine hd_take 4 (v := .agg #[.int .i64 t.serial, .int .i64 t.shw, .int .i64 t.place, .string ⟨t.first.toArray⟩, .slice ta t.chain.length tc]) rfl (by kernel_rfl) (by kernel_rfl) (by kernel_rfl) rfl hSw0 (fun W' hS => by obtain ⟨s0, s1, s2, s3, s4, s5⟩ := hS; go_simp) rfl ?_
      refine hd_take 6 (v := .int .i64 now) rfl (by kernel_rfl) (by kernel_rfl) (by kernel_rfl) rfl hSw0 (fun W' hS => by go_simp) rfl ?_
      try simp only [Act.put, List.setIfInBounds_toArray, List.set_cons_zero, List.set_cons_succ]
      refine hd_take 3 (v := .int .i64 t.serial) rfl (by kernel_rfl) (by kernel_rfl) (by kernel_rfl) rfl hSw0 (fun W' hS => by obtain ⟨s0, s1, s2, s3, s4, s5⟩ := hS; go_simp) rfl ?_
      try simp only [Act.put, List.setIfInBounds_toArray, List.set_cons_zero, List.set_cons_succ]
      refine hd_one 5 (by kernel_rfl) rfl (by kernel_rfl) rfl (fun K' hK => ?_)
      go_simp
      refine (owner_any _ t W4.drew ⟨_, rfl, HTR.out.fr gw0⟩).mono ?_
      rintro e yw1 ⟨rfl, hbb⟩
      have gw1 : Fr [] W4 yw1 := gw0.below hbb gw0.size
      clear hbb
      have hSw1 : yw1.cell? ⟨rb, 0, none⟩ = some (.pointer (some ⟨gp, 0, none⟩)) ∧ yw1.cell? ⟨tb, 0, none⟩ = some (.int .i64 t.serial) ∧ yw1.cell? ⟨tb, 1, none⟩ = some (.int .i64 t.shw) ∧ yw1.cell? ⟨tb, 2, none⟩ = some (.int .i64 t.place) ∧ yw1.cell? ⟨tb, 3, none⟩ = some (.string ⟨t.first.toArray⟩) ∧ yw1.cell? ⟨tb, 4, none⟩ = some (.slice ta t.chain.length tc) := ⟨gw1.cell r0 (by simp), gw1.cell t0 (by simp), gw1.cell t1 (by simp), gw1.cell t2 (by simp), gw1.cell t3 (by simp), gw1.cell t4 (by simp)⟩
      refine hK.out _ _ (fun _ => hSw1) ?_
      clear hK K'
      try simp only [Act.put, List.setIfInBounds_toArray, List.set_cons_zero, List.set_cons_succ]
      refine hd_one 7 (by kernel_rfl) rfl (by kernel_rfl) rfl (fun K' hK => ?_)
      go_simp
      refine (gwrite_any B gp g _ n mp _ _ F 3 t.serial (ownerT t) now yw1 (HM.out.fr gw1 (by simp)) hnow.1 hnow.2 HL4.out).mono ?_
      rintro e w7 ⟨rfl, lv', F', hm7, hx7, hk7⟩
      have nrb : rb ∉ F := fun h => by
        have h1 := HFB.out rb h
        have h2 := HGE.out
        omega
      have ntb : tb ∉ F := fun h => by
        have h1 := HFB.out tb h
        have h2 := HGE.out
        omega
      refine hK.out _ _ (fun _ => ⟨hx7.cell (gw1.cell r0 (by simp)) nrb, hx7.cell (gw1.cell t0 (by simp)) ntb, hx7.cell (gw1.cell t1 (by simp)) ntb, hx7.cell (gw1.cell t2 (by simp)) ntb, hx7.cell (gw1.cell t3 (by simp)) ntb, hx7.cell (gw1.cell t4 (by simp)) ntb⟩) ?_
      clear hK K'
      refine held_done (by kernel_rfl) ?_
      have HXE := Lib.hid ((HX.out.trans (Y := []) gw1 (by simp)).trans hx7 (fun y hy => Or.inl hy))
      have HKE : Hid (∀ k ∈ F', k ∈ F ∨ w.heap.size ≤ k) := Lib.hid (fun k hk => (hk7 k hk).imp id (fun h1 => Nat.le_trans (HX.out.trans (Y := []) gw1 (by simp)).size h1))
      have HM7 := Lib.hid hm7
      clear hm7 hx7 hk7
      go_wp2_with fail
      go_ret2
      rw [HSC.out]
      have hkd : kindG g t = 3 := by unfold kindG; rw [← HAD.out]; rfl
      rw [hkd]
      exact ⟨rfl, F', ⟨n, mp, _, lv', by have := HNL.out; unfold putG; simp; omega, HM7.out.congr (fun k _ => ins_ref g.log g.id ((g.log.length : Int) + 1) now t.serial (ownerT t) k)⟩, HXE.out, HKE.out⟩
    | true =>
      have r0 := row_cell HRB.out 0
      simp at r0
      have t0 := row_cell HTB.out 0
      have t1 := row_cell HTB.out 1
      have t2 := row_cell HTB.out 2
      have t3 := row_cell HTB.out 3
      have t4 := row_cell HTB.out 4
      simp at t0 t1 t2 t3 t4
      have g9 := row_cell HM.out.p 9
      unfold gateC at g9
      simp at g9
      go_wp2_with fail
      have gm0 : Fr [] W4 W4.drew := (Fr.refl [] W4).drew
      have hSm0 : W4.drew.cell? ⟨rb, 0, none⟩ = some (.pointer (some ⟨gp, 0, none⟩)) ∧ W4.drew.cell? ⟨gp, 9, none⟩ = some (.map (some mp)) ∧ W4.drew.cell? ⟨tb, 0, none⟩ = some (.int .i64 t.serial) ∧ W4.drew.cell? ⟨tb, 1, none⟩ = some (.int .i64 t.shw) ∧ W4.drew.cell? ⟨tb, 2, none⟩ = some (.int .i64 t.place) ∧ W4.drew.cell? ⟨tb, 3, none⟩ = some (.string ⟨t.first.toArray⟩) ∧ W4.drew.cell? ⟨tb, 4, none⟩ = some (.slice ta t.chain.length tc) := ⟨gm0.cell r0 (by simp), gm0.cell g9 (by simp), gm0.cell t0 (by simp), gm0.cell t1 (by simp), gm0.cell t2 (by simp), gm0.cell t3 (by simp), gm0.cell t4 (by simp)⟩
      refine region_held 8 (fun W' => W'.cell? ⟨rb, 0, none⟩ = some (.pointer (some ⟨gp, 0, none⟩)) ∧ W'.cell? ⟨gp, 9, none⟩ = some (.map (some mp)) ∧ W'.cell? ⟨tb, 0, none⟩ = some (.int .i64 t.serial) ∧ W'.cell? ⟨tb, 1, none⟩ = some (.int .i64 t.shw) ∧ W'.cell? ⟨tb, 2, none⟩ = some (.int .i64 t.place) ∧ W'.cell? ⟨tb, 3, none⟩ = some (.string ⟨t.first.toArray⟩) ∧ W'.cell? ⟨tb, 4, none⟩ = some (.slice ta t.chain.length tc)) hmx ?_
      change Held _ _ _ _ _ _ 9 (Array.replicate 9 false) _ _
      refine hd_take 0 (v := .pointer (some ⟨gp, 0, none⟩)) rfl (by kernel_rfl) (by kernel_rfl) (by kernel_rfl) rfl hSm0 (fun W' hS => by obtain ⟨s0, s1, s2, s3, s4, s5, s6⟩ := hS; go_simp) rfl ?_
      refine hd_take 4 (v := .pointer (some ⟨tb, 0, none⟩)) rfl (by kernel_rfl) (by kernel_rfl) (by kernel_rfl) rfl hSm0 (fun W' hS => by go_simp) rfl ?_
      refine hd_take 6 (v := .agg #[.int .i64 t.serial, .int .i64 t.shw, .int .i64 t.place, .string ⟨t.first.toArray⟩, .slice ta t.chain.length tc]) rfl (by kernel_rfl) (by kernel_rfl) (by kernel_rfl) rfl hSm0 (fun W' hS => by obtain ⟨s0, s1, s2, s3, s4, s5, s6⟩ := hS; go_simp) rfl ?_
      try simp only [Act.put, List.setIfInBounds_toArray, List.set_cons_zero, List.set_cons_succ]
      refine hd_take 1 (v := .pointer (some ⟨gp, 0, none⟩)) rfl (by kernel_rfl) (by kernel_rfl) (by kernel_rfl) rfl hSm0 (fun W' hS => by go_simp) rfl ?_
      refine hd_take 5 (v := .int .i64 t.serial) rfl (by kernel_rfl) (by kernel_rfl) (by kernel_rfl) rfl hSm0 (fun W' hS => by obtain ⟨s0, s1, s2, s3, s4, s5, s6⟩ := hS; go_simp) rfl ?_
      try simp only [Act.put, List.setIfInBounds_toArray, List.set_cons_zero, List.set_cons_succ]
      refine hd_take 2 (v := .pointer (some ⟨gp, 9, none⟩)) rfl (by kernel_rfl) (by kernel_rfl) (by kernel_rfl) rfl hSm0 (fun W' hS => by go_simp) rfl ?_
      try simp only [Act.put, List.setIfInBounds_toArray, List.set_cons_zero, List.set_cons_succ]
      refine hd_take 3 (v := .map (some mp)) rfl (by kernel_rfl) (by kernel_rfl) (by kernel_rfl) rfl hSm0 (fun W' hS => by obtain ⟨s0, s1, s2, s3, s4, s5, s6⟩ := hS; go_simp) rfl ?_
      try simp only [Act.put, List.setIfInBounds_toArray, List.set_cons_zero, List.set_cons_succ]
      refine hd_one 7 (by kernel_rfl) rfl (by kernel_rfl) rfl (fun K' hK => ?_)
      go_simp
      refine (owner_any _ t W4.drew ⟨_, rfl, HTR.out.fr gm0⟩).mono ?_
      rintro e ym1 ⟨rfl, hbb⟩
      have gm1 : Fr [] W4 ym1 := gm0.below hbb gm0.size
      clear hbb
      have hSm1 : ym1.cell? ⟨rb, 0, none⟩ = some (.pointer (some ⟨gp, 0, none⟩)) ∧ ym1.cell? ⟨gp, 9, none⟩ = some (.map (some mp)) ∧ ym1.cell? ⟨tb, 0, none⟩ = some (.int .i64 t.serial) ∧ ym1.cell? ⟨tb, 1, none⟩ = some (.int .i64 t.shw) ∧ ym1.cell? ⟨tb, 2, none⟩ = some (.int .i64 t.place) ∧ ym1.cell? ⟨tb, 3, none⟩ = some (.string ⟨t.first.toArray⟩) ∧ ym1.cell? ⟨tb, 4, none⟩ = some (.slice ta t.chain.length tc) := ⟨gm1.cell r0 (by simp), gm1.cell g9 (by simp), gm1.cell t0 (by simp), gm1.cell t1 (by simp), gm1.cell t2 (by simp), gm1.cell t3 (by simp), gm1.cell t4 (by simp)⟩
      refine hK.out _ _ (fun _ => hSm1) ?_
      clear hK K'
      try simp only [Act.put, List.setIfInBounds_toArray, List.set_cons_zero, List.set_cons_succ]
      have hmY := HM.out.fr gm1 (by simp)
      refine hd_one 8 (by kernel_rfl) rfl (by kernel_rfl) rfl (fun K' hK => ?_)
      refine wp_putG (.tmp 66) (.tmp 68) (.tmp 70) rfl mp n (insR g.log) (by kernel_rfl) hmY.m (by have := HNL.out; have := HL4.out; omega) t.serial (ownerT t) (by kernel_rfl) (by kernel_rfl) HI.out (Nat.le_trans (ownerT_small HS.out) (by decide)) ?_
      intro W5 hm5 hf5
      refine hK.out _ _ (fun h => absurd rfl h) ?_
      clear hK K'
      refine held_done (by kernel_rfl) ?_
      have hmem := hmY.mem
      have HX : Hid (Fr F w W5) := Lib.hid (((HF.out.trans gm1 (by simp)).mono (Y := F) (by simp)).trans hf5 (fun y hy => Or.inl (by rw [List.mem_singleton.1 hy]; exact hmem.2.1)))
      obtain ⟨es, clock, hes⟩ := hmY.m.heap
      have HTR := Lib.hid ((HTR.out.fr gm1).map hes hf5)
      have hmw : mp < w.heap.size := by
        exact HMP.out
      have hge := HGE.out
      have HRB := Lib.hid (hf5.at (gm1.at HRB.out (by simp)) (by simp; omega))
      have HTB := Lib.hid (hf5.at (gm1.at HTB.out (by simp)) (by simp; omega))
      have HM := Lib.hid (hmY.mapped hm5 hf5)
      clear r0 t0 t1 t2 t3 t4 g9 hmY hm5 hf5 hmem hes gm0 gm1 hSm0 hSm1
      have r0 := row_cell HRB.out 0
      simp at r0
      have t0 := row_cell HTB.out 0
      have t1 := row_cell HTB.out 1
      have t2 := row_cell HTB.out 2
      have t3 := row_cell HTB.out 3
      have t4 := row_cell HTB.out 4
      simp at t0 t1 t2 t3 t4
      go_wp2_with fail
      have gw0 : Fr [] W5 W5.drew := (Fr.refl [] W5).drew
      have hSw0 : W5.drew.cell? ⟨rb, 0, none⟩ = some (.pointer (some ⟨gp, 0, none⟩)) ∧ W5.drew.cell? ⟨tb, 0, none⟩ = some (.int .i64 t.serial) ∧ W5.drew.cell? ⟨tb, 1, none⟩ = some (.int .i64 t.shw) ∧ W5.drew.cell? ⟨tb, 2, none⟩ = some (.int .i64 t.place) ∧ W5.drew.cell? ⟨tb, 3, none⟩ = some (.string ⟨t.first.toArray⟩) ∧ W5.drew.cell? ⟨tb, 4, none⟩ = some (.slice ta t.chain.length tc) := ⟨gw0.cell r0 (by simp), gw0.cell t0 (by simp), gw0.cell t1 (by simp), gw0.cell t2 (by simp), gw0.cell t3 (by simp), gw0.cell t4 (by simp)⟩
      refine region_held 100 (fun W' => W'.cell? ⟨rb, 0, none⟩ = some (.pointer (some ⟨gp, 0, none⟩)) ∧ W'.cell? ⟨tb, 0, none⟩ = some (.int .i64 t.serial) ∧ W'.cell? ⟨tb, 1, none⟩ = some (.int .i64 t.shw) ∧ W'.cell? ⟨tb, 2, none⟩ = some (.int .i64 t.place) ∧ W'.cell? ⟨tb, 3, none⟩ = some (.string ⟨t.first.toArray⟩) ∧ W'.cell? ⟨tb, 4, none⟩ = some (.slice ta t.chain.length tc)) hmx ?_
      change Held _ _ _ _ _ _ 8 (Array.replicate 8 false) _ _
      refine hd_take 0 (v := .pointer (some ⟨gp, 0, none⟩)) rfl (by kernel_rfl) (by kernel_rfl) (by kernel_rfl) rfl hSw0 (fun W' hS => by obtain ⟨s0, s1, s2, s3, s4, s5⟩ := hS; go_simp) rfl ?_
      refine hd_take 1 (v := .int .i64 1) rfl (by kernel_rfl) (by kernel_rfl) (by kernel_rfl) rfl hSw0 (fun W' hS => by go_simp) rfl ?_
      refine hd_take 2 (v := .pointer (some ⟨tb, 0, none⟩)) rfl (by kernel_rfl) (by kernel_rfl) (by kernel_rfl) rfl hSw0 (fun W' hS => by go_simp) rfl ?_
      refine hd_take 4 (v := .agg #[.int .i64 t.serial, .int .i64 t.shw, .int .i64 t.place, .string ⟨t.first.toArray⟩, .slice ta t.chain.length tc]) rfl (by kernel_rfl) (by kernel_rfl) (by kernel_rfl) rfl hSw0 (fun W' hS => by obtain ⟨s0, s1, s2, s3, s4, s5⟩ := hS; go_simp) rfl ?_
      refine hd_take 6 (v := .int .i64 now) rfl (by kernel_rfl) (by kernel_rfl) (by kernel_rfl) rfl hSw0 (fun W' hS => by go_simp) rfl ?_
      try simp only [Act.put, List.setIfInBounds_toArray, List.set_cons_zero, List.set_cons_succ]
      refine hd_take 3 (v := .int .i64 t.serial) rfl (by kernel_rfl) (by kernel_rfl) (by kernel_rfl) rfl hSw0 (fun W' hS => by obtain ⟨s0, s1, s2, s3, s4, s5⟩ := hS; go_simp) rfl ?_
      try simp only [Act.put, List.setIfInBounds_toArray, List.set_cons_zero, List.set_cons_succ]
      refine hd_one 5 (by kernel_rfl) rfl (by kernel_rfl) rfl (fun K' hK => ?_)
      go_simp
      refine (owner_any _ t W5.drew ⟨_, rfl, HTR.out.fr gw0⟩).mono ?_
      rintro e yw1 ⟨rfl, hbb⟩
      have gw1 : Fr [] W5 yw1 := gw0.below hbb gw0.size
      clear hbb
      have hSw1 : yw1.cell? ⟨rb, 0, none⟩ = some (.pointer (some ⟨gp, 0, none⟩)) ∧ yw1.cell? ⟨tb, 0, none⟩ = some (.int .i64 t.serial) ∧ yw1.cell? ⟨tb, 1, none⟩ = some (.int .i64 t.shw) ∧ yw1.cell? ⟨tb, 2, none⟩ = some (.int .i64 t.place) ∧ yw1.cell? ⟨tb, 3, none⟩ = some (.string ⟨t.first.toArray⟩) ∧ yw1.cell? ⟨tb, 4, none⟩ = some (.slice ta t.chain.length tc) := ⟨gw1.cell r0 (by simp), gw1.cell t0 (by simp), gw1.cell t1 (by simp), gw1.cell t2 (by simp), gw1.cell t3 (by simp), gw1.cell t4 (by simp)⟩
      refine hK.out _ _ (fun _ => hSw1) ?_
      clear hK K'
      try simp only [Act.put, List.setIfInBounds_toArray, List.set_cons_zero, List.set_cons_succ]
      refine hd_one 7 (by kernel_rfl) rfl (by kernel_rfl) rfl (fun K' hK => ?_)
      go_simp
      refine (gwrite_any B gp g _ (n + 1) mp _ _ F 1 t.serial (ownerT t) now yw1 (HM.out.fr gw1 (by simp)) hnow.1 hnow.2 HL4.out).mono ?_
      rintro e w7 ⟨rfl, lv', F', hm7, hx7, hk7⟩
      have nrb : rb ∉ F := fun h => by
        have h1 := HFB.out rb h
        have h2 := HGE.out
        omega
      have ntb : tb ∉ F := fun h => by
        have h1 := HFB.out tb h
        have h2 := HGE.out
        omega
      refine hK.out _ _ (fun _ => ⟨hx7.cell (gw1.cell r0 (by simp)) nrb, hx7.cell (gw1.cell t0 (by simp)) ntb, hx7.cell (gw1.cell t1 (by simp)) ntb, hx7.cell (gw1.cell t2 (by simp)) ntb, hx7.cell (gw1.cell t3 (by simp)) ntb, hx7.cell (gw1.cell t4 (by simp)) ntb⟩) ?_
      clear hK K'
      refine held_done (by kernel_rfl) ?_
      have HXE := Lib.hid ((HX.out.trans (Y := []) gw1 (by simp)).trans hx7 (fun y hy => Or.inl hy))
      have HKE : Hid (∀ k ∈ F', k ∈ F ∨ w.heap.size ≤ k) := Lib.hid (fun k hk => (hk7 k hk).imp id (fun h1 => Nat.le_trans (HX.out.trans (Y := []) gw1 (by simp)).size h1))
      have HM7 := Lib.hid hm7
      clear hm7 hx7 hk7
      go_wp2_with fail
      go_ret2
      rw [HSC.out]
      have hkd : kindG g t = 1 := by unfold kindG; rw [← HAD.out]; rfl
      rw [hkd]
      exact ⟨rfl, F', ⟨(n + 1), mp, _, lv', by have := HNL.out; unfold putG; simp; omega, HM7.out.congr (fun k _ => ins_in g.log g.id ((g.log.length : Int) + 1) now t.serial (ownerT t) k)⟩, HXE.out, HKE.out⟩
end Go.Proofs.YtglgkdbhdjkeaaaGreatDoor
