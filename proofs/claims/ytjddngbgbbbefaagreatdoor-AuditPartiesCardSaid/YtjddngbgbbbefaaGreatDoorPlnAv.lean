/-
  Plain laws of published lotteries: what Publish answers, and which findings Check has.
-/
import Derived.Test.YtjddngbgbbbefaaGreatDoorPlnAu
import Derived.Test.YtjddngbgbbbefaaGreatDoorPlnEn
import Derived.Test.YtjddngbgbbbefaaGreatDoorPlnTr
import Derived.Test.YtjddngbgbbbefaaGreatDoorEnC
import Derived.Test.YtjddngbgbbbefaaGreatDoorDrA
namespace Go.Proofs.YtjddngbgbbbefaaGreatDoor

/-- Published records. -/
structure Pbl where
  ents : List Pty
  root : List UInt8
  parts : List Pty
  order : List Int
  served : List Int
def zeroPb : Pbl := ⟨[], [], [], [], []⟩
/-- The answer of Classes. -/
noncomputable def clsL (l : List Pty) : List Nat := open Classical in if h : ∃ o, Cls l o then h.choose else []
theorem clsL_eq {l : List Pty} {o : List Nat} (h : Cls l o) : clsL l = o := by
  have hx : ∃ o, Cls l o := ⟨o, h⟩
  unfold clsL
  rw [dif_pos hx]
  exact hx.choose_spec.unique h
def textsE (l : List Pty) : List (List UInt8) := l.map textS
/-- The entries that stand for their classes. -/
def headsO (o : List Nat) : List Nat := (List.range o.length).filter fun i => o.getD i 0 == i
def orderO (o : List Nat) (seed : List UInt8) : List Nat := (shufS seed (headsO o).length).map fun i => (headsO o).getD i 0
/-- What Publish answers. -/
def pubS (o : List Nat) (es ps : List Pty) : Pbl × Int :=
  if 4000 < es.length then (zeroPb, 3)
  else if es.any (fun e => !validB e) then (zeroPb, 1)
  else if (seedS ps (rootL (textsE es))).2 ≠ 0 then (zeroPb, (seedS ps (rootL (textsE es))).2)
  else (⟨es, rootL (textsE es), ps, (orderO o (seedS ps (rootL (textsE es))).1).map Int.ofNat, []⟩, 0)

def zP : Pty := ⟨[], [], []⟩
def entF (l : List Pty) : List Aud := (List.range l.length).flatMap fun i => if validB (l.getD i zP) then [] else [⟨1, (i : Int), -1⟩]
def rootF (p : Pbl) : List Aud := if p.root = rootL (textsE p.ents) then [] else [⟨3, -1, -1⟩]
def wrongB (l : List Pty) (i : Nat) : Bool := decide (16 ≤ i) || dupAt l i || !rightB (l.getD i zP)
def partF (l : List Pty) : List Aud := (List.range l.length).flatMap fun i => if wrongB l i then [⟨4, (i : Int), -1⟩] else []
def recF (p : Pbl) : List Aud := entF p.ents ++ rootF p ++ partF p.parts
def movedA (want order : List Int) (k : Nat) : List Aud := if k < order.length ∧ order.getD k 0 = want.getD k 0 then [] else [⟨5, want.getD k 0, placeL order (want.getD k 0)⟩]
def movedF (want order : List Int) : List Aud := (List.range want.length).flatMap (movedA want order) ++ (List.range (order.length - want.length)).map fun j => ⟨5, order.getD (want.length + j) 0, ((want.length + j : Nat) : Int)⟩
def twiceA (o : List Nat) (i : Int) : List Aud := if 0 ≤ i ∧ i < (o.length : Int) ∧ ((o.getD i.toNat 0 : Nat) : Int) ≠ i then [⟨2, ((o.getD i.toNat 0 : Nat) : Int), i⟩] else []
def twiceF (o : List Nat) (order : List Int) : List Aud := order.flatMap (twiceA o)
def wantI (o : List Nat) (p : Pbl) : List Int := (orderO o (seedS p.parts p.root).1).map Int.ofNat
def mvF (o : List Nat) (p : Pbl) : List Aud := if recF p = [] ∧ p.ents.length ≤ 4000 then movedF (wantI o p) p.order else []
/-- The findings, in the order in which Check finds them. -/
def checkF (o : List Nat) (p : Pbl) : List Aud := recF p ++ mvF o p ++ twiceF o p.order ++ (servedSt p.order p.served p.served.length).2
def checkS (o : List Nat) (p : Pbl) : List Aud := sortA (checkF o p)

theorem entF_nil {l : List Pty} : entF l = [] ↔ ∀ i, i < l.length → validB (l.getD i zP) = true := by
  unfold entF
  rw [List.flatMap_eq_nil_iff]
  constructor
  · intro h i hi
    have := h i (List.mem_range.2 hi)
    cases hv : validB (l.getD i zP) with
    | true => rfl
    | false => rw [hv] at this; cases this
  · intro h i hi
    rw [h i (List.mem_range.1 hi)]
    rfl
theorem heads_lt {o : List Nat} {i : Nat} (h : i ∈ headsO o) : i < o.length ∧ o.getD i 0 = i := by
  unfold headsO at h
  rw [List.mem_filter, List.mem_range] at h
  exact ⟨h.1, by simpa using h.2⟩
theorem heads_nodup (o : List Nat) : (headsO o).Nodup := List.Pairwise.filter _ List.nodup_range
theorem heads_mem {o : List Nat} {i : Nat} (hi : i < o.length) (h : o.getD i 0 = i) : i ∈ headsO o := by
  unfold headsO
  rw [List.mem_filter, List.mem_range]
  exact ⟨hi, by simpa using h⟩
theorem order_length (o : List Nat) (seed : List UInt8) : (orderO o seed).length = (headsO o).length := by simp [orderO, shufS_length]
theorem order_at (o : List Nat) (seed : List UInt8) {k : Nat} (hk : k < (headsO o).length) : (orderO o seed).getD k 0 = (headsO o).getD ((shufS seed (headsO o).length).getD k 0) 0 ∧ (shufS seed (headsO o).length).getD k 0 < (headsO o).length := by
  have hp := perm_S seed (headsO o).length
  refine ⟨?_, hp.2.1 k hk⟩
  unfold orderO
  rw [List.getD_eq_getElem?_getD, List.getElem?_map, List.getD_eq_getElem?_getD, List.getElem?_eq_getElem (by rw [hp.1]; exact hk)]
  simp [List.getD_eq_getElem?_getD, List.getElem?_eq_getElem (show k < (shufS seed (headsO o).length).length by rw [hp.1]; exact hk)]
theorem order_head (o : List Nat) (seed : List UInt8) {k : Nat} (hk : k < (orderO o seed).length) : (orderO o seed).getD k 0 ∈ headsO o := by
  rw [order_length] at hk
  obtain ⟨h1, h2⟩ := order_at o seed hk
  rw [h1, List.getD_eq_getElem?_getD, List.getElem?_eq_getElem h2]
  exact List.getElem_mem h2
theorem order_inj (o : List Nat) (seed : List UInt8) {j k : Nat} (hj : j < (orderO o seed).length) (hk : k < (orderO o seed).length) (e : (orderO o seed).getD j 0 = (orderO o seed).getD k 0) : j = k := by
  rw [order_length] at hj hk
  obtain ⟨h1, h2⟩ := order_at o seed hj
  obtain ⟨h3, h4⟩ := order_at o seed hk
  rw [h1, h3] at e
  have hn := heads_nodup o
  have e2 : (shufS seed (headsO o).length).getD j 0 = (shufS seed (headsO o).length).getD k 0 := by
    generalize (shufS seed (headsO o).length).getD j 0 = x at h2 e ⊢
    generalize (shufS seed (headsO o).length).getD k 0 = y at h4 e ⊢
    rw [List.getD_eq_getElem?_getD, List.getD_eq_getElem?_getD, List.getElem?_eq_getElem h2, List.getElem?_eq_getElem h4] at e
    exact (List.getElem_inj hn).1 e
  exact (perm_S seed (headsO o).length).2.2 j k hj hk e2
end Go.Proofs.YtjddngbgbbbefaaGreatDoor
