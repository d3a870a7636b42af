/-
  The tables of the program; slices of strings; Itoa; digest.List.
-/
import Derived.Test.YtmhejcndkplepaaDoorDigC
namespace Go.Proofs.YtmhejcndkplepaaDoor
open Go.RowKit Go.Shelf

theorem ownsRow_fr {X : List Nat} {w w' : World} {base : Nat} {e : TypeId} {size : Nat} {v : Value} {n : Nat} {xs : List Value} (h : w.ownsRow base e size v n xs) (hf : Fr X w w') (hx : ∀ k, v.ownBlock = some k → k ∉ X) : w'.ownsRow base e size v n xs := by
  obtain ⟨h1, h2⟩ := h
  refine ⟨h1, ?_⟩
  rcases h2 with h2 | ⟨g, cap, cur, hv, hb, hg, h3⟩
  · exact Or.inl h2
  · exact Or.inr ⟨g, cap, cur, hv, hb, hf.at hg (hx g (by rw [hv]; rfl)), h3⟩
theorem isBuilder_fr {w w' : World} {T e : TypeId} {B b : Nat} {bs : List Value} (h : Lib.IsBuilder T e B b bs w) (hf : Fr [] w w') : Lib.IsBuilder T e B b bs w' := by
  have key : ∀ p, Lib.BuilderAt T e B b p bs w → Lib.BuilderAt T e B b p bs w' := by
    rintro p ⟨h1, v, h2, h3, h4⟩
    exact ⟨h1, v, hf.at h2 (by simp), ownsRow_fr h3 hf (by simp), h4⟩
  exact h.elim (fun h => Or.inl (key _ h)) (fun h => Or.inr (key _ h))

/-- The package-level tables lie where they were laid. -/
structure Tabs (w : World) : Prop where
  hex : HexTab w
  pow : Lib.TabIs Tryd.prog w "internal/strconv.uint64pow10" .u64 Lib.pow10Tab
theorem gPow : Tryd.prog.globalNamed "internal/strconv.uint64pow10" = some 4 := by kernel_rfl
theorem tabIs_fr {w w' : World} {X : List Nat} {name : String} {k : IntKind} {zs : List Int} {g : Nat} (hg : Tryd.prog.globalNamed name = some g) (h : Lib.TabIs Tryd.prog w name k zs) (hf : Fr X w w') (hx : g ∉ X) : Lib.TabIs Tryd.prog w' name k zs := by
  unfold Lib.TabIs World.var? at *
  simp only [hg, Option.bind_some] at h ⊢
  have hlt : g < w.heap.size := by
    rcases Nat.lt_or_ge g w.heap.size with h' | h'
    · exact h'
    · rw [Array.getElem?_eq_none h'] at h; cases h
  rw [hf.block g hlt hx]
  exact h
theorem Tabs.fr {w w' : World} (h : Tabs w) (hf : Fr [] w w') : Tabs w' := ⟨h.hex.fr hf (by simp), tabIs_fr gPow h.pow hf (by simp)⟩
theorem Tabs.below {w w' : World} {B : Nat} (h : Tabs w) (hb : Below B w w') (hB : w.heap.size ≤ B) : Tabs w' := h.fr ((Fr.refl [] w).below hb hB)

theorem itoa_any (n : Nat) (w : World) (h : n ≤ 9223372036854775807) (hT : Tabs w) :
    Calls Tryd.prog 82 #[.int .i64 (n : Int)] w fun e w' => e = .returned (.string ⟨(Lib.decDigits n).toArray⟩) ∧ Below w.heap.size w w' := by
  refine (Tryd.strconv_Itoa n (by omega) (by omega) w hT.pow).mono ?_
  rintro e w' ⟨rfl, k, os, rfl⟩
  refine ⟨by rw [Lib.itoa_nonneg], rfl, rfl, rfl, ?_, ?_⟩
  · simp [Go.Sort.grow, World.drewN]
  · intro i hi
    simp only [Go.Sort.grow, World.drewN] at hi ⊢
    rw [Array.getElem?_append_left (by simpa using hi)]

/-- The value is a slice of strings: nil, or cells that hold them. -/
def Strs (w : World) (v : Value) (l : List (List UInt8)) : Prop :=
  (v = .slice none 0 0 ∧ l = []) ∨ ∃ b off cap, v = .slice (some ⟨b, off, none⟩) l.length cap ∧ l.length ≤ cap ∧ cap ≤ 9223372036854775807 ∧ b < w.heap.size ∧
    ∀ i, i < l.length → w.cell? ⟨b, off + i, none⟩ = some (.string ⟨(l.getD i []).toArray⟩)
theorem Strs.fr {X : List Nat} {w w' : World} {v : Value} {l : List (List UInt8)} (h : Strs w v l) (hf : Fr X w w') (hx : ∀ b, v.ownBlock = some b → b ∉ X) : Strs w' v l := by
  rcases h with h | ⟨b, off, cap, hv, h1, h2, h3, h4⟩
  · exact Or.inl h
  · exact Or.inr ⟨b, off, cap, hv, h1, h2, Nat.lt_of_lt_of_le h3 hf.size, fun i hi => hf.cell (h4 i hi) (hx b (by rw [hv]; rfl))⟩
theorem Strs.fr0 {w w' : World} {v : Value} {l : List (List UInt8)} (h : Strs w v l) (hf : Fr [] w w') : Strs w' v l := h.fr hf (by simp)
theorem Strs.form {w : World} {v : Value} {l : List (List UInt8)} (h : Strs w v l) : ∃ a cap, v = .slice a l.length cap ∧ l.length ≤ 9223372036854775807 ∧ (∀ i, i < l.length → ∃ b off, a = some ⟨b, off, none⟩) := by
  rcases h with ⟨rfl, rfl⟩ | ⟨b, off, cap, hv, h1, h2, h3, h4⟩
  · exact ⟨none, 0, rfl, by simp, fun i hi => by simp at hi⟩
  · exact ⟨_, cap, hv, by omega, fun i _ => ⟨b, off, rfl⟩⟩

/-- One element as digest.List writes it; a list of them. -/
def joinE (s : List UInt8) : List UInt8 := Lib.decDigits s.length ++ 58 :: s
def joinL (l : List (List UInt8)) : List UInt8 := l.flatMap joinE
def dlist (l : List (List UInt8)) : List UInt8 := dsum (joinL l)
theorem joinL_snoc (l : List (List UInt8)) (k : Nat) (hk : k < l.length) : joinL (l.take (k + 1)) = joinL (l.take k) ++ joinE (l.getD k []) := by
  unfold joinL
  rw [List.take_succ_eq_append_getElem hk, List.flatMap_append, List.flatMap_singleton, List.getD_eq_getElem?_getD, List.getElem?_eq_getElem hk]
  rfl
theorem joinE_le (l : List (List UInt8)) (k : Nat) (hk : k < l.length) : (joinL (l.take k)).length + (joinE (l.getD k [])).length ≤ (joinL l).length := by
  have h1 := joinL_snoc l k hk
  have h2 : (joinL (l.take (k + 1))).length ≤ (joinL l).length := by
    unfold joinL
    conv => rhs; rw [← List.take_append_drop (k + 1) l]
    rw [List.flatMap_append, List.length_append]
    omega
  rw [h1, List.length_append] at h2
  exact h2
theorem Strs.cell {w : World} {b off cap : Nat} {l : List (List UInt8)} (h : Strs w (.slice (some ⟨b, off, none⟩) l.length cap) l) (k : Nat) (hk : k < l.length) : w.cell? ⟨b, off + k, none⟩ = some (.string ⟨(l.getD k []).toArray⟩) := by
  rcases h with ⟨h, _⟩ | ⟨b', off', cap', hv, _, _, _, h4⟩
  · cases h
  · cases hv; exact h4 k hk
theorem joinL_le (l : List (List UInt8)) (k : Nat) : (joinL (l.take k)).length ≤ (joinL l).length := by
  unfold joinL
  conv => rhs; rw [← List.take_append_drop k l]
  rw [List.flatMap_append, List.length_append]
  omega

set_option maxRecDepth 100000 in
set_option maxHeartbeats 1000000 in
theorem list_any (v : Value) (l : List (List UInt8)) (w : World) (hv : Strs w v l) (hl : (joinL l).length ≤ 140737488355328) (hT : Tabs w) :
    Calls Tryd.prog 49 #[v] w fun e w' => e = .returned (.string ⟨(dlist l).toArray⟩) ∧ Below w.heap.size w w' := by
  have hv0 := hv
  obtain ⟨a, cap, rfl, hlen, ha⟩ := hv.form
  have HV := Lib.hid hv0
  have HT := Lib.hid hT
  clear hv hv0 hT
  go_enter Tryd.func49, Tryd.ntmps49
  go_wp2_with fail
  go_loopg [8] l.length (fun g i wr => ∃ k : Nat, k ≤ l.length ∧ g = l.length - k ∧ i = .int .i64 (k : Int) ∧ Lib.IsBuilder 98 5 w.heap.size w.heap.size (Lib.byteCells (joinL (l.take k))) wr ∧ Fr [] w wr)
  case atStart => exact ⟨0, Nat.zero_le _, by omega, rfl, Lib.fresh_isBuilder _ _ _, (Fr.refl _ w).alloc _⟩
  case round =>
    obtain ⟨k, hk, hg, rfl, hbu, hfr⟩ := hrel
    have HG := Lib.hid hg
    have HB := Lib.hid hbu
    clear hg hbu
    by_cases hlt : k < l.length
    · obtain ⟨b, off, rfl⟩ := ha k hlt
      have hcell := (HV.out.fr0 hfr).cell k hlt
      have hE := joinE_le l k hlt
      have HS := Lib.hid (joinL_snoc l k hlt)
      generalize l.getD k [] = s at hcell hE HS
      have hd : (Lib.decDigits s.length).length + (s.length + 1) ≤ 140737488355328 := by simp only [joinE, List.length_append, List.length_cons] at hE; omega
      have hsl : s.length ≤ 140737488355328 := by simp only [joinE, List.length_append, List.length_cons] at hE; omega
      have hsz : (ByteArray.mk s.toArray).size = s.length := by simp [ByteArray.size]
      go_wp2_with fail
      refine (itoa_any s.length wr (by omega) (HT.out.fr hfr)).mono ?_
      rintro e w1 ⟨rfl, hb1⟩
      have hfr1 : Fr [] w w1 := hfr.below hb1 hfr.size
      have HB1 := Lib.hid (isBuilder_fr HB.out (Fr.ofBelow hb1))
      clear hfr hb1 HB hcell
      go_wp2_with fail
      rw [show (⟨(Lib.decDigits s.length).toArray⟩ : ByteArray) ++ ⟨#[58]⟩ ++ ⟨s.toArray⟩ = ⟨(joinE s).toArray⟩ by
        rw [show (⟨#[58]⟩ : ByteArray) = ⟨[58].toArray⟩ by rfl, ba_append, ba_append]; simp [joinE]]
      refine (writeString_any w.heap.size w.heap.size _ ⟨(joinE s).toArray⟩ w1 HB1.out (by rw [Lib.byteCells_length, ba_size]; omega) hfr1.size).mono ?_
      rintro e w2 ⟨rfl, hB2, hb2⟩
      have hfr2 : Fr [] w w2 := hfr1.below hb2 (Nat.le_refl _)
      have HB2 : Hid (Lib.IsBuilder 98 5 w.heap.size w.heap.size (Lib.byteCells (joinL (l.take (k + 1)))) w2) := by
        rw [HS.out, Lib.byteCells_append]; exact hB2
      clear hB2 hfr1 hb2 HB1
      go_wp2_with fail
      go_roundg (l.length - (k + 1))
      case measure => have := HG.out; omega
      case rel => exact ⟨k + 1, by omega, rfl, by go_num, HB2.out, hfr2⟩
    · obtain rfl : k = l.length := by omega
      have HB1 : Hid (Lib.IsBuilder 98 5 w.heap.size w.heap.size (Lib.byteCells (joinL l)) wr) := by have := HB.out; rw [List.take_length] at this; exact this
      clear HB
      go_wp2_with fail
      refine (Tryd.Builder_String_any w.heap.size w.heap.size (joinL l) wr HB1.out hfr.size).mono ?_
      rintro e w1 ⟨rfl, hb1⟩
      have hfr1 : Fr [] w w1 := hfr.below hb1 (Nat.le_refl _)
      clear hfr hb1
      go_wp2_with fail
      refine (sum_any ⟨(joinL l).toArray⟩ w1 (by simp [ByteArray.size]; omega) (HT.out.hex.fr hfr1 (by simp))).mono ?_
      rintro e w2 ⟨rfl, hb2⟩
      go_wp2_with fail
      go_ret
      exact ⟨rfl, (hfr1.below hb2 hfr1.size).toBelow (by simp)⟩
end Go.Proofs.YtmhejcndkplepaaDoor
