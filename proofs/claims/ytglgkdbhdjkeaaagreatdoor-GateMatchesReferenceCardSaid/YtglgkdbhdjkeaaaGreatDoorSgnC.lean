/-
  sign.digits, Sign, Verify.
  sign.Sign, Verify.
-/
import Derived.Test.YtglgkdbhdjkeaaaGreatDoorSgnA
import Derived.Test.YtglgkdbhdjkeaaaGreatDoorConv
import Derived.Laws.CopyOwn
namespace Go.Proofs.YtglgkdbhdjkeaaaGreatDoor
open Go.RowKit Go.Shelf

/-- The digits of a message and their check. -/
def restN (h : List UInt8) : Nat := h.foldl (fun r c => r + (15 - hexN c)) 0
def digs (h : List UInt8) : List Nat := h.map hexN ++ [restN h / 16, restN h % 16]
theorem idx_any (c : UInt8) (w : World) : Calls Tryz.prog 100 #[.string ⟨#[48, 49, 50, 51, 52, 53, 54, 55, 56, 57, 97, 98, 99, 100, 101, 102]⟩, .int .u8 (c.toNat : Int)] w fun e w' => e = .returned (.int .i64 (Lib.indexByte cutset c)) ∧ w = w' :=
  (Tryz.strings_IndexByte _ _ w).mono fun e w' ⟨he, hw⟩ => ⟨by rw [he]; simp [cutset], hw.symm⟩
def digTab (h : List UInt8) (k : Nat) : Array Value := ((List.range 18).map fun i => Value.int .i64 (if i < k then (hexN (h.getD i 0) : Nat) else 0)).toArray
theorem digTab_get (h : List UInt8) (k i : Nat) (hi : i < 18) : (digTab h k)[i]? = some (.int .i64 (if i < k then (hexN (h.getD i 0) : Nat) else 0)) := by
  simp [digTab, hi]
theorem digTab_zero (h : List UInt8) : digTab h 0 = #[.int .i64 0, .int .i64 0, .int .i64 0, .int .i64 0, .int .i64 0, .int .i64 0, .int .i64 0, .int .i64 0, .int .i64 0, .int .i64 0, .int .i64 0, .int .i64 0, .int .i64 0, .int .i64 0, .int .i64 0, .int .i64 0, .int .i64 0, .int .i64 0] := rfl
theorem digTab_set (h : List UInt8) (k : Nat) (hk : k < 18) : (digTab h k).setIfInBounds k (.int .i64 (hexN (h.getD k 0) : Nat)) = digTab h (k + 1) := by
  apply Array.ext_getElem?
  intro i
  rw [Array.getElem?_setIfInBounds]
  have hsz : ∀ j, (digTab h j).size = 18 := fun j => by simp [digTab]
  by_cases hi : i < 18
  · rw [digTab_get h (k + 1) i hi]
    by_cases he : k = i
    · subst he
      rw [if_pos rfl, if_pos (by rw [hsz]; exact hi), if_pos (by omega)]
    · rw [if_neg he, digTab_get h k i hi]
      by_cases h1 : i < k
      · rw [if_pos h1, if_pos (by omega)]
      · rw [if_neg h1, if_neg (by omega)]
  · rw [if_neg (by omega), Array.getElem?_eq_none (by rw [hsz]; omega), Array.getElem?_eq_none (by rw [hsz]; omega)]
theorem digTab_end (h : List UInt8) (hl : h.length = 16) : ((digTab h 16).setIfInBounds 16 (.int .i64 ((restN h : Int) / 16))).setIfInBounds 17 (.int .i64 ((restN h : Int) % 16)) = ((digs h).map fun (d : Nat) => Value.int .i64 (d : Int)).toArray := by
  apply Array.ext_getElem?
  intro i
  have hsz : ∀ j, (digTab h j).size = 18 := fun j => by simp [digTab]
  have hds : (digs h).length = 18 := by simp [digs, hl]
  rw [Array.getElem?_setIfInBounds, Array.getElem?_setIfInBounds]
  by_cases h17 : 17 = i
  · subst h17
    simp [hsz, digs, hl]
  · rw [if_neg h17]
    by_cases h16 : 16 = i
    · subst h16
      simp [hsz, digs, hl]
    · rw [if_neg h16]
      by_cases hi : i < 16
      · rw [digTab_get h 16 i (by omega), if_pos hi]
        simp [digs, hl, hi, List.getElem?_append_left, List.getD_eq_getElem?_getD]
      · rw [Array.getElem?_eq_none (by rw [hsz]; omega), Array.getElem?_eq_none (by simp [hds]; omega)]
theorem restN_snoc (h : List UInt8) (k : Nat) (hk : k < h.length) : restN (h.take (k + 1)) = restN (h.take k) + (15 - hexN (h.getD k 0)) := by
  unfold restN
  rw [List.take_succ_eq_append_getElem hk, List.foldl_append, List.getD_eq_getElem?_getD, List.getElem?_eq_getElem hk]
  rfl
theorem restN_le (h : List UInt8) : restN h ≤ 15 * h.length := by
  have key : ∀ (l : List UInt8) (r : Nat), l.foldl (fun r c => r + (15 - hexN c)) r ≤ r + 15 * l.length := by
    intro l
    induction l with
    | nil => intro r; simp
    | cons c l ih => intro r; have := ih (r + (15 - hexN c)); simp only [List.foldl_cons, List.length_cons]; omega
  have := key h 0
  unfold restN; omega

set_option maxRecDepth 100000 in
set_option maxHeartbeats 1000000 in
theorem digits_any (l : List UInt8) (w : World) (hl : l.length ≤ 9223372036854775807) (hT : Tabs w) :
    Calls Tryz.prog 76 #[.string ⟨l.toArray⟩] w fun e w' => e = .returned (.agg ((digs (dsum l)).map fun (d : Nat) => Value.int .i64 (d : Int)).toArray) ∧ Below w.heap.size w w' := by
  have HT := Lib.hid hT
  clear hT
  have hsum := dsum_length l
  have hall := hexS_hex
  go_enter Tryz.func76, Tryz.ntmps76
  go_wp2_with fail
  refine (sum_any ⟨l.toArray⟩ _ (by rw [ba_size]; exact hl) (HT.out.hex.fr (((Fr.refl [] w).alloc _).alloc _) (by simp))).mono ?_
  rintro e w1 ⟨rfl, hb1⟩
  obtain ⟨c, w2, hrun, hf2, hlt2, hcells⟩ := conv_bytes w1 (dsum l)
  rw [hsum] at hrun hcells
  go_wp2_with fail
  have hlen : (dsum l).length = 16 := dsum_length l
  have hhex : (dsum l).all hexC = true := hexS_hex _
  clear hsum
  generalize hh : dsum l = h at hcells hlen hhex ⊢
  have EH := Lib.hid hh
  clear hh
  have HH := Lib.hid hhex
  have HL := Lib.hid hlen
  clear hhex hlen
  go_loopg [4, 11] 16 (fun g r i wr => ∃ k : Nat, k ≤ 16 ∧ g = 16 - k ∧ i = .int .i64 (k : Int) ∧ r = .int .i64 (restN (h.take k) : Int) ∧ wr.heap[w.heap.size + 1]? = some (.cells (digTab h k) 109 (0, 0)) ∧ Fr [w.heap.size + 1] w2 wr)
  case atStart =>
    refine ⟨0, by omega, by omega, rfl, rfl, ?_, Fr.refl _ _⟩
    rw [digTab_zero]
    exact hf2.at (((Fr.refl [] _).below hb1 (Nat.le_refl _)).at (heap_new (by simp)) (by simp)) (by simp)
  case round =>
    obtain ⟨k, hk, hg, rfl, rfl, hB, hfr⟩ := hrel
    have HG := Lib.hid hg
    have hw1 : w.heap.size + 2 ≤ w1.heap.size := by have := hb1.size; simpa using this
    have hw2 := hf2.size
    clear hg
    by_cases hlt : k < 16
    · have hc1 := hfr.cell (hcells k hlt) (by simp; omega)
      have hx := index_hex (h.getD k 0) (List.all_eq_true.1 HH.out _ (by rw [List.getD_eq_getElem?_getD, List.getElem?_eq_getElem (by have := HL.out; omega)]; exact List.getElem_mem _))
      have HR := Lib.hid (restN_snoc h k (by have := HL.out; omega))
      have HS := Lib.hid (digTab_set h k (by omega))
      have hr1 : restN (h.take k) ≤ 240 := by have h1 := restN_le (h.take k); have h2 : (h.take k).length ≤ 16 := (by rw [List.length_take]; omega); omega
      have hc2 := row_cell hB k
      rw [digTab_get h k k (by omega)] at hc2
      have hf3 := row_free hB k
      have HB := Lib.hid hB
      obtain ⟨d, hd, ed⟩ : ∃ d, d < 16 ∧ d = hexN (h.getD k 0) := ⟨_, hx.2, rfl⟩
      have HX := Lib.hid hx.1
      rw [← ed] at HX HS HR
      have hbyte : (h.getD k 0).toNat < 256 := (h.getD k 0).toNat_lt
      generalize hcc : h.getD k 0 = cb at *
      clear hB hx ed hcc
      have hcs : (15 : Int) - (d : Int) = ((15 - d : Nat) : Int) := by omega
      have hfr' : Fr [w.heap.size + 1] w2 (wr.setCell ⟨w.heap.size + 1, k, none⟩ (.int .i64 (d : Int))) := hfr.setCell _ _ (by simp)
      have hB' := row_set HB.out k (.int .i64 (d : Int))
      rw [HS.out] at hB'
      have HB' := Lib.hid hB'
      clear hB' hfr HB
      go_wp2_with fail
      refine (idx_any cb wr).mono ?_
      rintro e w3 ⟨rfl, rfl⟩
      rw [HX.out]
      go_wp2_with fail
      go_roundg (16 - (k + 1))
      case measure => have := HG.out; omega
      case rel => exact ⟨k + 1, by omega, rfl, by go_num, by rw [HR.out]; go_num, HB'.out, hfr'⟩
    · obtain rfl : k = 16 := by omega
      have hr2 : h.take 16 = h := List.take_of_length_le (by have := HL.out; omega)
      have hr1 : restN h ≤ 240 := by have h1 := restN_le h; have := HL.out; omega
      rw [hr2]
      have b16 := row_cell hB 16
      have b17 := row_cell hB 17
      rw [digTab_get h 16 16 (by decide)] at b16
      rw [digTab_get h 16 17 (by decide)] at b17
      have f16 := row_free hB 16
      have f17 := row_free hB 17
      have ha : wr.heap[w.heap.size]? = some (.cells #[.int .i64 0, .int .i64 0, .int .i64 0, .int .i64 0, .int .i64 0, .int .i64 0, .int .i64 0, .int .i64 0, .int .i64 0, .int .i64 0, .int .i64 0, .int .i64 0, .int .i64 0, .int .i64 0, .int .i64 0, .int .i64 0, .int .i64 0, .int .i64 0] 109 (0, 0)) :=
        hfr.at (hf2.at (((Fr.refl [] _).below hb1 (Nat.le_refl _)).at (heap_past _ (heap_new rfl)) (by simp)) (by simp)) (by simp)
      have HB := Lib.hid hB
      have HA := Lib.hid ha
      clear hr2 hB ha
      obtain ⟨X, hX⟩ : ∃ X, X = ((digTab h 16).setIfInBounds 16 (.int .i64 ((restN h : Int) / 16))).setIfInBounds 17 (.int .i64 ((restN h : Int) % 16)) := ⟨_, rfl⟩
      have hXs : X.size = 18 := by rw [hX]; simp [digTab]
      have hXd : X = ((digs h).map fun (d : Nat) => Value.int .i64 (d : Int)).toArray := by rw [hX]; exact digTab_end h HL.out
      have hX1 : X.all (·.oneCell') = true := by rw [hXd]; simp [Value.oneCell']
      have HX := Lib.hid hXd
      have HX1 := Lib.hid hX1
      have HXS := Lib.hid hXs
      have hg : ((wr.setCell ⟨w.heap.size + 1, 16, none⟩ (.int .i64 ((restN h : Int) / 16))).setCell ⟨w.heap.size + 1, 17, none⟩ (.int .i64 ((restN h : Int) % 16))).heap[w.heap.size + 1]? = some (.cells X 109 (0, 0)) := by
        rw [hX]; exact row_set (row_set HB.out 16 _) 17 _
      have hg2 : ((wr.setCell ⟨w.heap.size + 1, 16, none⟩ (.int .i64 ((restN h : Int) / 16))).setCell ⟨w.heap.size + 1, 17, none⟩ (.int .i64 ((restN h : Int) % 16))).heap[w.heap.size]? = some (.cells #[.int .i64 0, .int .i64 0, .int .i64 0, .int .i64 0, .int .i64 0, .int .i64 0, .int .i64 0, .int .i64 0, .int .i64 0, .int .i64 0, .int .i64 0, .int .i64 0, .int .i64 0, .int .i64 0, .int .i64 0, .int .i64 0, .int .i64 0, .int .i64 0] 109 (0, 0)) :=
        heap_other (heap_other HA.out _ _ (by simp)) _ _ (by simp)
      have HGX := Lib.hid hg
      have HG2 := Lib.hid hg2
      clear hX hXd hX1 hXs hg hg2
      go_wp2_with (first | (refine wpList_load_row rfl 109 _ rfl (w.heap.size + 1) rfl 109 X (0, 0) _ HGX.out Tryz.underlying109 rfl (by rw [HXS.out]; kernel_rfl) ?_) | (refine wpList_store_row rfl 109 _ _ rfl w.heap.size X rfl rfl 109 _ HG2.out (by rw [HXS.out]; kernel_rfl) (by rw [HXS.out]; rfl) HX1.out ?_))
      refine bodyPost_ret (v := .agg X) (results_cell_row rfl _ _ w.heap.size 109 X (0, 0) _ rfl (setRow_heap _ _ _ _ _ _ HG2.out) Tryz.underlying109 rfl (by rw [HXS.out]; kernel_rfl)) rfl ?_
      refine ⟨by rw [HX.out, EH.out], ?_⟩
      have h1 : Fr [] w w1 := (((Fr.refl [] w).alloc _).alloc _).below hb1 (by simp; omega)
      have h2 : Fr [] w w2 := h1.trans hf2 (by simp)
      have h3 : Fr [] w wr := h2.trans hfr (by simp)
      have h4 := (h3.setCell ⟨w.heap.size + 1, 16, none⟩ (.int .i64 ((restN h : Int) / 16)) (by simp)).setCell ⟨w.heap.size + 1, 17, none⟩ (.int .i64 ((restN h : Int) % 16)) (by simp)
      exact below_setRow (h4.toBelow (by simp)) (Nat.le_refl _) _
end Go.Proofs.YtglgkdbhdjkeaaaGreatDoor
namespace Go.Proofs.YtglgkdbhdjkeaaaGreatDoor
open Go.RowKit Go.Shelf

def digsV (h : List UInt8) : Array Value := ((digs h).map fun (d : Nat) => Value.int .i64 (d : Int)).toArray
theorem digs_length (l : List UInt8) : (digs (dsum l)).length = 18 := by simp [digs, dsum_length]
theorem digsV_size (l : List UInt8) : (digsV (dsum l)).size = 18 := by simp [digsV, digs_length]
theorem digsV_one (l : List UInt8) : (digsV (dsum l)).all (·.oneCell') = true := by simp [digsV, Value.oneCell']
theorem digsV_get (l : List UInt8) (i : Nat) (hi : i < 18) : (digsV (dsum l))[i]? = some (.int .i64 ((digs (dsum l)).getD i 0 : Nat)) := by
  have := digs_length l
  simp [digsV, List.getD_eq_getElem?_getD, List.getElem?_eq_getElem (show i < (digs (dsum l)).length by omega)]
theorem digs_lt (l : List UInt8) (i : Nat) (hi : i < 18) : (digs (dsum l)).getD i 0 ≤ 15 := by
  have hall := hexS_hex
  have hlen := dsum_length l
  have hhex : (dsum l).all hexC = true := hexS_hex _
  have hr : restN (dsum l) ≤ 240 := by have := restN_le (dsum l); omega
  rw [List.getD_eq_getElem?_getD]
  unfold digs
  rcases Nat.lt_or_ge i 16 with h | h
  · rw [List.getElem?_append_left (by simpa [hlen] using h), List.getElem?_map, List.getElem?_eq_getElem (by omega)]
    have := (index_hex _ (List.all_eq_true.1 hhex _ (List.getElem_mem (show i < (dsum l).length by omega)))).2
    simp; omega
  · rw [List.getElem?_append_right (by simpa [hlen] using h)]
    simp only [List.length_map, hlen]
    obtain rfl | rfl : i = 16 ∨ i = 17 := by omega
    · simp; omega
    · simp; omega

def sigS (secret message : List UInt8) : List (List UInt8) := (List.finRange 18).map fun i => dchain (startS secret i.val) ((digs (dsum message)).getD i.val 0 : Nat)

theorem heap_setRow {w : World} {g : Nat} {cs cs' : Array Value} {t : TypeId} {fr : Nat × Nat} (h : w.heap[g]? = some (.cells cs t fr)) : (w.setRow g cs').heap[g]? = some (.cells cs' t fr) := setRow_heap _ _ _ _ _ _ h
theorem Fr.setRow {X : List Nat} {a b : World} (h : Fr X a b) (g : Nat) (cs : Array Value) (hp : g ∈ X ∨ a.heap.size ≤ g) : Fr X a (b.setRow g cs) :=
  h.trans (Y := [g]) ⟨rfl, rfl, rfl, by simp [World.setRow], fun k _ hk => setRow_other b g k cs (by simpa using hk)⟩ (by simpa using hp)

abbrev zero18 : Array Value := #[.int .i64 0, .int .i64 0, .int .i64 0, .int .i64 0, .int .i64 0, .int .i64 0, .int .i64 0, .int .i64 0, .int .i64 0, .int .i64 0, .int .i64 0, .int .i64 0, .int .i64 0, .int .i64 0, .int .i64 0, .int .i64 0, .int .i64 0, .int .i64 0]

theorem row_ne {W : World} {B : Nat} {cs : Array Value} {t e : TypeId} {fr : Nat × Nat} (h : W.heap[B]? = some (.cells cs t fr)) (hte : t ≠ e) {base size k : Nat} {v : Value} {xs : List Value} (hr : W.ownsRow base e size v k xs) : some B ≠ v.ownBlock := by
  rcases hr.2 with ⟨rfl, _⟩ | ⟨g, cap, cur, rfl, _, hgb, _⟩
  · simp [Value.ownBlock]
  · intro e'
    obtain rfl : B = g := by simpa [Value.ownBlock] using e'
    rw [h] at hgb
    simp at hgb
    exact hte hgb.2.1

/-- The ends that a signature leads to for a message. -/
def vends (message : List UInt8) (sig : List (List UInt8)) : List (List UInt8) := sig.zipIdx.map fun p => dchain p.1 (15 - ((digs (dsum message)).getD p.2 0 : Nat))
def verifyS (pub message : List UInt8) (sig : List (List UInt8)) : Bool := sig.length == 18 && sig.all isD && dlist (vends message sig) == pub
theorem vends_snoc (m : List UInt8) (sig : List (List UInt8)) (k : Nat) (hk : k < sig.length) : vends m (sig.take (k + 1)) = vends m (sig.take k) ++ [dchain (sig.getD k []) (15 - ((digs (dsum m)).getD k 0 : Nat))] := by
  unfold vends
  rw [List.take_succ_eq_append_getElem hk, List.zipIdx_append, List.map_append, List.getD_eq_getElem?_getD, List.getElem?_eq_getElem hk]
  simp [List.length_take, Nat.min_eq_left (Nat.le_of_lt hk)]
theorem vends_length (m : List UInt8) (sig : List (List UInt8)) : (vends m sig).length = sig.length := by simp [vends]
theorem vends_16 (m : List UInt8) (sig : List (List UInt8)) (h : sig.all isD = true) : ∀ s ∈ vends m sig, s.length = 16 := by
  intro s hs
  obtain ⟨p, hp, rfl⟩ := List.mem_map.1 hs
  refine dchain_length' _ _ ?_
  have := List.all_eq_true.1 h p.1 (by
    have h2 := List.mem_zipIdx hp
    rw [h2.2.2]; exact List.getElem_mem _)
  simp only [isD, Bool.and_eq_true, beq_iff_eq] at this
  exact this.1

set_option maxRecDepth 100000 in
set_option maxHeartbeats 1000000 in
theorem verify_any (pub message : List UInt8) (sv : Value) (sig : List (List UInt8)) (w : World) (_hp : pub.length ≤ 1000000) (hm : message.length ≤ 1000000) (hs : ∀ s ∈ sig, s.length ≤ 1000000) (hsv : Strs w sv sig) (hT : Tabs w) :
    Calls Tryz.prog 43 #[.string ⟨pub.toArray⟩, .string ⟨message.toArray⟩, sv] w fun e w' => e = .returned (.bool (verifyS pub message sig)) ∧ Below w.heap.size w w' := by
  have HV := Lib.hid hsv
  obtain ⟨a, cap, rfl, hlen, ha⟩ := hsv.form
  clear hsv
  by_cases h18 : sig.length = 18
  · have t1 : ((sig.length : Int) != 18) = false := by rw [h18]; rfl
    obtain ⟨b, off, rfl⟩ := ha 0 (by omega)
    have H18 := Lib.hid h18
    clear h18 ha
    go_enter Tryz.func43, Tryz.ntmps43
    go_wp2_with fail
    refine (digits_any message w (by omega) hT).mono ?_
    rintro e w1 ⟨rfl, hb1⟩
    change (_ : Act → World → Prop) _ _
    rw [show ((digs (dsum message)).map fun (d : Nat) => Value.int .i64 (d : Int)).toArray = digsV (dsum message) from rfl]
    have HX1 := digsV_one message
    have HXS := Lib.hid (digsV_size message)
    have hg : (w1.alloc (.cells zero18 109)).heap[w1.heap.size]? = some (.cells zero18 109 (0, 0)) := heap_new rfl
    have HG := Lib.hid hg
    clear hg
    go_wp2_with (refine wpList_store_row rfl 109 _ _ rfl w1.heap.size (digsV (dsum message)) rfl rfl 109 _ HG.out (by rw [HXS.out]; kernel_rfl) (by rw [HXS.out]; rfl) HX1 ?_)
    have hr : ((w1.alloc (.cells zero18 109)).setRow w1.heap.size (digsV (dsum message))).heap[w1.heap.size]? = some (.cells (digsV (dsum message)) 109 (0, 0)) := heap_setRow HG.out
    have hf : Fr [] w ((w1.alloc (.cells zero18 109)).setRow w1.heap.size (digsV (dsum message))) := ((((Fr.refl [] w).below hb1 (Nat.le_refl _)).alloc _).setRow _ _ (by right; exact hb1.size))
    generalize hW : (w1.alloc (.cells zero18 109)).setRow w1.heap.size (digsV (dsum message)) = W at hr hf
    clear hW HG
    have hV0 := HV.out.fr0 hf
    obtain ⟨i0, hi, hz0, hz1, hz2⟩ := info_parts sInfo
    go_loopg [8, 18] 18 (fun g ev i wr => ∃ k : Nat, k ≤ 18 ∧ g = 18 - k ∧ i = .int .i64 (k : Int) ∧ (sig.take k).all isD = true ∧ OwnS w.heap.size wr ev (vends message (sig.take k)) ∧ wr.heap[w1.heap.size]? = some (.cells (digsV (dsum message)) 109 (0, 0)) ∧ Fr [] w wr)
    case atStart => exact ⟨0, by omega, by omega, rfl, by simp, ⟨by simp [vends], Or.inl ⟨rfl, by simp [vends]⟩⟩, hr, hf⟩
    case round =>
      obtain ⟨k, hk, hg, rfl, hall, ho, hd, hfr⟩ := hrel
      have HG := Lib.hid hg
      have HALL := Lib.hid hall
      have HO := Lib.hid ho
      have HD := Lib.hid hd
      have HR := Lib.hid hr
      have HF := Lib.hid hf
      clear hg hall ho hd hr hf
      by_cases hlt : k < 18
      · have hls : k < sig.length := by have := H18.out; omega
        have t2 : decide ((k : Int) < (sig.length : Int)) = true := by simp; exact hls
        have hcell := (HV.out.fr0 hfr).cell k hls
        have hsl := hs (sig.getD k []) (getD_mem _ _ _ hls)
        have hdc : wr.cell? ⟨w1.heap.size, k, none⟩ = some (.int .i64 ((digs (dsum message)).getD k 0 : Nat)) := by rw [row_cell HD.out k]; exact digsV_get message k hlt
        have hd15 := digs_lt message k hlt
        have HS := Lib.hid (vends_snoc message sig k hls)
        have HT2 : Hid ((sig.take (k + 1)).all isD = ((sig.take k).all isD && isD (sig.getD k []))) := by
          show _ = _
          rw [take_snoc' sig k [] hls, List.all_append]; simp only [List.all_cons, List.all_nil, Bool.and_true]
        have HSD : Hid (isD (sig.getD k []) = false → sig.all isD = false) := by
          intro h
          rw [List.all_eq_false]
          exact ⟨_, getD_mem sig k [] hls, by rw [h]; decide⟩
        generalize sig.getD k [] = s at hcell hsl HS HT2 HSD
        generalize (digs (dsum message)).getD k 0 = d at hdc hd15 HS
        cases hD : isD s with
        | false =>
          have HB := Lib.hid hD
          go_wp2_with fail
          refine (is_any s wr (by omega)).mono ?_
          rintro e w3 ⟨rfl, hb3⟩
          go_wp2_with fail
          go_ret
          have hv : verifyS pub message sig = false := by simp [verifyS, HSD.out HB.out]
          exact ⟨by rw [hv]; rfl, (hfr.below hb3 hfr.size).toBelow (by simp)⟩
        | true =>
          have HB := Lib.hid hD
          have hs16 : s.length = 16 := by simp only [isD, Bool.and_eq_true, beq_iff_eq] at hD; exact hD.1
          have HS16 := Lib.hid hs16
          clear hs16
          go_wp2_with fail
          refine (is_any s wr (by omega)).mono ?_
          rintro e w3 ⟨rfl, hb3⟩
          have hfr3 := hfr.below hb3 hfr.size
          have hdc3 : w3.cell? ⟨w1.heap.size, k, none⟩ = some (.int .i64 (d : Nat)) := (Fr.ofBelow (X := []) hb3).cell hdc (by simp)
          go_wp2_with fail
          refine (chain_any s (15 - (d : Int)) w3 (by omega) (hT.fr hfr3)).mono ?_
          rintro e w4 ⟨rfl, hb4⟩
          have hfr4 := hfr3.below hb4 hfr3.size
          have hw4 : Fr [] wr w4 := (Fr.ofBelow (X := []) hb3).below hb4 hb3.size
          have ho4 := HO.out.fr hw4 (by simp)
          have HO4 := Lib.hid ho4
          have HD4 := Lib.hid (hw4.at HD.out (by simp))
          clear ho4 hfr hcell hdc hdc3 hfr3 hb3 hb4
          go_wp2_with (at_builtin; refine wpList_append_own _ rfl _ _ 80 rfl w.heap.size 9 i0 (.string ⟨#[]⟩) 1 16 Tryz.underlying80 hi hz0 hz1 hz2 rfl (by decide) _ _ _ rfl (ownsRow_fr HO4.out ((Fr.refl [] w4).alloc _) (by simp)) ⟨w4.heap.size, 0, none⟩ 1 1 [strV (dchain s (15 - (d : Int)))] rfl rfl (cell_one_new _ _ _) (by simp [strV, Value.oneCell']) ?c3 ?c4 ?c5 ?_)
          case c3 => rw [vends_length]; unfold maxLen; have : (sig.take k).length ≤ 18 := by rw [List.length_take]; omega
                     omega
          case c4 => rw [vends_length]; have : (sig.take k).length ≤ 18 := by rw [List.length_take]; omega
                     omega
          case c5 => have := hfr4.size; simp; omega
          intro v' w5 hown' hgrow _
          obtain ⟨g', cap', rfl⟩ := ownsRow_succ hown'
          have hne := row_ne (heap_past (.cells #[.string ⟨(dchain s (15 - (d : Int))).toArray⟩] 9) HD4.out) (by decide) (ownsRow_fr HO4.out ((Fr.refl [] w4).alloc (.cells #[.string ⟨(dchain s (15 - (d : Int))).toArray⟩] 9)) (by simp))
          have hd5 := (hgrow.block w1.heap.size (by have := lt_of_block HD4.out; simp; omega) hne).trans (heap_past _ HD4.out)
          have hfr5 : Fr [] w w5 := (hfr4.alloc _).grown hgrow (fun r e => Or.inr (ownBlock_cells HO4.out r e).1)
          have HO5 := Lib.hid hown'
          have HD5 := Lib.hid hd5
          clear hown' hd5 hgrow hfr4 hne HO4 HD4
          go_wp2_with fail
          go_roundg (18 - (k + 1))
          case measure => have := HG.out; omega
          case rel =>
            refine ⟨k + 1, by omega, rfl, by go_num, ?_, ?_, HD5.out, hfr5⟩
            · rw [HT2.out, HALL.out, HB.out]; rfl
            · have := HO5.out
              rw [HS.out]
              simpa [OwnS, strV] using this
      · obtain rfl : k = 18 := by omega
        have ht : sig.take 18 = sig := List.take_of_length_le (by have := H18.out; omega)
        have HO2 : Hid (OwnS w.heap.size wr u8 (vends message sig)) := by have := HO.out; rw [ht] at this; exact this
        have HALL2 : Hid (sig.all isD = true) := by have := HALL.out; rw [ht] at this; exact this
        clear HO HALL ht
        have t2 : decide ((18 : Int) < (sig.length : Int)) = false := by have := H18.out; simp; omega
        have hfin : verifyS pub message sig = (dlist (vends message sig) == pub) := by simp [verifyS, H18.out, HALL2.out]
        have HFIN := Lib.hid hfin
        clear hfin
        go_wp2_with fail
        refine (list_any _ (vends message sig) wr HO2.out.strs ?_ (hT.fr hfr)).mono ?_
        · have h1 := joinL_bound (vends message sig) 16 (by decide) (fun s hs => by rw [vends_16 message sig HALL2.out s hs]; decide)
          rw [vends_length, H18.out] at h1; omega
        rintro e w3 ⟨rfl, hb3⟩
        go_wp2_with fail
        go_ret
        exact ⟨by rw [HFIN.out]; rfl, (hfr.below hb3 hfr.size).toBelow (by simp)⟩
  · have t1 : ((sig.length : Int) != 18) = true := by simp; omega
    have H18 := Lib.hid h18
    clear h18 ha
    go_enter Tryz.func43, Tryz.ntmps43
    go_wp2_with fail
    go_ret
    have hv : verifyS pub message sig = false := by simp [verifyS, H18.out]
    exact ⟨by rw [hv]; rfl, Below.refl _ _⟩
end Go.Proofs.YtglgkdbhdjkeaaaGreatDoor
