/-
  Gates of the reference: Same, time, last, Log, New.
-/
import Derived.Test.YtglgkdbhdjkeaaaGreatDoorOps
import Derived.Test.YtglgkdbhdjkeaaaGreatDoorPlnGa
namespace Go.Proofs.YtglgkdbhdjkeaaaGreatDoor
open Go.RowKit

/-- Words that lie in none of some blocks. -/
def WsX (X : List Nat) (w : World) (v : Value) (l : List Nat) : Prop := Ws w v l ∧ ((l = [] ∧ ∃ a, v = .slice a 0 0) ∨ ∀ k, v.ownBlock = some k → k < w.heap.size ∧ k ∉ X)
theorem WsX.step {X X' Y : List Nat} {w w' : World} {v : Value} {l : List Nat} (h : WsX X w v l) (hf : Fr Y w w') (hy : ∀ k ∈ Y, k ∈ X) (hx : ∀ k ∈ X', k ∈ X ∨ w.heap.size ≤ k) : WsX X' w' v l := by
  obtain ⟨h1, h2 | h2⟩ := h
  · exact ⟨Or.inl h2, Or.inl h2⟩
  · exact ⟨h1.frX hf (fun k hk hm => (h2 k hk).2 (hy k hm)), Or.inr fun k hk => ⟨Nat.lt_of_lt_of_le (h2 k hk).1 hf.size, fun hm => by
      rcases hx k hm with h3 | h3
      · exact (h2 k hk).2 h3
      · have := (h2 k hk).1
        omega⟩⟩
theorem Ws.toX {X : List Nat} {w0 w : World} {v : Value} {l : List Nat} (h : Ws w0 v l) (hf : Fr [] w0 w) (hx : ∀ k ∈ X, w0.heap.size ≤ k) : WsX X w v l := by
  rcases h with h | ⟨b, off, cap, rfl, h1, h2, h3, h4⟩
  · exact ⟨Or.inl h, Or.inl h⟩
  · refine ⟨Ws.fr0 (Or.inr ⟨b, off, cap, rfl, h1, h2, h3, h4⟩) hf, Or.inr fun k hk => ?_⟩
    obtain rfl : b = k := by simpa [Value.ownBlock] using hk
    exact ⟨Nat.lt_of_lt_of_le h3 hf.size, fun hm => by have := hx b hm; omega⟩
theorem Ws.newX {X : List Nat} {w : World} {n : Nat} {v : Value} {l : List Nat} (h : Ws w v l) (hn : ∀ k, v.ownBlock = some k → n ≤ k) (hx : ∀ k ∈ X, k < n) : WsX X w v l := by
  refine ⟨h, ?_⟩
  rcases h with h | ⟨b, off, cap, rfl, h1, h2, h3, h4⟩
  · exact Or.inl h
  · refine Or.inr fun k hk => ?_
    have h5 := hn k hk
    obtain rfl : b = k := by simpa [Value.ownBlock] using hk
    exact ⟨h3, fun hm => by have := hx b hm; omega⟩

set_option maxRecDepth 100000 in
set_option maxHeartbeats 1000000 in
theorem rsame37_any (av bv : Value) (la lb : List Scn) (w : World) (ha : Scs w av la) (hb : Scs w bv lb) :
    Calls Tryz.prog 19 #[av, bv] w fun e w' => e = .returned (.bool (decide (la = lb))) ∧ Below w.heap.size w w' := by
  have HA := Lib.hid ha
  have HB := Lib.hid hb
  obtain ⟨aa, acap, rfl, hla, hla9, hfa⟩ := ha.form
  obtain ⟨ab, bcap, rfl, hlb, hlb9, hfb⟩ := hb.form
  clear ha hb
  by_cases hlen : la.length = lb.length
  · have t1 : ((la.length : Int) != (lb.length : Int)) = false := by rw [hlen]; simp
    have HLEN := Lib.hid hlen
    clear hlen
    go_enter Tryz.func19, Tryz.ntmps19
    go_wp2_with fail
    go_loopg [5] (la.length + 1) (fun g i wr => ∃ k : Nat, k ≤ la.length ∧ g = la.length + 1 - k ∧ i = .int .i64 (k : Int) ∧ la.take k = lb.take k ∧ Fr [] w wr)
    case atStart => exact ⟨0, by omega, by omega, rfl, by simp, Fr.refl _ _⟩
    case round =>
      obtain ⟨k, hk, hg, rfl, heq, hfr⟩ := hrel
      have HG := Lib.hid hg
      have HEQ := Lib.hid heq
      clear hg heq
      by_cases hlt : k < la.length
      · have hltb : k < lb.length := by have := HLEN.out; omega
        obtain ⟨ba, offa, rfl⟩ := hfa k hlt
        obtain ⟨bb, offb, rfl⟩ := hfb k hltb
        obtain ⟨x, hx⟩ : ∃ x, la[k]? = some x := ⟨_, List.getElem?_eq_getElem hlt⟩
        obtain ⟨y, hy⟩ : ∃ x, lb[k]? = some x := ⟨_, List.getElem?_eq_getElem hltb⟩
        obtain ⟨a0, a1, a2, a3, a4, a5⟩ := (HA.out.fr hfr).cells k x hx
        obtain ⟨b0, b1, b2, b3, b4, b5⟩ := (HB.out.fr hfr).cells k y hy
        have t2 : decide ((k : Int) < (la.length : Int)) = true := by simp; omega
        have HSA : Hid (la.take (k + 1) = la.take k ++ [x]) := Lib.hid (by rw [List.take_add_one, hx]; rfl)
        have HSB : Hid (lb.take (k + 1) = lb.take k ++ [y]) := Lib.hid (by rw [List.take_add_one, hy]; rfl)
        have HNE : Hid (x ≠ y → la ≠ lb) := Lib.hid (fun h h2 => h (by rw [h2, hy] at hx; exact (Option.some.inj hx).symm))
        have i0 : (0 : Int) ≤ (k : Int) := by omega
        have i1 : (k : Int) < (la.length : Int) := by omega
        have i2 : (k : Int) < (lb.length : Int) := by omega
        obtain ⟨d, hd⟩ : ∃ d, d = decide (x = y) := ⟨_, rfl⟩
        have hqq : ∀ w, (Op.equalIn 10000 58 (.agg #[.int .i64 x.gate, .int .i64 x.num, .int .i64 x.time, .int .i64 x.serial, .int .i64 x.kind, .string ⟨x.owner.toArray⟩]) (.agg #[.int .i64 y.gate, .int .i64 y.num, .int .i64 y.time, .int .i64 y.serial, .int .i64 y.kind, .string ⟨y.owner.toArray⟩])).run Tryz.prog w = .ok d w := fun w => by
          rw [hd]
          exact scan_eq x y w
        have HD := Lib.hid hd
        clear hx hy hd
        cases d with
        | true =>
          have HXY : Hid (x = y) := Lib.hid (of_decide_eq_true HD.out.symm)
          go_wp2_with fail
          go_quiet (fail)
          go_wp2_with fail
          go_roundg (la.length + 1 - (k + 1))
          case measure => have := HG.out; omega
          case rel => exact ⟨k + 1, by omega, rfl, by go_num, by rw [HSA.out, HSB.out, HEQ.out, HXY.out], hfr.drewN _⟩
        | false =>
          have HXY : Hid (x ≠ y) := Lib.hid (of_decide_eq_false HD.out.symm)
          go_wp2_with fail
          go_quiet (fail)
          go_wp2_with fail
          go_ret
          have hne : decide (la = lb) = false := decide_eq_false (HNE.out HXY.out)
          exact ⟨by rw [hne]; rfl, (hfr.drewN _).toBelow (by simp)⟩
      · obtain rfl : k = la.length := by omega
        have t2 : decide ((la.length : Int) < (la.length : Int)) = false := by simp
        have HE : Hid (la = lb) := by
          have := HEQ.out
          rw [List.take_length, List.take_of_length_le (by have := HLEN.out; omega)] at this
          exact this
        go_wp2_with fail
        go_ret
        exact ⟨by rw [decide_eq_true HE.out]; rfl, hfr.toBelow (by simp)⟩
  · have t1 : ((la.length : Int) != (lb.length : Int)) = true := by simp; omega
    have HLEN := Lib.hid hlen
    clear hlen
    go_enter Tryz.func19, Tryz.ntmps19
    go_wp2_with fail
    go_ret
    have hne : decide (la = lb) = false := decide_eq_false (fun h => HLEN.out (by rw [h]))
    exact ⟨by rw [hne]; rfl, Below.refl _ _⟩
set_option maxRecDepth 100000 in
theorem rtime37_any (n : Int) (w : World) : Calls Tryz.prog 31 #[.int .i64 n] w fun e w' => e = .returned (.bool (timeB n)) ∧ w = w' := by
  unfold timeB
  by_cases h0 : 0 ≤ n
  · by_cases h1 : n ≤ 1000000000
    · have hd : Hid (decide (0 ≤ n ∧ n ≤ 1000000000) = true) := Lib.hid (by simp [h0, h1])
      have t1 : decide (0 ≤ n) = true := by simpa using h0
      have t2 : decide (n ≤ 1000000000) = true := by simpa using h1
      clear h0 h1
      go_enter Tryz.func31, Tryz.ntmps31
      go_wp2_with fail
      go_ret
      exact ⟨by rw [hd.out]; rfl, rfl⟩
    · have hd : Hid (decide (0 ≤ n ∧ n ≤ 1000000000) = false) := Lib.hid (by simp [h1])
      have t1 : decide (0 ≤ n) = true := by simpa using h0
      have t2 : decide (n ≤ 1000000000) = false := by simpa using h1
      clear h0 h1
      go_enter Tryz.func31, Tryz.ntmps31
      go_wp2_with fail
      go_ret
      exact ⟨by rw [hd.out]; rfl, rfl⟩
  · have hd : Hid (decide (0 ≤ n ∧ n ≤ 1000000000) = false) := Lib.hid (by simp [h0])
    have t1 : decide (0 ≤ n) = false := by simpa using h0
    clear h0
    go_enter Tryz.func31, Tryz.ntmps31
    go_wp2_with fail
    go_ret
    exact ⟨by rw [hd.out]; rfl, rfl⟩

/-- The last scan of a serial number that is in or out. -/
def lastS (log : List Scn) (k : Int) : Scn := log.foldl (fun a s => if s.serial = k ∧ (s.kind = 1 ∨ s.kind = 2) then s else a) ⟨0, 0, 0, 0, 0, []⟩
theorem lastS_snoc (log : List Scn) (s : Scn) (k : Int) : lastS (log ++ [s]) k = if s.serial = k ∧ (s.kind = 1 ∨ s.kind = 2) then s else lastS log k := by simp [lastS]
theorem lastS_from (k : Int) (log : List Scn) : ∀ (a : Option (List UInt8)) (z : Scn), a = (if z.kind = 1 then some z.owner else none) →
    log.foldl (insS k) a = (if (log.foldl (fun a s => if s.serial = k ∧ (s.kind = 1 ∨ s.kind = 2) then s else a) z).kind = 1 then some (log.foldl (fun a s => if s.serial = k ∧ (s.kind = 1 ∨ s.kind = 2) then s else a) z).owner else none) := by
  induction log with
  | nil => exact fun a z h => h
  | cons s log ih =>
    intro a z h
    rw [List.foldl_cons, List.foldl_cons]
    refine ih _ _ ?_
    unfold insS
    by_cases h1 : s.serial = k
    · by_cases h2 : s.kind = 1
      · simp [h1, h2]
      · by_cases h3 : s.kind = 2
        · simp [h1, h3]
        · simp [h1, h2, h3, h]
    · simp [h1, h]
theorem lastS_ins (log : List Scn) (k : Int) : insR log k = if (lastS log k).kind = 1 then some (lastS log k).owner else none := lastS_from k log none ⟨0, 0, 0, 0, 0, []⟩ (by simp)

/-- The cells of a gate of the reference. -/
def rgC (g : Gst) (fw lv : Value) : Array Value := #[.int .i64 g.id, .int .i64 g.shw, .int .i64 g.stale, .int .i64 g.now, .int .i64 g.syn, .int .i64 g.flt.bits, .int .i64 g.flt.hashes, fw, lv]
/-- Block gp is a gate of the reference; F: the blocks that it owns, from B on; its filter lies neither in these nor in X. -/
structure RgM (B : Nat) (X : List Nat) (W : World) (gp : Nat) (g : Gst) (fw lv : Value) (F : List Nat) : Prop where
  p : W.heap[gp]? = some (.cells (rgC g fw lv) 71 (0, 0))
  w : WsX (F ++ X) W fw g.flt.words
  o : OwnC B W lv g.log
  f : F = gp :: lv.ownBlock.toList
  b : B ≤ gp
  i : GInv g
def RgR (B : Nat) (X : List Nat) (W : World) (gp : Nat) (g : Gst) (F : List Nat) : Prop := ∃ fw lv, RgM B X W gp g fw lv F
theorem RgM.mem {B : Nat} {X : List Nat} {w : World} {gp : Nat} {g : Gst} {fw lv : Value} {F : List Nat} (h : RgM B X w gp g fw lv F) : gp ∈ F ∧ (∀ k, lv.ownBlock = some k → k ∈ F) ∧ ∀ k ∈ F, B ≤ k ∧ k < w.heap.size := by
  rw [h.f]
  refine ⟨by simp, fun k hk => by simp [hk], fun k hk => ?_⟩
  simp only [List.mem_cons, Option.mem_toList] at hk
  rcases hk with rfl | hk
  · exact ⟨h.b, lt_of_block h.p⟩
  · exact h.o.block k hk
theorem RgM.fr {B : Nat} {X X' Y : List Nat} {w w' : World} {gp : Nat} {g : Gst} {fw lv : Value} {F : List Nat} (h : RgM B X w gp g fw lv F) (hf : Fr Y w w') (hy : ∀ k ∈ Y, k ∉ F) (hyx : ∀ k ∈ Y, k ∈ X) (hx : ∀ k ∈ X', k ∈ X ∨ w.heap.size ≤ k) : RgM B X' w' gp g fw lv F := by
  obtain ⟨m1, m2, m3⟩ := h.mem
  have hn : ∀ k, k ∈ F → k ∉ Y := fun k hk h2 => hy k h2 hk
  refine ⟨hf.at h.p (hn _ m1), h.w.step hf (fun k hk => by simp [hyx k hk]) (fun k hk => ?_), h.o.fr hf (fun k hk => hn _ (m2 k hk)), h.f, h.b, h.i⟩
  rw [List.mem_append] at hk ⊢
  rcases hk with hk | hk
  · exact Or.inl (Or.inl hk)
  · exact (hx k hk).imp Or.inr id
theorem RgR.fr {B : Nat} {X X' Y : List Nat} {w w' : World} {gp : Nat} {g : Gst} {F : List Nat} (h : RgR B X w gp g F) (hf : Fr Y w w') (hy : ∀ k ∈ Y, k ∉ F) (hyx : ∀ k ∈ Y, k ∈ X) (hx : ∀ k ∈ X', k ∈ X ∨ w.heap.size ≤ k) : RgR B X' w' gp g F :=
  let ⟨fw, lv, hm⟩ := h
  ⟨fw, lv, hm.fr hf hy hyx hx⟩
theorem RgR.fr0 {B : Nat} {X : List Nat} {w w' : World} {gp : Nat} {g : Gst} {F : List Nat} (h : RgR B X w gp g F) (hf : Fr [] w w') : RgR B X w' gp g F := h.fr hf (by simp) (by simp) (fun k hk => Or.inl hk)
theorem RgR.inv {B : Nat} {X : List Nat} {w : World} {gp : Nat} {g : Gst} {F : List Nat} (h : RgR B X w gp g F) : GInv g := let ⟨_, _, hm⟩ := h; hm.i
theorem RgR.blocks {B : Nat} {X : List Nat} {w : World} {gp : Nat} {g : Gst} {F : List Nat} (h : RgR B X w gp g F) : ∀ k ∈ F, B ≤ k ∧ k < w.heap.size := let ⟨_, _, hm⟩ := h; hm.mem.2.2
/-- What a call leaves that changes a gate of the reference alone. -/
def RgQ (B : Nat) (X : List Nat) (w : World) (gp : Nat) (g : Gst) (F : List Nat) (w' : World) : Prop := ∃ F', RgR B X w' gp g F' ∧ Fr F w w' ∧ ∀ k ∈ F', k ∈ F ∨ w.heap.size ≤ k
theorem RgQ.same {B : Nat} {X : List Nat} {w : World} {gp : Nat} {g : Gst} {F : List Nat} (h : RgR B X w gp g F) : RgQ B X w gp g F w := ⟨F, h, Fr.refl _ _, fun _ hk => Or.inl hk⟩
theorem RgQ.back {B : Nat} {X : List Nat} {w W w' : World} {gp : Nat} {g : Gst} {F : List Nat} (hf : Fr [] w W) (h : RgQ B X W gp g F w') : RgQ B X w gp g F w' := by
  obtain ⟨F', h1, h2, h3⟩ := h
  exact ⟨F', h1, (hf.mono (Y := F) (by simp)).trans h2 (fun y hy => Or.inl hy), fun k hk => (h3 k hk).imp id (fun h4 => Nat.le_trans hf.size h4)⟩
def rgP (gp : Nat) : Value := .pointer (some ⟨gp, 0, none⟩)

theorem set6 {w W : World} {p : Nat} {t : TypeId} {c0 c1 c2 c3 c4 c5 : Value} (d0 d1 d2 d3 d4 d5 : Value) (h : W.heap[p]? = some (.cells #[c0, c1, c2, c3, c4, c5] t (0, 0))) (hf : Fr [] w W) (hp : w.heap.size ≤ p) :
    Fr [] w (((((((W).setCell ⟨p, 0, none⟩ d0).setCell ⟨p, 1, none⟩ d1).setCell ⟨p, 2, none⟩ d2).setCell ⟨p, 3, none⟩ d3).setCell ⟨p, 4, none⟩ d4).setCell ⟨p, 5, none⟩ d5) ∧ (((((((W).setCell ⟨p, 0, none⟩ d0).setCell ⟨p, 1, none⟩ d1).setCell ⟨p, 2, none⟩ d2).setCell ⟨p, 3, none⟩ d3).setCell ⟨p, 4, none⟩ d4).setCell ⟨p, 5, none⟩ d5).heap[p]? = some (.cells #[d0, d1, d2, d3, d4, d5] t (0, 0)) := by
  refine ⟨?_, ?_⟩
  · have hq : ∀ k, (⟨p, k, none⟩ : Addr).block ∈ ([] : List Nat) ∨ w.heap.size ≤ (⟨p, k, none⟩ : Addr).block := fun k => Or.inr hp
    exact (((((hf.setCell ⟨p, 0, none⟩ d0 (hq 0)).setCell ⟨p, 1, none⟩ d1 (hq 1)).setCell ⟨p, 2, none⟩ d2 (hq 2)).setCell ⟨p, 3, none⟩ d3 (hq 3)).setCell ⟨p, 4, none⟩ d4 (hq 4)).setCell ⟨p, 5, none⟩ d5 (hq 5)
  · exact row_set (row_set (row_set (row_set (row_set (row_set h 0 d0) 1 d1) 2 d2) 3 d3) 4 d4) 5 d5

set_option maxRecDepth 100000 in
set_option maxHeartbeats 4000000 in
theorem rlast_any (B : Nat) (X : List Nat) (gp : Nat) (g : Gst) (F : List Nat) (serial : Int) (w : World) (h : RgR B X w gp g F) :
    Calls Tryz.prog 34 #[rgP gp, .int .i64 serial] w fun e w' => e = .returned (.agg (scC (lastS g.log serial)).toArray) ∧ Below w.heap.size w w' := by
  obtain ⟨fw, lv, hm⟩ := h
  have hl4 := hm.i.l
  obtain ⟨la, lc, rfl, hlc, hlm, hla⟩ := hm.o.scs.form
  obtain ⟨W0, hW0⟩ : ∃ W0, W0 = w.alloc (.cells #[.int .i64 0, .int .i64 0, .int .i64 0, .int .i64 0, .int .i64 0, .string ⟨#[]⟩] 58) := ⟨_, rfl⟩
  obtain ⟨p, ep⟩ : ∃ p, p = w.heap.size := ⟨_, rfl⟩
  have f0 : Fr [] w W0 := by rw [hW0]; exact (Fr.refl [] w).alloc _
  have hp : W0.heap[p]? = some (.cells #[.int .i64 0, .int .i64 0, .int .i64 0, .int .i64 0, .int .i64 0, .string ⟨#[]⟩] 58 (0, 0)) := by rw [hW0]; exact heap_new ep
  have c8 := row_cell (f0.at hm.p (by simp)) 8
  unfold rgC at c8
  simp at c8
  have HS := Lib.hid (hm.o.scs.fr f0)
  have HP := Lib.hid hp
  have HF0 := Lib.hid f0
  have C8 := Lib.hid c8
  rw [hW0] at c8
  have wl : IntKind.i64.wrap ((g.log.length : Int) - 1) = (g.log.length : Int) - 1 := IntWalk.i64_in _ (by omega)
  obtain ⟨res, eres⟩ : ∃ r, r = lastS g.log serial := ⟨_, rfl⟩
  rw [← eres]
  have ERES := Lib.hid eres
  have EP := Lib.hid ep
  clear hm f0 hp eres
  unfold rgP
  go_enter Tryz.func34, Tryz.ntmps34
  go_wp2_with fail
  rw [← hW0, ← ep]
  clear c8 hW0 ep
  have hz1 : ∃ z, z = (g.log.length : Int) - 1 := ⟨_, rfl⟩
  go_loopg [5] (g.log.length + 1) (fun gh i wr => ∃ (k : Nat) (z : Int), k ≤ g.log.length ∧ gh = k + 1 ∧ i = .int .i64 z ∧ z = (k : Int) - 1 ∧ lastS g.log serial = lastS (g.log.take k) serial ∧ Fr [] W0 wr)
  case atStart => exact ⟨g.log.length, _, by omega, by omega, rfl, rfl, by rw [List.take_length], Fr.refl _ _⟩
  case round =>
    obtain ⟨k, z, hk, hgh, rfl, hz, hls, hfr⟩ := hrel
    have HG := Lib.hid hgh
    have HLS := Lib.hid hls
    have HF := Lib.hid hfr
    have hpr := hfr.at HP.out (by simp)
    have hFw := HF0.out.trans hfr (by simp)
    clear hgh hls
    cases k with
    | zero =>
      have t1 : decide (0 ≤ z) = false := by simp; omega
      have HR : Hid (res = ⟨0, 0, 0, 0, 0, []⟩) := Lib.hid (by rw [ERES.out, HLS.out, List.take_zero]; rfl)
      have y0 := row_free hpr 0
      have y1 := row_free hpr 1
      have y2 := row_free hpr 2
      have y3 := row_free hpr 3
      have y4 := row_free hpr 4
      have y5 := row_free hpr 5
      have z0 := row_cell hpr 0
      have z1 := row_cell hpr 1
      have z2 := row_cell hpr 2
      have z3 := row_cell hpr 3
      have z4 := row_cell hpr 4
      have z5 := row_cell hpr 5
      simp at z0 z1 z2 z3 z4 z5
      have HPR := Lib.hid hpr
      have HFW := Lib.hid hFw
      clear hpr hFw hfr
      go_wp2_with fail
      obtain ⟨hfx, hrx⟩ := set6 (.int .i64 0) (.int .i64 0) (.int .i64 0) (.int .i64 0) (.int .i64 0) (.string ⟨#[]⟩) HPR.out HFW.out (by have := EP.out; omega)
      have HFX := Lib.hid hfx
      have m0 := row_cell hrx 0
      have m1 := row_cell hrx 1
      have m2 := row_cell hrx 2
      have m3 := row_cell hrx 3
      have m4 := row_cell hrx 4
      have m5 := row_cell hrx 5
      simp at m0 m1 m2 m3 m4 m5
      clear hfx hrx
      refine bodyPost_ret (v := .agg #[.int .i64 0, .int .i64 0, .int .i64 0, .int .i64 0, .int .i64 0, .string ⟨#[]⟩]) ?_ rfl ⟨by rw [HR.out]; rfl, HFX.out.toBelow (by simp)⟩
      simp only [results]
      go_simp
    | succ i =>
      obtain rfl : z = (i : Int) := by omega
      clear hz
      have t1 : decide (0 ≤ (i : Int)) = true := by simp
      have hi : i < g.log.length := by omega
      obtain ⟨s, hs⟩ : ∃ s, g.log[i]? = some s := ⟨_, List.getElem?_eq_getElem hi⟩
      have HST : Hid (lastS (g.log.take (i + 1)) serial = if s.serial = serial ∧ (s.kind = 1 ∨ s.kind = 2) then s else lastS (g.log.take i) serial) := Lib.hid (by
        rw [List.take_add_one, hs]
        exact lastS_snoc _ _ _)
      obtain ⟨lb, lo, rfl⟩ := hla i hi
      obtain ⟨a0, a1, a2, a3, a4, a5⟩ := (HS.out.fr hfr).cells i s hs
      have c8 := hfr.cell C8.out (by simp)
      obtain ⟨W1, hW1⟩ : ∃ W1, W1 = wr.alloc (.cells #[.int .i64 s.gate, .int .i64 s.num, .int .i64 s.time, .int .i64 s.serial, .int .i64 s.kind, .string ⟨s.owner.toArray⟩] 58) := ⟨_, rfl⟩
      obtain ⟨q, eq⟩ : ∃ q, q = wr.heap.size := ⟨_, rfl⟩
      have f1 : Fr [] wr W1 := by rw [hW1]; exact (Fr.refl [] wr).alloc _
      have hq1 : W1.heap[q]? = some (.cells #[.int .i64 s.gate, .int .i64 s.num, .int .i64 s.time, .int .i64 s.serial, .int .i64 s.kind, .string ⟨s.owner.toArray⟩] 58 (0, 0)) := by rw [hW1]; exact heap_new eq
      have hp1 := f1.at hpr (by simp)
      have hFw1 := hFw.trans f1 (by simp)
      have HFX1 := Lib.hid (hfr.trans f1 (by simp))
      have x0 := row_cell hq1 0
      have x1 := row_cell hq1 1
      have x2 := row_cell hq1 2
      have x3 := row_cell hq1 3
      have x4 := row_cell hq1 4
      have x5 := row_cell hq1 5
      simp at x0 x1 x2 x3 x4 x5
      rw [hW1, eq] at x0 x1 x2 x3 x4 x5
      have y0 := row_free hp1 0
      have y1 := row_free hp1 1
      have y2 := row_free hp1 2
      have y3 := row_free hp1 3
      have y4 := row_free hp1 4
      have y5 := row_free hp1 5
      have z0 := row_cell hp1 0
      have z1 := row_cell hp1 1
      have z2 := row_cell hp1 2
      have z3 := row_cell hp1 3
      have z4 := row_cell hp1 4
      have z5 := row_cell hp1 5
      simp at z0 z1 z2 z3 z4 z5
      rw [hW1] at y0 y1 y2 y3 y4 y5 z0 z1 z2 z3 z4 z5
      have HP1 := Lib.hid hp1
      have HFW1 := Lib.hid hFw1
      have i0 : (i : Int) < (g.log.length : Int) := by omega
      have wz : IntKind.i64.wrap ((i : Int) - 1) = (i : Int) - 1 := IntWalk.i64_in _ (by omega)
      clear hpr hFw hfr hs hp1 hFw1 f1 hq1 hi
      by_cases hm : s.serial = serial ∧ (s.kind = 1 ∨ s.kind = 2)
      case pos =>
        have HR : Hid (res = s) := Lib.hid (by rw [ERES.out, HLS.out, HST.out, if_pos hm])
        obtain ⟨hm1, hm2⟩ := hm
        have t5 : (s.serial == serial) = true := by simpa using hm1
        clear hm1
        by_cases hk1 : s.kind = 1
        case pos =>
          have t6 : (s.kind == 1) = true := by simpa using hk1
          clear hm2 hk1
          go_wp2_with fail
          rw [← hW1]
          obtain ⟨hfx, hrx⟩ := set6 (.int .i64 s.gate) (.int .i64 s.num) (.int .i64 s.time) (.int .i64 s.serial) (.int .i64 s.kind) (.string ⟨s.owner.toArray⟩) HP1.out HFW1.out (by have := EP.out; omega)
          have HFX := Lib.hid hfx
          have m0 := row_cell hrx 0
          have m1 := row_cell hrx 1
          have m2 := row_cell hrx 2
          have m3 := row_cell hrx 3
          have m4 := row_cell hrx 4
          have m5 := row_cell hrx 5
          simp at m0 m1 m2 m3 m4 m5
          clear hfx hrx
          refine bodyPost_ret (v := .agg #[.int .i64 s.gate, .int .i64 s.num, .int .i64 s.time, .int .i64 s.serial, .int .i64 s.kind, .string ⟨s.owner.toArray⟩]) ?_ rfl ⟨by rw [HR.out]; rfl, HFX.out.toBelow (by simp)⟩
          simp only [results]
          go_simp
        case neg =>
          have t6 : (s.kind == 1) = false := by simpa using hk1
          have t7 : (s.kind == 2) = true := by simpa using hm2.resolve_left hk1
          clear hm2 hk1
          go_wp2_with fail
          rw [← hW1]
          obtain ⟨hfx, hrx⟩ := set6 (.int .i64 s.gate) (.int .i64 s.num) (.int .i64 s.time) (.int .i64 s.serial) (.int .i64 s.kind) (.string ⟨s.owner.toArray⟩) HP1.out HFW1.out (by have := EP.out; omega)
          have HFX := Lib.hid hfx
          have m0 := row_cell hrx 0
          have m1 := row_cell hrx 1
          have m2 := row_cell hrx 2
          have m3 := row_cell hrx 3
          have m4 := row_cell hrx 4
          have m5 := row_cell hrx 5
          simp at m0 m1 m2 m3 m4 m5
          clear hfx hrx
          refine bodyPost_ret (v := .agg #[.int .i64 s.gate, .int .i64 s.num, .int .i64 s.time, .int .i64 s.serial, .int .i64 s.kind, .string ⟨s.owner.toArray⟩]) ?_ rfl ⟨by rw [HR.out]; rfl, HFX.out.toBelow (by simp)⟩
          simp only [results]
          go_simp
      case neg =>
        have HN : Hid (lastS g.log serial = lastS (g.log.take i) serial) := Lib.hid (by rw [HLS.out, HST.out, if_neg hm])
        by_cases hm1 : s.serial = serial
        case pos =>
          have t5 : (s.serial == serial) = true := by simpa using hm1
          have t6 : (s.kind == 1) = false := by simpa using fun h => hm ⟨hm1, Or.inl h⟩
          have t7 : (s.kind == 2) = false := by simpa using fun h => hm ⟨hm1, Or.inr h⟩
          clear hm hm1
          go_wp2_with fail
          rw [← hW1]
          go_roundg (i + 1)
          case measure => have := HG.out; omega
          case rel => exact ⟨i, _, by omega, rfl, rfl, rfl, HN.out, HFX1.out⟩
        case neg =>
          have t5 : (s.serial == serial) = false := by simpa using hm1
          clear hm hm1
          go_wp2_with fail
          rw [← hW1]
          go_roundg (i + 1)
          case measure => have := HG.out; omega
          case rel => exact ⟨i, _, by omega, rfl, rfl, rfl, HN.out, HFX1.out⟩
end Go.Proofs.YtglgkdbhdjkeaaaGreatDoor
