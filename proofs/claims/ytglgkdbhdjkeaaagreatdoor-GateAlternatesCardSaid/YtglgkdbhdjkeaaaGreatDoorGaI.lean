/-
  foyerlaw37.GateAlternates.
-/
import Derived.Test.YtglgkdbhdjkeaaaGreatDoorGaF
import Derived.Test.YtglgkdbhdjkeaaaGreatDoorPlnGj
import Derived.Test.YtglgkdbhdjkeaaaGreatDoorMapZ
namespace Go.Proofs.YtglgkdbhdjkeaaaGreatDoor
open Go.RowKit

/-- What the two maps of GateAlternates hold. -/
def InsAt (log : List Scn) (k : Nat) (f : Int → Option (List UInt8)) (z : Int → Bool) : Prop :=
  ∀ s, isI s → z s = (insR (log.take k) s).isSome ∧ ∀ ow, insR (log.take k) s = some ow → (f s).getD [] = ow
theorem InsAt.one {log : List Scn} {j : Nat} {s : Scn} {f : Int → Option (List UInt8)} {z : Int → Bool} (h : InsAt log j f z) (hn : ∀ q, insR (log.take (j + 1)) q = insS q (insR (log.take j) q) s) (hk : s.kind = 1) : InsAt log (j + 1) (putM f s.serial s.owner) (putZ z s.serial true) := by
  intro q hq
  rw [hn]
  unfold insS putM putZ
  by_cases e : s.serial = q
  · simp [e, hk]
  · rw [if_neg e, if_neg (fun x => e x.symm), if_neg (fun x => e x.symm)]
    exact h q hq
theorem InsAt.two {log : List Scn} {j : Nat} {s : Scn} {f : Int → Option (List UInt8)} {z : Int → Bool} (h : InsAt log j f z) (hn : ∀ q, insR (log.take (j + 1)) q = insS q (insR (log.take j) q) s) (hk : s.kind = 2) : InsAt log (j + 1) f (putZ z s.serial false) := by
  intro q hq
  rw [hn]
  unfold insS putZ
  by_cases e : s.serial = q
  · simp [e, hk]
  · rw [if_neg e, if_neg (fun x => e x.symm)]
    exact h q hq
theorem InsAt.three {log : List Scn} {j : Nat} {s : Scn} {f : Int → Option (List UInt8)} {z : Int → Bool} (h : InsAt log j f z) (hn : ∀ q, insR (log.take (j + 1)) q = insS q (insR (log.take j) q) s) (hk : s.kind = 3) : InsAt log (j + 1) f z := by
  intro q hq
  rw [hn]
  unfold insS
  by_cases e : s.serial = q
  · simp only [hk, if_pos e]
    exact h q hq
  · rw [if_neg e]
    exact h q hq
set_option maxRecDepth 100000 in
set_option maxHeartbeats 8000000 in
theorem gateAlternates_any (n0 n1 : Nat) (v : Value) (l : List GOp) (w : World) (hn0 : n0 < 65536) (hn1 : n1 < 65536) (hT : TabsF w) (hv : Ops w v l) (hN : ∀ o ∈ l, OpN o) :
    Calls Tryz.prog 5 #[.int .u16 (n0 : Int), .int .u16 (n1 : Int), v] w fun e w' => e = .returned (.bool true) ∧ Below w.heap.size w w' := by
  have hmm := @run_makeMap Tryz.prog
  obtain ⟨a, cap, rfl, hl, hc9, ha⟩ := hv.form
  have HV := Lib.hid hv
  have HT := Lib.hid hT
  have HN := Lib.hid hN
  clear hv hT hN
  obtain ⟨r, er, e4⟩ : ∃ r : Nat, r = n0 % 1000 ∧ ((n0 : Nat) : Int).tmod 1000 = (r : Int) := ⟨_, rfl, by rw [Int.tmod_eq_emod_of_nonneg (by omega)]; omega⟩
  have hr4 : r < 1000 := by omega
  have HGD : Hid (goodG (r : Int) 0 (n1 : Int) = true) := Lib.hid (by unfold goodG; rw [Bool.and_eq_true, decide_eq_true_eq, timeB_iff]; omega)
  clear er
  go_enter Tryz.func5, Tryz.ntmps5
  go_wp2_with fail
  refine (head37_any w HT.out).mono ?_
  rintro e w1 ⟨rfl, hb⟩
  have f1 : Fr [] w w1 := Fr.ofBelow hb
  clear hb
  go_wp2_with fail
  refine (gnew_any (r : Int) 0 (n1 : Int) w1).mono ?_
  rintro e w2 ⟨hy, _, hb⟩
  obtain ⟨rfl, hG1⟩ := hy HGD.out
  have f2 := f1.below hb f1.size
  have HF2 := Lib.hid f2
  have HB := Lib.hid f1.size
  obtain ⟨gp, egp⟩ : ∃ q, q = w1.heap.size + 1 := ⟨_, rfl⟩
  rw [← egp] at hG1
  rw [← egp]
  have HG2 := Lib.hid hG1
  obtain ⟨B1, eB1⟩ : ∃ q, q = w1.heap.size := ⟨_, rfl⟩
  rw [← eB1] at HG2 HB
  clear hy hb hG1 f1 f2 egp eB1
  unfold gateP
  go_wp2_with fail
  refine (fewG_any (.slice a l.length cap) l w2 (HV.out.fr HF2.out)).mono ?_
  rintro e w4 ⟨rfl, hb⟩
  have hfb : Fr [] w2 w4 := Fr.ofBelow hb
  have HF4 := Lib.hid (HF2.out.trans hfb (by simp))
  have HG4 := Lib.hid (HG2.out.fr hfb (by simp))
  clear hb hfb
  obtain ⟨x, hx⟩ : ∃ x, x = fewG l := ⟨_, rfl⟩
  rw [← hx]
  cases x with
  | false =>
    clear hx
    go_wp2_with fail
    go_ret
    exact ⟨rfl, HF4.out.toBelow (by simp)⟩
  | true =>
    have HFE := Lib.hid (fewG_ok hx.symm HN.out)
    clear hx
    go_wp2_with fail
    go_loopg [10] l.length (fun gh i wr => ∃ (k : Nat) (g : Gst) (F : List Nat), k ≤ l.length ∧ gh = l.length - k ∧ i = .int .i64 (k : Int) ∧ GateR B1 wr gp g F ∧ LogI g ∧ LogN g.log ∧ g.id = (r : Int) ∧ g.log.length ≤ k ∧ Fr [] w wr)
    case atStart => exact ⟨0, _, _, by omega, by omega, rfl, HG4.out, LogI.new _ _ _, LogN.nil, rfl, by simp [newG], HF4.out⟩
    case round =>
      obtain ⟨k, g, F, hk, hgh, rfl, hGR, hLI, hLN, hid, hlen, hfr⟩ := hrel
      have HG := Lib.hid hgh
      have HGR := Lib.hid hGR
      have HLI := Lib.hid hLI
      have HLN := Lib.hid hLN
      have HID := Lib.hid hid
      have HLEN := Lib.hid hlen
      have HF := Lib.hid hfr
      have HBF : Hid (∀ k ∈ F, w.heap.size ≤ k) := Lib.hid (fun k hk => Nat.le_trans HB.out (hGR.blocks k hk).1)
      clear hgh hGR hfr hLI hLN hid hlen
      by_cases hlt : k < l.length
      · have t3 : decide ((k : Int) < (l.length : Int)) = true := by simp; omega
        obtain ⟨b, off, rfl⟩ := ha k hlt
        obtain ⟨o, ho⟩ : ∃ x, l[k]? = some x := ⟨_, List.getElem?_eq_getElem hlt⟩
        have HOS := Lib.hid (HFE.out.2.1 o (List.mem_of_getElem? ho))
        have i0 : (0 : Int) ≤ (k : Int) := by omega
        have i1 : (k : Int) < (l.length : Int) := by omega
        obtain ⟨ta, wa, sa, tc, wc, sc, ⟨c0, c1, c2, c3, c4, c5, c6, c7, c8, c9, c10, c11⟩, hR⟩ := ((HV.out.fr HF.out).cells k o ho).opR
        have HR := Lib.hid hR
        clear hR ho
        go_wp2_with fail
        refine (do_any B1 gp g F _ o wr HGR.out HR.out HOS.out (HT.out.fr HF.out)).mono ?_
        rintro e w6 ⟨rfl, hq⟩
        have HF6 := Lib.hid (hq.fr0 HF.out HBF.out)
        obtain ⟨F', hG6, hX6, _⟩ := hq
        have HG6 := Lib.hid hG6
        have HLI6 := Lib.hid (HLI.out.done o)
        have HLN6 := Lib.hid (HLN.out.done HOS.out)
        have HID6 : Hid ((doG g o).1.id = (r : Int)) := Lib.hid (by rw [(do_id g o).1, HID.out])
        have HLE6 : Hid ((doG g o).1.log.length ≤ k + 1) := Lib.hid (by have := (do_log g o).2; have := HLEN.out; omega)
        clear hG6 hX6 c0 c1 c2 c3 c4 c5 c6 c7 c8 c9 c10 c11
        go_wp2_with fail
        go_roundg (l.length - (k + 1))
        case measure => have := HG.out; omega
        case rel => exact ⟨k + 1, _, F', by omega, rfl, by go_num, HG6.out, HLI6.out, HLN6.out, HID6.out, HLE6.out, HF6.out⟩
      · obtain rfl : k = l.length := by omega
        have t3 : decide ((l.length : Int) < (l.length : Int)) = false := by simp
        go_wp2_with fail
        refine (log_any B1 gp g F wr HGR.out).mono ?_
        rintro e w5 ⟨lv, rfl, hown, hb⟩
        obtain ⟨la, lc, rfl, hlc, hlm, hla⟩ := hown.scs.form
        have hfb : Fr [] wr w5 := Fr.ofBelow hb
        have HF5 := Lib.hid (HF.out.trans hfb (by simp))
        have hll : g.log.length ≤ 14 := by have := HLEN.out; have := HFE.out.1; omega
        clear hb hfb
        obtain ⟨W6, hW6⟩ : ∃ W6, W6 = (w5.alloc (.map #[] 0)).alloc (.map #[] 0) := ⟨_, rfl⟩
        obtain ⟨mo, emo⟩ : ∃ q, q = w5.heap.size := ⟨_, rfl⟩
        obtain ⟨mi, emi⟩ : ∃ q, q = w5.heap.size + 1 := ⟨_, rfl⟩
        have HMO : Hid (MapG W6 mo 0 (fun _ => none)) := Lib.hid (by rw [hW6, emo]; exact (MapG.made w5).fr ((Fr.refl [] _).alloc _) (by simp))
        have HMI : Hid (MapZ W6 mi 0 (fun _ => false)) := Lib.hid (by rw [hW6, emi]; have := MapZ.made (w5.alloc (.map #[] 0)); simpa using this)
        have f56 : Fr [] w5 W6 := by rw [hW6]; exact ((Fr.refl [] w5).alloc _).alloc _
        have HF6 := Lib.hid (HF5.out.trans f56 (by simp))
        have HS6 := Lib.hid (hown.scs.fr f56)
        have HLB : Hid (∀ k, (Value.slice la g.log.length lc).ownBlock = some k → k ≠ mo ∧ k ≠ mi) := Lib.hid (fun k hk => by have := (hown.block k hk).2; omega)
        have HMB : Hid (w.heap.size ≤ mo ∧ w.heap.size ≤ mi ∧ mo ≠ mi) := Lib.hid (by have := HF5.out.size; omega)
        clear f56 hown HG4 HF2 HG2
        go_wp2_with fail

        rw [← hW6, ← emi, ← emo]
        clear hW6 emo emi
        obtain ⟨wo, rfl⟩ : ∃ wo : World, wo = wr := ⟨_, rfl⟩
        go_loopg [14] g.log.length (fun gh i wr => ∃ (k : Nat) (f : Int → Option (List UInt8)) (z : Int → Bool), k ≤ g.log.length ∧ gh = g.log.length - k ∧ i = .int .i64 (k : Int) ∧ MapG wr mo k f ∧ MapZ wr mi k z ∧ InsAt g.log k f z ∧ Scs wr (.slice la g.log.length lc) g.log ∧ Fr [] w wr)
        case atStart => exact ⟨0, _, _, by omega, by omega, rfl, HMO.out, HMI.out, fun s _ => ⟨rfl, fun ow h => (by cases h)⟩, HS6.out, HF6.out⟩
        case round =>
          obtain ⟨j, f, z, hj, hgh, rfl, hmo, hmi, hin, hsc, hfr⟩ := hrel
          have HGH := Lib.hid hgh
          have HFJ := Lib.hid hfr
          have HIN := Lib.hid hin
          clear hgh hin
          by_cases hlj : j < g.log.length
          · have u3 : decide ((j : Int) < (g.log.length : Int)) = true := by simp; omega
            obtain ⟨lb, lo, rfl⟩ := hla j hlj
            obtain ⟨s, hs⟩ : ∃ x, g.log[j]? = some x := ⟨_, List.getElem?_eq_getElem hlj⟩
            obtain ⟨a0, a1, a2, a3, a4, a5⟩ := hsc.cells j s hs
            have hat := HLI.out.a j s hs
            obtain ⟨hI, hO⟩ := HLN.out s (List.mem_of_getElem? hs)
            have hnx : ∀ q, insR (g.log.take (j + 1)) q = insS q (insR (g.log.take j) q) s := ins_next hs
            obtain ⟨hz1, hf1⟩ := HIN.out s.serial hI
            have HNX := Lib.hid hnx
            have HOL := Lib.hid hO
            have HZ1 := Lib.hid hz1
            have HFV := Lib.hid hf1
            have HSI := Lib.hid hI
            obtain ⟨W1, hW1⟩ : ∃ W1, W1 = wr.alloc (.cells #[.int .i64 s.gate, .int .i64 s.num, .int .i64 s.time, .int .i64 s.serial, .int .i64 s.kind, .string ⟨s.owner.toArray⟩] 58) := ⟨_, rfl⟩
            obtain ⟨q, eq⟩ : ∃ q, q = wr.heap.size := ⟨_, rfl⟩
            have fw1 : Fr [] wr W1 := by rw [hW1]; exact (Fr.refl [] wr).alloc _
            have hq1 : W1.heap[q]? = some (.cells #[.int .i64 s.gate, .int .i64 s.num, .int .i64 s.time, .int .i64 s.serial, .int .i64 s.kind, .string ⟨s.owner.toArray⟩] 58 (0, 0)) := by rw [hW1]; exact heap_new eq
            have HQ1 := Lib.hid hq1
            have HMO1 := Lib.hid (hmo.fr fw1 (by simp))
            have HMI1 := Lib.hid (hmi.fr fw1 (by simp))
            have HSC1 := Lib.hid (hsc.fr fw1)
            have HF1 := Lib.hid (HFJ.out.trans fw1 (by simp))
            have HQN : Hid (q ≠ mo ∧ q ≠ mi) := Lib.hid ⟨fun h => hmo.fr fw1 (by simp) |>.ne hq1 h.symm, fun h => hmi.fr fw1 (by simp) |>.ne hq1 h.symm⟩
            have i0 : (0 : Int) ≤ (j : Int) := by omega
            have i1 : (j : Int) < (g.log.length : Int) := by omega
            have g1 : (s.gate != (r : Int)) = false := by rw [hat.g, HID.out]; simp
            have wn0 : IntKind.i64.wrap (n0 : Int) = (n0 : Int) := IntWalk.i64_in _ (by omega)
            have nn : (s.num != (j : Int) + 1) = false := by rw [hat.n]; simp
            have wj : IntKind.i64.wrap ((j : Int) + 1) = (j : Int) + 1 := IntWalk.i64_in _ (by omega)
            have HAK := Lib.hid hat.k
            have hpt : (j = 0) ∨ (0 < j ∧ ∃ p : Scn, wr.cell? ⟨lb, lo + (j - 1) * 6 + 2, none⟩ = some (.int .i64 p.time) ∧ decide (s.time < p.time) = false) := by
              by_cases h0 : j = 0
              · exact Or.inl h0
              · obtain ⟨p, hp⟩ : ∃ x, g.log[j - 1]? = some x := ⟨_, List.getElem?_eq_getElem (by omega)⟩
                have hle := hat.t p (by omega) hp
                exact Or.inr ⟨by omega, p, (hsc.cells (j - 1) p hp).2.2.1, by simp; omega⟩
            clear hs hsc hat hnx hI hO hz1 hf1 hmo hmi hfr
            go_wp2_with fail
            rw [← hW1, ← eq]
            clear a0 a1 a2 a3 a4 a5
            have x0 := row_cell hq1 0
            have x1 := row_cell hq1 1
            have x2 := row_cell hq1 2
            simp at x0 x1 x2
            have x3 := row_cell hq1 3
            have x4 := row_cell hq1 4
            have x5 := row_cell hq1 5
            simp at x3 x4 x5
            have hjj : (j = 0) ∨ ∃ i : Nat, j = i + 1 := by cases j with
              | zero => exact Or.inl rfl
              | succ i => exact Or.inr ⟨i, rfl⟩
            have HFD : Hid (Fr [] wr W1) := Lib.hid fw1
            clear fw1 hW1 eq hq1
            have HREG : Hid (∀ (P : World → Prop), (∀ n, P (W1.drewN n)) → ∀ n, P (W1.drewN n)) := Lib.hid (fun P h => h)
            clear HREG hjj
            have hall : ∀ W2 : World, Fr [] W1 W2 → Hid (W2.heap[q]? = some (.cells #[.int .i64 s.gate, .int .i64 s.num, .int .i64 s.time, .int .i64 s.serial, .int .i64 s.kind, .string ⟨s.owner.toArray⟩] 58 (0, 0)) ∧ MapG W2 mo j f ∧ MapZ W2 mi j z ∧ Scs W2 (.slice (some ⟨lb, lo, none⟩) g.log.length lc) g.log ∧ Fr [] w W2) := fun W2 h => Lib.hid ⟨h.at HQ1.out (by simp), HMO1.out.fr h (by simp), HMI1.out.fr h (by simp), HSC1.out.fr h, HF1.out.trans h (by simp)⟩
            have HALL := Lib.hid hall
            clear hall
            rcases hpt with h0 | ⟨h0, p, hpc, hpd⟩
            case inl =>
              have t0 : decide (0 < j) = false := by simp; omega
              clear h0
              go_quiet (fail)
              have hx := (HALL.out (W1.drewN nq) ((Fr.refl [] W1).drewN _)).out
              generalize W1.drewN nq = W2 at hx ⊢
              obtain ⟨hq2, hmo2, hmi2, hsc2, hf2⟩ := hx
              clear x0 x1 x2 x3 x4 x5 g1 nn wn0 t0
              have y3 := row_cell hq2 3
              have y4 := row_cell hq2 4
              have y5 := row_cell hq2 5
              simp at y3 y4 y5
              have HQ2 := Lib.hid hq2
              have HO2 := Lib.hid hmo2
              have HI2 := Lib.hid hmi2
              have HS2 := Lib.hid hsc2
              have HF2 := Lib.hid hf2
              clear hq2 hmo2 hmi2 hsc2 hf2
              rcases HAK.out with ⟨hk, hn⟩ | ⟨hk, hn⟩ | hk
              case inl =>
                have k1 : (s.kind == 1) = true := by rw [hk]; rfl
                have slk := HI2.out.look s.serial HSI.out
                rw [HZ1.out, hn] at slk
                simp only [Option.isSome_none] at slk
                have HK := Lib.hid hk
                clear hk hn
                go_wp2_with (at_mapUpdate; go_loud (refine wpList_putZ rfl (.tmp 94) (.tmp 96) (.const (.bool true)) rfl mi j z rfl HI2.out (by omega) s.serial true rfl rfl HSI.out ?_))
                intro w3 hm3 hf3
                have hq3 := hf3.at HQ2.out (by simpa using HQN.out.2)
                have HO3 := Lib.hid (HO2.out.fr hf3 (by simpa using HMB.out.2.2))
                have HS3 := Lib.hid (HS2.out.frX hf3 (fun k hk hm => (HLB.out k hk).2 (List.mem_singleton.1 hm)))
                have HF3 := Lib.hid (HF2.out.trans hf3 (fun y hy => Or.inr (by rw [List.mem_singleton.1 hy]; exact HMB.out.2.1)))
                have HM3 := Lib.hid hm3
                clear y3 y4 y5 slk hm3 hf3
                have y3 := row_cell hq3 3
                have y5 := row_cell hq3 5
                simp at y3 y5
                have HQ3 := Lib.hid hq3
                clear hq3
                go_wp2_with (at_mapUpdate; go_loud (refine wpList_putG rfl (.tmp 97) (.tmp 99) (.tmp 101) rfl mo j f rfl HO3.out (by omega) s.serial s.owner rfl rfl HSI.out (by have := HOL.out; omega) ?_))
                intro w4' hm4 hf4
                have HM4 := Lib.hid hm4
                have HI4 := Lib.hid (HM3.out.fr hf4 (by simpa using fun h => HMB.out.2.2 h.symm))
                have HS4 := Lib.hid (HS3.out.frX hf4 (fun k hk hm => (HLB.out k hk).1 (List.mem_singleton.1 hm)))
                have HF4 := Lib.hid (HF3.out.trans hf4 (fun y hy => Or.inr (by rw [List.mem_singleton.1 hy]; exact HMB.out.1)))
                clear y3 y5 hm4 hf4
                go_wp2_with fail
                go_roundg (g.log.length - (j + 1))
                case measure => have := HGH.out; omega
                case rel => exact ⟨j + 1, _, _, by omega, rfl, by go_num, HM4.out, HI4.out, HIN.out.one HNX.out HK.out, HS4.out, HF4.out⟩
              case inr.inl =>
                have k1 : (s.kind == 1) = false := by rw [hk]; rfl
                have k2 : (s.kind == 2) = true := by rw [hk]; rfl
                have slk := HI2.out.look s.serial HSI.out
                rw [HZ1.out, hn] at slk
                simp only [Option.isSome_some] at slk
                have slg := HO2.out.look s.serial HSI.out
                rw [HFV.out _ hn] at slg
                have HK := Lib.hid hk
                clear hk hn
                go_wp2_with (at_mapUpdate; go_loud (refine wpList_putZ rfl (.tmp 118) (.tmp 120) (.const (.bool false)) rfl mi j z rfl HI2.out (by omega) s.serial false rfl rfl HSI.out ?_))
                intro w4' hm4 hf4
                have HI4 := Lib.hid hm4
                have HM4 := Lib.hid (HO2.out.fr hf4 (by simpa using HMB.out.2.2))
                have HS4 := Lib.hid (HS2.out.frX hf4 (fun k hk hm => (HLB.out k hk).2 (List.mem_singleton.1 hm)))
                have HF4 := Lib.hid (HF2.out.trans hf4 (fun y hy => Or.inr (by rw [List.mem_singleton.1 hy]; exact HMB.out.2.1)))
                clear y3 y4 y5 slk slg hm4 hf4
                go_wp2_with fail
                go_roundg (g.log.length - (j + 1))
                case measure => have := HGH.out; omega
                case rel => exact ⟨j + 1, _, _, by omega, rfl, by go_num, HM4.out.more, HI4.out, HIN.out.two HNX.out HK.out, HS4.out, HF4.out⟩
              case inr.inr =>
                have k1 : (s.kind == 1) = false := by rw [hk]; rfl
                have k2 : (s.kind == 2) = false := by rw [hk]; rfl
                have k3 : (s.kind == 3) = true := by rw [hk]; rfl
                have HK := Lib.hid hk
                clear hk
                go_wp2_with fail
                go_roundg (g.log.length - (j + 1))
                case measure => have := HGH.out; omega
                case rel => exact ⟨j + 1, _, _, by omega, rfl, by go_num, HO2.out.more, HI2.out.more, HIN.out.three HNX.out HK.out, HS2.out, HF2.out⟩
            case inr =>
              have t0 : decide (0 < j) = true := by simp; omega
              have hpc1 := HFD.out.cell hpc (by simp)
              clear hpc
              obtain ⟨i, ei⟩ : ∃ i : Nat, j = i + 1 := ⟨j - 1, by omega⟩
              have wi : IntKind.i64.wrap ((j : Int) - 1) = (i : Int) := by rw [IntWalk.i64_in _ (by omega), ei]; simp
              have ii : (i : Int) < (g.log.length : Int) := by omega
              have ii0 : (0 : Int) ≤ (i : Int) := by omega
              rw [show j - 1 = i by omega] at hpc1
              clear h0 ei
              go_quiet (fail)
              clear wi ii ii0 hpc1 hpd
              have hx := (HALL.out (W1.drewN nq) ((Fr.refl [] W1).drewN _)).out
              generalize W1.drewN nq = W2 at hx ⊢
              obtain ⟨hq2, hmo2, hmi2, hsc2, hf2⟩ := hx
              clear x0 x1 x2 x3 x4 x5 g1 nn wn0 t0
              have y3 := row_cell hq2 3
              have y4 := row_cell hq2 4
              have y5 := row_cell hq2 5
              simp at y3 y4 y5
              have HQ2 := Lib.hid hq2
              have HO2 := Lib.hid hmo2
              have HI2 := Lib.hid hmi2
              have HS2 := Lib.hid hsc2
              have HF2 := Lib.hid hf2
              clear hq2 hmo2 hmi2 hsc2 hf2
              rcases HAK.out with ⟨hk, hn⟩ | ⟨hk, hn⟩ | hk
              case inl =>
                have k1 : (s.kind == 1) = true := by rw [hk]; rfl
                have slk := HI2.out.look s.serial HSI.out
                rw [HZ1.out, hn] at slk
                simp only [Option.isSome_none] at slk
                have HK := Lib.hid hk
                clear hk hn
                go_wp2_with (at_mapUpdate; go_loud (refine wpList_putZ rfl (.tmp 94) (.tmp 96) (.const (.bool true)) rfl mi j z rfl HI2.out (by omega) s.serial true rfl rfl HSI.out ?_))
                intro w3 hm3 hf3
                have hq3 := hf3.at HQ2.out (by simpa using HQN.out.2)
                have HO3 := Lib.hid (HO2.out.fr hf3 (by simpa using HMB.out.2.2))
                have HS3 := Lib.hid (HS2.out.frX hf3 (fun k hk hm => (HLB.out k hk).2 (List.mem_singleton.1 hm)))
                have HF3 := Lib.hid (HF2.out.trans hf3 (fun y hy => Or.inr (by rw [List.mem_singleton.1 hy]; exact HMB.out.2.1)))
                have HM3 := Lib.hid hm3
                clear y3 y4 y5 slk hm3 hf3
                have y3 := row_cell hq3 3
                have y5 := row_cell hq3 5
                simp at y3 y5
                have HQ3 := Lib.hid hq3
                clear hq3
                go_wp2_with (at_mapUpdate; go_loud (refine wpList_putG rfl (.tmp 97) (.tmp 99) (.tmp 101) rfl mo j f rfl HO3.out (by omega) s.serial s.owner rfl rfl HSI.out (by have := HOL.out; omega) ?_))
                intro w4' hm4 hf4
                have HM4 := Lib.hid hm4
                have HI4 := Lib.hid (HM3.out.fr hf4 (by simpa using fun h => HMB.out.2.2 h.symm))
                have HS4 := Lib.hid (HS3.out.frX hf4 (fun k hk hm => (HLB.out k hk).1 (List.mem_singleton.1 hm)))
                have HF4 := Lib.hid (HF3.out.trans hf4 (fun y hy => Or.inr (by rw [List.mem_singleton.1 hy]; exact HMB.out.1)))
                clear y3 y5 hm4 hf4
                go_wp2_with fail
                go_roundg (g.log.length - (j + 1))
                case measure => have := HGH.out; omega
                case rel => exact ⟨j + 1, _, _, by omega, rfl, by go_num, HM4.out, HI4.out, HIN.out.one HNX.out HK.out, HS4.out, HF4.out⟩
              case inr.inl =>
                have k1 : (s.kind == 1) = false := by rw [hk]; rfl
                have k2 : (s.kind == 2) = true := by rw [hk]; rfl
                have slk := HI2.out.look s.serial HSI.out
                rw [HZ1.out, hn] at slk
                simp only [Option.isSome_some] at slk
                have slg := HO2.out.look s.serial HSI.out
                rw [HFV.out _ hn] at slg
                have HK := Lib.hid hk
                clear hk hn
                go_wp2_with (at_mapUpdate; go_loud (refine wpList_putZ rfl (.tmp 118) (.tmp 120) (.const (.bool false)) rfl mi j z rfl HI2.out (by omega) s.serial false rfl rfl HSI.out ?_))
                intro w4' hm4 hf4
                have HI4 := Lib.hid hm4
                have HM4 := Lib.hid (HO2.out.fr hf4 (by simpa using HMB.out.2.2))
                have HS4 := Lib.hid (HS2.out.frX hf4 (fun k hk hm => (HLB.out k hk).2 (List.mem_singleton.1 hm)))
                have HF4 := Lib.hid (HF2.out.trans hf4 (fun y hy => Or.inr (by rw [List.mem_singleton.1 hy]; exact HMB.out.2.1)))
                clear y3 y4 y5 slk slg hm4 hf4
                go_wp2_with fail
                go_roundg (g.log.length - (j + 1))
                case measure => have := HGH.out; omega
                case rel => exact ⟨j + 1, _, _, by omega, rfl, by go_num, HM4.out.more, HI4.out, HIN.out.two HNX.out HK.out, HS4.out, HF4.out⟩
              case inr.inr =>
                have k1 : (s.kind == 1) = false := by rw [hk]; rfl
                have k2 : (s.kind == 2) = false := by rw [hk]; rfl
                have k3 : (s.kind == 3) = true := by rw [hk]; rfl
                have HK := Lib.hid hk
                clear hk
                go_wp2_with fail
                go_roundg (g.log.length - (j + 1))
                case measure => have := HGH.out; omega
                case rel => exact ⟨j + 1, _, _, by omega, rfl, by go_num, HO2.out.more, HI2.out.more, HIN.out.three HNX.out HK.out, HS2.out, HF2.out⟩
          · obtain rfl : j = g.log.length := by omega
            have u3 : decide ((g.log.length : Int) < (g.log.length : Int)) = false := by simp
            clear hmo hmi
            go_wp2_with fail
            go_ret
            exact ⟨rfl, HFJ.out.toBelow (by simp)⟩
end Go.Proofs.YtglgkdbhdjkeaaaGreatDoor
