/-
  foyerlaw18: EntryConnects.
-/
import Derived.Test.YtmhejcndkplepaaDoorEnG
import Derived.Test.YtmhejcndkplepaaDoorTabB
import Derived.Deep.RegionHeld3
import Derived.Deep.QuietTactic
import Derived.Deep.DeepCutAuto
namespace Go.Proofs.YtmhejcndkplepaaDoor
open Go.RowKit

/-- A chosen entry of the class c, linked to one of it that is not chosen. -/
def PrS (l : List Pty) (o : List Nat) (ch : List Bool) (c i k : Nat) : Prop := ch.getD i false = true ∧ ch.getD k false = false ∧ o.getD k 0 = c ∧ Lnk l i k
def NoS (l : List Pty) (o : List Nat) (ch : List Bool) (c i : Nat) : Prop := ∀ j, j < i → o.getD j 0 = c → ∀ k, k < l.length → ¬ PrS l o ch c j k
theorem connects {l : List Pty} {o : List Nat} {ch : List Bool} {c i j : Nat} (hC : Cls l o) (hi : i < l.length) (hj : j < l.length) (hoi : o.getD i 0 = c) (hoj : o.getD j 0 = c) (hci : ch.getD i false = true) (hcj : ch.getD j false = false) (hno : NoS l o ch c l.length) : False := by
  have hconn := (hC.iff hi hj).1 (hoi.trans hoj.symm)
  obtain ⟨a, b, h1, h2, h3, h4⟩ := conn_flip (fun x => ch.getD x false = true) hconn hci (fun h => by rw [hcj] at h; cases h)
  have hoa : o.getD a 0 = c := (hC.same h1).symm.trans hoi
  have hob : o.getD b 0 = c := (hC.lnk a b h4).symm.trans hoa
  exact hno a h4.lt.1 hoa b h4.lt.2 ⟨h2, by simpa using h3, hob, h4⟩
/-- What is known in the class c when i entries are done. -/
structure InvS (l : List Pty) (o : List Nat) (ch : List Bool) (c i : Nat) (s t b : Bool) : Prop where
  s : s = true → ∃ j, j < l.length ∧ o.getD j 0 = c ∧ ch.getD j false = true
  t : t = true → ∃ j, j < l.length ∧ o.getD j 0 = c ∧ ch.getD j false = false
  b : b = false → NoS l o ch c i
theorem InvS.skip {l : List Pty} {o : List Nat} {ch : List Bool} {c i : Nat} {s t b : Bool} (h : InvS l o ch c i s t b) (hn : o.getD i 0 ≠ c) : InvS l o ch c (i + 1) s t b :=
  ⟨h.s, h.t, fun hb j hj hoj k hk => by
    rcases Nat.lt_or_ge j i with h1 | h1
    · exact h.b hb j h1 hoj k hk
    · obtain rfl : j = i := by omega
      exact absurd hoj hn⟩
theorem InvS.next {l : List Pty} {o : List Nat} {ch : List Bool} {c i : Nat} {s t b b' : Bool} (h : InvS l o ch c i s t b) (hi : i < l.length) (ho : o.getD i 0 = c) (hb : b' = false → b = false ∧ ∀ k, k < l.length → ¬ PrS l o ch c i k) :
    InvS l o ch c (i + 1) (s || ch.getD i false) (t || !ch.getD i false) b' := by
  refine ⟨fun hs => ?_, fun ht => ?_, fun hb' j hj hoj k hk => ?_⟩
  · rcases Bool.or_eq_true_iff.1 hs with h1 | h1
    · exact h.s h1
    · exact ⟨i, hi, ho, h1⟩
  · rcases Bool.or_eq_true_iff.1 ht with h1 | h1
    · exact h.t h1
    · exact ⟨i, hi, ho, by simpa using h1⟩
  · rcases Nat.lt_or_ge j i with h1 | h1
    · exact h.b (hb hb').1 j h1 hoj k hk
    · obtain rfl : j = i := by omega
      exact (hb hb').2 k hk

set_option maxRecDepth 100000 in
set_option maxHeartbeats 16000000 in
theorem entryConnects_any (lv : Value) (l : List Pty) (cv : Value) (ch : List Bool) (w : World) (hT : TabsM w) (hl : Pts w lv l) (hch : Bools w cv ch) :
    Calls Tryd.prog 13 #[lv, cv] w fun e w' => e = .returned (.bool true) ∧ Below w.heap.size w w' := by
  have hmx : Tryd.prog.follows .mixedOrders = true := by kernel_rfl
  have HT := Lib.hid hT
  have HL := Lib.hid hl
  have HCH := Lib.hid hch
  obtain ⟨la, lcap, rfl, hlc, hcap, hla⟩ := hl.form
  obtain ⟨ca, ccap, rfl, hcl, hca⟩ := hch.form
  clear hT hl hch
  go_enter Tryd.func13, Tryd.ntmps13
  go_wp2_with fail
  refine (head18_any w HT.out).mono ?_
  rintro e w1 ⟨rfl, hb1⟩
  have hf1 : Fr [] w w1 := (Fr.refl [] w).below hb1 (Nat.le_refl _)
  go_wp2_with fail
  refine (few18_any _ l 60 w1 (HL.out.fr hf1)).mono ?_
  rintro e w2 ⟨rfl, hb2⟩
  have hf2 : Fr [] w w2 := hf1.below hb2 hf1.size
  cases hfl : few18B l 60 with
  | false => go_wp2_with fail; go_ret; exact ⟨rfl, hf2.toBelow (by simp)⟩
  | true => ?_
  have HFL := Lib.hid (few18_all hfl)
  clear hfl hb1 hb2 hf1
  by_cases h100 : ch.length ≤ 100
  · have t100 : decide ((100 : Int) < (ch.length : Int)) = false := by simp; omega
    go_wp2_with fail
    refine (classes_any _ l w2 (HL.out.fr hf2) (by have := HFL.out.2; omega) (fun p hp => by have := HFL.out.1 p hp; omega)).mono ?_
    rintro e w3 ⟨g, o, rfl, hgw, ha3, hc3, hb3⟩
    have hf3 : Fr [] w w3 := hf2.below hb3 hf2.size
    have HA := Lib.hid ha3
    have HC := Lib.hid hc3
    clear hb3 hf2 ha3 hc3 hgw
    have t0 : ((l.length : Int) != (l.length : Int)) = false := by simp
    go_wp2_with fail
    go_loopg [7] (l.length + 1) (fun gh i wr => ∃ k : Nat, k ≤ l.length ∧ gh = l.length + 1 - k ∧ i = .int .i64 (k : Int) ∧ Fr [] w3 wr)
    case atStart => exact ⟨0, by omega, by omega, rfl, Fr.refl _ _⟩
    case round =>
      obtain ⟨c, hc, hgh, rfl, hfr⟩ := hrel
      have HG1 := Lib.hid hgh
      clear hgh
      by_cases hlt : c < l.length
      · have t1 : decide ((c : Int) < (l.length : Int)) = true := by simp; omega
        go_wp2_with fail
        go_loopg [8, 9, 10, 11] (l.length + 1) (fun gh s t b i wr => ∃ (k : Nat) (sb tb bb : Bool), k ≤ l.length ∧ gh = l.length + 1 - k ∧ i = .int .i64 (k : Int) ∧ s = .bool sb ∧ t = .bool tb ∧ b = .bool bb ∧ InvS l o ch c k sb tb bb ∧ Fr [] w3 wr)
        case atStart => exact ⟨0, false, false, false, by omega, by omega, rfl, rfl, rfl, rfl, ⟨fun h => (by cases h), fun h => (by cases h), fun _ j hj => absurd hj (Nat.not_lt_zero _)⟩, hfr⟩
        case round =>
          clear hfr
          obtain ⟨i, sb, tb, bb, hi, hgh, rfl, rfl, rfl, rfl, hinv, hfr⟩ := hrel
          have HG2 := Lib.hid hgh
          have HI := Lib.hid hinv
          clear hgh hinv
          by_cases hlti : i < l.length
          · obtain ⟨lb, lo, rfl⟩ := hla i hlti
            have t2 : decide ((i : Int) < (l.length : Int)) = true := by simp; omega
            have cx := hfr.cell (HA.out.cell i (by rw [HC.out.len]; exact hlti)) (by simp)
            by_cases hoc : o.getD i 0 = c
            · rw [hoc] at cx
              have HOC := Lib.hid hoc
              have t3 : ((c : Int) != (c : Int)) = false := by simp
              obtain ⟨p, hp⟩ : ∃ p, l[i]? = some p := ⟨l[i], List.getElem?_eq_getElem hlti⟩
              have HP := Lib.hid hp
              have HIN : Hid (∀ inn : Bool, inn = ch.getD i false → ∀ wr, Fr [] w3 wr → True) := Lib.hid (fun _ _ _ _ => trivial)
              clear hoc hp HIN
              obtain ⟨inn, hinn⟩ : ∃ inn, inn = ch.getD i false := ⟨_, rfl⟩
              have HINN := Lib.hid hinn
              have hci : (∃ cb co, ca = some ⟨cb, co, none⟩ ∧ i < ch.length ∧ wr.cell? ⟨cb, co + i, none⟩ = some (.bool inn)) ∨ (ch.length ≤ i ∧ inn = false) := by
                rcases Nat.lt_or_ge i ch.length with h | h
                · obtain ⟨cb, co, rfl⟩ := hca i h
                  exact Or.inl ⟨cb, co, rfl, h, by rw [hinn]; exact ((HCH.out.fr hf3).fr hfr).cell i h⟩
                · exact Or.inr ⟨h, by rw [hinn, List.getD_eq_getElem?_getD, List.getElem?_eq_none h]; rfl⟩
              clear hinn
              go_upto_region 15 with (fail)
              go_cut [12] (fun s12 wx => s12 = .bool inn ∧ wr = wx)
              case first =>
                rcases hci with ⟨cb, co, rfl, hic, cc⟩ | ⟨hic, rfl⟩
                · have t4 : decide ((i : Int) < (ch.length : Int)) = true := by simp; omega
                  go_wp2_with fail
                  go_meet
                  exact ⟨rfl, rfl⟩
                · have t4 : decide ((i : Int) < (ch.length : Int)) = false := by simp; omega
                  go_wp2_with fail
                  go_meet
                  exact ⟨rfl, rfl⟩
              case rest =>
                obtain ⟨rfl, rfl⟩ := hcut
                clear hci
                go_upto_region 16 with (fail)
                go_cut [8, 9] (fun s8 s9 wx => s8 = .bool (sb || inn) ∧ s9 = .bool (tb || !inn) ∧ wr = wx)
                case first =>
                  clear HINN
                  cases sb <;> cases tb <;> cases inn <;> (
                    go_wp2_with fail
                    go_meet
                    exact ⟨rfl, rfl, rfl⟩)
                case rest =>
                  obtain ⟨rfl, rfl, rfl⟩ := hcut
                  have HNXT : Hid (∀ b2 : Bool, (b2 = false → bb = false ∧ ∀ j, j < l.length → ¬ PrS l o ch c i j) → InvS l o ch c (i + 1) (sb || inn) (tb || !inn) b2) := Lib.hid (fun b2 h => by
                    have := HI.out.next hlti HOC.out h
                    rwa [← HINN.out] at this)
                  generalize (sb || inn) = s2 at HNXT ⊢
                  generalize (tb || !inn) = t2' at HNXT ⊢
                  go_wp2_with fail
                  go_loopg [10, 13] (l.length + 1) (fun gh b k wr => ∃ (kk : Nat) (b2 : Bool), kk ≤ l.length ∧ gh = l.length + 1 - kk ∧ k = .int .i64 (kk : Int) ∧ b = .bool b2 ∧ (b2 = false → bb = false ∧ ∀ j, j < kk → ¬ PrS l o ch c i j) ∧ Fr [] w3 wr)
                  case atStart => exact ⟨0, bb, by omega, by omega, rfl, rfl, fun h => ⟨h, fun j hj => absurd hj (Nat.not_lt_zero _)⟩, hfr⟩
                  case round =>
                    clear hfr cx
                    obtain ⟨k, b2, hk, hgh, rfl, rfl, hno, hfr⟩ := hrel
                    have HG3 := Lib.hid hgh
                    have HNO := Lib.hid hno
                    clear hgh hno
                    by_cases hltk : k < l.length
                    · have t5 : decide ((k : Int) < (l.length : Int)) = true := by simp; omega
                      obtain ⟨q, hq⟩ : ∃ q, l[k]? = some q := ⟨l[k], List.getElem?_eq_getElem hltk⟩
                      have HQ := Lib.hid hq
                      obtain ⟨outk, houtk⟩ : ∃ x, x = ch.getD k false := ⟨_, rfl⟩
                      have HOUT := Lib.hid houtk
                      have hck : (∃ kb ko, ca = some ⟨kb, ko, none⟩ ∧ k < ch.length ∧ wr.cell? ⟨kb, ko + k, none⟩ = some (.bool outk)) ∨ (ch.length ≤ k ∧ outk = false) := by
                        rcases Nat.lt_or_ge k ch.length with h | h
                        · obtain ⟨cb, co, rfl⟩ := hca k h
                          exact Or.inl ⟨cb, co, rfl, h, by rw [houtk]; exact ((HCH.out.fr hf3).fr hfr).cell k h⟩
                        · exact Or.inr ⟨h, by rw [houtk, List.getD_eq_getElem?_getD, List.getElem?_eq_none h]; rfl⟩
                      clear houtk hq
                      go_upto_region 20 with (fail)
                      go_cut [14] (fun s14 wx => s14 = .bool (!outk) ∧ wr = wx)
                      case first =>
                        rcases hck with ⟨kb, ko, rfl, hkc, ck⟩ | ⟨hkc, rfl⟩
                        · have t6 : decide ((ch.length : Int) ≤ (k : Int)) = false := by simp; omega
                          have t6' : decide (ch.length ≤ k) = false := by simp; omega
                          go_wp2_with fail
                          go_meet
                          exact ⟨rfl, rfl⟩
                        · have t6 : decide ((ch.length : Int) ≤ (k : Int)) = true := by simp; omega
                          have t6' : decide (ch.length ≤ k) = true := by simp; omega
                          go_wp2_with fail
                          go_meet
                          exact ⟨rfl, rfl⟩
                      case rest =>
                        obtain ⟨rfl, rfl⟩ := hcut
                        clear hck
                        have ii0 : (0 : Int) ≤ (i : Int) := by omega
                        have ii1 : (i : Int) < (l.length : Int) := by omega
                        have kk0 : (0 : Int) ≤ (k : Int) := by omega
                        have kk1 : (k : Int) < (l.length : Int) := by omega
                        have cok := hfr.cell (HA.out.cell k (by rw [HC.out.len]; exact hltk)) (by simp)
                        obtain ⟨cp0, cp1, cp2⟩ := ((HL.out.fr hf3).fr hfr).cells i p HP.out
                        obtain ⟨cq0, cq1, cq2⟩ := ((HL.out.fr hf3).fr hfr).cells k q HQ.out
                        have HST : Hid (¬ PrS l o ch c i k → b2 = false → bb = false ∧ ∀ j, j < k + 1 → ¬ PrS l o ch c i j) := Lib.hid (fun hn h => ⟨(HNO.out h).1, fun j hj => by
                          rcases Nat.lt_or_ge j k with h1 | h1
                          · exact (HNO.out h).2 j h1
                          · obtain rfl : j = k := by omega
                            exact hn⟩)
                        cases b2 with
                        | true =>
                          go_wp2_with fail
                          go_quiet (fail)
                          go_wp2_with fail
                          go_roundg (l.length + 1 - (k + 1))
                          case measure => have := HG3.out; omega
                          case rel => exact ⟨k + 1, _, by omega, rfl, by go_num, rfl, fun h => (by cases h), hfr.drewN _⟩
                        | false =>
                          cases inn with
                          | false =>
                            have HR := Lib.hid (HST.out (fun h => by have := h.1; rw [← HINN.out] at this; cases this) rfl)
                            go_wp2_with fail
                            go_quiet (fail)
                            go_wp2_with fail
                            go_roundg (l.length + 1 - (k + 1))
                            case measure => have := HG3.out; omega
                            case rel => exact ⟨k + 1, _, by omega, rfl, by go_num, rfl, fun _ => HR.out, hfr.drewN _⟩
                          | true =>
                            cases outk with
                            | true =>
                              have HR := Lib.hid (HST.out (fun h => by have := h.2.1; rw [← HOUT.out] at this; cases this) rfl)
                              go_wp2_with fail
                              go_quiet (fail)
                              go_wp2_with fail
                              go_roundg (l.length + 1 - (k + 1))
                              case measure => have := HG3.out; omega
                              case rel => exact ⟨k + 1, _, by omega, rfl, by go_num, rfl, fun _ => HR.out, hfr.drewN _⟩
                            | false =>
                              by_cases hok : o.getD k 0 = c
                              · rw [hok] at cok
                                have t7 : ((c : Int) == (c : Int)) = true := by simp
                                have t7' : ((c : Int) != (c : Int)) = false := by simp
                                have HR : Hid (∀ r : Bool, r = lnkB p q → r = false → bb = false ∧ ∀ j, j < k + 1 → ¬ PrS l o ch c i j) := Lib.hid (fun r hr h => HST.out (fun h2 => by
                                  have := (lnkB_iff HP.out HQ.out).2 h2.2.2.2
                                  rw [← hr, h] at this; cases this) rfl)
                                have HC2 := Lib.hid (fun W => linked_any p q W)
                                rw [show (p.name == q.name || p.com == q.com) = lnkB p q from rfl] at HC2
                                unfold ptyV at HC2
                                generalize lnkB p q = r at HC2 HR
                                clear hok
                                go_wp2_with fail
                                go_region_held3 (fun W' => W'.cell? ⟨lb, lo + i * 3, none⟩ = some (.string ⟨p.name.toArray⟩) ∧ W'.cell? ⟨lb, lo + i * 3 + 1, none⟩ = some (.string ⟨p.com.toArray⟩) ∧ W'.cell? ⟨lb, lo + i * 3 + 2, none⟩ = some (.string ⟨p.rev.toArray⟩) ∧ W'.cell? ⟨lb, lo + k * 3, none⟩ = some (.string ⟨q.name.toArray⟩) ∧ W'.cell? ⟨lb, lo + k * 3 + 1, none⟩ = some (.string ⟨q.com.toArray⟩) ∧ W'.cell? ⟨lb, lo + k * 3 + 2, none⟩ = some (.string ⟨q.rev.toArray⟩) ∧ W'.cell? ⟨g, k, none⟩ = some (.int .i64 (c : Int)))
                                  (first
                                    | exact ⟨hf5.cell cp0 (by simp), hf5.cell cp1 (by simp), hf5.cell cp2 (by simp), hf5.cell cq0 (by simp), hf5.cell cq1 (by simp), hf5.cell cq2 (by simp), hf5.cell cok (by simp)⟩
                                    | go_keep)
                                  ((refine (HC2.out _).mono ?_; rintro e w5 ⟨rfl, hb5⟩; have hf5 : Fr [] wr w5 := ((Fr.refl [] wr).drew).below hb5 (Nat.le_refl _)))
                                go_wp2_with fail
                                go_roundg (l.length + 1 - (k + 1))
                                case measure => have := HG3.out; omega
                                case rel => exact ⟨k + 1, _, by omega, rfl, by go_num, rfl, HR.out _ rfl, hfr.trans hf5 (by simp)⟩
                              · have HR := Lib.hid (HST.out (fun h => hok h.2.2.1) rfl)
                                have t7 : ((o.getD k 0 : Int) == (c : Int)) = false := by
                                  obtain ⟨x, hx⟩ : ∃ x, o.getD k 0 = x := ⟨_, rfl⟩
                                  rw [hx] at hok ⊢
                                  simp; omega
                                have t7' : ((o.getD k 0 : Int) != (c : Int)) = true := by rw [bne, t7]; rfl
                                generalize o.getD k 0 = x at cok t7 t7'
                                clear hok
                                go_wp2_with fail
                                go_quiet (fail)
                                go_wp2_with fail
                                go_roundg (l.length + 1 - (k + 1))
                                case measure => have := HG3.out; omega
                                case rel => exact ⟨k + 1, _, by omega, rfl, by go_num, rfl, fun _ => HR.out, hfr.drewN _⟩
                    · obtain rfl : k = l.length := by omega
                      have t5 : decide ((l.length : Int) < (l.length : Int)) = false := by simp
                      have HX := Lib.hid (HNXT.out b2 HNO.out)
                      go_wp2_with fail
                      go_roundg (l.length + 1 - (i + 1))
                      case measure => have := HG2.out; omega
                      case rel => exact ⟨i + 1, s2, t2', b2, by omega, rfl, by go_num, rfl, rfl, rfl, HX.out, hfr⟩
            · have t3 : ((o.getD i 0 : Int) != (c : Int)) = true := by
                obtain ⟨x, hx⟩ : ∃ x, o.getD i 0 = x := ⟨_, rfl⟩
                rw [hx] at hoc ⊢
                simp; omega
              have HI2 := Lib.hid (HI.out.skip hoc)
              generalize o.getD i 0 = x at cx t3
              clear hoc
              go_wp2_with fail
              go_roundg (l.length + 1 - (i + 1))
              case measure => have := HG2.out; omega
              case rel => exact ⟨i + 1, sb, tb, bb, by omega, rfl, by go_num, rfl, rfl, rfl, HI2.out, hfr⟩
          · obtain rfl : i = l.length := by omega
            have t2 : decide ((l.length : Int) < (l.length : Int)) = false := by simp
            have HFIN : Hid (sb = true → tb = true → bb = true) := Lib.hid (fun h1 h2 => by
              cases bb with
              | true => rfl
              | false =>
                obtain ⟨j, h3, h4, h5⟩ := HI.out.s h1
                obtain ⟨k, h6, h7, h8⟩ := HI.out.t h2
                exact (connects HC.out h3 h6 h4 h7 h5 h8 (HI.out.b rfl)).elim)
            cases sb with
            | false =>
              go_wp2_with fail
              go_roundg (l.length + 1 - (c + 1))
              case measure => have := HG1.out; omega
              case rel => exact ⟨c + 1, by omega, rfl, by go_num, hfr⟩
            | true =>
              cases tb with
              | false =>
                go_wp2_with fail
                go_roundg (l.length + 1 - (c + 1))
                case measure => have := HG1.out; omega
                case rel => exact ⟨c + 1, by omega, rfl, by go_num, hfr⟩
              | true =>
                obtain rfl := HFIN.out rfl rfl
                go_wp2_with fail
                go_roundg (l.length + 1 - (c + 1))
                case measure => have := HG1.out; omega
                case rel => exact ⟨c + 1, by omega, rfl, by go_num, hfr⟩
      · obtain rfl : c = l.length := by omega
        have t1 : decide ((l.length : Int) < (l.length : Int)) = false := by simp
        go_wp2_with fail
        go_ret
        exact ⟨rfl, (hf3.trans hfr (by simp)).toBelow (by simp)⟩
  · have t100 : decide ((100 : Int) < (ch.length : Int)) = true := by simp; omega
    go_wp2_with fail
    go_ret
    exact ⟨rfl, hf2.toBelow (by simp)⟩
end Go.Proofs.YtmhejcndkplepaaDoor
