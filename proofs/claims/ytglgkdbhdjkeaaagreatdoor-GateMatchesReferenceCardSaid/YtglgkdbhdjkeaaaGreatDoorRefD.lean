/-
  The references of layers 2 and 3: List, number, Start, Public.
  The reference of layer 3: hex, Digits, Sign.
  The reference of layer 3: Verify, Same, decimal, Joined.
-/
import Derived.Test.YtglgkdbhdjkeaaaGreatDoorRefB
import Derived.Test.YtglgkdbhdjkeaaaGreatDoorSgnC
import Derived.Test.YtglgkdbhdjkeaaaGreatDoorMrk
namespace Go.Proofs.YtglgkdbhdjkeaaaGreatDoor
open Go.RowKit

theorem endsS_snoc (secret : List UInt8) (k : Nat) (hk : k < 18) : (endsS secret).take (k + 1) = (endsS secret).take k ++ [dchain (startS secret k) 15] := by
  have h : (endsS secret).length = 18 := by simp [endsS]
  rw [take_snoc' _ k [] (by omega)]
  simp [endsS, List.getD_eq_getElem?_getD, hk]

end Go.Proofs.YtglgkdbhdjkeaaaGreatDoor
namespace Go.Proofs.YtglgkdbhdjkeaaaGreatDoor
open Go.RowKit

theorem hexN_a (c : UInt8) (h : hexC c = true) : (97 ≤ c.toNat → hexN c = c.toNat - 97 + 10 ∧ c.toNat ≤ 102) ∧ (c.toNat < 97 → hexN c = c.toNat - 48 ∧ 48 ≤ c.toNat) := by
  have h' : ∀ n : Fin 256, hexC (UInt8.ofNat n.val) = true → (97 ≤ n.val → hexN (UInt8.ofNat n.val) = n.val - 97 + 10 ∧ n.val ≤ 102) ∧ (n.val < 97 → hexN (UInt8.ofNat n.val) = n.val - 48 ∧ 48 ≤ n.val) := by decide +kernel
  have := h' ⟨c.toNat, c.toNat_lt⟩ (by simpa using h)
  simpa using this
set_option maxRecDepth 100000 in
theorem rhex_any (c : UInt8) (w : World) (h : hexC c = true) : Calls Tryz.prog 114 #[.int .u8 (c.toNat : Int)] w fun e w' => e = .returned (.int .i64 (hexN c : Nat)) ∧ w = w' := by
  have hc : c.toNat < 256 := c.toNat_lt
  obtain ⟨ha, hb⟩ := hexN_a c h
  have HA := Lib.hid ha
  have HB := Lib.hid hb
  clear h ha hb
  generalize c.toNat = n at hc HA HB ⊢
  generalize hexN c = d at HA HB ⊢
  by_cases h97 : 97 ≤ n
  · have w1 : IntKind.u8.wrap ((n : Int) - 97) = (n : Int) - 97 := by rw [IntKind.wrap_u8']; omega
    have := (HA.out h97).2
    go_enter Tryz.func114, Tryz.ntmps114
    go_wp2_with fail
    go_ret
    have e1 : (n : Int) - 97 + 10 = (d : Int) := by have := HA.out h97; omega
    exact ⟨by rw [← e1]; rfl, rfl⟩
  · have h48 := (HB.out (by omega)).2
    have w1 : IntKind.u8.wrap ((n : Int) - 48) = (n : Int) - 48 := by rw [IntKind.wrap_u8']; omega
    go_enter Tryz.func114, Tryz.ntmps114
    go_wp2_with fail
    go_ret
    have e1 : (n : Int) - 48 = (d : Int) := by have := HB.out (by omega); omega
    exact ⟨by rw [← e1]; rfl, rfl⟩

/-- A slice of numbers that the call has made. -/
def intV (n : Nat) : Value := .int .i64 (n : Int)
def OwnN (base : Nat) (w : World) (v : Value) (l : List Nat) : Prop := w.ownsRow base 3 1 v l.length (l.map intV)
theorem iInfo : (Tryz.prog.info? 3).map (fun i => (i.zero, i.size, i.bytes)) = some (some (.int .i64 0), 1, 8) := by kernel_rfl
theorem OwnN.form {base : Nat} {w : World} {v : Value} {l : List Nat} (h : OwnN base w v l) (hl : 0 < l.length) : ∃ g cap, v = .slice (some ⟨g, 0, none⟩) l.length cap ∧ base ≤ g ∧ g < w.heap.size ∧ l.length ≤ cap ∧ cap ≤ 9223372036854775807 ∧ ∀ i, i < l.length → w.cell? ⟨g, i, none⟩ = some (.int .i64 (l.getD i 0 : Nat)) := by
  rcases h.2 with ⟨_, h3⟩ | ⟨g, cap, cur, hv, hb, hg, h3, h4, h5, h6⟩
  · omega
  · refine ⟨g, cap, hv, hb, lt_of_block hg, h3, by unfold maxLen at h4; omega, fun i hi => ?_⟩
    rw [row_cell hg i]
    have h7 : (cur.toList.take (l.length * 1))[i]? = cur[i]? := by rw [List.getElem?_take, if_pos (by omega), Array.getElem?_toList]
    rw [← h7, h6, List.getElem?_map, List.getElem?_eq_getElem hi]
    simp [intV, hi]

set_option maxRecDepth 100000 in
set_option maxHeartbeats 1000000 in
theorem rdigs_any (h : List UInt8) (w : World) (hh : h.all hexC = true) (hl : h.length ≤ 1000) :
    Calls Tryz.prog 90 #[.string ⟨h.toArray⟩] w fun e w' => ∃ v, e = .returned v ∧ OwnN w.heap.size w' v (digs h) ∧ Below w.heap.size w w' := by
  obtain ⟨i0, hi, hz0, hz1, hz2⟩ := info_parts iInfo
  have HH := Lib.hid hh
  clear hh
  go_enter Tryz.func90, Tryz.ntmps90
  go_wp2_with fail
  go_loopg [3, 4, 5] h.length (fun g ev r i wr => ∃ k : Nat, k ≤ h.length ∧ g = h.length - k ∧ i = .int .i64 (k : Int) ∧ r = .int .i64 (restN (h.take k) : Int) ∧ OwnN w.heap.size wr ev ((h.take k).map hexN) ∧ Fr [] w wr)
  case atStart => exact ⟨0, by omega, by omega, rfl, rfl, ⟨by simp, Or.inl ⟨rfl, by simp⟩⟩, Fr.refl _ _⟩
  case round =>
    obtain ⟨k, hk, hg, rfl, rfl, ho, hfr⟩ := hrel
    have HG := Lib.hid hg
    have HO := Lib.hid ho
    clear hg ho
    by_cases hlt : k < h.length
    · have HB := Lib.hid (ba_get h k hlt)
      have hx := List.all_eq_true.1 HH.out _ (getD_mem h k 0 hlt)
      have hx16 := (index_hex _ hx).2
      have HR := Lib.hid (restN_snoc h k hlt)
      have HM := Lib.hid (show (h.take (k + 1)).map hexN = (h.take k).map hexN ++ [hexN (h.getD k 0)] by rw [take_snoc' h k 0 hlt, List.map_append]; rfl)
      have hr : restN (h.take k) ≤ 15000 := by have h1 := restN_le (h.take k); have h2 : (h.take k).length ≤ 1000 := (by rw [List.length_take]; omega); omega
      have hlen : ((h.take k).map hexN).length ≤ 1000 := by rw [List.length_map, List.length_take]; omega
      have HX := Lib.hid hx
      clear hx
      generalize h.getD k 0 = c at HB HX hx16 HR HM
      generalize (h.take k).map hexN = L at HO HM hlen
      generalize restN (h.take k) = R at hr HR
      go_wp2_with fail
      rw [HB.out]
      refine (rhex_any c _ HX.out).mono ?_
      rintro e w1 ⟨rfl, rfl⟩
      generalize hexN c = d at hx16 HR HM
      go_wp2_with (at_builtin; refine wpList_append_own _ rfl (.tmp 17) (.tmp 19) 38 rfl w.heap.size 3 i0 (.int .i64 0) 1 8 Tryz.underlying38 hi hz0 hz1 hz2 rfl (by decide) _ _ _ rfl (ownsRow_fr HO.out ((Fr.refl [] wr).alloc _) (by simp)) ⟨wr.heap.size, 0, none⟩ 1 1 [intV d] rfl rfl (cell_one_new _ _ _) (by simp [intV, Value.oneCell']) (by unfold maxLen; omega) (by omega) (by have := hfr.size; simp; omega) ?_)
      intro v' w3 ho3 hgr _
      obtain ⟨g', cap', rfl⟩ := ownsRow_succ ho3
      have hfr3 : Fr [] w w3 := (hfr.alloc _).grown hgr (fun r e => Or.inr (ownBlock_ge HO.out r e))
      have HO3 : Hid (OwnN w.heap.size w3 (.slice (some ⟨g', 0, none⟩) (L.length + 1) cap') (L ++ [d])) := by
        show OwnN _ _ _ _
        simpa [OwnN] using ho3
      clear ho3 hgr hfr HO
      go_wp2_with fail
      go_roundg (h.length - (k + 1))
      case measure => have := HG.out; omega
      case rel =>
        refine ⟨k + 1, by omega, rfl, by go_num, ?_, by rw [HM.out]; exact HO3.out, hfr3⟩
        rw [HR.out]; congr 1; omega
    · obtain rfl : k = h.length := by omega
      have HO2 : Hid (OwnN w.heap.size wr u3 (h.map hexN)) := by have := HO.out; rw [List.take_length] at this; exact this
      have hr : restN h ≤ 15000 := by have h1 := restN_le h; omega
      have hlen : (h.map hexN).length ≤ 1000 := by rw [List.length_map]; exact hl
      have HD := Lib.hid (show digs h = h.map hexN ++ [restN h / 16, restN h % 16] from rfl)
      rw [List.take_length]
      clear HO
      generalize h.map hexN = L at HO2 HD hlen
      generalize restN h = R at hr HD
      go_wp2_with (at_builtin; refine wpList_append_own _ rfl (.tmp 25) (.tmp 30) 38 rfl w.heap.size 3 i0 (.int .i64 0) 1 8 Tryz.underlying38 hi hz0 hz1 hz2 rfl (by decide) _ _ _ rfl (ownsRow_fr HO2.out ((Fr.refl [] wr).alloc _) (by simp)) ⟨wr.heap.size, 0, none⟩ 2 2 [.int .i64 ((R : Int) / 16), .int .i64 ((R : Int) % 16)] rfl rfl ?c1 ?c2 (by unfold maxLen; omega) (by omega) (by have := hfr.size; simp; omega) ?_)
      case c1 =>
        intro j u hj
        match j, hj with
        | 0, hj => simp at hj; subst hj; simp [Addr.add]
        | 1, hj => simp at hj; subst hj; simp [Addr.add]
      case c2 => simp [Value.oneCell']
      intro v' w3 ho3 hgr _
      obtain ⟨g', cap', rfl⟩ := ownsRow_succ ho3
      have hfr3 : Fr [] w w3 := (hfr.alloc _).grown hgr (fun r e => Or.inr (ownBlock_ge HO2.out r e))
      have HO3 : Hid (OwnN w.heap.size w3 (.slice (some ⟨g', 0, none⟩) (L.length + 1 + 1) cap') (digs h)) := by
        show OwnN _ _ _ _
        rw [HD.out]
        simpa [OwnN, intV] using ho3
      clear ho3 hgr hfr HO2
      go_wp2_with fail
      go_ret
      exact ⟨_, rfl, HO3.out, hfr3.toBelow (by simp)⟩

theorem sigS_snoc (secret m : List UInt8) (k : Nat) (hk : k < 18) : (sigS secret m).take (k + 1) = (sigS secret m).take k ++ [dchain (startS secret k) ((digs (dsum m)).getD k 0 : Nat)] := by
  have h : (sigS secret m).length = 18 := by simp [sigS]
  rw [take_snoc' _ k [] (by omega)]
  simp [sigS, List.getD_eq_getElem?_getD, hk]

end Go.Proofs.YtglgkdbhdjkeaaaGreatDoor
namespace Go.Proofs.YtglgkdbhdjkeaaaGreatDoor
open Go.RowKit

set_option maxRecDepth 100000 in
set_option maxHeartbeats 1000000 in
theorem rverify_any (pub message : List UInt8) (sv : Value) (sig : List (List UInt8)) (w : World) (hm : message.length ≤ 1000000) (hs : ∀ s ∈ sig, s.length ≤ 1000000) (hsv : Strs w sv sig) :
    Calls Tryz.prog 66 #[.string ⟨pub.toArray⟩, .string ⟨message.toArray⟩, sv] w fun e w' => e = .returned (.bool (verifyS pub message sig)) ∧ Below w.heap.size w w' := by
  have hmx : Tryz.prog.follows .mixedOrders = true := by kernel_rfl
  have HV := Lib.hid hsv
  obtain ⟨a, cap, rfl, hlen, ha⟩ := hsv.form
  clear hsv
  by_cases h18 : sig.length = 18
  · have t1 : ((sig.length : Int) != 18) = false := by rw [h18]; rfl
    obtain ⟨b, off, rfl⟩ := ha 0 (by omega)
    have H18 := Lib.hid h18
    clear h18 ha
    go_enter Tryz.func66, Tryz.ntmps66
    go_wp2_with fail
    refine (rsum_any message w (by omega)).mono ?_
    rintro e w1 ⟨rfl, hb1⟩
    go_wp2_with fail
    refine (rdigs_any (dsum message) w1 (hexS_hex _) (by rw [dsum_length]; decide)).mono ?_
    rintro e w2 ⟨dv, rfl, hd, hb2⟩
    obtain ⟨dg, dcap, rfl, hdb, hdl, hdc, hdm, hcells⟩ := hd.form (by rw [digs_length]; decide)
    rw [digs_length] at hcells hdc ⊢
    have hf2 : Fr [] w w2 := ((Fr.refl [] w).below hb1 (Nat.le_refl _)).below hb2 hb1.size
    have HV2 := Lib.hid (HV.out.fr0 hf2)
    clear hd hb1 hb2
    go_wp2_with fail
    go_loopg [8, 9] 18 (fun g ev i wr => ∃ k : Nat, k ≤ 18 ∧ g = 18 - k ∧ i = .int .i64 (k : Int) ∧ (sig.take k).all isD = true ∧ OwnS w2.heap.size wr ev (vends message (sig.take k)) ∧ Fr [] w2 wr)
    case atStart => exact ⟨0, by omega, by omega, rfl, by simp, ⟨by simp [vends], Or.inl ⟨rfl, by simp [vends]⟩⟩, Fr.refl _ _⟩
    case round =>
      obtain ⟨k, hk, hg, rfl, hall, ho, hfr⟩ := hrel
      have HG := Lib.hid hg
      have HALL := Lib.hid hall
      have HO := Lib.hid ho
      clear hg hall ho
      by_cases hlt : k < 18
      · have hls : k < sig.length := by have := H18.out; omega
        have hcell := (HV2.out.fr0 hfr).cell k hls
        have hcell0 := HV2.out.cell k hls
        have hsl := hs (sig.getD k []) (getD_mem _ _ _ hls)
        have hc0 := hcells k hlt
        have hd15 := digs_lt message k hlt
        have HS := Lib.hid (vends_snoc message sig k hls)
        have HT2 : Hid ((sig.take (k + 1)).all isD = ((sig.take k).all isD && isD (sig.getD k []))) := by
          show _ = _
          rw [take_snoc' sig k [] hls, List.all_append]; simp only [List.all_cons, List.all_nil, Bool.and_true]
        have HSD : Hid (isD (sig.getD k []) = false → sig.all isD = false) := by
          intro h
          rw [List.all_eq_false]
          exact ⟨_, getD_mem sig k [] hls, by rw [h]; decide⟩
        have hlenL : (vends message (sig.take k)).length ≤ 18 := by rw [vends_length, List.length_take]; omega
        generalize vends message (sig.take k) = L at HO HS hlenL
        generalize sig.getD k [] = s at hcell hcell0 hsl HS HT2 HSD
        generalize (digs (dsum message)).getD k 0 = d at hc0 hd15 HS
        have hc := hfr.cell hc0 (by simp)
        cases hD : isD s with
        | false =>
          have HB := Lib.hid hD
          go_wp2_with fail
          refine (ris_any s wr (by omega)).mono ?_
          rintro e w3 ⟨rfl, rfl⟩
          go_wp2_with fail
          go_ret
          have hv : verifyS pub message sig = false := by simp [verifyS, HSD.out HB.out]
          exact ⟨by rw [hv]; rfl, (hf2.trans hfr (by simp)).toBelow (by simp)⟩
        | true =>
          have HB := Lib.hid hD
          go_wp2_with fail
          refine (ris_any s wr (by omega)).mono ?_
          rintro e w3 ⟨rfl, rfl⟩
          go_wp2_with fail
          have hS0 : wr.drew.cell? ⟨dg, k, none⟩ = some (.int .i64 (d : Int)) ∧ wr.drew.cell? ⟨b, off + k, none⟩ = some (.string ⟨s.toArray⟩) := ⟨hc, hcell⟩
          refine region_held 13 (fun W' => W'.cell? ⟨dg, k, none⟩ = some (.int .i64 (d : Int)) ∧ W'.cell? ⟨b, off + k, none⟩ = some (.string ⟨s.toArray⟩)) hmx ?_
          change Held _ _ _ _ _ _ 14 (Array.replicate 14 false) _ _
          refine held_take 0 (v := u8) rfl rfl (by kernel_rfl) (by kernel_rfl) rfl hS0 (fun W' hS => by go_simp) rfl ?_
          refine held_take 1 (v := .slice (some ⟨b, off, none⟩) sig.length cap) rfl rfl (by kernel_rfl) (by kernel_rfl) rfl hS0 (fun W' hS => by go_simp) rfl ?_
          refine held_take 2 (v := .int .i64 (k : Int)) rfl rfl (by kernel_rfl) (by kernel_rfl) rfl hS0 (fun W' hS => by go_simp) rfl ?_
          refine held_take 5 (v := .slice (some ⟨dg, 0, none⟩) 18 dcap) rfl rfl (by kernel_rfl) (by kernel_rfl) rfl hS0 (fun W' hS => by go_simp) rfl ?_
          refine held_take 6 (v := .int .i64 (k : Int)) rfl rfl (by kernel_rfl) (by kernel_rfl) rfl hS0 (fun W' hS => by go_simp) rfl ?_
          simp only [Act.put]
          refine held_take 3 (v := .pointer (some ⟨b, off + k, none⟩)) rfl rfl (by kernel_rfl) (by kernel_rfl) rfl hS0 (fun W' hS => by go_simp) rfl ?_
          refine held_take 7 (v := .pointer (some ⟨dg, k, none⟩)) rfl rfl (by kernel_rfl) (by kernel_rfl) rfl hS0 (fun W' hS => by go_simp) rfl ?_
          refine held_take 4 (v := .string ⟨s.toArray⟩) rfl rfl (by kernel_rfl) (by kernel_rfl) rfl hS0 (fun W' hS => by obtain ⟨h1, h2⟩ := hS; go_simp) rfl ?_
          refine held_take 8 (v := .int .i64 (d : Int)) rfl rfl (by kernel_rfl) (by kernel_rfl) rfl hS0 (fun W' hS => by obtain ⟨h1, h2⟩ := hS; go_simp) rfl ?_
          simp only [Act.put]
          refine held_take 9 (v := .int .i64 (15 - (d : Int))) rfl rfl (by kernel_rfl) (by kernel_rfl) rfl hS0 (fun W' hS => by have wd : IntKind.i64.wrap (15 - (d : Int)) = 15 - (d : Int) := IntWalk.i64_in _ (by omega); go_simp) rfl ?_
          simp only [Act.put]
          refine held_one 10 (by kernel_rfl) rfl rfl rfl (fun K' hK => ?_)
          go_simp
          refine (rchain_any s (15 - (d : Int)) _ (by omega)).mono ?_
          rintro e w4 ⟨rfl, hb4⟩
          have hw4 : Fr [] wr w4 := (Fr.refl [] wr).drew.below hb4 (Nat.le_refl _)
          refine hK.out _ _ (fun _ => ⟨hw4.cell hc (by simp), hw4.cell hcell (by simp)⟩) ?_
          clear hK K'
          refine held_one 11 (by kernel_rfl) rfl rfl rfl (fun K' hK => ?_)
          go_simp
          refine hK.out _ _ (fun _ => ⟨(hw4.alloc _).cell hc (by simp), (hw4.alloc _).cell hcell (by simp)⟩) ?_
          clear hK K'
          have hfr4 : Fr [] w2 w4 := hfr.trans hw4 (by simp)
          have HO4 := Lib.hid (HO.out.fr hw4 (by simp))
          refine held_one 12 (by kernel_rfl) rfl rfl rfl (fun K' hK => ?_)
          refine wp_appS (.tmp 26) (.tmp 37) rfl w2.heap.size _ L (dchain s (15 - (d : Int))) w2 rfl rfl HO4.out hfr4 (Nat.le_refl _) hfr4.size (by omega) ?_
          rintro v' w5 ⟨g', cap', rfl⟩ ho5 hfr5 _
          have HO5 := Lib.hid ho5
          have hc5 := hfr5.cell hc0 (by simp)
          have hcell5 := hfr5.cell hcell0 (by simp)
          refine hK.out _ _ (fun _ => ⟨hc5, hcell5⟩) ?_
          clear hK K' HO4 HO hw4 hfr4 ho5
          refine held_one 13 (by kernel_rfl) rfl rfl rfl (fun K' hK => ?_)
          go_simp
          refine hK.out _ _ (fun h => absurd rfl h) ?_
          clear hK K'
          refine held_done (by kernel_rfl) ?_
          go_wp2_with fail
          go_roundg (18 - (k + 1))
          case measure => have := HG.out; omega
          case rel => exact ⟨k + 1, by omega, rfl, by go_num, by rw [HT2.out, HALL.out, HB.out]; rfl, by rw [HS.out]; exact HO5.out, hfr5⟩
      · obtain rfl : k = 18 := by omega
        have ht : sig.take 18 = sig := List.take_of_length_le (by have := H18.out; omega)
        have HO2 : Hid (OwnS w2.heap.size wr u8 (vends message sig)) := by have := HO.out; rw [ht] at this; exact this
        have HALL2 : Hid (sig.all isD = true) := by have := HALL.out; rw [ht] at this; exact this
        clear HO HALL ht
        have hfin : verifyS pub message sig = (dlist (vends message sig) == pub) := by simp [verifyS, H18.out, HALL2.out]
        have HFIN := Lib.hid hfin
        clear hfin
        go_wp2_with fail
        refine (rlist_any _ (vends message sig) wr HO2.out.strs ?_).mono ?_
        · have h1 := capN_le (vends message sig) 16 (fun s hs => by rw [vends_16 message sig HALL2.out s hs]; decide)
          rw [vends_length, H18.out] at h1; omega
        rintro e w3 ⟨rfl, hb3⟩
        go_wp2_with fail
        go_ret
        exact ⟨by rw [HFIN.out]; rfl, ((hf2.trans hfr (by simp)).below hb3 (by have := hf2.size; have := hfr.size; omega)).toBelow (by simp)⟩
  · have t1 : ((sig.length : Int) != 18) = true := by simp; omega
    have H18 := Lib.hid h18
    clear h18 ha
    go_enter Tryz.func66, Tryz.ntmps66
    go_wp2_with fail
    go_ret
    have hv : verifyS pub message sig = false := by simp [verifyS, H18.out]
    exact ⟨by rw [hv]; rfl, Below.refl _ _⟩

end Go.Proofs.YtglgkdbhdjkeaaaGreatDoor
