/-
  title.Parse.
-/
import Derived.Test.YtcblpfepkkkilaaGreatDoorTtJ
import Derived.Laws.EntriesVeiled
namespace Go.Proofs.YtcblpfepkkkilaaGreatDoor
open Go.RowKit

/-- A number that was read. -/
def NumR (ws : List (List UInt8)) (n : Int) : Prop := (-9223372036854775808 ≤ n ∧ n ≤ 9223372036854775807) ∧ ∀ m : Int, -1000000000000000000 < m → m < 1000000000000000000 → ws.headD [] = Lib.itoa m → n = m
theorem tail_short {B : Nat} {ws : List (List UInt8)} (h : ∀ s ∈ ws, s.length ≤ B) : ∀ s ∈ ws.tail, s.length ≤ B := fun s hs => h s (List.mem_of_mem_tail hs)
/-- What the loop of Parse keeps. -/
structure PSt (B : Nat) (W3 : World) (b4 b7 g : Nat) (n0 n1 n2 : Int) (fi : List UInt8) (ws : List (List UInt8)) (k : Nat) (cv : Value) (R : List Rtf) (W : World) : Prop where
  fr : Fr [b4, b7] W3 W
  n : NX W b4 g (ws.drop (19 * k))
  f : W.heap[b7]? = some (.cells #[.int .i64 n0, .int .i64 n1, .int .i64 n2, .string ⟨fi.toArray⟩, cv] 24 (0, 0))
  o : OwnT B W cv R
  s : ∀ q ∈ R, OwnS B W q.2 q.1.sig
  m : R.map Prod.fst = grpT ws k
  sz : B ≤ W.heap.size
/-- What its inner loop keeps. -/
structure ISt (W8 : World) (b4 b8 g : Nat) (nk : List UInt8) (ws : List (List UInt8)) (m : Nat) (sv : Value) (W : World) : Prop where
  fr : Fr [b4, b8] W8 W
  b : W.heap[b8]? = some (.cells #[.string ⟨nk.toArray⟩, sv] 41 (0, 0))
  o : OwnS W8.heap.size W sv (ws.take m)
  n : NX W b4 g (ws.drop m)
theorem OwnS.nilS {base : Nat} {w : World} : OwnS base w (.slice none 0 0) [] := ⟨rfl, Or.inl ⟨rfl, rfl⟩⟩
theorem grpT_succ (ws : List (List UInt8)) (k : Nat) : grpT ws (k + 1) = grpT ws k ++ [⟨ws.getD (19 * k) [], (ws.drop (19 * k + 1)).take 18⟩] := by
  simp [grpT, List.range_succ]
theorem own_apart {b1 b2 : Nat} {w : World} {v u : Value} {l : List (List UInt8)} {R : List Rtf} (h : OwnS b1 w v l) (k : OwnT b2 w u R) : ∀ x, v.ownBlock = some x → u.ownBlock ≠ some x := by
  intro x hx hu
  rcases h.2 with ⟨rfl, _⟩ | ⟨g, cap, cur, rfl, _, hg, _⟩
  · simp [Value.ownBlock] at hx
  · obtain rfl : g = x := by simpa [Value.ownBlock] using hx
    exact row_ne hg (by decide) k hu.symm
/-- What Parse answers. -/
def TParsePost (w : World) (text : List UInt8) (e : Ending) (w' : World) : Prop :=
  ∃ o : Option Ttl, ParsedT text o ∧ ∃ v, e = .returned (.tuple #[v, .int .i64 (if o.isSome then 0 else 4)]) ∧ TtlR w' v (o.getD zeroTtl) ∧ Below w.heap.size w w'
set_option maxRecDepth 100000 in
set_option maxHeartbeats 8000000 in
theorem tparse_any (text : List UInt8) (w : World) (ht : text.length ≤ 10000) (hT : TabsU w) :
    Calls Tryz.prog 9 #[.string ⟨text.toArray⟩] w (TParsePost w text) := by
  have hmx : Tryz.prog.follows .mixedOrders = true := by kernel_rfl
  have HT := Lib.hid hT
  clear hT
  obtain ⟨W0, hW0⟩ : ∃ W0, W0 = w.alloc (.cells #[.int .i64 0, .int .i64 0, .int .i64 0, .string ⟨#[]⟩, .slice none 0 0] 24) := ⟨_, rfl⟩
  obtain ⟨p, ep⟩ : ∃ p, p = w.heap.size := ⟨_, rfl⟩
  have h0 : Fr [] w W0 := by rw [hW0]; exact (Fr.refl [] w).alloc _
  have hp0 : W0.heap[p]? = some (.cells #[.int .i64 0, .int .i64 0, .int .i64 0, .string ⟨#[]⟩, .slice none 0 0] 24 (0, 0)) := by rw [hW0, ep]; exact heap_new rfl
  have he := enters_next
  have he2 := enters_number
  go_enter Tryz.func9, Tryz.ntmps9
  go_wp2_with fail
  rw [← hW0, ← ep]
  have EP := Lib.hid ep
  clear hW0 ep
  refine (splitU_any text W0 (by omega) (HT.out.fr h0)).mono ?_
  rintro e w1 ⟨rfl, rfl⟩
  obtain ⟨ws, ews⟩ : ∃ ws, ws = splitS text := ⟨_, rfl⟩
  rw [← ews]
  have HWS := Lib.hid ews
  have hwl : ws.length ≤ 10001 := by rw [ews]; have := splitS_len text; omega
  have hws : ∀ s ∈ ws, s.length ≤ 100000 := by rw [ews]; exact fun s hs => Nat.le_trans (splitS_short text s hs) (Nat.le_trans ht (by decide))
  clear ews
  go_wp2_with fail
  obtain ⟨g, eg⟩ : ∃ g, g = W0.heap.size := ⟨_, rfl⟩
  obtain ⟨b4, eb4⟩ : ∃ b4, b4 = W0.heap.size + 1 := ⟨_, rfl⟩
  obtain ⟨b5, eb5⟩ : ∃ b5, b5 = W0.heap.size + 1 + 1 := ⟨_, rfl⟩
  obtain ⟨W3, hW3⟩ : ∃ W3, W3 = ((W0.alloc (.cells (ws.map strV).toArray 9)).alloc (.cells #[.slice (some ⟨g, 0, none⟩) ws.length ws.length] 39)).alloc (.cells #[.func (.func 41) #[] #[.pointer (some ⟨b4, 0, none⟩)]] 54) := ⟨_, rfl⟩
  have hf03 : Fr [] W0 W3 := by rw [hW3]; exact (((Fr.refl [] W0).alloc _).alloc _).alloc _
  have hgW : W3.heap[g]? = some (.cells (ws.map strV).toArray 9 (0, 0)) := by rw [hW3, eg]; exact heap_past _ (heap_past _ (heap_new rfl))
  have hN0 : NX W3 b4 g ws := ⟨0, ws.length, by rw [hW3, eb4]; exact heap_past _ (heap_new (by simp)), strsU_map hgW (by omega)⟩
  have hb5 : W3.heap[b5]? = some (.cells #[.func (.func 41) #[] #[.pointer (some ⟨b4, 0, none⟩)]] 54 (0, 0)) := by rw [hW3, eb5]; exact heap_new (by simp)
  rw [← eb5, ← eb4, ← eg, ← hW3]
  have hw3 : Fr [] w W3 := h0.trans hf03 (by simp)
  have hg : g ≠ b4 := by omega
  have hne54 : b5 ∉ [b4] := by simp; omega
  have hb4w : w.heap.size ≤ b4 := by have := h0.size; omega
  have hxb : ∀ y ∈ [b4], y ∈ ([] : List Nat) ∨ w.heap.size ≤ y := fun y hy => Or.inr (by rw [List.mem_singleton.1 hy]; exact hb4w)
  have hlt3 : b4 < W3.heap.size ∧ b5 < W3.heap.size ∧ g < W3.heap.size := ⟨hN0.lt.1, lt_of_block hb5, hN0.lt.2⟩
  have c5 := cell_of_one hb5
  have hsh0 : ∀ s ∈ ws, s.length ≤ 1000000 := fun s hs => Nat.le_trans (hws s hs) (by decide)
  have hsh1 := tail_short hsh0
  have hsh2 := tail_short hsh1
  obtain ⟨ws1, e1⟩ : ∃ ws1, ws1 = ws.tail := ⟨_, rfl⟩
  obtain ⟨ws2, e2⟩ : ∃ ws2, ws2 = ws1.tail := ⟨_, rfl⟩
  obtain ⟨ws3, e3⟩ : ∃ ws3, ws3 = ws2.tail := ⟨_, rfl⟩
  obtain ⟨ws4, e4⟩ : ∃ ws4, ws4 = ws3.tail := ⟨_, rfl⟩
  obtain ⟨fi, ef⟩ : ∃ fi, fi = ws3.headD [] := ⟨_, rfl⟩
  rw [← e1, ← e2] at hsh2
  rw [← e1] at hsh1
  have E1 := Lib.hid e1
  have E2 := Lib.hid e2
  have E3 := Lib.hid e3
  have E4 := Lib.hid e4
  have EF := Lib.hid ef
  clear e1 e2 e3 e4 ef
  have hz3 := hf03.at hp0 (by simp)
  have hpg : p < g := by have := lt_of_block hp0; omega
  have hb45 : b4 < b5 ∧ g < b4 ∧ p < b4 := by omega
  clear hW3 eg eb4 eb5 hgW h0 hp0 hf03
  have HLT3 := Lib.hid hlt3
  have HPG := Lib.hid hpg
  have HWL := Lib.hid hwl
  have HWS2 := Lib.hid hws
  have HZ3 := Lib.hid hz3
  clear hpg hwl hws hz3
  refine Code.wp_mono (Q := OnlyNormal fun _ a' w' => ∃ (b7 : Nat) (n0 n1 n2 : Int), a' = { tmps := #[.string ⟨text.toArray⟩, undef, .pointer (some ⟨p, 0, none⟩), .int .i64 0, .pointer (some ⟨b4, 0, none⟩), .pointer (some ⟨b5, 0, none⟩), .func (.func 42) #[] #[.pointer (some ⟨b5, 0, none⟩)], .pointer (some ⟨b7, 0, none⟩), undef, undef, .string ⟨text.toArray⟩, .slice (some ⟨g, 0, none⟩) ws.length ws.length, .func (.func 41) #[] #[.pointer (some ⟨b4, 0, none⟩)], .func (.func 42) #[] #[.pointer (some ⟨b5, 0, none⟩)], .func (.func 42) #[] #[.pointer (some ⟨b5, 0, none⟩)], .int .i64 n0, .func (.func 42) #[] #[.pointer (some ⟨b5, 0, none⟩)], .int .i64 n1, .func (.func 42) #[] #[.pointer (some ⟨b5, 0, none⟩)], .int .i64 n2, .func (.func 41) #[] #[.pointer (some ⟨b4, 0, none⟩)], .string ⟨fi.toArray⟩, .agg #[.int .i64 n0, .int .i64 n1, .int .i64 n2, .string ⟨fi.toArray⟩, .slice none 0 0], undef, undef, undef, undef, undef, undef, undef, undef, undef, undef, undef, undef, undef, undef, undef, undef, undef, undef, undef, undef, undef, undef, undef, undef, undef, undef, undef, undef, undef, undef, undef, undef, undef], defers := [] } ∧ w'.heap[b7]? = some (.cells #[.int .i64 n0, .int .i64 n1, .int .i64 n2, .string ⟨fi.toArray⟩, .slice none 0 0] 24 (0, 0)) ∧ NX w' b4 g ws4 ∧ Fr [b4] W3 w' ∧ W3.heap.size ≤ b7 ∧ NumR ws n0 ∧ NumR ws1 n1 ∧ NumR ws2 n2) ?rest ?region
  case region =>
      have g0 : Fr [b4] W3 W3.drew := ((Fr.refl [b4] W3).drew)
      have hS0 : W3.drew.cell? ⟨b5, 0, none⟩ = some (.func (.func 41) #[] #[.pointer (some ⟨b4, 0, none⟩)]) := g0.cell c5 hne54
      have hn0 : NX W3.drew b4 g ws := hN0
      refine region_held 10 (fun W' => W'.cell? ⟨b5, 0, none⟩ = some (.func (.func 41) #[] #[.pointer (some ⟨b4, 0, none⟩)])) hmx ?_
      change Held _ _ _ _ _ _ 11 (Array.replicate 11 false) _ _
      generalize W3.drew = wd at g0 hS0 hn0 ⊢
      refine hd_take 0 (v := .func (.func 42) #[] #[.pointer (some ⟨b5, 0, none⟩)]) rfl (by kernel_rfl) (by kernel_rfl) (by kernel_rfl) rfl hS0 (fun W' hS => by go_simp) rfl ?_
      refine hd_take 2 (v := .func (.func 42) #[] #[.pointer (some ⟨b5, 0, none⟩)]) rfl (by kernel_rfl) (by kernel_rfl) (by kernel_rfl) rfl hS0 (fun W' hS => by go_simp) rfl ?_
      refine hd_take 4 (v := .func (.func 42) #[] #[.pointer (some ⟨b5, 0, none⟩)]) rfl (by kernel_rfl) (by kernel_rfl) (by kernel_rfl) rfl hS0 (fun W' hS => by go_simp) rfl ?_
      refine hd_take 6 (v := .func (.func 41) #[] #[.pointer (some ⟨b4, 0, none⟩)]) rfl (by kernel_rfl) (by kernel_rfl) (by kernel_rfl) rfl hS0 (fun W' hS => by have s0 := hS; go_simp) rfl ?_
      try simp only [Act.put, List.setIfInBounds_toArray, List.set_cons_zero, List.set_cons_succ]
      refine hd_two 1 9 (by kernel_rfl) rfl (by kernel_rfl) rfl rfl (by kernel_rfl) rfl (fun K' hK => ?_) (fun K' hK => ?_)
      · go_simp
        refine (number_any b4 b5 g (ws) w _ hn0 hg (g0.at hb5 hne54) HT.out (hw3.trans g0 hxb) hb4w (hsh0)).mono ?_
        rintro e y1 ⟨n0, rfl, hr0, hm0, hff, hn1⟩
        have HR0 : Hid (NumR (ws) n0) := Lib.hid ⟨hr0, hm0⟩
        clear hr0 hm0
        rw [← E1.out] at hn1
        have g1 : Fr [b4] W3 y1 := g0.trans hff (by simp)
        clear hff
        have hS1 : y1.cell? ⟨b5, 0, none⟩ = some (.func (.func 41) #[] #[.pointer (some ⟨b4, 0, none⟩)]) := g1.cell c5 hne54
        refine hK.out _ _ (fun _ => hS1) ?_
        clear hK K'
        try simp only [Act.put, List.setIfInBounds_toArray, List.set_cons_zero, List.set_cons_succ]
        refine hd_two 3 9 (by kernel_rfl) rfl (by kernel_rfl) rfl rfl (by kernel_rfl) rfl (fun K' hK => ?_) (fun K' hK => ?_)
        · go_simp
          refine (number_any b4 b5 g (ws1) w _ hn1 hg (g1.at hb5 hne54) HT.out (hw3.trans g1 hxb) hb4w (hsh1)).mono ?_
          rintro e y2 ⟨n1, rfl, hr1, hm1, hff, hn2⟩
          have HR1 : Hid (NumR (ws1) n1) := Lib.hid ⟨hr1, hm1⟩
          clear hr1 hm1
          rw [← E2.out] at hn2
          have g2 : Fr [b4] W3 y2 := g1.trans hff (by simp)
          clear hff
          have hS2 : y2.cell? ⟨b5, 0, none⟩ = some (.func (.func 41) #[] #[.pointer (some ⟨b4, 0, none⟩)]) := g2.cell c5 hne54
          refine hK.out _ _ (fun _ => hS2) ?_
          clear hK K'
          try simp only [Act.put, List.setIfInBounds_toArray, List.set_cons_zero, List.set_cons_succ]
          refine hd_two 5 9 (by kernel_rfl) rfl (by kernel_rfl) rfl rfl (by kernel_rfl) rfl (fun K' hK => ?_) (fun K' hK => ?_)
          · go_simp
            refine (number_any b4 b5 g (ws2) w _ hn2 hg (g2.at hb5 hne54) HT.out (hw3.trans g2 hxb) hb4w (hsh2)).mono ?_
            rintro e y3 ⟨n2, rfl, hr2, hm2, hff, hn3⟩
            have HR2 : Hid (NumR (ws2) n2) := Lib.hid ⟨hr2, hm2⟩
            clear hr2 hm2
            rw [← E3.out] at hn3
            have g3 : Fr [b4] W3 y3 := g2.trans hff (by simp)
            clear hff
            have hS3 : y3.cell? ⟨b5, 0, none⟩ = some (.func (.func 41) #[] #[.pointer (some ⟨b4, 0, none⟩)]) := g3.cell c5 hne54
            refine hK.out _ _ (fun _ => hS3) ?_
            clear hK K'
            try simp only [Act.put, List.setIfInBounds_toArray, List.set_cons_zero, List.set_cons_succ]
            refine hd_two 7 9 (by kernel_rfl) rfl (by kernel_rfl) rfl rfl (by kernel_rfl) rfl (fun K' hK => ?_) (fun K' hK => ?_)
            · go_simp
              refine (next_any b4 g (ws3) _ hn3 hg).mono ?_
              rintro e y4 ⟨rfl, hff, hn4⟩
              rw [← EF.out]
              rw [← E4.out] at hn4
              have g4 : Fr [b4] W3 y4 := g3.trans hff (by simp)
              clear hff
              have hS4 : y4.cell? ⟨b5, 0, none⟩ = some (.func (.func 41) #[] #[.pointer (some ⟨b4, 0, none⟩)]) := g4.cell c5 hne54
              refine hK.out _ _ (fun _ => hS4) ?_
              clear hK K'
              try simp only [Act.put, List.setIfInBounds_toArray, List.set_cons_zero, List.set_cons_succ]
              refine hd_take 8 (v := .agg #[.int .i64 n0, .int .i64 n1, .int .i64 n2, .string ⟨fi.toArray⟩, .slice none 0 0]) rfl (by kernel_rfl) (by kernel_rfl) (by kernel_rfl) rfl hS4 (fun W' hS => by go_simp) rfl ?_
              try simp only [Act.put, List.setIfInBounds_toArray, List.set_cons_zero, List.set_cons_succ]
              refine hd_one 9 (by kernel_rfl) rfl (by kernel_rfl) rfl (fun K' hK => ?_)
              go_simp
              have g5 := g4.alloc (.cells #[.int .i64 0, .int .i64 0, .int .i64 0, .string ⟨#[]⟩, .slice none 0 0] 24)
              have hn5 := hn4.fr (X := []) ((Fr.refl [] y4).alloc (.cells #[.int .i64 0, .int .i64 0, .int .i64 0, .string ⟨#[]⟩, .slice none 0 0] 24)) (by simp) (by simp)
              have hb7 : (y4.alloc (.cells #[.int .i64 0, .int .i64 0, .int .i64 0, .string ⟨#[]⟩, .slice none 0 0] 24)).heap[y4.heap.size]? = some (.cells #[.int .i64 0, .int .i64 0, .int .i64 0, .string ⟨#[]⟩, .slice none 0 0] 24 (0, 0)) := heap_new rfl
              obtain ⟨b7, eb7⟩ : ∃ b7, b7 = y4.heap.size := ⟨_, rfl⟩
              have hl7 : W3.heap.size ≤ b7 := by rw [eb7]; exact g4.size
              rw [← eb7] at hb7 ⊢
              clear eb7
              have hne74 : b7 ∉ [b4] := by rw [List.mem_singleton]; omega
              generalize y4.alloc (.cells #[.int .i64 0, .int .i64 0, .int .i64 0, .string ⟨#[]⟩, .slice none 0 0] 24) = x5 at g5 hn5 hb7 ⊢
              have hS5 : x5.cell? ⟨b5, 0, none⟩ = some (.func (.func 41) #[] #[.pointer (some ⟨b4, 0, none⟩)]) := g5.cell c5 hne54
              refine hK.out _ _ (fun _ => hS5) ?_
              clear hK K'
              try simp only [Act.put, List.setIfInBounds_toArray, List.set_cons_zero, List.set_cons_succ]
              have r0 := row_cell hb7 0
              have r1 := row_cell hb7 1
              have r2 := row_cell hb7 2
              have r3 := row_cell hb7 3
              have r4 := row_cell hb7 4
              simp at r0 r1 r2 r3 r4
              have f0 := row_free hb7 0
              have f1 := row_free hb7 1
              have f2 := row_free hb7 2
              have f3 := row_free hb7 3
              have f4 := row_free hb7 4
              refine hd_one 10 (by kernel_rfl) rfl (by kernel_rfl) rfl (fun K' hK => ?_)
              go_simp
              refine hK.out _ _ (fun h => absurd rfl h) ?_
              clear hK K'
              refine held_done (by kernel_rfl) ?_
              have hst := (Fr.refl [b7] x5).store5 b7 (by simp) (.int .i64 n0) (.int .i64 n1) (.int .i64 n2) (.string ⟨fi.toArray⟩) (.slice none 0 0)
              have hbz := row_set (row_set (row_set (row_set (row_set hb7 0 (.int .i64 n0)) 1 (.int .i64 n1)) 2 (.int .i64 n2)) 3 (.string ⟨fi.toArray⟩)) 4 (.slice none 0 0)
              have hnz := hn5.fr hst (show b4 ∉ [b7] by rw [List.mem_singleton]; omega) (show g ∉ [b7] by rw [List.mem_singleton]; omega)
              have hfz := g5.store5 b7 (Or.inr hl7) (.int .i64 n0) (.int .i64 n1) (.int .i64 n2) (.string ⟨fi.toArray⟩) (.slice none 0 0)
              exact ⟨b7, n0, n1, n2, rfl, hbz, hnz, hfz, hl7, HR0.out, HR1.out, HR2.out⟩
            · go_simp
              have g6 := g3.alloc (.cells #[.int .i64 0, .int .i64 0, .int .i64 0, .string ⟨#[]⟩, .slice none 0 0] 24)
              have hn6 := hn3.fr (X := []) ((Fr.refl [] y3).alloc (.cells #[.int .i64 0, .int .i64 0, .int .i64 0, .string ⟨#[]⟩, .slice none 0 0] 24)) (by simp) (by simp)
              have hb7 : (y3.alloc (.cells #[.int .i64 0, .int .i64 0, .int .i64 0, .string ⟨#[]⟩, .slice none 0 0] 24)).heap[y3.heap.size]? = some (.cells #[.int .i64 0, .int .i64 0, .int .i64 0, .string ⟨#[]⟩, .slice none 0 0] 24 (0, 0)) := heap_new rfl
              obtain ⟨b7, eb7⟩ : ∃ b7, b7 = y3.heap.size := ⟨_, rfl⟩
              have hl7 : W3.heap.size ≤ b7 := by rw [eb7]; exact g3.size
              rw [← eb7] at hb7 ⊢
              clear eb7
              have hne74 : b7 ∉ [b4] := by rw [List.mem_singleton]; omega
              generalize y3.alloc (.cells #[.int .i64 0, .int .i64 0, .int .i64 0, .string ⟨#[]⟩, .slice none 0 0] 24) = x6 at g6 hn6 hb7 ⊢
              have hS6 : x6.cell? ⟨b5, 0, none⟩ = some (.func (.func 41) #[] #[.pointer (some ⟨b4, 0, none⟩)]) := g6.cell c5 hne54
              refine hK.out _ _ (fun _ => hS6) ?_
              clear hK K'
              try simp only [Act.put, List.setIfInBounds_toArray, List.set_cons_zero, List.set_cons_succ]
              refine hd_one 7 (by kernel_rfl) rfl (by kernel_rfl) rfl (fun K' hK => ?_)
              go_simp
              refine (next_any b4 g (ws3) _ hn6 hg).mono ?_
              rintro e y7 ⟨rfl, hff, hn7⟩
              rw [← EF.out]
              rw [← E4.out] at hn7
              have g7 : Fr [b4] W3 y7 := g6.trans hff (by simp)
              have hb7 := hff.at hb7 hne74
              clear hff
              have hS7 : y7.cell? ⟨b5, 0, none⟩ = some (.func (.func 41) #[] #[.pointer (some ⟨b4, 0, none⟩)]) := g7.cell c5 hne54
              refine hK.out _ _ (fun _ => hS7) ?_
              clear hK K'
              try simp only [Act.put, List.setIfInBounds_toArray, List.set_cons_zero, List.set_cons_succ]
              refine hd_take 8 (v := .agg #[.int .i64 n0, .int .i64 n1, .int .i64 n2, .string ⟨fi.toArray⟩, .slice none 0 0]) rfl (by kernel_rfl) (by kernel_rfl) (by kernel_rfl) rfl hS7 (fun W' hS => by go_simp) rfl ?_
              try simp only [Act.put, List.setIfInBounds_toArray, List.set_cons_zero, List.set_cons_succ]
              have r0 := row_cell hb7 0
              have r1 := row_cell hb7 1
              have r2 := row_cell hb7 2
              have r3 := row_cell hb7 3
              have r4 := row_cell hb7 4
              simp at r0 r1 r2 r3 r4
              have f0 := row_free hb7 0
              have f1 := row_free hb7 1
              have f2 := row_free hb7 2
              have f3 := row_free hb7 3
              have f4 := row_free hb7 4
              refine hd_one 10 (by kernel_rfl) rfl (by kernel_rfl) rfl (fun K' hK => ?_)
              go_simp
              refine hK.out _ _ (fun h => absurd rfl h) ?_
              clear hK K'
              refine held_done (by kernel_rfl) ?_
              have hst := (Fr.refl [b7] y7).store5 b7 (by simp) (.int .i64 n0) (.int .i64 n1) (.int .i64 n2) (.string ⟨fi.toArray⟩) (.slice none 0 0)
              have hbz := row_set (row_set (row_set (row_set (row_set hb7 0 (.int .i64 n0)) 1 (.int .i64 n1)) 2 (.int .i64 n2)) 3 (.string ⟨fi.toArray⟩)) 4 (.slice none 0 0)
              have hnz := hn7.fr hst (show b4 ∉ [b7] by rw [List.mem_singleton]; omega) (show g ∉ [b7] by rw [List.mem_singleton]; omega)
              have hfz := g7.store5 b7 (Or.inr hl7) (.int .i64 n0) (.int .i64 n1) (.int .i64 n2) (.string ⟨fi.toArray⟩) (.slice none 0 0)
              exact ⟨b7, n0, n1, n2, rfl, hbz, hnz, hfz, hl7, HR0.out, HR1.out, HR2.out⟩
          · go_simp
            have g8 := g2.alloc (.cells #[.int .i64 0, .int .i64 0, .int .i64 0, .string ⟨#[]⟩, .slice none 0 0] 24)
            have hn8 := hn2.fr (X := []) ((Fr.refl [] y2).alloc (.cells #[.int .i64 0, .int .i64 0, .int .i64 0, .string ⟨#[]⟩, .slice none 0 0] 24)) (by simp) (by simp)
            have hb7 : (y2.alloc (.cells #[.int .i64 0, .int .i64 0, .int .i64 0, .string ⟨#[]⟩, .slice none 0 0] 24)).heap[y2.heap.size]? = some (.cells #[.int .i64 0, .int .i64 0, .int .i64 0, .string ⟨#[]⟩, .slice none 0 0] 24 (0, 0)) := heap_new rfl
            obtain ⟨b7, eb7⟩ : ∃ b7, b7 = y2.heap.size := ⟨_, rfl⟩
            have hl7 : W3.heap.size ≤ b7 := by rw [eb7]; exact g2.size
            rw [← eb7] at hb7 ⊢
            clear eb7
            have hne74 : b7 ∉ [b4] := by rw [List.mem_singleton]; omega
            generalize y2.alloc (.cells #[.int .i64 0, .int .i64 0, .int .i64 0, .string ⟨#[]⟩, .slice none 0 0] 24) = x8 at g8 hn8 hb7 ⊢
            have hS8 : x8.cell? ⟨b5, 0, none⟩ = some (.func (.func 41) #[] #[.pointer (some ⟨b4, 0, none⟩)]) := g8.cell c5 hne54
            refine hK.out _ _ (fun _ => hS8) ?_
            clear hK K'
            try simp only [Act.put, List.setIfInBounds_toArray, List.set_cons_zero, List.set_cons_succ]
            refine hd_one 5 (by kernel_rfl) rfl (by kernel_rfl) rfl (fun K' hK => ?_)
            go_simp
            refine (number_any b4 b5 g (ws2) w _ hn8 hg (g8.at hb5 hne54) HT.out (hw3.trans g8 hxb) hb4w (hsh2)).mono ?_
            rintro e y9 ⟨n2, rfl, hr2, hm2, hff, hn9⟩
            have HR2 : Hid (NumR (ws2) n2) := Lib.hid ⟨hr2, hm2⟩
            clear hr2 hm2
            rw [← E3.out] at hn9
            have g9 : Fr [b4] W3 y9 := g8.trans hff (by simp)
            have hb7 := hff.at hb7 hne74
            clear hff
            have hS9 : y9.cell? ⟨b5, 0, none⟩ = some (.func (.func 41) #[] #[.pointer (some ⟨b4, 0, none⟩)]) := g9.cell c5 hne54
            refine hK.out _ _ (fun _ => hS9) ?_
            clear hK K'
            try simp only [Act.put, List.setIfInBounds_toArray, List.set_cons_zero, List.set_cons_succ]
            refine hd_one 7 (by kernel_rfl) rfl (by kernel_rfl) rfl (fun K' hK => ?_)
            go_simp
            refine (next_any b4 g (ws3) _ hn9 hg).mono ?_
            rintro e y10 ⟨rfl, hff, hn10⟩
            rw [← EF.out]
            rw [← E4.out] at hn10
            have g10 : Fr [b4] W3 y10 := g9.trans hff (by simp)
            have hb7 := hff.at hb7 hne74
            clear hff
            have hS10 : y10.cell? ⟨b5, 0, none⟩ = some (.func (.func 41) #[] #[.pointer (some ⟨b4, 0, none⟩)]) := g10.cell c5 hne54
            refine hK.out _ _ (fun _ => hS10) ?_
            clear hK K'
            try simp only [Act.put, List.setIfInBounds_toArray, List.set_cons_zero, List.set_cons_succ]
            refine hd_take 8 (v := .agg #[.int .i64 n0, .int .i64 n1, .int .i64 n2, .string ⟨fi.toArray⟩, .slice none 0 0]) rfl (by kernel_rfl) (by kernel_rfl) (by kernel_rfl) rfl hS10 (fun W' hS => by go_simp) rfl ?_
            try simp only [Act.put, List.setIfInBounds_toArray, List.set_cons_zero, List.set_cons_succ]
            have r0 := row_cell hb7 0
            have r1 := row_cell hb7 1
            have r2 := row_cell hb7 2
            have r3 := row_cell hb7 3
            have r4 := row_cell hb7 4
            simp at r0 r1 r2 r3 r4
            have f0 := row_free hb7 0
            have f1 := row_free hb7 1
            have f2 := row_free hb7 2
            have f3 := row_free hb7 3
            have f4 := row_free hb7 4
            refine hd_one 10 (by kernel_rfl) rfl (by kernel_rfl) rfl (fun K' hK => ?_)
            go_simp
            refine hK.out _ _ (fun h => absurd rfl h) ?_
            clear hK K'
            refine held_done (by kernel_rfl) ?_
            have hst := (Fr.refl [b7] y10).store5 b7 (by simp) (.int .i64 n0) (.int .i64 n1) (.int .i64 n2) (.string ⟨fi.toArray⟩) (.slice none 0 0)
            have hbz := row_set (row_set (row_set (row_set (row_set hb7 0 (.int .i64 n0)) 1 (.int .i64 n1)) 2 (.int .i64 n2)) 3 (.string ⟨fi.toArray⟩)) 4 (.slice none 0 0)
            have hnz := hn10.fr hst (show b4 ∉ [b7] by rw [List.mem_singleton]; omega) (show g ∉ [b7] by rw [List.mem_singleton]; omega)
            have hfz := g10.store5 b7 (Or.inr hl7) (.int .i64 n0) (.int .i64 n1) (.int .i64 n2) (.string ⟨fi.toArray⟩) (.slice none 0 0)
            exact ⟨b7, n0, n1, n2, rfl, hbz, hnz, hfz, hl7, HR0.out, HR1.out, HR2.out⟩
        · go_simp
          have g11 := g1.alloc (.cells #[.int .i64 0, .int .i64 0, .int .i64 0, .string ⟨#[]⟩, .slice none 0 0] 24)
          have hn11 := hn1.fr (X := []) ((Fr.refl [] y1).alloc (.cells #[.int .i64 0, .int .i64 0, .int .i64 0, .string ⟨#[]⟩, .slice none 0 0] 24)) (by simp) (by simp)
          have hb7 : (y1.alloc (.cells #[.int .i64 0, .int .i64 0, .int .i64 0, .string ⟨#[]⟩, .slice none 0 0] 24)).heap[y1.heap.size]? = some (.cells #[.int .i64 0, .int .i64 0, .int .i64 0, .string ⟨#[]⟩, .slice none 0 0] 24 (0, 0)) := heap_new rfl
          obtain ⟨b7, eb7⟩ : ∃ b7, b7 = y1.heap.size := ⟨_, rfl⟩
          have hl7 : W3.heap.size ≤ b7 := by rw [eb7]; exact g1.size
          rw [← eb7] at hb7 ⊢
          clear eb7
          have hne74 : b7 ∉ [b4] := by rw [List.mem_singleton]; omega
          generalize y1.alloc (.cells #[.int .i64 0, .int .i64 0, .int .i64 0, .string ⟨#[]⟩, .slice none 0 0] 24) = x11 at g11 hn11 hb7 ⊢
          have hS11 : x11.cell? ⟨b5, 0, none⟩ = some (.func (.func 41) #[] #[.pointer (some ⟨b4, 0, none⟩)]) := g11.cell c5 hne54
          refine hK.out _ _ (fun _ => hS11) ?_
          clear hK K'
          try simp only [Act.put, List.setIfInBounds_toArray, List.set_cons_zero, List.set_cons_succ]
          refine hd_one 3 (by kernel_rfl) rfl (by kernel_rfl) rfl (fun K' hK => ?_)
          go_simp
          refine (number_any b4 b5 g (ws1) w _ hn11 hg (g11.at hb5 hne54) HT.out (hw3.trans g11 hxb) hb4w (hsh1)).mono ?_
          rintro e y12 ⟨n1, rfl, hr1, hm1, hff, hn12⟩
          have HR1 : Hid (NumR (ws1) n1) := Lib.hid ⟨hr1, hm1⟩
          clear hr1 hm1
          rw [← E2.out] at hn12
          have g12 : Fr [b4] W3 y12 := g11.trans hff (by simp)
          have hb7 := hff.at hb7 hne74
          clear hff
          have hS12 : y12.cell? ⟨b5, 0, none⟩ = some (.func (.func 41) #[] #[.pointer (some ⟨b4, 0, none⟩)]) := g12.cell c5 hne54
          refine hK.out _ _ (fun _ => hS12) ?_
          clear hK K'
          try simp only [Act.put, List.setIfInBounds_toArray, List.set_cons_zero, List.set_cons_succ]
          refine hd_one 5 (by kernel_rfl) rfl (by kernel_rfl) rfl (fun K' hK => ?_)
          go_simp
          refine (number_any b4 b5 g (ws2) w _ hn12 hg (g12.at hb5 hne54) HT.out (hw3.trans g12 hxb) hb4w (hsh2)).mono ?_
          rintro e y13 ⟨n2, rfl, hr2, hm2, hff, hn13⟩
          have HR2 : Hid (NumR (ws2) n2) := Lib.hid ⟨hr2, hm2⟩
          clear hr2 hm2
          rw [← E3.out] at hn13
          have g13 : Fr [b4] W3 y13 := g12.trans hff (by simp)
          have hb7 := hff.at hb7 hne74
          clear hff
          have hS13 : y13.cell? ⟨b5, 0, none⟩ = some (.func (.func 41) #[] #[.pointer (some ⟨b4, 0, none⟩)]) := g13.cell c5 hne54
          refine hK.out _ _ (fun _ => hS13) ?_
          clear hK K'
          try simp only [Act.put, List.setIfInBounds_toArray, List.set_cons_zero, List.set_cons_succ]
          refine hd_one 7 (by kernel_rfl) rfl (by kernel_rfl) rfl (fun K' hK => ?_)
          go_simp
          refine (next_any b4 g (ws3) _ hn13 hg).mono ?_
          rintro e y14 ⟨rfl, hff, hn14⟩
          rw [← EF.out]
          rw [← E4.out] at hn14
          have g14 : Fr [b4] W3 y14 := g13.trans hff (by simp)
          have hb7 := hff.at hb7 hne74
          clear hff
          have hS14 : y14.cell? ⟨b5, 0, none⟩ = some (.func (.func 41) #[] #[.pointer (some ⟨b4, 0, none⟩)]) := g14.cell c5 hne54
          refine hK.out _ _ (fun _ => hS14) ?_
          clear hK K'
          try simp only [Act.put, List.setIfInBounds_toArray, List.set_cons_zero, List.set_cons_succ]
          refine hd_take 8 (v := .agg #[.int .i64 n0, .int .i64 n1, .int .i64 n2, .string ⟨fi.toArray⟩, .slice none 0 0]) rfl (by kernel_rfl) (by kernel_rfl) (by kernel_rfl) rfl hS14 (fun W' hS => by go_simp) rfl ?_
          try simp only [Act.put, List.setIfInBounds_toArray, List.set_cons_zero, List.set_cons_succ]
          have r0 := row_cell hb7 0
          have r1 := row_cell hb7 1
          have r2 := row_cell hb7 2
          have r3 := row_cell hb7 3
          have r4 := row_cell hb7 4
          simp at r0 r1 r2 r3 r4
          have f0 := row_free hb7 0
          have f1 := row_free hb7 1
          have f2 := row_free hb7 2
          have f3 := row_free hb7 3
          have f4 := row_free hb7 4
          refine hd_one 10 (by kernel_rfl) rfl (by kernel_rfl) rfl (fun K' hK => ?_)
          go_simp
          refine hK.out _ _ (fun h => absurd rfl h) ?_
          clear hK K'
          refine held_done (by kernel_rfl) ?_
          have hst := (Fr.refl [b7] y14).store5 b7 (by simp) (.int .i64 n0) (.int .i64 n1) (.int .i64 n2) (.string ⟨fi.toArray⟩) (.slice none 0 0)
          have hbz := row_set (row_set (row_set (row_set (row_set hb7 0 (.int .i64 n0)) 1 (.int .i64 n1)) 2 (.int .i64 n2)) 3 (.string ⟨fi.toArray⟩)) 4 (.slice none 0 0)
          have hnz := hn14.fr hst (show b4 ∉ [b7] by rw [List.mem_singleton]; omega) (show g ∉ [b7] by rw [List.mem_singleton]; omega)
          have hfz := g14.store5 b7 (Or.inr hl7) (.int .i64 n0) (.int .i64 n1) (.int .i64 n2) (.string ⟨fi.toArray⟩) (.slice none 0 0)
          exact ⟨b7, n0, n1, n2, rfl, hbz, hnz, hfz, hl7, HR0.out, HR1.out, HR2.out⟩
      · go_simp
        have g15 := g0.alloc (.cells #[.int .i64 0, .int .i64 0, .int .i64 0, .string ⟨#[]⟩, .slice none 0 0] 24)
        have hn15 := hn0.fr (X := []) ((Fr.refl [] wd).alloc (.cells #[.int .i64 0, .int .i64 0, .int .i64 0, .string ⟨#[]⟩, .slice none 0 0] 24)) (by simp) (by simp)
        have hb7 : (wd.alloc (.cells #[.int .i64 0, .int .i64 0, .int .i64 0, .string ⟨#[]⟩, .slice none 0 0] 24)).heap[wd.heap.size]? = some (.cells #[.int .i64 0, .int .i64 0, .int .i64 0, .string ⟨#[]⟩, .slice none 0 0] 24 (0, 0)) := heap_new rfl
        obtain ⟨b7, eb7⟩ : ∃ b7, b7 = wd.heap.size := ⟨_, rfl⟩
        have hl7 : W3.heap.size ≤ b7 := by rw [eb7]; exact g0.size
        rw [← eb7] at hb7 ⊢
        clear eb7
        have hne74 : b7 ∉ [b4] := by rw [List.mem_singleton]; omega
        generalize wd.alloc (.cells #[.int .i64 0, .int .i64 0, .int .i64 0, .string ⟨#[]⟩, .slice none 0 0] 24) = x15 at g15 hn15 hb7 ⊢
        have hS15 : x15.cell? ⟨b5, 0, none⟩ = some (.func (.func 41) #[] #[.pointer (some ⟨b4, 0, none⟩)]) := g15.cell c5 hne54
        refine hK.out _ _ (fun _ => hS15) ?_
        clear hK K'
        try simp only [Act.put, List.setIfInBounds_toArray, List.set_cons_zero, List.set_cons_succ]
        refine hd_one 1 (by kernel_rfl) rfl (by kernel_rfl) rfl (fun K' hK => ?_)
        go_simp
        refine (number_any b4 b5 g (ws) w _ hn15 hg (g15.at hb5 hne54) HT.out (hw3.trans g15 hxb) hb4w (hsh0)).mono ?_
        rintro e y16 ⟨n0, rfl, hr0, hm0, hff, hn16⟩
        have HR0 : Hid (NumR (ws) n0) := Lib.hid ⟨hr0, hm0⟩
        clear hr0 hm0
        rw [← E1.out] at hn16
        have g16 : Fr [b4] W3 y16 := g15.trans hff (by simp)
        have hb7 := hff.at hb7 hne74
        clear hff
        have hS16 : y16.cell? ⟨b5, 0, none⟩ = some (.func (.func 41) #[] #[.pointer (some ⟨b4, 0, none⟩)]) := g16.cell c5 hne54
        refine hK.out _ _ (fun _ => hS16) ?_
        clear hK K'
        try simp only [Act.put, List.setIfInBounds_toArray, List.set_cons_zero, List.set_cons_succ]
        refine hd_one 3 (by kernel_rfl) rfl (by kernel_rfl) rfl (fun K' hK => ?_)
        go_simp
        refine (number_any b4 b5 g (ws1) w _ hn16 hg (g16.at hb5 hne54) HT.out (hw3.trans g16 hxb) hb4w (hsh1)).mono ?_
        rintro e y17 ⟨n1, rfl, hr1, hm1, hff, hn17⟩
        have HR1 : Hid (NumR (ws1) n1) := Lib.hid ⟨hr1, hm1⟩
        clear hr1 hm1
        rw [← E2.out] at hn17
        have g17 : Fr [b4] W3 y17 := g16.trans hff (by simp)
        have hb7 := hff.at hb7 hne74
        clear hff
        have hS17 : y17.cell? ⟨b5, 0, none⟩ = some (.func (.func 41) #[] #[.pointer (some ⟨b4, 0, none⟩)]) := g17.cell c5 hne54
        refine hK.out _ _ (fun _ => hS17) ?_
        clear hK K'
        try simp only [Act.put, List.setIfInBounds_toArray, List.set_cons_zero, List.set_cons_succ]
        refine hd_one 5 (by kernel_rfl) rfl (by kernel_rfl) rfl (fun K' hK => ?_)
        go_simp
        refine (number_any b4 b5 g (ws2) w _ hn17 hg (g17.at hb5 hne54) HT.out (hw3.trans g17 hxb) hb4w (hsh2)).mono ?_
        rintro e y18 ⟨n2, rfl, hr2, hm2, hff, hn18⟩
        have HR2 : Hid (NumR (ws2) n2) := Lib.hid ⟨hr2, hm2⟩
        clear hr2 hm2
        rw [← E3.out] at hn18
        have g18 : Fr [b4] W3 y18 := g17.trans hff (by simp)
        have hb7 := hff.at hb7 hne74
        clear hff
        have hS18 : y18.cell? ⟨b5, 0, none⟩ = some (.func (.func 41) #[] #[.pointer (some ⟨b4, 0, none⟩)]) := g18.cell c5 hne54
        refine hK.out _ _ (fun _ => hS18) ?_
        clear hK K'
        try simp only [Act.put, List.setIfInBounds_toArray, List.set_cons_zero, List.set_cons_succ]
        refine hd_one 7 (by kernel_rfl) rfl (by kernel_rfl) rfl (fun K' hK => ?_)
        go_simp
        refine (next_any b4 g (ws3) _ hn18 hg).mono ?_
        rintro e y19 ⟨rfl, hff, hn19⟩
        rw [← EF.out]
        rw [← E4.out] at hn19
        have g19 : Fr [b4] W3 y19 := g18.trans hff (by simp)
        have hb7 := hff.at hb7 hne74
        clear hff
        have hS19 : y19.cell? ⟨b5, 0, none⟩ = some (.func (.func 41) #[] #[.pointer (some ⟨b4, 0, none⟩)]) := g19.cell c5 hne54
        refine hK.out _ _ (fun _ => hS19) ?_
        clear hK K'
        try simp only [Act.put, List.setIfInBounds_toArray, List.set_cons_zero, List.set_cons_succ]
        refine hd_take 8 (v := .agg #[.int .i64 n0, .int .i64 n1, .int .i64 n2, .string ⟨fi.toArray⟩, .slice none 0 0]) rfl (by kernel_rfl) (by kernel_rfl) (by kernel_rfl) rfl hS19 (fun W' hS => by go_simp) rfl ?_
        try simp only [Act.put, List.setIfInBounds_toArray, List.set_cons_zero, List.set_cons_succ]
        have r0 := row_cell hb7 0
        have r1 := row_cell hb7 1
        have r2 := row_cell hb7 2
        have r3 := row_cell hb7 3
        have r4 := row_cell hb7 4
        simp at r0 r1 r2 r3 r4
        have f0 := row_free hb7 0
        have f1 := row_free hb7 1
        have f2 := row_free hb7 2
        have f3 := row_free hb7 3
        have f4 := row_free hb7 4
        refine hd_one 10 (by kernel_rfl) rfl (by kernel_rfl) rfl (fun K' hK => ?_)
        go_simp
        refine hK.out _ _ (fun h => absurd rfl h) ?_
        clear hK K'
        refine held_done (by kernel_rfl) ?_
        have hst := (Fr.refl [b7] y19).store5 b7 (by simp) (.int .i64 n0) (.int .i64 n1) (.int .i64 n2) (.string ⟨fi.toArray⟩) (.slice none 0 0)
        have hbz := row_set (row_set (row_set (row_set (row_set hb7 0 (.int .i64 n0)) 1 (.int .i64 n1)) 2 (.int .i64 n2)) 3 (.string ⟨fi.toArray⟩)) 4 (.slice none 0 0)
        have hnz := hn19.fr hst (show b4 ∉ [b7] by rw [List.mem_singleton]; omega) (show g ∉ [b7] by rw [List.mem_singleton]; omega)
        have hfz := g19.store5 b7 (Or.inr hl7) (.int .i64 n0) (.int .i64 n1) (.int .i64 n2) (.string ⟨fi.toArray⟩) (.slice none 0 0)
        exact ⟨b7, n0, n1, n2, rfl, hbz, hnz, hfz, hl7, HR0.out, HR1.out, HR2.out⟩
  case rest =>
    intro e a' w4 hq
    cases e with
    | normal => ?_
    | _ => exact hq.elim
    obtain ⟨b7, n0, n1, n2, rfl, hb7, hn4, hf4, hl7, hR0, hR1, hR2⟩ := hq
    have HR0 := Lib.hid hR0
    have HR1 := Lib.hid hR1
    have HR2 := Lib.hid hR2
    obtain ⟨B, eB⟩ : ∃ B, B = w4.heap.size := ⟨_, rfl⟩
    have hb7B : b7 < B := by rw [eB]; exact lt_of_block hb7
    have hlt3 := HLT3.out
    have hb47 : b4 < b7 ∧ b5 < b7 ∧ g < b7 := by omega
    have hw3B : W3.heap.size ≤ B := by omega
    have HP4 : Hid (PSt B W3 b4 b7 g n0 n1 n2 fi ws4 0 (.slice none 0 0) [] w4) := Lib.hid ⟨hf4.mono (by simp), hn4, hb7, OwnT.nil, fun q hq => (by cases hq), rfl, by rw [eB]; exact Nat.le_refl _⟩
    have HW3 := Lib.hid hw3
    have HB5 := Lib.hid hb5
    have hww3 : w.heap.size ≤ W3.heap.size := hw3.size
    have HL4 : Hid (ws4.length ≤ 10001) := Lib.hid (by have := HWL.out; rw [E4.out, E3.out, E2.out, E1.out]; simp only [List.length_tail]; omega)
    clear hb7 hn4 hf4 hR0 hR1 hR2 eB hw3 hb5 c5 hN0 hsh0 hsh1 hsh2 hxb
    go_wp2_with fail
    go_loopg [8] (ws4.length / 19) (fun gh u wr => ∃ (k : Nat) (cv : Value) (R : List Rtf), k ≤ ws4.length / 19 ∧ gh = ws4.length / 19 - k ∧ PSt B W3 b4 b7 g n0 n1 n2 fi ws4 k cv R wr)
    case atStart => exact ⟨0, _, _, by omega, by omega, HP4.out⟩
    case round =>
      clear HP4
      obtain ⟨wo, rfl⟩ : ∃ wo : World, wo = wr := ⟨_, rfl⟩
      obtain ⟨k, cv, R, hk, hgh, hP⟩ := hrel
      have HG := Lib.hid hgh
      have HP := Lib.hid hP
      clear hgh hP
      have hL4 := HL4.out
      have c5 := cell_of_one (HP.out.fr.at HB5.out (by simp; omega))
      obtain ⟨off, cap, hbx, _⟩ := HP.out.n
      obtain ⟨nn, enn⟩ : ∃ nn, nn = (ws4.drop (19 * k)).length := ⟨_, rfl⟩
      rw [← enn] at hbx
      have hnn : nn = ws4.length - 19 * k := by rw [enn, List.length_drop]
      have c4 := cell_of_one hbx
      clear hbx enn
      obtain ⟨ca, cl, cc, hcvf⟩ : ∃ ca cl cc, cv = .slice ca cl cc := by
        rcases HP.out.o.2 with ⟨h1, _⟩ | ⟨gg, c, _, h1, _⟩
        · exact ⟨_, _, _, h1⟩
        · exact ⟨_, _, _, h1⟩
      subst hcvf
      by_cases hlt : k < ws4.length / 19
      · have t1 : decide ((18 : Int) < (nn : Int)) = true := by simp; omega
        have h19 : 19 * k + 19 ≤ ws4.length := by omega
        clear hnn
        go_wp2_with fail
        refine (next_any b4 g _ wo HP.out.n hg).mono ?_
        rintro e y ⟨rfl, hff, hny⟩
        obtain ⟨nk, enk⟩ : ∃ nk, nk = (ws4.drop (19 * k)).headD [] := ⟨_, rfl⟩
        rw [← enk]
        have HNK := Lib.hid enk
        rw [List.tail_drop] at hny
        have HFF := Lib.hid hff
        have HNY := Lib.hid hny
        clear hff hny enk c4 c5
        go_wp2_with fail
        obtain ⟨b8, eb8⟩ : ∃ b8, b8 = y.heap.size := ⟨_, rfl⟩
        obtain ⟨W8, hW8⟩ : ∃ W8, W8 = y.alloc (.cells #[.string ⟨nk.toArray⟩, .slice none 0 0] 41) := ⟨_, rfl⟩
        have hy8 : Fr [] y W8 := by rw [hW8]; exact (Fr.refl [] y).alloc _
        have hb8 : W8.heap[b8]? = some (.cells #[.string ⟨nk.toArray⟩, .slice none 0 0] 41 (0, 0)) := by rw [hW8, eb8]; exact heap_new rfl
        have hn8 := HNY.out.fr hy8 (by simp) (by simp)
        have hr8 : Fr [b4] wo W8 := HFF.out.trans hy8 (by simp)
        have hwb8 : wo.heap.size ≤ b8 := by rw [eb8]; exact HFF.out.size
        have hb8W : b8 < W8.heap.size := lt_of_block hb8
        have hBr := HP.out.sz
        have hw8 : Fr [] w W8 := ((HW3.out.trans HP.out.fr (fun z hz => Or.inr (by simp only [List.mem_cons, List.not_mem_nil, or_false] at hz; omega))).trans hr8 (fun z hz => Or.inr (by rw [List.mem_singleton.1 hz]; exact hb4w)))
        rw [← hW8, ← eb8]
        have HR8 := Lib.hid hr8
        have HI0 : Hid (ISt W8 b4 b8 g nk (ws4.drop (19 * k + 1)) 0 (.slice none 0 0) W8) := Lib.hid ⟨Fr.refl _ _, hb8, by simpa using OwnS.nilS, hn8⟩
        have HW8 := Lib.hid hw8
        have HB58 := Lib.hid (hr8.at (HP.out.fr.at HB5.out (by simp; omega)) hne54)
        have hsw8 : w.heap.size ≤ W8.heap.size := hw8.size
        clear hW8 eb8 hy8 hb8 hn8 hr8 hw8
        go_loopg [29] 18 (fun gh i wr => ∃ (m : Nat) (sv : Value), m ≤ 18 ∧ gh = 18 - m ∧ i = .int .i64 (m : Int) ∧ ISt W8 b4 b8 g nk (ws4.drop (19 * k + 1)) m sv wr)
        case atStart => exact ⟨0, _, by omega, by omega, rfl, HI0.out⟩
        case round =>
          clear HI0
          obtain ⟨m, sv, hm, hgh, rfl, hI⟩ := hrel
          have HG2 := Lib.hid hgh
          have HI := Lib.hid hI
          clear hgh hI
          by_cases hm18 : m < 18
          · have t2 : decide ((m : Int) < 18) = true := by simp; omega
            have hb5i := HI.out.fr.at HB58.out (by simp; omega)
            have c5 := cell_of_one hb5i
            have k1 := row_cell HI.out.b 1
            simp at k1
            have hlen : (ws4.drop (19 * k + 1)).length = ws4.length - (19 * k + 1) := List.length_drop ..
            obtain ⟨s, es⟩ : ∃ s, s = ((ws4.drop (19 * k + 1)).drop m).headD [] := ⟨_, rfl⟩
            have HSN : Hid ((ws4.drop (19 * k + 1)).take (m + 1) = (ws4.drop (19 * k + 1)).take m ++ [s]) := Lib.hid (by
              rw [take_snoc' _ m [] (by omega), es]
              congr 2
              rw [List.getD_eq_getElem?_getD, List.headD_eq_head?_getD, List.head?_drop])
            have HES := Lib.hid es
            have hl2 : ((ws4.drop (19 * k + 1)).take m).length < 1000000 := by rw [List.length_take]; omega
            have hwi : Fr [] w wr := HW8.out.trans HI.out.fr (fun z hz => Or.inr (by simp only [List.mem_cons, List.not_mem_nil, or_false] at hz; have := HP.out.sz; omega))
            obtain ⟨va, vl, vc, hvf⟩ : ∃ va vl vc, sv = .slice va vl vc := by
              rcases HI.out.o.2 with ⟨h1, _⟩ | ⟨gg, c, _, h1, _⟩
              · exact ⟨_, _, _, h1⟩
              · exact ⟨_, _, _, h1⟩
            subst hvf
            have HWI := Lib.hid hwi
            clear es hlen hwi
            go_wp2_with fail
            have g0 : Fr [b4] wr wr.drew := (Fr.refl [b4] wr).drew
            have hn84 : b8 ∉ [b4] := by rw [List.mem_singleton]; have := HP.out.sz; omega
            have hS0 : wr.drew.cell? ⟨b5, 0, none⟩ = some (.func (.func 41) #[] #[.pointer (some ⟨b4, 0, none⟩)]) ∧ wr.drew.cell? ⟨b8, 1, none⟩ = some (.slice va vl vc) := ⟨g0.cell c5 hne54, g0.cell k1 hn84⟩
            refine region_held 7 (fun W' => W'.cell? ⟨b5, 0, none⟩ = some (.func (.func 41) #[] #[.pointer (some ⟨b4, 0, none⟩)]) ∧ W'.cell? ⟨b8, 1, none⟩ = some (.slice va vl vc)) hmx ?_
            change Held _ _ _ _ _ _ 8 (Array.replicate 8 false) _ _
            refine hd_take 0 (v := .pointer (some ⟨b8, 1, none⟩)) rfl (by kernel_rfl) (by kernel_rfl) (by kernel_rfl) rfl hS0 (fun W' hS => by go_simp) rfl ?_
            try simp only [Act.put, List.setIfInBounds_toArray, List.set_cons_zero, List.set_cons_succ]
            refine hd_take 1 (v := .slice va vl vc) rfl (by kernel_rfl) (by kernel_rfl) (by kernel_rfl) rfl hS0 (fun W' hS => by obtain ⟨s0, s1⟩ := hS; go_simp) rfl ?_
            refine hd_take 2 (v := .func (.func 41) #[] #[.pointer (some ⟨b4, 0, none⟩)]) rfl (by kernel_rfl) (by kernel_rfl) (by kernel_rfl) rfl hS0 (fun W' hS => by obtain ⟨s0, s1⟩ := hS; go_simp) rfl ?_
            try simp only [Act.put, List.setIfInBounds_toArray, List.set_cons_zero, List.set_cons_succ]
            refine hd_one 3 (by kernel_rfl) rfl (by kernel_rfl) rfl (fun K' hK => ?_)
            go_simp
            refine (next_any b4 g _ _ (HI.out.n.fr (X := []) ((Fr.refl [] wr).drew) (by simp) (by simp)) hg).mono ?_
            rintro e z ⟨rfl, hff, hnz⟩
            rw [← HES.out]
            have gz : Fr [b4] wr z := g0.trans hff (by simp)
            clear hff
            have hS1 : z.cell? ⟨b5, 0, none⟩ = some (.func (.func 41) #[] #[.pointer (some ⟨b4, 0, none⟩)]) ∧ z.cell? ⟨b8, 1, none⟩ = some (.slice va vl vc) := ⟨gz.cell c5 hne54, gz.cell k1 hn84⟩
            refine hK.out _ _ (fun _ => hS1) ?_
            clear hK K'
            try simp only [Act.put, List.setIfInBounds_toArray, List.set_cons_zero, List.set_cons_succ]
            refine hd_one 4 (by kernel_rfl) rfl (by kernel_rfl) rfl (fun K' hK => ?_)
            go_simp
            have ga := gz.alloc (.cells #[.string ⟨s.toArray⟩] 9)
            have hS2 : (z.alloc (.cells #[.string ⟨s.toArray⟩] 9)).cell? ⟨b5, 0, none⟩ = some (.func (.func 41) #[] #[.pointer (some ⟨b4, 0, none⟩)]) ∧ (z.alloc (.cells #[.string ⟨s.toArray⟩] 9)).cell? ⟨b8, 1, none⟩ = some (.slice va vl vc) := ⟨ga.cell c5 hne54, ga.cell k1 hn84⟩
            refine hK.out _ _ (fun _ => hS2) ?_
            clear hK K'
            try simp only [Act.put, List.setIfInBounds_toArray, List.set_cons_zero, List.set_cons_succ]
            have hnb : ∀ x, (Value.slice va vl vc).ownBlock = some x → W8.heap.size ≤ x := fun x hx => (ownBlock_cells HI.out.o x hx).1
            have hb9 : ∀ z, z < W8.heap.size → z ∉ (Value.slice va vl vc).ownBlock.toList := fun z hz hm => by have := hnb z (Option.mem_toList.1 hm); omega
            refine hd_one 5 (by kernel_rfl) rfl (by kernel_rfl) rfl (fun K' hK => ?_)
            refine wp_appS (.tmp 32) (.tmp 35) rfl W8.heap.size (.slice va vl vc) ((ws4.drop (19 * k + 1)).take m) s w (by kernel_rfl) (by kernel_rfl) (HI.out.o.fr gz (fun x hx hm => by have := hnb x hx; have := List.mem_singleton.1 hm; have := HP.out.sz; omega)) (HWI.out.trans gz (fun z hz => Or.inr (by rw [List.mem_singleton.1 hz]; exact hb4w))) hsw8 (Nat.le_trans HI.out.fr.size gz.size) hl2 ?_
            rintro v9 w9 ⟨g9, c9, rfl⟩ ho9 hf9 hg9
            obtain ⟨nm, enm⟩ : ∃ nm, nm = ((ws4.drop (19 * k + 1)).take m).length := ⟨_, rfl⟩
            rw [← enm] at ho9 ⊢
            have ENM := Lib.hid enm
            clear enm
            have hS9 : w9.cell? ⟨b5, 0, none⟩ = some (.func (.func 41) #[] #[.pointer (some ⟨b4, 0, none⟩)]) ∧ w9.cell? ⟨b8, 1, none⟩ = some (.slice va vl vc) := ⟨hg9.cell hS1.1 (hb9 b5 (by have := HP.out.sz; omega)), hg9.cell hS1.2 (hb9 b8 hb8W)⟩
            refine hK.out _ _ (fun _ => hS9) ?_
            clear hK K'
            try simp only [Act.put, List.setIfInBounds_toArray, List.set_cons_zero, List.set_cons_succ]
            refine hd_take 6 (v := .pointer (some ⟨b8, 1, none⟩)) rfl (by kernel_rfl) (by kernel_rfl) (by kernel_rfl) rfl hS9 (fun W' hS => by go_simp) rfl ?_
            try simp only [Act.put, List.setIfInBounds_toArray, List.set_cons_zero, List.set_cons_succ]
            have h89 := hg9.at (gz.at HI.out.b hn84) (hb9 b8 hb8W)
            have y1 := row_free h89 1
            refine hd_one 7 (by kernel_rfl) rfl (by kernel_rfl) rfl (fun K' hK => ?_)
            go_simp
            refine hK.out _ _ (fun h => absurd rfl h) ?_
            clear hK K'
            refine held_done (by kernel_rfl) ?_
            have hst : Fr [b8] w9 (w9.setCell ⟨b8, 1, none⟩ (.slice (some ⟨g9, 0, none⟩) (nm + 1) c9)) := (Fr.refl [b8] w9).setCell _ _ (by simp)
            have hzb := row_set h89 1 (.slice (some ⟨g9, 0, none⟩) (nm + 1) c9)
            have hzo := OwnS.fr ho9 hst (fun x hx hm => by have := (ownBlock_cells ho9 x hx).1; have := List.mem_singleton.1 hm; omega)
            have hzn := (hnz.fr hg9 (hb9 b4 (by have := HP.out.sz; omega)) (hb9 g (by have := HP.out.sz; omega))).fr hst (by simp; have := HP.out.sz; omega) (by simp; have := HP.out.sz; omega)
            rw [List.tail_drop] at hzn
            have hzf : Fr [b4, b8] W8 (w9.setCell ⟨b8, 1, none⟩ (.slice (some ⟨g9, 0, none⟩) (nm + 1) c9)) := ((HI.out.fr.trans gz (by simp)).trans hg9 (fun z hz => Or.inr (hnb z (Option.mem_toList.1 hz)))).setCell _ _ (by simp)
            clear hst h89 y1
            have HZB := Lib.hid hzb
            have HZO := Lib.hid hzo
            have HZN := Lib.hid hzn
            have HZF := Lib.hid hzf
            clear hzb hzo hzn hzf ho9 hf9 hg9 hnz gz ga hS1 hS2 hS9 g0 hS0 hb5i k1 c5 hnb hb9
            go_wp2_with fail
            go_roundg (18 - (m + 1))
            case measure => have := HG2.out; omega
            case rel => exact ⟨m + 1, _, by omega, rfl, by go_num, ⟨HZF.out, HZB.out, by rw [HSN.out]; exact HZO.out, HZN.out⟩⟩
          · obtain rfl : m = 18 := by omega
            have t2 : decide ((18 : Int) < 18) = false := by decide
            have hG : Fr [b4] wo wr := HR8.out.trans HI.out.fr (fun z hz => by
              simp only [List.mem_cons, List.not_mem_nil, or_false] at hz
              rcases hz with rfl | rfl
              · left; simp
              · right; exact hwb8)
            have hcl : ∀ x, (Value.slice ca cl cc).ownBlock = some x → B ≤ x ∧ x < wo.heap.size := fun x hx => ⟨(ownBlock_cells HP.out.o x hx).1, ownBlock_lt HP.out.o x hx⟩
            have hoG : OwnT B wr (.slice ca cl cc) R := HP.out.o.fr hG (fun x hx hm => by have := (hcl x hx).1; have := List.mem_singleton.1 hm; omega)
            have hfG := hG.at HP.out.f (by simp; omega)
            have q0 := row_cell hfG 0
            have q1 := row_cell hfG 1
            have q2 := row_cell hfG 2
            have q3 := row_cell hfG 3
            have q4 := row_cell hfG 4
            have k0 := row_cell HI.out.b 0
            have k1 := row_cell HI.out.b 1
            simp at q0 q1 q2 q3 q4 k0 k1
            obtain ⟨va, vl, vc, hvf⟩ : ∃ va vl vc, sv = .slice va vl vc := by
              rcases HI.out.o.2 with ⟨h1, _⟩ | ⟨gg, c, _, h1, _⟩
              · exact ⟨_, _, _, h1⟩
              · exact ⟨_, _, _, h1⟩
            subst hvf
            have hwi : Fr [] w wr := HW8.out.trans HI.out.fr (fun z hz => Or.inr (by simp only [List.mem_cons, List.not_mem_nil, or_false] at hz; have := HP.out.sz; omega))
            have hRl : R.length + 1 < 1000000 := by
              have := congrArg List.length HP.out.m
              rw [List.length_map] at this
              simp only [grpT, List.length_map, List.length_range] at this
              omega
            have hwB : w.heap.size ≤ B := Nat.le_trans hww3 hw3B
            have hBi : B ≤ wr.heap.size := Nat.le_trans HP.out.sz hG.size
            have HOG := Lib.hid hoG
            have HFG := Lib.hid hfG
            have HGG := Lib.hid hG
            have HWI := Lib.hid hwi
            have hsgn : ∀ W', Fr [] wr W' → SigsR W' [((⟨nk, (ws4.drop (19 * k + 1)).take 18⟩ : Trf), (Value.slice va vl vc))] := fun W' hf q hq => by
              rw [List.mem_singleton.1 hq]
              exact Or.inl (HI.out.o.strs.fr0 hf)
            have HSGN := Lib.hid hsgn
            have HCL := Lib.hid hcl
            clear hoG hfG hG hwi hsgn hcl
            go_wp2_with (at_builtin; go_loud (refine wpList_appT rfl (.tmp 40) (.tmp 42) rfl B (.slice ca cl cc) (.slice (some ⟨wr.heap.size, 0, none⟩) 1 1) R [((⟨nk, (ws4.drop (19 * k + 1)).take 18⟩ : Trf), (Value.slice va vl vc))] w rfl rfl (rawT_one (heap_new rfl)) (HSGN.out _ ((Fr.refl [] wr).alloc _)) (HOG.out.fr ((Fr.refl [] wr).alloc _) (by simp)) (HWI.out.alloc _) hwB (by simp; omega) (by simpa using hRl) ?_))
            intro v11 w11 ho11 hf11 hg11
            obtain ⟨g11, c11, hv11, hgB⟩ := ho11.someN (by simp)
            subst hv11
            have ha11 : Fr [] wr (wr.alloc (.cells #[.string ⟨nk.toArray⟩, .slice va vl vc] 41)) := (Fr.refl [] wr).alloc _
            have hcn : ∀ z, z < B → z ∉ (Value.slice ca cl cc).ownBlock.toList := fun z hz hm => by have := (HCL.out z (Option.mem_toList.1 hm)).1; omega
            have hf7 := hg11.at (ha11.at HFG.out (by simp)) (hcn b7 hb7B)
            have e4 := row_cell hf7 4
            simp at e4
            have f4 := row_free hf7 4
            have hP2 : PSt B W3 b4 b7 g n0 n1 n2 fi ws4 (k + 1) (.slice (some ⟨g11, 0, none⟩) (R ++ [((⟨nk, (ws4.drop (19 * k + 1)).take 18⟩ : Trf), (Value.slice va vl vc))]).length c11) (R ++ [((⟨nk, (ws4.drop (19 * k + 1)).take 18⟩ : Trf), (Value.slice va vl vc))]) (w11.setCell ⟨b7, 4, none⟩ (.slice (some ⟨g11, 0, none⟩) (R ++ [((⟨nk, (ws4.drop (19 * k + 1)).take 18⟩ : Trf), (Value.slice va vl vc))]).length c11)) := by
              have hst : Fr [b7] w11 (w11.setCell ⟨b7, 4, none⟩ (.slice (some ⟨g11, 0, none⟩) (R ++ [((⟨nk, (ws4.drop (19 * k + 1)).take 18⟩ : Trf), (Value.slice va vl vc))]).length c11)) := (Fr.refl [b7] w11).setCell _ _ (by simp)
              refine ⟨?_, ?_, row_set hf7 4 _, ho11.fr hst (fun x hx hm => by have := (ownBlock_cells ho11 x hx).1; have := List.mem_singleton.1 hm; omega), ?_, ?_, ?_⟩
              · refine Fr.setCell (((HP.out.fr.trans HGG.out (by simp)).trans ha11 (by simp)).trans hg11 (fun z hz => Or.inr ?_)) _ _ (by simp)
                have := (HCL.out z (Option.mem_toList.1 hz)).1
                omega
              · have h1 := ((HI.out.n.fr ha11 (by simp) (by simp)).fr hg11 (hcn b4 (by omega)) (hcn g (by omega))).fr hst (by simp; omega) (by simp; omega)
                rw [List.drop_drop] at h1
                rw [show 19 * (k + 1) = 19 * k + 1 + 18 by omega]
                exact h1
              · intro q hq
                have key : ∀ q, OwnS B wr q.2 q.1.sig → (∀ x, q.2.ownBlock = some x → x ∉ (Value.slice ca cl cc).ownBlock.toList) → OwnS B (w11.setCell ⟨b7, 4, none⟩ (.slice (some ⟨g11, 0, none⟩) (R ++ [((⟨nk, (ws4.drop (19 * k + 1)).take 18⟩ : Trf), (Value.slice va vl vc))]).length c11)) (q : Rtf).2 q.1.sig := fun q h1 h2 =>
                  ((h1.fr ha11 (by simp)).fr hg11 h2).fr hst (fun x hx hm => by have := (ownBlock_cells h1 x hx).1; have := List.mem_singleton.1 hm; omega)
                rcases List.mem_append.1 hq with hq | hq
                · have h1 := (HP.out.s q hq).fr HGG.out (fun x hx hm => by have := (ownBlock_cells (HP.out.s q hq) x hx).1; have := List.mem_singleton.1 hm; omega)
                  exact key q h1 (fun x hx hm => own_apart h1 HOG.out x hx (Option.mem_toList.1 hm))
                · rw [List.mem_singleton.1 hq]
                  have h1 : OwnS B wr (.slice va vl vc) ((ws4.drop (19 * k + 1)).take 18) := HI.out.o.mono (by omega)
                  exact key (⟨nk, (ws4.drop (19 * k + 1)).take 18⟩, .slice va vl vc) h1 (fun x hx hm => own_apart h1 HOG.out x hx (Option.mem_toList.1 hm))
              · rw [List.map_append, HP.out.m, grpT_succ, HNK.out]
                simp only [List.map_cons, List.map_nil]
                congr 2
                rw [List.getD_eq_getElem?_getD, List.headD_eq_head?_getD, List.head?_drop]
              · have h1 := hg11.size
                have h2 := ha11.size
                rw [show (w11.setCell ⟨b7, 4, none⟩ (.slice (some ⟨g11, 0, none⟩) (R ++ [((⟨nk, (ws4.drop (19 * k + 1)).take 18⟩ : Trf), (Value.slice va vl vc))]).length c11)).heap.size = w11.heap.size by simp [World.setCell]]
                omega
            have HP2 := Lib.hid hP2
            clear hP2 ho11 hf11 hg11 hf7 ha11 q0 q1 q2 q3 q4 k0 k1 hcn
            generalize (R ++ [((⟨nk, (ws4.drop (19 * k + 1)).take 18⟩ : Trf), (Value.slice va vl vc))]).length = nR at HP2 ⊢
            go_wp2_with fail
            go_roundg (ws4.length / 19 - (k + 1))
            case measure => have := HG.out; omega
            case rel => exact ⟨k + 1, _, _, by omega, rfl, HP2.out⟩
      · obtain rfl : k = ws4.length / 19 := by omega
        have t1 : decide ((18 : Int) < (nn : Int)) = false := by simp; omega
        have hwr : Fr [] w wo := HW3.out.trans HP.out.fr (fun z hz => Or.inr (by simp only [List.mem_cons, List.not_mem_nil, or_false] at hz; omega))
        have hsig : SigsR wo R := fun q hq => Or.inl (HP.out.s q hq).strs
        have htr : Trs wo (.slice ca cl cc) (grpT ws4 (ws4.length / 19)) := by
          have h1 := HP.out.o.raw.trs hsig
          rw [HP.out.m] at h1
          exact h1
        have hw4s : ∀ s ∈ ws4, s.length ≤ 100000 := by rw [E4.out, E3.out, E2.out, E1.out]; exact tail_short (tail_short (tail_short (tail_short HWS2.out)))
        have hfis : fi.length ≤ 100000 := by
          rw [EF.out]
          cases h3 : ws3 with
          | nil => simp
          | cons x xs => exact (show ∀ s ∈ ws3, s.length ≤ 100000 by rw [E3.out, E2.out, E1.out]; exact tail_short (tail_short (tail_short HWS2.out))) x (by rw [h3]; simp)
        obtain ⟨t, et⟩ : ∃ t : Ttl, t = ⟨n0, n1, n2, fi, grpT ws4 (ws4.length / 19)⟩ := ⟨_, rfl⟩
        have hTS : TSmall t := by
          rw [et]
          refine ⟨⟨HR0.out.1, HR1.out.1, HR2.out.1⟩, hfis, by simp only [grpT, List.length_map, List.length_range]; omega, fun x hx => ?_⟩
          obtain ⟨i, _, rfl⟩ := List.mem_map.1 hx
          refine ⟨?_, by simp only [List.length_take]; omega, fun s hs => hw4s s (List.mem_of_mem_drop (List.mem_of_mem_take hs))⟩
          show (ws4.getD (19 * i) []).length ≤ 100000
          by_cases hi : 19 * i < ws4.length
          · exact hw4s _ (getD_mem ws4 (19 * i) [] hi)
          · rw [List.getD_eq_getElem?_getD, List.getElem?_eq_none (by omega)]; simp
        have hPA : ParsedT text (if textT t = text ∧ text ≠ [] then some t else none) := parsedT_of (fun gt hgt => by
          obtain ⟨a, b, c, d, wsx, hs, rfl, rfl, rfl, rfl, hxl, hxg⟩ := grpT_text hgt
          have hws := HWS.out
          rw [hs] at hws
          have hp := formedT_parts hgt.1
          have h4 : ws4 = wsx := by rw [E4.out, E3.out, E2.out, E1.out, hws]; rfl
          have hn0 := HR0.out.2 gt.serial (by omega) (by omega) (by rw [hws]; rfl)
          have hn1 := HR1.out.2 gt.shw (by omega) (by omega) (by rw [E1.out, hws]; rfl)
          have hn2 := HR2.out.2 gt.place (by omega) (by omega) (by rw [E2.out, E1.out, hws]; rfl)
          have hfi : fi = gt.first := by rw [EF.out, E3.out, E2.out, E1.out, hws]; rfl
          rw [et, hn0, hn1, hn2, hfi, h4, hxl, Nat.mul_div_cancel_left _ (by decide), hxg])
        have HPA := Lib.hid hPA
        have HTR := Lib.hid htr
        have HTS := Lib.hid hTS
        have hRd : TtlR wo (.agg #[.int .i64 n0, .int .i64 n1, .int .i64 n2, .string ⟨fi.toArray⟩, .slice ca cl cc]) t := by rw [et]; exact ⟨_, rfl, htr⟩
        have HRD := Lib.hid hRd
        have HWR := Lib.hid hwr
        have q0 := row_cell HP.out.f 0
        have q1 := row_cell HP.out.f 1
        have q2 := row_cell HP.out.f 2
        have q3 := row_cell HP.out.f 3
        have q4 := row_cell HP.out.f 4
        simp at q0 q1 q2 q3 q4
        have HOO := Lib.hid HP.out.o
        have HZR := Lib.hid (HP.out.fr.at HZ3.out (by simp; have := HPG.out; omega))
        have HET := Lib.hid et
        clear hPA htr hTS hRd hwr hsig hw4s hfis et c5
        go_wp2_with fail
        refine (ttext_any _ t wo HRD.out HTS.out (HT.out.t.fr HWR.out)).mono ?_
        rintro e w11 ⟨rfl, hb11⟩
        obtain ⟨r, hr⟩ : ∃ r, r = textT t := ⟨_, rfl⟩
        rw [← hr] at HPA ⊢
        have g11 : Fr [] wo w11 := Fr.ofBelow hb11
        have hq7 := g11.at HP.out.f (by simp)
        have hz7 := g11.at HZR.out (by simp)
        have h11 := HWR.out.trans g11 (by simp)
        have HTR11 := Lib.hid (HTR.out.fr g11)
        have z0 := row_cell hz7 0
        have z1 := row_cell hz7 1
        have z2 := row_cell hz7 2
        have z3 := row_cell hz7 3
        have z4 := row_cell hz7 4
        have y0 := row_free hz7 0
        have y1 := row_free hz7 1
        have y2 := row_free hz7 2
        have y3 := row_free hz7 3
        have y4 := row_free hz7 4
        clear hb11 q0 q1 q2 q3 q4 hr
        have q0 := row_cell hq7 0
        have q1 := row_cell hq7 1
        have q2 := row_cell hq7 2
        have q3 := row_cell hq7 3
        have q4 := row_cell hq7 4
        simp at z0 z1 z2 z3 z4 q0 q1 q2 q3 q4
        by_cases hok : r = text ∧ text ≠ []
        · rw [if_pos hok] at HPA
          obtain ⟨rfl, hne⟩ := hok
          have u1 : (r == []) = false := by rw [beq_eq_false_iff_ne]; exact hne
          have u2 : (r != r) = false := by simp
          have u3 : (r == r) = true := by simp
          have HX := Lib.hid (h11.store5 p (by right; have := EP.out; omega) (.int .i64 n0) (.int .i64 n1) (.int .i64 n2) (.string ⟨fi.toArray⟩) (.slice ca cl cc))
          have HRX := Lib.hid (row_set (row_set (row_set (row_set (row_set hz7 0 (.int .i64 n0)) 1 (.int .i64 n1)) 2 (.int .i64 n2)) 3 (.string ⟨fi.toArray⟩)) 4 (.slice ca cl cc))
          have HTX : Hid (Trs (((((w11.setCell ⟨p, 0, none⟩ (.int .i64 n0)).setCell ⟨p, 1, none⟩ (.int .i64 n1)).setCell ⟨p, 2, none⟩ (.int .i64 n2)).setCell ⟨p, 3, none⟩ (.string ⟨fi.toArray⟩)).setCell ⟨p, 4, none⟩ (.slice ca cl cc)) (.slice ca cl cc) (grpT ws4 (ws4.length / 19))) := Lib.hid (by
            have hst := (Fr.refl [p] w11).store5 p (by simp) (.int .i64 n0) (.int .i64 n1) (.int .i64 n2) (.string ⟨fi.toArray⟩) (.slice ca cl cc)
            have hpB : p < B := by have := HPG.out; omega
            have ho := (HOO.out.fr g11 (by simp)).fr hst (fun x hx hm => by have := (ownBlock_cells HOO.out x hx).1; have := List.mem_singleton.1 hm; omega)
            have hs : SigsR (((((w11.setCell ⟨p, 0, none⟩ (.int .i64 n0)).setCell ⟨p, 1, none⟩ (.int .i64 n1)).setCell ⟨p, 2, none⟩ (.int .i64 n2)).setCell ⟨p, 3, none⟩ (.string ⟨fi.toArray⟩)).setCell ⟨p, 4, none⟩ (.slice ca cl cc)) R := fun q hq =>
              Or.inl (((HP.out.s q hq).fr g11 (by simp)).fr hst (fun x hx hm => by have := (ownBlock_cells (HP.out.s q hq) x hx).1; have := List.mem_singleton.1 hm; omega)).strs
            have h1 := ho.raw.trs hs
            rw [HP.out.m] at h1
            exact h1)
          clear hne hz7 hq7 h11 g11
          go_wp2_with fail
          have m0 := row_cell HRX.out 0
          have m1 := row_cell HRX.out 1
          have m2 := row_cell HRX.out 2
          have m3 := row_cell HRX.out 3
          have m4 := row_cell HRX.out 4
          simp at m0 m1 m2 m3 m4
          refine bodyPost_ret (v := .tuple #[.agg #[.int .i64 n0, .int .i64 n1, .int .i64 n2, .string ⟨fi.toArray⟩, .slice ca cl cc], .int .i64 0]) ?_ rfl ⟨some t, HPA.out, _, rfl, by rw [HET.out]; exact ⟨_, rfl, HTX.out⟩, HX.out.toBelow (by simp)⟩
          rw [results_cell_tmp rfl]
          go_simp
        · rw [if_neg hok] at HPA
          have HX := Lib.hid (h11.store5 p (by right; have := EP.out; omega) (.int .i64 0) (.int .i64 0) (.int .i64 0) (.string ⟨#[]⟩) (.slice none 0 0))
          have HRX := Lib.hid (row_set (row_set (row_set (row_set (row_set hz7 0 (.int .i64 0)) 1 (.int .i64 0)) 2 (.int .i64 0)) 3 (.string ⟨#[]⟩)) 4 (.slice none 0 0))
          clear hz7 hq7 h11 g11
          by_cases hn : r = []
          · have u1 : (r == []) = true := by rw [beq_iff_eq]; exact hn
            clear hn hok
            go_wp2_with fail
            have m0 := row_cell HRX.out 0
            have m1 := row_cell HRX.out 1
            have m2 := row_cell HRX.out 2
            have m3 := row_cell HRX.out 3
            have m4 := row_cell HRX.out 4
            simp at m0 m1 m2 m3 m4
            refine bodyPost_ret (v := .tuple #[zeroTV, .int .i64 4]) ?_ rfl ⟨none, HPA.out, _, rfl, zeroT_reads _, HX.out.toBelow (by simp)⟩
            unfold zeroTV
            rw [results_cell_tmp rfl]
            go_simp
          · have u1 : (r == []) = false := by rw [beq_eq_false_iff_ne]; exact hn
            have u2 : (r != text) = true := by
              rw [bne_iff_ne]
              intro e
              exact hok ⟨e, by rw [← e]; exact hn⟩
            have u3 : (r == text) = false := by
              rw [beq_eq_false_iff_ne]
              intro e
              exact hok ⟨e, by rw [← e]; exact hn⟩
            clear hn hok
            go_wp2_with fail
            have m0 := row_cell HRX.out 0
            have m1 := row_cell HRX.out 1
            have m2 := row_cell HRX.out 2
            have m3 := row_cell HRX.out 3
            have m4 := row_cell HRX.out 4
            simp at m0 m1 m2 m3 m4
            refine bodyPost_ret (v := .tuple #[zeroTV, .int .i64 4]) ?_ rfl ⟨none, HPA.out, _, rfl, zeroT_reads _, HX.out.toBelow (by simp)⟩
            unfold zeroTV
            rw [results_cell_tmp rfl]
            go_simp
end Go.Proofs.YtcblpfepkkkilaaGreatDoor
