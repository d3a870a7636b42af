/-
  Plain laws of gates: what each operation does; two gates of which one has not seen what was refused; the order of a log.
-/
import Derived.Test.YtglgkdbhdjkeaaaGreatDoorPlnGt
namespace Go.Proofs.YtglgkdbhdjkeaaaGreatDoor

theorem do_bad {g : Gst} {o : GOp} (h : (doG g o).2.2 ≠ 0) : (doG g o).1 = g ∧ (doG g o).2.1 = 0 := by
  unfold doG at h ⊢
  split
  · rename_i hr
    rw [if_pos hr] at h
    unfold scanG at h ⊢
    split
    · exact ⟨rfl, rfl⟩
    · split
      · exact ⟨rfl, rfl⟩
      · split
        · exact ⟨rfl, rfl⟩
        · rename_i h1 h2 h3
          rw [if_neg h1, if_neg h2, if_neg h3] at h
          exact absurd rfl h
  · rename_i hr
    rw [if_neg hr] at h
    split
    · rename_i hr1
      rw [if_pos hr1] at h
      refine ⟨?_, rfl⟩
      unfold leaveG at h ⊢
      split
      · rfl
      · rename_i h1
        rw [if_neg h1] at h
        split
        · rfl
        · rename_i ow how
          rw [how] at h
          split
          · rfl
          · rename_i h2
            simp only [if_neg h2] at h
            exact absurd rfl h
    · rename_i hr1
      rw [if_neg hr1] at h
      refine ⟨?_, rfl⟩
      unfold syncG at h ⊢
      split
      · rename_i h1
        rw [if_pos h1] at h
        split
        · rfl
        · rename_i h2
          rw [if_neg h2] at h
          exact absurd rfl h
      · rfl
theorem scan_ok {g : Gst} {o : GOp} (hr : o.kind % 4 = 0) (h : (doG g o).2.2 = 0) :
    comeG g o.now = 0 ∧ 0 ≤ g.syn ∧ o.now - g.stale ≤ g.syn ∧ g.log.length < 4000 ∧ doG g o = (putG g (kindG g o.t) o.t.serial (ownerT o.t) o.now, kindG g o.t, 0) := by
  unfold doG at h ⊢
  rw [if_pos hr] at h ⊢
  unfold scanG at h ⊢
  by_cases h1 : comeG g o.now ≠ 0
  · rw [if_pos h1] at h
    exact absurd h h1
  rw [if_neg h1] at h ⊢
  by_cases h2 : g.syn < 0 ∨ g.syn < o.now - g.stale
  · rw [if_pos h2] at h
    cases h
  rw [if_neg h2] at h ⊢
  by_cases h3 : 4000 ≤ g.log.length
  · rw [if_pos h3] at h
    cases h
  rw [if_neg h3]
  exact ⟨Decidable.not_not.1 h1, by omega, by omega, by omega, rfl⟩
theorem leave_ok {g : Gst} {o : GOp} (hr : o.kind % 4 = 1) (h : (doG g o).2.2 = 0) :
    ∃ ow, insR g.log o.serial = some ow ∧ comeG g o.now = 0 ∧ g.log.length < 4000 ∧ doG g o = (putG g 2 o.serial ow o.now, 0, 0) := by
  unfold doG at h ⊢
  rw [if_neg (by omega), if_pos hr] at h ⊢
  unfold leaveG at h ⊢
  by_cases h1 : comeG g o.now ≠ 0
  · rw [if_pos h1] at h
    exact absurd h h1
  rw [if_neg h1] at h ⊢
  cases how : insR g.log o.serial with
  | none =>
    rw [how] at h
    cases h
  | some ow =>
    rw [how] at h
    by_cases h3 : 4000 ≤ g.log.length
    · simp only [if_pos h3] at h
      cases h
    exact ⟨ow, rfl, Decidable.not_not.1 h1, by omega, by simp only [if_neg h3]⟩
theorem sync_ok {g : Gst} {o : GOp} (hr : 2 ≤ o.kind % 4) (h : (doG g o).2.2 = 0) :
    (0 ≤ o.now ∧ o.now ≤ 1000000000) ∧ g.now ≤ o.now ∧ validF (givenG o) = true ∧ doG g o = ({ g with now := o.now, syn := o.now, flt := givenG o }, 0, 0) := by
  unfold doG at h ⊢
  rw [if_neg (by omega), if_neg (by omega)] at h ⊢
  unfold syncG at h ⊢
  by_cases h1 : (timeB o.now && validF (givenG o)) = true
  · rw [if_pos h1] at h ⊢
    rw [Bool.and_eq_true, timeB_iff] at h1
    by_cases h2 : o.now < g.now
    · rw [if_pos h2] at h
      cases h
    rw [if_neg h2]
    exact ⟨h1.1, by omega, h1.2, rfl⟩
  · rw [if_neg h1] at h
    cases h
theorem kindG_or (g : Gst) (t : Ttl) : kindG g t = 1 ∨ kindG g t = 3 := by
  unfold kindG
  split
  · exact Or.inl rfl
  · exact Or.inr rfl
theorem ins_put1 (g : Gst) (s : Int) (ow : List UInt8) (now k : Int) : insR (putG g 1 s ow now).log k = if s = k then some ow else insR g.log k := by
  unfold putG
  rw [insR_snoc]
  unfold insS
  by_cases h : s = k <;> simp [h]
theorem ins_put2 (g : Gst) (s : Int) (ow : List UInt8) (now k : Int) : insR (putG g 2 s ow now).log k = if s = k then none else insR g.log k := by
  unfold putG
  rw [insR_snoc]
  unfold insS
  by_cases h : s = k <;> simp [h]
theorem ins_put3 (g : Gst) (s : Int) (ow : List UInt8) (now k : Int) : insR (putG g 3 s ow now).log k = insR g.log k := by
  unfold putG
  rw [insR_snoc]
  unfold insS
  by_cases h : s = k <;> simp [h]

/-- h is like g, but has not seen some scans that were refused. -/
structure Sim (g h : Gst) : Prop where
  id : h.id = g.id
  shw : h.shw = g.shw
  stale : h.stale = g.stale
  syn : h.syn = g.syn
  flt : h.flt = g.flt
  now : h.now ≤ g.now
  ins : ∀ k, insR h.log k = insR g.log k
  len : h.log.length ≤ g.log.length
theorem Sim.refl (g : Gst) : Sim g g := ⟨rfl, rfl, rfl, rfl, rfl, Int.le_refl _, fun _ => rfl, Nat.le_refl _⟩
theorem Sim.come {g h : Gst} (s : Sim g h) {now : Int} (hc : comeG g now = 0) : comeG h now = 0 := by
  obtain ⟨h1, h2⟩ := come_zero hc
  unfold comeG
  rw [if_pos (timeB_iff.2 h1), if_neg (by have := s.now; omega)]
theorem Sim.kind {g h : Gst} (s : Sim g h) (t : Ttl) : kindG h t = kindG g t := by
  unfold kindG admG
  rw [s.ins, s.shw, s.flt]
theorem Sim.skip {g h : Gst} (s : Sim g h) {o : GOp} (hk : (doG g o).2.2 ≠ 0 ∨ (doG g o).2.1 = 3) : Sim (doG g o).1 h := by
  by_cases he : (doG g o).2.2 = 0
  · have hk3 : (doG g o).2.1 = 3 := hk.resolve_left (fun h => h he)
    by_cases hr : o.kind % 4 = 0
    · obtain ⟨h1, h2, h3, h4, h5⟩ := scan_ok hr he
      rw [h5] at hk3 ⊢
      have hk4 : kindG g o.t = 3 := hk3
      rw [hk4]
      exact ⟨s.id, s.shw, s.stale, s.syn, s.flt, by have := (come_zero h1).2; have := s.now; show h.now ≤ o.now; omega, fun k => by rw [s.ins, ins_put3], by have := s.len; unfold putG; simp; omega⟩
    · exfalso
      unfold doG at hk3
      rw [if_neg hr] at hk3
      split at hk3 <;> cases hk3
  · rw [(do_bad he).1]
    exact s
theorem Sim.both {g h : Gst} (s : Sim g h) {o : GOp} (he : (doG g o).2.2 = 0) : (doG h o).2 = (doG g o).2 ∧ Sim (doG g o).1 (doG h o).1 := by
  by_cases hr : o.kind % 4 = 0
  · obtain ⟨h1, h2, h3, h4, h5⟩ := scan_ok hr he
    have h6 : doG h o = (putG h (kindG g o.t) o.t.serial (ownerT o.t) o.now, kindG g o.t, 0) := by
      unfold doG
      rw [if_pos hr]
      unfold scanG
      rw [if_neg (by rw [s.come h1]; simp), if_neg (by rw [s.syn, s.stale]; omega), if_neg (by have := s.len; omega), s.kind]
    rw [h5, h6]
    refine ⟨rfl, s.id, s.shw, s.stale, s.syn, s.flt, Int.le_refl _, fun k => ?_, by have := s.len; unfold putG; simp; omega⟩
    show insR (putG h (kindG g o.t) o.t.serial (ownerT o.t) o.now).log k = insR (putG g (kindG g o.t) o.t.serial (ownerT o.t) o.now).log k
    rcases kindG_or g o.t with hk | hk
    · rw [hk, ins_put1, ins_put1, s.ins]
    · rw [hk, ins_put3, ins_put3, s.ins]
  by_cases hr1 : o.kind % 4 = 1
  · obtain ⟨ow, h0, h1, h4, h5⟩ := leave_ok hr1 he
    have h6 : doG h o = (putG h 2 o.serial ow o.now, 0, 0) := by
      unfold doG
      rw [if_neg hr, if_pos hr1]
      unfold leaveG
      rw [if_neg (by rw [s.come h1]; simp), s.ins, h0]
      simp only [if_neg (show ¬ 4000 ≤ h.log.length by have := s.len; omega)]
    rw [h5, h6]
    refine ⟨rfl, s.id, s.shw, s.stale, s.syn, s.flt, Int.le_refl _, fun k => ?_, by have := s.len; unfold putG; simp; omega⟩
    show insR (putG h 2 o.serial ow o.now).log k = insR (putG g 2 o.serial ow o.now).log k
    rw [ins_put2, ins_put2, s.ins]
  · obtain ⟨h1, h2, h3, h5⟩ := sync_ok (by omega) he
    have h6 : doG h o = ({ h with now := o.now, syn := o.now, flt := givenG o }, 0, 0) := by
      unfold doG
      rw [if_neg hr, if_neg hr1]
      unfold syncG
      rw [if_pos (by rw [Bool.and_eq_true, timeB_iff]; exact ⟨h1, h3⟩), if_neg (by have := s.now; omega)]
    rw [h5, h6]
    exact ⟨rfl, s.id, s.shw, s.stale, rfl, rfl, Int.le_refl _, s.ins, s.len⟩

/-- What the log of a gate is like. -/
structure LogAt (id : Int) (log : List Scn) (i : Nat) (s : Scn) : Prop where
  g : s.gate = id
  n : s.num = (i : Int) + 1
  t : ∀ p, 0 < i → log[i - 1]? = some p → p.time ≤ s.time
  k : (s.kind = 1 ∧ insR (log.take i) s.serial = none) ∨ (s.kind = 2 ∧ insR (log.take i) s.serial = some s.owner) ∨ s.kind = 3
structure LogI (g : Gst) : Prop where
  a : ∀ i s, g.log[i]? = some s → LogAt g.id g.log i s
  n : ∀ s ∈ g.log, s.time ≤ g.now
theorem LogI.new (id shw stale : Int) : LogI (newG id shw stale) := ⟨fun i s h => by simp [newG] at h, fun s h => by simp [newG] at h⟩
theorem LogI.put {g : Gst} (h : LogI g) {k s : Int} {ow : List UInt8} {now : Int} (hn : g.now ≤ now)
    (hk : (k = 1 ∧ insR g.log s = none) ∨ (k = 2 ∧ insR g.log s = some ow) ∨ k = 3) : LogI (putG g k s ow now) := by
  refine ⟨fun i x hx => ?_, fun x hx => ?_⟩
  · unfold putG at hx ⊢
    simp only at hx ⊢
    by_cases hi : i < g.log.length
    · rw [List.getElem?_append_left hi] at hx
      have h1 := h.a i x hx
      refine ⟨h1.g, h1.n, fun p hp h2 => ?_, ?_⟩
      · rw [List.getElem?_append_left (by omega)] at h2
        exact h1.t p hp h2
      · rw [List.take_append_of_le_length (by omega)]
        exact h1.k
    · have he : i = g.log.length := by
        have := (List.getElem?_eq_some_iff.1 hx).1
        simp at this
        omega
      subst he
      rw [List.getElem?_append_right (Nat.le_refl _)] at hx
      simp at hx
      subst hx
      refine ⟨rfl, rfl, fun p hp h2 => ?_, ?_⟩
      · rw [List.getElem?_append_left (by omega)] at h2
        have := h.n p (List.mem_of_getElem? h2)
        show p.time ≤ now
        omega
      · rw [List.take_append_of_le_length (Nat.le_refl _), List.take_length]
        exact hk
  · unfold putG at hx ⊢
    simp only [List.mem_append, List.mem_singleton] at hx
    show x.time ≤ now
    rcases hx with hx | rfl
    · have := h.n x hx
      omega
    · exact Int.le_refl _
theorem LogI.done {g : Gst} (h : LogI g) (o : GOp) : LogI (doG g o).1 := by
  by_cases he : (doG g o).2.2 = 0
  · by_cases hr : o.kind % 4 = 0
    · obtain ⟨h1, h2, h3, h4, h5⟩ := scan_ok hr he
      rw [h5]
      refine h.put (come_zero h1).2 ?_
      unfold kindG
      by_cases ha : admG g o.t = true
      · rw [if_pos ha]
        refine Or.inl ⟨rfl, ?_⟩
        unfold admG at ha
        simp only [Bool.and_eq_true] at ha
        have := ha.1.1.1
        cases hq : insR g.log o.t.serial with
        | none => rfl
        | some x => rw [hq] at this; cases this
      · rw [if_neg ha]
        exact Or.inr (Or.inr rfl)
    by_cases hr1 : o.kind % 4 = 1
    · obtain ⟨ow, h0, h1, h4, h5⟩ := leave_ok hr1 he
      rw [h5]
      exact h.put (come_zero h1).2 (Or.inr (Or.inl ⟨rfl, h0⟩))
    · obtain ⟨h1, h2, h3, h5⟩ := sync_ok (by omega) he
      rw [h5]
      exact ⟨h.a, fun s hs => by have := h.n s hs; show s.time ≤ o.now; omega⟩
  · rw [(do_bad he).1]
    exact h
theorem do_id (g : Gst) (o : GOp) : (doG g o).1.id = g.id ∧ (doG g o).1.shw = g.shw ∧ (doG g o).1.stale = g.stale := by
  by_cases he : (doG g o).2.2 = 0
  · by_cases hr : o.kind % 4 = 0
    · obtain ⟨h1, h2, h3, h4, h5⟩ := scan_ok hr he
      rw [h5]
      exact ⟨rfl, rfl, rfl⟩
    by_cases hr1 : o.kind % 4 = 1
    · obtain ⟨ow, h0, h1, h4, h5⟩ := leave_ok hr1 he
      rw [h5]
      exact ⟨rfl, rfl, rfl⟩
    · obtain ⟨h1, h2, h3, h5⟩ := sync_ok (by omega) he
      rw [h5]
      exact ⟨rfl, rfl, rfl⟩
  · rw [(do_bad he).1]
    exact ⟨rfl, rfl, rfl⟩
/-- What a log gains, and when. -/
theorem do_grown (g : Gst) (o : GOp) (he : (doG g o).2.2 ≠ 0 ∨ 2 ≤ o.kind % 4) : (doG g o).1.log = g.log := by
  by_cases h0 : (doG g o).2.2 = 0
  · have hr : 2 ≤ o.kind % 4 := he.resolve_left (fun h => h h0)
    obtain ⟨h1, h2, h3, h5⟩ := sync_ok hr h0
    rw [h5]
  · rw [(do_bad h0).1]
theorem do_added (g : Gst) (o : GOp) (h0 : (doG g o).2.2 = 0) (hr : o.kind % 4 < 2) :
    ∃ s, (doG g o).1.log = g.log ++ [s] ∧ s.time = o.now ∧ s.kind = (if o.kind % 4 = 1 then 2 else (doG g o).2.1) ∧ s.serial = (if o.kind % 4 = 1 then o.serial else o.t.serial) := by
  by_cases hr0 : o.kind % 4 = 0
  · obtain ⟨h1, h2, h3, h4, h5⟩ := scan_ok hr0 h0
    rw [h5, if_neg (by omega), if_neg (by omega)]
    exact ⟨_, rfl, rfl, rfl, rfl⟩
  · obtain ⟨ow, h3, h1, h4, h5⟩ := leave_ok (by omega) h0
    rw [h5, if_pos (by omega), if_pos (by omega)]
    exact ⟨_, rfl, rfl, rfl, rfl⟩
end Go.Proofs.YtglgkdbhdjkeaaaGreatDoor
