/-
  Plain laws: joining is injective; equal chains show two strings with one digest.
-/
import Derived.Test.YtglgkdbhdjkeaaaGreatDoorPlnB
namespace Go.Proofs.YtglgkdbhdjkeaaaGreatDoor

/-- What starts a chain of a secret, and the strings of all its chains. -/
def preS (secret : List UInt8) (i : Nat) : List UInt8 := joinL [secret, Lib.decDigits i]
theorem preS_dsum (secret : List UInt8) (i : Nat) : dsum (preS secret i) = startS secret i := rfl
def chainsS (secret : List UInt8) (n : Nat) : List (List UInt8) := (List.range 18).flatMap fun i => preS secret i :: linksS (startS secret i) n
theorem mem_chains {secret : List UInt8} {n i : Nat} (hi : i < 18) : ∀ z ∈ preS secret i :: linksS (startS secret i) n, z ∈ chainsS secret n := fun _ hz => List.mem_flatMap.2 ⟨i, List.mem_range.2 hi, hz⟩
theorem preS_colon (secret : List UInt8) (i : Nat) : (58 : UInt8) ∈ preS secret i := by simp [preS, joinL, joinE]
theorem preS_ne (secret : List UInt8) (i j : Nat) : preS secret i ≠ chainN j (startS secret i) := by
  intro h
  have := isD_no _ (isD_chainN _ (dsum_isD (preS secret i)) j)
  rw [preS_dsum, ← h] at this
  exact this (preS_colon _ _)
theorem digs_inj {a b : List UInt8} (h : digs (dsum a) = digs (dsum b)) : dsum a = dsum b := by
  have h1 : (dsum a).map hexN = (dsum b).map hexN := (List.append_inj h (by simp [dsum_length])).1
  have ha := dsum_isD a
  have hb := dsum_isD b
  generalize dsum a = x at h1 ha
  generalize dsum b = y at h1 hb
  simp only [isD, Bool.and_eq_true] at ha hb
  have hx := ha.2
  have hy := hb.2
  clear ha hb h
  induction x generalizing y with
  | nil => cases y with
    | nil => rfl
    | cons d y => simp at h1
  | cons c x ih =>
    cases y with
    | nil => simp at h1
    | cons d y =>
      simp only [List.map_cons, List.cons.injEq] at h1
      simp only [List.all_cons, Bool.and_eq_true] at hx hy
      rw [ih y h1.2 hx.2 hy.2]
      congr 1
      have e := h1.1
      have h3 := hx.1
      have h4 := hy.1
      simp only [hexC, Bool.or_eq_true, Bool.and_eq_true, decide_eq_true_eq, UInt8.le_iff_toNat_le] at h3 h4
      simp at h3 h4
      apply UInt8.toNat_inj.1
      simp only [hexN] at e
      split at e <;> split at e <;> omega
theorem digs_ne {a b : List UInt8} (h : dsum a ≠ dsum b) : ∃ i, i < 18 ∧ (digs (dsum a)).getD i 0 ≠ (digs (dsum b)).getD i 0 := by
  refine Classical.byContradiction fun hc => h ?_
  apply digs_inj
  apply List.ext_getElem
  · rw [digs_length, digs_length]
  · intro i h1 h2
    have hi : i < 18 := by rw [digs_length] at h1; exact h1
    refine Classical.byContradiction fun hn => hc ⟨i, hi, ?_⟩
    simpa [List.getD_eq_getElem?_getD, List.getElem?_eq_getElem h1, List.getElem?_eq_getElem h2] using hn
theorem vends_get (m : List UInt8) (sig : List (List UInt8)) (i : Nat) (hi : i < sig.length) : (vends m sig).getD i [] = dchain (sig.getD i []) (15 - ((digs (dsum m)).getD i 0 : Nat)) := by
  simp [vends, List.getD_eq_getElem?_getD, hi]
theorem sigS_get (s m : List UInt8) (i : Nat) (hi : i < 18) : (sigS s m).getD i [] = dchain (startS s i) ((digs (dsum m)).getD i 0 : Nat) := by
  simp [sigS, List.getD_eq_getElem?_getD, hi]
theorem endsS_get (s : List UInt8) (i : Nat) (hi : i < 18) : (endsS s).getD i [] = dchain (startS s i) 15 := by
  simp [endsS, List.getD_eq_getElem?_getD, hi]

/-- SignBinds. -/
theorem binds_coll (s m o : List UInt8) (hne : dsum m ≠ dsum o) (hv : verifyS (publicS s) o (sigS s m) = true) : Coll (chainsS s 30 ++ [joinL (endsS s), joinL (vends o (sigS s m))]) := by
  have h : dlist (endsS s) = dlist (vends o (sigS s m)) := by
    simp only [verifyS, Bool.and_eq_true, beq_iff_eq] at hv
    exact hv.2.symm
  by_cases he : endsS s = vends o (sigS s m)
  · obtain ⟨i, hi, hd⟩ := digs_ne hne
    have h1 := endsS_get s i hi
    rw [he, vends_get o _ i (by rw [sigS_length]; exact hi), sigS_get s m i hi] at h1
    have ha := digs_lt m i hi
    have hb := digs_lt o i hi
    generalize (digs (dsum m)).getD i 0 = a at h1 hd ha
    generalize (digs (dsum o)).getD i 0 = b at h1 hd hb
    rw [dchain_nat _ a (by omega), show (15 : Int) - (b : Int) = ((15 - b : Nat) : Int) by omega, dchain_nat _ _ (by omega), chainN_add, show (15 : Int) = ((15 : Nat) : Int) from rfl, dchain_nat _ _ (by omega)] at h1
    have key : ∀ {p q : Nat}, p < q → q ≤ 30 → chainN p (startS s i) = chainN q (startS s i) → Coll (chainsS s 30 ++ [joinL (endsS s), joinL (vends o (sigS s m))]) := by
      intro p q hpq hq hc
      obtain ⟨x, y, hx, hy, e1, e2⟩ := chain_back (preS_dsum s i) (preS_ne s i) hpq hc
      have sub : ∀ z ∈ preS s i :: linksS (startS s i) q, z ∈ chainsS s 30 ++ [joinL (endsS s), joinL (vends o (sigS s m))] := by
        intro z hz
        refine List.mem_append_left _ (mem_chains hi z ?_)
        rcases List.mem_cons.1 hz with hz | hz
        · rw [hz]; exact List.mem_cons_self
        · exact List.mem_cons_of_mem _ (links_mono hq z hz)
      exact ⟨x, y, sub x hx, sub y hy, e1, e2⟩
    rcases Nat.lt_or_gt_of_ne (show 15 - b + a ≠ 15 by omega) with hlt | hlt
    · exact key hlt (by omega) h1
    · exact key hlt (by omega) h1.symm
  · exact dlist_coll h he (by simp) (by simp)

/-- SignChanges. -/
theorem changes_coll (s m x : List UInt8) (i : Nat) (hi : i < 18) (hne : (sigS s m).getD i [] ≠ x) (hv : verifyS (publicS s) m ((sigS s m).set i x) = true) :
    Coll ((linksS x 16 ++ linksS ((sigS s m).getD i []) 16) ++ [joinL (vends m (sigS s m)), joinL (vends m ((sigS s m).set i x))]) := by
  have h : dlist (vends m (sigS s m)) = dlist (vends m ((sigS s m).set i x)) := by
    simp only [verifyS, Bool.and_eq_true, beq_iff_eq] at hv
    rw [vends_sig]
    exact hv.2.symm
  by_cases he : vends m (sigS s m) = vends m ((sigS s m).set i x)
  · have hl := sigS_length s m
    have h1 := vends_get m (sigS s m) i (by omega)
    rw [he, vends_get m _ i (by rw [List.length_set]; omega)] at h1
    have hx : ((sigS s m).set i x).getD i [] = x := by simp [List.getD_eq_getElem?_getD, hl, hi]
    rw [hx] at h1
    have ha := digs_lt m i hi
    generalize (digs (dsum m)).getD i 0 = a at h1 ha
    generalize (sigS s m).getD i [] = y at h1 hne ⊢
    rw [show (15 : Int) - (a : Int) = ((15 - a : Nat) : Int) by omega, dchain_nat _ _ (by omega), dchain_nat _ _ (by omega)] at h1
    obtain ⟨j, hj, e1, e2⟩ := chains_meet (fun h => hne h.symm) h1
    exact ⟨_, _, List.mem_append_left _ (List.mem_append_left _ (mem_links (j := j) (by omega))), List.mem_append_left _ (List.mem_append_right _ (mem_links (j := j) (by omega))), e2, e1⟩
  · exact dlist_coll h he (by simp) (by simp)

/-- SignKeys. -/
theorem keys_coll (s o m : List UInt8) (hne : s ≠ o) (hv : verifyS (publicS o) m (sigS s m) = true) :
    Coll ((chainsS s 16 ++ chainsS o 16) ++ [joinL (endsS s), joinL (endsS o)]) := by
  have h : dlist (endsS s) = dlist (endsS o) := by
    simp only [verifyS, Bool.and_eq_true, beq_iff_eq, vends_sig] at hv
    exact hv.2
  by_cases he : endsS s = endsS o
  · have h1 := endsS_get s 0 (by decide)
    rw [he, endsS_get o 0 (by decide), show (15 : Int) = ((15 : Nat) : Int) from rfl, dchain_nat _ _ (by omega), dchain_nat _ _ (by omega)] at h1
    have hp : preS s 0 ≠ preS o 0 := by
      intro h'
      have := joinL_inj h'
      simp only [List.cons.injEq] at this
      exact hne this.1
    have h2 : chainN 16 (preS s 0) = chainN 16 (preS o 0) := h1.symm
    obtain ⟨j, hj, e1, e2⟩ := chains_meet hp h2
    have mem : ∀ t : List UInt8, chainN j (preS t 0) ∈ chainsS t 16 := by
      intro t
      refine mem_chains (i := 0) (by decide) _ ?_
      cases j with
      | zero => exact List.mem_cons_self
      | succ j => exact List.mem_cons_of_mem _ (mem_links (j := j) (by omega))
    exact ⟨_, _, List.mem_append_left _ (List.mem_append_left _ (mem s)), List.mem_append_left _ (List.mem_append_right _ (mem o)), e2, e1⟩
  · exact dlist_coll h he (by simp) (by simp)
end Go.Proofs.YtglgkdbhdjkeaaaGreatDoor
