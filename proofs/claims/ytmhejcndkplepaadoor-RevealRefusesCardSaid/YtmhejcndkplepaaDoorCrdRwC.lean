/-
  Proved: foyer/foyerlaw31.RevealRefuses returns true for every argument and never panics, and its arguments read behind the call as before (the card RevealRefusesCardSaid).
  Conditions: none beyond the card's own: the listed package tables read as the program's text lays them.
-/
import Derived.Test.YtmhejcndkplepaaDoorCards
import Derived.Test.YtmhejcndkplepaaDoorTie
import Derived.Test.YtmhejcndkplepaaDoorRwC
import Derived.Test.YtmhejcndkplepaaDoorTabB
namespace Go.Proofs.YtmhejcndkplepaaDoor.revealRefuses
open Go.ChangeShapes Go.WideShapes Go.ChangeAt Go.RowKit Go.ChangeMaps
set_option maxRecDepth 100000

theorem own : ownKnob Tryd.prog.godebug = none := by kernel_rfl
theorem tables {W : World} (h : laidMetH Tryd.prog Rows.revealRefusesRow.laid W) : Tabs W := by
  have h' : laidMet Tryd.prog Rows.revealRefusesRow.laid W := h
  exact tabs_of_reads (Lib.laidMet.reads h' (.tail _ (.tail _ (.tail _ (.tail _ (.head _)))))) (Lib.laidMet.reads h' (.tail _ (.tail _ (.head _))))

/-- What the walk gives, for every argument and every world that holds the tables. -/
theorem contract (H : Type) (enc : TypeId × Value → H) (W : World) (base : Nat) (args : Array Value) (ds gs : List (DataW H)) (before : List MemPlace)
    (hval : ∀ (j : Nat) t v, Tryd.f8.params[j]? = some t → args[j]? = some v → Value.okWide Tryd.prog W .any base t v)
    (hW : DataW.Whole enc Tryd.prog Tryd.f8.params.toList Rows.revealRefusesSpec.vars false W args.toList ds gs before) (hre : ((DataW.weightsEach Tryd.prog (Tryd.f8.params.toList ++ DataSpec.varTypes Tryd.prog (OpenSpec.ofChange Rows.revealRefusesSpec).bare.plain) (ds ++ gs)).all fun x => decide (x ≤ reachBytes)) = true) (hL : laidMetH Tryd.prog Rows.revealRefusesRow.laid W) :
    Calls Tryd.prog 8 args W fun e W' => ∃ v, e = .returned v ∧ Rows.revealRefusesSpec.post enc Tryd.prog Tryd.f8 false true false false W args v W' := by
  have hW' := hW
  obtain ⟨p, q, hA0, hV, rfl, hfz, hnd⟩ := hW
  have hA : DataW.TrodAll enc Tryd.prog W 0 (fun _ => true) true Tryd.f8.params.toList args.toList ds p := hA0
  rw [Tryd.params8] at hA hval
  obtain ⟨v0, vs0, d0, ds0, p0, q0, hargs, rfl, rfl, h0, r0⟩ := trodAll_cons hA
  obtain ⟨v1, vs1, d1, ds1, p1, q1, rfl, rfl, rfl, h1, r1⟩ := trodAll_cons r0
  obtain ⟨v2, vs2, d2, ds2, p2, q2, rfl, rfl, rfl, h2, r2⟩ := trodAll_cons r1
  obtain ⟨v3, vs3, d3, ds3, p3, q3, rfl, rfl, rfl, h3, r3⟩ := trodAll_cons r2
  obtain ⟨rfl, rfl, rfl⟩ := trodAll_nil r3
  obtain rfl : args = #[v0, v1, v2, v3] := by cases args; simp_all
  obtain ⟨rfl, rfl⟩ := trodVars_none hV
  clear hA0
  have hlt := fun x hx => hW'.lt x hx
  obtain ⟨l0, hl0⟩ := strs_of_trod (hval 0 22 v0 rfl rfl) h0
  obtain ⟨l1, hz1, rfl⟩ : ∃ l : List UInt8, l.length ≤ 140737488355328 ∧ v1 = .string ⟨l.toArray⟩ := by
    obtain ⟨s, rfl, hd, _⟩ := open_string Tryd.underlying9 (hval 1 9 v1 rfl rfl) h1
    have hz := sized_string hre (j := 1) (t := 9) (bytes := s.data.toList) (by rw [Tryd.params8]; rfl) (by simp [hd])
    exact ⟨s.data.toList, Nat.le_trans hz (by decide), by cases s; simp⟩
  obtain ⟨l2, hl2⟩ := bools_of_trod (hval 2 37 v2 rfl rfl) h2
  obtain ⟨l3, hz3, rfl⟩ : ∃ l : List UInt8, l.length ≤ 140737488355328 ∧ v3 = .string ⟨l.toArray⟩ := by
    obtain ⟨s, rfl, hd, _⟩ := open_string Tryd.underlying9 (hval 3 9 v3 rfl rfl) h3
    have hz := sized_string hre (j := 3) (t := 9) (bytes := s.data.toList) (by rw [Tryd.params8]; rfl) (by simp [hd])
    exact ⟨s.data.toList, Nat.le_trans hz (by decide), by cases s; simp⟩
  refine (revealRefuses_any v0 l0 l1 v2 l2 l3 W hz1 hz3 (tables hL) hl0 hl2).mono fun e W' ⟨he, hnx⟩ => ?_
  subst he
  have g0 := Below.trod laidOutP (by kernel_rfl) (of_decide_eq_true (by kernel_rfl)) h0 hnx (fun x hx => by simpa using hlt x (by simp [hx]))
  have g1 := Below.trod laidOutP (by kernel_rfl) (of_decide_eq_true (by kernel_rfl)) h1 hnx (fun x hx => by simpa using hlt x (by simp [hx]))
  have g2 := Below.trod laidOutP (by kernel_rfl) (of_decide_eq_true (by kernel_rfl)) h2 hnx (fun x hx => by simpa using hlt x (by simp [hx]))
  have g3 := Below.trod laidOutP (by kernel_rfl) (of_decide_eq_true (by kernel_rfl)) h3 hnx (fun x hx => by simpa using hlt x (by simp [hx]))
  exact ⟨_, rfl, _, _, _, [], _, [], hW', trodAll_mk1 (shut_bool Tryd.underlying4 _), (trodAll_cons_mk g0 (trodAll_cons_mk g1 (trodAll_cons_mk g2 (trodAll_cons_mk g3 trodAll_mk0)))), rfl, hnx.frame _, fun h => by cases h⟩


/-- A world for the witness: the settled one, each listed table holding what its initialiser lays. -/
noncomputable def laidWorld (os : Os) : World :=
  { World.holding Tryd.prog os ⟨#[], #[], []⟩ with heap := (((((((World.holding Tryd.prog os ⟨#[], #[], []⟩).heap.modify 5 (layD Rows.laid_math_bits_deBruijn32tab)).modify 6 (layD Rows.laid_math_bits_deBruijn64tab)).modify 4 (layD Rows.laid_internal_strconv_uint64pow10)).modify 3 (layD Rows.laid_unicode_utf8_acceptRanges)).modify 0 (layD Rows.laid_foyer_digest_hex)).modify 2 (layD Rows.laid_unicode_utf8_first)) }
theorem laid_met (os : Os) : laidMet Tryd.prog Rows.revealRefusesRow.laid ((laidWorld os).forCall (fun _ _ => 0) ⟨#[], #[.slice none 0 0, .string ⟨#[]⟩, .slice none 0 0, .string ⟨#[]⟩], []⟩).memory :=
  laidMet_of_run' 8 (by kernel_rfl) (by kernel_rfl)
theorem reads (os : Os) {H : Type} (enc : TypeId × Value → H) : ∃ places, DataW.whole enc Tryd.prog ((laidWorld os).forCall (fun _ _ => 0) ⟨#[], #[.slice none 0 0, .string ⟨#[]⟩, .slice none 0 0, .string ⟨#[]⟩], []⟩).memory Tryd.f8.params.toList Rows.revealRefusesSpec.vars false (show Array Value from #[.slice none 0 0, .string ⟨#[]⟩, .slice none 0 0, .string ⟨#[]⟩]).toList 8 = some ([.nil, .lit (.string []), .nil, .lit (.string [])], [], places) :=
  ⟨[], by kernel_rfl⟩
theorem lifted (os : Os) (started : os.Started) (H : Type) (enc : TypeId × Value → H) (F : Stop.Interp) :
    ReturnsInHanded {} Tryd.checked os 8 .any ((OpenSpec.ofChange Rows.revealRefusesSpec).preRow enc Tryd.prog Tryd.f8 Rows.revealRefusesRow.domain false Rows.revealRefusesRow.laid) (((OpenSpec.ofChange Rows.revealRefusesSpec).at F).post enc Tryd.prog Tryd.f8 false true false false) := by
  obtain ⟨places, hx⟩ := reads os enc
  refine returnsInHanded_of_row (C := Tryd.checked) (s := OpenSpec.ofChange Rows.revealRefusesSpec) own started (by kernel_rfl) Tryd.func8
    (witness_row_at (enc := enc) (C := Tryd.checked) false (laidWorld os) #[.slice none 0 0, .string ⟨#[]⟩, .slice none 0 0, .string ⟨#[]⟩] rfl (by kernel_rfl) (by kernel_rfl) (by kernel_rfl)
      (OpenSpec.preRow_of_cond 8 hx (by kernel_rfl) (fun k hk => by cases hk) (by kernel_rfl) (laid_met os))) ?_
  intro W base args ds gs before hval hW _ _ hre hL _ _
  exact contract H enc W base args ds gs before hval hW hre hL
theorem said : Rows.RevealRefusesSaid :=
  OpenClaim.holds_of_cond 8 Tryd.f8 rfl rfl rfl rfl rfl rfl rfl ⟨rfl, rfl, rfl, rfl, rfl⟩ rfl rfl rfl rfl rfl (by kernel_rfl) Tryd.func8 (by kernel_rfl)
    (of_decide_eq_true (by kernel_rfl)) (by unfold Func.isWrapper; first | (rw [if_pos (by decide +kernel)]; kernel_rfl) | (rw [if_neg (by decide +kernel)]; exact ⟨rfl, rfl⟩))
    (fun os started H enc _ F => by rw [OpenClaim.pre_eq_preRow]; exact lifted os started H enc F)
theorem plain (f : FuncId) (fn : Func) (hf : Tryd.pinned.checked.prog.funcNamed "foyer/foyerlaw31.RevealRefuses" = some f) (hfn : Tryd.pinned.checked.prog.funcs[f]? = some fn) :
    false = Tryd.pinned.checked.prog.looks [] ∧ ∀ (j : Nat) t, fn.params[j]? = some t → Tryd.pinned.checked.prog.wantsStandIn t = false := by
  obtain rfl : f = 8 := Option.some.inj ((show Tryd.prog.funcNamed "foyer/foyerlaw31.RevealRefuses" = some 8 by kernel_rfl).symm.trans hf) |>.symm
  obtain rfl : fn = Tryd.f8 := (Option.some.inj (Tryd.func8.symm.trans hfn)).symm
  refine ⟨by kernel_rfl, fun j t ht => ?_⟩
  have hall : (Tryd.f8.params.all fun t => !(Tryd.prog.wantsStandIn t)) = true := by kernel_rfl
  have := Array.all_eq_true'.1 hall t (Array.mem_of_getElem? ht)
  exact (by simpa using this : Tryd.prog.wantsStandIn t = false)
/-- The card. -/
theorem card : Rows.RevealRefusesCardSaid :=
  Claim7.holds_tied_plain_at .later [] _ _ _ _ said (fun _ h => by cases h) (by kernel_rfl) (fun _ h => by cases h) revealRefuses_row_tie rfl ⟨rfl, rfl⟩ (by kernel_rfl) rfl plain (by kernel_rfl)
end Go.Proofs.YtmhejcndkplepaaDoor.revealRefuses
