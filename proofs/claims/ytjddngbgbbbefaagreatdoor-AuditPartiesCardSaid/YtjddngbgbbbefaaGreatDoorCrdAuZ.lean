/-
  Proved: foyer/foyerlaw20.AuditParties returns true for every argument and never panics, and its arguments read behind the call as before (the card AuditPartiesCardSaid).
  Conditions: none beyond the card's own: the listed package tables read as the program's text lays them.
-/
import Derived.Test.YtjddngbgbbbefaaGreatDoorCards
import Derived.Test.YtjddngbgbbbefaaGreatDoorTie
import Derived.Test.YtjddngbgbbbefaaGreatDoorAuZ
import Derived.Test.YtjddngbgbbbefaaGreatDoorTab
namespace Go.Proofs.YtjddngbgbbbefaaGreatDoor.auditParties
open Go.ChangeShapes Go.WideShapes Go.ChangeAt Go.RowKit Go.ChangeMaps
set_option maxRecDepth 100000

theorem own : ownKnob Tryz.prog.godebug = none := by kernel_rfl
theorem tables {W : World} (h : laidMetH Tryz.prog Rows.auditPartiesRow.laid W) : Tabs W := by
  have h' : laidMet Tryz.prog Rows.auditPartiesRow.laid W := h
  exact tabs_of_reads (Lib.laidMet.reads h' (.tail _ (.tail _ (.tail _ (.tail _ (.tail _ (.tail _ (.head _)))))))) (Lib.laidMet.reads h' (.tail _ (.tail _ (.head _))))

/-- What the walk gives, for every argument and every world that holds the tables. -/
theorem contract (H : Type) (enc : TypeId × Value → H) (W : World) (base : Nat) (args : Array Value) (ds gs : List (DataW H)) (before : List MemPlace)
    (hval : ∀ (j : Nat) t v, Tryz.f4.params[j]? = some t → args[j]? = some v → Value.okWide Tryz.prog W .any base t v)
    (hW : DataW.Whole enc Tryz.prog Tryz.f4.params.toList Rows.auditPartiesSpec.vars false W args.toList ds gs before) (hL : laidMetH Tryz.prog Rows.auditPartiesRow.laid W) :
    Calls Tryz.prog 4 args W fun e W' => ∃ v, e = .returned v ∧ Rows.auditPartiesSpec.post enc Tryz.prog Tryz.f4 false true false false W args v W' := by
  have hW' := hW
  obtain ⟨p, q, hA0, hV, rfl, hfz, hnd⟩ := hW
  have hA : DataW.TrodAll enc Tryz.prog W 0 (fun _ => true) true Tryz.f4.params.toList args.toList ds p := hA0
  rw [Tryz.params4] at hA hval
  obtain ⟨v0, vs0, d0, ds0, p0, q0, hargs, rfl, rfl, h0, r0⟩ := trodAll_cons hA
  obtain ⟨v1, vs1, d1, ds1, p1, q1, rfl, rfl, rfl, h1, r1⟩ := trodAll_cons r0
  obtain ⟨v2, vs2, d2, ds2, p2, q2, rfl, rfl, rfl, h2, r2⟩ := trodAll_cons r1
  obtain ⟨v3, vs3, d3, ds3, p3, q3, rfl, rfl, rfl, h3, r3⟩ := trodAll_cons r2
  obtain ⟨rfl, rfl, rfl⟩ := trodAll_nil r3
  obtain rfl : args = #[v0, v1, v2, v3] := by cases args; simp_all
  obtain ⟨rfl, rfl⟩ := trodVars_none hV
  clear hA0
  have hlt := fun x hx => hW'.lt x hx
  obtain ⟨l0, hl0⟩ := ens_of_trod (hval 0 22 v0 rfl rfl) h0
  obtain ⟨l1, hl1⟩ := pts_of_trod (hval 1 23 v1 rfl rfl) h1
  obtain ⟨n2, hn2, rfl⟩ : ∃ n : Nat, n < 256 ∧ v2 = .int .u8 (n : Int) := by
    obtain ⟨z, rfl, _, _, hwf⟩ := open_int Tryz.underlying5 (hval 2 5 v2 rfl rfl) h2
    have hz := hwf
    simp [Lit.wf, IntKind.min, IntKind.max, IntKind.signed, IntKind.bits] at hz
    exact ⟨z.toNat, by omega, by rw [Int.toNat_of_nonneg (by omega)]⟩
  obtain ⟨l3, rfl⟩ : ∃ l : List UInt8, v3 = .string ⟨l.toArray⟩ := by
    obtain ⟨s, rfl, _⟩ := open_string Tryz.underlying9 (hval 3 9 v3 rfl rfl) h3
    exact ⟨s.data.toList, by cases s; simp⟩
  refine (auditParties_any v0 l0 v1 l1 n2 l3 W hn2 (tables hL) hl0 hl1).mono fun e W' ⟨he, hnx⟩ => ?_
  subst he
  have g0 := Below.trod laidOutP (by kernel_rfl) (of_decide_eq_true (by kernel_rfl)) h0 hnx (fun x hx => by simpa using hlt x (by simp [hx]))
  have g1 := Below.trod laidOutP (by kernel_rfl) (of_decide_eq_true (by kernel_rfl)) h1 hnx (fun x hx => by simpa using hlt x (by simp [hx]))
  have g2 := Below.trod laidOutP (by kernel_rfl) (of_decide_eq_true (by kernel_rfl)) h2 hnx (fun x hx => by simpa using hlt x (by simp [hx]))
  have g3 := Below.trod laidOutP (by kernel_rfl) (of_decide_eq_true (by kernel_rfl)) h3 hnx (fun x hx => by simpa using hlt x (by simp [hx]))
  exact ⟨_, rfl, _, _, _, [], _, [], hW', trodAll_mk1 (shut_bool Tryz.underlying4 _), (trodAll_cons_mk g0 (trodAll_cons_mk g1 (trodAll_cons_mk g2 (trodAll_cons_mk g3 trodAll_mk0)))), rfl, hnx.frame _, fun h => by cases h⟩

def layE (t : TypeId) (b : Nat) : Obj → Obj
  | .cells _ ty frozen => .cells #[.iface t (.pointer (some ⟨b, 0, none⟩))] ty frozen
  | o => o
noncomputable def low : Nat := (World.holding Tryz.prog default ⟨#[], #[], []⟩).heap.size


/-- A world for the witness: the settled one, each listed table holding what its initialiser lays. -/
noncomputable def laidWorld (os : Os) : World :=
  { World.holding Tryz.prog os ⟨#[.cells #[.string ⟨#[118, 97, 108, 117, 101, 32, 111, 117, 116, 32, 111, 102, 32, 114, 97, 110, 103, 101]⟩] 211, .cells #[.string ⟨#[105, 110, 118, 97, 108, 105, 100, 32, 115, 121, 110, 116, 97, 120]⟩] 211], #[], []⟩ with heap := (((((((((World.holding Tryz.prog os ⟨#[.cells #[.string ⟨#[118, 97, 108, 117, 101, 32, 111, 117, 116, 32, 111, 102, 32, 114, 97, 110, 103, 101]⟩] 211, .cells #[.string ⟨#[105, 110, 118, 97, 108, 105, 100, 32, 115, 121, 110, 116, 97, 120]⟩] 211], #[], []⟩).heap.modify 7 (layD Rows.laid_math_bits_deBruijn32tab)).modify 8 (layD Rows.laid_math_bits_deBruijn64tab)).modify 1 (layD Rows.laid_internal_strconv_uint64pow10)).modify 4 (layD Rows.laid_unicode_utf8_acceptRanges)).modify 6 (layE 209 (low + 0))).modify 5 (layE 209 (low + 1))).modify 0 (layD Rows.laid_foyer_digest_hex)).modify 3 (layD Rows.laid_unicode_utf8_first)) }
theorem laid_met (os : Os) : laidMet Tryz.prog Rows.auditPartiesRow.laid ((laidWorld os).forCall (fun _ _ => 0) ⟨#[], #[.slice none 0 0, .slice none 0 0, .int .u8 0, .string ⟨#[]⟩], []⟩).memory :=
  laidMet_of_run' 8 (by kernel_rfl) (by kernel_rfl)
theorem reads (os : Os) {H : Type} (enc : TypeId × Value → H) : ∃ places, DataW.whole enc Tryz.prog ((laidWorld os).forCall (fun _ _ => 0) ⟨#[], #[.slice none 0 0, .slice none 0 0, .int .u8 0, .string ⟨#[]⟩], []⟩).memory Tryz.f4.params.toList Rows.auditPartiesSpec.vars false (show Array Value from #[.slice none 0 0, .slice none 0 0, .int .u8 0, .string ⟨#[]⟩]).toList 8 = some ([.nil, .nil, .lit (.int .u8 0), .lit (.string [])], [], places) :=
  ⟨[], by kernel_rfl⟩
theorem lifted (os : Os) (started : os.Started) (H : Type) (enc : TypeId × Value → H) (F : Stop.Interp) :
    ReturnsInHanded {} Tryz.checked os 4 .any ((OpenSpec.ofChange Rows.auditPartiesSpec).preRow enc Tryz.prog Tryz.f4 Rows.auditPartiesRow.domain false Rows.auditPartiesRow.laid) (((OpenSpec.ofChange Rows.auditPartiesSpec).at F).post enc Tryz.prog Tryz.f4 false true false false) := by
  obtain ⟨places, hx⟩ := reads os enc
  refine returnsInHanded_of_row (C := Tryz.checked) (s := OpenSpec.ofChange Rows.auditPartiesSpec) own started (by kernel_rfl) Tryz.func4
    (witness_row_at (enc := enc) (C := Tryz.checked) false (laidWorld os) #[.slice none 0 0, .slice none 0 0, .int .u8 0, .string ⟨#[]⟩] rfl (by kernel_rfl) (by kernel_rfl) (by kernel_rfl)
      (OpenSpec.preRow_of_cond 8 hx (by kernel_rfl) (fun k hk => by cases hk) (by kernel_rfl) (laid_met os))) ?_
  intro W base args ds gs before hval hW _ _ _ hL _ _
  exact contract H enc W base args ds gs before hval hW hL
theorem said : Rows.AuditPartiesSaid :=
  OpenClaim.holds_of_cond 4 Tryz.f4 rfl rfl rfl rfl rfl rfl rfl ⟨rfl, rfl, rfl, rfl, rfl⟩ rfl rfl rfl rfl rfl (by kernel_rfl) Tryz.func4 (by kernel_rfl)
    (of_decide_eq_true (by kernel_rfl)) (by unfold Func.isWrapper; first | (rw [if_pos (by decide +kernel)]; kernel_rfl) | (rw [if_neg (by decide +kernel)]; exact ⟨rfl, rfl⟩))
    (fun os started H enc _ F => by rw [OpenClaim.pre_eq_preRow]; exact lifted os started H enc F)
theorem plain (f : FuncId) (fn : Func) (hf : Tryz.pinned.checked.prog.funcNamed "foyer/foyerlaw20.AuditParties" = some f) (hfn : Tryz.pinned.checked.prog.funcs[f]? = some fn) :
    true = Tryz.pinned.checked.prog.looks [] ∧ ∀ (j : Nat) t, fn.params[j]? = some t → Tryz.pinned.checked.prog.wantsStandIn t = false := by
  obtain rfl : f = 4 := Option.some.inj ((show Tryz.prog.funcNamed "foyer/foyerlaw20.AuditParties" = some 4 by kernel_rfl).symm.trans hf) |>.symm
  obtain rfl : fn = Tryz.f4 := (Option.some.inj (Tryz.func4.symm.trans hfn)).symm
  refine ⟨by kernel_rfl, fun j t ht => ?_⟩
  have hall : (Tryz.f4.params.all fun t => !(Tryz.prog.wantsStandIn t)) = true := by kernel_rfl
  have := Array.all_eq_true'.1 hall t (Array.mem_of_getElem? ht)
  exact (by simpa using this : Tryz.prog.wantsStandIn t = false)
/-- The card. -/
theorem card : Rows.AuditPartiesCardSaid :=
  Claim7.holds_tied_plain_at .later [] _ _ _ _ said (fun _ h => by cases h) (by kernel_rfl) (fun _ h => by cases h) auditParties_row_tie rfl ⟨rfl, rfl⟩ (by kernel_rfl) rfl plain (by kernel_rfl)
end Go.Proofs.YtjddngbgbbbefaaGreatDoor.auditParties
