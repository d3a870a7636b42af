/-
  NARROWER THAN 'FOR EVERY INPUT', by the rows' own cells (each row's printed sentence says how): RevealMatchesReference: laid · RevealComplete: laid · RevealSound: laid · RevealHides: laid · RevealFewer: laid · RevealRefuses: laid · RevealSalts: laid · EntryMatchesReference: laid · EntryTexts: laid · EntryClasses: laid · EntryConnects: laid · EntryOrder: laid · EntryCommits: laid.
  DERIVED. THE GIVEN ROWS OF THIS SEAT. 13 by the template 'for every input the law returns true; each argument reads behind the call as it read before'; 0 by the template 'total and deterministic' (their statements: YtmhejcndkplepaaDoorTotals.lean).
  GIVEN WITH THE SEED: the statements are not yours to turn. If you find one false, say at which input.
  Laid BY PROGRAM, IN A SANDBOX (cutbox-rows.mjs): the forced cells as the released guide's own fill.sh prints them over the translation 8d0bf45785c365d1… (all of the seat's roots in one cut). By AI agents, Wed Nov 11 2026. No macro, syntax, notation, axiom, sorry.
-/
import Derived.Test.YtmhejcndkplepaaDoorChecked
import GoSem.PinnedTables
import GoSem.Claim
import GoSem.ClaimJoined
import GoSem.ClaimMapViews
import Derived.JoinedTies
import Derived.KernelRfl
namespace Go.Proofs.YtmhejcndkplepaaDoor
/- THE CELL 'sum', in the pinned program and in every row, IS THE sha256 OF THE DUMP (.gsa) THAT YtmhejcndkplepaaDoorProg.lean LOADS. Nothing in Lean hashes anything: it is a label: what it is worth is what the hold of that sum in a sandbox is worth. -/
noncomputable def Tryd.pinned : Pinned := { name := "ytmhejcndkplepaadoor", sum := "8d0bf45785c365d1ca3edfc38e359e02258cee360a08352a2b09b46240a49041", checked := Tryd.checked }
namespace Rows
def none {H : Type} : Left H := { results := [], args := [] }

/- WHAT THE LISTED PACKAGE-LEVEL VARIABLES READ AS WHEN THE CALL BEGINS. Each datum BY PROGRAM (the guide's laid-datum.mjs) off the statement by which the dump's own 'gosem.cut.vars' lays the variable. In a bare row this is a premise. The card (YtmhejcndkplepaaDoorCards.lean) ties it to the program's text. -/
def laid_math_bits_deBruijn32tab {H : Type} : DataW H := .agg [.lit (.int .u8 0), .lit (.int .u8 1), .lit (.int .u8 28), .lit (.int .u8 2), .lit (.int .u8 29), .lit (.int .u8 14), .lit (.int .u8 24), .lit (.int .u8 3), .lit (.int .u8 30), .lit (.int .u8 22), .lit (.int .u8 20), .lit (.int .u8 15), .lit (.int .u8 25), .lit (.int .u8 17), .lit (.int .u8 4), .lit (.int .u8 8), .lit (.int .u8 31), .lit (.int .u8 27), .lit (.int .u8 13), .lit (.int .u8 23), .lit (.int .u8 21), .lit (.int .u8 19), .lit (.int .u8 16), .lit (.int .u8 7), .lit (.int .u8 26), .lit (.int .u8 12), .lit (.int .u8 18), .lit (.int .u8 6), .lit (.int .u8 11), .lit (.int .u8 5), .lit (.int .u8 10), .lit (.int .u8 9)]
def laid_math_bits_deBruijn64tab {H : Type} : DataW H := .agg [.lit (.int .u8 0), .lit (.int .u8 1), .lit (.int .u8 56), .lit (.int .u8 2), .lit (.int .u8 57), .lit (.int .u8 49), .lit (.int .u8 28), .lit (.int .u8 3), .lit (.int .u8 61), .lit (.int .u8 58), .lit (.int .u8 42), .lit (.int .u8 50), .lit (.int .u8 38), .lit (.int .u8 29), .lit (.int .u8 17), .lit (.int .u8 4), .lit (.int .u8 62), .lit (.int .u8 47), .lit (.int .u8 59), .lit (.int .u8 36), .lit (.int .u8 45), .lit (.int .u8 43), .lit (.int .u8 51), .lit (.int .u8 22), .lit (.int .u8 53), .lit (.int .u8 39), .lit (.int .u8 33), .lit (.int .u8 30), .lit (.int .u8 24), .lit (.int .u8 18), .lit (.int .u8 12), .lit (.int .u8 5), .lit (.int .u8 63), .lit (.int .u8 55), .lit (.int .u8 48), .lit (.int .u8 27), .lit (.int .u8 60), .lit (.int .u8 41), .lit (.int .u8 37), .lit (.int .u8 16), .lit (.int .u8 46), .lit (.int .u8 35), .lit (.int .u8 44), .lit (.int .u8 21), .lit (.int .u8 52), .lit (.int .u8 32), .lit (.int .u8 23), .lit (.int .u8 11), .lit (.int .u8 54), .lit (.int .u8 26), .lit (.int .u8 40), .lit (.int .u8 15), .lit (.int .u8 34), .lit (.int .u8 20), .lit (.int .u8 31), .lit (.int .u8 10), .lit (.int .u8 25), .lit (.int .u8 14), .lit (.int .u8 19), .lit (.int .u8 9), .lit (.int .u8 13), .lit (.int .u8 8), .lit (.int .u8 7), .lit (.int .u8 6)]
def laid_internal_strconv_uint64pow10 {H : Type} : DataW H := .agg [.lit (.int .u64 1), .lit (.int .u64 10), .lit (.int .u64 100), .lit (.int .u64 1000), .lit (.int .u64 10000), .lit (.int .u64 100000), .lit (.int .u64 1000000), .lit (.int .u64 10000000), .lit (.int .u64 100000000), .lit (.int .u64 1000000000), .lit (.int .u64 10000000000), .lit (.int .u64 100000000000), .lit (.int .u64 1000000000000), .lit (.int .u64 10000000000000), .lit (.int .u64 100000000000000), .lit (.int .u64 1000000000000000), .lit (.int .u64 10000000000000000), .lit (.int .u64 100000000000000000), .lit (.int .u64 1000000000000000000), .lit (.int .u64 10000000000000000000)]
def laid_unicode_utf8_acceptRanges {H : Type} : DataW H := .agg [.agg [.lit (.int .u8 128), .lit (.int .u8 191)], .agg [.lit (.int .u8 160), .lit (.int .u8 191)], .agg [.lit (.int .u8 128), .lit (.int .u8 159)], .agg [.lit (.int .u8 144), .lit (.int .u8 191)], .agg [.lit (.int .u8 128), .lit (.int .u8 143)], .agg [.lit (.int .u8 0), .lit (.int .u8 0)], .agg [.lit (.int .u8 0), .lit (.int .u8 0)], .agg [.lit (.int .u8 0), .lit (.int .u8 0)], .agg [.lit (.int .u8 0), .lit (.int .u8 0)], .agg [.lit (.int .u8 0), .lit (.int .u8 0)], .agg [.lit (.int .u8 0), .lit (.int .u8 0)], .agg [.lit (.int .u8 0), .lit (.int .u8 0)], .agg [.lit (.int .u8 0), .lit (.int .u8 0)], .agg [.lit (.int .u8 0), .lit (.int .u8 0)], .agg [.lit (.int .u8 0), .lit (.int .u8 0)], .agg [.lit (.int .u8 0), .lit (.int .u8 0)]]
def laid_foyer_digest_hex {H : Type} : DataW H := .agg [.lit (.int .u8 48), .lit (.int .u8 49), .lit (.int .u8 50), .lit (.int .u8 51), .lit (.int .u8 52), .lit (.int .u8 53), .lit (.int .u8 54), .lit (.int .u8 55), .lit (.int .u8 56), .lit (.int .u8 57), .lit (.int .u8 97), .lit (.int .u8 98), .lit (.int .u8 99), .lit (.int .u8 100), .lit (.int .u8 101), .lit (.int .u8 102)]
/-- One of Go's own tables, pinned by name: the form's constant. -/
def laid_unicode_utf8_first : DataW Unit := Go.Pinned.utf8First

/-- 'foyerlaw31.RevealMatchesReference': WHATEVER THE INPUT: true; the input reads as it did. -/
def revealMatchesReferenceSpec : ChangeSpec := { name := "revealMatchesReference", fn := fun _ => fun
  | [d1, d2, d3, d4, d5] => { results := [.lit (.bool true)], args := [d1, d2, d3, d4, d5] }
  | _ => none }
def revealMatchesReferenceRow : OpenClaim := { program := "ytmhejcndkplepaadoor", sum := "8d0bf45785c365d1ca3edfc38e359e02258cee360a08352a2b09b46240a49041", func := "foyer/foyerlaw31.RevealMatchesReference", spec := "revealMatchesReference", inPlace := ["internal/abi.NoEscape", "internal/bytealg.IndexByteString", "internal/bytealg.IndexString"], unfollowed := true, recurses := true, named := ["internal/strconv.uint64pow10", "math/bits.deBruijn32tab", "math/bits.deBruijn64tab", "foyer/digest.hex", "unicode/utf8.first", "unicode/utf8.acceptRanges", "internal/bytealg.MaxLen"], apart := false, laid := [("math/bits.deBruijn32tab", laid_math_bits_deBruijn32tab), ("math/bits.deBruijn64tab", laid_math_bits_deBruijn64tab), ("internal/strconv.uint64pow10", laid_internal_strconv_uint64pow10), ("unicode/utf8.acceptRanges", laid_unicode_utf8_acceptRanges), ("foyer/digest.hex", laid_foyer_digest_hex), ("unicode/utf8.first", laid_unicode_utf8_first)] }
def RevealMatchesReferenceSaid : Prop := revealMatchesReferenceRow.holds Tryd.pinned (OpenSpec.ofChange revealMatchesReferenceSpec)

/-- ITS FALSE NEIGHBOUR: 'it returns false'. Refute it at one input. -/
def revealMatchesReferenceWrong : ChangeSpec := { name := "revealMatchesReference", fn := fun _ => fun
  | [d1, d2, d3, d4, d5] => { results := [.lit (.bool false)], args := [d1, d2, d3, d4, d5] }
  | _ => none }
def RevealMatchesReferenceWrongFalsely : Prop := revealMatchesReferenceRow.holds Tryd.pinned (OpenSpec.ofChange revealMatchesReferenceWrong)

/-- 'foyerlaw31.RevealComplete': WHATEVER THE INPUT: true; the input reads as it did. -/
def revealCompleteSpec : ChangeSpec := { name := "revealComplete", fn := fun _ => fun
  | [d1, d2, d3] => { results := [.lit (.bool true)], args := [d1, d2, d3] }
  | _ => none }
def revealCompleteRow : OpenClaim := { program := "ytmhejcndkplepaadoor", sum := "8d0bf45785c365d1ca3edfc38e359e02258cee360a08352a2b09b46240a49041", func := "foyer/foyerlaw31.RevealComplete", spec := "revealComplete", inPlace := ["internal/abi.NoEscape", "internal/bytealg.IndexByteString", "internal/bytealg.IndexString"], unfollowed := true, recurses := true, named := ["internal/strconv.uint64pow10", "math/bits.deBruijn32tab", "math/bits.deBruijn64tab", "foyer/digest.hex", "unicode/utf8.first", "unicode/utf8.acceptRanges", "internal/bytealg.MaxLen"], apart := false, laid := [("math/bits.deBruijn32tab", laid_math_bits_deBruijn32tab), ("math/bits.deBruijn64tab", laid_math_bits_deBruijn64tab), ("internal/strconv.uint64pow10", laid_internal_strconv_uint64pow10), ("unicode/utf8.acceptRanges", laid_unicode_utf8_acceptRanges), ("foyer/digest.hex", laid_foyer_digest_hex), ("unicode/utf8.first", laid_unicode_utf8_first)] }
def RevealCompleteSaid : Prop := revealCompleteRow.holds Tryd.pinned (OpenSpec.ofChange revealCompleteSpec)

/-- ITS FALSE NEIGHBOUR: 'it returns false'. Refute it at one input. -/
def revealCompleteWrong : ChangeSpec := { name := "revealComplete", fn := fun _ => fun
  | [d1, d2, d3] => { results := [.lit (.bool false)], args := [d1, d2, d3] }
  | _ => none }
def RevealCompleteWrongFalsely : Prop := revealCompleteRow.holds Tryd.pinned (OpenSpec.ofChange revealCompleteWrong)

/-- 'foyerlaw31.RevealSound': WHATEVER THE INPUT: true; the input reads as it did. -/
def revealSoundSpec : ChangeSpec := { name := "revealSound", fn := fun _ => fun
  | [d1, d2, d3] => { results := [.lit (.bool true)], args := [d1, d2, d3] }
  | _ => none }
def revealSoundRow : OpenClaim := { program := "ytmhejcndkplepaadoor", sum := "8d0bf45785c365d1ca3edfc38e359e02258cee360a08352a2b09b46240a49041", func := "foyer/foyerlaw31.RevealSound", spec := "revealSound", inPlace := ["internal/abi.NoEscape", "internal/bytealg.IndexByteString", "internal/bytealg.IndexString"], unfollowed := true, recurses := true, named := ["internal/strconv.uint64pow10", "math/bits.deBruijn32tab", "math/bits.deBruijn64tab", "foyer/digest.hex", "unicode/utf8.first", "unicode/utf8.acceptRanges", "internal/bytealg.MaxLen"], apart := false, laid := [("math/bits.deBruijn32tab", laid_math_bits_deBruijn32tab), ("math/bits.deBruijn64tab", laid_math_bits_deBruijn64tab), ("internal/strconv.uint64pow10", laid_internal_strconv_uint64pow10), ("unicode/utf8.acceptRanges", laid_unicode_utf8_acceptRanges), ("foyer/digest.hex", laid_foyer_digest_hex), ("unicode/utf8.first", laid_unicode_utf8_first)] }
def RevealSoundSaid : Prop := revealSoundRow.holds Tryd.pinned (OpenSpec.ofChange revealSoundSpec)

/-- ITS FALSE NEIGHBOUR: 'it returns false'. Refute it at one input. -/
def revealSoundWrong : ChangeSpec := { name := "revealSound", fn := fun _ => fun
  | [d1, d2, d3] => { results := [.lit (.bool false)], args := [d1, d2, d3] }
  | _ => none }
def RevealSoundWrongFalsely : Prop := revealSoundRow.holds Tryd.pinned (OpenSpec.ofChange revealSoundWrong)

/-- 'foyerlaw31.RevealHides': WHATEVER THE INPUT: true; the input reads as it did. -/
def revealHidesSpec : ChangeSpec := { name := "revealHides", fn := fun _ => fun
  | [d1, d2, d3, d4, d5] => { results := [.lit (.bool true)], args := [d1, d2, d3, d4, d5] }
  | _ => none }
def revealHidesRow : OpenClaim := { program := "ytmhejcndkplepaadoor", sum := "8d0bf45785c365d1ca3edfc38e359e02258cee360a08352a2b09b46240a49041", func := "foyer/foyerlaw31.RevealHides", spec := "revealHides", inPlace := ["internal/abi.NoEscape", "internal/bytealg.IndexByteString", "internal/bytealg.IndexString"], unfollowed := true, recurses := true, named := ["internal/strconv.uint64pow10", "math/bits.deBruijn32tab", "math/bits.deBruijn64tab", "foyer/digest.hex", "unicode/utf8.first", "unicode/utf8.acceptRanges", "internal/bytealg.MaxLen"], apart := false, laid := [("math/bits.deBruijn32tab", laid_math_bits_deBruijn32tab), ("math/bits.deBruijn64tab", laid_math_bits_deBruijn64tab), ("internal/strconv.uint64pow10", laid_internal_strconv_uint64pow10), ("unicode/utf8.acceptRanges", laid_unicode_utf8_acceptRanges), ("foyer/digest.hex", laid_foyer_digest_hex), ("unicode/utf8.first", laid_unicode_utf8_first)] }
def RevealHidesSaid : Prop := revealHidesRow.holds Tryd.pinned (OpenSpec.ofChange revealHidesSpec)

/-- ITS FALSE NEIGHBOUR: 'it returns false'. Refute it at one input. -/
def revealHidesWrong : ChangeSpec := { name := "revealHides", fn := fun _ => fun
  | [d1, d2, d3, d4, d5] => { results := [.lit (.bool false)], args := [d1, d2, d3, d4, d5] }
  | _ => none }
def RevealHidesWrongFalsely : Prop := revealHidesRow.holds Tryd.pinned (OpenSpec.ofChange revealHidesWrong)

/-- 'foyerlaw31.RevealFewer': WHATEVER THE INPUT: true; the input reads as it did. -/
def revealFewerSpec : ChangeSpec := { name := "revealFewer", fn := fun _ => fun
  | [d1, d2, d3, d4] => { results := [.lit (.bool true)], args := [d1, d2, d3, d4] }
  | _ => none }
def revealFewerRow : OpenClaim := { program := "ytmhejcndkplepaadoor", sum := "8d0bf45785c365d1ca3edfc38e359e02258cee360a08352a2b09b46240a49041", func := "foyer/foyerlaw31.RevealFewer", spec := "revealFewer", inPlace := ["internal/abi.NoEscape", "internal/bytealg.IndexByteString", "internal/bytealg.IndexString"], unfollowed := true, recurses := true, named := ["internal/strconv.uint64pow10", "math/bits.deBruijn32tab", "math/bits.deBruijn64tab", "foyer/digest.hex", "unicode/utf8.first", "unicode/utf8.acceptRanges", "internal/bytealg.MaxLen"], apart := false, laid := [("math/bits.deBruijn32tab", laid_math_bits_deBruijn32tab), ("math/bits.deBruijn64tab", laid_math_bits_deBruijn64tab), ("internal/strconv.uint64pow10", laid_internal_strconv_uint64pow10), ("unicode/utf8.acceptRanges", laid_unicode_utf8_acceptRanges), ("foyer/digest.hex", laid_foyer_digest_hex), ("unicode/utf8.first", laid_unicode_utf8_first)] }
def RevealFewerSaid : Prop := revealFewerRow.holds Tryd.pinned (OpenSpec.ofChange revealFewerSpec)

/-- ITS FALSE NEIGHBOUR: 'it returns false'. Refute it at one input. -/
def revealFewerWrong : ChangeSpec := { name := "revealFewer", fn := fun _ => fun
  | [d1, d2, d3, d4] => { results := [.lit (.bool false)], args := [d1, d2, d3, d4] }
  | _ => none }
def RevealFewerWrongFalsely : Prop := revealFewerRow.holds Tryd.pinned (OpenSpec.ofChange revealFewerWrong)

/-- 'foyerlaw31.RevealRefuses': WHATEVER THE INPUT: true; the input reads as it did. -/
def revealRefusesSpec : ChangeSpec := { name := "revealRefuses", fn := fun _ => fun
  | [d1, d2, d3, d4] => { results := [.lit (.bool true)], args := [d1, d2, d3, d4] }
  | _ => none }
def revealRefusesRow : OpenClaim := { program := "ytmhejcndkplepaadoor", sum := "8d0bf45785c365d1ca3edfc38e359e02258cee360a08352a2b09b46240a49041", func := "foyer/foyerlaw31.RevealRefuses", spec := "revealRefuses", inPlace := ["internal/abi.NoEscape", "internal/bytealg.IndexByteString", "internal/bytealg.IndexString"], unfollowed := true, recurses := true, named := ["internal/strconv.uint64pow10", "math/bits.deBruijn32tab", "math/bits.deBruijn64tab", "foyer/digest.hex", "unicode/utf8.first", "unicode/utf8.acceptRanges", "internal/bytealg.MaxLen"], apart := false, laid := [("math/bits.deBruijn32tab", laid_math_bits_deBruijn32tab), ("math/bits.deBruijn64tab", laid_math_bits_deBruijn64tab), ("internal/strconv.uint64pow10", laid_internal_strconv_uint64pow10), ("unicode/utf8.acceptRanges", laid_unicode_utf8_acceptRanges), ("foyer/digest.hex", laid_foyer_digest_hex), ("unicode/utf8.first", laid_unicode_utf8_first)] }
def RevealRefusesSaid : Prop := revealRefusesRow.holds Tryd.pinned (OpenSpec.ofChange revealRefusesSpec)

/-- ITS FALSE NEIGHBOUR: 'it returns false'. Refute it at one input. -/
def revealRefusesWrong : ChangeSpec := { name := "revealRefuses", fn := fun _ => fun
  | [d1, d2, d3, d4] => { results := [.lit (.bool false)], args := [d1, d2, d3, d4] }
  | _ => none }
def RevealRefusesWrongFalsely : Prop := revealRefusesRow.holds Tryd.pinned (OpenSpec.ofChange revealRefusesWrong)

/-- 'foyerlaw31.RevealSalts': WHATEVER THE INPUT: true; the input reads as it did. -/
def revealSaltsSpec : ChangeSpec := { name := "revealSalts", fn := fun _ => fun
  | [d1, d2, d3, d4] => { results := [.lit (.bool true)], args := [d1, d2, d3, d4] }
  | _ => none }
def revealSaltsRow : OpenClaim := { program := "ytmhejcndkplepaadoor", sum := "8d0bf45785c365d1ca3edfc38e359e02258cee360a08352a2b09b46240a49041", func := "foyer/foyerlaw31.RevealSalts", spec := "revealSalts", inPlace := ["internal/abi.NoEscape", "internal/bytealg.IndexByteString", "internal/bytealg.IndexString"], unfollowed := true, recurses := true, named := ["internal/strconv.uint64pow10", "math/bits.deBruijn32tab", "math/bits.deBruijn64tab", "foyer/digest.hex", "unicode/utf8.first", "unicode/utf8.acceptRanges", "internal/bytealg.MaxLen"], apart := false, laid := [("math/bits.deBruijn32tab", laid_math_bits_deBruijn32tab), ("math/bits.deBruijn64tab", laid_math_bits_deBruijn64tab), ("internal/strconv.uint64pow10", laid_internal_strconv_uint64pow10), ("unicode/utf8.acceptRanges", laid_unicode_utf8_acceptRanges), ("foyer/digest.hex", laid_foyer_digest_hex), ("unicode/utf8.first", laid_unicode_utf8_first)] }
def RevealSaltsSaid : Prop := revealSaltsRow.holds Tryd.pinned (OpenSpec.ofChange revealSaltsSpec)

/-- ITS FALSE NEIGHBOUR: 'it returns false'. Refute it at one input. -/
def revealSaltsWrong : ChangeSpec := { name := "revealSalts", fn := fun _ => fun
  | [d1, d2, d3, d4] => { results := [.lit (.bool false)], args := [d1, d2, d3, d4] }
  | _ => none }
def RevealSaltsWrongFalsely : Prop := revealSaltsRow.holds Tryd.pinned (OpenSpec.ofChange revealSaltsWrong)

/-- 'foyerlaw18.EntryMatchesReference': WHATEVER THE INPUT: true; the input reads as it did. -/
def entryMatchesReferenceSpec : ChangeSpec := { name := "entryMatchesReference", fn := fun _ => fun
  | [d1, d2, d3, d4] => { results := [.lit (.bool true)], args := [d1, d2, d3, d4] }
  | _ => none }
def entryMatchesReferenceRow : OpenClaim := { program := "ytmhejcndkplepaadoor", sum := "8d0bf45785c365d1ca3edfc38e359e02258cee360a08352a2b09b46240a49041", func := "foyer/foyerlaw18.EntryMatchesReference", spec := "entryMatchesReference", inPlace := ["internal/bytealg.IndexByteString", "internal/bytealg.IndexString", "internal/abi.NoEscape", "internal/bytealg.MakeNoZero"], unfollowed := true, recurses := true, named := ["foyer/digest.hex", "internal/bytealg.MaxLen", "unicode/utf8.first", "unicode/utf8.acceptRanges", "internal/strconv.uint64pow10", "math/bits.deBruijn32tab", "math/bits.deBruijn64tab"], apart := false, laid := [("math/bits.deBruijn32tab", laid_math_bits_deBruijn32tab), ("math/bits.deBruijn64tab", laid_math_bits_deBruijn64tab), ("internal/strconv.uint64pow10", laid_internal_strconv_uint64pow10), ("unicode/utf8.acceptRanges", laid_unicode_utf8_acceptRanges), ("foyer/digest.hex", laid_foyer_digest_hex), ("unicode/utf8.first", laid_unicode_utf8_first)] }
def EntryMatchesReferenceSaid : Prop := entryMatchesReferenceRow.holds Tryd.pinned (OpenSpec.ofChange entryMatchesReferenceSpec)

/-- ITS FALSE NEIGHBOUR: 'it returns false'. Refute it at one input. -/
def entryMatchesReferenceWrong : ChangeSpec := { name := "entryMatchesReference", fn := fun _ => fun
  | [d1, d2, d3, d4] => { results := [.lit (.bool false)], args := [d1, d2, d3, d4] }
  | _ => none }
def EntryMatchesReferenceWrongFalsely : Prop := entryMatchesReferenceRow.holds Tryd.pinned (OpenSpec.ofChange entryMatchesReferenceWrong)

/-- 'foyerlaw18.EntryTexts': WHATEVER THE INPUT: true; the input reads as it did. -/
def entryTextsSpec : ChangeSpec := { name := "entryTexts", fn := fun _ => fun
  | [d1, d2, d3] => { results := [.lit (.bool true)], args := [d1, d2, d3] }
  | _ => none }
def entryTextsRow : OpenClaim := { program := "ytmhejcndkplepaadoor", sum := "8d0bf45785c365d1ca3edfc38e359e02258cee360a08352a2b09b46240a49041", func := "foyer/foyerlaw18.EntryTexts", spec := "entryTexts", inPlace := ["internal/bytealg.IndexByteString", "internal/bytealg.IndexString", "internal/abi.NoEscape", "internal/bytealg.MakeNoZero"], unfollowed := true, recurses := true, named := ["foyer/digest.hex", "internal/bytealg.MaxLen", "unicode/utf8.first", "unicode/utf8.acceptRanges", "internal/strconv.uint64pow10", "math/bits.deBruijn32tab", "math/bits.deBruijn64tab"], apart := false, laid := [("math/bits.deBruijn32tab", laid_math_bits_deBruijn32tab), ("math/bits.deBruijn64tab", laid_math_bits_deBruijn64tab), ("internal/strconv.uint64pow10", laid_internal_strconv_uint64pow10), ("unicode/utf8.acceptRanges", laid_unicode_utf8_acceptRanges), ("foyer/digest.hex", laid_foyer_digest_hex), ("unicode/utf8.first", laid_unicode_utf8_first)] }
def EntryTextsSaid : Prop := entryTextsRow.holds Tryd.pinned (OpenSpec.ofChange entryTextsSpec)

/-- ITS FALSE NEIGHBOUR: 'it returns false'. Refute it at one input. -/
def entryTextsWrong : ChangeSpec := { name := "entryTexts", fn := fun _ => fun
  | [d1, d2, d3] => { results := [.lit (.bool false)], args := [d1, d2, d3] }
  | _ => none }
def EntryTextsWrongFalsely : Prop := entryTextsRow.holds Tryd.pinned (OpenSpec.ofChange entryTextsWrong)

/-- 'foyerlaw18.EntryClasses': WHATEVER THE INPUT: true; the input reads as it did. -/
def entryClassesSpec : ChangeSpec := { name := "entryClasses", fn := fun _ => fun
  | [d] => { results := [.lit (.bool true)], args := [d] }
  | _ => none }
def entryClassesRow : OpenClaim := { program := "ytmhejcndkplepaadoor", sum := "8d0bf45785c365d1ca3edfc38e359e02258cee360a08352a2b09b46240a49041", func := "foyer/foyerlaw18.EntryClasses", spec := "entryClasses", inPlace := ["internal/bytealg.IndexByteString", "internal/bytealg.IndexString", "internal/abi.NoEscape", "internal/bytealg.MakeNoZero"], unfollowed := true, recurses := true, named := ["foyer/digest.hex", "internal/bytealg.MaxLen", "unicode/utf8.first", "unicode/utf8.acceptRanges", "internal/strconv.uint64pow10", "math/bits.deBruijn32tab", "math/bits.deBruijn64tab"], apart := false, laid := [("math/bits.deBruijn32tab", laid_math_bits_deBruijn32tab), ("math/bits.deBruijn64tab", laid_math_bits_deBruijn64tab), ("internal/strconv.uint64pow10", laid_internal_strconv_uint64pow10), ("unicode/utf8.acceptRanges", laid_unicode_utf8_acceptRanges), ("foyer/digest.hex", laid_foyer_digest_hex), ("unicode/utf8.first", laid_unicode_utf8_first)] }
def EntryClassesSaid : Prop := entryClassesRow.holds Tryd.pinned (OpenSpec.ofChange entryClassesSpec)

/-- ITS FALSE NEIGHBOUR: 'it returns false'. Refute it at one input. -/
def entryClassesWrong : ChangeSpec := { name := "entryClasses", fn := fun _ => fun
  | [d] => { results := [.lit (.bool false)], args := [d] }
  | _ => none }
def EntryClassesWrongFalsely : Prop := entryClassesRow.holds Tryd.pinned (OpenSpec.ofChange entryClassesWrong)

/-- 'foyerlaw18.EntryConnects': WHATEVER THE INPUT: true; the input reads as it did. -/
def entryConnectsSpec : ChangeSpec := { name := "entryConnects", fn := fun _ => fun
  | [d1, d2] => { results := [.lit (.bool true)], args := [d1, d2] }
  | _ => none }
def entryConnectsRow : OpenClaim := { program := "ytmhejcndkplepaadoor", sum := "8d0bf45785c365d1ca3edfc38e359e02258cee360a08352a2b09b46240a49041", func := "foyer/foyerlaw18.EntryConnects", spec := "entryConnects", inPlace := ["internal/bytealg.IndexByteString", "internal/bytealg.IndexString", "internal/abi.NoEscape", "internal/bytealg.MakeNoZero"], unfollowed := true, recurses := true, named := ["foyer/digest.hex", "internal/bytealg.MaxLen", "unicode/utf8.first", "unicode/utf8.acceptRanges", "internal/strconv.uint64pow10", "math/bits.deBruijn32tab", "math/bits.deBruijn64tab"], apart := false, laid := [("math/bits.deBruijn32tab", laid_math_bits_deBruijn32tab), ("math/bits.deBruijn64tab", laid_math_bits_deBruijn64tab), ("internal/strconv.uint64pow10", laid_internal_strconv_uint64pow10), ("unicode/utf8.acceptRanges", laid_unicode_utf8_acceptRanges), ("foyer/digest.hex", laid_foyer_digest_hex), ("unicode/utf8.first", laid_unicode_utf8_first)] }
def EntryConnectsSaid : Prop := entryConnectsRow.holds Tryd.pinned (OpenSpec.ofChange entryConnectsSpec)

/-- ITS FALSE NEIGHBOUR: 'it returns false'. Refute it at one input. -/
def entryConnectsWrong : ChangeSpec := { name := "entryConnects", fn := fun _ => fun
  | [d1, d2] => { results := [.lit (.bool false)], args := [d1, d2] }
  | _ => none }
def EntryConnectsWrongFalsely : Prop := entryConnectsRow.holds Tryd.pinned (OpenSpec.ofChange entryConnectsWrong)

/-- 'foyerlaw18.EntryOrder': WHATEVER THE INPUT: true; the input reads as it did. -/
def entryOrderSpec : ChangeSpec := { name := "entryOrder", fn := fun _ => fun
  | [d1, d2] => { results := [.lit (.bool true)], args := [d1, d2] }
  | _ => none }
def entryOrderRow : OpenClaim := { program := "ytmhejcndkplepaadoor", sum := "8d0bf45785c365d1ca3edfc38e359e02258cee360a08352a2b09b46240a49041", func := "foyer/foyerlaw18.EntryOrder", spec := "entryOrder", inPlace := ["internal/bytealg.IndexByteString", "internal/bytealg.IndexString", "internal/abi.NoEscape", "internal/bytealg.MakeNoZero"], unfollowed := true, recurses := true, named := ["foyer/digest.hex", "internal/bytealg.MaxLen", "unicode/utf8.first", "unicode/utf8.acceptRanges", "internal/strconv.uint64pow10", "math/bits.deBruijn32tab", "math/bits.deBruijn64tab"], apart := false, laid := [("math/bits.deBruijn32tab", laid_math_bits_deBruijn32tab), ("math/bits.deBruijn64tab", laid_math_bits_deBruijn64tab), ("internal/strconv.uint64pow10", laid_internal_strconv_uint64pow10), ("unicode/utf8.acceptRanges", laid_unicode_utf8_acceptRanges), ("foyer/digest.hex", laid_foyer_digest_hex), ("unicode/utf8.first", laid_unicode_utf8_first)] }
def EntryOrderSaid : Prop := entryOrderRow.holds Tryd.pinned (OpenSpec.ofChange entryOrderSpec)

/-- ITS FALSE NEIGHBOUR: 'it returns false'. Refute it at one input. -/
def entryOrderWrong : ChangeSpec := { name := "entryOrder", fn := fun _ => fun
  | [d1, d2] => { results := [.lit (.bool false)], args := [d1, d2] }
  | _ => none }
def EntryOrderWrongFalsely : Prop := entryOrderRow.holds Tryd.pinned (OpenSpec.ofChange entryOrderWrong)

/-- 'foyerlaw18.EntryCommits': WHATEVER THE INPUT: true; the input reads as it did. -/
def entryCommitsSpec : ChangeSpec := { name := "entryCommits", fn := fun _ => fun
  | [d1, d2, d3, d4] => { results := [.lit (.bool true)], args := [d1, d2, d3, d4] }
  | _ => none }
def entryCommitsRow : OpenClaim := { program := "ytmhejcndkplepaadoor", sum := "8d0bf45785c365d1ca3edfc38e359e02258cee360a08352a2b09b46240a49041", func := "foyer/foyerlaw18.EntryCommits", spec := "entryCommits", inPlace := ["internal/bytealg.IndexByteString", "internal/bytealg.IndexString", "internal/abi.NoEscape", "internal/bytealg.MakeNoZero"], unfollowed := true, recurses := true, named := ["foyer/digest.hex", "internal/bytealg.MaxLen", "unicode/utf8.first", "unicode/utf8.acceptRanges", "internal/strconv.uint64pow10", "math/bits.deBruijn32tab", "math/bits.deBruijn64tab"], apart := false, laid := [("math/bits.deBruijn32tab", laid_math_bits_deBruijn32tab), ("math/bits.deBruijn64tab", laid_math_bits_deBruijn64tab), ("internal/strconv.uint64pow10", laid_internal_strconv_uint64pow10), ("unicode/utf8.acceptRanges", laid_unicode_utf8_acceptRanges), ("foyer/digest.hex", laid_foyer_digest_hex), ("unicode/utf8.first", laid_unicode_utf8_first)] }
def EntryCommitsSaid : Prop := entryCommitsRow.holds Tryd.pinned (OpenSpec.ofChange entryCommitsSpec)

/-- ITS FALSE NEIGHBOUR: 'it returns false'. Refute it at one input. -/
def entryCommitsWrong : ChangeSpec := { name := "entryCommits", fn := fun _ => fun
  | [d1, d2, d3, d4] => { results := [.lit (.bool false)], args := [d1, d2, d3, d4] }
  | _ => none }
def EntryCommitsWrongFalsely : Prop := entryCommitsRow.holds Tryd.pinned (OpenSpec.ofChange entryCommitsWrong)

/- THE SECOND FORM. 'bulk': how many values and letters a reading holds, each counted each time it is reached (what is shared counts as often as it is met; a slice's spare places count too). A statement '..UptoSaid' is the law's where the arguments, and the package variables that the reading takes, are together of bulk at most 1048576: NARROWER than '..Said'. Prove '..Said' where nothing that the law and all that it calls make is longer than what came in: it says more and counts as full. Else prove '..UptoSaid'. A law counts once. -/
mutual
def uptoBulk {H : Type} : DataW H → Nat
  | .lit (.string bytes) => bytes.length + 1
  | .lit _ => 1
  | .nil => 1
  | .ptr d => uptoBulk d + 1
  | .slice elems spare => uptoBulkAll elems + uptoBulkAll spare + 1
  | .agg parts => uptoBulkAll parts + 1
  | .iface _ d => uptoBulk d + 1
  | .map entries => uptoBulkEntries entries + 1
  | .held _ => 1
def uptoBulkAll {H : Type} : List (DataW H) → Nat
  | [] => 0
  | d :: r => uptoBulk d + uptoBulkAll r
def uptoBulkEntries {H : Type} : List (Lit × DataW H) → Nat
  | [] => 0
  | x :: r => uptoBulkEntry x + uptoBulkEntries r
def uptoBulkEntry {H : Type} : Lit × DataW H → Nat
  | (.string bytes, d) => bytes.length + uptoBulk d + 1
  | (_, d) => uptoBulk d + 1
 end
def uptoSmall : (H : Type) → List (DataW H) → Bool := fun _ ds => decide (uptoBulkAll ds ≤ 1048576)
def OpenSpec.upto (s : _root_.Go.ChangeSpec) : _root_.Go.OpenSpec := { _root_.Go.OpenSpec.ofChange s with cond := some uptoSmall }

/-- 'foyerlaw31.RevealMatchesReference', WHERE WHAT IT READS IS OF BULK AT MOST 1048576: true; the input reads as it did. -/
def revealMatchesReferenceUptoRow : OpenClaim := { program := "ytmhejcndkplepaadoor", sum := "8d0bf45785c365d1ca3edfc38e359e02258cee360a08352a2b09b46240a49041", func := "foyer/foyerlaw31.RevealMatchesReference", spec := "revealMatchesReference", inPlace := ["internal/abi.NoEscape", "internal/bytealg.IndexByteString", "internal/bytealg.IndexString"], unfollowed := true, recurses := true, named := ["internal/strconv.uint64pow10", "math/bits.deBruijn32tab", "math/bits.deBruijn64tab", "foyer/digest.hex", "unicode/utf8.first", "unicode/utf8.acceptRanges", "internal/bytealg.MaxLen"], apart := false, laid := [("math/bits.deBruijn32tab", laid_math_bits_deBruijn32tab), ("math/bits.deBruijn64tab", laid_math_bits_deBruijn64tab), ("internal/strconv.uint64pow10", laid_internal_strconv_uint64pow10), ("unicode/utf8.acceptRanges", laid_unicode_utf8_acceptRanges), ("foyer/digest.hex", laid_foyer_digest_hex), ("unicode/utf8.first", laid_unicode_utf8_first)], narrowed := true }
def RevealMatchesReferenceUptoSaid : Prop := revealMatchesReferenceUptoRow.holds Tryd.pinned (OpenSpec.upto revealMatchesReferenceSpec)

/-- 'foyerlaw31.RevealComplete', WHERE WHAT IT READS IS OF BULK AT MOST 1048576: true; the input reads as it did. -/
def revealCompleteUptoRow : OpenClaim := { program := "ytmhejcndkplepaadoor", sum := "8d0bf45785c365d1ca3edfc38e359e02258cee360a08352a2b09b46240a49041", func := "foyer/foyerlaw31.RevealComplete", spec := "revealComplete", inPlace := ["internal/abi.NoEscape", "internal/bytealg.IndexByteString", "internal/bytealg.IndexString"], unfollowed := true, recurses := true, named := ["internal/strconv.uint64pow10", "math/bits.deBruijn32tab", "math/bits.deBruijn64tab", "foyer/digest.hex", "unicode/utf8.first", "unicode/utf8.acceptRanges", "internal/bytealg.MaxLen"], apart := false, laid := [("math/bits.deBruijn32tab", laid_math_bits_deBruijn32tab), ("math/bits.deBruijn64tab", laid_math_bits_deBruijn64tab), ("internal/strconv.uint64pow10", laid_internal_strconv_uint64pow10), ("unicode/utf8.acceptRanges", laid_unicode_utf8_acceptRanges), ("foyer/digest.hex", laid_foyer_digest_hex), ("unicode/utf8.first", laid_unicode_utf8_first)], narrowed := true }
def RevealCompleteUptoSaid : Prop := revealCompleteUptoRow.holds Tryd.pinned (OpenSpec.upto revealCompleteSpec)

/-- 'foyerlaw31.RevealSound', WHERE WHAT IT READS IS OF BULK AT MOST 1048576: true; the input reads as it did. -/
def revealSoundUptoRow : OpenClaim := { program := "ytmhejcndkplepaadoor", sum := "8d0bf45785c365d1ca3edfc38e359e02258cee360a08352a2b09b46240a49041", func := "foyer/foyerlaw31.RevealSound", spec := "revealSound", inPlace := ["internal/abi.NoEscape", "internal/bytealg.IndexByteString", "internal/bytealg.IndexString"], unfollowed := true, recurses := true, named := ["internal/strconv.uint64pow10", "math/bits.deBruijn32tab", "math/bits.deBruijn64tab", "foyer/digest.hex", "unicode/utf8.first", "unicode/utf8.acceptRanges", "internal/bytealg.MaxLen"], apart := false, laid := [("math/bits.deBruijn32tab", laid_math_bits_deBruijn32tab), ("math/bits.deBruijn64tab", laid_math_bits_deBruijn64tab), ("internal/strconv.uint64pow10", laid_internal_strconv_uint64pow10), ("unicode/utf8.acceptRanges", laid_unicode_utf8_acceptRanges), ("foyer/digest.hex", laid_foyer_digest_hex), ("unicode/utf8.first", laid_unicode_utf8_first)], narrowed := true }
def RevealSoundUptoSaid : Prop := revealSoundUptoRow.holds Tryd.pinned (OpenSpec.upto revealSoundSpec)

/-- 'foyerlaw31.RevealHides', WHERE WHAT IT READS IS OF BULK AT MOST 1048576: true; the input reads as it did. -/
def revealHidesUptoRow : OpenClaim := { program := "ytmhejcndkplepaadoor", sum := "8d0bf45785c365d1ca3edfc38e359e02258cee360a08352a2b09b46240a49041", func := "foyer/foyerlaw31.RevealHides", spec := "revealHides", inPlace := ["internal/abi.NoEscape", "internal/bytealg.IndexByteString", "internal/bytealg.IndexString"], unfollowed := true, recurses := true, named := ["internal/strconv.uint64pow10", "math/bits.deBruijn32tab", "math/bits.deBruijn64tab", "foyer/digest.hex", "unicode/utf8.first", "unicode/utf8.acceptRanges", "internal/bytealg.MaxLen"], apart := false, laid := [("math/bits.deBruijn32tab", laid_math_bits_deBruijn32tab), ("math/bits.deBruijn64tab", laid_math_bits_deBruijn64tab), ("internal/strconv.uint64pow10", laid_internal_strconv_uint64pow10), ("unicode/utf8.acceptRanges", laid_unicode_utf8_acceptRanges), ("foyer/digest.hex", laid_foyer_digest_hex), ("unicode/utf8.first", laid_unicode_utf8_first)], narrowed := true }
def RevealHidesUptoSaid : Prop := revealHidesUptoRow.holds Tryd.pinned (OpenSpec.upto revealHidesSpec)

/-- 'foyerlaw31.RevealFewer', WHERE WHAT IT READS IS OF BULK AT MOST 1048576: true; the input reads as it did. -/
def revealFewerUptoRow : OpenClaim := { program := "ytmhejcndkplepaadoor", sum := "8d0bf45785c365d1ca3edfc38e359e02258cee360a08352a2b09b46240a49041", func := "foyer/foyerlaw31.RevealFewer", spec := "revealFewer", inPlace := ["internal/abi.NoEscape", "internal/bytealg.IndexByteString", "internal/bytealg.IndexString"], unfollowed := true, recurses := true, named := ["internal/strconv.uint64pow10", "math/bits.deBruijn32tab", "math/bits.deBruijn64tab", "foyer/digest.hex", "unicode/utf8.first", "unicode/utf8.acceptRanges", "internal/bytealg.MaxLen"], apart := false, laid := [("math/bits.deBruijn32tab", laid_math_bits_deBruijn32tab), ("math/bits.deBruijn64tab", laid_math_bits_deBruijn64tab), ("internal/strconv.uint64pow10", laid_internal_strconv_uint64pow10), ("unicode/utf8.acceptRanges", laid_unicode_utf8_acceptRanges), ("foyer/digest.hex", laid_foyer_digest_hex), ("unicode/utf8.first", laid_unicode_utf8_first)], narrowed := true }
def RevealFewerUptoSaid : Prop := revealFewerUptoRow.holds Tryd.pinned (OpenSpec.upto revealFewerSpec)

/-- 'foyerlaw31.RevealRefuses', WHERE WHAT IT READS IS OF BULK AT MOST 1048576: true; the input reads as it did. -/
def revealRefusesUptoRow : OpenClaim := { program := "ytmhejcndkplepaadoor", sum := "8d0bf45785c365d1ca3edfc38e359e02258cee360a08352a2b09b46240a49041", func := "foyer/foyerlaw31.RevealRefuses", spec := "revealRefuses", inPlace := ["internal/abi.NoEscape", "internal/bytealg.IndexByteString", "internal/bytealg.IndexString"], unfollowed := true, recurses := true, named := ["internal/strconv.uint64pow10", "math/bits.deBruijn32tab", "math/bits.deBruijn64tab", "foyer/digest.hex", "unicode/utf8.first", "unicode/utf8.acceptRanges", "internal/bytealg.MaxLen"], apart := false, laid := [("math/bits.deBruijn32tab", laid_math_bits_deBruijn32tab), ("math/bits.deBruijn64tab", laid_math_bits_deBruijn64tab), ("internal/strconv.uint64pow10", laid_internal_strconv_uint64pow10), ("unicode/utf8.acceptRanges", laid_unicode_utf8_acceptRanges), ("foyer/digest.hex", laid_foyer_digest_hex), ("unicode/utf8.first", laid_unicode_utf8_first)], narrowed := true }
def RevealRefusesUptoSaid : Prop := revealRefusesUptoRow.holds Tryd.pinned (OpenSpec.upto revealRefusesSpec)

/-- 'foyerlaw31.RevealSalts', WHERE WHAT IT READS IS OF BULK AT MOST 1048576: true; the input reads as it did. -/
def revealSaltsUptoRow : OpenClaim := { program := "ytmhejcndkplepaadoor", sum := "8d0bf45785c365d1ca3edfc38e359e02258cee360a08352a2b09b46240a49041", func := "foyer/foyerlaw31.RevealSalts", spec := "revealSalts", inPlace := ["internal/abi.NoEscape", "internal/bytealg.IndexByteString", "internal/bytealg.IndexString"], unfollowed := true, recurses := true, named := ["internal/strconv.uint64pow10", "math/bits.deBruijn32tab", "math/bits.deBruijn64tab", "foyer/digest.hex", "unicode/utf8.first", "unicode/utf8.acceptRanges", "internal/bytealg.MaxLen"], apart := false, laid := [("math/bits.deBruijn32tab", laid_math_bits_deBruijn32tab), ("math/bits.deBruijn64tab", laid_math_bits_deBruijn64tab), ("internal/strconv.uint64pow10", laid_internal_strconv_uint64pow10), ("unicode/utf8.acceptRanges", laid_unicode_utf8_acceptRanges), ("foyer/digest.hex", laid_foyer_digest_hex), ("unicode/utf8.first", laid_unicode_utf8_first)], narrowed := true }
def RevealSaltsUptoSaid : Prop := revealSaltsUptoRow.holds Tryd.pinned (OpenSpec.upto revealSaltsSpec)

/-- 'foyerlaw18.EntryMatchesReference', WHERE WHAT IT READS IS OF BULK AT MOST 1048576: true; the input reads as it did. -/
def entryMatchesReferenceUptoRow : OpenClaim := { program := "ytmhejcndkplepaadoor", sum := "8d0bf45785c365d1ca3edfc38e359e02258cee360a08352a2b09b46240a49041", func := "foyer/foyerlaw18.EntryMatchesReference", spec := "entryMatchesReference", inPlace := ["internal/bytealg.IndexByteString", "internal/bytealg.IndexString", "internal/abi.NoEscape", "internal/bytealg.MakeNoZero"], unfollowed := true, recurses := true, named := ["foyer/digest.hex", "internal/bytealg.MaxLen", "unicode/utf8.first", "unicode/utf8.acceptRanges", "internal/strconv.uint64pow10", "math/bits.deBruijn32tab", "math/bits.deBruijn64tab"], apart := false, laid := [("math/bits.deBruijn32tab", laid_math_bits_deBruijn32tab), ("math/bits.deBruijn64tab", laid_math_bits_deBruijn64tab), ("internal/strconv.uint64pow10", laid_internal_strconv_uint64pow10), ("unicode/utf8.acceptRanges", laid_unicode_utf8_acceptRanges), ("foyer/digest.hex", laid_foyer_digest_hex), ("unicode/utf8.first", laid_unicode_utf8_first)], narrowed := true }
def EntryMatchesReferenceUptoSaid : Prop := entryMatchesReferenceUptoRow.holds Tryd.pinned (OpenSpec.upto entryMatchesReferenceSpec)

/-- 'foyerlaw18.EntryTexts', WHERE WHAT IT READS IS OF BULK AT MOST 1048576: true; the input reads as it did. -/
def entryTextsUptoRow : OpenClaim := { program := "ytmhejcndkplepaadoor", sum := "8d0bf45785c365d1ca3edfc38e359e02258cee360a08352a2b09b46240a49041", func := "foyer/foyerlaw18.EntryTexts", spec := "entryTexts", inPlace := ["internal/bytealg.IndexByteString", "internal/bytealg.IndexString", "internal/abi.NoEscape", "internal/bytealg.MakeNoZero"], unfollowed := true, recurses := true, named := ["foyer/digest.hex", "internal/bytealg.MaxLen", "unicode/utf8.first", "unicode/utf8.acceptRanges", "internal/strconv.uint64pow10", "math/bits.deBruijn32tab", "math/bits.deBruijn64tab"], apart := false, laid := [("math/bits.deBruijn32tab", laid_math_bits_deBruijn32tab), ("math/bits.deBruijn64tab", laid_math_bits_deBruijn64tab), ("internal/strconv.uint64pow10", laid_internal_strconv_uint64pow10), ("unicode/utf8.acceptRanges", laid_unicode_utf8_acceptRanges), ("foyer/digest.hex", laid_foyer_digest_hex), ("unicode/utf8.first", laid_unicode_utf8_first)], narrowed := true }
def EntryTextsUptoSaid : Prop := entryTextsUptoRow.holds Tryd.pinned (OpenSpec.upto entryTextsSpec)

/-- 'foyerlaw18.EntryClasses', WHERE WHAT IT READS IS OF BULK AT MOST 1048576: true; the input reads as it did. -/
def entryClassesUptoRow : OpenClaim := { program := "ytmhejcndkplepaadoor", sum := "8d0bf45785c365d1ca3edfc38e359e02258cee360a08352a2b09b46240a49041", func := "foyer/foyerlaw18.EntryClasses", spec := "entryClasses", inPlace := ["internal/bytealg.IndexByteString", "internal/bytealg.IndexString", "internal/abi.NoEscape", "internal/bytealg.MakeNoZero"], unfollowed := true, recurses := true, named := ["foyer/digest.hex", "internal/bytealg.MaxLen", "unicode/utf8.first", "unicode/utf8.acceptRanges", "internal/strconv.uint64pow10", "math/bits.deBruijn32tab", "math/bits.deBruijn64tab"], apart := false, laid := [("math/bits.deBruijn32tab", laid_math_bits_deBruijn32tab), ("math/bits.deBruijn64tab", laid_math_bits_deBruijn64tab), ("internal/strconv.uint64pow10", laid_internal_strconv_uint64pow10), ("unicode/utf8.acceptRanges", laid_unicode_utf8_acceptRanges), ("foyer/digest.hex", laid_foyer_digest_hex), ("unicode/utf8.first", laid_unicode_utf8_first)], narrowed := true }
def EntryClassesUptoSaid : Prop := entryClassesUptoRow.holds Tryd.pinned (OpenSpec.upto entryClassesSpec)

/-- 'foyerlaw18.EntryConnects', WHERE WHAT IT READS IS OF BULK AT MOST 1048576: true; the input reads as it did. -/
def entryConnectsUptoRow : OpenClaim := { program := "ytmhejcndkplepaadoor", sum := "8d0bf45785c365d1ca3edfc38e359e02258cee360a08352a2b09b46240a49041", func := "foyer/foyerlaw18.EntryConnects", spec := "entryConnects", inPlace := ["internal/bytealg.IndexByteString", "internal/bytealg.IndexString", "internal/abi.NoEscape", "internal/bytealg.MakeNoZero"], unfollowed := true, recurses := true, named := ["foyer/digest.hex", "internal/bytealg.MaxLen", "unicode/utf8.first", "unicode/utf8.acceptRanges", "internal/strconv.uint64pow10", "math/bits.deBruijn32tab", "math/bits.deBruijn64tab"], apart := false, laid := [("math/bits.deBruijn32tab", laid_math_bits_deBruijn32tab), ("math/bits.deBruijn64tab", laid_math_bits_deBruijn64tab), ("internal/strconv.uint64pow10", laid_internal_strconv_uint64pow10), ("unicode/utf8.acceptRanges", laid_unicode_utf8_acceptRanges), ("foyer/digest.hex", laid_foyer_digest_hex), ("unicode/utf8.first", laid_unicode_utf8_first)], narrowed := true }
def EntryConnectsUptoSaid : Prop := entryConnectsUptoRow.holds Tryd.pinned (OpenSpec.upto entryConnectsSpec)

/-- 'foyerlaw18.EntryOrder', WHERE WHAT IT READS IS OF BULK AT MOST 1048576: true; the input reads as it did. -/
def entryOrderUptoRow : OpenClaim := { program := "ytmhejcndkplepaadoor", sum := "8d0bf45785c365d1ca3edfc38e359e02258cee360a08352a2b09b46240a49041", func := "foyer/foyerlaw18.EntryOrder", spec := "entryOrder", inPlace := ["internal/bytealg.IndexByteString", "internal/bytealg.IndexString", "internal/abi.NoEscape", "internal/bytealg.MakeNoZero"], unfollowed := true, recurses := true, named := ["foyer/digest.hex", "internal/bytealg.MaxLen", "unicode/utf8.first", "unicode/utf8.acceptRanges", "internal/strconv.uint64pow10", "math/bits.deBruijn32tab", "math/bits.deBruijn64tab"], apart := false, laid := [("math/bits.deBruijn32tab", laid_math_bits_deBruijn32tab), ("math/bits.deBruijn64tab", laid_math_bits_deBruijn64tab), ("internal/strconv.uint64pow10", laid_internal_strconv_uint64pow10), ("unicode/utf8.acceptRanges", laid_unicode_utf8_acceptRanges), ("foyer/digest.hex", laid_foyer_digest_hex), ("unicode/utf8.first", laid_unicode_utf8_first)], narrowed := true }
def EntryOrderUptoSaid : Prop := entryOrderUptoRow.holds Tryd.pinned (OpenSpec.upto entryOrderSpec)

/-- 'foyerlaw18.EntryCommits', WHERE WHAT IT READS IS OF BULK AT MOST 1048576: true; the input reads as it did. -/
def entryCommitsUptoRow : OpenClaim := { program := "ytmhejcndkplepaadoor", sum := "8d0bf45785c365d1ca3edfc38e359e02258cee360a08352a2b09b46240a49041", func := "foyer/foyerlaw18.EntryCommits", spec := "entryCommits", inPlace := ["internal/bytealg.IndexByteString", "internal/bytealg.IndexString", "internal/abi.NoEscape", "internal/bytealg.MakeNoZero"], unfollowed := true, recurses := true, named := ["foyer/digest.hex", "internal/bytealg.MaxLen", "unicode/utf8.first", "unicode/utf8.acceptRanges", "internal/strconv.uint64pow10", "math/bits.deBruijn32tab", "math/bits.deBruijn64tab"], apart := false, laid := [("math/bits.deBruijn32tab", laid_math_bits_deBruijn32tab), ("math/bits.deBruijn64tab", laid_math_bits_deBruijn64tab), ("internal/strconv.uint64pow10", laid_internal_strconv_uint64pow10), ("unicode/utf8.acceptRanges", laid_unicode_utf8_acceptRanges), ("foyer/digest.hex", laid_foyer_digest_hex), ("unicode/utf8.first", laid_unicode_utf8_first)], narrowed := true }
def EntryCommitsUptoSaid : Prop := entryCommitsUptoRow.holds Tryd.pinned (OpenSpec.upto entryCommitsSpec)

end Rows
end Go.Proofs.YtmhejcndkplepaaDoor
