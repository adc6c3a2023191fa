/-
  NARROWER THAN 'FOR EVERY INPUT', by the rows' own cells (each row's printed sentence says how): RaceOf: laid · RaceChecks: laid · RaceOrders: laid · RaceLongs: laid · RaceLocked: laid · RaceHolds: laid · NamesKeys: laid · NamesBytes: laid · NamesQuotes: laid · NamesFields: laid · NamesHolds: laid.
  DERIVED. THE GIVEN ROWS OF THIS SEAT. 11 by the template 'for every input the law returns true; each argument reads behind the call as it read before'; 0 by the template 'total and deterministic' (their statements: YtahklchfchjmcaaDoorTotals.lean).
  GIVEN WITH THE SEED: the statements are not yours to turn. If you find one false, say at which input.
  Laid BY PROGRAM, IN A SANDBOX (cutbox-rows.mjs): the forced cells as the released guide's own fill.sh prints them over the translation 7b67cff7c2921215… (all of the seat's roots in one cut). By AI agents, Wed Nov 11 2026. No macro, syntax, notation, axiom, sorry.
-/
import Derived.Test.YtahklchfchjmcaaDoorChecked
import GoSem.PinnedTables
import GoSem.Claim
import GoSem.ClaimJoined
import GoSem.ClaimMapViews
import Derived.JoinedTies
import Derived.KernelRfl
namespace Go.Proofs.YtahklchfchjmcaaDoor
/- THE CELL 'sum', in the pinned program and in every row, IS THE sha256 OF THE DUMP (.gsa) THAT YtahklchfchjmcaaDoorProg.lean LOADS. Nothing in Lean hashes anything: it is a label: what it is worth is what the hold of that sum in a sandbox is worth. -/
noncomputable def Tryd.pinned : Pinned := { name := "ytahklchfchjmcaadoor", sum := "7b67cff7c29212159800a64c79863e1789e968edc7307be3a42319efc69b7e94", checked := Tryd.checked }
namespace Rows
def none {H : Type} : Left H := { results := [], args := [] }

/- WHAT THE LISTED PACKAGE-LEVEL VARIABLES READ AS WHEN THE CALL BEGINS. Each datum BY PROGRAM (the guide's laid-datum.mjs) off the statement by which the dump's own 'gosem.cut.vars' lays the variable. In a bare row this is a premise. The card (YtahklchfchjmcaaDoorCards.lean) ties it to the program's text. -/
def laid_math_bits_deBruijn32tab {H : Type} : DataW H := .agg [.lit (.int .u8 0), .lit (.int .u8 1), .lit (.int .u8 28), .lit (.int .u8 2), .lit (.int .u8 29), .lit (.int .u8 14), .lit (.int .u8 24), .lit (.int .u8 3), .lit (.int .u8 30), .lit (.int .u8 22), .lit (.int .u8 20), .lit (.int .u8 15), .lit (.int .u8 25), .lit (.int .u8 17), .lit (.int .u8 4), .lit (.int .u8 8), .lit (.int .u8 31), .lit (.int .u8 27), .lit (.int .u8 13), .lit (.int .u8 23), .lit (.int .u8 21), .lit (.int .u8 19), .lit (.int .u8 16), .lit (.int .u8 7), .lit (.int .u8 26), .lit (.int .u8 12), .lit (.int .u8 18), .lit (.int .u8 6), .lit (.int .u8 11), .lit (.int .u8 5), .lit (.int .u8 10), .lit (.int .u8 9)]
def laid_math_bits_deBruijn64tab {H : Type} : DataW H := .agg [.lit (.int .u8 0), .lit (.int .u8 1), .lit (.int .u8 56), .lit (.int .u8 2), .lit (.int .u8 57), .lit (.int .u8 49), .lit (.int .u8 28), .lit (.int .u8 3), .lit (.int .u8 61), .lit (.int .u8 58), .lit (.int .u8 42), .lit (.int .u8 50), .lit (.int .u8 38), .lit (.int .u8 29), .lit (.int .u8 17), .lit (.int .u8 4), .lit (.int .u8 62), .lit (.int .u8 47), .lit (.int .u8 59), .lit (.int .u8 36), .lit (.int .u8 45), .lit (.int .u8 43), .lit (.int .u8 51), .lit (.int .u8 22), .lit (.int .u8 53), .lit (.int .u8 39), .lit (.int .u8 33), .lit (.int .u8 30), .lit (.int .u8 24), .lit (.int .u8 18), .lit (.int .u8 12), .lit (.int .u8 5), .lit (.int .u8 63), .lit (.int .u8 55), .lit (.int .u8 48), .lit (.int .u8 27), .lit (.int .u8 60), .lit (.int .u8 41), .lit (.int .u8 37), .lit (.int .u8 16), .lit (.int .u8 46), .lit (.int .u8 35), .lit (.int .u8 44), .lit (.int .u8 21), .lit (.int .u8 52), .lit (.int .u8 32), .lit (.int .u8 23), .lit (.int .u8 11), .lit (.int .u8 54), .lit (.int .u8 26), .lit (.int .u8 40), .lit (.int .u8 15), .lit (.int .u8 34), .lit (.int .u8 20), .lit (.int .u8 31), .lit (.int .u8 10), .lit (.int .u8 25), .lit (.int .u8 14), .lit (.int .u8 19), .lit (.int .u8 9), .lit (.int .u8 13), .lit (.int .u8 8), .lit (.int .u8 7), .lit (.int .u8 6)]
def laid_internal_strconv_uint64pow10 {H : Type} : DataW H := .agg [.lit (.int .u64 1), .lit (.int .u64 10), .lit (.int .u64 100), .lit (.int .u64 1000), .lit (.int .u64 10000), .lit (.int .u64 100000), .lit (.int .u64 1000000), .lit (.int .u64 10000000), .lit (.int .u64 100000000), .lit (.int .u64 1000000000), .lit (.int .u64 10000000000), .lit (.int .u64 100000000000), .lit (.int .u64 1000000000000), .lit (.int .u64 10000000000000), .lit (.int .u64 100000000000000), .lit (.int .u64 1000000000000000), .lit (.int .u64 10000000000000000), .lit (.int .u64 100000000000000000), .lit (.int .u64 1000000000000000000), .lit (.int .u64 10000000000000000000)]
def laid_unicode_utf8_acceptRanges {H : Type} : DataW H := .agg [.agg [.lit (.int .u8 128), .lit (.int .u8 191)], .agg [.lit (.int .u8 160), .lit (.int .u8 191)], .agg [.lit (.int .u8 128), .lit (.int .u8 159)], .agg [.lit (.int .u8 144), .lit (.int .u8 191)], .agg [.lit (.int .u8 128), .lit (.int .u8 143)], .agg [.lit (.int .u8 0), .lit (.int .u8 0)], .agg [.lit (.int .u8 0), .lit (.int .u8 0)], .agg [.lit (.int .u8 0), .lit (.int .u8 0)], .agg [.lit (.int .u8 0), .lit (.int .u8 0)], .agg [.lit (.int .u8 0), .lit (.int .u8 0)], .agg [.lit (.int .u8 0), .lit (.int .u8 0)], .agg [.lit (.int .u8 0), .lit (.int .u8 0)], .agg [.lit (.int .u8 0), .lit (.int .u8 0)], .agg [.lit (.int .u8 0), .lit (.int .u8 0)], .agg [.lit (.int .u8 0), .lit (.int .u8 0)], .agg [.lit (.int .u8 0), .lit (.int .u8 0)]]
/-- One of Go's own tables, pinned by name: the form's constant. -/
def laid_unicode_utf8_first : DataW Unit := Go.Pinned.utf8First

/-- 'pannierlaw33.RaceOf': WHATEVER THE INPUT: true; the input reads as it did. -/
def raceOfSpec : ChangeSpec := { name := "raceOf", fn := fun _ => fun
  | [d1, d2] => { results := [.lit (.bool true)], args := [d1, d2] }
  | _ => none }
def raceOfRow : OpenClaim := { program := "ytahklchfchjmcaadoor", sum := "7b67cff7c29212159800a64c79863e1789e968edc7307be3a42319efc69b7e94", func := "pannier/pannierlaw33.RaceOf", spec := "raceOf", recurses := true, named := ["internal/strconv.uint64pow10", "math/bits.deBruijn32tab", "math/bits.deBruijn64tab"], apart := false, laid := [("math/bits.deBruijn32tab", laid_math_bits_deBruijn32tab), ("math/bits.deBruijn64tab", laid_math_bits_deBruijn64tab), ("internal/strconv.uint64pow10", laid_internal_strconv_uint64pow10)] }
def RaceOfSaid : Prop := raceOfRow.holds Tryd.pinned (OpenSpec.ofChange raceOfSpec)

/-- ITS FALSE NEIGHBOUR: 'it returns false'. Refute it at one input. -/
def raceOfWrong : ChangeSpec := { name := "raceOf", fn := fun _ => fun
  | [d1, d2] => { results := [.lit (.bool false)], args := [d1, d2] }
  | _ => none }
def RaceOfWrongFalsely : Prop := raceOfRow.holds Tryd.pinned (OpenSpec.ofChange raceOfWrong)

/-- 'pannierlaw33.RaceChecks': WHATEVER THE INPUT: true; the input reads as it did. -/
def raceChecksSpec : ChangeSpec := { name := "raceChecks", fn := fun _ => fun
  | [d] => { results := [.lit (.bool true)], args := [d] }
  | _ => none }
def raceChecksRow : OpenClaim := { program := "ytahklchfchjmcaadoor", sum := "7b67cff7c29212159800a64c79863e1789e968edc7307be3a42319efc69b7e94", func := "pannier/pannierlaw33.RaceChecks", spec := "raceChecks", named := ["internal/strconv.uint64pow10", "math/bits.deBruijn32tab", "math/bits.deBruijn64tab"], apart := false, laid := [("math/bits.deBruijn32tab", laid_math_bits_deBruijn32tab), ("math/bits.deBruijn64tab", laid_math_bits_deBruijn64tab), ("internal/strconv.uint64pow10", laid_internal_strconv_uint64pow10)] }
def RaceChecksSaid : Prop := raceChecksRow.holds Tryd.pinned (OpenSpec.ofChange raceChecksSpec)

/-- ITS FALSE NEIGHBOUR: 'it returns false'. Refute it at one input. -/
def raceChecksWrong : ChangeSpec := { name := "raceChecks", fn := fun _ => fun
  | [d] => { results := [.lit (.bool false)], args := [d] }
  | _ => none }
def RaceChecksWrongFalsely : Prop := raceChecksRow.holds Tryd.pinned (OpenSpec.ofChange raceChecksWrong)

/-- 'pannierlaw33.RaceOrders': WHATEVER THE INPUT: true; the input reads as it did. -/
def raceOrdersSpec : ChangeSpec := { name := "raceOrders", fn := fun _ => fun
  | [d1, d2, d3] => { results := [.lit (.bool true)], args := [d1, d2, d3] }
  | _ => none }
def raceOrdersRow : OpenClaim := { program := "ytahklchfchjmcaadoor", sum := "7b67cff7c29212159800a64c79863e1789e968edc7307be3a42319efc69b7e94", func := "pannier/pannierlaw33.RaceOrders", spec := "raceOrders", named := ["internal/strconv.uint64pow10", "math/bits.deBruijn32tab", "math/bits.deBruijn64tab"], apart := false, laid := [("math/bits.deBruijn32tab", laid_math_bits_deBruijn32tab), ("math/bits.deBruijn64tab", laid_math_bits_deBruijn64tab), ("internal/strconv.uint64pow10", laid_internal_strconv_uint64pow10)] }
def RaceOrdersSaid : Prop := raceOrdersRow.holds Tryd.pinned (OpenSpec.ofChange raceOrdersSpec)

/-- ITS FALSE NEIGHBOUR: 'it returns false'. Refute it at one input. -/
def raceOrdersWrong : ChangeSpec := { name := "raceOrders", fn := fun _ => fun
  | [d1, d2, d3] => { results := [.lit (.bool false)], args := [d1, d2, d3] }
  | _ => none }
def RaceOrdersWrongFalsely : Prop := raceOrdersRow.holds Tryd.pinned (OpenSpec.ofChange raceOrdersWrong)

/-- 'pannierlaw33.RaceLongs': WHATEVER THE INPUT: true; the input reads as it did. -/
def raceLongsSpec : ChangeSpec := { name := "raceLongs", fn := fun _ => fun
  | [d1, d2] => { results := [.lit (.bool true)], args := [d1, d2] }
  | _ => none }
def raceLongsRow : OpenClaim := { program := "ytahklchfchjmcaadoor", sum := "7b67cff7c29212159800a64c79863e1789e968edc7307be3a42319efc69b7e94", func := "pannier/pannierlaw33.RaceLongs", spec := "raceLongs", named := ["internal/strconv.uint64pow10", "math/bits.deBruijn32tab", "math/bits.deBruijn64tab"], apart := false, laid := [("math/bits.deBruijn32tab", laid_math_bits_deBruijn32tab), ("math/bits.deBruijn64tab", laid_math_bits_deBruijn64tab), ("internal/strconv.uint64pow10", laid_internal_strconv_uint64pow10)] }
def RaceLongsSaid : Prop := raceLongsRow.holds Tryd.pinned (OpenSpec.ofChange raceLongsSpec)

/-- ITS FALSE NEIGHBOUR: 'it returns false'. Refute it at one input. -/
def raceLongsWrong : ChangeSpec := { name := "raceLongs", fn := fun _ => fun
  | [d1, d2] => { results := [.lit (.bool false)], args := [d1, d2] }
  | _ => none }
def RaceLongsWrongFalsely : Prop := raceLongsRow.holds Tryd.pinned (OpenSpec.ofChange raceLongsWrong)

/-- 'pannierlaw33.RaceLocked': WHATEVER THE INPUT: true; the input reads as it did. -/
def raceLockedSpec : ChangeSpec := { name := "raceLocked", fn := fun _ => fun
  | [d1, d2] => { results := [.lit (.bool true)], args := [d1, d2] }
  | _ => none }
def raceLockedRow : OpenClaim := { program := "ytahklchfchjmcaadoor", sum := "7b67cff7c29212159800a64c79863e1789e968edc7307be3a42319efc69b7e94", func := "pannier/pannierlaw33.RaceLocked", spec := "raceLocked", named := ["internal/strconv.uint64pow10", "math/bits.deBruijn32tab", "math/bits.deBruijn64tab"], apart := false, laid := [("math/bits.deBruijn32tab", laid_math_bits_deBruijn32tab), ("math/bits.deBruijn64tab", laid_math_bits_deBruijn64tab), ("internal/strconv.uint64pow10", laid_internal_strconv_uint64pow10)] }
def RaceLockedSaid : Prop := raceLockedRow.holds Tryd.pinned (OpenSpec.ofChange raceLockedSpec)

/-- ITS FALSE NEIGHBOUR: 'it returns false'. Refute it at one input. -/
def raceLockedWrong : ChangeSpec := { name := "raceLocked", fn := fun _ => fun
  | [d1, d2] => { results := [.lit (.bool false)], args := [d1, d2] }
  | _ => none }
def RaceLockedWrongFalsely : Prop := raceLockedRow.holds Tryd.pinned (OpenSpec.ofChange raceLockedWrong)

/-- 'pannierlaw33.RaceHolds': WHATEVER THE INPUT: true; the input reads as it did. -/
def raceHoldsSpec : ChangeSpec := { name := "raceHolds", fn := fun _ => fun
  | [d] => { results := [.lit (.bool true)], args := [d] }
  | _ => none }
def raceHoldsRow : OpenClaim := { program := "ytahklchfchjmcaadoor", sum := "7b67cff7c29212159800a64c79863e1789e968edc7307be3a42319efc69b7e94", func := "pannier/pannierlaw33.RaceHolds", spec := "raceHolds", named := ["internal/strconv.uint64pow10", "math/bits.deBruijn32tab", "math/bits.deBruijn64tab"], apart := false, laid := [("math/bits.deBruijn32tab", laid_math_bits_deBruijn32tab), ("math/bits.deBruijn64tab", laid_math_bits_deBruijn64tab), ("internal/strconv.uint64pow10", laid_internal_strconv_uint64pow10)] }
def RaceHoldsSaid : Prop := raceHoldsRow.holds Tryd.pinned (OpenSpec.ofChange raceHoldsSpec)

/-- ITS FALSE NEIGHBOUR: 'it returns false'. Refute it at one input. -/
def raceHoldsWrong : ChangeSpec := { name := "raceHolds", fn := fun _ => fun
  | [d] => { results := [.lit (.bool false)], args := [d] }
  | _ => none }
def RaceHoldsWrongFalsely : Prop := raceHoldsRow.holds Tryd.pinned (OpenSpec.ofChange raceHoldsWrong)

/-- 'pannierlaw07.NamesKeys': WHATEVER THE INPUT: true; the input reads as it did. -/
def namesKeysSpec : ChangeSpec := { name := "namesKeys", fn := fun _ => fun
  | [d] => { results := [.lit (.bool true)], args := [d] }
  | _ => none }
def namesKeysRow : OpenClaim := { program := "ytahklchfchjmcaadoor", sum := "7b67cff7c29212159800a64c79863e1789e968edc7307be3a42319efc69b7e94", func := "pannier/pannierlaw07.NamesKeys", spec := "namesKeys", inPlace := ["internal/bytealg.IndexByteString", "internal/bytealg.IndexString", "internal/abi.NoEscape", "internal/bytealg.MakeNoZero"], unfollowed := true, recurses := true, named := ["unicode/utf8.first", "unicode/utf8.acceptRanges", "internal/bytealg.MaxLen"], apart := false, laid := [("unicode/utf8.acceptRanges", laid_unicode_utf8_acceptRanges), ("unicode/utf8.first", laid_unicode_utf8_first)] }
def NamesKeysSaid : Prop := namesKeysRow.holds Tryd.pinned (OpenSpec.ofChange namesKeysSpec)

/-- ITS FALSE NEIGHBOUR: 'it returns false'. Refute it at one input. -/
def namesKeysWrong : ChangeSpec := { name := "namesKeys", fn := fun _ => fun
  | [d] => { results := [.lit (.bool false)], args := [d] }
  | _ => none }
def NamesKeysWrongFalsely : Prop := namesKeysRow.holds Tryd.pinned (OpenSpec.ofChange namesKeysWrong)

/-- 'pannierlaw07.NamesBytes': WHATEVER THE INPUT: true; the input reads as it did. -/
def namesBytesSpec : ChangeSpec := { name := "namesBytes", fn := fun _ => fun
  | [d] => { results := [.lit (.bool true)], args := [d] }
  | _ => none }
def namesBytesRow : OpenClaim := { program := "ytahklchfchjmcaadoor", sum := "7b67cff7c29212159800a64c79863e1789e968edc7307be3a42319efc69b7e94", func := "pannier/pannierlaw07.NamesBytes", spec := "namesBytes", inPlace := ["internal/bytealg.IndexByteString", "internal/bytealg.IndexString", "internal/abi.NoEscape", "internal/bytealg.MakeNoZero"], unfollowed := true, recurses := true, named := ["unicode/utf8.first", "unicode/utf8.acceptRanges", "internal/bytealg.MaxLen"], apart := false, laid := [("unicode/utf8.acceptRanges", laid_unicode_utf8_acceptRanges), ("unicode/utf8.first", laid_unicode_utf8_first)] }
def NamesBytesSaid : Prop := namesBytesRow.holds Tryd.pinned (OpenSpec.ofChange namesBytesSpec)

/-- ITS FALSE NEIGHBOUR: 'it returns false'. Refute it at one input. -/
def namesBytesWrong : ChangeSpec := { name := "namesBytes", fn := fun _ => fun
  | [d] => { results := [.lit (.bool false)], args := [d] }
  | _ => none }
def NamesBytesWrongFalsely : Prop := namesBytesRow.holds Tryd.pinned (OpenSpec.ofChange namesBytesWrong)

/-- 'pannierlaw07.NamesQuotes': WHATEVER THE INPUT: true; the input reads as it did. -/
def namesQuotesSpec : ChangeSpec := { name := "namesQuotes", fn := fun _ => fun
  | [d1, d2] => { results := [.lit (.bool true)], args := [d1, d2] }
  | _ => none }
def namesQuotesRow : OpenClaim := { program := "ytahklchfchjmcaadoor", sum := "7b67cff7c29212159800a64c79863e1789e968edc7307be3a42319efc69b7e94", func := "pannier/pannierlaw07.NamesQuotes", spec := "namesQuotes", inPlace := ["internal/bytealg.IndexByteString", "internal/bytealg.IndexString", "internal/abi.NoEscape", "internal/bytealg.MakeNoZero"], unfollowed := true, recurses := true, named := ["unicode/utf8.first", "unicode/utf8.acceptRanges", "internal/bytealg.MaxLen"], apart := false, laid := [("unicode/utf8.acceptRanges", laid_unicode_utf8_acceptRanges), ("unicode/utf8.first", laid_unicode_utf8_first)] }
def NamesQuotesSaid : Prop := namesQuotesRow.holds Tryd.pinned (OpenSpec.ofChange namesQuotesSpec)

/-- ITS FALSE NEIGHBOUR: 'it returns false'. Refute it at one input. -/
def namesQuotesWrong : ChangeSpec := { name := "namesQuotes", fn := fun _ => fun
  | [d1, d2] => { results := [.lit (.bool false)], args := [d1, d2] }
  | _ => none }
def NamesQuotesWrongFalsely : Prop := namesQuotesRow.holds Tryd.pinned (OpenSpec.ofChange namesQuotesWrong)

/-- 'pannierlaw07.NamesFields': WHATEVER THE INPUT: true; the input reads as it did. -/
def namesFieldsSpec : ChangeSpec := { name := "namesFields", fn := fun _ => fun
  | [d] => { results := [.lit (.bool true)], args := [d] }
  | _ => none }
def namesFieldsRow : OpenClaim := { program := "ytahklchfchjmcaadoor", sum := "7b67cff7c29212159800a64c79863e1789e968edc7307be3a42319efc69b7e94", func := "pannier/pannierlaw07.NamesFields", spec := "namesFields", inPlace := ["internal/bytealg.IndexByteString", "internal/bytealg.IndexString", "internal/abi.NoEscape", "internal/bytealg.MakeNoZero"], unfollowed := true, recurses := true, named := ["unicode/utf8.first", "unicode/utf8.acceptRanges", "internal/bytealg.MaxLen"], apart := false, laid := [("unicode/utf8.acceptRanges", laid_unicode_utf8_acceptRanges), ("unicode/utf8.first", laid_unicode_utf8_first)] }
def NamesFieldsSaid : Prop := namesFieldsRow.holds Tryd.pinned (OpenSpec.ofChange namesFieldsSpec)

/-- ITS FALSE NEIGHBOUR: 'it returns false'. Refute it at one input. -/
def namesFieldsWrong : ChangeSpec := { name := "namesFields", fn := fun _ => fun
  | [d] => { results := [.lit (.bool false)], args := [d] }
  | _ => none }
def NamesFieldsWrongFalsely : Prop := namesFieldsRow.holds Tryd.pinned (OpenSpec.ofChange namesFieldsWrong)

/-- 'pannierlaw07.NamesHolds': WHATEVER THE INPUT: true; the input reads as it did. -/
def namesHoldsSpec : ChangeSpec := { name := "namesHolds", fn := fun _ => fun
  | [d1, d2] => { results := [.lit (.bool true)], args := [d1, d2] }
  | _ => none }
def namesHoldsRow : OpenClaim := { program := "ytahklchfchjmcaadoor", sum := "7b67cff7c29212159800a64c79863e1789e968edc7307be3a42319efc69b7e94", func := "pannier/pannierlaw07.NamesHolds", spec := "namesHolds", inPlace := ["internal/bytealg.IndexByteString", "internal/bytealg.IndexString", "internal/abi.NoEscape", "internal/bytealg.MakeNoZero"], unfollowed := true, recurses := true, named := ["unicode/utf8.first", "unicode/utf8.acceptRanges", "internal/bytealg.MaxLen"], apart := false, laid := [("unicode/utf8.acceptRanges", laid_unicode_utf8_acceptRanges), ("unicode/utf8.first", laid_unicode_utf8_first)] }
def NamesHoldsSaid : Prop := namesHoldsRow.holds Tryd.pinned (OpenSpec.ofChange namesHoldsSpec)

/-- ITS FALSE NEIGHBOUR: 'it returns false'. Refute it at one input. -/
def namesHoldsWrong : ChangeSpec := { name := "namesHolds", fn := fun _ => fun
  | [d1, d2] => { results := [.lit (.bool false)], args := [d1, d2] }
  | _ => none }
def NamesHoldsWrongFalsely : Prop := namesHoldsRow.holds Tryd.pinned (OpenSpec.ofChange namesHoldsWrong)

/- THE SECOND FORM. 'bulk': how many values and letters a reading holds, each counted each time it is reached (what is shared counts as often as it is met; a slice's spare places count too). A statement '..UptoSaid' is the law's where the arguments, and the package variables that the reading takes, are together of bulk at most 1048576: NARROWER than '..Said'. Prove '..Said' where nothing that the law and all that it calls make is longer than what came in: it says more and counts as full. Else prove '..UptoSaid'. A law counts once. -/
mutual
def uptoBulk {H : Type} : DataW H → Nat
  | .lit (.string bytes) => bytes.length + 1
  | .lit _ => 1
  | .nil => 1
  | .ptr d => uptoBulk d + 1
  | .slice elems spare => uptoBulkAll elems + uptoBulkAll spare + 1
  | .agg parts => uptoBulkAll parts + 1
  | .iface _ d => uptoBulk d + 1
  | .map entries => uptoBulkEntries entries + 1
  | .held _ => 1
def uptoBulkAll {H : Type} : List (DataW H) → Nat
  | [] => 0
  | d :: r => uptoBulk d + uptoBulkAll r
def uptoBulkEntries {H : Type} : List (Lit × DataW H) → Nat
  | [] => 0
  | x :: r => uptoBulkEntry x + uptoBulkEntries r
def uptoBulkEntry {H : Type} : Lit × DataW H → Nat
  | (.string bytes, d) => bytes.length + uptoBulk d + 1
  | (_, d) => uptoBulk d + 1
 end
def uptoSmall : (H : Type) → List (DataW H) → Bool := fun _ ds => decide (uptoBulkAll ds ≤ 1048576)
def OpenSpec.upto (s : _root_.Go.ChangeSpec) : _root_.Go.OpenSpec := { _root_.Go.OpenSpec.ofChange s with cond := some uptoSmall }

/-- 'pannierlaw33.RaceOf', WHERE WHAT IT READS IS OF BULK AT MOST 1048576: true; the input reads as it did. -/
def raceOfUptoRow : OpenClaim := { program := "ytahklchfchjmcaadoor", sum := "7b67cff7c29212159800a64c79863e1789e968edc7307be3a42319efc69b7e94", func := "pannier/pannierlaw33.RaceOf", spec := "raceOf", recurses := true, named := ["internal/strconv.uint64pow10", "math/bits.deBruijn32tab", "math/bits.deBruijn64tab"], apart := false, laid := [("math/bits.deBruijn32tab", laid_math_bits_deBruijn32tab), ("math/bits.deBruijn64tab", laid_math_bits_deBruijn64tab), ("internal/strconv.uint64pow10", laid_internal_strconv_uint64pow10)], narrowed := true }
def RaceOfUptoSaid : Prop := raceOfUptoRow.holds Tryd.pinned (OpenSpec.upto raceOfSpec)

/-- 'pannierlaw33.RaceChecks', WHERE WHAT IT READS IS OF BULK AT MOST 1048576: true; the input reads as it did. -/
def raceChecksUptoRow : OpenClaim := { program := "ytahklchfchjmcaadoor", sum := "7b67cff7c29212159800a64c79863e1789e968edc7307be3a42319efc69b7e94", func := "pannier/pannierlaw33.RaceChecks", spec := "raceChecks", named := ["internal/strconv.uint64pow10", "math/bits.deBruijn32tab", "math/bits.deBruijn64tab"], apart := false, laid := [("math/bits.deBruijn32tab", laid_math_bits_deBruijn32tab), ("math/bits.deBruijn64tab", laid_math_bits_deBruijn64tab), ("internal/strconv.uint64pow10", laid_internal_strconv_uint64pow10)], narrowed := true }
def RaceChecksUptoSaid : Prop := raceChecksUptoRow.holds Tryd.pinned (OpenSpec.upto raceChecksSpec)

/-- 'pannierlaw33.RaceOrders', WHERE WHAT IT READS IS OF BULK AT MOST 1048576: true; the input reads as it did. -/
def raceOrdersUptoRow : OpenClaim := { program := "ytahklchfchjmcaadoor", sum := "7b67cff7c29212159800a64c79863e1789e968edc7307be3a42319efc69b7e94", func := "pannier/pannierlaw33.RaceOrders", spec := "raceOrders", named := ["internal/strconv.uint64pow10", "math/bits.deBruijn32tab", "math/bits.deBruijn64tab"], apart := false, laid := [("math/bits.deBruijn32tab", laid_math_bits_deBruijn32tab), ("math/bits.deBruijn64tab", laid_math_bits_deBruijn64tab), ("internal/strconv.uint64pow10", laid_internal_strconv_uint64pow10)], narrowed := true }
def RaceOrdersUptoSaid : Prop := raceOrdersUptoRow.holds Tryd.pinned (OpenSpec.upto raceOrdersSpec)

/-- 'pannierlaw33.RaceLongs', WHERE WHAT IT READS IS OF BULK AT MOST 1048576: true; the input reads as it did. -/
def raceLongsUptoRow : OpenClaim := { program := "ytahklchfchjmcaadoor", sum := "7b67cff7c29212159800a64c79863e1789e968edc7307be3a42319efc69b7e94", func := "pannier/pannierlaw33.RaceLongs", spec := "raceLongs", named := ["internal/strconv.uint64pow10", "math/bits.deBruijn32tab", "math/bits.deBruijn64tab"], apart := false, laid := [("math/bits.deBruijn32tab", laid_math_bits_deBruijn32tab), ("math/bits.deBruijn64tab", laid_math_bits_deBruijn64tab), ("internal/strconv.uint64pow10", laid_internal_strconv_uint64pow10)], narrowed := true }
def RaceLongsUptoSaid : Prop := raceLongsUptoRow.holds Tryd.pinned (OpenSpec.upto raceLongsSpec)

/-- 'pannierlaw33.RaceLocked', WHERE WHAT IT READS IS OF BULK AT MOST 1048576: true; the input reads as it did. -/
def raceLockedUptoRow : OpenClaim := { program := "ytahklchfchjmcaadoor", sum := "7b67cff7c29212159800a64c79863e1789e968edc7307be3a42319efc69b7e94", func := "pannier/pannierlaw33.RaceLocked", spec := "raceLocked", named := ["internal/strconv.uint64pow10", "math/bits.deBruijn32tab", "math/bits.deBruijn64tab"], apart := false, laid := [("math/bits.deBruijn32tab", laid_math_bits_deBruijn32tab), ("math/bits.deBruijn64tab", laid_math_bits_deBruijn64tab), ("internal/strconv.uint64pow10", laid_internal_strconv_uint64pow10)], narrowed := true }
def RaceLockedUptoSaid : Prop := raceLockedUptoRow.holds Tryd.pinned (OpenSpec.upto raceLockedSpec)

/-- 'pannierlaw33.RaceHolds', WHERE WHAT IT READS IS OF BULK AT MOST 1048576: true; the input reads as it did. -/
def raceHoldsUptoRow : OpenClaim := { program := "ytahklchfchjmcaadoor", sum := "7b67cff7c29212159800a64c79863e1789e968edc7307be3a42319efc69b7e94", func := "pannier/pannierlaw33.RaceHolds", spec := "raceHolds", named := ["internal/strconv.uint64pow10", "math/bits.deBruijn32tab", "math/bits.deBruijn64tab"], apart := false, laid := [("math/bits.deBruijn32tab", laid_math_bits_deBruijn32tab), ("math/bits.deBruijn64tab", laid_math_bits_deBruijn64tab), ("internal/strconv.uint64pow10", laid_internal_strconv_uint64pow10)], narrowed := true }
def RaceHoldsUptoSaid : Prop := raceHoldsUptoRow.holds Tryd.pinned (OpenSpec.upto raceHoldsSpec)

/-- 'pannierlaw07.NamesKeys', WHERE WHAT IT READS IS OF BULK AT MOST 1048576: true; the input reads as it did. -/
def namesKeysUptoRow : OpenClaim := { program := "ytahklchfchjmcaadoor", sum := "7b67cff7c29212159800a64c79863e1789e968edc7307be3a42319efc69b7e94", func := "pannier/pannierlaw07.NamesKeys", spec := "namesKeys", inPlace := ["internal/bytealg.IndexByteString", "internal/bytealg.IndexString", "internal/abi.NoEscape", "internal/bytealg.MakeNoZero"], unfollowed := true, recurses := true, named := ["unicode/utf8.first", "unicode/utf8.acceptRanges", "internal/bytealg.MaxLen"], apart := false, laid := [("unicode/utf8.acceptRanges", laid_unicode_utf8_acceptRanges), ("unicode/utf8.first", laid_unicode_utf8_first)], narrowed := true }
def NamesKeysUptoSaid : Prop := namesKeysUptoRow.holds Tryd.pinned (OpenSpec.upto namesKeysSpec)

/-- 'pannierlaw07.NamesBytes', WHERE WHAT IT READS IS OF BULK AT MOST 1048576: true; the input reads as it did. -/
def namesBytesUptoRow : OpenClaim := { program := "ytahklchfchjmcaadoor", sum := "7b67cff7c29212159800a64c79863e1789e968edc7307be3a42319efc69b7e94", func := "pannier/pannierlaw07.NamesBytes", spec := "namesBytes", inPlace := ["internal/bytealg.IndexByteString", "internal/bytealg.IndexString", "internal/abi.NoEscape", "internal/bytealg.MakeNoZero"], unfollowed := true, recurses := true, named := ["unicode/utf8.first", "unicode/utf8.acceptRanges", "internal/bytealg.MaxLen"], apart := false, laid := [("unicode/utf8.acceptRanges", laid_unicode_utf8_acceptRanges), ("unicode/utf8.first", laid_unicode_utf8_first)], narrowed := true }
def NamesBytesUptoSaid : Prop := namesBytesUptoRow.holds Tryd.pinned (OpenSpec.upto namesBytesSpec)

/-- 'pannierlaw07.NamesQuotes', WHERE WHAT IT READS IS OF BULK AT MOST 1048576: true; the input reads as it did. -/
def namesQuotesUptoRow : OpenClaim := { program := "ytahklchfchjmcaadoor", sum := "7b67cff7c29212159800a64c79863e1789e968edc7307be3a42319efc69b7e94", func := "pannier/pannierlaw07.NamesQuotes", spec := "namesQuotes", inPlace := ["internal/bytealg.IndexByteString", "internal/bytealg.IndexString", "internal/abi.NoEscape", "internal/bytealg.MakeNoZero"], unfollowed := true, recurses := true, named := ["unicode/utf8.first", "unicode/utf8.acceptRanges", "internal/bytealg.MaxLen"], apart := false, laid := [("unicode/utf8.acceptRanges", laid_unicode_utf8_acceptRanges), ("unicode/utf8.first", laid_unicode_utf8_first)], narrowed := true }
def NamesQuotesUptoSaid : Prop := namesQuotesUptoRow.holds Tryd.pinned (OpenSpec.upto namesQuotesSpec)

/-- 'pannierlaw07.NamesFields', WHERE WHAT IT READS IS OF BULK AT MOST 1048576: true; the input reads as it did. -/
def namesFieldsUptoRow : OpenClaim := { program := "ytahklchfchjmcaadoor", sum := "7b67cff7c29212159800a64c79863e1789e968edc7307be3a42319efc69b7e94", func := "pannier/pannierlaw07.NamesFields", spec := "namesFields", inPlace := ["internal/bytealg.IndexByteString", "internal/bytealg.IndexString", "internal/abi.NoEscape", "internal/bytealg.MakeNoZero"], unfollowed := true, recurses := true, named := ["unicode/utf8.first", "unicode/utf8.acceptRanges", "internal/bytealg.MaxLen"], apart := false, laid := [("unicode/utf8.acceptRanges", laid_unicode_utf8_acceptRanges), ("unicode/utf8.first", laid_unicode_utf8_first)], narrowed := true }
def NamesFieldsUptoSaid : Prop := namesFieldsUptoRow.holds Tryd.pinned (OpenSpec.upto namesFieldsSpec)

/-- 'pannierlaw07.NamesHolds', WHERE WHAT IT READS IS OF BULK AT MOST 1048576: true; the input reads as it did. -/
def namesHoldsUptoRow : OpenClaim := { program := "ytahklchfchjmcaadoor", sum := "7b67cff7c29212159800a64c79863e1789e968edc7307be3a42319efc69b7e94", func := "pannier/pannierlaw07.NamesHolds", spec := "namesHolds", inPlace := ["internal/bytealg.IndexByteString", "internal/bytealg.IndexString", "internal/abi.NoEscape", "internal/bytealg.MakeNoZero"], unfollowed := true, recurses := true, named := ["unicode/utf8.first", "unicode/utf8.acceptRanges", "internal/bytealg.MaxLen"], apart := false, laid := [("unicode/utf8.acceptRanges", laid_unicode_utf8_acceptRanges), ("unicode/utf8.first", laid_unicode_utf8_first)], narrowed := true }
def NamesHoldsUptoSaid : Prop := namesHoldsUptoRow.holds Tryd.pinned (OpenSpec.upto namesHoldsSpec)

end Rows
end Go.Proofs.YtahklchfchjmcaaDoor
