/-
  NARROWER THAN 'FOR EVERY INPUT', by the rows' own cells (each row's printed sentence says how): JournalReads: laid · JournalAppends: laid · JournalNone: laid · LoadUses: laid · LoadSkews: laid · LoadMakes: laid · LoadNone: laid.
  DERIVED. THE GIVEN ROWS OF THIS SEAT. 7 by the template 'for every input the law returns true; each argument reads behind the call as it read before'; 0 by the template 'total and deterministic' (their statements: YtbnfegcpnnokeaaGreatDoorTotals.lean).
  GIVEN WITH THE SEED: the statements are not yours to turn. If you find one false, say at which input.
  Laid BY PROGRAM, IN A SANDBOX (cutbox-rows.mjs): the forced cells as the released guide's own fill.sh prints them over the translation f73686e4b39f956c… (all of the seat's roots in one cut). By AI agents, Wed Nov 11 2026. No macro, syntax, notation, axiom, sorry.
-/
import Derived.Test.YtbnfegcpnnokeaaGreatDoorChecked
import GoSem.PinnedTables
import GoSem.Claim
import GoSem.ClaimJoined
import GoSem.ClaimMapViews
import Derived.JoinedTies
import Derived.KernelRfl
namespace Go.Proofs.YtbnfegcpnnokeaaGreatDoor
/- THE CELL 'sum', in the pinned program and in every row, IS THE sha256 OF THE DUMP (.gsa) THAT YtbnfegcpnnokeaaGreatDoorProg.lean LOADS. Nothing in Lean hashes anything: it is a label: what it is worth is what the hold of that sum in a sandbox is worth. -/
noncomputable def Tryz.pinned : Pinned := { name := "ytbnfegcpnnokeaagreatdoor", sum := "f73686e4b39f956c554cf0234ab89bd18498ea23619ab7901043f12d248a41bb", checked := Tryz.checked }
namespace Rows
def none {H : Type} : Left H := { results := [], args := [] }

/- WHAT THE LISTED PACKAGE-LEVEL VARIABLES READ AS WHEN THE CALL BEGINS. Each datum BY PROGRAM (the guide's laid-datum.mjs) off the statement by which the dump's own 'gosem.cut.vars' lays the variable. In a bare row this is a premise. The card (YtbnfegcpnnokeaaGreatDoorCards.lean) ties it to the program's text. -/
def laid_unicode_utf8_acceptRanges {H : Type} : DataW H := .agg [.agg [.lit (.int .u8 128), .lit (.int .u8 191)], .agg [.lit (.int .u8 160), .lit (.int .u8 191)], .agg [.lit (.int .u8 128), .lit (.int .u8 159)], .agg [.lit (.int .u8 144), .lit (.int .u8 191)], .agg [.lit (.int .u8 128), .lit (.int .u8 143)], .agg [.lit (.int .u8 0), .lit (.int .u8 0)], .agg [.lit (.int .u8 0), .lit (.int .u8 0)], .agg [.lit (.int .u8 0), .lit (.int .u8 0)], .agg [.lit (.int .u8 0), .lit (.int .u8 0)], .agg [.lit (.int .u8 0), .lit (.int .u8 0)], .agg [.lit (.int .u8 0), .lit (.int .u8 0)], .agg [.lit (.int .u8 0), .lit (.int .u8 0)], .agg [.lit (.int .u8 0), .lit (.int .u8 0)], .agg [.lit (.int .u8 0), .lit (.int .u8 0)], .agg [.lit (.int .u8 0), .lit (.int .u8 0)], .agg [.lit (.int .u8 0), .lit (.int .u8 0)]]
def laid_pannier_hash_small {H : Type} : DataW H := .agg [.lit (.int .u32 2166136261), .lit (.int .u32 16777619)]
def laid_pannier_client_rows {H : Type} : DataW H := .agg [.agg [.lit (.string []), .lit (.string [])], .agg [.lit (.string [97, 100, 100]), .lit (.string [107, 113, 105])], .agg [.lit (.string [115, 101, 116]), .lit (.string [107, 113, 105])], .agg [.lit (.string [114, 101, 109, 111, 118, 101]), .lit (.string [107, 105])], .agg [.lit (.string [103, 101, 116]), .lit (.string [107])], .agg [.lit (.string [99, 108, 101, 97, 114]), .lit (.string [107])], .agg [.lit (.string [119, 105, 115, 104]), .lit (.string [107, 111, 105])], .agg [.lit (.string [108, 111, 103, 105, 110]), .lit (.string [107, 111])], .agg [.lit (.string [100, 101, 108, 105, 118, 101, 114]), .lit (.string [100])], .agg [.lit (.string [109, 101, 114, 103, 101]), .lit (.string [])], .agg [.lit (.string [100, 114, 97, 105, 110]), .lit (.string [])], .agg [.lit (.string [99, 108, 111, 115, 101]), .lit (.string [])]]
/-- One of Go's own tables, pinned by name: the form's constant. -/
def laid_unicode_utf8_first : DataW Unit := Go.Pinned.utf8First
def laid_math_bits_deBruijn32tab {H : Type} : DataW H := .agg [.lit (.int .u8 0), .lit (.int .u8 1), .lit (.int .u8 28), .lit (.int .u8 2), .lit (.int .u8 29), .lit (.int .u8 14), .lit (.int .u8 24), .lit (.int .u8 3), .lit (.int .u8 30), .lit (.int .u8 22), .lit (.int .u8 20), .lit (.int .u8 15), .lit (.int .u8 25), .lit (.int .u8 17), .lit (.int .u8 4), .lit (.int .u8 8), .lit (.int .u8 31), .lit (.int .u8 27), .lit (.int .u8 13), .lit (.int .u8 23), .lit (.int .u8 21), .lit (.int .u8 19), .lit (.int .u8 16), .lit (.int .u8 7), .lit (.int .u8 26), .lit (.int .u8 12), .lit (.int .u8 18), .lit (.int .u8 6), .lit (.int .u8 11), .lit (.int .u8 5), .lit (.int .u8 10), .lit (.int .u8 9)]
def laid_math_bits_deBruijn64tab {H : Type} : DataW H := .agg [.lit (.int .u8 0), .lit (.int .u8 1), .lit (.int .u8 56), .lit (.int .u8 2), .lit (.int .u8 57), .lit (.int .u8 49), .lit (.int .u8 28), .lit (.int .u8 3), .lit (.int .u8 61), .lit (.int .u8 58), .lit (.int .u8 42), .lit (.int .u8 50), .lit (.int .u8 38), .lit (.int .u8 29), .lit (.int .u8 17), .lit (.int .u8 4), .lit (.int .u8 62), .lit (.int .u8 47), .lit (.int .u8 59), .lit (.int .u8 36), .lit (.int .u8 45), .lit (.int .u8 43), .lit (.int .u8 51), .lit (.int .u8 22), .lit (.int .u8 53), .lit (.int .u8 39), .lit (.int .u8 33), .lit (.int .u8 30), .lit (.int .u8 24), .lit (.int .u8 18), .lit (.int .u8 12), .lit (.int .u8 5), .lit (.int .u8 63), .lit (.int .u8 55), .lit (.int .u8 48), .lit (.int .u8 27), .lit (.int .u8 60), .lit (.int .u8 41), .lit (.int .u8 37), .lit (.int .u8 16), .lit (.int .u8 46), .lit (.int .u8 35), .lit (.int .u8 44), .lit (.int .u8 21), .lit (.int .u8 52), .lit (.int .u8 32), .lit (.int .u8 23), .lit (.int .u8 11), .lit (.int .u8 54), .lit (.int .u8 26), .lit (.int .u8 40), .lit (.int .u8 15), .lit (.int .u8 34), .lit (.int .u8 20), .lit (.int .u8 31), .lit (.int .u8 10), .lit (.int .u8 25), .lit (.int .u8 14), .lit (.int .u8 19), .lit (.int .u8 9), .lit (.int .u8 13), .lit (.int .u8 8), .lit (.int .u8 7), .lit (.int .u8 6)]
def laid_internal_strconv_uint64pow10 {H : Type} : DataW H := .agg [.lit (.int .u64 1), .lit (.int .u64 10), .lit (.int .u64 100), .lit (.int .u64 1000), .lit (.int .u64 10000), .lit (.int .u64 100000), .lit (.int .u64 1000000), .lit (.int .u64 10000000), .lit (.int .u64 100000000), .lit (.int .u64 1000000000), .lit (.int .u64 10000000000), .lit (.int .u64 100000000000), .lit (.int .u64 1000000000000), .lit (.int .u64 10000000000000), .lit (.int .u64 100000000000000), .lit (.int .u64 1000000000000000), .lit (.int .u64 10000000000000000), .lit (.int .u64 100000000000000000), .lit (.int .u64 1000000000000000000), .lit (.int .u64 10000000000000000000)]

/-- 'pannierlaw41.JournalReads': WHATEVER THE INPUT: true; the input reads as it did. -/
def journalReadsSpec : ChangeSpec := { name := "journalReads", fn := fun _ => fun
  | [d1, d2, d3, d4, d5] => { results := [.lit (.bool true)], args := [d1, d2, d3, d4, d5] }
  | _ => none }
def journalReadsRow : OpenClaim := { program := "ytbnfegcpnnokeaagreatdoor", sum := "f73686e4b39f956c554cf0234ab89bd18498ea23619ab7901043f12d248a41bb", func := "pannier/pannierlaw41.JournalReads", spec := "journalReads", inPlace := ["internal/bytealg.IndexByteString", "internal/bytealg.IndexString", "internal/bytealg.abigen_runtime_cmpstring", "slices.overlaps[string]"], unfollowed := true, recurses := true, named := ["pannier/client.rows", "internal/bytealg.MaxLen", "unicode/utf8.first", "unicode/utf8.acceptRanges", "pannier/hash.small"], apart := false, laid := [("unicode/utf8.acceptRanges", laid_unicode_utf8_acceptRanges), ("pannier/hash.small", laid_pannier_hash_small), ("pannier/client.rows", laid_pannier_client_rows), ("unicode/utf8.first", laid_unicode_utf8_first)] }
def JournalReadsSaid : Prop := journalReadsRow.holds Tryz.pinned (OpenSpec.ofChange journalReadsSpec)

/-- ITS FALSE NEIGHBOUR: 'it returns false'. Refute it at one input. -/
def journalReadsWrong : ChangeSpec := { name := "journalReads", fn := fun _ => fun
  | [d1, d2, d3, d4, d5] => { results := [.lit (.bool false)], args := [d1, d2, d3, d4, d5] }
  | _ => none }
def JournalReadsWrongFalsely : Prop := journalReadsRow.holds Tryz.pinned (OpenSpec.ofChange journalReadsWrong)

/-- 'pannierlaw41.JournalAppends': WHATEVER THE INPUT: true; the input reads as it did. -/
def journalAppendsSpec : ChangeSpec := { name := "journalAppends", fn := fun _ => fun
  | [d1, d2, d3, d4] => { results := [.lit (.bool true)], args := [d1, d2, d3, d4] }
  | _ => none }
def journalAppendsRow : OpenClaim := { program := "ytbnfegcpnnokeaagreatdoor", sum := "f73686e4b39f956c554cf0234ab89bd18498ea23619ab7901043f12d248a41bb", func := "pannier/pannierlaw41.JournalAppends", spec := "journalAppends", inPlace := ["internal/bytealg.IndexByteString", "internal/bytealg.IndexString", "internal/bytealg.abigen_runtime_cmpstring", "slices.overlaps[string]"], unfollowed := true, recurses := true, named := ["pannier/client.rows", "internal/bytealg.MaxLen", "unicode/utf8.first", "unicode/utf8.acceptRanges", "pannier/hash.small"], apart := false, laid := [("unicode/utf8.acceptRanges", laid_unicode_utf8_acceptRanges), ("pannier/hash.small", laid_pannier_hash_small), ("pannier/client.rows", laid_pannier_client_rows), ("unicode/utf8.first", laid_unicode_utf8_first)] }
def JournalAppendsSaid : Prop := journalAppendsRow.holds Tryz.pinned (OpenSpec.ofChange journalAppendsSpec)

/-- ITS FALSE NEIGHBOUR: 'it returns false'. Refute it at one input. -/
def journalAppendsWrong : ChangeSpec := { name := "journalAppends", fn := fun _ => fun
  | [d1, d2, d3, d4] => { results := [.lit (.bool false)], args := [d1, d2, d3, d4] }
  | _ => none }
def JournalAppendsWrongFalsely : Prop := journalAppendsRow.holds Tryz.pinned (OpenSpec.ofChange journalAppendsWrong)

/-- 'pannierlaw41.JournalNone': WHATEVER THE INPUT: true; the input reads as it did. -/
def journalNoneSpec : ChangeSpec := { name := "journalNone", fn := fun _ => fun
  | [d1, d2] => { results := [.lit (.bool true)], args := [d1, d2] }
  | _ => none }
def journalNoneRow : OpenClaim := { program := "ytbnfegcpnnokeaagreatdoor", sum := "f73686e4b39f956c554cf0234ab89bd18498ea23619ab7901043f12d248a41bb", func := "pannier/pannierlaw41.JournalNone", spec := "journalNone", inPlace := ["internal/bytealg.IndexByteString", "internal/bytealg.IndexString", "internal/bytealg.abigen_runtime_cmpstring", "slices.overlaps[string]"], unfollowed := true, recurses := true, named := ["pannier/client.rows", "internal/bytealg.MaxLen", "unicode/utf8.first", "unicode/utf8.acceptRanges", "pannier/hash.small"], apart := false, laid := [("unicode/utf8.acceptRanges", laid_unicode_utf8_acceptRanges), ("pannier/hash.small", laid_pannier_hash_small), ("pannier/client.rows", laid_pannier_client_rows), ("unicode/utf8.first", laid_unicode_utf8_first)] }
def JournalNoneSaid : Prop := journalNoneRow.holds Tryz.pinned (OpenSpec.ofChange journalNoneSpec)

/-- ITS FALSE NEIGHBOUR: 'it returns false'. Refute it at one input. -/
def journalNoneWrong : ChangeSpec := { name := "journalNone", fn := fun _ => fun
  | [d1, d2] => { results := [.lit (.bool false)], args := [d1, d2] }
  | _ => none }
def JournalNoneWrongFalsely : Prop := journalNoneRow.holds Tryz.pinned (OpenSpec.ofChange journalNoneWrong)

/-- 'pannierlaw51.LoadUses': WHATEVER THE INPUT: true; the input reads as it did. -/
def loadUsesSpec : ChangeSpec := { name := "loadUses", fn := fun _ => fun
  | [d1, d2] => { results := [.lit (.bool true)], args := [d1, d2] }
  | _ => none }
def loadUsesRow : OpenClaim := { program := "ytbnfegcpnnokeaagreatdoor", sum := "f73686e4b39f956c554cf0234ab89bd18498ea23619ab7901043f12d248a41bb", func := "pannier/pannierlaw51.LoadUses", spec := "loadUses", inPlace := ["internal/bytealg.IndexByteString", "internal/bytealg.IndexString", "internal/bytealg.abigen_runtime_cmpstring", "slices.overlaps[string]"], unfollowed := true, recurses := true, named := ["pannier/client.rows", "internal/bytealg.MaxLen", "pannier/hash.small", "unicode/utf8.first", "unicode/utf8.acceptRanges", "internal/strconv.uint64pow10", "math/bits.deBruijn32tab", "math/bits.deBruijn64tab"], apart := false, laid := [("math/bits.deBruijn32tab", laid_math_bits_deBruijn32tab), ("math/bits.deBruijn64tab", laid_math_bits_deBruijn64tab), ("internal/strconv.uint64pow10", laid_internal_strconv_uint64pow10), ("unicode/utf8.acceptRanges", laid_unicode_utf8_acceptRanges), ("pannier/hash.small", laid_pannier_hash_small), ("pannier/client.rows", laid_pannier_client_rows), ("unicode/utf8.first", laid_unicode_utf8_first)] }
def LoadUsesSaid : Prop := loadUsesRow.holds Tryz.pinned (OpenSpec.ofChange loadUsesSpec)

/-- ITS FALSE NEIGHBOUR: 'it returns false'. Refute it at one input. -/
def loadUsesWrong : ChangeSpec := { name := "loadUses", fn := fun _ => fun
  | [d1, d2] => { results := [.lit (.bool false)], args := [d1, d2] }
  | _ => none }
def LoadUsesWrongFalsely : Prop := loadUsesRow.holds Tryz.pinned (OpenSpec.ofChange loadUsesWrong)

/-- 'pannierlaw51.LoadSkews': WHATEVER THE INPUT: true; the input reads as it did. -/
def loadSkewsSpec : ChangeSpec := { name := "loadSkews", fn := fun _ => fun
  | [d] => { results := [.lit (.bool true)], args := [d] }
  | _ => none }
def loadSkewsRow : OpenClaim := { program := "ytbnfegcpnnokeaagreatdoor", sum := "f73686e4b39f956c554cf0234ab89bd18498ea23619ab7901043f12d248a41bb", func := "pannier/pannierlaw51.LoadSkews", spec := "loadSkews", inPlace := ["internal/bytealg.IndexByteString", "internal/bytealg.IndexString", "internal/bytealg.abigen_runtime_cmpstring", "slices.overlaps[string]"], unfollowed := true, recurses := true, named := ["pannier/client.rows", "internal/bytealg.MaxLen", "pannier/hash.small", "unicode/utf8.first", "unicode/utf8.acceptRanges", "internal/strconv.uint64pow10", "math/bits.deBruijn32tab", "math/bits.deBruijn64tab"], apart := false, laid := [("math/bits.deBruijn32tab", laid_math_bits_deBruijn32tab), ("math/bits.deBruijn64tab", laid_math_bits_deBruijn64tab), ("internal/strconv.uint64pow10", laid_internal_strconv_uint64pow10), ("unicode/utf8.acceptRanges", laid_unicode_utf8_acceptRanges), ("pannier/hash.small", laid_pannier_hash_small), ("pannier/client.rows", laid_pannier_client_rows), ("unicode/utf8.first", laid_unicode_utf8_first)] }
def LoadSkewsSaid : Prop := loadSkewsRow.holds Tryz.pinned (OpenSpec.ofChange loadSkewsSpec)

/-- ITS FALSE NEIGHBOUR: 'it returns false'. Refute it at one input. -/
def loadSkewsWrong : ChangeSpec := { name := "loadSkews", fn := fun _ => fun
  | [d] => { results := [.lit (.bool false)], args := [d] }
  | _ => none }
def LoadSkewsWrongFalsely : Prop := loadSkewsRow.holds Tryz.pinned (OpenSpec.ofChange loadSkewsWrong)

/-- 'pannierlaw51.LoadMakes': WHATEVER THE INPUT: true; the input reads as it did. -/
def loadMakesSpec : ChangeSpec := { name := "loadMakes", fn := fun _ => fun
  | [d1, d2, d3] => { results := [.lit (.bool true)], args := [d1, d2, d3] }
  | _ => none }
def loadMakesRow : OpenClaim := { program := "ytbnfegcpnnokeaagreatdoor", sum := "f73686e4b39f956c554cf0234ab89bd18498ea23619ab7901043f12d248a41bb", func := "pannier/pannierlaw51.LoadMakes", spec := "loadMakes", inPlace := ["internal/bytealg.IndexByteString", "internal/bytealg.IndexString", "internal/bytealg.abigen_runtime_cmpstring", "slices.overlaps[string]"], unfollowed := true, recurses := true, named := ["pannier/client.rows", "internal/bytealg.MaxLen", "pannier/hash.small", "unicode/utf8.first", "unicode/utf8.acceptRanges", "internal/strconv.uint64pow10", "math/bits.deBruijn32tab", "math/bits.deBruijn64tab"], apart := false, laid := [("math/bits.deBruijn32tab", laid_math_bits_deBruijn32tab), ("math/bits.deBruijn64tab", laid_math_bits_deBruijn64tab), ("internal/strconv.uint64pow10", laid_internal_strconv_uint64pow10), ("unicode/utf8.acceptRanges", laid_unicode_utf8_acceptRanges), ("pannier/hash.small", laid_pannier_hash_small), ("pannier/client.rows", laid_pannier_client_rows), ("unicode/utf8.first", laid_unicode_utf8_first)] }
def LoadMakesSaid : Prop := loadMakesRow.holds Tryz.pinned (OpenSpec.ofChange loadMakesSpec)

/-- ITS FALSE NEIGHBOUR: 'it returns false'. Refute it at one input. -/
def loadMakesWrong : ChangeSpec := { name := "loadMakes", fn := fun _ => fun
  | [d1, d2, d3] => { results := [.lit (.bool false)], args := [d1, d2, d3] }
  | _ => none }
def LoadMakesWrongFalsely : Prop := loadMakesRow.holds Tryz.pinned (OpenSpec.ofChange loadMakesWrong)

/-- 'pannierlaw51.LoadNone': WHATEVER THE INPUT: true; the input reads as it did. -/
def loadNoneSpec : ChangeSpec := { name := "loadNone", fn := fun _ => fun
  | [d] => { results := [.lit (.bool true)], args := [d] }
  | _ => none }
def loadNoneRow : OpenClaim := { program := "ytbnfegcpnnokeaagreatdoor", sum := "f73686e4b39f956c554cf0234ab89bd18498ea23619ab7901043f12d248a41bb", func := "pannier/pannierlaw51.LoadNone", spec := "loadNone", inPlace := ["internal/bytealg.IndexByteString", "internal/bytealg.IndexString", "internal/bytealg.abigen_runtime_cmpstring", "slices.overlaps[string]"], unfollowed := true, recurses := true, named := ["internal/strconv.uint64pow10", "math/bits.deBruijn32tab", "math/bits.deBruijn64tab", "pannier/client.rows", "internal/bytealg.MaxLen", "pannier/hash.small", "unicode/utf8.first", "unicode/utf8.acceptRanges"], apart := false, laid := [("math/bits.deBruijn32tab", laid_math_bits_deBruijn32tab), ("math/bits.deBruijn64tab", laid_math_bits_deBruijn64tab), ("internal/strconv.uint64pow10", laid_internal_strconv_uint64pow10), ("unicode/utf8.acceptRanges", laid_unicode_utf8_acceptRanges), ("pannier/hash.small", laid_pannier_hash_small), ("pannier/client.rows", laid_pannier_client_rows), ("unicode/utf8.first", laid_unicode_utf8_first)] }
def LoadNoneSaid : Prop := loadNoneRow.holds Tryz.pinned (OpenSpec.ofChange loadNoneSpec)

/-- ITS FALSE NEIGHBOUR: 'it returns false'. Refute it at one input. -/
def loadNoneWrong : ChangeSpec := { name := "loadNone", fn := fun _ => fun
  | [d] => { results := [.lit (.bool false)], args := [d] }
  | _ => none }
def LoadNoneWrongFalsely : Prop := loadNoneRow.holds Tryz.pinned (OpenSpec.ofChange loadNoneWrong)

/- THE SECOND FORM. 'bulk': how many values and letters a reading holds, each counted each time it is reached (what is shared counts as often as it is met; a slice's spare places count too). A statement '..UptoSaid' is the law's where the arguments, and the package variables that the reading takes, are together of bulk at most 1048576: NARROWER than '..Said'. Prove '..Said' where nothing that the law and all that it calls make is longer than what came in: it says more and counts as full. Else prove '..UptoSaid'. A law counts once. -/
mutual
def uptoBulk {H : Type} : DataW H → Nat
  | .lit (.string bytes) => bytes.length + 1
  | .lit _ => 1
  | .nil => 1
  | .ptr d => uptoBulk d + 1
  | .slice elems spare => uptoBulkAll elems + uptoBulkAll spare + 1
  | .agg parts => uptoBulkAll parts + 1
  | .iface _ d => uptoBulk d + 1
  | .map entries => uptoBulkEntries entries + 1
  | .held _ => 1
def uptoBulkAll {H : Type} : List (DataW H) → Nat
  | [] => 0
  | d :: r => uptoBulk d + uptoBulkAll r
def uptoBulkEntries {H : Type} : List (Lit × DataW H) → Nat
  | [] => 0
  | x :: r => uptoBulkEntry x + uptoBulkEntries r
def uptoBulkEntry {H : Type} : Lit × DataW H → Nat
  | (.string bytes, d) => bytes.length + uptoBulk d + 1
  | (_, d) => uptoBulk d + 1
 end
def uptoSmall : (H : Type) → List (DataW H) → Bool := fun _ ds => decide (uptoBulkAll ds ≤ 1048576)
def OpenSpec.upto (s : _root_.Go.ChangeSpec) : _root_.Go.OpenSpec := { _root_.Go.OpenSpec.ofChange s with cond := some uptoSmall }

/-- 'pannierlaw41.JournalReads', WHERE WHAT IT READS IS OF BULK AT MOST 1048576: true; the input reads as it did. -/
def journalReadsUptoRow : OpenClaim := { program := "ytbnfegcpnnokeaagreatdoor", sum := "f73686e4b39f956c554cf0234ab89bd18498ea23619ab7901043f12d248a41bb", func := "pannier/pannierlaw41.JournalReads", spec := "journalReads", inPlace := ["internal/bytealg.IndexByteString", "internal/bytealg.IndexString", "internal/bytealg.abigen_runtime_cmpstring", "slices.overlaps[string]"], unfollowed := true, recurses := true, named := ["pannier/client.rows", "internal/bytealg.MaxLen", "unicode/utf8.first", "unicode/utf8.acceptRanges", "pannier/hash.small"], apart := false, laid := [("unicode/utf8.acceptRanges", laid_unicode_utf8_acceptRanges), ("pannier/hash.small", laid_pannier_hash_small), ("pannier/client.rows", laid_pannier_client_rows), ("unicode/utf8.first", laid_unicode_utf8_first)], narrowed := true }
def JournalReadsUptoSaid : Prop := journalReadsUptoRow.holds Tryz.pinned (OpenSpec.upto journalReadsSpec)

/-- 'pannierlaw41.JournalAppends', WHERE WHAT IT READS IS OF BULK AT MOST 1048576: true; the input reads as it did. -/
def journalAppendsUptoRow : OpenClaim := { program := "ytbnfegcpnnokeaagreatdoor", sum := "f73686e4b39f956c554cf0234ab89bd18498ea23619ab7901043f12d248a41bb", func := "pannier/pannierlaw41.JournalAppends", spec := "journalAppends", inPlace := ["internal/bytealg.IndexByteString", "internal/bytealg.IndexString", "internal/bytealg.abigen_runtime_cmpstring", "slices.overlaps[string]"], unfollowed := true, recurses := true, named := ["pannier/client.rows", "internal/bytealg.MaxLen", "unicode/utf8.first", "unicode/utf8.acceptRanges", "pannier/hash.small"], apart := false, laid := [("unicode/utf8.acceptRanges", laid_unicode_utf8_acceptRanges), ("pannier/hash.small", laid_pannier_hash_small), ("pannier/client.rows", laid_pannier_client_rows), ("unicode/utf8.first", laid_unicode_utf8_first)], narrowed := true }
def JournalAppendsUptoSaid : Prop := journalAppendsUptoRow.holds Tryz.pinned (OpenSpec.upto journalAppendsSpec)

/-- 'pannierlaw41.JournalNone', WHERE WHAT IT READS IS OF BULK AT MOST 1048576: true; the input reads as it did. -/
def journalNoneUptoRow : OpenClaim := { program := "ytbnfegcpnnokeaagreatdoor", sum := "f73686e4b39f956c554cf0234ab89bd18498ea23619ab7901043f12d248a41bb", func := "pannier/pannierlaw41.JournalNone", spec := "journalNone", inPlace := ["internal/bytealg.IndexByteString", "internal/bytealg.IndexString", "internal/bytealg.abigen_runtime_cmpstring", "slices.overlaps[string]"], unfollowed := true, recurses := true, named := ["pannier/client.rows", "internal/bytealg.MaxLen", "unicode/utf8.first", "unicode/utf8.acceptRanges", "pannier/hash.small"], apart := false, laid := [("unicode/utf8.acceptRanges", laid_unicode_utf8_acceptRanges), ("pannier/hash.small", laid_pannier_hash_small), ("pannier/client.rows", laid_pannier_client_rows), ("unicode/utf8.first", laid_unicode_utf8_first)], narrowed := true }
def JournalNoneUptoSaid : Prop := journalNoneUptoRow.holds Tryz.pinned (OpenSpec.upto journalNoneSpec)

/-- 'pannierlaw51.LoadUses', WHERE WHAT IT READS IS OF BULK AT MOST 1048576: true; the input reads as it did. -/
def loadUsesUptoRow : OpenClaim := { program := "ytbnfegcpnnokeaagreatdoor", sum := "f73686e4b39f956c554cf0234ab89bd18498ea23619ab7901043f12d248a41bb", func := "pannier/pannierlaw51.LoadUses", spec := "loadUses", inPlace := ["internal/bytealg.IndexByteString", "internal/bytealg.IndexString", "internal/bytealg.abigen_runtime_cmpstring", "slices.overlaps[string]"], unfollowed := true, recurses := true, named := ["pannier/client.rows", "internal/bytealg.MaxLen", "pannier/hash.small", "unicode/utf8.first", "unicode/utf8.acceptRanges", "internal/strconv.uint64pow10", "math/bits.deBruijn32tab", "math/bits.deBruijn64tab"], apart := false, laid := [("math/bits.deBruijn32tab", laid_math_bits_deBruijn32tab), ("math/bits.deBruijn64tab", laid_math_bits_deBruijn64tab), ("internal/strconv.uint64pow10", laid_internal_strconv_uint64pow10), ("unicode/utf8.acceptRanges", laid_unicode_utf8_acceptRanges), ("pannier/hash.small", laid_pannier_hash_small), ("pannier/client.rows", laid_pannier_client_rows), ("unicode/utf8.first", laid_unicode_utf8_first)], narrowed := true }
def LoadUsesUptoSaid : Prop := loadUsesUptoRow.holds Tryz.pinned (OpenSpec.upto loadUsesSpec)

/-- 'pannierlaw51.LoadSkews', WHERE WHAT IT READS IS OF BULK AT MOST 1048576: true; the input reads as it did. -/
def loadSkewsUptoRow : OpenClaim := { program := "ytbnfegcpnnokeaagreatdoor", sum := "f73686e4b39f956c554cf0234ab89bd18498ea23619ab7901043f12d248a41bb", func := "pannier/pannierlaw51.LoadSkews", spec := "loadSkews", inPlace := ["internal/bytealg.IndexByteString", "internal/bytealg.IndexString", "internal/bytealg.abigen_runtime_cmpstring", "slices.overlaps[string]"], unfollowed := true, recurses := true, named := ["pannier/client.rows", "internal/bytealg.MaxLen", "pannier/hash.small", "unicode/utf8.first", "unicode/utf8.acceptRanges", "internal/strconv.uint64pow10", "math/bits.deBruijn32tab", "math/bits.deBruijn64tab"], apart := false, laid := [("math/bits.deBruijn32tab", laid_math_bits_deBruijn32tab), ("math/bits.deBruijn64tab", laid_math_bits_deBruijn64tab), ("internal/strconv.uint64pow10", laid_internal_strconv_uint64pow10), ("unicode/utf8.acceptRanges", laid_unicode_utf8_acceptRanges), ("pannier/hash.small", laid_pannier_hash_small), ("pannier/client.rows", laid_pannier_client_rows), ("unicode/utf8.first", laid_unicode_utf8_first)], narrowed := true }
def LoadSkewsUptoSaid : Prop := loadSkewsUptoRow.holds Tryz.pinned (OpenSpec.upto loadSkewsSpec)

/-- 'pannierlaw51.LoadMakes', WHERE WHAT IT READS IS OF BULK AT MOST 1048576: true; the input reads as it did. -/
def loadMakesUptoRow : OpenClaim := { program := "ytbnfegcpnnokeaagreatdoor", sum := "f73686e4b39f956c554cf0234ab89bd18498ea23619ab7901043f12d248a41bb", func := "pannier/pannierlaw51.LoadMakes", spec := "loadMakes", inPlace := ["internal/bytealg.IndexByteString", "internal/bytealg.IndexString", "internal/bytealg.abigen_runtime_cmpstring", "slices.overlaps[string]"], unfollowed := true, recurses := true, named := ["pannier/client.rows", "internal/bytealg.MaxLen", "pannier/hash.small", "unicode/utf8.first", "unicode/utf8.acceptRanges", "internal/strconv.uint64pow10", "math/bits.deBruijn32tab", "math/bits.deBruijn64tab"], apart := false, laid := [("math/bits.deBruijn32tab", laid_math_bits_deBruijn32tab), ("math/bits.deBruijn64tab", laid_math_bits_deBruijn64tab), ("internal/strconv.uint64pow10", laid_internal_strconv_uint64pow10), ("unicode/utf8.acceptRanges", laid_unicode_utf8_acceptRanges), ("pannier/hash.small", laid_pannier_hash_small), ("pannier/client.rows", laid_pannier_client_rows), ("unicode/utf8.first", laid_unicode_utf8_first)], narrowed := true }
def LoadMakesUptoSaid : Prop := loadMakesUptoRow.holds Tryz.pinned (OpenSpec.upto loadMakesSpec)

/-- 'pannierlaw51.LoadNone', WHERE WHAT IT READS IS OF BULK AT MOST 1048576: true; the input reads as it did. -/
def loadNoneUptoRow : OpenClaim := { program := "ytbnfegcpnnokeaagreatdoor", sum := "f73686e4b39f956c554cf0234ab89bd18498ea23619ab7901043f12d248a41bb", func := "pannier/pannierlaw51.LoadNone", spec := "loadNone", inPlace := ["internal/bytealg.IndexByteString", "internal/bytealg.IndexString", "internal/bytealg.abigen_runtime_cmpstring", "slices.overlaps[string]"], unfollowed := true, recurses := true, named := ["internal/strconv.uint64pow10", "math/bits.deBruijn32tab", "math/bits.deBruijn64tab", "pannier/client.rows", "internal/bytealg.MaxLen", "pannier/hash.small", "unicode/utf8.first", "unicode/utf8.acceptRanges"], apart := false, laid := [("math/bits.deBruijn32tab", laid_math_bits_deBruijn32tab), ("math/bits.deBruijn64tab", laid_math_bits_deBruijn64tab), ("internal/strconv.uint64pow10", laid_internal_strconv_uint64pow10), ("unicode/utf8.acceptRanges", laid_unicode_utf8_acceptRanges), ("pannier/hash.small", laid_pannier_hash_small), ("pannier/client.rows", laid_pannier_client_rows), ("unicode/utf8.first", laid_unicode_utf8_first)], narrowed := true }
def LoadNoneUptoSaid : Prop := loadNoneUptoRow.holds Tryz.pinned (OpenSpec.upto loadNoneSpec)

end Rows
end Go.Proofs.YtbnfegcpnnokeaaGreatDoor
