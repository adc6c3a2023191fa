/-
  NARROWER THAN 'FOR EVERY INPUT', by the rows' own cells (each row's printed sentence says how): LoadUses: laid · LoadSkews: laid · LoadTallies: laid · LoadLongs: laid · LoadHolds: laid · LoadMakes: laid.
  DERIVED. THE GIVEN ROWS OF THIS SEAT. 6 by the template 'for every input the law returns true; each argument reads behind the call as it read before'; 0 by the template 'total and deterministic' (their statements: YtecnchmcdbcofaaGreatDoorTotals.lean).
  GIVEN WITH THE SEED: the statements are not yours to turn. If you find one false, say at which input.
  Laid BY PROGRAM, IN A SANDBOX (cutbox-rows.mjs): the forced cells as the released guide's own fill.sh prints them over the translation 9f018fcc0c7e0ac2… (all of the seat's roots in one cut). By AI agents, Wed Nov 11 2026. No macro, syntax, notation, axiom, sorry.
-/
import Derived.Test.YtecnchmcdbcofaaGreatDoorChecked
import GoSem.PinnedTables
import GoSem.Claim
import GoSem.ClaimJoined
import GoSem.ClaimMapViews
import Derived.JoinedTies
import Derived.KernelRfl
namespace Go.Proofs.YtecnchmcdbcofaaGreatDoor
/- THE CELL 'sum', in the pinned program and in every row, IS THE sha256 OF THE DUMP (.gsa) THAT YtecnchmcdbcofaaGreatDoorProg.lean LOADS. Nothing in Lean hashes anything: it is a label: what it is worth is what the hold of that sum in a sandbox is worth. -/
noncomputable def Tryz.pinned : Pinned := { name := "ytecnchmcdbcofaagreatdoor", sum := "9f018fcc0c7e0ac290a7a8fbbe965171f88c87076720afe2ecede13fcd32a2b5", checked := Tryz.checked }
namespace Rows
def none {H : Type} : Left H := { results := [], args := [] }

/- WHAT THE LISTED PACKAGE-LEVEL VARIABLES READ AS WHEN THE CALL BEGINS. Each datum BY PROGRAM (the guide's laid-datum.mjs) off the statement by which the dump's own 'gosem.cut.vars' lays the variable. In a bare row this is a premise. The card (YtecnchmcdbcofaaGreatDoorCards.lean) ties it to the program's text. -/
def laid_math_bits_deBruijn32tab {H : Type} : DataW H := .agg [.lit (.int .u8 0), .lit (.int .u8 1), .lit (.int .u8 28), .lit (.int .u8 2), .lit (.int .u8 29), .lit (.int .u8 14), .lit (.int .u8 24), .lit (.int .u8 3), .lit (.int .u8 30), .lit (.int .u8 22), .lit (.int .u8 20), .lit (.int .u8 15), .lit (.int .u8 25), .lit (.int .u8 17), .lit (.int .u8 4), .lit (.int .u8 8), .lit (.int .u8 31), .lit (.int .u8 27), .lit (.int .u8 13), .lit (.int .u8 23), .lit (.int .u8 21), .lit (.int .u8 19), .lit (.int .u8 16), .lit (.int .u8 7), .lit (.int .u8 26), .lit (.int .u8 12), .lit (.int .u8 18), .lit (.int .u8 6), .lit (.int .u8 11), .lit (.int .u8 5), .lit (.int .u8 10), .lit (.int .u8 9)]
def laid_math_bits_deBruijn64tab {H : Type} : DataW H := .agg [.lit (.int .u8 0), .lit (.int .u8 1), .lit (.int .u8 56), .lit (.int .u8 2), .lit (.int .u8 57), .lit (.int .u8 49), .lit (.int .u8 28), .lit (.int .u8 3), .lit (.int .u8 61), .lit (.int .u8 58), .lit (.int .u8 42), .lit (.int .u8 50), .lit (.int .u8 38), .lit (.int .u8 29), .lit (.int .u8 17), .lit (.int .u8 4), .lit (.int .u8 62), .lit (.int .u8 47), .lit (.int .u8 59), .lit (.int .u8 36), .lit (.int .u8 45), .lit (.int .u8 43), .lit (.int .u8 51), .lit (.int .u8 22), .lit (.int .u8 53), .lit (.int .u8 39), .lit (.int .u8 33), .lit (.int .u8 30), .lit (.int .u8 24), .lit (.int .u8 18), .lit (.int .u8 12), .lit (.int .u8 5), .lit (.int .u8 63), .lit (.int .u8 55), .lit (.int .u8 48), .lit (.int .u8 27), .lit (.int .u8 60), .lit (.int .u8 41), .lit (.int .u8 37), .lit (.int .u8 16), .lit (.int .u8 46), .lit (.int .u8 35), .lit (.int .u8 44), .lit (.int .u8 21), .lit (.int .u8 52), .lit (.int .u8 32), .lit (.int .u8 23), .lit (.int .u8 11), .lit (.int .u8 54), .lit (.int .u8 26), .lit (.int .u8 40), .lit (.int .u8 15), .lit (.int .u8 34), .lit (.int .u8 20), .lit (.int .u8 31), .lit (.int .u8 10), .lit (.int .u8 25), .lit (.int .u8 14), .lit (.int .u8 19), .lit (.int .u8 9), .lit (.int .u8 13), .lit (.int .u8 8), .lit (.int .u8 7), .lit (.int .u8 6)]
def laid_internal_strconv_uint64pow10 {H : Type} : DataW H := .agg [.lit (.int .u64 1), .lit (.int .u64 10), .lit (.int .u64 100), .lit (.int .u64 1000), .lit (.int .u64 10000), .lit (.int .u64 100000), .lit (.int .u64 1000000), .lit (.int .u64 10000000), .lit (.int .u64 100000000), .lit (.int .u64 1000000000), .lit (.int .u64 10000000000), .lit (.int .u64 100000000000), .lit (.int .u64 1000000000000), .lit (.int .u64 10000000000000), .lit (.int .u64 100000000000000), .lit (.int .u64 1000000000000000), .lit (.int .u64 10000000000000000), .lit (.int .u64 100000000000000000), .lit (.int .u64 1000000000000000000), .lit (.int .u64 10000000000000000000)]
def laid_unicode_utf8_acceptRanges {H : Type} : DataW H := .agg [.agg [.lit (.int .u8 128), .lit (.int .u8 191)], .agg [.lit (.int .u8 160), .lit (.int .u8 191)], .agg [.lit (.int .u8 128), .lit (.int .u8 159)], .agg [.lit (.int .u8 144), .lit (.int .u8 191)], .agg [.lit (.int .u8 128), .lit (.int .u8 143)], .agg [.lit (.int .u8 0), .lit (.int .u8 0)], .agg [.lit (.int .u8 0), .lit (.int .u8 0)], .agg [.lit (.int .u8 0), .lit (.int .u8 0)], .agg [.lit (.int .u8 0), .lit (.int .u8 0)], .agg [.lit (.int .u8 0), .lit (.int .u8 0)], .agg [.lit (.int .u8 0), .lit (.int .u8 0)], .agg [.lit (.int .u8 0), .lit (.int .u8 0)], .agg [.lit (.int .u8 0), .lit (.int .u8 0)], .agg [.lit (.int .u8 0), .lit (.int .u8 0)], .agg [.lit (.int .u8 0), .lit (.int .u8 0)], .agg [.lit (.int .u8 0), .lit (.int .u8 0)]]
def laid_pannier_hash_small {H : Type} : DataW H := .agg [.lit (.int .u32 2166136261), .lit (.int .u32 16777619)]
def laid_pannier_client_rows {H : Type} : DataW H := .agg [.agg [.lit (.string []), .lit (.string [])], .agg [.lit (.string [97, 100, 100]), .lit (.string [107, 113, 105])], .agg [.lit (.string [115, 101, 116]), .lit (.string [107, 113, 105])], .agg [.lit (.string [114, 101, 109, 111, 118, 101]), .lit (.string [107, 105])], .agg [.lit (.string [103, 101, 116]), .lit (.string [107])], .agg [.lit (.string [99, 108, 101, 97, 114]), .lit (.string [107])], .agg [.lit (.string [119, 105, 115, 104]), .lit (.string [107, 111, 105])], .agg [.lit (.string [108, 111, 103, 105, 110]), .lit (.string [107, 111])], .agg [.lit (.string [100, 101, 108, 105, 118, 101, 114]), .lit (.string [100])], .agg [.lit (.string [109, 101, 114, 103, 101]), .lit (.string [])], .agg [.lit (.string [100, 114, 97, 105, 110]), .lit (.string [])], .agg [.lit (.string [99, 108, 111, 115, 101]), .lit (.string [])]]
/-- One of Go's own tables, pinned by name: the form's constant. -/
def laid_unicode_utf8_first : DataW Unit := Go.Pinned.utf8First

/-- 'pannierlaw51.LoadUses': WHATEVER THE INPUT: true; the input reads as it did. -/
def loadUsesSpec : ChangeSpec := { name := "loadUses", fn := fun _ => fun
  | [d1, d2] => { results := [.lit (.bool true)], args := [d1, d2] }
  | _ => none }
def loadUsesRow : OpenClaim := { program := "ytecnchmcdbcofaagreatdoor", sum := "9f018fcc0c7e0ac290a7a8fbbe965171f88c87076720afe2ecede13fcd32a2b5", func := "pannier/pannierlaw51.LoadUses", spec := "loadUses", inPlace := ["internal/bytealg.IndexByteString", "internal/bytealg.IndexString", "internal/bytealg.abigen_runtime_cmpstring", "slices.overlaps[string]"], unfollowed := true, recurses := true, named := ["pannier/client.rows", "internal/bytealg.MaxLen", "pannier/hash.small", "unicode/utf8.first", "unicode/utf8.acceptRanges", "internal/strconv.uint64pow10", "math/bits.deBruijn32tab", "math/bits.deBruijn64tab"], apart := false, laid := [("math/bits.deBruijn32tab", laid_math_bits_deBruijn32tab), ("math/bits.deBruijn64tab", laid_math_bits_deBruijn64tab), ("internal/strconv.uint64pow10", laid_internal_strconv_uint64pow10), ("unicode/utf8.acceptRanges", laid_unicode_utf8_acceptRanges), ("pannier/hash.small", laid_pannier_hash_small), ("pannier/client.rows", laid_pannier_client_rows), ("unicode/utf8.first", laid_unicode_utf8_first)] }
def LoadUsesSaid : Prop := loadUsesRow.holds Tryz.pinned (OpenSpec.ofChange loadUsesSpec)

/-- ITS FALSE NEIGHBOUR: 'it returns false'. Refute it at one input. -/
def loadUsesWrong : ChangeSpec := { name := "loadUses", fn := fun _ => fun
  | [d1, d2] => { results := [.lit (.bool false)], args := [d1, d2] }
  | _ => none }
def LoadUsesWrongFalsely : Prop := loadUsesRow.holds Tryz.pinned (OpenSpec.ofChange loadUsesWrong)

/-- 'pannierlaw51.LoadSkews': WHATEVER THE INPUT: true; the input reads as it did. -/
def loadSkewsSpec : ChangeSpec := { name := "loadSkews", fn := fun _ => fun
  | [d] => { results := [.lit (.bool true)], args := [d] }
  | _ => none }
def loadSkewsRow : OpenClaim := { program := "ytecnchmcdbcofaagreatdoor", sum := "9f018fcc0c7e0ac290a7a8fbbe965171f88c87076720afe2ecede13fcd32a2b5", func := "pannier/pannierlaw51.LoadSkews", spec := "loadSkews", inPlace := ["internal/bytealg.IndexByteString", "internal/bytealg.IndexString", "internal/bytealg.abigen_runtime_cmpstring", "slices.overlaps[string]"], unfollowed := true, recurses := true, named := ["pannier/client.rows", "internal/bytealg.MaxLen", "pannier/hash.small", "unicode/utf8.first", "unicode/utf8.acceptRanges", "internal/strconv.uint64pow10", "math/bits.deBruijn32tab", "math/bits.deBruijn64tab"], apart := false, laid := [("math/bits.deBruijn32tab", laid_math_bits_deBruijn32tab), ("math/bits.deBruijn64tab", laid_math_bits_deBruijn64tab), ("internal/strconv.uint64pow10", laid_internal_strconv_uint64pow10), ("unicode/utf8.acceptRanges", laid_unicode_utf8_acceptRanges), ("pannier/hash.small", laid_pannier_hash_small), ("pannier/client.rows", laid_pannier_client_rows), ("unicode/utf8.first", laid_unicode_utf8_first)] }
def LoadSkewsSaid : Prop := loadSkewsRow.holds Tryz.pinned (OpenSpec.ofChange loadSkewsSpec)

/-- ITS FALSE NEIGHBOUR: 'it returns false'. Refute it at one input. -/
def loadSkewsWrong : ChangeSpec := { name := "loadSkews", fn := fun _ => fun
  | [d] => { results := [.lit (.bool false)], args := [d] }
  | _ => none }
def LoadSkewsWrongFalsely : Prop := loadSkewsRow.holds Tryz.pinned (OpenSpec.ofChange loadSkewsWrong)

/-- 'pannierlaw51.LoadTallies': WHATEVER THE INPUT: true; the input reads as it did. -/
def loadTalliesSpec : ChangeSpec := { name := "loadTallies", fn := fun _ => fun
  | [d1, d2] => { results := [.lit (.bool true)], args := [d1, d2] }
  | _ => none }
def loadTalliesRow : OpenClaim := { program := "ytecnchmcdbcofaagreatdoor", sum := "9f018fcc0c7e0ac290a7a8fbbe965171f88c87076720afe2ecede13fcd32a2b5", func := "pannier/pannierlaw51.LoadTallies", spec := "loadTallies", inPlace := ["internal/bytealg.IndexByteString", "internal/bytealg.IndexString", "internal/bytealg.abigen_runtime_cmpstring", "slices.overlaps[string]"], unfollowed := true, recurses := true, named := ["pannier/client.rows", "internal/bytealg.MaxLen", "pannier/hash.small", "unicode/utf8.first", "unicode/utf8.acceptRanges", "internal/strconv.uint64pow10", "math/bits.deBruijn32tab", "math/bits.deBruijn64tab"], apart := false, laid := [("math/bits.deBruijn32tab", laid_math_bits_deBruijn32tab), ("math/bits.deBruijn64tab", laid_math_bits_deBruijn64tab), ("internal/strconv.uint64pow10", laid_internal_strconv_uint64pow10), ("unicode/utf8.acceptRanges", laid_unicode_utf8_acceptRanges), ("pannier/hash.small", laid_pannier_hash_small), ("pannier/client.rows", laid_pannier_client_rows), ("unicode/utf8.first", laid_unicode_utf8_first)] }
def LoadTalliesSaid : Prop := loadTalliesRow.holds Tryz.pinned (OpenSpec.ofChange loadTalliesSpec)

/-- ITS FALSE NEIGHBOUR: 'it returns false'. Refute it at one input. -/
def loadTalliesWrong : ChangeSpec := { name := "loadTallies", fn := fun _ => fun
  | [d1, d2] => { results := [.lit (.bool false)], args := [d1, d2] }
  | _ => none }
def LoadTalliesWrongFalsely : Prop := loadTalliesRow.holds Tryz.pinned (OpenSpec.ofChange loadTalliesWrong)

/-- 'pannierlaw51.LoadLongs': WHATEVER THE INPUT: true; the input reads as it did. -/
def loadLongsSpec : ChangeSpec := { name := "loadLongs", fn := fun _ => fun
  | [d] => { results := [.lit (.bool true)], args := [d] }
  | _ => none }
def loadLongsRow : OpenClaim := { program := "ytecnchmcdbcofaagreatdoor", sum := "9f018fcc0c7e0ac290a7a8fbbe965171f88c87076720afe2ecede13fcd32a2b5", func := "pannier/pannierlaw51.LoadLongs", spec := "loadLongs", inPlace := ["internal/bytealg.IndexByteString", "internal/bytealg.IndexString", "internal/bytealg.abigen_runtime_cmpstring", "slices.overlaps[string]"], unfollowed := true, recurses := true, named := ["pannier/client.rows", "internal/bytealg.MaxLen", "pannier/hash.small", "unicode/utf8.first", "unicode/utf8.acceptRanges", "internal/strconv.uint64pow10", "math/bits.deBruijn32tab", "math/bits.deBruijn64tab"], apart := false, laid := [("math/bits.deBruijn32tab", laid_math_bits_deBruijn32tab), ("math/bits.deBruijn64tab", laid_math_bits_deBruijn64tab), ("internal/strconv.uint64pow10", laid_internal_strconv_uint64pow10), ("unicode/utf8.acceptRanges", laid_unicode_utf8_acceptRanges), ("pannier/hash.small", laid_pannier_hash_small), ("pannier/client.rows", laid_pannier_client_rows), ("unicode/utf8.first", laid_unicode_utf8_first)] }
def LoadLongsSaid : Prop := loadLongsRow.holds Tryz.pinned (OpenSpec.ofChange loadLongsSpec)

/-- ITS FALSE NEIGHBOUR: 'it returns false'. Refute it at one input. -/
def loadLongsWrong : ChangeSpec := { name := "loadLongs", fn := fun _ => fun
  | [d] => { results := [.lit (.bool false)], args := [d] }
  | _ => none }
def LoadLongsWrongFalsely : Prop := loadLongsRow.holds Tryz.pinned (OpenSpec.ofChange loadLongsWrong)

/-- 'pannierlaw51.LoadHolds': WHATEVER THE INPUT: true; the input reads as it did. -/
def loadHoldsSpec : ChangeSpec := { name := "loadHolds", fn := fun _ => fun
  | [d1, d2, d3, d4] => { results := [.lit (.bool true)], args := [d1, d2, d3, d4] }
  | _ => none }
def loadHoldsRow : OpenClaim := { program := "ytecnchmcdbcofaagreatdoor", sum := "9f018fcc0c7e0ac290a7a8fbbe965171f88c87076720afe2ecede13fcd32a2b5", func := "pannier/pannierlaw51.LoadHolds", spec := "loadHolds", inPlace := ["internal/bytealg.IndexByteString", "internal/bytealg.IndexString", "internal/bytealg.abigen_runtime_cmpstring", "slices.overlaps[string]"], unfollowed := true, recurses := true, named := ["pannier/client.rows", "internal/bytealg.MaxLen", "pannier/hash.small", "unicode/utf8.first", "unicode/utf8.acceptRanges", "internal/strconv.uint64pow10", "math/bits.deBruijn32tab", "math/bits.deBruijn64tab"], apart := false, laid := [("math/bits.deBruijn32tab", laid_math_bits_deBruijn32tab), ("math/bits.deBruijn64tab", laid_math_bits_deBruijn64tab), ("internal/strconv.uint64pow10", laid_internal_strconv_uint64pow10), ("unicode/utf8.acceptRanges", laid_unicode_utf8_acceptRanges), ("pannier/hash.small", laid_pannier_hash_small), ("pannier/client.rows", laid_pannier_client_rows), ("unicode/utf8.first", laid_unicode_utf8_first)] }
def LoadHoldsSaid : Prop := loadHoldsRow.holds Tryz.pinned (OpenSpec.ofChange loadHoldsSpec)

/-- ITS FALSE NEIGHBOUR: 'it returns false'. Refute it at one input. -/
def loadHoldsWrong : ChangeSpec := { name := "loadHolds", fn := fun _ => fun
  | [d1, d2, d3, d4] => { results := [.lit (.bool false)], args := [d1, d2, d3, d4] }
  | _ => none }
def LoadHoldsWrongFalsely : Prop := loadHoldsRow.holds Tryz.pinned (OpenSpec.ofChange loadHoldsWrong)

/-- 'pannierlaw51.LoadMakes': WHATEVER THE INPUT: true; the input reads as it did. -/
def loadMakesSpec : ChangeSpec := { name := "loadMakes", fn := fun _ => fun
  | [d1, d2, d3] => { results := [.lit (.bool true)], args := [d1, d2, d3] }
  | _ => none }
def loadMakesRow : OpenClaim := { program := "ytecnchmcdbcofaagreatdoor", sum := "9f018fcc0c7e0ac290a7a8fbbe965171f88c87076720afe2ecede13fcd32a2b5", func := "pannier/pannierlaw51.LoadMakes", spec := "loadMakes", inPlace := ["internal/bytealg.IndexByteString", "internal/bytealg.IndexString", "internal/bytealg.abigen_runtime_cmpstring", "slices.overlaps[string]"], unfollowed := true, recurses := true, named := ["pannier/client.rows", "internal/bytealg.MaxLen", "pannier/hash.small", "unicode/utf8.first", "unicode/utf8.acceptRanges", "internal/strconv.uint64pow10", "math/bits.deBruijn32tab", "math/bits.deBruijn64tab"], apart := false, laid := [("math/bits.deBruijn32tab", laid_math_bits_deBruijn32tab), ("math/bits.deBruijn64tab", laid_math_bits_deBruijn64tab), ("internal/strconv.uint64pow10", laid_internal_strconv_uint64pow10), ("unicode/utf8.acceptRanges", laid_unicode_utf8_acceptRanges), ("pannier/hash.small", laid_pannier_hash_small), ("pannier/client.rows", laid_pannier_client_rows), ("unicode/utf8.first", laid_unicode_utf8_first)] }
def LoadMakesSaid : Prop := loadMakesRow.holds Tryz.pinned (OpenSpec.ofChange loadMakesSpec)

/-- ITS FALSE NEIGHBOUR: 'it returns false'. Refute it at one input. -/
def loadMakesWrong : ChangeSpec := { name := "loadMakes", fn := fun _ => fun
  | [d1, d2, d3] => { results := [.lit (.bool false)], args := [d1, d2, d3] }
  | _ => none }
def LoadMakesWrongFalsely : Prop := loadMakesRow.holds Tryz.pinned (OpenSpec.ofChange loadMakesWrong)

/- THE SECOND FORM. 'bulk': how many values and letters a reading holds, each counted each time it is reached (what is shared counts as often as it is met; a slice's spare places count too). A statement '..UptoSaid' is the law's where the arguments, and the package variables that the reading takes, are together of bulk at most 1048576: NARROWER than '..Said'. Prove '..Said' where nothing that the law and all that it calls make is longer than what came in: it says more and counts as full. Else prove '..UptoSaid'. A law counts once. -/
mutual
def uptoBulk {H : Type} : DataW H → Nat
  | .lit (.string bytes) => bytes.length + 1
  | .lit _ => 1
  | .nil => 1
  | .ptr d => uptoBulk d + 1
  | .slice elems spare => uptoBulkAll elems + uptoBulkAll spare + 1
  | .agg parts => uptoBulkAll parts + 1
  | .iface _ d => uptoBulk d + 1
  | .map entries => uptoBulkEntries entries + 1
  | .held _ => 1
def uptoBulkAll {H : Type} : List (DataW H) → Nat
  | [] => 0
  | d :: r => uptoBulk d + uptoBulkAll r
def uptoBulkEntries {H : Type} : List (Lit × DataW H) → Nat
  | [] => 0
  | x :: r => uptoBulkEntry x + uptoBulkEntries r
def uptoBulkEntry {H : Type} : Lit × DataW H → Nat
  | (.string bytes, d) => bytes.length + uptoBulk d + 1
  | (_, d) => uptoBulk d + 1
 end
def uptoSmall : (H : Type) → List (DataW H) → Bool := fun _ ds => decide (uptoBulkAll ds ≤ 1048576)
def OpenSpec.upto (s : _root_.Go.ChangeSpec) : _root_.Go.OpenSpec := { _root_.Go.OpenSpec.ofChange s with cond := some uptoSmall }

/-- 'pannierlaw51.LoadUses', WHERE WHAT IT READS IS OF BULK AT MOST 1048576: true; the input reads as it did. -/
def loadUsesUptoRow : OpenClaim := { program := "ytecnchmcdbcofaagreatdoor", sum := "9f018fcc0c7e0ac290a7a8fbbe965171f88c87076720afe2ecede13fcd32a2b5", func := "pannier/pannierlaw51.LoadUses", spec := "loadUses", inPlace := ["internal/bytealg.IndexByteString", "internal/bytealg.IndexString", "internal/bytealg.abigen_runtime_cmpstring", "slices.overlaps[string]"], unfollowed := true, recurses := true, named := ["pannier/client.rows", "internal/bytealg.MaxLen", "pannier/hash.small", "unicode/utf8.first", "unicode/utf8.acceptRanges", "internal/strconv.uint64pow10", "math/bits.deBruijn32tab", "math/bits.deBruijn64tab"], apart := false, laid := [("math/bits.deBruijn32tab", laid_math_bits_deBruijn32tab), ("math/bits.deBruijn64tab", laid_math_bits_deBruijn64tab), ("internal/strconv.uint64pow10", laid_internal_strconv_uint64pow10), ("unicode/utf8.acceptRanges", laid_unicode_utf8_acceptRanges), ("pannier/hash.small", laid_pannier_hash_small), ("pannier/client.rows", laid_pannier_client_rows), ("unicode/utf8.first", laid_unicode_utf8_first)], narrowed := true }
def LoadUsesUptoSaid : Prop := loadUsesUptoRow.holds Tryz.pinned (OpenSpec.upto loadUsesSpec)

/-- 'pannierlaw51.LoadSkews', WHERE WHAT IT READS IS OF BULK AT MOST 1048576: true; the input reads as it did. -/
def loadSkewsUptoRow : OpenClaim := { program := "ytecnchmcdbcofaagreatdoor", sum := "9f018fcc0c7e0ac290a7a8fbbe965171f88c87076720afe2ecede13fcd32a2b5", func := "pannier/pannierlaw51.LoadSkews", spec := "loadSkews", inPlace := ["internal/bytealg.IndexByteString", "internal/bytealg.IndexString", "internal/bytealg.abigen_runtime_cmpstring", "slices.overlaps[string]"], unfollowed := true, recurses := true, named := ["pannier/client.rows", "internal/bytealg.MaxLen", "pannier/hash.small", "unicode/utf8.first", "unicode/utf8.acceptRanges", "internal/strconv.uint64pow10", "math/bits.deBruijn32tab", "math/bits.deBruijn64tab"], apart := false, laid := [("math/bits.deBruijn32tab", laid_math_bits_deBruijn32tab), ("math/bits.deBruijn64tab", laid_math_bits_deBruijn64tab), ("internal/strconv.uint64pow10", laid_internal_strconv_uint64pow10), ("unicode/utf8.acceptRanges", laid_unicode_utf8_acceptRanges), ("pannier/hash.small", laid_pannier_hash_small), ("pannier/client.rows", laid_pannier_client_rows), ("unicode/utf8.first", laid_unicode_utf8_first)], narrowed := true }
def LoadSkewsUptoSaid : Prop := loadSkewsUptoRow.holds Tryz.pinned (OpenSpec.upto loadSkewsSpec)

/-- 'pannierlaw51.LoadTallies', WHERE WHAT IT READS IS OF BULK AT MOST 1048576: true; the input reads as it did. -/
def loadTalliesUptoRow : OpenClaim := { program := "ytecnchmcdbcofaagreatdoor", sum := "9f018fcc0c7e0ac290a7a8fbbe965171f88c87076720afe2ecede13fcd32a2b5", func := "pannier/pannierlaw51.LoadTallies", spec := "loadTallies", inPlace := ["internal/bytealg.IndexByteString", "internal/bytealg.IndexString", "internal/bytealg.abigen_runtime_cmpstring", "slices.overlaps[string]"], unfollowed := true, recurses := true, named := ["pannier/client.rows", "internal/bytealg.MaxLen", "pannier/hash.small", "unicode/utf8.first", "unicode/utf8.acceptRanges", "internal/strconv.uint64pow10", "math/bits.deBruijn32tab", "math/bits.deBruijn64tab"], apart := false, laid := [("math/bits.deBruijn32tab", laid_math_bits_deBruijn32tab), ("math/bits.deBruijn64tab", laid_math_bits_deBruijn64tab), ("internal/strconv.uint64pow10", laid_internal_strconv_uint64pow10), ("unicode/utf8.acceptRanges", laid_unicode_utf8_acceptRanges), ("pannier/hash.small", laid_pannier_hash_small), ("pannier/client.rows", laid_pannier_client_rows), ("unicode/utf8.first", laid_unicode_utf8_first)], narrowed := true }
def LoadTalliesUptoSaid : Prop := loadTalliesUptoRow.holds Tryz.pinned (OpenSpec.upto loadTalliesSpec)

/-- 'pannierlaw51.LoadLongs', WHERE WHAT IT READS IS OF BULK AT MOST 1048576: true; the input reads as it did. -/
def loadLongsUptoRow : OpenClaim := { program := "ytecnchmcdbcofaagreatdoor", sum := "9f018fcc0c7e0ac290a7a8fbbe965171f88c87076720afe2ecede13fcd32a2b5", func := "pannier/pannierlaw51.LoadLongs", spec := "loadLongs", inPlace := ["internal/bytealg.IndexByteString", "internal/bytealg.IndexString", "internal/bytealg.abigen_runtime_cmpstring", "slices.overlaps[string]"], unfollowed := true, recurses := true, named := ["pannier/client.rows", "internal/bytealg.MaxLen", "pannier/hash.small", "unicode/utf8.first", "unicode/utf8.acceptRanges", "internal/strconv.uint64pow10", "math/bits.deBruijn32tab", "math/bits.deBruijn64tab"], apart := false, laid := [("math/bits.deBruijn32tab", laid_math_bits_deBruijn32tab), ("math/bits.deBruijn64tab", laid_math_bits_deBruijn64tab), ("internal/strconv.uint64pow10", laid_internal_strconv_uint64pow10), ("unicode/utf8.acceptRanges", laid_unicode_utf8_acceptRanges), ("pannier/hash.small", laid_pannier_hash_small), ("pannier/client.rows", laid_pannier_client_rows), ("unicode/utf8.first", laid_unicode_utf8_first)], narrowed := true }
def LoadLongsUptoSaid : Prop := loadLongsUptoRow.holds Tryz.pinned (OpenSpec.upto loadLongsSpec)

/-- 'pannierlaw51.LoadHolds', WHERE WHAT IT READS IS OF BULK AT MOST 1048576: true; the input reads as it did. -/
def loadHoldsUptoRow : OpenClaim := { program := "ytecnchmcdbcofaagreatdoor", sum := "9f018fcc0c7e0ac290a7a8fbbe965171f88c87076720afe2ecede13fcd32a2b5", func := "pannier/pannierlaw51.LoadHolds", spec := "loadHolds", inPlace := ["internal/bytealg.IndexByteString", "internal/bytealg.IndexString", "internal/bytealg.abigen_runtime_cmpstring", "slices.overlaps[string]"], unfollowed := true, recurses := true, named := ["pannier/client.rows", "internal/bytealg.MaxLen", "pannier/hash.small", "unicode/utf8.first", "unicode/utf8.acceptRanges", "internal/strconv.uint64pow10", "math/bits.deBruijn32tab", "math/bits.deBruijn64tab"], apart := false, laid := [("math/bits.deBruijn32tab", laid_math_bits_deBruijn32tab), ("math/bits.deBruijn64tab", laid_math_bits_deBruijn64tab), ("internal/strconv.uint64pow10", laid_internal_strconv_uint64pow10), ("unicode/utf8.acceptRanges", laid_unicode_utf8_acceptRanges), ("pannier/hash.small", laid_pannier_hash_small), ("pannier/client.rows", laid_pannier_client_rows), ("unicode/utf8.first", laid_unicode_utf8_first)], narrowed := true }
def LoadHoldsUptoSaid : Prop := loadHoldsUptoRow.holds Tryz.pinned (OpenSpec.upto loadHoldsSpec)

/-- 'pannierlaw51.LoadMakes', WHERE WHAT IT READS IS OF BULK AT MOST 1048576: true; the input reads as it did. -/
def loadMakesUptoRow : OpenClaim := { program := "ytecnchmcdbcofaagreatdoor", sum := "9f018fcc0c7e0ac290a7a8fbbe965171f88c87076720afe2ecede13fcd32a2b5", func := "pannier/pannierlaw51.LoadMakes", spec := "loadMakes", inPlace := ["internal/bytealg.IndexByteString", "internal/bytealg.IndexString", "internal/bytealg.abigen_runtime_cmpstring", "slices.overlaps[string]"], unfollowed := true, recurses := true, named := ["pannier/client.rows", "internal/bytealg.MaxLen", "pannier/hash.small", "unicode/utf8.first", "unicode/utf8.acceptRanges", "internal/strconv.uint64pow10", "math/bits.deBruijn32tab", "math/bits.deBruijn64tab"], apart := false, laid := [("math/bits.deBruijn32tab", laid_math_bits_deBruijn32tab), ("math/bits.deBruijn64tab", laid_math_bits_deBruijn64tab), ("internal/strconv.uint64pow10", laid_internal_strconv_uint64pow10), ("unicode/utf8.acceptRanges", laid_unicode_utf8_acceptRanges), ("pannier/hash.small", laid_pannier_hash_small), ("pannier/client.rows", laid_pannier_client_rows), ("unicode/utf8.first", laid_unicode_utf8_first)], narrowed := true }
def LoadMakesUptoSaid : Prop := loadMakesUptoRow.holds Tryz.pinned (OpenSpec.upto loadMakesSpec)

end Rows
end Go.Proofs.YtecnchmcdbcofaaGreatDoor
