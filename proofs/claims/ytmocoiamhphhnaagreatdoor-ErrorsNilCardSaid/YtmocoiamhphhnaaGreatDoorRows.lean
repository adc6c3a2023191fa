/-
  NARROWER THAN 'FOR EVERY INPUT', by the rows' own cells (each row's printed sentence says how): ErrorsWords: laid · ErrorsNil: laid.
  DERIVED. THE GIVEN ROWS OF THIS SEAT. 2 by the template 'for every input the law returns true; each argument reads behind the call as it read before'; 0 by the template 'total and deterministic' (their statements: YtmocoiamhphhnaaGreatDoorTotals.lean).
  GIVEN WITH THE SEED: the statements are not yours to turn. If you find one false, say at which input.
  Laid BY PROGRAM, IN A SANDBOX (cutbox-rows.mjs): the forced cells as the released guide's own fill.sh prints them over the translation abe9b390884b7534… (all of the seat's roots in one cut). By AI agents, Wed Nov 11 2026. No macro, syntax, notation, axiom, sorry.
-/
import Derived.Test.YtmocoiamhphhnaaGreatDoorChecked
import GoSem.PinnedTables
import GoSem.Claim
import GoSem.ClaimJoined
import GoSem.ClaimMapViews
import Derived.JoinedTies
import Derived.KernelRfl
namespace Go.Proofs.YtmocoiamhphhnaaGreatDoor
/- THE CELL 'sum', in the pinned program and in every row, IS THE sha256 OF THE DUMP (.gsa) THAT YtmocoiamhphhnaaGreatDoorProg.lean LOADS. Nothing in Lean hashes anything: it is a label: what it is worth is what the hold of that sum in a sandbox is worth. -/
noncomputable def Tryz.pinned : Pinned := { name := "ytmocoiamhphhnaagreatdoor", sum := "abe9b390884b753448d61ef85b7754c5bc6dc5e03eebaa04a8acca24be6cb83e", checked := Tryz.checked }
namespace Rows
def none {H : Type} : Left H := { results := [], args := [] }

/- WHAT THE LISTED PACKAGE-LEVEL VARIABLES READ AS WHEN THE CALL BEGINS. Each datum BY PROGRAM (the guide's laid-datum.mjs) off the statement by which the dump's own 'gosem.cut.vars' lays the variable. In a bare row this is a premise. The card (YtmocoiamhphhnaaGreatDoorCards.lean) ties it to the program's text. -/
def laid_unicode_utf8_acceptRanges {H : Type} : DataW H := .agg [.agg [.lit (.int .u8 128), .lit (.int .u8 191)], .agg [.lit (.int .u8 160), .lit (.int .u8 191)], .agg [.lit (.int .u8 128), .lit (.int .u8 159)], .agg [.lit (.int .u8 144), .lit (.int .u8 191)], .agg [.lit (.int .u8 128), .lit (.int .u8 143)], .agg [.lit (.int .u8 0), .lit (.int .u8 0)], .agg [.lit (.int .u8 0), .lit (.int .u8 0)], .agg [.lit (.int .u8 0), .lit (.int .u8 0)], .agg [.lit (.int .u8 0), .lit (.int .u8 0)], .agg [.lit (.int .u8 0), .lit (.int .u8 0)], .agg [.lit (.int .u8 0), .lit (.int .u8 0)], .agg [.lit (.int .u8 0), .lit (.int .u8 0)], .agg [.lit (.int .u8 0), .lit (.int .u8 0)], .agg [.lit (.int .u8 0), .lit (.int .u8 0)], .agg [.lit (.int .u8 0), .lit (.int .u8 0)], .agg [.lit (.int .u8 0), .lit (.int .u8 0)]]
def laid_pannier_hash_small {H : Type} : DataW H := .agg [.lit (.int .u32 2166136261), .lit (.int .u32 16777619)]
def laid_pannier_errors_parts {H : Type} : DataW H := .agg [.lit (.string []), .lit (.string [107, 105, 113]), .lit (.string [107, 105, 113]), .lit (.string [107, 105]), .lit (.string [107]), .lit (.string [107]), .lit (.string [107, 111, 105]), .lit (.string [107, 111]), .lit (.string [100]), .lit (.string []), .lit (.string []), .lit (.string [])]
def laid_pannier_errors_words {H : Type} : DataW H := .agg [.lit (.string [111, 107]), .lit (.string [110, 105, 108]), .lit (.string [97, 114, 103, 117, 109, 101, 110, 116]), .lit (.string [114, 97, 110, 103, 101]), .lit (.string [115, 104, 111, 114, 116]), .lit (.string [108, 111, 110, 103]), .lit (.string [102, 111, 114, 109, 97, 116]), .lit (.string [102, 117, 108, 108]), .lit (.string [115, 116, 97, 116, 101]), .lit (.string [110, 111, 110, 101]), .lit (.string [99, 104, 101, 99, 107]), .lit (.string [98, 117, 115, 121]), .lit (.string [109, 97, 108, 102, 111, 114, 109, 101, 100]), .lit (.string [116, 111, 111, 32, 109, 97, 110, 121]), .lit (.string [113, 117, 97, 110, 116, 105, 116, 121]), .lit (.string [101, 120, 104, 97, 117, 115, 116, 101, 100]), .lit (.string [99, 108, 111, 115, 101, 100]), .lit (.string [101, 110, 100])]
/-- One of Go's own tables, pinned by name: the form's constant. -/
def laid_unicode_utf8_first : DataW Unit := Go.Pinned.utf8First

/-- 'pannierlaw24.ErrorsWords': WHATEVER THE INPUT: true; the input reads as it did. -/
def errorsWordsSpec : ChangeSpec := { name := "errorsWords", fn := fun _ => fun
  | [d] => { results := [.lit (.bool true)], args := [d] }
  | _ => none }
def errorsWordsRow : OpenClaim := { program := "ytmocoiamhphhnaagreatdoor", sum := "abe9b390884b753448d61ef85b7754c5bc6dc5e03eebaa04a8acca24be6cb83e", func := "pannier/pannierlaw24.ErrorsWords", spec := "errorsWords", inPlace := ["internal/bytealg.IndexByteString", "internal/bytealg.IndexString", "internal/bytealg.abigen_runtime_cmpstring", "maps.clone", "slices.overlaps[string]"], unfollowed := true, recurses := true, named := ["pannier/errors.words", "pannier/errors.parts", "internal/bytealg.MaxLen", "unicode/utf8.first", "unicode/utf8.acceptRanges", "pannier/hash.small"], apart := false, laid := [("unicode/utf8.acceptRanges", laid_unicode_utf8_acceptRanges), ("pannier/hash.small", laid_pannier_hash_small), ("pannier/errors.parts", laid_pannier_errors_parts), ("pannier/errors.words", laid_pannier_errors_words), ("unicode/utf8.first", laid_unicode_utf8_first)] }
def ErrorsWordsSaid : Prop := errorsWordsRow.holds Tryz.pinned (OpenSpec.ofChange errorsWordsSpec)

/-- ITS FALSE NEIGHBOUR: 'it returns false'. Refute it at one input. -/
def errorsWordsWrong : ChangeSpec := { name := "errorsWords", fn := fun _ => fun
  | [d] => { results := [.lit (.bool false)], args := [d] }
  | _ => none }
def ErrorsWordsWrongFalsely : Prop := errorsWordsRow.holds Tryz.pinned (OpenSpec.ofChange errorsWordsWrong)

/-- 'pannierlaw24.ErrorsNil': WHATEVER THE INPUT: true; the input reads as it did. -/
def errorsNilSpec : ChangeSpec := { name := "errorsNil", fn := fun _ => fun
  | [d] => { results := [.lit (.bool true)], args := [d] }
  | _ => none }
def errorsNilRow : OpenClaim := { program := "ytmocoiamhphhnaagreatdoor", sum := "abe9b390884b753448d61ef85b7754c5bc6dc5e03eebaa04a8acca24be6cb83e", func := "pannier/pannierlaw24.ErrorsNil", spec := "errorsNil", inPlace := ["internal/bytealg.IndexByteString", "internal/bytealg.IndexString", "internal/bytealg.abigen_runtime_cmpstring", "maps.clone", "slices.overlaps[string]"], unfollowed := true, recurses := true, named := ["pannier/errors.parts", "internal/bytealg.MaxLen", "unicode/utf8.first", "unicode/utf8.acceptRanges", "pannier/hash.small", "pannier/errors.words"], apart := false, laid := [("unicode/utf8.acceptRanges", laid_unicode_utf8_acceptRanges), ("pannier/hash.small", laid_pannier_hash_small), ("pannier/errors.parts", laid_pannier_errors_parts), ("pannier/errors.words", laid_pannier_errors_words), ("unicode/utf8.first", laid_unicode_utf8_first)] }
def ErrorsNilSaid : Prop := errorsNilRow.holds Tryz.pinned (OpenSpec.ofChange errorsNilSpec)

/-- ITS FALSE NEIGHBOUR: 'it returns false'. Refute it at one input. -/
def errorsNilWrong : ChangeSpec := { name := "errorsNil", fn := fun _ => fun
  | [d] => { results := [.lit (.bool false)], args := [d] }
  | _ => none }
def ErrorsNilWrongFalsely : Prop := errorsNilRow.holds Tryz.pinned (OpenSpec.ofChange errorsNilWrong)

/- THE SECOND FORM. 'bulk': how many values and letters a reading holds, each counted each time it is reached (what is shared counts as often as it is met; a slice's spare places count too). A statement '..UptoSaid' is the law's where the arguments, and the package variables that the reading takes, are together of bulk at most 1048576: NARROWER than '..Said'. Prove '..Said' where nothing that the law and all that it calls make is longer than what came in: it says more and counts as full. Else prove '..UptoSaid'. A law counts once. -/
mutual
def uptoBulk {H : Type} : DataW H → Nat
  | .lit (.string bytes) => bytes.length + 1
  | .lit _ => 1
  | .nil => 1
  | .ptr d => uptoBulk d + 1
  | .slice elems spare => uptoBulkAll elems + uptoBulkAll spare + 1
  | .agg parts => uptoBulkAll parts + 1
  | .iface _ d => uptoBulk d + 1
  | .map entries => uptoBulkEntries entries + 1
  | .held _ => 1
def uptoBulkAll {H : Type} : List (DataW H) → Nat
  | [] => 0
  | d :: r => uptoBulk d + uptoBulkAll r
def uptoBulkEntries {H : Type} : List (Lit × DataW H) → Nat
  | [] => 0
  | x :: r => uptoBulkEntry x + uptoBulkEntries r
def uptoBulkEntry {H : Type} : Lit × DataW H → Nat
  | (.string bytes, d) => bytes.length + uptoBulk d + 1
  | (_, d) => uptoBulk d + 1
 end
def uptoSmall : (H : Type) → List (DataW H) → Bool := fun _ ds => decide (uptoBulkAll ds ≤ 1048576)
def OpenSpec.upto (s : _root_.Go.ChangeSpec) : _root_.Go.OpenSpec := { _root_.Go.OpenSpec.ofChange s with cond := some uptoSmall }

/-- 'pannierlaw24.ErrorsWords', WHERE WHAT IT READS IS OF BULK AT MOST 1048576: true; the input reads as it did. -/
def errorsWordsUptoRow : OpenClaim := { program := "ytmocoiamhphhnaagreatdoor", sum := "abe9b390884b753448d61ef85b7754c5bc6dc5e03eebaa04a8acca24be6cb83e", func := "pannier/pannierlaw24.ErrorsWords", spec := "errorsWords", inPlace := ["internal/bytealg.IndexByteString", "internal/bytealg.IndexString", "internal/bytealg.abigen_runtime_cmpstring", "maps.clone", "slices.overlaps[string]"], unfollowed := true, recurses := true, named := ["pannier/errors.words", "pannier/errors.parts", "internal/bytealg.MaxLen", "unicode/utf8.first", "unicode/utf8.acceptRanges", "pannier/hash.small"], apart := false, laid := [("unicode/utf8.acceptRanges", laid_unicode_utf8_acceptRanges), ("pannier/hash.small", laid_pannier_hash_small), ("pannier/errors.parts", laid_pannier_errors_parts), ("pannier/errors.words", laid_pannier_errors_words), ("unicode/utf8.first", laid_unicode_utf8_first)], narrowed := true }
def ErrorsWordsUptoSaid : Prop := errorsWordsUptoRow.holds Tryz.pinned (OpenSpec.upto errorsWordsSpec)

/-- 'pannierlaw24.ErrorsNil', WHERE WHAT IT READS IS OF BULK AT MOST 1048576: true; the input reads as it did. -/
def errorsNilUptoRow : OpenClaim := { program := "ytmocoiamhphhnaagreatdoor", sum := "abe9b390884b753448d61ef85b7754c5bc6dc5e03eebaa04a8acca24be6cb83e", func := "pannier/pannierlaw24.ErrorsNil", spec := "errorsNil", inPlace := ["internal/bytealg.IndexByteString", "internal/bytealg.IndexString", "internal/bytealg.abigen_runtime_cmpstring", "maps.clone", "slices.overlaps[string]"], unfollowed := true, recurses := true, named := ["pannier/errors.parts", "internal/bytealg.MaxLen", "unicode/utf8.first", "unicode/utf8.acceptRanges", "pannier/hash.small", "pannier/errors.words"], apart := false, laid := [("unicode/utf8.acceptRanges", laid_unicode_utf8_acceptRanges), ("pannier/hash.small", laid_pannier_hash_small), ("pannier/errors.parts", laid_pannier_errors_parts), ("pannier/errors.words", laid_pannier_errors_words), ("unicode/utf8.first", laid_unicode_utf8_first)], narrowed := true }
def ErrorsNilUptoSaid : Prop := errorsNilUptoRow.holds Tryz.pinned (OpenSpec.upto errorsNilSpec)

end Rows
end Go.Proofs.YtmocoiamhphhnaaGreatDoor
