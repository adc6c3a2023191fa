/-
  NARROWER THAN 'FOR EVERY INPUT', by the rows' own cells (each row's printed sentence says how): JournalFulls: laid · JournalReads: laid · JournalAppends: laid.
  DERIVED. THE GIVEN ROWS OF THIS SEAT. 3 by the template 'for every input the law returns true; each argument reads behind the call as it read before'; 0 by the template 'total and deterministic' (their statements: YtgjbnebmcmoilaaGreatDoorTotals.lean).
  GIVEN WITH THE SEED: the statements are not yours to turn. If you find one false, say at which input.
  Laid BY PROGRAM, IN A SANDBOX (cutbox-rows.mjs): the forced cells as the released guide's own fill.sh prints them over the translation 8997c35b9c3a4f1f… (all of the seat's roots in one cut). By AI agents, Wed Nov 11 2026. No macro, syntax, notation, axiom, sorry.
-/
import Derived.Test.YtgjbnebmcmoilaaGreatDoorChecked
import GoSem.PinnedTables
import GoSem.Claim
import GoSem.ClaimJoined
import GoSem.ClaimMapViews
import Derived.JoinedTies
import Derived.KernelRfl
namespace Go.Proofs.YtgjbnebmcmoilaaGreatDoor
/- THE CELL 'sum', in the pinned program and in every row, IS THE sha256 OF THE DUMP (.gsa) THAT YtgjbnebmcmoilaaGreatDoorProg.lean LOADS. Nothing in Lean hashes anything: it is a label: what it is worth is what the hold of that sum in a sandbox is worth. -/
noncomputable def Tryz.pinned : Pinned := { name := "ytgjbnebmcmoilaagreatdoor", sum := "8997c35b9c3a4f1fc9888059dfab428ec118bc298d97652b2a205b455c001b79", checked := Tryz.checked }
namespace Rows
def none {H : Type} : Left H := { results := [], args := [] }

/- WHAT THE LISTED PACKAGE-LEVEL VARIABLES READ AS WHEN THE CALL BEGINS. Each datum BY PROGRAM (the guide's laid-datum.mjs) off the statement by which the dump's own 'gosem.cut.vars' lays the variable. In a bare row this is a premise. The card (YtgjbnebmcmoilaaGreatDoorCards.lean) ties it to the program's text. -/
def laid_unicode_utf8_acceptRanges {H : Type} : DataW H := .agg [.agg [.lit (.int .u8 128), .lit (.int .u8 191)], .agg [.lit (.int .u8 160), .lit (.int .u8 191)], .agg [.lit (.int .u8 128), .lit (.int .u8 159)], .agg [.lit (.int .u8 144), .lit (.int .u8 191)], .agg [.lit (.int .u8 128), .lit (.int .u8 143)], .agg [.lit (.int .u8 0), .lit (.int .u8 0)], .agg [.lit (.int .u8 0), .lit (.int .u8 0)], .agg [.lit (.int .u8 0), .lit (.int .u8 0)], .agg [.lit (.int .u8 0), .lit (.int .u8 0)], .agg [.lit (.int .u8 0), .lit (.int .u8 0)], .agg [.lit (.int .u8 0), .lit (.int .u8 0)], .agg [.lit (.int .u8 0), .lit (.int .u8 0)], .agg [.lit (.int .u8 0), .lit (.int .u8 0)], .agg [.lit (.int .u8 0), .lit (.int .u8 0)], .agg [.lit (.int .u8 0), .lit (.int .u8 0)], .agg [.lit (.int .u8 0), .lit (.int .u8 0)]]
def laid_pannier_hash_small {H : Type} : DataW H := .agg [.lit (.int .u32 2166136261), .lit (.int .u32 16777619)]
def laid_pannier_client_rows {H : Type} : DataW H := .agg [.agg [.lit (.string []), .lit (.string [])], .agg [.lit (.string [97, 100, 100]), .lit (.string [107, 113, 105])], .agg [.lit (.string [115, 101, 116]), .lit (.string [107, 113, 105])], .agg [.lit (.string [114, 101, 109, 111, 118, 101]), .lit (.string [107, 105])], .agg [.lit (.string [103, 101, 116]), .lit (.string [107])], .agg [.lit (.string [99, 108, 101, 97, 114]), .lit (.string [107])], .agg [.lit (.string [119, 105, 115, 104]), .lit (.string [107, 111, 105])], .agg [.lit (.string [108, 111, 103, 105, 110]), .lit (.string [107, 111])], .agg [.lit (.string [100, 101, 108, 105, 118, 101, 114]), .lit (.string [100])], .agg [.lit (.string [109, 101, 114, 103, 101]), .lit (.string [])], .agg [.lit (.string [100, 114, 97, 105, 110]), .lit (.string [])], .agg [.lit (.string [99, 108, 111, 115, 101]), .lit (.string [])]]
/-- One of Go's own tables, pinned by name: the form's constant. -/
def laid_unicode_utf8_first : DataW Unit := Go.Pinned.utf8First

/-- 'pannierlaw41.JournalFulls': WHATEVER THE INPUT: true; the input reads as it did. -/
def journalFullsSpec : ChangeSpec := { name := "journalFulls", fn := fun _ => fun
  | [d] => { results := [.lit (.bool true)], args := [d] }
  | _ => none }
def journalFullsRow : OpenClaim := { program := "ytgjbnebmcmoilaagreatdoor", sum := "8997c35b9c3a4f1fc9888059dfab428ec118bc298d97652b2a205b455c001b79", func := "pannier/pannierlaw41.JournalFulls", spec := "journalFulls", inPlace := ["internal/bytealg.IndexByteString", "internal/bytealg.IndexString", "internal/bytealg.abigen_runtime_cmpstring", "slices.overlaps[string]"], unfollowed := true, recurses := true, named := ["pannier/client.rows", "internal/bytealg.MaxLen", "unicode/utf8.first", "unicode/utf8.acceptRanges", "pannier/hash.small"], apart := false, laid := [("unicode/utf8.acceptRanges", laid_unicode_utf8_acceptRanges), ("pannier/hash.small", laid_pannier_hash_small), ("pannier/client.rows", laid_pannier_client_rows), ("unicode/utf8.first", laid_unicode_utf8_first)] }
def JournalFullsSaid : Prop := journalFullsRow.holds Tryz.pinned (OpenSpec.ofChange journalFullsSpec)

/-- ITS FALSE NEIGHBOUR: 'it returns false'. Refute it at one input. -/
def journalFullsWrong : ChangeSpec := { name := "journalFulls", fn := fun _ => fun
  | [d] => { results := [.lit (.bool false)], args := [d] }
  | _ => none }
def JournalFullsWrongFalsely : Prop := journalFullsRow.holds Tryz.pinned (OpenSpec.ofChange journalFullsWrong)

/-- 'pannierlaw41.JournalReads': WHATEVER THE INPUT: true; the input reads as it did. -/
def journalReadsSpec : ChangeSpec := { name := "journalReads", fn := fun _ => fun
  | [d1, d2, d3, d4, d5] => { results := [.lit (.bool true)], args := [d1, d2, d3, d4, d5] }
  | _ => none }
def journalReadsRow : OpenClaim := { program := "ytgjbnebmcmoilaagreatdoor", sum := "8997c35b9c3a4f1fc9888059dfab428ec118bc298d97652b2a205b455c001b79", func := "pannier/pannierlaw41.JournalReads", spec := "journalReads", inPlace := ["internal/bytealg.IndexByteString", "internal/bytealg.IndexString", "internal/bytealg.abigen_runtime_cmpstring", "slices.overlaps[string]"], unfollowed := true, recurses := true, named := ["pannier/client.rows", "internal/bytealg.MaxLen", "unicode/utf8.first", "unicode/utf8.acceptRanges", "pannier/hash.small"], apart := false, laid := [("unicode/utf8.acceptRanges", laid_unicode_utf8_acceptRanges), ("pannier/hash.small", laid_pannier_hash_small), ("pannier/client.rows", laid_pannier_client_rows), ("unicode/utf8.first", laid_unicode_utf8_first)] }
def JournalReadsSaid : Prop := journalReadsRow.holds Tryz.pinned (OpenSpec.ofChange journalReadsSpec)

/-- ITS FALSE NEIGHBOUR: 'it returns false'. Refute it at one input. -/
def journalReadsWrong : ChangeSpec := { name := "journalReads", fn := fun _ => fun
  | [d1, d2, d3, d4, d5] => { results := [.lit (.bool false)], args := [d1, d2, d3, d4, d5] }
  | _ => none }
def JournalReadsWrongFalsely : Prop := journalReadsRow.holds Tryz.pinned (OpenSpec.ofChange journalReadsWrong)

/-- 'pannierlaw41.JournalAppends': WHATEVER THE INPUT: true; the input reads as it did. -/
def journalAppendsSpec : ChangeSpec := { name := "journalAppends", fn := fun _ => fun
  | [d1, d2, d3, d4] => { results := [.lit (.bool true)], args := [d1, d2, d3, d4] }
  | _ => none }
def journalAppendsRow : OpenClaim := { program := "ytgjbnebmcmoilaagreatdoor", sum := "8997c35b9c3a4f1fc9888059dfab428ec118bc298d97652b2a205b455c001b79", func := "pannier/pannierlaw41.JournalAppends", spec := "journalAppends", inPlace := ["internal/bytealg.IndexByteString", "internal/bytealg.IndexString", "internal/bytealg.abigen_runtime_cmpstring", "slices.overlaps[string]"], unfollowed := true, recurses := true, named := ["pannier/client.rows", "internal/bytealg.MaxLen", "unicode/utf8.first", "unicode/utf8.acceptRanges", "pannier/hash.small"], apart := false, laid := [("unicode/utf8.acceptRanges", laid_unicode_utf8_acceptRanges), ("pannier/hash.small", laid_pannier_hash_small), ("pannier/client.rows", laid_pannier_client_rows), ("unicode/utf8.first", laid_unicode_utf8_first)] }
def JournalAppendsSaid : Prop := journalAppendsRow.holds Tryz.pinned (OpenSpec.ofChange journalAppendsSpec)

/-- ITS FALSE NEIGHBOUR: 'it returns false'. Refute it at one input. -/
def journalAppendsWrong : ChangeSpec := { name := "journalAppends", fn := fun _ => fun
  | [d1, d2, d3, d4] => { results := [.lit (.bool false)], args := [d1, d2, d3, d4] }
  | _ => none }
def JournalAppendsWrongFalsely : Prop := journalAppendsRow.holds Tryz.pinned (OpenSpec.ofChange journalAppendsWrong)

/- THE SECOND FORM. 'bulk': how many values and letters a reading holds, each counted each time it is reached (what is shared counts as often as it is met; a slice's spare places count too). A statement '..UptoSaid' is the law's where the arguments, and the package variables that the reading takes, are together of bulk at most 1048576: NARROWER than '..Said'. Prove '..Said' where nothing that the law and all that it calls make is longer than what came in: it says more and counts as full. Else prove '..UptoSaid'. A law counts once. -/
mutual
def uptoBulk {H : Type} : DataW H → Nat
  | .lit (.string bytes) => bytes.length + 1
  | .lit _ => 1
  | .nil => 1
  | .ptr d => uptoBulk d + 1
  | .slice elems spare => uptoBulkAll elems + uptoBulkAll spare + 1
  | .agg parts => uptoBulkAll parts + 1
  | .iface _ d => uptoBulk d + 1
  | .map entries => uptoBulkEntries entries + 1
  | .held _ => 1
def uptoBulkAll {H : Type} : List (DataW H) → Nat
  | [] => 0
  | d :: r => uptoBulk d + uptoBulkAll r
def uptoBulkEntries {H : Type} : List (Lit × DataW H) → Nat
  | [] => 0
  | x :: r => uptoBulkEntry x + uptoBulkEntries r
def uptoBulkEntry {H : Type} : Lit × DataW H → Nat
  | (.string bytes, d) => bytes.length + uptoBulk d + 1
  | (_, d) => uptoBulk d + 1
 end
def uptoSmall : (H : Type) → List (DataW H) → Bool := fun _ ds => decide (uptoBulkAll ds ≤ 1048576)
def OpenSpec.upto (s : _root_.Go.ChangeSpec) : _root_.Go.OpenSpec := { _root_.Go.OpenSpec.ofChange s with cond := some uptoSmall }

/-- 'pannierlaw41.JournalFulls', WHERE WHAT IT READS IS OF BULK AT MOST 1048576: true; the input reads as it did. -/
def journalFullsUptoRow : OpenClaim := { program := "ytgjbnebmcmoilaagreatdoor", sum := "8997c35b9c3a4f1fc9888059dfab428ec118bc298d97652b2a205b455c001b79", func := "pannier/pannierlaw41.JournalFulls", spec := "journalFulls", inPlace := ["internal/bytealg.IndexByteString", "internal/bytealg.IndexString", "internal/bytealg.abigen_runtime_cmpstring", "slices.overlaps[string]"], unfollowed := true, recurses := true, named := ["pannier/client.rows", "internal/bytealg.MaxLen", "unicode/utf8.first", "unicode/utf8.acceptRanges", "pannier/hash.small"], apart := false, laid := [("unicode/utf8.acceptRanges", laid_unicode_utf8_acceptRanges), ("pannier/hash.small", laid_pannier_hash_small), ("pannier/client.rows", laid_pannier_client_rows), ("unicode/utf8.first", laid_unicode_utf8_first)], narrowed := true }
def JournalFullsUptoSaid : Prop := journalFullsUptoRow.holds Tryz.pinned (OpenSpec.upto journalFullsSpec)

/-- 'pannierlaw41.JournalReads', WHERE WHAT IT READS IS OF BULK AT MOST 1048576: true; the input reads as it did. -/
def journalReadsUptoRow : OpenClaim := { program := "ytgjbnebmcmoilaagreatdoor", sum := "8997c35b9c3a4f1fc9888059dfab428ec118bc298d97652b2a205b455c001b79", func := "pannier/pannierlaw41.JournalReads", spec := "journalReads", inPlace := ["internal/bytealg.IndexByteString", "internal/bytealg.IndexString", "internal/bytealg.abigen_runtime_cmpstring", "slices.overlaps[string]"], unfollowed := true, recurses := true, named := ["pannier/client.rows", "internal/bytealg.MaxLen", "unicode/utf8.first", "unicode/utf8.acceptRanges", "pannier/hash.small"], apart := false, laid := [("unicode/utf8.acceptRanges", laid_unicode_utf8_acceptRanges), ("pannier/hash.small", laid_pannier_hash_small), ("pannier/client.rows", laid_pannier_client_rows), ("unicode/utf8.first", laid_unicode_utf8_first)], narrowed := true }
def JournalReadsUptoSaid : Prop := journalReadsUptoRow.holds Tryz.pinned (OpenSpec.upto journalReadsSpec)

/-- 'pannierlaw41.JournalAppends', WHERE WHAT IT READS IS OF BULK AT MOST 1048576: true; the input reads as it did. -/
def journalAppendsUptoRow : OpenClaim := { program := "ytgjbnebmcmoilaagreatdoor", sum := "8997c35b9c3a4f1fc9888059dfab428ec118bc298d97652b2a205b455c001b79", func := "pannier/pannierlaw41.JournalAppends", spec := "journalAppends", inPlace := ["internal/bytealg.IndexByteString", "internal/bytealg.IndexString", "internal/bytealg.abigen_runtime_cmpstring", "slices.overlaps[string]"], unfollowed := true, recurses := true, named := ["pannier/client.rows", "internal/bytealg.MaxLen", "unicode/utf8.first", "unicode/utf8.acceptRanges", "pannier/hash.small"], apart := false, laid := [("unicode/utf8.acceptRanges", laid_unicode_utf8_acceptRanges), ("pannier/hash.small", laid_pannier_hash_small), ("pannier/client.rows", laid_pannier_client_rows), ("unicode/utf8.first", laid_unicode_utf8_first)], narrowed := true }
def JournalAppendsUptoSaid : Prop := journalAppendsUptoRow.holds Tryz.pinned (OpenSpec.upto journalAppendsSpec)

end Rows
end Go.Proofs.YtgjbnebmcmoilaaGreatDoor
