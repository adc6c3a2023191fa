/-
  NARROWER THAN 'FOR EVERY INPUT', by the rows' own cells (each row's printed sentence says how): ReplicaNil: laid · NetNone: laid · JournalNone: laid · ConvergeNone: laid.
  DERIVED. THE GIVEN ROWS OF THIS SEAT. 4 by the template 'for every input the law returns true; each argument reads behind the call as it read before'; 0 by the template 'total and deterministic' (their statements: YtolfflaenjcpcaaGreatDoorTotals.lean).
  GIVEN WITH THE SEED: the statements are not yours to turn. If you find one false, say at which input.
  Laid BY PROGRAM, IN A SANDBOX (cutbox-rows.mjs): the forced cells as the released guide's own fill.sh prints them over the translation b59d46bb98c98ffb… (all of the seat's roots in one cut). By AI agents, Wed Nov 11 2026. No macro, syntax, notation, axiom, sorry.
-/
import Derived.Test.YtolfflaenjcpcaaGreatDoorChecked
import GoSem.PinnedTables
import GoSem.Claim
import GoSem.ClaimJoined
import GoSem.ClaimMapViews
import Derived.JoinedTies
import Derived.KernelRfl
namespace Go.Proofs.YtolfflaenjcpcaaGreatDoor
/- THE CELL 'sum', in the pinned program and in every row, IS THE sha256 OF THE DUMP (.gsa) THAT YtolfflaenjcpcaaGreatDoorProg.lean LOADS. Nothing in Lean hashes anything: it is a label: what it is worth is what the hold of that sum in a sandbox is worth. -/
noncomputable def Tryz.pinned : Pinned := { name := "ytolfflaenjcpcaagreatdoor", sum := "b59d46bb98c98ffb9dd7566d4e7898625fd45ff5919df187e4453cda59b2cb1a", checked := Tryz.checked }
namespace Rows
def none {H : Type} : Left H := { results := [], args := [] }

/- WHAT THE LISTED PACKAGE-LEVEL VARIABLES READ AS WHEN THE CALL BEGINS. Each datum BY PROGRAM (the guide's laid-datum.mjs) off the statement by which the dump's own 'gosem.cut.vars' lays the variable. In a bare row this is a premise. The card (YtolfflaenjcpcaaGreatDoorCards.lean) ties it to the program's text. -/
def laid_unicode_utf8_acceptRanges {H : Type} : DataW H := .agg [.agg [.lit (.int .u8 128), .lit (.int .u8 191)], .agg [.lit (.int .u8 160), .lit (.int .u8 191)], .agg [.lit (.int .u8 128), .lit (.int .u8 159)], .agg [.lit (.int .u8 144), .lit (.int .u8 191)], .agg [.lit (.int .u8 128), .lit (.int .u8 143)], .agg [.lit (.int .u8 0), .lit (.int .u8 0)], .agg [.lit (.int .u8 0), .lit (.int .u8 0)], .agg [.lit (.int .u8 0), .lit (.int .u8 0)], .agg [.lit (.int .u8 0), .lit (.int .u8 0)], .agg [.lit (.int .u8 0), .lit (.int .u8 0)], .agg [.lit (.int .u8 0), .lit (.int .u8 0)], .agg [.lit (.int .u8 0), .lit (.int .u8 0)], .agg [.lit (.int .u8 0), .lit (.int .u8 0)], .agg [.lit (.int .u8 0), .lit (.int .u8 0)], .agg [.lit (.int .u8 0), .lit (.int .u8 0)], .agg [.lit (.int .u8 0), .lit (.int .u8 0)]]
def laid_pannier_hash_small {H : Type} : DataW H := .agg [.lit (.int .u32 2166136261), .lit (.int .u32 16777619)]
/-- One of Go's own tables, pinned by name: the form's constant. -/
def laid_unicode_utf8_first : DataW Unit := Go.Pinned.utf8First
def laid_pannier_client_rows {H : Type} : DataW H := .agg [.agg [.lit (.string []), .lit (.string [])], .agg [.lit (.string [97, 100, 100]), .lit (.string [107, 113, 105])], .agg [.lit (.string [115, 101, 116]), .lit (.string [107, 113, 105])], .agg [.lit (.string [114, 101, 109, 111, 118, 101]), .lit (.string [107, 105])], .agg [.lit (.string [103, 101, 116]), .lit (.string [107])], .agg [.lit (.string [99, 108, 101, 97, 114]), .lit (.string [107])], .agg [.lit (.string [119, 105, 115, 104]), .lit (.string [107, 111, 105])], .agg [.lit (.string [108, 111, 103, 105, 110]), .lit (.string [107, 111])], .agg [.lit (.string [100, 101, 108, 105, 118, 101, 114]), .lit (.string [100])], .agg [.lit (.string [109, 101, 114, 103, 101]), .lit (.string [])], .agg [.lit (.string [100, 114, 97, 105, 110]), .lit (.string [])], .agg [.lit (.string [99, 108, 111, 115, 101]), .lit (.string [])]]

/-- 'pannierlaw23.ReplicaNil': WHATEVER THE INPUT: true; the input reads as it did. -/
def replicaNilSpec : ChangeSpec := { name := "replicaNil", fn := fun _ => fun
  | [d1, d2] => { results := [.lit (.bool true)], args := [d1, d2] }
  | _ => none }
def replicaNilRow : OpenClaim := { program := "ytolfflaenjcpcaagreatdoor", sum := "b59d46bb98c98ffb9dd7566d4e7898625fd45ff5919df187e4453cda59b2cb1a", func := "pannier/pannierlaw23.ReplicaNil", spec := "replicaNil", inPlace := ["internal/bytealg.IndexByteString", "internal/bytealg.IndexString", "internal/bytealg.abigen_runtime_cmpstring", "slices.overlaps[string]", "maps.clone"], unfollowed := true, recurses := true, named := ["unicode/utf8.first", "unicode/utf8.acceptRanges", "internal/bytealg.MaxLen", "pannier/hash.small"], apart := false, laid := [("unicode/utf8.acceptRanges", laid_unicode_utf8_acceptRanges), ("pannier/hash.small", laid_pannier_hash_small), ("unicode/utf8.first", laid_unicode_utf8_first)] }
def ReplicaNilSaid : Prop := replicaNilRow.holds Tryz.pinned (OpenSpec.ofChange replicaNilSpec)

/-- ITS FALSE NEIGHBOUR: 'it returns false'. Refute it at one input. -/
def replicaNilWrong : ChangeSpec := { name := "replicaNil", fn := fun _ => fun
  | [d1, d2] => { results := [.lit (.bool false)], args := [d1, d2] }
  | _ => none }
def ReplicaNilWrongFalsely : Prop := replicaNilRow.holds Tryz.pinned (OpenSpec.ofChange replicaNilWrong)

/-- 'pannierlaw37.NetNone': WHATEVER THE INPUT: true; the input reads as it did. -/
def netNoneSpec : ChangeSpec := { name := "netNone", fn := fun _ => fun
  | [d1, d2] => { results := [.lit (.bool true)], args := [d1, d2] }
  | _ => none }
def netNoneRow : OpenClaim := { program := "ytolfflaenjcpcaagreatdoor", sum := "b59d46bb98c98ffb9dd7566d4e7898625fd45ff5919df187e4453cda59b2cb1a", func := "pannier/pannierlaw37.NetNone", spec := "netNone", inPlace := ["internal/bytealg.IndexByteString", "internal/bytealg.IndexString", "internal/bytealg.abigen_runtime_cmpstring", "slices.overlaps[string]", "maps.clone"], unfollowed := true, recurses := true, named := ["unicode/utf8.first", "unicode/utf8.acceptRanges", "internal/bytealg.MaxLen", "pannier/hash.small"], apart := false, laid := [("unicode/utf8.acceptRanges", laid_unicode_utf8_acceptRanges), ("pannier/hash.small", laid_pannier_hash_small), ("unicode/utf8.first", laid_unicode_utf8_first)] }
def NetNoneSaid : Prop := netNoneRow.holds Tryz.pinned (OpenSpec.ofChange netNoneSpec)

/-- ITS FALSE NEIGHBOUR: 'it returns false'. Refute it at one input. -/
def netNoneWrong : ChangeSpec := { name := "netNone", fn := fun _ => fun
  | [d1, d2] => { results := [.lit (.bool false)], args := [d1, d2] }
  | _ => none }
def NetNoneWrongFalsely : Prop := netNoneRow.holds Tryz.pinned (OpenSpec.ofChange netNoneWrong)

/-- 'pannierlaw41.JournalNone': WHATEVER THE INPUT: true; the input reads as it did. -/
def journalNoneSpec : ChangeSpec := { name := "journalNone", fn := fun _ => fun
  | [d1, d2] => { results := [.lit (.bool true)], args := [d1, d2] }
  | _ => none }
def journalNoneRow : OpenClaim := { program := "ytolfflaenjcpcaagreatdoor", sum := "b59d46bb98c98ffb9dd7566d4e7898625fd45ff5919df187e4453cda59b2cb1a", func := "pannier/pannierlaw41.JournalNone", spec := "journalNone", inPlace := ["internal/bytealg.IndexByteString", "internal/bytealg.IndexString", "internal/bytealg.abigen_runtime_cmpstring", "slices.overlaps[string]"], unfollowed := true, recurses := true, named := ["pannier/client.rows", "internal/bytealg.MaxLen", "unicode/utf8.first", "unicode/utf8.acceptRanges", "pannier/hash.small"], apart := false, laid := [("unicode/utf8.acceptRanges", laid_unicode_utf8_acceptRanges), ("pannier/hash.small", laid_pannier_hash_small), ("pannier/client.rows", laid_pannier_client_rows), ("unicode/utf8.first", laid_unicode_utf8_first)] }
def JournalNoneSaid : Prop := journalNoneRow.holds Tryz.pinned (OpenSpec.ofChange journalNoneSpec)

/-- ITS FALSE NEIGHBOUR: 'it returns false'. Refute it at one input. -/
def journalNoneWrong : ChangeSpec := { name := "journalNone", fn := fun _ => fun
  | [d1, d2] => { results := [.lit (.bool false)], args := [d1, d2] }
  | _ => none }
def JournalNoneWrongFalsely : Prop := journalNoneRow.holds Tryz.pinned (OpenSpec.ofChange journalNoneWrong)

/-- 'pannierlaw38.ConvergeNone': WHATEVER THE INPUT: true; the input reads as it did. -/
def convergeNoneSpec : ChangeSpec := { name := "convergeNone", fn := fun _ => fun
  | [] => { results := [.lit (.bool true)], args := [] }
  | _ => none }
def convergeNoneRow : OpenClaim := { program := "ytolfflaenjcpcaagreatdoor", sum := "b59d46bb98c98ffb9dd7566d4e7898625fd45ff5919df187e4453cda59b2cb1a", func := "pannier/pannierlaw38.ConvergeNone", spec := "convergeNone", inPlace := ["maps.clone", "internal/bytealg.IndexByteString", "internal/bytealg.IndexString", "internal/bytealg.abigen_runtime_cmpstring", "slices.overlaps[string]"], unfollowed := true, recurses := true, named := ["unicode/utf8.first", "unicode/utf8.acceptRanges", "internal/bytealg.MaxLen", "pannier/hash.small"], apart := false, laid := [("unicode/utf8.acceptRanges", laid_unicode_utf8_acceptRanges), ("pannier/hash.small", laid_pannier_hash_small), ("unicode/utf8.first", laid_unicode_utf8_first)] }
def ConvergeNoneSaid : Prop := convergeNoneRow.holds Tryz.pinned (OpenSpec.ofChange convergeNoneSpec)

/-- ITS FALSE NEIGHBOUR: 'it returns false'. Refute it at one input. -/
def convergeNoneWrong : ChangeSpec := { name := "convergeNone", fn := fun _ => fun
  | [] => { results := [.lit (.bool false)], args := [] }
  | _ => none }
def ConvergeNoneWrongFalsely : Prop := convergeNoneRow.holds Tryz.pinned (OpenSpec.ofChange convergeNoneWrong)

/- THE SECOND FORM. 'bulk': how many values and letters a reading holds, each counted each time it is reached (what is shared counts as often as it is met; a slice's spare places count too). A statement '..UptoSaid' is the law's where the arguments, and the package variables that the reading takes, are together of bulk at most 1048576: NARROWER than '..Said'. Prove '..Said' where nothing that the law and all that it calls make is longer than what came in: it says more and counts as full. Else prove '..UptoSaid'. A law counts once. -/
mutual
def uptoBulk {H : Type} : DataW H → Nat
  | .lit (.string bytes) => bytes.length + 1
  | .lit _ => 1
  | .nil => 1
  | .ptr d => uptoBulk d + 1
  | .slice elems spare => uptoBulkAll elems + uptoBulkAll spare + 1
  | .agg parts => uptoBulkAll parts + 1
  | .iface _ d => uptoBulk d + 1
  | .map entries => uptoBulkEntries entries + 1
  | .held _ => 1
def uptoBulkAll {H : Type} : List (DataW H) → Nat
  | [] => 0
  | d :: r => uptoBulk d + uptoBulkAll r
def uptoBulkEntries {H : Type} : List (Lit × DataW H) → Nat
  | [] => 0
  | x :: r => uptoBulkEntry x + uptoBulkEntries r
def uptoBulkEntry {H : Type} : Lit × DataW H → Nat
  | (.string bytes, d) => bytes.length + uptoBulk d + 1
  | (_, d) => uptoBulk d + 1
 end
def uptoSmall : (H : Type) → List (DataW H) → Bool := fun _ ds => decide (uptoBulkAll ds ≤ 1048576)
def OpenSpec.upto (s : _root_.Go.ChangeSpec) : _root_.Go.OpenSpec := { _root_.Go.OpenSpec.ofChange s with cond := some uptoSmall }

/-- 'pannierlaw23.ReplicaNil', WHERE WHAT IT READS IS OF BULK AT MOST 1048576: true; the input reads as it did. -/
def replicaNilUptoRow : OpenClaim := { program := "ytolfflaenjcpcaagreatdoor", sum := "b59d46bb98c98ffb9dd7566d4e7898625fd45ff5919df187e4453cda59b2cb1a", func := "pannier/pannierlaw23.ReplicaNil", spec := "replicaNil", inPlace := ["internal/bytealg.IndexByteString", "internal/bytealg.IndexString", "internal/bytealg.abigen_runtime_cmpstring", "slices.overlaps[string]", "maps.clone"], unfollowed := true, recurses := true, named := ["unicode/utf8.first", "unicode/utf8.acceptRanges", "internal/bytealg.MaxLen", "pannier/hash.small"], apart := false, laid := [("unicode/utf8.acceptRanges", laid_unicode_utf8_acceptRanges), ("pannier/hash.small", laid_pannier_hash_small), ("unicode/utf8.first", laid_unicode_utf8_first)], narrowed := true }
def ReplicaNilUptoSaid : Prop := replicaNilUptoRow.holds Tryz.pinned (OpenSpec.upto replicaNilSpec)

/-- 'pannierlaw37.NetNone', WHERE WHAT IT READS IS OF BULK AT MOST 1048576: true; the input reads as it did. -/
def netNoneUptoRow : OpenClaim := { program := "ytolfflaenjcpcaagreatdoor", sum := "b59d46bb98c98ffb9dd7566d4e7898625fd45ff5919df187e4453cda59b2cb1a", func := "pannier/pannierlaw37.NetNone", spec := "netNone", inPlace := ["internal/bytealg.IndexByteString", "internal/bytealg.IndexString", "internal/bytealg.abigen_runtime_cmpstring", "slices.overlaps[string]", "maps.clone"], unfollowed := true, recurses := true, named := ["unicode/utf8.first", "unicode/utf8.acceptRanges", "internal/bytealg.MaxLen", "pannier/hash.small"], apart := false, laid := [("unicode/utf8.acceptRanges", laid_unicode_utf8_acceptRanges), ("pannier/hash.small", laid_pannier_hash_small), ("unicode/utf8.first", laid_unicode_utf8_first)], narrowed := true }
def NetNoneUptoSaid : Prop := netNoneUptoRow.holds Tryz.pinned (OpenSpec.upto netNoneSpec)

/-- 'pannierlaw41.JournalNone', WHERE WHAT IT READS IS OF BULK AT MOST 1048576: true; the input reads as it did. -/
def journalNoneUptoRow : OpenClaim := { program := "ytolfflaenjcpcaagreatdoor", sum := "b59d46bb98c98ffb9dd7566d4e7898625fd45ff5919df187e4453cda59b2cb1a", func := "pannier/pannierlaw41.JournalNone", spec := "journalNone", inPlace := ["internal/bytealg.IndexByteString", "internal/bytealg.IndexString", "internal/bytealg.abigen_runtime_cmpstring", "slices.overlaps[string]"], unfollowed := true, recurses := true, named := ["pannier/client.rows", "internal/bytealg.MaxLen", "unicode/utf8.first", "unicode/utf8.acceptRanges", "pannier/hash.small"], apart := false, laid := [("unicode/utf8.acceptRanges", laid_unicode_utf8_acceptRanges), ("pannier/hash.small", laid_pannier_hash_small), ("pannier/client.rows", laid_pannier_client_rows), ("unicode/utf8.first", laid_unicode_utf8_first)], narrowed := true }
def JournalNoneUptoSaid : Prop := journalNoneUptoRow.holds Tryz.pinned (OpenSpec.upto journalNoneSpec)

/-- 'pannierlaw38.ConvergeNone', WHERE WHAT IT READS IS OF BULK AT MOST 1048576: true; the input reads as it did. -/
def convergeNoneUptoRow : OpenClaim := { program := "ytolfflaenjcpcaagreatdoor", sum := "b59d46bb98c98ffb9dd7566d4e7898625fd45ff5919df187e4453cda59b2cb1a", func := "pannier/pannierlaw38.ConvergeNone", spec := "convergeNone", inPlace := ["maps.clone", "internal/bytealg.IndexByteString", "internal/bytealg.IndexString", "internal/bytealg.abigen_runtime_cmpstring", "slices.overlaps[string]"], unfollowed := true, recurses := true, named := ["unicode/utf8.first", "unicode/utf8.acceptRanges", "internal/bytealg.MaxLen", "pannier/hash.small"], apart := false, laid := [("unicode/utf8.acceptRanges", laid_unicode_utf8_acceptRanges), ("pannier/hash.small", laid_pannier_hash_small), ("unicode/utf8.first", laid_unicode_utf8_first)], narrowed := true }
def ConvergeNoneUptoSaid : Prop := convergeNoneUptoRow.holds Tryz.pinned (OpenSpec.upto convergeNoneSpec)

end Rows
end Go.Proofs.YtolfflaenjcpcaaGreatDoor
