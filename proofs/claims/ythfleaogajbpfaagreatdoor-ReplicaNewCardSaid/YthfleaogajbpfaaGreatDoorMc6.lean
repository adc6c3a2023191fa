/- Calls of the examples whose runs are known. -/
import Derived.Test.YthfleaogajbpfaaGreatDoorMcx
set_option linter.unusedVariables false
set_option linter.unusedSimpArgs false
namespace Go.Proofs.YthfleaogajbpfaaGreatDoor
open Go.RowKit
noncomputable def mc_31 : Ax.Memo := { nx := 8350, mx := 0, args := [.slice (some ⟨8177, 0, none⟩) 3 3], pre := [(1, .cells [.int .u32 2166136261, .int .u32 16777619] false), (8175, .cells [.int .i64 7, .int .i64 5] true), (8168, .cells [.int .i64 7, .int .i64 4] true), (8161, .cells [.int .i64 7, .int .i64 3] true), (8177, .cells [.string ⟨⟨[97]⟩⟩, .slice (some ⟨8161, 0, some 2⟩) 1 1, .slice none 0 0, .slice none 0 0, .string ⟨⟨[98]⟩⟩, .slice none 0 0, .slice (some ⟨8168, 0, some 2⟩) 1 1, .slice none 0 0, .string ⟨⟨[99]⟩⟩, .slice none 0 0, .slice (some ⟨8175, 0, some 2⟩) 1 1, .slice none 0 0] true)], post := [(8175, .cells [.int .i64 7, .int .i64 5] true), (8168, .cells [.int .i64 7, .int .i64 4] true), (8161, .cells [.int .i64 7, .int .i64 3] true), (8177, .cells [.string ⟨⟨[97]⟩⟩, .slice (some ⟨8161, 0, some 2⟩) 1 1, .slice none 0 0, .slice none 0 0, .string ⟨⟨[98]⟩⟩, .slice none 0 0, .slice (some ⟨8168, 0, some 2⟩) 1 1, .slice none 0 0, .string ⟨⟨[99]⟩⟩, .slice none 0 0, .slice (some ⟨8175, 0, some 2⟩) 1 1, .slice none 0 0] true), (8551, .cells [.int .u8 3, .int .u8 1, .int .u8 97, .int .u8 1, .int .u8 7, .int .u8 3, .int .u8 0, .int .u8 0, .int .u8 1, .int .u8 98, .int .u8 0, .int .u8 1, .int .u8 7, .int .u8 4, .int .u8 0, .int .u8 1, .int .u8 99, .int .u8 0, .int .u8 1, .int .u8 7, .int .u8 5, .int .u8 0, .int .u8 68, .int .u8 51, .int .u8 109, .int .u8 238] true)], nx' := 8552, v := .tuple ⟨[.slice (some ⟨8551, 0, some 1⟩) 26 26, .int .i64 0]⟩ }
theorem mc_31_ok : Ax.memoOk 1000 gvd.ng mc_31 = true := by kernel_rfl
set_option maxRecDepth 100000 in
theorem mc_31_run (n : Int) : Ax.memoRun (Ax.callB gvd 100000 188 mc_31.args 1000 (mc_31.st n)) mc_31 = true := by kernel_rfl
theorem mc_31_done : MemoDone 188 mc_31 := fun E w lo σ args args' v σ' h1 h2 h3 h4 => Ax.memo_frame mc_31_ok (Ax.memo_run gvd_types gvd_funs gv_mixed mc_31_ok mc_31_run) h1 h2 h3 h4
end Go.Proofs.YthfleaogajbpfaaGreatDoor
