/- Calls of the examples whose runs are known. -/
import Derived.Test.YtfddpmnbbjofnaaGreatDoorAm
set_option linter.unusedVariables false
set_option linter.unusedSimpArgs false
namespace Go.Proofs.YtfddpmnbbjofnaaGreatDoor
open Go.RowKit
noncomputable def mb_12 : Ax.Memo := { nx := 3317, mx := 0, args := [.slice (some ⟨3065, 0, some 1⟩) 19 19], pre := [(1, .cells [.int .u32 2166136261, .int .u32 16777619] false), (3065, .cells [.int .u8 1, .int .u8 1, .int .u8 97, .int .u8 1, .int .u8 1, .int .u8 1, .int .u8 0, .int .u8 1, .int .u8 1, .int .u8 120, .int .u8 1, .int .u8 1, .int .u8 1, .int .u8 2, .int .u8 1, .int .u8 217, .int .u8 40, .int .u8 48, .int .u8 67] true)], post := [(3065, .cells [.int .u8 1, .int .u8 1, .int .u8 97, .int .u8 1, .int .u8 1, .int .u8 1, .int .u8 0, .int .u8 1, .int .u8 1, .int .u8 120, .int .u8 1, .int .u8 1, .int .u8 1, .int .u8 2, .int .u8 1, .int .u8 217, .int .u8 40, .int .u8 48, .int .u8 67] true), (3348, .cells [.int .i64 1, .int .i64 1, .int .i64 2, .int .u64 1] true), (3350, .cells [.string ⟨⟨[120]⟩⟩, .slice (some ⟨3348, 0, some 4⟩) 1 1] true), (3333, .cells [.int .i64 1, .int .i64 1] true), (3394, .cells [.string ⟨⟨[97]⟩⟩, .slice (some ⟨3333, 0, some 2⟩) 1 1, .slice none 0 0, .slice (some ⟨3350, 0, some 2⟩) 1 1] true)], nx' := 3435, v := .tuple ⟨[.slice (some ⟨3394, 0, some 4⟩) 1 1, .int .i64 0]⟩ }
theorem mb_12_ok : Ax.memoOk 1000 gv.ng mb_12 = true := by kernel_rfl
set_option maxRecDepth 100000 in
theorem mb_12_run (n : Int) : Ax.memoRun (Ax.callB gv 100000 49 mb_12.args 1000 (mb_12.st n)) mb_12 = true := by kernel_rfl
theorem mb_12_done : MemoDone 49 mb_12 := fun E w lo σ args args' v σ' h1 h2 h3 h4 => Ax.memo_frame mb_12_ok (Ax.memo_run gv_types gv_funs gv_mixed mb_12_ok mb_12_run) h1 h2 h3 h4
end Go.Proofs.YtfddpmnbbjofnaaGreatDoor
