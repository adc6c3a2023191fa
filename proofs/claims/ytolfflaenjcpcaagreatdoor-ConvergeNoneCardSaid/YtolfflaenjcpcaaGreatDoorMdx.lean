/- Calls in which maps are ranged over: in all orders. -/
import Derived.Test.YtolfflaenjcpcaaGreatDoorSs
set_option linter.unusedVariables false
set_option linter.unusedSimpArgs false
namespace Go.Proofs.YtolfflaenjcpcaaGreatDoor
open Go.RowKit
noncomputable def mdx_0 : Ax.Memo := { nx := 2076, mx := 2, args := [.func (.func 262) ⟨[]⟩ ⟨[.pointer (some ⟨2075, 0, none⟩)]⟩], pre := [(1, .cells [.int .u32 2166136261, .int .u32 16777619] false), (2068, .cells [.int .i64 2, .int .i64 1, .int .i64 3, .int .u64 1] true), (2065, .cells [.string ⟨⟨[121]⟩⟩, .slice (some ⟨2068, 0, some 4⟩) 1 1] true), (2063, .cells [.int .i64 2, .int .i64 1] true), (2028, .cells [.int .i64 1, .int .i64 1, .int .i64 2, .int .u64 1] true), (2025, .cells [.string ⟨⟨[120]⟩⟩, .slice (some ⟨2028, 0, some 4⟩) 1 1] true), (2023, .cells [.int .i64 1, .int .i64 1] true), (2074, .cells [.slice (some ⟨2023, 0, some 2⟩) 1 1, .slice none 0 0, .slice (some ⟨2025, 0, some 2⟩) 1 1, .slice (some ⟨2063, 0, some 2⟩) 1 1, .slice none 0 0, .slice (some ⟨2065, 0, some 2⟩) 1 1] true), (1994, .map [(.string ⟨⟨[97]⟩⟩, .slice (some ⟨2074, 0, some 3⟩) 2 2, 0)] 1), (2075, .cells [.map (some 1994)] true)], post := [(2068, .cells [.int .i64 2, .int .i64 1, .int .i64 3, .int .u64 1] true), (2065, .cells [.string ⟨⟨[121]⟩⟩, .slice (some ⟨2068, 0, some 4⟩) 1 1] true), (2063, .cells [.int .i64 2, .int .i64 1] true), (2028, .cells [.int .i64 1, .int .i64 1, .int .i64 2, .int .u64 1] true), (2025, .cells [.string ⟨⟨[120]⟩⟩, .slice (some ⟨2028, 0, some 4⟩) 1 1] true), (2023, .cells [.int .i64 1, .int .i64 1] true), (2074, .cells [.slice (some ⟨2023, 0, some 2⟩) 1 1, .slice none 0 0, .slice (some ⟨2025, 0, some 2⟩) 1 1, .slice (some ⟨2063, 0, some 2⟩) 1 1, .slice none 0 0, .slice (some ⟨2065, 0, some 2⟩) 1 1] true), (1994, .map [(.string ⟨⟨[97]⟩⟩, .slice (some ⟨2074, 0, some 3⟩) 2 2, 0)] 1), (2075, .cells [.map (some 1994)] true), (2076, .cells [.string ⟨⟨[97]⟩⟩] true)], nx' := 2077, v := .slice (some ⟨2076, 0, some 1⟩) 1 1 }
theorem mdx_0_ok : Ax.memoOk 1000 gvc.ng mdx_0 = true := by kernel_rfl
theorem mdx_0_done : MemoDone 199 mdx_0 := memo_sumS mdx_0_ok fun n => (by kernel_rfl)
noncomputable def mdx_1 : Ax.Memo := { nx := 2416, mx := 2, args := [.slice (some ⟨2415, 0, some 2⟩) 2 2], pre := [(1, .cells [.int .u32 2166136261, .int .u32 16777619] false), (2415, .cells [.int .i64 1, .int .i64 1, .int .i64 2, .int .i64 1] true)], post := [(2415, .cells [.int .i64 1, .int .i64 1, .int .i64 2, .int .i64 1] true), (2423, .cells [.int .i64 1, .int .i64 1, .int .i64 2, .int .i64 1] true)], nx' := 2426, v := .slice (some ⟨2423, 0, some 2⟩) 2 2 }
theorem mdx_1_ok : Ax.memoOk 1000 gvc.ng mdx_1 = true := by kernel_rfl
set_option maxRecDepth 100000 in
theorem mdx_1_run (n : Int) : Ax.memoRunM (Ax.callM gvc 100000 365 mdx_1.args 1000 (mdx_1.st n)) mdx_1 = true := by kernel_rfl
theorem mdx_1_done : MemoDone 365 mdx_1 := fun E w lo σ args args' v σ' h1 h2 h3 h4 => Ax.memo_frame mdx_1_ok (Ax.memo_runM gvc_types gvc_funs gv_mixed mdx_1_ok mdx_1_run) h1 h2 h3 h4
noncomputable def mdx_2 : Ax.Memo := { nx := 2728, mx := 2, args := [.func (.func 262) ⟨[]⟩ ⟨[.pointer (some ⟨2727, 0, none⟩)]⟩], pre := [(1, .cells [.int .u32 2166136261, .int .u32 16777619] false), (2720, .cells [.int .i64 2, .int .i64 1, .int .i64 3, .int .u64 1] true), (2717, .cells [.string ⟨⟨[121]⟩⟩, .slice (some ⟨2720, 0, some 4⟩) 1 1] true), (2715, .cells [.int .i64 2, .int .i64 1] true), (2680, .cells [.int .i64 1, .int .i64 1, .int .i64 2, .int .u64 1] true), (2677, .cells [.string ⟨⟨[120]⟩⟩, .slice (some ⟨2680, 0, some 4⟩) 1 1] true), (2675, .cells [.int .i64 1, .int .i64 1] true), (2726, .cells [.slice (some ⟨2675, 0, some 2⟩) 1 1, .slice none 0 0, .slice (some ⟨2677, 0, some 2⟩) 1 1, .slice (some ⟨2715, 0, some 2⟩) 1 1, .slice none 0 0, .slice (some ⟨2717, 0, some 2⟩) 1 1] true), (2646, .map [(.string ⟨⟨[97]⟩⟩, .slice (some ⟨2726, 0, some 3⟩) 2 2, 0)] 1), (2727, .cells [.map (some 2646)] true)], post := [(2720, .cells [.int .i64 2, .int .i64 1, .int .i64 3, .int .u64 1] true), (2717, .cells [.string ⟨⟨[121]⟩⟩, .slice (some ⟨2720, 0, some 4⟩) 1 1] true), (2715, .cells [.int .i64 2, .int .i64 1] true), (2680, .cells [.int .i64 1, .int .i64 1, .int .i64 2, .int .u64 1] true), (2677, .cells [.string ⟨⟨[120]⟩⟩, .slice (some ⟨2680, 0, some 4⟩) 1 1] true), (2675, .cells [.int .i64 1, .int .i64 1] true), (2726, .cells [.slice (some ⟨2675, 0, some 2⟩) 1 1, .slice none 0 0, .slice (some ⟨2677, 0, some 2⟩) 1 1, .slice (some ⟨2715, 0, some 2⟩) 1 1, .slice none 0 0, .slice (some ⟨2717, 0, some 2⟩) 1 1] true), (2646, .map [(.string ⟨⟨[97]⟩⟩, .slice (some ⟨2726, 0, some 3⟩) 2 2, 0)] 1), (2727, .cells [.map (some 2646)] true), (2728, .cells [.string ⟨⟨[97]⟩⟩] true)], nx' := 2729, v := .slice (some ⟨2728, 0, some 1⟩) 1 1 }
theorem mdx_2_ok : Ax.memoOk 1000 gvc.ng mdx_2 = true := by kernel_rfl
theorem mdx_2_done : MemoDone 199 mdx_2 := memo_sumS mdx_2_ok fun n => (by kernel_rfl)
noncomputable def mdx_3 : Ax.Memo := { nx := 3068, mx := 2, args := [.slice (some ⟨3067, 0, some 2⟩) 2 2], pre := [(1, .cells [.int .u32 2166136261, .int .u32 16777619] false), (3067, .cells [.int .i64 1, .int .i64 1, .int .i64 2, .int .i64 1] true)], post := [(3067, .cells [.int .i64 1, .int .i64 1, .int .i64 2, .int .i64 1] true), (3075, .cells [.int .i64 1, .int .i64 1, .int .i64 2, .int .i64 1] true)], nx' := 3078, v := .slice (some ⟨3075, 0, some 2⟩) 2 2 }
theorem mdx_3_ok : Ax.memoOk 1000 gvc.ng mdx_3 = true := by kernel_rfl
set_option maxRecDepth 100000 in
theorem mdx_3_run (n : Int) : Ax.memoRunM (Ax.callM gvc 100000 365 mdx_3.args 1000 (mdx_3.st n)) mdx_3 = true := by kernel_rfl
theorem mdx_3_done : MemoDone 365 mdx_3 := fun E w lo σ args args' v σ' h1 h2 h3 h4 => Ax.memo_frame mdx_3_ok (Ax.memo_runM gvc_types gvc_funs gv_mixed mdx_3_ok mdx_3_run) h1 h2 h3 h4
noncomputable def mdx_4 : Ax.Memo := { nx := 3474, mx := 2, args := [.slice (some ⟨3473, 0, some 2⟩) 3 3], pre := [(1, .cells [.int .u32 2166136261, .int .u32 16777619] false), (3473, .cells [.int .i64 1, .int .i64 1, .int .i64 2, .int .i64 1, .int .i64 1, .int .i64 1] true)], post := [(3473, .cells [.int .i64 1, .int .i64 1, .int .i64 2, .int .i64 1, .int .i64 1, .int .i64 1] true), (3482, .cells [.int .i64 1, .int .i64 1, .int .i64 2, .int .i64 1] true)], nx' := 3485, v := .slice (some ⟨3482, 0, some 2⟩) 2 2 }
theorem mdx_4_ok : Ax.memoOk 1000 gvc.ng mdx_4 = true := by kernel_rfl
set_option maxRecDepth 100000 in
theorem mdx_4_run (n : Int) : Ax.memoRunM (Ax.callM gvc 100000 365 mdx_4.args 1000 (mdx_4.st n)) mdx_4 = true := by kernel_rfl
theorem mdx_4_done : MemoDone 365 mdx_4 := fun E w lo σ args args' v σ' h1 h2 h3 h4 => Ax.memo_frame mdx_4_ok (Ax.memo_runM gvc_types gvc_funs gv_mixed mdx_4_ok mdx_4_run) h1 h2 h3 h4
noncomputable def mdx_5 : Ax.Memo := { nx := 3894, mx := 2, args := [.slice (some ⟨3893, 0, some 2⟩) 3 3], pre := [(1, .cells [.int .u32 2166136261, .int .u32 16777619] false), (3893, .cells [.int .i64 1, .int .i64 1, .int .i64 2, .int .i64 1, .int .i64 2, .int .i64 1] true)], post := [(3893, .cells [.int .i64 1, .int .i64 1, .int .i64 2, .int .i64 1, .int .i64 2, .int .i64 1] true), (3902, .cells [.int .i64 1, .int .i64 1, .int .i64 2, .int .i64 1] true)], nx' := 3905, v := .slice (some ⟨3902, 0, some 2⟩) 2 2 }
theorem mdx_5_ok : Ax.memoOk 1000 gvc.ng mdx_5 = true := by kernel_rfl
set_option maxRecDepth 100000 in
theorem mdx_5_run (n : Int) : Ax.memoRunM (Ax.callM gvc 100000 365 mdx_5.args 1000 (mdx_5.st n)) mdx_5 = true := by kernel_rfl
theorem mdx_5_done : MemoDone 365 mdx_5 := fun E w lo σ args args' v σ' h1 h2 h3 h4 => Ax.memo_frame mdx_5_ok (Ax.memo_runM gvc_types gvc_funs gv_mixed mdx_5_ok mdx_5_run) h1 h2 h3 h4
noncomputable def mdx_6 : Ax.Memo := { nx := 5692, mx := 2, args := [.slice (some ⟨5691, 0, some 2⟩) 2 2], pre := [(1, .cells [.int .u32 2166136261, .int .u32 16777619] false), (5691, .cells [.int .i64 1, .int .i64 1, .int .i64 2, .int .i64 1] true)], post := [(5691, .cells [.int .i64 1, .int .i64 1, .int .i64 2, .int .i64 1] true), (5699, .cells [.int .i64 1, .int .i64 1, .int .i64 2, .int .i64 1] true)], nx' := 5702, v := .slice (some ⟨5699, 0, some 2⟩) 2 2 }
theorem mdx_6_ok : Ax.memoOk 1000 gvc.ng mdx_6 = true := by kernel_rfl
set_option maxRecDepth 100000 in
theorem mdx_6_run (n : Int) : Ax.memoRunM (Ax.callM gvc 100000 365 mdx_6.args 1000 (mdx_6.st n)) mdx_6 = true := by kernel_rfl
theorem mdx_6_done : MemoDone 365 mdx_6 := fun E w lo σ args args' v σ' h1 h2 h3 h4 => Ax.memo_frame mdx_6_ok (Ax.memo_runM gvc_types gvc_funs gv_mixed mdx_6_ok mdx_6_run) h1 h2 h3 h4
noncomputable def mdx_7 : Ax.Memo := { nx := 6786, mx := 2, args := [.slice (some ⟨6785, 0, some 2⟩) 2 2], pre := [(1, .cells [.int .u32 2166136261, .int .u32 16777619] false), (6785, .cells [.int .i64 2, .int .i64 1, .int .i64 1, .int .i64 1] true)], post := [(6785, .cells [.int .i64 2, .int .i64 1, .int .i64 1, .int .i64 1] true), (6793, .cells [.int .i64 1, .int .i64 1, .int .i64 2, .int .i64 1] true)], nx' := 6796, v := .slice (some ⟨6793, 0, some 2⟩) 2 2 }
theorem mdx_7_ok : Ax.memoOk 1000 gvc.ng mdx_7 = true := by kernel_rfl
set_option maxRecDepth 100000 in
theorem mdx_7_run (n : Int) : Ax.memoRunM (Ax.callM gvc 100000 365 mdx_7.args 1000 (mdx_7.st n)) mdx_7 = true := by kernel_rfl
theorem mdx_7_done : MemoDone 365 mdx_7 := fun E w lo σ args args' v σ' h1 h2 h3 h4 => Ax.memo_frame mdx_7_ok (Ax.memo_runM gvc_types gvc_funs gv_mixed mdx_7_ok mdx_7_run) h1 h2 h3 h4
noncomputable def mdx_8 : Ax.Memo := { nx := 7217, mx := 2, args := [.func (.func 262) ⟨[]⟩ ⟨[.pointer (some ⟨7216, 0, none⟩)]⟩], pre := [(1, .cells [.int .u32 2166136261, .int .u32 16777619] false), (7209, .cells [.int .i64 2, .int .i64 1, .int .i64 3, .int .u64 1] true), (7206, .cells [.int .i64 1, .int .i64 1, .int .i64 2, .int .u64 1] true), (7203, .cells [.string ⟨⟨[120]⟩⟩, .slice (some ⟨7206, 0, some 4⟩) 1 1, .string ⟨⟨[121]⟩⟩, .slice (some ⟨7209, 0, some 4⟩) 1 1] true), (7201, .cells [.int .i64 1, .int .i64 1, .int .i64 2, .int .i64 1] true), (7166, .cells [.int .i64 2, .int .i64 1, .int .i64 3, .int .u64 1] true), (7163, .cells [.int .i64 1, .int .i64 1, .int .i64 2, .int .u64 1] true), (7160, .cells [.string ⟨⟨[120]⟩⟩, .slice (some ⟨7163, 0, some 4⟩) 1 1, .string ⟨⟨[121]⟩⟩, .slice (some ⟨7166, 0, some 4⟩) 1 1] true), (7158, .cells [.int .i64 1, .int .i64 1, .int .i64 2, .int .i64 1] true), (7215, .cells [.slice (some ⟨7158, 0, some 2⟩) 2 2, .slice none 0 0, .slice (some ⟨7160, 0, some 2⟩) 2 2, .slice (some ⟨7201, 0, some 2⟩) 2 2, .slice none 0 0, .slice (some ⟨7203, 0, some 2⟩) 2 2] true), (7129, .map [(.string ⟨⟨[97]⟩⟩, .slice (some ⟨7215, 0, some 3⟩) 2 2, 0)] 1), (7216, .cells [.map (some 7129)] true)], post := [(7209, .cells [.int .i64 2, .int .i64 1, .int .i64 3, .int .u64 1] true), (7206, .cells [.int .i64 1, .int .i64 1, .int .i64 2, .int .u64 1] true), (7203, .cells [.string ⟨⟨[120]⟩⟩, .slice (some ⟨7206, 0, some 4⟩) 1 1, .string ⟨⟨[121]⟩⟩, .slice (some ⟨7209, 0, some 4⟩) 1 1] true), (7201, .cells [.int .i64 1, .int .i64 1, .int .i64 2, .int .i64 1] true), (7166, .cells [.int .i64 2, .int .i64 1, .int .i64 3, .int .u64 1] true), (7163, .cells [.int .i64 1, .int .i64 1, .int .i64 2, .int .u64 1] true), (7160, .cells [.string ⟨⟨[120]⟩⟩, .slice (some ⟨7163, 0, some 4⟩) 1 1, .string ⟨⟨[121]⟩⟩, .slice (some ⟨7166, 0, some 4⟩) 1 1] true), (7158, .cells [.int .i64 1, .int .i64 1, .int .i64 2, .int .i64 1] true), (7215, .cells [.slice (some ⟨7158, 0, some 2⟩) 2 2, .slice none 0 0, .slice (some ⟨7160, 0, some 2⟩) 2 2, .slice (some ⟨7201, 0, some 2⟩) 2 2, .slice none 0 0, .slice (some ⟨7203, 0, some 2⟩) 2 2] true), (7129, .map [(.string ⟨⟨[97]⟩⟩, .slice (some ⟨7215, 0, some 3⟩) 2 2, 0)] 1), (7216, .cells [.map (some 7129)] true), (7217, .cells [.string ⟨⟨[97]⟩⟩] true)], nx' := 7218, v := .slice (some ⟨7217, 0, some 1⟩) 1 1 }
theorem mdx_8_ok : Ax.memoOk 1000 gvc.ng mdx_8 = true := by kernel_rfl
theorem mdx_8_done : MemoDone 199 mdx_8 := memo_sumS mdx_8_ok fun n => (by kernel_rfl)
noncomputable def mdx_9 : Ax.Memo := { nx := 7411, mx := 2, args := [.slice (some ⟨7410, 0, some 2⟩) 2 2], pre := [(1, .cells [.int .u32 2166136261, .int .u32 16777619] false), (7410, .cells [.int .i64 1, .int .i64 1, .int .i64 2, .int .i64 1] true)], post := [(7410, .cells [.int .i64 1, .int .i64 1, .int .i64 2, .int .i64 1] true), (7418, .cells [.int .i64 1, .int .i64 1, .int .i64 2, .int .i64 1] true)], nx' := 7421, v := .slice (some ⟨7418, 0, some 2⟩) 2 2 }
theorem mdx_9_ok : Ax.memoOk 1000 gvc.ng mdx_9 = true := by kernel_rfl
set_option maxRecDepth 100000 in
theorem mdx_9_run (n : Int) : Ax.memoRunM (Ax.callM gvc 100000 365 mdx_9.args 1000 (mdx_9.st n)) mdx_9 = true := by kernel_rfl
theorem mdx_9_done : MemoDone 365 mdx_9 := fun E w lo σ args args' v σ' h1 h2 h3 h4 => Ax.memo_frame mdx_9_ok (Ax.memo_runM gvc_types gvc_funs gv_mixed mdx_9_ok mdx_9_run) h1 h2 h3 h4
noncomputable def mdx_10 : Ax.Memo := { nx := 7855, mx := 2, args := [.slice (some ⟨7854, 0, some 2⟩) 4 4], pre := [(1, .cells [.int .u32 2166136261, .int .u32 16777619] false), (7854, .cells [.int .i64 1, .int .i64 1, .int .i64 2, .int .i64 1, .int .i64 1, .int .i64 1, .int .i64 2, .int .i64 1] true)], post := [(7854, .cells [.int .i64 1, .int .i64 1, .int .i64 2, .int .i64 1, .int .i64 1, .int .i64 1, .int .i64 2, .int .i64 1] true), (7864, .cells [.int .i64 1, .int .i64 1, .int .i64 2, .int .i64 1] true)], nx' := 7867, v := .slice (some ⟨7864, 0, some 2⟩) 2 2 }
theorem mdx_10_ok : Ax.memoOk 1000 gvc.ng mdx_10 = true := by kernel_rfl
set_option maxRecDepth 100000 in
theorem mdx_10_run (n : Int) : Ax.memoRunM (Ax.callM gvc 100000 365 mdx_10.args 1000 (mdx_10.st n)) mdx_10 = true := by kernel_rfl
theorem mdx_10_done : MemoDone 365 mdx_10 := fun E w lo σ args args' v σ' h1 h2 h3 h4 => Ax.memo_frame mdx_10_ok (Ax.memo_runM gvc_types gvc_funs gv_mixed mdx_10_ok mdx_10_run) h1 h2 h3 h4
noncomputable def mdx_11 : Ax.Memo := { nx := 8372, mx := 2, args := [.slice (some ⟨8371, 0, some 2⟩) 4 4], pre := [(1, .cells [.int .u32 2166136261, .int .u32 16777619] false), (8371, .cells [.int .i64 1, .int .i64 1, .int .i64 2, .int .i64 1, .int .i64 1, .int .i64 1, .int .i64 2, .int .i64 1] true)], post := [(8371, .cells [.int .i64 1, .int .i64 1, .int .i64 2, .int .i64 1, .int .i64 1, .int .i64 1, .int .i64 2, .int .i64 1] true), (8381, .cells [.int .i64 1, .int .i64 1, .int .i64 2, .int .i64 1] true)], nx' := 8384, v := .slice (some ⟨8381, 0, some 2⟩) 2 2 }
theorem mdx_11_ok : Ax.memoOk 1000 gvc.ng mdx_11 = true := by kernel_rfl
set_option maxRecDepth 100000 in
theorem mdx_11_run (n : Int) : Ax.memoRunM (Ax.callM gvc 100000 365 mdx_11.args 1000 (mdx_11.st n)) mdx_11 = true := by kernel_rfl
theorem mdx_11_done : MemoDone 365 mdx_11 := fun E w lo σ args args' v σ' h1 h2 h3 h4 => Ax.memo_frame mdx_11_ok (Ax.memo_runM gvc_types gvc_funs gv_mixed mdx_11_ok mdx_11_run) h1 h2 h3 h4
noncomputable def mdx_12 : Ax.Memo := { nx := 8898, mx := 2, args := [.slice (some ⟨8897, 0, some 2⟩) 4 4], pre := [(1, .cells [.int .u32 2166136261, .int .u32 16777619] false), (8897, .cells [.int .i64 1, .int .i64 1, .int .i64 2, .int .i64 1, .int .i64 1, .int .i64 1, .int .i64 2, .int .i64 1] true)], post := [(8897, .cells [.int .i64 1, .int .i64 1, .int .i64 2, .int .i64 1, .int .i64 1, .int .i64 1, .int .i64 2, .int .i64 1] true), (8907, .cells [.int .i64 1, .int .i64 1, .int .i64 2, .int .i64 1] true)], nx' := 8910, v := .slice (some ⟨8907, 0, some 2⟩) 2 2 }
theorem mdx_12_ok : Ax.memoOk 1000 gvc.ng mdx_12 = true := by kernel_rfl
set_option maxRecDepth 100000 in
theorem mdx_12_run (n : Int) : Ax.memoRunM (Ax.callM gvc 100000 365 mdx_12.args 1000 (mdx_12.st n)) mdx_12 = true := by kernel_rfl
theorem mdx_12_done : MemoDone 365 mdx_12 := fun E w lo σ args args' v σ' h1 h2 h3 h4 => Ax.memo_frame mdx_12_ok (Ax.memo_runM gvc_types gvc_funs gv_mixed mdx_12_ok mdx_12_run) h1 h2 h3 h4
noncomputable def mdx_f199 : List Ax.Memo := [mdx_0, mdx_2, mdx_8]
noncomputable def mdx_f365 : List Ax.Memo := [mdx_1, mdx_3, mdx_4, mdx_5, mdx_6, mdx_7, mdx_9, mdx_10, mdx_11, mdx_12]
noncomputable def gvf_tab : Ax.Tr (List Ax.Memo) := ((Ax.Tr.nil).set 199 mdx_f199).set 365 mdx_f365
noncomputable def gvf : Ax.Gv := { gvc with memos := gvf_tab }
theorem mdx_f199_ok : MemosOk 199 mdx_f199 := by
  refine Ax.memoF_of _ fun m hm => ?_
  unfold mdx_f199 at hm
  simp only [List.mem_cons, List.not_mem_nil, or_false] at hm
  rcases hm with rfl | rfl | rfl
  · exact mdx_0_done
  · exact mdx_2_done
  · exact mdx_8_done
theorem mdx_f365_ok : MemosOk 365 mdx_f365 := by
  refine Ax.memoF_of _ fun m hm => ?_
  unfold mdx_f365 at hm
  simp only [List.mem_cons, List.not_mem_nil, or_false] at hm
  rcases hm with rfl | rfl | rfl | rfl | rfl | rfl | rfl | rfl | rfl | rfl
  · exact mdx_1_done
  · exact mdx_3_done
  · exact mdx_4_done
  · exact mdx_5_done
  · exact mdx_6_done
  · exact mdx_7_done
  · exact mdx_9_done
  · exact mdx_10_done
  · exact mdx_11_done
  · exact mdx_12_done
theorem gvf_memos (f : FuncId) (l : List Ax.Memo) (h : gvf.memos.get f = some l) : MemosOk f l := by
  have h : gvf_tab.get f = some l := h
  unfold gvf_tab at h
  rw [Ax.Tr.get_set] at h
  split at h
  · rename_i e; subst e; injection h with h; subst h; exact mdx_f365_ok
  rw [Ax.Tr.get_set] at h
  split at h
  · rename_i e; subst e; injection h with h; subst h; exact mdx_f199_ok
  rw [Ax.Tr.get_nil] at h
  cases h
theorem gvf_funs : Ax.FunsOk Tryz.prog gvf := by
  refine ⟨?_, ?_, ?_, ?_, ?_, ?_⟩
  · have h := gvc_funs.funcs; simpa only [gvf] using h
  · have h := gvc_funs.exts; simpa only [gvf] using h
  · have h := gvc_funs.libs; simpa only [gvf] using h
  · have h := gvc_funs.sums; simpa only [gvf] using h
  · intro f l hl
    have h := gvf_memos f l hl
    unfold MemosOk at h
    exact h
  · have h := gvc_funs.dfs; simpa only [gvf] using h
theorem gvf_types : Ax.TypesOk Tryz.prog gvf := by
  have h := gvc_types
  unfold Ax.TypesOk at h ⊢
  simpa only [gvf] using h
end Go.Proofs.YtolfflaenjcpcaaGreatDoor
