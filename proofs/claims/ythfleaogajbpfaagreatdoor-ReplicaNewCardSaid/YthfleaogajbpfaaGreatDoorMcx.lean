/- Calls in which maps are ranged over: in all orders. -/
import Derived.Test.YthfleaogajbpfaaGreatDoorAn
set_option linter.unusedVariables false
set_option linter.unusedSimpArgs false
namespace Go.Proofs.YthfleaogajbpfaaGreatDoor
open Go.RowKit
noncomputable def mcx_0 : Ax.Memo := { nx := 8028, mx := 0, args := [.pointer (some ⟨1002, 0, none⟩)], pre := [(1, .cells [.int .u32 2166136261, .int .u32 16777619] false), (7090, .cells [.int .i64 7, .int .i64 4] true), (1004, .map [(.string ⟨⟨[98]⟩⟩, .agg ⟨[.int .i64 2, .slice none 0 0, .slice (some ⟨7090, 0, some 2⟩) 1 1, .slice none 0 0]⟩, 0)] 1), (7932, .cells [.int .i64 7, .int .i64 5] true), (5146, .cells [.int .i64 7, .int .i64 3] true), (1003, .map [(.string ⟨⟨[97]⟩⟩, .agg ⟨[.int .i64 4, .slice (some ⟨5146, 0, some 2⟩) 1 1, .slice none 0 0, .slice none 0 0]⟩, 0), (.string ⟨⟨[99]⟩⟩, .agg ⟨[.int .i64 2, .slice none 0 0, .slice (some ⟨7932, 0, some 2⟩) 1 1, .slice none 0 0]⟩, 1)] 2), (1001, .cells [.map (some 1003), .map (some 1004)] true), (1002, .cells [.slice (some ⟨1001, 0, none⟩) 2 2, .int .i64 3] true)], post := [(7090, .cells [.int .i64 7, .int .i64 4] true), (1004, .map [(.string ⟨⟨[98]⟩⟩, .agg ⟨[.int .i64 2, .slice none 0 0, .slice (some ⟨7090, 0, some 2⟩) 1 1, .slice none 0 0]⟩, 0)] 1), (7932, .cells [.int .i64 7, .int .i64 5] true), (5146, .cells [.int .i64 7, .int .i64 3] true), (1003, .map [(.string ⟨⟨[97]⟩⟩, .agg ⟨[.int .i64 4, .slice (some ⟨5146, 0, some 2⟩) 1 1, .slice none 0 0, .slice none 0 0]⟩, 0), (.string ⟨⟨[99]⟩⟩, .agg ⟨[.int .i64 2, .slice none 0 0, .slice (some ⟨7932, 0, some 2⟩) 1 1, .slice none 0 0]⟩, 1)] 2), (1001, .cells [.map (some 1003), .map (some 1004)] true), (1002, .cells [.slice (some ⟨1001, 0, none⟩) 2 2, .int .i64 3] true), (8035, .cells [.string ⟨⟨[97]⟩⟩, .string ⟨⟨[98]⟩⟩, .string ⟨⟨[99]⟩⟩] true)], nx' := 8036, v := .slice (some ⟨8035, 0, some 1⟩) 3 3 }
theorem mcx_0_ok : Ax.memoOk 1000 gvc.ng mcx_0 = true := by kernel_rfl
set_option maxRecDepth 100000 in
theorem mcx_0_run (n : Int) : Ax.memoRunM (Ax.callM gvc 100000 131 mcx_0.args 1000 (mcx_0.st n)) mcx_0 = true := by kernel_rfl
theorem mcx_0_done : MemoDone 131 mcx_0 := fun E w lo σ args args' v σ' h1 h2 h3 h4 => Ax.memo_frame mcx_0_ok (Ax.memo_runM gvc_types gvc_funs gv_mixed mcx_0_ok mcx_0_run) h1 h2 h3 h4
noncomputable def mcx_f131 : List Ax.Memo := [mcx_0]
noncomputable def gvd_tab : Ax.Tr (List Ax.Memo) := (Ax.Tr.nil).set 131 mcx_f131
noncomputable def gvd : Ax.Gv := { gvc with memos := gvd_tab }
theorem mcx_f131_ok : MemosOk 131 mcx_f131 := by
  refine Ax.memoF_of _ fun m hm => ?_
  unfold mcx_f131 at hm
  simp only [List.mem_cons, List.not_mem_nil, or_false] at hm
  rcases hm with rfl
  · exact mcx_0_done
theorem gvd_memos (f : FuncId) (l : List Ax.Memo) (h : gvd.memos.get f = some l) : MemosOk f l := by
  have h : gvd_tab.get f = some l := h
  unfold gvd_tab at h
  rw [Ax.Tr.get_set] at h
  split at h
  · rename_i e; subst e; injection h with h; subst h; exact mcx_f131_ok
  rw [Ax.Tr.get_nil] at h
  cases h
theorem gvd_funs : Ax.FunsOk Tryz.prog gvd := by
  refine ⟨?_, ?_, ?_, ?_, ?_, ?_⟩
  · have h := gvc_funs.funcs; simpa only [gvd] using h
  · have h := gvc_funs.exts; simpa only [gvd] using h
  · have h := gvc_funs.libs; simpa only [gvd] using h
  · have h := gvc_funs.sums; simpa only [gvd] using h
  · intro f l hl
    have h := gvd_memos f l hl
    unfold MemosOk at h
    exact h
  · have h := gvc_funs.dfs; simpa only [gvd] using h
theorem gvd_types : Ax.TypesOk Tryz.prog gvd := by
  have h := gvc_types
  unfold Ax.TypesOk at h ⊢
  simpa only [gvd] using h
end Go.Proofs.YthfleaogajbpfaaGreatDoor
