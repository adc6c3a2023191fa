/- The table of the calls whose runs are known. -/
import Derived.Test.YtolfflaenjcpcaaGreatDoorMb1
import Derived.Test.YtolfflaenjcpcaaGreatDoorMb2
import Derived.Test.YtolfflaenjcpcaaGreatDoorMb3
import Derived.Test.YtolfflaenjcpcaaGreatDoorMb4
import Derived.Test.YtolfflaenjcpcaaGreatDoorMb5
import Derived.Test.YtolfflaenjcpcaaGreatDoorMb6
import Derived.Test.YtolfflaenjcpcaaGreatDoorMb7
import Derived.Test.YtolfflaenjcpcaaGreatDoorMb8
import Derived.Test.YtolfflaenjcpcaaGreatDoorMb9
import Derived.Test.YtolfflaenjcpcaaGreatDoorAl
set_option linter.unusedVariables false
set_option linter.unusedSimpArgs false
namespace Go.Proofs.YtolfflaenjcpcaaGreatDoor
open Go.RowKit
noncomputable def mb_f99 : List Ax.Memo := [mb_0, mb_6, mb_11]
noncomputable def mb_f158 : List Ax.Memo := [mb_1]
noncomputable def mb_f104 : List Ax.Memo := [mb_2]
noncomputable def mb_f50 : List Ax.Memo := [mb_3]
noncomputable def mb_f26 : List Ax.Memo := [mb_4, mb_8, mb_13, mb_15]
noncomputable def mb_f98 : List Ax.Memo := [mb_5, mb_10]
noncomputable def mb_f110 : List Ax.Memo := [mb_7, mb_12]
noncomputable def mb_f70 : List Ax.Memo := [mb_9, mb_14]
noncomputable def gvb7 : Ax.Gv := { gv with memos := ((((((((Ax.Tr.nil).set 99 mb_f99).set 158 mb_f158).set 104 mb_f104).set 50 mb_f50).set 26 mb_f26).set 98 mb_f98).set 110 mb_f110).set 70 mb_f70 }
theorem mb_f99_ok : MemosOk 99 mb_f99 := by
  refine Ax.memoF_of _ fun m hm => ?_
  unfold mb_f99 at hm
  simp only [List.mem_cons, List.not_mem_nil, or_false] at hm
  rcases hm with rfl | rfl | rfl
  · exact fun E w lo σ args args' v σ' h1 h2 h3 h4 => Ax.memo_frame mb_0_ok (Ax.memo_run gv_types gv_funs gv_mixed mb_0_ok mb_0_run) h1 h2 h3 h4
  · exact fun E w lo σ args args' v σ' h1 h2 h3 h4 => Ax.memo_frame mb_6_ok (Ax.memo_run gv_types gv_funs gv_mixed mb_6_ok mb_6_run) h1 h2 h3 h4
  · exact fun E w lo σ args args' v σ' h1 h2 h3 h4 => Ax.memo_frame mb_11_ok (Ax.memo_run gv_types gv_funs gv_mixed mb_11_ok mb_11_run) h1 h2 h3 h4
theorem mb_f158_ok : MemosOk 158 mb_f158 := by
  refine Ax.memoF_of _ fun m hm => ?_
  unfold mb_f158 at hm
  simp only [List.mem_cons, List.not_mem_nil, or_false] at hm
  rcases hm with rfl
  · exact fun E w lo σ args args' v σ' h1 h2 h3 h4 => Ax.memo_frame mb_1_ok (Ax.memo_run gv_types gv_funs gv_mixed mb_1_ok mb_1_run) h1 h2 h3 h4
theorem mb_f104_ok : MemosOk 104 mb_f104 := by
  refine Ax.memoF_of _ fun m hm => ?_
  unfold mb_f104 at hm
  simp only [List.mem_cons, List.not_mem_nil, or_false] at hm
  rcases hm with rfl
  · exact fun E w lo σ args args' v σ' h1 h2 h3 h4 => Ax.memo_frame mb_2_ok (Ax.memo_run gv_types gv_funs gv_mixed mb_2_ok mb_2_run) h1 h2 h3 h4
theorem mb_f50_ok : MemosOk 50 mb_f50 := by
  refine Ax.memoF_of _ fun m hm => ?_
  unfold mb_f50 at hm
  simp only [List.mem_cons, List.not_mem_nil, or_false] at hm
  rcases hm with rfl
  · exact fun E w lo σ args args' v σ' h1 h2 h3 h4 => Ax.memo_frame mb_3_ok (Ax.memo_run gv_types gv_funs gv_mixed mb_3_ok mb_3_run) h1 h2 h3 h4
theorem mb_f26_ok : MemosOk 26 mb_f26 := by
  refine Ax.memoF_of _ fun m hm => ?_
  unfold mb_f26 at hm
  simp only [List.mem_cons, List.not_mem_nil, or_false] at hm
  rcases hm with rfl | rfl | rfl | rfl
  · exact fun E w lo σ args args' v σ' h1 h2 h3 h4 => Ax.memo_frame mb_4_ok (Ax.memo_run gv_types gv_funs gv_mixed mb_4_ok mb_4_run) h1 h2 h3 h4
  · exact fun E w lo σ args args' v σ' h1 h2 h3 h4 => Ax.memo_frame mb_8_ok (Ax.memo_run gv_types gv_funs gv_mixed mb_8_ok mb_8_run) h1 h2 h3 h4
  · exact fun E w lo σ args args' v σ' h1 h2 h3 h4 => Ax.memo_frame mb_13_ok (Ax.memo_run gv_types gv_funs gv_mixed mb_13_ok mb_13_run) h1 h2 h3 h4
  · exact fun E w lo σ args args' v σ' h1 h2 h3 h4 => Ax.memo_frame mb_15_ok (Ax.memo_run gv_types gv_funs gv_mixed mb_15_ok mb_15_run) h1 h2 h3 h4
theorem mb_f98_ok : MemosOk 98 mb_f98 := by
  refine Ax.memoF_of _ fun m hm => ?_
  unfold mb_f98 at hm
  simp only [List.mem_cons, List.not_mem_nil, or_false] at hm
  rcases hm with rfl | rfl
  · exact fun E w lo σ args args' v σ' h1 h2 h3 h4 => Ax.memo_frame mb_5_ok (Ax.memo_run gv_types gv_funs gv_mixed mb_5_ok mb_5_run) h1 h2 h3 h4
  · exact fun E w lo σ args args' v σ' h1 h2 h3 h4 => Ax.memo_frame mb_10_ok (Ax.memo_run gv_types gv_funs gv_mixed mb_10_ok mb_10_run) h1 h2 h3 h4
theorem mb_f110_ok : MemosOk 110 mb_f110 := by
  refine Ax.memoF_of _ fun m hm => ?_
  unfold mb_f110 at hm
  simp only [List.mem_cons, List.not_mem_nil, or_false] at hm
  rcases hm with rfl | rfl
  · exact fun E w lo σ args args' v σ' h1 h2 h3 h4 => Ax.memo_frame mb_7_ok (Ax.memo_run gv_types gv_funs gv_mixed mb_7_ok mb_7_run) h1 h2 h3 h4
  · exact fun E w lo σ args args' v σ' h1 h2 h3 h4 => Ax.memo_frame mb_12_ok (Ax.memo_run gv_types gv_funs gv_mixed mb_12_ok mb_12_run) h1 h2 h3 h4
theorem mb_f70_ok : MemosOk 70 mb_f70 := by
  refine Ax.memoF_of _ fun m hm => ?_
  unfold mb_f70 at hm
  simp only [List.mem_cons, List.not_mem_nil, or_false] at hm
  rcases hm with rfl | rfl
  · exact fun E w lo σ args args' v σ' h1 h2 h3 h4 => Ax.memo_frame mb_9_ok (Ax.memo_run gv_types gv_funs gv_mixed mb_9_ok mb_9_run) h1 h2 h3 h4
  · exact fun E w lo σ args args' v σ' h1 h2 h3 h4 => Ax.memo_frame mb_14_ok (Ax.memo_run gv_types gv_funs gv_mixed mb_14_ok mb_14_run) h1 h2 h3 h4
theorem gvb7_memos (f : FuncId) (l : List Ax.Memo) (h : gvb7.memos.get f = some l) : MemosOk f l := by
  simp only [gvb7, Ax.Tr.get_set] at h
  split at h
  · rename_i e; subst e; injection h with h; subst h; exact mb_f70_ok
  split at h
  · rename_i e; subst e; injection h with h; subst h; exact mb_f110_ok
  split at h
  · rename_i e; subst e; injection h with h; subst h; exact mb_f98_ok
  split at h
  · rename_i e; subst e; injection h with h; subst h; exact mb_f26_ok
  split at h
  · rename_i e; subst e; injection h with h; subst h; exact mb_f50_ok
  split at h
  · rename_i e; subst e; injection h with h; subst h; exact mb_f104_ok
  split at h
  · rename_i e; subst e; injection h with h; subst h; exact mb_f158_ok
  split at h
  · rename_i e; subst e; injection h with h; subst h; exact mb_f99_ok
  simp [Ax.Tr.get] at h
theorem gvb7_funs : Ax.FunsOk Tryz.prog gvb7 := by
  refine ⟨?_, ?_, ?_, ?_, ?_, ?_⟩
  · have h := gv_funs.funcs; simpa only [gvb7] using h
  · have h := gv_funs.exts; simpa only [gvb7] using h
  · have h := gv_funs.libs; simpa only [gvb7] using h
  · have h := gv_funs.sums; simpa only [gvb7] using h
  · intro f l hl
    have h := gvb7_memos f l hl
    unfold MemosOk at h
    exact h
  · have h := gv_funs.dfs; simpa only [gvb7] using h
theorem gvb7_types : Ax.TypesOk Tryz.prog gvb7 := by
  have h := gv_types
  unfold Ax.TypesOk at h ⊢
  simpa only [gvb7] using h
end Go.Proofs.YtolfflaenjcpcaaGreatDoor
