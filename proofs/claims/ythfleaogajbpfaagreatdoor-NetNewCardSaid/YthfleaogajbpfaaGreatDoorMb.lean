/- The table of the calls whose runs are known. -/
import Derived.Test.YthfleaogajbpfaaGreatDoorMb1
import Derived.Test.YthfleaogajbpfaaGreatDoorMb2
import Derived.Test.YthfleaogajbpfaaGreatDoorMb3
set_option linter.unusedVariables false
set_option linter.unusedSimpArgs false
namespace Go.Proofs.YthfleaogajbpfaaGreatDoor
open Go.RowKit
noncomputable def mb_f62 : List Ax.Memo := [mb_0, mb_6, mb_11]
noncomputable def mb_f104 : List Ax.Memo := [mb_1]
noncomputable def mb_f67 : List Ax.Memo := [mb_2]
noncomputable def mb_f23 : List Ax.Memo := [mb_3]
noncomputable def mb_f42 : List Ax.Memo := [mb_4, mb_8, mb_13, mb_15]
noncomputable def mb_f61 : List Ax.Memo := [mb_5, mb_10]
noncomputable def mb_f73 : List Ax.Memo := [mb_7, mb_12]
noncomputable def mb_f43 : List Ax.Memo := [mb_9, mb_14]
noncomputable def gvb7_tab : Ax.Tr (List Ax.Memo) := ((((((((Ax.Tr.nil).set 62 mb_f62).set 104 mb_f104).set 67 mb_f67).set 23 mb_f23).set 42 mb_f42).set 61 mb_f61).set 73 mb_f73).set 43 mb_f43
noncomputable def gvb7 : Ax.Gv := { gvc with memos := gvb7_tab }
theorem mb_f62_ok : MemosOk 62 mb_f62 := by
  refine Ax.memoF_of _ fun m hm => ?_
  unfold mb_f62 at hm
  simp only [List.mem_cons, List.not_mem_nil, or_false] at hm
  rcases hm with rfl | rfl | rfl
  · exact mb_0_done
  · exact mb_6_done
  · exact mb_11_done
theorem mb_f104_ok : MemosOk 104 mb_f104 := by
  refine Ax.memoF_of _ fun m hm => ?_
  unfold mb_f104 at hm
  simp only [List.mem_cons, List.not_mem_nil, or_false] at hm
  rcases hm with rfl
  · exact mb_1_done
theorem mb_f67_ok : MemosOk 67 mb_f67 := by
  refine Ax.memoF_of _ fun m hm => ?_
  unfold mb_f67 at hm
  simp only [List.mem_cons, List.not_mem_nil, or_false] at hm
  rcases hm with rfl
  · exact mb_2_done
theorem mb_f23_ok : MemosOk 23 mb_f23 := by
  refine Ax.memoF_of _ fun m hm => ?_
  unfold mb_f23 at hm
  simp only [List.mem_cons, List.not_mem_nil, or_false] at hm
  rcases hm with rfl
  · exact mb_3_done
theorem mb_f42_ok : MemosOk 42 mb_f42 := by
  refine Ax.memoF_of _ fun m hm => ?_
  unfold mb_f42 at hm
  simp only [List.mem_cons, List.not_mem_nil, or_false] at hm
  rcases hm with rfl | rfl | rfl | rfl
  · exact mb_4_done
  · exact mb_8_done
  · exact mb_13_done
  · exact mb_15_done
theorem mb_f61_ok : MemosOk 61 mb_f61 := by
  refine Ax.memoF_of _ fun m hm => ?_
  unfold mb_f61 at hm
  simp only [List.mem_cons, List.not_mem_nil, or_false] at hm
  rcases hm with rfl | rfl
  · exact mb_5_done
  · exact mb_10_done
theorem mb_f73_ok : MemosOk 73 mb_f73 := by
  refine Ax.memoF_of _ fun m hm => ?_
  unfold mb_f73 at hm
  simp only [List.mem_cons, List.not_mem_nil, or_false] at hm
  rcases hm with rfl | rfl
  · exact mb_7_done
  · exact mb_12_done
theorem mb_f43_ok : MemosOk 43 mb_f43 := by
  refine Ax.memoF_of _ fun m hm => ?_
  unfold mb_f43 at hm
  simp only [List.mem_cons, List.not_mem_nil, or_false] at hm
  rcases hm with rfl | rfl
  · exact mb_9_done
  · exact mb_14_done
theorem gvb7_memos (f : FuncId) (l : List Ax.Memo) (h : gvb7.memos.get f = some l) : MemosOk f l := by
  have h : gvb7_tab.get f = some l := h
  unfold gvb7_tab at h
  rw [Ax.Tr.get_set] at h
  split at h
  · rename_i e; subst e; injection h with h; subst h; exact mb_f43_ok
  rw [Ax.Tr.get_set] at h
  split at h
  · rename_i e; subst e; injection h with h; subst h; exact mb_f73_ok
  rw [Ax.Tr.get_set] at h
  split at h
  · rename_i e; subst e; injection h with h; subst h; exact mb_f61_ok
  rw [Ax.Tr.get_set] at h
  split at h
  · rename_i e; subst e; injection h with h; subst h; exact mb_f42_ok
  rw [Ax.Tr.get_set] at h
  split at h
  · rename_i e; subst e; injection h with h; subst h; exact mb_f23_ok
  rw [Ax.Tr.get_set] at h
  split at h
  · rename_i e; subst e; injection h with h; subst h; exact mb_f67_ok
  rw [Ax.Tr.get_set] at h
  split at h
  · rename_i e; subst e; injection h with h; subst h; exact mb_f104_ok
  rw [Ax.Tr.get_set] at h
  split at h
  · rename_i e; subst e; injection h with h; subst h; exact mb_f62_ok
  rw [Ax.Tr.get_nil] at h
  cases h
theorem gvb7_funs : Ax.FunsOk Tryz.prog gvb7 := by
  refine ⟨?_, ?_, ?_, ?_, ?_, ?_⟩
  · have h := gvc_funs.funcs; simpa only [gvb7] using h
  · have h := gvc_funs.exts; simpa only [gvb7] using h
  · have h := gvc_funs.libs; simpa only [gvb7] using h
  · have h := gvc_funs.sums; simpa only [gvb7] using h
  · intro f l hl
    have h := gvb7_memos f l hl
    unfold MemosOk at h
    exact h
  · have h := gvc_funs.dfs; simpa only [gvb7] using h
theorem gvb7_types : Ax.TypesOk Tryz.prog gvb7 := by
  have h := gvc_types
  unfold Ax.TypesOk at h ⊢
  simpa only [gvb7] using h
end Go.Proofs.YthfleaogajbpfaaGreatDoor
