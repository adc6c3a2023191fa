/- The table of the calls whose runs are known. -/
import Derived.Test.YtfddpmnbbjofnaaGreatDoorMb1
import Derived.Test.YtfddpmnbbjofnaaGreatDoorMb2
import Derived.Test.YtfddpmnbbjofnaaGreatDoorMb3
import Derived.Test.YtfddpmnbbjofnaaGreatDoorMb4
import Derived.Test.YtfddpmnbbjofnaaGreatDoorMb5
import Derived.Test.YtfddpmnbbjofnaaGreatDoorMb6
import Derived.Test.YtfddpmnbbjofnaaGreatDoorMb7
import Derived.Test.YtfddpmnbbjofnaaGreatDoorMb8
import Derived.Test.YtfddpmnbbjofnaaGreatDoorMb9
set_option linter.unusedVariables false
set_option linter.unusedSimpArgs false
namespace Go.Proofs.YtfddpmnbbjofnaaGreatDoor
open Go.RowKit
noncomputable def mb_f38 : List Ax.Memo := [mb_0, mb_6, mb_11]
noncomputable def mb_f79 : List Ax.Memo := [mb_1]
noncomputable def mb_f43 : List Ax.Memo := [mb_2]
noncomputable def mb_f23 : List Ax.Memo := [mb_3]
noncomputable def mb_f6 : List Ax.Memo := [mb_4, mb_8, mb_13, mb_15]
noncomputable def mb_f37 : List Ax.Memo := [mb_5, mb_10]
noncomputable def mb_f49 : List Ax.Memo := [mb_7, mb_12]
noncomputable def mb_f12 : List Ax.Memo := [mb_9, mb_14]
noncomputable def gvb7_tab : Ax.Tr (List Ax.Memo) := ((((((((Ax.Tr.nil).set 38 mb_f38).set 79 mb_f79).set 43 mb_f43).set 23 mb_f23).set 6 mb_f6).set 37 mb_f37).set 49 mb_f49).set 12 mb_f12
noncomputable def gvb7 : Ax.Gv := { gv with memos := gvb7_tab }
theorem mb_f38_ok : MemosOk 38 mb_f38 := by
  refine Ax.memoF_of _ fun m hm => ?_
  unfold mb_f38 at hm
  simp only [List.mem_cons, List.not_mem_nil, or_false] at hm
  rcases hm with rfl | rfl | rfl
  · exact mb_0_done
  · exact mb_6_done
  · exact mb_11_done
theorem mb_f79_ok : MemosOk 79 mb_f79 := by
  refine Ax.memoF_of _ fun m hm => ?_
  unfold mb_f79 at hm
  simp only [List.mem_cons, List.not_mem_nil, or_false] at hm
  rcases hm with rfl
  · exact mb_1_done
theorem mb_f43_ok : MemosOk 43 mb_f43 := by
  refine Ax.memoF_of _ fun m hm => ?_
  unfold mb_f43 at hm
  simp only [List.mem_cons, List.not_mem_nil, or_false] at hm
  rcases hm with rfl
  · exact mb_2_done
theorem mb_f23_ok : MemosOk 23 mb_f23 := by
  refine Ax.memoF_of _ fun m hm => ?_
  unfold mb_f23 at hm
  simp only [List.mem_cons, List.not_mem_nil, or_false] at hm
  rcases hm with rfl
  · exact mb_3_done
theorem mb_f6_ok : MemosOk 6 mb_f6 := by
  refine Ax.memoF_of _ fun m hm => ?_
  unfold mb_f6 at hm
  simp only [List.mem_cons, List.not_mem_nil, or_false] at hm
  rcases hm with rfl | rfl | rfl | rfl
  · exact mb_4_done
  · exact mb_8_done
  · exact mb_13_done
  · exact mb_15_done
theorem mb_f37_ok : MemosOk 37 mb_f37 := by
  refine Ax.memoF_of _ fun m hm => ?_
  unfold mb_f37 at hm
  simp only [List.mem_cons, List.not_mem_nil, or_false] at hm
  rcases hm with rfl | rfl
  · exact mb_5_done
  · exact mb_10_done
theorem mb_f49_ok : MemosOk 49 mb_f49 := by
  refine Ax.memoF_of _ fun m hm => ?_
  unfold mb_f49 at hm
  simp only [List.mem_cons, List.not_mem_nil, or_false] at hm
  rcases hm with rfl | rfl
  · exact mb_7_done
  · exact mb_12_done
theorem mb_f12_ok : MemosOk 12 mb_f12 := by
  refine Ax.memoF_of _ fun m hm => ?_
  unfold mb_f12 at hm
  simp only [List.mem_cons, List.not_mem_nil, or_false] at hm
  rcases hm with rfl | rfl
  · exact mb_9_done
  · exact mb_14_done
theorem gvb7_memos (f : FuncId) (l : List Ax.Memo) (h : gvb7.memos.get f = some l) : MemosOk f l := by
  have h : gvb7_tab.get f = some l := h
  unfold gvb7_tab at h
  rw [Ax.Tr.get_set] at h
  split at h
  · rename_i e; subst e; injection h with h; subst h; exact mb_f12_ok
  rw [Ax.Tr.get_set] at h
  split at h
  · rename_i e; subst e; injection h with h; subst h; exact mb_f49_ok
  rw [Ax.Tr.get_set] at h
  split at h
  · rename_i e; subst e; injection h with h; subst h; exact mb_f37_ok
  rw [Ax.Tr.get_set] at h
  split at h
  · rename_i e; subst e; injection h with h; subst h; exact mb_f6_ok
  rw [Ax.Tr.get_set] at h
  split at h
  · rename_i e; subst e; injection h with h; subst h; exact mb_f23_ok
  rw [Ax.Tr.get_set] at h
  split at h
  · rename_i e; subst e; injection h with h; subst h; exact mb_f43_ok
  rw [Ax.Tr.get_set] at h
  split at h
  · rename_i e; subst e; injection h with h; subst h; exact mb_f79_ok
  rw [Ax.Tr.get_set] at h
  split at h
  · rename_i e; subst e; injection h with h; subst h; exact mb_f38_ok
  rw [Ax.Tr.get_nil] at h
  cases h
theorem gvb7_funs : Ax.FunsOk Tryz.prog gvb7 := by
  refine ⟨?_, ?_, ?_, ?_, ?_, ?_⟩
  · have h := gv_funs.funcs; simpa only [gvb7] using h
  · have h := gv_funs.exts; simpa only [gvb7] using h
  · have h := gv_funs.libs; simpa only [gvb7] using h
  · have h := gv_funs.sums; simpa only [gvb7] using h
  · intro f l hl
    have h := gvb7_memos f l hl
    unfold MemosOk at h
    exact h
  · have h := gv_funs.dfs; simpa only [gvb7] using h
theorem gvb7_types : Ax.TypesOk Tryz.prog gvb7 := by
  have h := gv_types
  unfold Ax.TypesOk at h ⊢
  simpa only [gvb7] using h
end Go.Proofs.YtfddpmnbbjofnaaGreatDoor
