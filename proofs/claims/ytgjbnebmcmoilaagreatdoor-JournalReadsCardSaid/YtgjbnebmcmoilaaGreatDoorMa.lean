/- The table of the calls whose runs are known. -/
import Derived.Test.YtgjbnebmcmoilaaGreatDoorMa1
import Derived.Test.YtgjbnebmcmoilaaGreatDoorMa2
import Derived.Test.YtgjbnebmcmoilaaGreatDoorMa3
import Derived.Test.YtgjbnebmcmoilaaGreatDoorMa4
import Derived.Test.YtgjbnebmcmoilaaGreatDoorMa5
set_option linter.unusedVariables false
set_option linter.unusedSimpArgs false
namespace Go.Proofs.YtgjbnebmcmoilaaGreatDoor
open Go.RowKit
noncomputable def ma_f10 : List Ax.Memo := [ma_0]
noncomputable def ma_f68 : List Ax.Memo := [ma_1]
noncomputable def ma_f103 : List Ax.Memo := [ma_2]
noncomputable def ma_f73 : List Ax.Memo := [ma_3]
noncomputable def ma_f45 : List Ax.Memo := [ma_4]
noncomputable def ma_f25 : List Ax.Memo := [ma_5, ma_6, ma_7]
noncomputable def ma_f22 : List Ax.Memo := [ma_8]
noncomputable def gva_tab : Ax.Tr (List Ax.Memo) := (((((((Ax.Tr.nil).set 10 ma_f10).set 68 ma_f68).set 103 ma_f103).set 73 ma_f73).set 45 ma_f45).set 25 ma_f25).set 22 ma_f22
noncomputable def gva : Ax.Gv := { gv with memos := gva_tab }
theorem ma_f10_ok : MemosOk 10 ma_f10 := by
  refine Ax.memoF_of _ fun m hm => ?_
  unfold ma_f10 at hm
  simp only [List.mem_cons, List.not_mem_nil, or_false] at hm
  rcases hm with rfl
  · exact ma_0_done
theorem ma_f68_ok : MemosOk 68 ma_f68 := by
  refine Ax.memoF_of _ fun m hm => ?_
  unfold ma_f68 at hm
  simp only [List.mem_cons, List.not_mem_nil, or_false] at hm
  rcases hm with rfl
  · exact ma_1_done
theorem ma_f103_ok : MemosOk 103 ma_f103 := by
  refine Ax.memoF_of _ fun m hm => ?_
  unfold ma_f103 at hm
  simp only [List.mem_cons, List.not_mem_nil, or_false] at hm
  rcases hm with rfl
  · exact ma_2_done
theorem ma_f73_ok : MemosOk 73 ma_f73 := by
  refine Ax.memoF_of _ fun m hm => ?_
  unfold ma_f73 at hm
  simp only [List.mem_cons, List.not_mem_nil, or_false] at hm
  rcases hm with rfl
  · exact ma_3_done
theorem ma_f45_ok : MemosOk 45 ma_f45 := by
  refine Ax.memoF_of _ fun m hm => ?_
  unfold ma_f45 at hm
  simp only [List.mem_cons, List.not_mem_nil, or_false] at hm
  rcases hm with rfl
  · exact ma_4_done
theorem ma_f25_ok : MemosOk 25 ma_f25 := by
  refine Ax.memoF_of _ fun m hm => ?_
  unfold ma_f25 at hm
  simp only [List.mem_cons, List.not_mem_nil, or_false] at hm
  rcases hm with rfl | rfl | rfl
  · exact ma_5_done
  · exact ma_6_done
  · exact ma_7_done
theorem ma_f22_ok : MemosOk 22 ma_f22 := by
  refine Ax.memoF_of _ fun m hm => ?_
  unfold ma_f22 at hm
  simp only [List.mem_cons, List.not_mem_nil, or_false] at hm
  rcases hm with rfl
  · exact ma_8_done
theorem gva_memos (f : FuncId) (l : List Ax.Memo) (h : gva.memos.get f = some l) : MemosOk f l := by
  have h : gva_tab.get f = some l := h
  unfold gva_tab at h
  rw [Ax.Tr.get_set] at h
  split at h
  · rename_i e; subst e; injection h with h; subst h; exact ma_f22_ok
  rw [Ax.Tr.get_set] at h
  split at h
  · rename_i e; subst e; injection h with h; subst h; exact ma_f25_ok
  rw [Ax.Tr.get_set] at h
  split at h
  · rename_i e; subst e; injection h with h; subst h; exact ma_f45_ok
  rw [Ax.Tr.get_set] at h
  split at h
  · rename_i e; subst e; injection h with h; subst h; exact ma_f73_ok
  rw [Ax.Tr.get_set] at h
  split at h
  · rename_i e; subst e; injection h with h; subst h; exact ma_f103_ok
  rw [Ax.Tr.get_set] at h
  split at h
  · rename_i e; subst e; injection h with h; subst h; exact ma_f68_ok
  rw [Ax.Tr.get_set] at h
  split at h
  · rename_i e; subst e; injection h with h; subst h; exact ma_f10_ok
  rw [Ax.Tr.get_nil] at h
  cases h
theorem gva_funs : Ax.FunsOk Tryz.prog gva := by
  refine ⟨?_, ?_, ?_, ?_, ?_, ?_⟩
  · have h := gv_funs.funcs; simpa only [gva] using h
  · have h := gv_funs.exts; simpa only [gva] using h
  · have h := gv_funs.libs; simpa only [gva] using h
  · have h := gv_funs.sums; simpa only [gva] using h
  · intro f l hl
    have h := gva_memos f l hl
    unfold MemosOk at h
    exact h
  · have h := gv_funs.dfs; simpa only [gva] using h
theorem gva_types : Ax.TypesOk Tryz.prog gva := by
  have h := gv_types
  unfold Ax.TypesOk at h ⊢
  simpa only [gva] using h
end Go.Proofs.YtgjbnebmcmoilaaGreatDoor
