/- The table of the calls whose runs are known. -/
import Derived.Test.YtolfflaenjcpcaaGreatDoorMd1
import Derived.Test.YtolfflaenjcpcaaGreatDoorMd2
import Derived.Test.YtolfflaenjcpcaaGreatDoorMd3
import Derived.Test.YtolfflaenjcpcaaGreatDoorMd4
import Derived.Test.YtolfflaenjcpcaaGreatDoorMd5
import Derived.Test.YtolfflaenjcpcaaGreatDoorMd6
set_option linter.unusedVariables false
set_option linter.unusedSimpArgs false
namespace Go.Proofs.YtolfflaenjcpcaaGreatDoor
open Go.RowKit
noncomputable def md_f199 : List Ax.Memo := [mdx_0, mdx_2, mdx_8]
noncomputable def md_f365 : List Ax.Memo := [mdx_1, mdx_3, mdx_4, mdx_5, mdx_6, mdx_7, mdx_9, mdx_10, mdx_11, mdx_12]
noncomputable def md_f99 : List Ax.Memo := [md_0, md_3, md_16, md_20]
noncomputable def md_f158 : List Ax.Memo := [md_1, md_4]
noncomputable def md_f104 : List Ax.Memo := [md_2, md_5]
noncomputable def md_f146 : List Ax.Memo := [md_6, md_9, md_24]
noncomputable def md_f147 : List Ax.Memo := [md_7, md_10]
noncomputable def md_f43 : List Ax.Memo := [md_8, md_23]
noncomputable def md_f148 : List Ax.Memo := [md_11, md_12]
noncomputable def md_f71 : List Ax.Memo := [md_13, md_14]
noncomputable def md_f98 : List Ax.Memo := [md_15, md_19]
noncomputable def md_f110 : List Ax.Memo := [md_17, md_21]
noncomputable def md_f50 : List Ax.Memo := [md_18, md_22]
noncomputable def md_f167 : List Ax.Memo := [md_25]
noncomputable def md_f160 : List Ax.Memo := [md_26, md_27, md_30, md_31, md_34, md_35]
noncomputable def md_f164 : List Ax.Memo := [md_28, md_29, md_32, md_33, md_36, md_37]
noncomputable def gvg_tab : Ax.Tr (List Ax.Memo) := ((((((((((((((((Ax.Tr.nil).set 199 md_f199).set 365 md_f365).set 99 md_f99).set 158 md_f158).set 104 md_f104).set 146 md_f146).set 147 md_f147).set 43 md_f43).set 148 md_f148).set 71 md_f71).set 98 md_f98).set 110 md_f110).set 50 md_f50).set 167 md_f167).set 160 md_f160).set 164 md_f164
noncomputable def gvg : Ax.Gv := { gvc with memos := gvg_tab }
theorem md_f199_ok : MemosOk 199 md_f199 := by
  refine Ax.memoF_of _ fun m hm => ?_
  unfold md_f199 at hm
  simp only [List.mem_cons, List.not_mem_nil, or_false] at hm
  rcases hm with rfl | rfl | rfl
  · exact mdx_0_done
  · exact mdx_2_done
  · exact mdx_8_done
theorem md_f365_ok : MemosOk 365 md_f365 := by
  refine Ax.memoF_of _ fun m hm => ?_
  unfold md_f365 at hm
  simp only [List.mem_cons, List.not_mem_nil, or_false] at hm
  rcases hm with rfl | rfl | rfl | rfl | rfl | rfl | rfl | rfl | rfl | rfl
  · exact mdx_1_done
  · exact mdx_3_done
  · exact mdx_4_done
  · exact mdx_5_done
  · exact mdx_6_done
  · exact mdx_7_done
  · exact mdx_9_done
  · exact mdx_10_done
  · exact mdx_11_done
  · exact mdx_12_done
theorem md_f99_ok : MemosOk 99 md_f99 := by
  refine Ax.memoF_of _ fun m hm => ?_
  unfold md_f99 at hm
  simp only [List.mem_cons, List.not_mem_nil, or_false] at hm
  rcases hm with rfl | rfl | rfl | rfl
  · exact md_0_done
  · exact md_3_done
  · exact md_16_done
  · exact md_20_done
theorem md_f158_ok : MemosOk 158 md_f158 := by
  refine Ax.memoF_of _ fun m hm => ?_
  unfold md_f158 at hm
  simp only [List.mem_cons, List.not_mem_nil, or_false] at hm
  rcases hm with rfl | rfl
  · exact md_1_done
  · exact md_4_done
theorem md_f104_ok : MemosOk 104 md_f104 := by
  refine Ax.memoF_of _ fun m hm => ?_
  unfold md_f104 at hm
  simp only [List.mem_cons, List.not_mem_nil, or_false] at hm
  rcases hm with rfl | rfl
  · exact md_2_done
  · exact md_5_done
theorem md_f146_ok : MemosOk 146 md_f146 := by
  refine Ax.memoF_of _ fun m hm => ?_
  unfold md_f146 at hm
  simp only [List.mem_cons, List.not_mem_nil, or_false] at hm
  rcases hm with rfl | rfl | rfl
  · exact md_6_done
  · exact md_9_done
  · exact md_24_done
theorem md_f147_ok : MemosOk 147 md_f147 := by
  refine Ax.memoF_of _ fun m hm => ?_
  unfold md_f147 at hm
  simp only [List.mem_cons, List.not_mem_nil, or_false] at hm
  rcases hm with rfl | rfl
  · exact md_7_done
  · exact md_10_done
theorem md_f43_ok : MemosOk 43 md_f43 := by
  refine Ax.memoF_of _ fun m hm => ?_
  unfold md_f43 at hm
  simp only [List.mem_cons, List.not_mem_nil, or_false] at hm
  rcases hm with rfl | rfl
  · exact md_8_done
  · exact md_23_done
theorem md_f148_ok : MemosOk 148 md_f148 := by
  refine Ax.memoF_of _ fun m hm => ?_
  unfold md_f148 at hm
  simp only [List.mem_cons, List.not_mem_nil, or_false] at hm
  rcases hm with rfl | rfl
  · exact md_11_done
  · exact md_12_done
theorem md_f71_ok : MemosOk 71 md_f71 := by
  refine Ax.memoF_of _ fun m hm => ?_
  unfold md_f71 at hm
  simp only [List.mem_cons, List.not_mem_nil, or_false] at hm
  rcases hm with rfl | rfl
  · exact md_13_done
  · exact md_14_done
theorem md_f98_ok : MemosOk 98 md_f98 := by
  refine Ax.memoF_of _ fun m hm => ?_
  unfold md_f98 at hm
  simp only [List.mem_cons, List.not_mem_nil, or_false] at hm
  rcases hm with rfl | rfl
  · exact md_15_done
  · exact md_19_done
theorem md_f110_ok : MemosOk 110 md_f110 := by
  refine Ax.memoF_of _ fun m hm => ?_
  unfold md_f110 at hm
  simp only [List.mem_cons, List.not_mem_nil, or_false] at hm
  rcases hm with rfl | rfl
  · exact md_17_done
  · exact md_21_done
theorem md_f50_ok : MemosOk 50 md_f50 := by
  refine Ax.memoF_of _ fun m hm => ?_
  unfold md_f50 at hm
  simp only [List.mem_cons, List.not_mem_nil, or_false] at hm
  rcases hm with rfl | rfl
  · exact md_18_done
  · exact md_22_done
theorem md_f167_ok : MemosOk 167 md_f167 := by
  refine Ax.memoF_of _ fun m hm => ?_
  unfold md_f167 at hm
  simp only [List.mem_cons, List.not_mem_nil, or_false] at hm
  rcases hm with rfl
  · exact md_25_done
theorem md_f160_ok : MemosOk 160 md_f160 := by
  refine Ax.memoF_of _ fun m hm => ?_
  unfold md_f160 at hm
  simp only [List.mem_cons, List.not_mem_nil, or_false] at hm
  rcases hm with rfl | rfl | rfl | rfl | rfl | rfl
  · exact md_26_done
  · exact md_27_done
  · exact md_30_done
  · exact md_31_done
  · exact md_34_done
  · exact md_35_done
theorem md_f164_ok : MemosOk 164 md_f164 := by
  refine Ax.memoF_of _ fun m hm => ?_
  unfold md_f164 at hm
  simp only [List.mem_cons, List.not_mem_nil, or_false] at hm
  rcases hm with rfl | rfl | rfl | rfl | rfl | rfl
  · exact md_28_done
  · exact md_29_done
  · exact md_32_done
  · exact md_33_done
  · exact md_36_done
  · exact md_37_done
theorem gvg_memos (f : FuncId) (l : List Ax.Memo) (h : gvg.memos.get f = some l) : MemosOk f l := by
  have h : gvg_tab.get f = some l := h
  unfold gvg_tab at h
  rw [Ax.Tr.get_set] at h
  split at h
  · rename_i e; subst e; injection h with h; subst h; exact md_f164_ok
  rw [Ax.Tr.get_set] at h
  split at h
  · rename_i e; subst e; injection h with h; subst h; exact md_f160_ok
  rw [Ax.Tr.get_set] at h
  split at h
  · rename_i e; subst e; injection h with h; subst h; exact md_f167_ok
  rw [Ax.Tr.get_set] at h
  split at h
  · rename_i e; subst e; injection h with h; subst h; exact md_f50_ok
  rw [Ax.Tr.get_set] at h
  split at h
  · rename_i e; subst e; injection h with h; subst h; exact md_f110_ok
  rw [Ax.Tr.get_set] at h
  split at h
  · rename_i e; subst e; injection h with h; subst h; exact md_f98_ok
  rw [Ax.Tr.get_set] at h
  split at h
  · rename_i e; subst e; injection h with h; subst h; exact md_f71_ok
  rw [Ax.Tr.get_set] at h
  split at h
  · rename_i e; subst e; injection h with h; subst h; exact md_f148_ok
  rw [Ax.Tr.get_set] at h
  split at h
  · rename_i e; subst e; injection h with h; subst h; exact md_f43_ok
  rw [Ax.Tr.get_set] at h
  split at h
  · rename_i e; subst e; injection h with h; subst h; exact md_f147_ok
  rw [Ax.Tr.get_set] at h
  split at h
  · rename_i e; subst e; injection h with h; subst h; exact md_f146_ok
  rw [Ax.Tr.get_set] at h
  split at h
  · rename_i e; subst e; injection h with h; subst h; exact md_f104_ok
  rw [Ax.Tr.get_set] at h
  split at h
  · rename_i e; subst e; injection h with h; subst h; exact md_f158_ok
  rw [Ax.Tr.get_set] at h
  split at h
  · rename_i e; subst e; injection h with h; subst h; exact md_f99_ok
  rw [Ax.Tr.get_set] at h
  split at h
  · rename_i e; subst e; injection h with h; subst h; exact md_f365_ok
  rw [Ax.Tr.get_set] at h
  split at h
  · rename_i e; subst e; injection h with h; subst h; exact md_f199_ok
  rw [Ax.Tr.get_nil] at h
  cases h
theorem gvg_funs : Ax.FunsOk Tryz.prog gvg := by
  refine ⟨?_, ?_, ?_, ?_, ?_, ?_⟩
  · have h := gvc_funs.funcs; simpa only [gvg] using h
  · have h := gvc_funs.exts; simpa only [gvg] using h
  · have h := gvc_funs.libs; simpa only [gvg] using h
  · have h := gvc_funs.sums; simpa only [gvg] using h
  · intro f l hl
    have h := gvg_memos f l hl
    unfold MemosOk at h
    exact h
  · have h := gvc_funs.dfs; simpa only [gvg] using h
theorem gvg_types : Ax.TypesOk Tryz.prog gvg := by
  have h := gvc_types
  unfold Ax.TypesOk at h ⊢
  simpa only [gvg] using h
end Go.Proofs.YtolfflaenjcpcaaGreatDoor
