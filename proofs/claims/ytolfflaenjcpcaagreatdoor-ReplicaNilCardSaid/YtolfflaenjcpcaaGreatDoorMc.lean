/- The table of the calls whose runs are known. -/
import Derived.Test.YtolfflaenjcpcaaGreatDoorMc1
import Derived.Test.YtolfflaenjcpcaaGreatDoorMc2
import Derived.Test.YtolfflaenjcpcaaGreatDoorMc3
import Derived.Test.YtolfflaenjcpcaaGreatDoorMc4
import Derived.Test.YtolfflaenjcpcaaGreatDoorMc5
import Derived.Test.YtolfflaenjcpcaaGreatDoorMc6
set_option linter.unusedVariables false
set_option linter.unusedSimpArgs false
namespace Go.Proofs.YtolfflaenjcpcaaGreatDoor
open Go.RowKit
noncomputable def mc_f116 : List Ax.Memo := [mcx_0]
noncomputable def mc_f99 : List Ax.Memo := [mc_0, mc_3, mc_8, mc_14, mc_20]
noncomputable def mc_f158 : List Ax.Memo := [mc_1, mc_5]
noncomputable def mc_f104 : List Ax.Memo := [mc_2, mc_18, mc_25, mc_26]
noncomputable def mc_f157 : List Ax.Memo := [mc_4]
noncomputable def mc_f167 : List Ax.Memo := [mc_6, mc_10, mc_16]
noncomputable def mc_f169 : List Ax.Memo := [mc_7, mc_17]
noncomputable def mc_f159 : List Ax.Memo := [mc_9]
noncomputable def mc_f178 : List Ax.Memo := [mc_11, mc_29, mc_30]
noncomputable def mc_f48 : List Ax.Memo := [mc_12, mc_19, mc_28]
noncomputable def mc_f10 : List Ax.Memo := [mc_13, mc_27]
noncomputable def mc_f108 : List Ax.Memo := [mc_15]
noncomputable def mc_f230 : List Ax.Memo := [mc_21]
noncomputable def mc_f231 : List Ax.Memo := [mc_22]
noncomputable def mc_f106 : List Ax.Memo := [mc_23]
noncomputable def mc_f201 : List Ax.Memo := [mc_24]
noncomputable def mc_f247 : List Ax.Memo := [mc_31]
noncomputable def gve_tab : Ax.Tr (List Ax.Memo) := (((((((((((((((((Ax.Tr.nil).set 116 mc_f116).set 99 mc_f99).set 158 mc_f158).set 104 mc_f104).set 157 mc_f157).set 167 mc_f167).set 169 mc_f169).set 159 mc_f159).set 178 mc_f178).set 48 mc_f48).set 10 mc_f10).set 108 mc_f108).set 230 mc_f230).set 231 mc_f231).set 106 mc_f106).set 201 mc_f201).set 247 mc_f247
noncomputable def gve : Ax.Gv := { gvc with memos := gve_tab }
theorem mc_f116_ok : MemosOk 116 mc_f116 := by
  refine Ax.memoF_of _ fun m hm => ?_
  unfold mc_f116 at hm
  simp only [List.mem_cons, List.not_mem_nil, or_false] at hm
  rcases hm with rfl
  · exact mcx_0_done
theorem mc_f99_ok : MemosOk 99 mc_f99 := by
  refine Ax.memoF_of _ fun m hm => ?_
  unfold mc_f99 at hm
  simp only [List.mem_cons, List.not_mem_nil, or_false] at hm
  rcases hm with rfl | rfl | rfl | rfl | rfl
  · exact mc_0_done
  · exact mc_3_done
  · exact mc_8_done
  · exact mc_14_done
  · exact mc_20_done
theorem mc_f158_ok : MemosOk 158 mc_f158 := by
  refine Ax.memoF_of _ fun m hm => ?_
  unfold mc_f158 at hm
  simp only [List.mem_cons, List.not_mem_nil, or_false] at hm
  rcases hm with rfl | rfl
  · exact mc_1_done
  · exact mc_5_done
theorem mc_f104_ok : MemosOk 104 mc_f104 := by
  refine Ax.memoF_of _ fun m hm => ?_
  unfold mc_f104 at hm
  simp only [List.mem_cons, List.not_mem_nil, or_false] at hm
  rcases hm with rfl | rfl | rfl | rfl
  · exact mc_2_done
  · exact mc_18_done
  · exact mc_25_done
  · exact mc_26_done
theorem mc_f157_ok : MemosOk 157 mc_f157 := by
  refine Ax.memoF_of _ fun m hm => ?_
  unfold mc_f157 at hm
  simp only [List.mem_cons, List.not_mem_nil, or_false] at hm
  rcases hm with rfl
  · exact mc_4_done
theorem mc_f167_ok : MemosOk 167 mc_f167 := by
  refine Ax.memoF_of _ fun m hm => ?_
  unfold mc_f167 at hm
  simp only [List.mem_cons, List.not_mem_nil, or_false] at hm
  rcases hm with rfl | rfl | rfl
  · exact mc_6_done
  · exact mc_10_done
  · exact mc_16_done
theorem mc_f169_ok : MemosOk 169 mc_f169 := by
  refine Ax.memoF_of _ fun m hm => ?_
  unfold mc_f169 at hm
  simp only [List.mem_cons, List.not_mem_nil, or_false] at hm
  rcases hm with rfl | rfl
  · exact mc_7_done
  · exact mc_17_done
theorem mc_f159_ok : MemosOk 159 mc_f159 := by
  refine Ax.memoF_of _ fun m hm => ?_
  unfold mc_f159 at hm
  simp only [List.mem_cons, List.not_mem_nil, or_false] at hm
  rcases hm with rfl
  · exact mc_9_done
theorem mc_f178_ok : MemosOk 178 mc_f178 := by
  refine Ax.memoF_of _ fun m hm => ?_
  unfold mc_f178 at hm
  simp only [List.mem_cons, List.not_mem_nil, or_false] at hm
  rcases hm with rfl | rfl | rfl
  · exact mc_11_done
  · exact mc_29_done
  · exact mc_30_done
theorem mc_f48_ok : MemosOk 48 mc_f48 := by
  refine Ax.memoF_of _ fun m hm => ?_
  unfold mc_f48 at hm
  simp only [List.mem_cons, List.not_mem_nil, or_false] at hm
  rcases hm with rfl | rfl | rfl
  · exact mc_12_done
  · exact mc_19_done
  · exact mc_28_done
theorem mc_f10_ok : MemosOk 10 mc_f10 := by
  refine Ax.memoF_of _ fun m hm => ?_
  unfold mc_f10 at hm
  simp only [List.mem_cons, List.not_mem_nil, or_false] at hm
  rcases hm with rfl | rfl
  · exact mc_13_done
  · exact mc_27_done
theorem mc_f108_ok : MemosOk 108 mc_f108 := by
  refine Ax.memoF_of _ fun m hm => ?_
  unfold mc_f108 at hm
  simp only [List.mem_cons, List.not_mem_nil, or_false] at hm
  rcases hm with rfl
  · exact mc_15_done
theorem mc_f230_ok : MemosOk 230 mc_f230 := by
  refine Ax.memoF_of _ fun m hm => ?_
  unfold mc_f230 at hm
  simp only [List.mem_cons, List.not_mem_nil, or_false] at hm
  rcases hm with rfl
  · exact mc_21_done
theorem mc_f231_ok : MemosOk 231 mc_f231 := by
  refine Ax.memoF_of _ fun m hm => ?_
  unfold mc_f231 at hm
  simp only [List.mem_cons, List.not_mem_nil, or_false] at hm
  rcases hm with rfl
  · exact mc_22_done
theorem mc_f106_ok : MemosOk 106 mc_f106 := by
  refine Ax.memoF_of _ fun m hm => ?_
  unfold mc_f106 at hm
  simp only [List.mem_cons, List.not_mem_nil, or_false] at hm
  rcases hm with rfl
  · exact mc_23_done
theorem mc_f201_ok : MemosOk 201 mc_f201 := by
  refine Ax.memoF_of _ fun m hm => ?_
  unfold mc_f201 at hm
  simp only [List.mem_cons, List.not_mem_nil, or_false] at hm
  rcases hm with rfl
  · exact mc_24_done
theorem mc_f247_ok : MemosOk 247 mc_f247 := by
  refine Ax.memoF_of _ fun m hm => ?_
  unfold mc_f247 at hm
  simp only [List.mem_cons, List.not_mem_nil, or_false] at hm
  rcases hm with rfl
  · exact mc_31_done
theorem gve_memos (f : FuncId) (l : List Ax.Memo) (h : gve.memos.get f = some l) : MemosOk f l := by
  have h : gve_tab.get f = some l := h
  unfold gve_tab at h
  rw [Ax.Tr.get_set] at h
  split at h
  · rename_i e; subst e; injection h with h; subst h; exact mc_f247_ok
  rw [Ax.Tr.get_set] at h
  split at h
  · rename_i e; subst e; injection h with h; subst h; exact mc_f201_ok
  rw [Ax.Tr.get_set] at h
  split at h
  · rename_i e; subst e; injection h with h; subst h; exact mc_f106_ok
  rw [Ax.Tr.get_set] at h
  split at h
  · rename_i e; subst e; injection h with h; subst h; exact mc_f231_ok
  rw [Ax.Tr.get_set] at h
  split at h
  · rename_i e; subst e; injection h with h; subst h; exact mc_f230_ok
  rw [Ax.Tr.get_set] at h
  split at h
  · rename_i e; subst e; injection h with h; subst h; exact mc_f108_ok
  rw [Ax.Tr.get_set] at h
  split at h
  · rename_i e; subst e; injection h with h; subst h; exact mc_f10_ok
  rw [Ax.Tr.get_set] at h
  split at h
  · rename_i e; subst e; injection h with h; subst h; exact mc_f48_ok
  rw [Ax.Tr.get_set] at h
  split at h
  · rename_i e; subst e; injection h with h; subst h; exact mc_f178_ok
  rw [Ax.Tr.get_set] at h
  split at h
  · rename_i e; subst e; injection h with h; subst h; exact mc_f159_ok
  rw [Ax.Tr.get_set] at h
  split at h
  · rename_i e; subst e; injection h with h; subst h; exact mc_f169_ok
  rw [Ax.Tr.get_set] at h
  split at h
  · rename_i e; subst e; injection h with h; subst h; exact mc_f167_ok
  rw [Ax.Tr.get_set] at h
  split at h
  · rename_i e; subst e; injection h with h; subst h; exact mc_f157_ok
  rw [Ax.Tr.get_set] at h
  split at h
  · rename_i e; subst e; injection h with h; subst h; exact mc_f104_ok
  rw [Ax.Tr.get_set] at h
  split at h
  · rename_i e; subst e; injection h with h; subst h; exact mc_f158_ok
  rw [Ax.Tr.get_set] at h
  split at h
  · rename_i e; subst e; injection h with h; subst h; exact mc_f99_ok
  rw [Ax.Tr.get_set] at h
  split at h
  · rename_i e; subst e; injection h with h; subst h; exact mc_f116_ok
  rw [Ax.Tr.get_nil] at h
  cases h
theorem gve_funs : Ax.FunsOk Tryz.prog gve := by
  refine ⟨?_, ?_, ?_, ?_, ?_, ?_⟩
  · have h := gvc_funs.funcs; simpa only [gve] using h
  · have h := gvc_funs.exts; simpa only [gve] using h
  · have h := gvc_funs.libs; simpa only [gve] using h
  · have h := gvc_funs.sums; simpa only [gve] using h
  · intro f l hl
    have h := gve_memos f l hl
    unfold MemosOk at h
    exact h
  · have h := gvc_funs.dfs; simpa only [gve] using h
theorem gve_types : Ax.TypesOk Tryz.prog gve := by
  have h := gvc_types
  unfold Ax.TypesOk at h ⊢
  simpa only [gve] using h
end Go.Proofs.YtolfflaenjcpcaaGreatDoor
