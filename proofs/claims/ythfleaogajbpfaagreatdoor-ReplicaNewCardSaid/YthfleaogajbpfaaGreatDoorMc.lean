/- The table of the calls whose runs are known. -/
import Derived.Test.YthfleaogajbpfaaGreatDoorMc1
import Derived.Test.YthfleaogajbpfaaGreatDoorMc2
import Derived.Test.YthfleaogajbpfaaGreatDoorMc3
import Derived.Test.YthfleaogajbpfaaGreatDoorMc4
import Derived.Test.YthfleaogajbpfaaGreatDoorMc5
import Derived.Test.YthfleaogajbpfaaGreatDoorMc6
set_option linter.unusedVariables false
set_option linter.unusedSimpArgs false
namespace Go.Proofs.YthfleaogajbpfaaGreatDoor
open Go.RowKit
noncomputable def mc_f131 : List Ax.Memo := [mcx_0]
noncomputable def mc_f62 : List Ax.Memo := [mc_0, mc_3, mc_8, mc_14, mc_20]
noncomputable def mc_f104 : List Ax.Memo := [mc_1, mc_5]
noncomputable def mc_f67 : List Ax.Memo := [mc_2, mc_18, mc_25, mc_26]
noncomputable def mc_f103 : List Ax.Memo := [mc_4]
noncomputable def mc_f113 : List Ax.Memo := [mc_6, mc_10, mc_16]
noncomputable def mc_f115 : List Ax.Memo := [mc_7, mc_17]
noncomputable def mc_f105 : List Ax.Memo := [mc_9]
noncomputable def mc_f128 : List Ax.Memo := [mc_11, mc_29, mc_30]
noncomputable def mc_f18 : List Ax.Memo := [mc_12, mc_19, mc_28]
noncomputable def mc_f19 : List Ax.Memo := [mc_13, mc_27]
noncomputable def mc_f71 : List Ax.Memo := [mc_15]
noncomputable def mc_f169 : List Ax.Memo := [mc_21]
noncomputable def mc_f170 : List Ax.Memo := [mc_22]
noncomputable def mc_f69 : List Ax.Memo := [mc_23]
noncomputable def mc_f171 : List Ax.Memo := [mc_24]
noncomputable def mc_f188 : List Ax.Memo := [mc_31]
noncomputable def gve_tab : Ax.Tr (List Ax.Memo) := (((((((((((((((((Ax.Tr.nil).set 131 mc_f131).set 62 mc_f62).set 104 mc_f104).set 67 mc_f67).set 103 mc_f103).set 113 mc_f113).set 115 mc_f115).set 105 mc_f105).set 128 mc_f128).set 18 mc_f18).set 19 mc_f19).set 71 mc_f71).set 169 mc_f169).set 170 mc_f170).set 69 mc_f69).set 171 mc_f171).set 188 mc_f188
noncomputable def gve : Ax.Gv := { gvc with memos := gve_tab }
theorem mc_f131_ok : MemosOk 131 mc_f131 := by
  refine Ax.memoF_of _ fun m hm => ?_
  unfold mc_f131 at hm
  simp only [List.mem_cons, List.not_mem_nil, or_false] at hm
  rcases hm with rfl
  · exact mcx_0_done
theorem mc_f62_ok : MemosOk 62 mc_f62 := by
  refine Ax.memoF_of _ fun m hm => ?_
  unfold mc_f62 at hm
  simp only [List.mem_cons, List.not_mem_nil, or_false] at hm
  rcases hm with rfl | rfl | rfl | rfl | rfl
  · exact mc_0_done
  · exact mc_3_done
  · exact mc_8_done
  · exact mc_14_done
  · exact mc_20_done
theorem mc_f104_ok : MemosOk 104 mc_f104 := by
  refine Ax.memoF_of _ fun m hm => ?_
  unfold mc_f104 at hm
  simp only [List.mem_cons, List.not_mem_nil, or_false] at hm
  rcases hm with rfl | rfl
  · exact mc_1_done
  · exact mc_5_done
theorem mc_f67_ok : MemosOk 67 mc_f67 := by
  refine Ax.memoF_of _ fun m hm => ?_
  unfold mc_f67 at hm
  simp only [List.mem_cons, List.not_mem_nil, or_false] at hm
  rcases hm with rfl | rfl | rfl | rfl
  · exact mc_2_done
  · exact mc_18_done
  · exact mc_25_done
  · exact mc_26_done
theorem mc_f103_ok : MemosOk 103 mc_f103 := by
  refine Ax.memoF_of _ fun m hm => ?_
  unfold mc_f103 at hm
  simp only [List.mem_cons, List.not_mem_nil, or_false] at hm
  rcases hm with rfl
  · exact mc_4_done
theorem mc_f113_ok : MemosOk 113 mc_f113 := by
  refine Ax.memoF_of _ fun m hm => ?_
  unfold mc_f113 at hm
  simp only [List.mem_cons, List.not_mem_nil, or_false] at hm
  rcases hm with rfl | rfl | rfl
  · exact mc_6_done
  · exact mc_10_done
  · exact mc_16_done
theorem mc_f115_ok : MemosOk 115 mc_f115 := by
  refine Ax.memoF_of _ fun m hm => ?_
  unfold mc_f115 at hm
  simp only [List.mem_cons, List.not_mem_nil, or_false] at hm
  rcases hm with rfl | rfl
  · exact mc_7_done
  · exact mc_17_done
theorem mc_f105_ok : MemosOk 105 mc_f105 := by
  refine Ax.memoF_of _ fun m hm => ?_
  unfold mc_f105 at hm
  simp only [List.mem_cons, List.not_mem_nil, or_false] at hm
  rcases hm with rfl
  · exact mc_9_done
theorem mc_f128_ok : MemosOk 128 mc_f128 := by
  refine Ax.memoF_of _ fun m hm => ?_
  unfold mc_f128 at hm
  simp only [List.mem_cons, List.not_mem_nil, or_false] at hm
  rcases hm with rfl | rfl | rfl
  · exact mc_11_done
  · exact mc_29_done
  · exact mc_30_done
theorem mc_f18_ok : MemosOk 18 mc_f18 := by
  refine Ax.memoF_of _ fun m hm => ?_
  unfold mc_f18 at hm
  simp only [List.mem_cons, List.not_mem_nil, or_false] at hm
  rcases hm with rfl | rfl | rfl
  · exact mc_12_done
  · exact mc_19_done
  · exact mc_28_done
theorem mc_f19_ok : MemosOk 19 mc_f19 := by
  refine Ax.memoF_of _ fun m hm => ?_
  unfold mc_f19 at hm
  simp only [List.mem_cons, List.not_mem_nil, or_false] at hm
  rcases hm with rfl | rfl
  · exact mc_13_done
  · exact mc_27_done
theorem mc_f71_ok : MemosOk 71 mc_f71 := by
  refine Ax.memoF_of _ fun m hm => ?_
  unfold mc_f71 at hm
  simp only [List.mem_cons, List.not_mem_nil, or_false] at hm
  rcases hm with rfl
  · exact mc_15_done
theorem mc_f169_ok : MemosOk 169 mc_f169 := by
  refine Ax.memoF_of _ fun m hm => ?_
  unfold mc_f169 at hm
  simp only [List.mem_cons, List.not_mem_nil, or_false] at hm
  rcases hm with rfl
  · exact mc_21_done
theorem mc_f170_ok : MemosOk 170 mc_f170 := by
  refine Ax.memoF_of _ fun m hm => ?_
  unfold mc_f170 at hm
  simp only [List.mem_cons, List.not_mem_nil, or_false] at hm
  rcases hm with rfl
  · exact mc_22_done
theorem mc_f69_ok : MemosOk 69 mc_f69 := by
  refine Ax.memoF_of _ fun m hm => ?_
  unfold mc_f69 at hm
  simp only [List.mem_cons, List.not_mem_nil, or_false] at hm
  rcases hm with rfl
  · exact mc_23_done
theorem mc_f171_ok : MemosOk 171 mc_f171 := by
  refine Ax.memoF_of _ fun m hm => ?_
  unfold mc_f171 at hm
  simp only [List.mem_cons, List.not_mem_nil, or_false] at hm
  rcases hm with rfl
  · exact mc_24_done
theorem mc_f188_ok : MemosOk 188 mc_f188 := by
  refine Ax.memoF_of _ fun m hm => ?_
  unfold mc_f188 at hm
  simp only [List.mem_cons, List.not_mem_nil, or_false] at hm
  rcases hm with rfl
  · exact mc_31_done
theorem gve_memos (f : FuncId) (l : List Ax.Memo) (h : gve.memos.get f = some l) : MemosOk f l := by
  have h : gve_tab.get f = some l := h
  unfold gve_tab at h
  rw [Ax.Tr.get_set] at h
  split at h
  · rename_i e; subst e; injection h with h; subst h; exact mc_f188_ok
  rw [Ax.Tr.get_set] at h
  split at h
  · rename_i e; subst e; injection h with h; subst h; exact mc_f171_ok
  rw [Ax.Tr.get_set] at h
  split at h
  · rename_i e; subst e; injection h with h; subst h; exact mc_f69_ok
  rw [Ax.Tr.get_set] at h
  split at h
  · rename_i e; subst e; injection h with h; subst h; exact mc_f170_ok
  rw [Ax.Tr.get_set] at h
  split at h
  · rename_i e; subst e; injection h with h; subst h; exact mc_f169_ok
  rw [Ax.Tr.get_set] at h
  split at h
  · rename_i e; subst e; injection h with h; subst h; exact mc_f71_ok
  rw [Ax.Tr.get_set] at h
  split at h
  · rename_i e; subst e; injection h with h; subst h; exact mc_f19_ok
  rw [Ax.Tr.get_set] at h
  split at h
  · rename_i e; subst e; injection h with h; subst h; exact mc_f18_ok
  rw [Ax.Tr.get_set] at h
  split at h
  · rename_i e; subst e; injection h with h; subst h; exact mc_f128_ok
  rw [Ax.Tr.get_set] at h
  split at h
  · rename_i e; subst e; injection h with h; subst h; exact mc_f105_ok
  rw [Ax.Tr.get_set] at h
  split at h
  · rename_i e; subst e; injection h with h; subst h; exact mc_f115_ok
  rw [Ax.Tr.get_set] at h
  split at h
  · rename_i e; subst e; injection h with h; subst h; exact mc_f113_ok
  rw [Ax.Tr.get_set] at h
  split at h
  · rename_i e; subst e; injection h with h; subst h; exact mc_f103_ok
  rw [Ax.Tr.get_set] at h
  split at h
  · rename_i e; subst e; injection h with h; subst h; exact mc_f67_ok
  rw [Ax.Tr.get_set] at h
  split at h
  · rename_i e; subst e; injection h with h; subst h; exact mc_f104_ok
  rw [Ax.Tr.get_set] at h
  split at h
  · rename_i e; subst e; injection h with h; subst h; exact mc_f62_ok
  rw [Ax.Tr.get_set] at h
  split at h
  · rename_i e; subst e; injection h with h; subst h; exact mc_f131_ok
  rw [Ax.Tr.get_nil] at h
  cases h
theorem gve_funs : Ax.FunsOk Tryz.prog gve := by
  refine ⟨?_, ?_, ?_, ?_, ?_, ?_⟩
  · have h := gvc_funs.funcs; simpa only [gve] using h
  · have h := gvc_funs.exts; simpa only [gve] using h
  · have h := gvc_funs.libs; simpa only [gve] using h
  · have h := gvc_funs.sums; simpa only [gve] using h
  · intro f l hl
    have h := gve_memos f l hl
    unfold MemosOk at h
    exact h
  · have h := gvc_funs.dfs; simpa only [gve] using h
theorem gve_types : Ax.TypesOk Tryz.prog gve := by
  have h := gvc_types
  unfold Ax.TypesOk at h ⊢
  simpa only [gve] using h
end Go.Proofs.YthfleaogajbpfaaGreatDoor
