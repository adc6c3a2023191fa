/- The table of the calls whose runs are known. -/
import Derived.Test.YtolfflaenjcpcaaGreatDoorMa1
import Derived.Test.YtolfflaenjcpcaaGreatDoorMa2
import Derived.Test.YtolfflaenjcpcaaGreatDoorMa3
import Derived.Test.YtolfflaenjcpcaaGreatDoorMa4
import Derived.Test.YtolfflaenjcpcaaGreatDoorMa5
import Derived.Test.YtolfflaenjcpcaaGreatDoorAl
set_option linter.unusedVariables false
set_option linter.unusedSimpArgs false
namespace Go.Proofs.YtolfflaenjcpcaaGreatDoor
open Go.RowKit
noncomputable def ma_f35 : List Ax.Memo := [ma_0]
noncomputable def ma_f99 : List Ax.Memo := [ma_1]
noncomputable def ma_f158 : List Ax.Memo := [ma_2]
noncomputable def ma_f104 : List Ax.Memo := [ma_3]
noncomputable def ma_f50 : List Ax.Memo := [ma_4]
noncomputable def ma_f80 : List Ax.Memo := [ma_5, ma_6, ma_7]
noncomputable def ma_f33 : List Ax.Memo := [ma_8]
noncomputable def gva : Ax.Gv := { gv with memos := (((((((Ax.Tr.nil).set 35 ma_f35).set 99 ma_f99).set 158 ma_f158).set 104 ma_f104).set 50 ma_f50).set 80 ma_f80).set 33 ma_f33 }
theorem ma_f35_ok : MemosOk 35 ma_f35 := by
  refine Ax.memoF_of _ fun m hm => ?_
  unfold ma_f35 at hm
  simp only [List.mem_cons, List.not_mem_nil, or_false] at hm
  rcases hm with rfl
  · exact fun E w lo σ args args' v σ' h1 h2 h3 h4 => Ax.memo_frame ma_0_ok (Ax.memo_run gv_types gv_funs gv_mixed ma_0_ok ma_0_run) h1 h2 h3 h4
theorem ma_f99_ok : MemosOk 99 ma_f99 := by
  refine Ax.memoF_of _ fun m hm => ?_
  unfold ma_f99 at hm
  simp only [List.mem_cons, List.not_mem_nil, or_false] at hm
  rcases hm with rfl
  · exact fun E w lo σ args args' v σ' h1 h2 h3 h4 => Ax.memo_frame ma_1_ok (Ax.memo_run gv_types gv_funs gv_mixed ma_1_ok ma_1_run) h1 h2 h3 h4
theorem ma_f158_ok : MemosOk 158 ma_f158 := by
  refine Ax.memoF_of _ fun m hm => ?_
  unfold ma_f158 at hm
  simp only [List.mem_cons, List.not_mem_nil, or_false] at hm
  rcases hm with rfl
  · exact fun E w lo σ args args' v σ' h1 h2 h3 h4 => Ax.memo_frame ma_2_ok (Ax.memo_run gv_types gv_funs gv_mixed ma_2_ok ma_2_run) h1 h2 h3 h4
theorem ma_f104_ok : MemosOk 104 ma_f104 := by
  refine Ax.memoF_of _ fun m hm => ?_
  unfold ma_f104 at hm
  simp only [List.mem_cons, List.not_mem_nil, or_false] at hm
  rcases hm with rfl
  · exact fun E w lo σ args args' v σ' h1 h2 h3 h4 => Ax.memo_frame ma_3_ok (Ax.memo_run gv_types gv_funs gv_mixed ma_3_ok ma_3_run) h1 h2 h3 h4
theorem ma_f50_ok : MemosOk 50 ma_f50 := by
  refine Ax.memoF_of _ fun m hm => ?_
  unfold ma_f50 at hm
  simp only [List.mem_cons, List.not_mem_nil, or_false] at hm
  rcases hm with rfl
  · exact fun E w lo σ args args' v σ' h1 h2 h3 h4 => Ax.memo_frame ma_4_ok (Ax.memo_run gv_types gv_funs gv_mixed ma_4_ok ma_4_run) h1 h2 h3 h4
theorem ma_f80_ok : MemosOk 80 ma_f80 := by
  refine Ax.memoF_of _ fun m hm => ?_
  unfold ma_f80 at hm
  simp only [List.mem_cons, List.not_mem_nil, or_false] at hm
  rcases hm with rfl | rfl | rfl
  · exact fun E w lo σ args args' v σ' h1 h2 h3 h4 => Ax.memo_frame ma_5_ok (Ax.memo_run gv_types gv_funs gv_mixed ma_5_ok ma_5_run) h1 h2 h3 h4
  · exact fun E w lo σ args args' v σ' h1 h2 h3 h4 => Ax.memo_frame ma_6_ok (Ax.memo_run gv_types gv_funs gv_mixed ma_6_ok ma_6_run) h1 h2 h3 h4
  · exact fun E w lo σ args args' v σ' h1 h2 h3 h4 => Ax.memo_frame ma_7_ok (Ax.memo_run gv_types gv_funs gv_mixed ma_7_ok ma_7_run) h1 h2 h3 h4
theorem ma_f33_ok : MemosOk 33 ma_f33 := by
  refine Ax.memoF_of _ fun m hm => ?_
  unfold ma_f33 at hm
  simp only [List.mem_cons, List.not_mem_nil, or_false] at hm
  rcases hm with rfl
  · exact fun E w lo σ args args' v σ' h1 h2 h3 h4 => Ax.memo_frame ma_8_ok (Ax.memo_run gv_types gv_funs gv_mixed ma_8_ok ma_8_run) h1 h2 h3 h4
theorem gva_memos (f : FuncId) (l : List Ax.Memo) (h : gva.memos.get f = some l) : MemosOk f l := by
  simp only [gva, Ax.Tr.get_set] at h
  split at h
  · rename_i e; subst e; injection h with h; subst h; exact ma_f33_ok
  split at h
  · rename_i e; subst e; injection h with h; subst h; exact ma_f80_ok
  split at h
  · rename_i e; subst e; injection h with h; subst h; exact ma_f50_ok
  split at h
  · rename_i e; subst e; injection h with h; subst h; exact ma_f104_ok
  split at h
  · rename_i e; subst e; injection h with h; subst h; exact ma_f158_ok
  split at h
  · rename_i e; subst e; injection h with h; subst h; exact ma_f99_ok
  split at h
  · rename_i e; subst e; injection h with h; subst h; exact ma_f35_ok
  simp [Ax.Tr.get] at h
theorem gva_funs : Ax.FunsOk Tryz.prog gva := by
  refine ⟨?_, ?_, ?_, ?_, ?_, ?_⟩
  · have h := gv_funs.funcs; simpa only [gva] using h
  · have h := gv_funs.exts; simpa only [gva] using h
  · have h := gv_funs.libs; simpa only [gva] using h
  · have h := gv_funs.sums; simpa only [gva] using h
  · intro f l hl
    have h := gva_memos f l hl
    unfold MemosOk at h
    exact h
  · have h := gv_funs.dfs; simpa only [gva] using h
theorem gva_types : Ax.TypesOk Tryz.prog gva := by
  have h := gv_types
  unfold Ax.TypesOk at h ⊢
  simpa only [gva] using h
end Go.Proofs.YtolfflaenjcpcaaGreatDoor
