/- same, at equal calls. -/
import Derived.Test.YtecnchmcdbcofaaGreatDoorMkb
import Derived.Laws.BytesArg
set_option linter.unusedVariables false
set_option linter.unusedSimpArgs false
namespace Go.Proofs.YtecnchmcdbcofaaGreatDoor
open Go.RowKit Go.MapKept
set_option maxRecDepth 100000 in
set_option maxHeartbeats 1000000 in
theorem same_eq (w : World) (c : CV) : Calls Tryz.prog 23 #[.agg c.arr, .agg c.arr] w fun e w' => e = .returned (.bool true) ∧ Below w.heap.size w w' := by
  obtain ⟨o, k, t, j, q⟩ := c
  unfold CV.arr
  dsimp only
  have hcv : ∀ W, (convert 31 9 (.slice none 0 0)).run Tryz.prog W = .ok (.string ⟨#[]⟩) W := fun W => run_convert_bytes_nil W 31 5 (by kernel_rfl) (by kernel_rfl) 0 0 9 (by kernel_rfl)
  go_enter Tryz.func23, Tryz.ntmps23
  go_wp2
  go_ret
  exact ⟨rfl, nbl_al (below_alloc _ _)⟩

end Go.Proofs.YtecnchmcdbcofaaGreatDoor
