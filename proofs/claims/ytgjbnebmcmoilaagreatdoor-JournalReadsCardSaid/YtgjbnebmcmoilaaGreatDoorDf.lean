/- A deferred call that does nothing where nothing panics: decode.caught. -/
import Derived.Test.YtgjbnebmcmoilaaGreatDoorAk
import Derived.Recover
import Derived.WideLaws
import Derived.Laws.Pointers
set_option linter.unusedVariables false
set_option linter.unusedSimpArgs false
namespace Go.Proofs.YtgjbnebmcmoilaaGreatDoor
open Go.RowKit
set_option maxRecDepth 100000 in
set_option maxHeartbeats 4000000 in
theorem caught_idle (args : Array Value) (w : World) :
    CallsD Tryz.prog 245 args .returning w fun e u' w' => (∃ v, e = .returned v) ∧ u' = .returning ∧ w' = w := by
  refine callsD_of_wpS Tryz.func245 rfl fun c₀ cs hu => ?_
  have hsz : 13 ≤ (args ++ Array.replicate (Tryz.f245.ntmps - args.size) undef).size := by
    rw [Tryz.ntmps245]
    simp
    omega
  generalize (args ++ Array.replicate (Tryz.f245.ntmps - args.size) undef) = tm at hsz
  have h5 : 5 < tm.size := by omega
  have h7 : 7 < tm.size := by omega
  have h2 : 2 < tm.size := by omega
  apply wpS_seq
  apply wpS_region
  simp [wpOpsS, go_sem, recoverD, hu, Exit.thenS, Act.put, h5]
  refine wpS_of_wp ?_
  refine wp_block ?_
  refine wp_seq ?_
  have hq : ∀ W : World, (binOp .eql 20 .nilIface .nilIface).run Tryz.prog W = .ok (.bool true) W := fun W => run_eql_nil_nil W _ (by kernel_rfl)
  refine wp_region ?_
  simp [wpOps, go_sem, Act.put, Act.eval, h5, h7, Exit.then]
  left
  refine wp_cond_true (by simp [Act.eval, h7]) ?_
  refine wp_region ?_
  simp [wpOps, go_sem, Act.put, Act.eval, h5, h7, h2, Exit.inBlock]
  left
  refine ⟨rfl, .returning, ?_, ?_⟩
  · cases c₀
    simp_all
  · simp [results, Tryz.results245]
end Go.Proofs.YtgjbnebmcmoilaaGreatDoor
