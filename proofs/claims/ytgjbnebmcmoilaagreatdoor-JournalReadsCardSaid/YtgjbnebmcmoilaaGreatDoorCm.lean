/- crc's table, made: its run. -/
import Derived.Test.YtgjbnebmcmoilaaGreatDoorAk
set_option linter.unusedVariables false
set_option linter.unusedSimpArgs false
namespace Go.Proofs.YtgjbnebmcmoilaaGreatDoor
open Go.RowKit
noncomputable def cellsAt (r : Option (Value × Ax.St)) : Option (List Value × Bool) :=
  match r with
  | some (.pointer (some ⟨i, 0, none⟩), σ) => match Nat.ble 1000 i, σ.h.get i with
    | true, some (.cells cs rw) => some (cs, rw)
    | _, _ => none
  | _ => none
set_option maxRecDepth 100000 in
set_option maxHeartbeats 0 in
theorem made_run : cellsAt (Ax.callB gvb 100000 59 [] 1000 { h := .nil, nx := 1000 }) = some (crcTab, true) := by kernel_rfl
theorem cellsAt_spec {r : Option (Value × Ax.St)} {cs : List Value} {rw : Bool} (h : cellsAt r = some (cs, rw)) : ∃ i σ, r = some (.pointer (some ⟨i, 0, none⟩), σ) ∧ 1000 ≤ i ∧ σ.h.get i = some (.cells cs rw) := by
  unfold cellsAt at h
  split at h
  · rename_i i σ
    split at h
    · rename_i hi hg
      injection h with h
      injection h with e1 e2
      subst e1; subst e2
      exact ⟨i, σ, rfl, by simpa using hi, hg⟩
    · cases h
  · cases h
end Go.Proofs.YtgjbnebmcmoilaaGreatDoor
