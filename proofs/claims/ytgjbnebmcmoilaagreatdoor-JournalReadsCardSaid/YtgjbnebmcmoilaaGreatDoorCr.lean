/- crc's table, made: what is asked of it. -/
import Derived.Test.YtgjbnebmcmoilaaGreatDoorCm
import Derived.Test.YtgjbnebmcmoilaaGreatDoorGb
set_option linter.unusedVariables false
set_option linter.unusedSimpArgs false
namespace Go.Proofs.YtgjbnebmcmoilaaGreatDoor
open Go.RowKit
theorem made_any (w : World) (hs : gvb.ng ≤ w.heap.size) : Calls Tryz.prog 59 #[] w fun e w' => ∃ (g : Nat) (cur : Array Value) (ty : TypeId), e = .returned (.pointer (some ⟨g, 0, none⟩)) ∧ w.heap.size ≤ g ∧ w'.heap[g]? = some (.cells cur ty (0, 0)) ∧ crcTab.length ≤ cur.size ∧
    cur.toList.take crcTab.length = crcTab ∧ Below w.heap.size w w' := by
  obtain ⟨i, σ, hc, hi, hg⟩ := cellsAt_spec made_run
  have hn : gvb.ng ≤ 1000 := gv_ng1000
  have hfr : ∀ j m b, 1000 ≤ j → (Ax.E0 w gvb.ng).blk j ≠ some (b, m) := fun j m b hj h => by
    unfold Ax.E0 at h
    simp only at h
    rw [if_neg (by omega)] at h
    cases h
  refine (Ax.callB_sound gz_types gz_funs gz_mixed hc (Ax.Inv0 (l := []) (fun p hp => by cases hp) (fun p hp => by cases hp) hn hs) (Nat.le_refl _) .nil).mono ?_
  rintro e w' ⟨v', E', rfl, hv, hI, hst, _⟩
  cases hv with
  | ptr _ b n _ hb =>
    obtain ⟨b', n', arr, ty, fr, k1, k2, k3, k4, k5, k6⟩ := hI.heap i _ hg
    rw [hb] at k1
    injection k1 with k1; injection k1 with k1 k1'
    subst k1; subst k1'
    obtain rfl := k4 rfl
    refine ⟨b, arr, ty, rfl, ?_, k2, by omega, zclosedL_eq (by kernel_rfl) k6, hst.below hfr⟩
    rcases hst.new i b n hb with h | ⟨_, h | ⟨j, m, hj, h⟩⟩
    · exact absurd h (hfr i n b hi)
    · exact h
    · exact absurd h (hfr j m b hj)
end Go.Proofs.YtgjbnebmcmoilaaGreatDoor
