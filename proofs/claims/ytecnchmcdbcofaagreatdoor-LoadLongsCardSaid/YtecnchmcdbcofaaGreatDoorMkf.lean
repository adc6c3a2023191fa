/- New at a configuration that is none. -/
import Derived.Test.YtecnchmcdbcofaaGreatDoorMke
set_option linter.unusedVariables false
set_option linter.unusedSimpArgs false
namespace Go.Proofs.YtecnchmcdbcofaaGreatDoor
open Go.RowKit Go.MapKept
set_option maxHeartbeats 1000000 in
theorem lnew_bad (w : World) (c : LC) (h : okB4 c = false) : Calls Tryz.prog 20 #[.agg c.arr] w fun e w' => e = .returned (.tuple #[.pointer none, .int .i64 2]) ∧ Below w.heap.size w w' := by
  have HC : Hid (¬ (1 ≤ c.keys ∧ c.keys ≤ 1000 ∧ 1 ≤ c.items ∧ c.items ≤ 100 ∧ 0 ≤ c.reads ∧ c.reads ≤ 1000)) := Lib.hid fun ⟨h1, h2, h3, h4, h5, h6⟩ => by
    rw [show okB4 c = true by simp [okB4, h1, h2, h3, h4, h5, h6]] at h
    cases h
  clear h
  obtain ⟨s, k, t, r⟩ := c
  dsimp only at HC
  unfold LC.arr
  dsimp only
  by_cases c0 : k < 1
  · have d0 : decide (k < 1) = true := decide_eq_true c0
    clear c0
    go_enter Tryz.func20, Tryz.ntmps20
    go_wp2
    go_ret2
    exact ⟨rfl, below_alloc _ _⟩
  have d0 : decide (k < 1) = false := decide_eq_false c0
  have C0 := Lib.hid c0
  clear c0
  by_cases c1 : 1000 < k
  · have d1 : decide (1000 < k) = true := decide_eq_true c1
    clear c1
    go_enter Tryz.func20, Tryz.ntmps20
    go_wp2
    go_ret2
    exact ⟨rfl, below_alloc _ _⟩
  have d1 : decide (1000 < k) = false := decide_eq_false c1
  have C1 := Lib.hid c1
  clear c1
  by_cases c2 : t < 1
  · have d2 : decide (t < 1) = true := decide_eq_true c2
    clear c2
    go_enter Tryz.func20, Tryz.ntmps20
    go_wp2
    go_ret2
    exact ⟨rfl, below_alloc _ _⟩
  have d2 : decide (t < 1) = false := decide_eq_false c2
  have C2 := Lib.hid c2
  clear c2
  by_cases c3 : 100 < t
  · have d3 : decide (100 < t) = true := decide_eq_true c3
    clear c3
    go_enter Tryz.func20, Tryz.ntmps20
    go_wp2
    go_ret2
    exact ⟨rfl, below_alloc _ _⟩
  have d3 : decide (100 < t) = false := decide_eq_false c3
  have C3 := Lib.hid c3
  clear c3
  by_cases c4 : r < 0
  · have d4 : decide (r < 0) = true := decide_eq_true c4
    clear c4
    go_enter Tryz.func20, Tryz.ntmps20
    go_wp2
    go_ret2
    exact ⟨rfl, below_alloc _ _⟩
  have d4 : decide (r < 0) = false := decide_eq_false c4
  have C4 := Lib.hid c4
  clear c4
  by_cases c5 : 1000 < r
  · have d5 : decide (1000 < r) = true := decide_eq_true c5
    clear c5
    go_enter Tryz.func20, Tryz.ntmps20
    go_wp2
    go_ret2
    exact ⟨rfl, below_alloc _ _⟩
  have d5 : decide (1000 < r) = false := decide_eq_false c5
  have C5 := Lib.hid c5
  clear c5
  exact absurd (show 1 ≤ k ∧ k ≤ 1000 ∧ 1 ≤ t ∧ t ≤ 100 ∧ 0 ≤ r ∧ r ≤ 1000 by
    have := C0.out
    have := C1.out
    have := C2.out
    have := C3.out
    have := C4.out
    have := C5.out
    omega) HC.out
end Go.Proofs.YtecnchmcdbcofaaGreatDoor
