/- Too many calls. -/
import Derived.Test.YtecnchmcdbcofaaGreatDoorLgc
set_option linter.unusedVariables false
set_option linter.unusedSimpArgs false
namespace Go.Proofs.YtecnchmcdbcofaaGreatDoor
open Go.RowKit Go.MapKept
theorem lcheck_long (w : World) (A : Option Addr) (n cap : Nat) (h : 20000 < n) (hn : n ≤ 20002) : Calls Tryz.prog 56 #[.slice A n cap] w fun e w' => e = .returned (.int .i64 5) ∧ w' = w := by
  have d : decide ((20000 : Int) < n) = true := decide_eq_true (by omega)
  have H := Lib.hid h
  clear h
  go_enter Tryz.func56, Tryz.ntmps56
  go_wp2_with fail
  go_ret
  exact ⟨rfl, rfl⟩
theorem use_long (w : World) (A : Option Addr) (n cap : Nat) (m : Int) (h : 20000 < n) (hn : n ≤ 20002) : Calls Tryz.prog 24 #[.slice A n cap, .int .i64 m] w fun e w' => e = .returned (.tuple #[.slice none 0 0, .int .i64 5]) ∧ w' = w := by
  have HA := Lib.hid (lcheck_long w A n cap h hn)
  clear h hn
  go_enter Tryz.func24, Tryz.ntmps24
  go_wp2_with (first | (go_at_call 56; refine HA.out.mono ?_; rintro e w2 ⟨rfl, hw⟩; obtain rfl := hw.symm; clear hw))
  go_ret2
  exact ⟨rfl, rfl⟩
theorem uses_long (w : World) (A : Option Addr) (n cap : Nat) (m : Int) (h : 20000 < n) (hn : n ≤ 20002) : Calls Tryz.prog 12 #[.slice A n cap, .int .i64 m, .slice none 0 0, .int .i64 5] w fun e w' => e = .returned (.bool true) ∧ Below w.heap.size w w' := by
  have HA := Lib.hid (use_long w A n cap m h hn)
  clear h hn
  go_enter Tryz.func12, Tryz.ntmps12
  go_wp2_with (first | (go_at_call 24; refine HA.out.mono ?_; rintro e w2 ⟨rfl, hw⟩; obtain rfl := hw.symm; clear hw))
  go_loop [11] (fun u => u = .int .i64 0) (fun u => 0)
  case atStart => rfl
  case round =>
    obtain rfl := hrel
    go_wp2_with fail
    go_ret
    exact ⟨rfl, Below.refl _ _⟩
theorem tally_long (w : World) (A : Option Addr) (n cap : Nat) (h : 20000 < n) (hn : n ≤ 20002) : Calls Tryz.prog 26 #[.agg ⟨cfgL⟩, .slice A n cap] w fun e w' => e = .returned (.tuple #[.slice none 0 0, .int .i64 5]) ∧ Below w.heap.size w w' := by
  have HA : Hid (∀ W, Calls Tryz.prog 56 #[.slice A n cap] W fun e w' => e = .returned (.int .i64 5) ∧ w' = W) := Lib.hid fun W => lcheck_long W A n cap h hn
  clear h hn
  unfold cfgL
  go_enter Tryz.func26, Tryz.ntmps26
  go_wp2_with (first | (go_at_call 56; refine (HA.out _).mono ?_; rintro e w2 ⟨rfl, hw⟩; obtain rfl := hw.symm; clear hw))
  go_ret2
  exact ⟨rfl, below_alloc _ _⟩
theorem tallies_long (w : World) (A : Option Addr) (n cap : Nat) (h : 20000 < n) (hn : n ≤ 20002) : Calls Tryz.prog 15 #[.agg ⟨cfgL⟩, .slice A n cap, .slice none 0 0, .int .i64 5] w fun e w' => e = .returned (.bool true) ∧ Below w.heap.size w w' := by
  have HA : Hid (∀ W, Calls Tryz.prog 26 #[.agg ⟨cfgL⟩, .slice A n cap] W fun e w' => e = .returned (.tuple #[.slice none 0 0, .int .i64 5]) ∧ Below W.heap.size W w') := Lib.hid fun W => tally_long W A n cap h hn
  clear h hn
  unfold cfgL at HA ⊢
  go_enter Tryz.func15, Tryz.ntmps15
  go_wp2_with (first | (go_at_call 26; refine (HA.out _).mono ?_; rintro e w2 ⟨rfl, hb⟩; have HB := Lib.hid hb; clear hb))
  go_loop [11] (fun u => u = .int .i64 0) (fun u => 0)
  case atStart => rfl
  case round =>
    obtain rfl := hrel
    go_wp2_with fail
    go_ret
    exact ⟨rfl, nbl_step (below_alloc _ _) HB.out⟩
end Go.Proofs.YtecnchmcdbcofaaGreatDoor
