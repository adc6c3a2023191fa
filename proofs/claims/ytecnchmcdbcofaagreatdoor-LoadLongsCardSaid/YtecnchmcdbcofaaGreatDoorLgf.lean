/- tallies at merges; LoadLongs. -/
import Derived.Test.YtecnchmcdbcofaaGreatDoorLge
import Derived.Laws.StructEq
import Derived.ChangeKeysEq
import Derived.Deep.RegionHeld3
set_option linter.unusedVariables false
set_option linter.unusedSimpArgs false
namespace Go.Proofs.YtecnchmcdbcofaaGreatDoor
open Go.RowKit Go.MapKept
theorem run_equal_cnt (k n : Int) (w : World) : (Op.equalIn 10000 51 (.agg #[.int .i64 k, .int .i64 n]) (.agg #[.int .i64 k, .int .i64 n])).run Tryz.prog w = .ok true w := by
  rw [show (10000 : Nat) = 9999 + 1 from rfl, run_equalIn_agg (P := Tryz.prog) w 9999 51 _ _ (by kernel_rfl) (by kernel_rfl)]
  unfold Program.fieldsOf
  rw [Tryz.underlying51]
  have e2 : ∀ x y : Int, (Op.equalIn 9999 3 (.int .i64 x) (.int .i64 y)).run Tryz.prog w = .ok (x == y) w := fun x y => run_equalIn_int (P := Tryz.prog) w 9998 3 .i64 .i64 x y (by kernel_rfl)
  have e3 : ∀ x y : Int, (Op.equalIn 9999 40 (.int .i64 x) (.int .i64 y)).run Tryz.prog w = .ok (x == y) w := fun x y => run_equalIn_int (P := Tryz.prog) w 9998 40 .i64 .i64 x y (by kernel_rfl)
  have p1 := fun (xs : Array Value) (off : Nat) (v : Value) (h : xs[off]? = some v) => run_part_plain (P := Tryz.prog) w (e := 3) (by kernel_rfl) h
  have p2 := fun (xs : Array Value) (off : Nat) (v : Value) (h : xs[off]? = some v) => run_part_plain (P := Tryz.prog) w (e := 40) (by kernel_rfl) h
  simp only [Op.eqFields, Sem.run_bind, Sem.run_ite, ne_eq, if_true, String.reduceEq, not_false_eq_true, p2 #[Value.int IntKind.i64 k, Value.int IntKind.i64 n] 0 (Value.int IntKind.i64 k) rfl,
    p1 #[Value.int IntKind.i64 k, Value.int IntKind.i64 n] 1 (Value.int IntKind.i64 n) rfl, e2, e3, Result.andThen_ok, Sem.run_pure]
  simp
theorem run_neq_cnt (k n : Int) (w : World) : (binOp .neq 51 (.agg #[.int .i64 k, .int .i64 n]) (.agg #[.int .i64 k, .int .i64 n])).run Tryz.prog w = .ok (.bool false) w := by
  rw [run_neq_struct, run_equal_cnt]
  rfl
theorem run_guard_cnt (x y : Operand) (xs ys : Array Value) (w : World) : (eqGuard .neq 51 x y (.agg xs) (.agg ys)).run Tryz.prog w = .ok () w :=
  run_eqGuard_agg w .neq 51 x y xs ys (by kernel_rfl)
set_option maxRecDepth 100000 in
set_option maxHeartbeats 1000000 in
theorem tallies_good (w : World) (A : Option Addr) (N cap : Nat) (h : CallsAt w (.slice A N cap) (mgs N)) (h1 : 1 ≤ N) (h2 : N ≤ 20000) (hE : Env w) (g2 : Nat) (hg2 : g2 < w.heap.size) (k0 : w.cell? ⟨g2, 0, none⟩ = some (.int .i64 0)) (k1 : w.cell? ⟨g2, 1, none⟩ = some (.int .i64 (N : Int))) :
    Calls Tryz.prog 15 #[.agg ⟨cfgL⟩, .slice A N cap, .slice (some ⟨g2, 0, none⟩) 1 1, .int .i64 0] w fun e w' => e = .returned (.bool true) ∧ Below w.heap.size w w' := by
  have HA : Hid (∀ W, Below w.heap.size w W → Calls Tryz.prog 26 #[.agg ⟨cfgL⟩, .slice A N cap] W fun e w' => TallyE w' N e ∧ Below W.heap.size W w') := Lib.hid fun W hW => tally_any W A N cap (SlAt.below h hW) h1 h2 (hE.below hW)
  have K0 := Lib.hid k0
  have K1 := Lib.hid k1
  clear h h1 h2 hE k0 k1
  unfold cfgL at HA ⊢
  have hne := run_neq_cnt 0 (N : Int)
  have hgu := run_guard_cnt
  go_enter Tryz.func15, Tryz.ntmps15
  go_wp2_with (first | (go_at_call 26; refine (HA.out _ (below_alloc _ _)).mono ?_; rintro e w2 ⟨⟨g, cp, rfl, hg, hc1, hc2, hg0, hg1⟩, hb⟩; have HG0 := Lib.hid hg0; have HG1 := Lib.hid hg1; have K02 := Lib.hid (cell_below hb (cell_below (below_alloc _ _) K0.out)); have K12 := Lib.hid (cell_below hb (cell_below (below_alloc _ _) K1.out)); have HB := Lib.hid hb; clear hb hg hg0 hg1))
  go_loopg [11] 1 (fun gf u wx => ∃ i : Nat, u = .int .i64 (i : Int) ∧ i + gf = 1 ∧ Below w2.heap.size w2 wx)
  case atStart => exact ⟨0, rfl, rfl, Below.refl _ _⟩
  case round =>
    obtain ⟨i, rfl, hi, hbw⟩ := hrel
    have HW := Lib.hid hbw
    by_cases hlt : i < 1
    · obtain ⟨g', rfl⟩ : ∃ g', gk = g' + 1 := ⟨gk - 1, by omega⟩
      obtain rfl : i = 0 := by omega
      have a0 := cell_below hbw HG0.out
      have a1 := cell_below hbw HG1.out
      have b0 := cell_below hbw K02.out
      have b1 := cell_below hbw K12.out
      clear hbw
      go_wp2_with fail
      go_quiet (fail)
      go_wp2_with fail
      go_roundg g'
      case measure => omega
      case rel => exact ⟨1, rfl, by omega, nbl_drewN HW.out⟩
    · clear hbw
      obtain rfl : i = 1 := by omega
      go_wp2_with fail
      go_ret
      exact ⟨rfl, nbl_step (nbl_step (below_alloc _ _) HB.out) HW.out⟩
end Go.Proofs.YtecnchmcdbcofaaGreatDoor
