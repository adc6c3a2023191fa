/- few, of one operation. -/
import Derived.Test.YtolfflaenjcpcaaGreatDoorJn
namespace Go.Proofs.YtolfflaenjcpcaaGreatDoor
set_option linter.unusedVariables false
set_option linter.unusedSimpArgs false
open Go.ChangeShapes Go.WideShapes Go.ChangeAt Go.RowKit Go.Deep
theorem nbl_al {w a : World} {o : Obj} (h : Below w.heap.size w a) : Below w.heap.size w (a.alloc o) := nbl_step h (below_alloc _ _)
set_option maxRecDepth 100000 in
set_option maxHeartbeats 4000000 in
theorem few_one (p cc : Nat) (kd nd N o q : Int) (k t j : ByteArray) (A : Option Addr) (n c : Nat) (w : World) (h0 : w.cell? ⟨p, 0, none⟩ = some (.int .i64 kd)) (h2 : w.cell? ⟨p, 2, none⟩ = some (.int .i64 N))
    (h3 : w.cell? ⟨p, 3, none⟩ = some (.int .i64 o)) (h4 : w.cell? ⟨p, 4, none⟩ = some (.string k)) (h5 : w.cell? ⟨p, 5, none⟩ = some (.string t)) (h6 : w.cell? ⟨p, 6, none⟩ = some (.string j)) (h7 : w.cell? ⟨p, 7, none⟩ = some (.int .i64 q)) (h8 : w.cell? ⟨p, 8, none⟩ = some (.slice A n c)) :
    Calls Tryz.prog 22 #[.slice (some ⟨p, 0, none⟩) 1 cc, .int .i64 1] w fun e w' => BoolOut e ∧ Below w.heap.size w w' := by
  have hp : p < w.heap.size := World.block_lt_of_cell? w _ h0
  go_enter Tryz.func22, Tryz.ntmps22
  go_wp2_with fail
  go_loopg [5] 1 (fun gf u wx => ∃ i : Nat, u = .int .i64 (i : Int) ∧ i + gf = 1 ∧ Below w.heap.size w wx)
  case atStart => exact ⟨0, rfl, by omega, Below.refl _ _⟩
  case round =>
    obtain ⟨i, rfl, hi, hbw⟩ := hrel
    have HB := Lib.hid hbw
    have c0 := cell_below hbw h0
    have c2 := cell_below hbw h2
    have c3 := cell_below hbw h3
    have c4 := cell_below hbw h4
    have c5 := cell_below hbw h5
    have c6 := cell_below hbw h6
    have c7 := cell_below hbw h7
    have c8 := cell_below hbw h8
    have a0 := fun o' => cell_below (below_alloc _ o') c0
    have a2 := fun o' => cell_below (below_alloc _ o') c2
    clear hbw h0 h2 h3 h4 h5 h6 h7 h8
    rcases (show i = 0 ∨ i = 1 by omega) with rfl | rfl
    · obtain ⟨g', rfl⟩ : ∃ g', gk = g' + 1 := ⟨gk - 1, by omega⟩
      by_cases d1 : (300 : Int) < k.size
      · have e1 : decide ((300 : Int) < k.size) = true := decide_eq_true d1
        go_wp2_with fail
        go_ret
        exact ⟨⟨_, rfl⟩, nbl_al HB.out⟩
      · have e1 : decide ((300 : Int) < k.size) = false := decide_eq_false d1
        by_cases d2 : (300 : Int) < t.size
        · have e2 : decide ((300 : Int) < t.size) = true := decide_eq_true d2
          go_wp2_with fail
          go_ret
          exact ⟨⟨_, rfl⟩, nbl_al HB.out⟩
        · have e2 : decide ((300 : Int) < t.size) = false := decide_eq_false d2
          by_cases d3 : (300 : Int) < j.size
          · have e3 : decide ((300 : Int) < j.size) = true := decide_eq_true d3
            go_wp2_with fail
            go_ret
            exact ⟨⟨_, rfl⟩, nbl_al HB.out⟩
          · have e3 : decide ((300 : Int) < j.size) = false := decide_eq_false d3
            by_cases d4 : (300 : Int) < n
            · have e4 : decide ((300 : Int) < n) = true := decide_eq_true d4
              go_wp2_with fail
              go_ret
              exact ⟨⟨_, rfl⟩, nbl_al HB.out⟩
            · have e4 : decide ((300 : Int) < n) = false := decide_eq_false d4
              by_cases d5 : kd = 5
              · subst d5
                by_cases d6 : (40 : Int) < N
                · have e6 : decide ((40 : Int) < N) = true := decide_eq_true d6
                  by_cases d7 : N ≤ (100000 : Int)
                  · have e7 : decide (N ≤ (100000 : Int)) = true := decide_eq_true d7
                    go_wp2_with fail
                    go_ret
                    exact ⟨⟨_, rfl⟩, nbl_al HB.out⟩
                  · have e7 : decide (N ≤ (100000 : Int)) = false := decide_eq_false d7
                    go_wp2_with fail
                    go_roundg g'
                    case measure => omega
                    case rel => exact ⟨1, rfl, by omega, nbl_al HB.out⟩
                · have e6 : decide ((40 : Int) < N) = false := decide_eq_false d6
                  go_wp2_with fail
                  go_roundg g'
                  case measure => omega
                  case rel => exact ⟨1, rfl, by omega, nbl_al HB.out⟩
              · have e5 : (kd == 5) = false := by simpa using d5
                go_wp2_with fail
                go_roundg g'
                case measure => omega
                case rel => exact ⟨1, rfl, by omega, nbl_al HB.out⟩
    · go_wp2_with fail
      go_ret
      exact ⟨⟨_, rfl⟩, HB.out⟩
end Go.Proofs.YtolfflaenjcpcaaGreatDoor
