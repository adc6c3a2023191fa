/- light, of one call. -/
import Derived.Test.YtolfflaenjcpcaaGreatDoorChecked
import Derived.WalkKit
import Derived.ProofKit
import Derived.OpenShut
import Derived.Deep.DeepHandedRow
import Derived.Deep.Slices
import Derived.ChangeSame
import Derived.Lib.Hide
import Derived.Deep.QuietTactic
import Derived.BigQuiet
import Derived.WalkSpells
import Derived.WalkLawsBesides
namespace Go.Proofs.YtolfflaenjcpcaaGreatDoor
set_option linter.unusedVariables false
set_option linter.unusedSimpArgs false
open Go.ChangeShapes Go.WideShapes Go.ChangeAt Go.RowKit Go.Deep
theorem nbl_step {w a b : World} (h : Below w.heap.size w a) (k : Below a.heap.size a b) : Below w.heap.size w b := h.trans (k.mono h.size)
theorem nbl_drewN {w a : World} {n : Nat} (h : Below w.heap.size w a) : Below w.heap.size w (a.drewN n) := ⟨h.os, h.tape, h.output, h.size, h.block⟩
def BoolOut (e : Ending) : Prop := ∃ b : Bool, e = .returned (.bool b)
set_option maxRecDepth 100000 in
set_option maxHeartbeats 1000000 in
theorem light_one (p : Nat) (c : Nat) (k t j : ByteArray) (A : Option Addr) (n cp : Nat) (w : World) (h1 : w.cell? ⟨p, 1, none⟩ = some (.string k)) (h2 : w.cell? ⟨p, 2, none⟩ = some (.string t)) (h3 : w.cell? ⟨p, 3, none⟩ = some (.string j)) (h5 : w.cell? ⟨p, 5, none⟩ = some (.slice A n cp)) :
    Calls Tryz.prog 31 #[.slice (some ⟨p, 0, none⟩) 1 c, .int .i64 1] w fun e w' => BoolOut e ∧ w' = w := by
  go_enter Tryz.func31, Tryz.ntmps31
  go_wp2_with fail
  go_loop [5] (fun u => ∃ i : Nat, i ≤ 1 ∧ u = .int .i64 i) (fun u => 1 - (match u with | .int _ z => z.toNat | _ => 0))
  case atStart => exact ⟨0, by omega, rfl⟩
  case round =>
    obtain ⟨i, hi, rfl⟩ := hrel
    rcases Nat.lt_or_ge i 1 with hlt | hge
    · obtain rfl : i = 0 := by omega
      by_cases d1 : (300 : Int) < k.size
      · have e1 : decide ((300 : Int) < k.size) = true := decide_eq_true d1
        go_wp2_with fail
        go_ret
        exact ⟨⟨_, rfl⟩, rfl⟩
      · have e1 : decide ((300 : Int) < k.size) = false := decide_eq_false d1
        by_cases d2 : (300 : Int) < t.size
        · have e2 : decide ((300 : Int) < t.size) = true := decide_eq_true d2
          go_wp2_with fail
          go_ret
          exact ⟨⟨_, rfl⟩, rfl⟩
        · have e2 : decide ((300 : Int) < t.size) = false := decide_eq_false d2
          by_cases d3 : (300 : Int) < j.size
          · have e3 : decide ((300 : Int) < j.size) = true := decide_eq_true d3
            go_wp2_with fail
            go_ret
            exact ⟨⟨_, rfl⟩, rfl⟩
          · have e3 : decide ((300 : Int) < j.size) = false := decide_eq_false d3
            by_cases d4 : (300 : Int) < n
            · have e4 : decide ((300 : Int) < n) = true := decide_eq_true d4
              go_wp2_with fail
              go_ret
              exact ⟨⟨_, rfl⟩, rfl⟩
            · have e4 : decide ((300 : Int) < n) = false := decide_eq_false d4
              go_wp2_with fail
              exact ⟨⟨1, by omega, rfl⟩, by simp⟩
    · obtain rfl : i = 1 := by omega
      go_wp2_with fail
      go_ret
      exact ⟨⟨_, rfl⟩, rfl⟩
end Go.Proofs.YtolfflaenjcpcaaGreatDoor
