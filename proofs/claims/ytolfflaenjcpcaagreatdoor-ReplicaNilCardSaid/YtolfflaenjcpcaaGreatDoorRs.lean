/- Short, of any call. -/
import Derived.Test.YtolfflaenjcpcaaGreatDoorJn
namespace Go.Proofs.YtolfflaenjcpcaaGreatDoor
set_option linter.unusedVariables false
set_option linter.unusedSimpArgs false
open Go.ChangeShapes Go.WideShapes Go.ChangeAt Go.RowKit Go.Deep
theorem nbl_al2 {w a : World} {o : Obj} (h : Below w.heap.size w a) : Below w.heap.size w (a.alloc o) := nbl_step h (below_alloc _ _)
def ShortOut (e : Ending) : Prop := ∃ b : Bool, e = .returned (.bool b)
set_option maxRecDepth 100000 in
set_option maxHeartbeats 1000000 in
theorem short_any (o q : Int) (k t j : ByteArray) (A : Option Addr) (n c : Nat) (w : World) : Calls Tryz.prog 7 #[.agg #[.int .i64 o, .string k, .string t, .string j, .int .i64 q, .slice A n c]] w fun e w' => ShortOut e ∧ Below w.heap.size w w' := by
  have HB := Lib.hid (Below.refl w.heap.size w)
  obtain ⟨kn, hkn⟩ : ∃ kn, k.size = kn := ⟨_, rfl⟩
  obtain ⟨tn, htn⟩ : ∃ tn, t.size = tn := ⟨_, rfl⟩
  obtain ⟨jn, hjn⟩ : ∃ jn, j.size = jn := ⟨_, rfl⟩
  go_enter Tryz.func7, Tryz.ntmps7
  by_cases h1 : (kn : Int) ≤ 120
  · have d1 : decide ((kn : Int) ≤ 120) = true := decide_eq_true h1
    by_cases h2 : (tn : Int) ≤ 120
    · have d2 : decide ((tn : Int) ≤ 120) = true := decide_eq_true h2
      by_cases h3 : (jn : Int) ≤ 120
      · have d3 : decide ((jn : Int) ≤ 120) = true := decide_eq_true h3
        go_wp2
        go_ret
        exact ⟨⟨_, rfl⟩, nbl_al2 HB.out⟩
      · have d3 : decide ((jn : Int) ≤ 120) = false := decide_eq_false h3
        go_wp2
        go_ret
        exact ⟨⟨_, rfl⟩, nbl_al2 HB.out⟩
    · have d2 : decide ((tn : Int) ≤ 120) = false := decide_eq_false h2
      go_wp2
      go_ret
      exact ⟨⟨_, rfl⟩, nbl_al2 HB.out⟩
  · have d1 : decide ((kn : Int) ≤ 120) = false := decide_eq_false h1
    go_wp2
    go_ret
    exact ⟨⟨_, rfl⟩, nbl_al2 HB.out⟩
end Go.Proofs.YtolfflaenjcpcaaGreatDoor
