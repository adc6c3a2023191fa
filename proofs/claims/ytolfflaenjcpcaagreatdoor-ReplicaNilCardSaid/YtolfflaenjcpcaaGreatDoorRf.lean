/- ReplicaNil: true. -/
import Derived.Test.YtolfflaenjcpcaaGreatDoorRn
import Derived.Test.YtolfflaenjcpcaaGreatDoorKc
import Derived.Test.YtolfflaenjcpcaaGreatDoorEb
namespace Go.Proofs.YtolfflaenjcpcaaGreatDoor
set_option linter.unusedVariables false
open Go.RowKit
theorem replicaNil_row (o q : Int) (k t j : ByteArray) (A : Option Addr) (n c : Nat) (x : Int) (w : World) (hE : Env w) :
    Calls Tryz.prog 3 #[.agg #[.int .i64 o, .string k, .string t, .string j, .int .i64 q, .slice A n c], .int .i64 x] w fun e w' => e = .returned (.bool true) ∧ Below w.heap.size w w' :=
  replicaNil_of o q k t j A n c x w (by obtain ⟨_, _, h⟩ := hE; exact h) fun W hb => known23_yes W (hE.below hb)
end Go.Proofs.YtolfflaenjcpcaaGreatDoor
