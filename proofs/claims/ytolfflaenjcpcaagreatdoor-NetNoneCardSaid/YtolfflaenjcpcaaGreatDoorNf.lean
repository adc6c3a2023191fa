/- NetNone: true. -/
import Derived.Test.YtolfflaenjcpcaaGreatDoorNn
import Derived.Test.YtolfflaenjcpcaaGreatDoorKb
import Derived.Test.YtolfflaenjcpcaaGreatDoorJf
import Derived.Test.YtolfflaenjcpcaaGreatDoorRy
namespace Go.Proofs.YtolfflaenjcpcaaGreatDoor
set_option linter.unusedVariables false
open Go.RowKit
theorem netNone_row (kd nd N o q : Int) (k t j : ByteArray) (A : Option Addr) (n c : Nat) (x : Int) (w : World) (hE : Env w) :
    Calls Tryz.prog 4 #[.agg #[.int .i64 kd, .int .i64 nd, .int .i64 N, .int .i64 o, .string k, .string t, .string j, .int .i64 q, .slice A n c], .int .i64 x] w fun e w' => e = .returned (.bool true) ∧ Below w.heap.size w w' :=
  netNone_of kd nd N o q k t j A n c x w (by obtain ⟨_, _, h⟩ := hE; exact h) fun W hb => known37_yes W (hE.below hb)
end Go.Proofs.YtolfflaenjcpcaaGreatDoor
