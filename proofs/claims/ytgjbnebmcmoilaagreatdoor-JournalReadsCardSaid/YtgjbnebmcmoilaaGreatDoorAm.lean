/- What is asked of a call whose run is known. -/
import Derived.Test.YtgjbnebmcmoilaaGreatDoorAl
set_option linter.unusedVariables false
namespace Go.Proofs.YtgjbnebmcmoilaaGreatDoor
open Go.RowKit
def MemoDone (f : FuncId) (m : Ax.Memo) : Prop := ∀ (E : Ax.Ev) (w : World) (lo : Nat) (σ : Ax.St) (args args' : List Value) (v : Value) (σ' : Ax.St), Ax.Inv E σ gv.ng w → lo ≤ σ.nx → Ax.memo1 1000 lo m σ args = some (v, σ') → Ax.VRs E args args' →
    Calls Tryz.prog f ⟨args'⟩ w fun e w' => ∃ v' E', e = .returned v' ∧ Ax.VR E' v v' ∧ Ax.Inv E' σ' gv.ng w' ∧ Ax.Stp E lo σ.nx w E' w' ∧ Ax.AStp lo σ σ'
end Go.Proofs.YtgjbnebmcmoilaaGreatDoor
