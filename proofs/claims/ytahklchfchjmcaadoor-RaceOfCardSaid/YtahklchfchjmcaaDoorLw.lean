/- Loads and stores of whole structs at an operation, by one law each. -/
import Derived.Test.YtahklchfchjmcaaDoorOp
import Derived.Deep.WholeRow
namespace Go.Proofs.YtahklchfchjmcaaDoor
set_option linter.unusedVariables false
section
variable {P : Program} {ops : Array Oper} {Q : Exit → Act → World → Prop} {a : Act} {w : World} {rest : List Oper} {o : Oper}
theorem wpList_load_eq (hw : Region.wanted o (yielded ops a.tmps) = true) (x : Operand) (t : TypeId) (hop : o.op = Op.load t x) (p v : Value) (hx : a.eval x = p)
    (hrun : (Instr.loadAt t p).run P w = .ok v w) (hK : wpList P ops Q rest (a.put o.dst v) w) : wpList P ops Q (o :: rest) a w := by
  refine wpList_value hw (v := v) (w' := w) ?_ hK
  simp [execOp, hop, hx, hrun, Result.andThen]
theorem wpList_store_eq (hw : Region.wanted o (yielded ops a.tmps) = true) (x y : Operand) (t : TypeId) (hop : o.op = Op.store t x y) (p v : Value) (hx : a.eval x = p) (hy : a.eval y = v) {w' : World}
    (hrun : (Instr.storeAt t p v).run P w = .ok () w') (hK : wpList P ops Q rest (a.put o.dst undef) w') : wpList P ops Q (o :: rest) a w := by
  refine wpList_skips hw (w' := w') ?_ hK
  simp [execOp, hop, hx, hy, hrun, Result.andThen]
end
end Go.Proofs.YtahklchfchjmcaaDoor
