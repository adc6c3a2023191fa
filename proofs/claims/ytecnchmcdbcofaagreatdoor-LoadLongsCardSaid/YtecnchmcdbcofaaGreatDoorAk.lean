/- The evaluator over this program: its tables. -/
import Derived.Test.YtecnchmcdbcofaaGreatDoorAxi
import Derived.Test.YtecnchmcdbcofaaGreatDoorProg
set_option linter.unusedVariables false
set_option linter.unusedSimpArgs false
namespace Go.Proofs.YtecnchmcdbcofaaGreatDoor
open Go.RowKit

noncomputable def gtypes : Ax.Tr Ax.TI := Ax.tysOf Tryz.prog 1000
theorem gtypes_ok (t : TypeId) (ti : Ax.TI) (h : gtypes.get t = some ti) : Ax.TyOk Tryz.prog t ti := by
  unfold gtypes at h
  exact Ax.tysOf_ok h
noncomputable def gfuncs : Ax.Tr Func := Ax.funsOf Tryz.prog
theorem gfuncs_ok (f : FuncId) (fn : Func) (h : gfuncs.get f = some fn) : Tryz.prog.funcs[f]? = some fn := by
  unfold gfuncs at h
  exact Ax.funsOf_ok h
noncomputable def gv : Ax.Gv := { types := gtypes, funcs := gfuncs, exts := .nil, libs := Ax.Tr.nil.set 66 (.contains 2), sums := Ax.Tr.nil.set 61 (.sortedKeys 113), dfs := .nil, memos := .nil, base := 1000, ng := Tryz.prog.globals.size }
theorem gv_types : Ax.TypesOk Tryz.prog gv := by
  intro t ti h
  unfold gv at h
  dsimp only at h
  exact gtypes_ok t ti h
theorem gv_ng : 2 < gv.ng := by
  have h : Nat.blt 2 gv.ng = true := by kernel_rfl
  simpa using h
theorem gv_ng1000 : gv.ng ≤ 1000 := by
  have h : Nat.ble gv.ng 1000 = true := by kernel_rfl
  simpa using h
def vars (m : Int) : List (Nat × List Value) := [
  (0, [.int .u32 2166136261, .int .u32 16777619]),
  (1, [.string ⟨⟨[]⟩⟩, .string ⟨⟨[]⟩⟩, .string ⟨⟨[97, 100, 100]⟩⟩, .string ⟨⟨[107, 113, 105]⟩⟩, .string ⟨⟨[115, 101, 116]⟩⟩, .string ⟨⟨[107, 113, 105]⟩⟩, .string ⟨⟨[114, 101, 109, 111, 118, 101]⟩⟩, .string ⟨⟨[107, 105]⟩⟩, .string ⟨⟨[103, 101, 116]⟩⟩, .string ⟨⟨[107]⟩⟩, .string ⟨⟨[99, 108, 101, 97, 114]⟩⟩, .string ⟨⟨[107]⟩⟩, .string ⟨⟨[119, 105, 115, 104]⟩⟩, .string ⟨⟨[107, 111, 105]⟩⟩, .string ⟨⟨[108, 111, 103, 105, 110]⟩⟩, .string ⟨⟨[107, 111]⟩⟩, .string ⟨⟨[100, 101, 108, 105, 118, 101, 114]⟩⟩, .string ⟨⟨[100]⟩⟩, .string ⟨⟨[109, 101, 114, 103, 101]⟩⟩, .string ⟨⟨[]⟩⟩, .string ⟨⟨[100, 114, 97, 105, 110]⟩⟩, .string ⟨⟨[]⟩⟩, .string ⟨⟨[99, 108, 111, 115, 101]⟩⟩, .string ⟨⟨[]⟩⟩]),
  (2, [.int .i64 m])]
noncomputable def st0 (m : Int) : Ax.St := { h := Ax.h0Of (vars m), nx := 1000 }
theorem vars_lt {m : Int} : ∀ p ∈ vars m, p.1 < gv.ng := by
  have h : ((vars m).all fun p => Nat.blt p.1 gv.ng) = true := by kernel_rfl
  intro p hp
  simpa using List.all_eq_true.1 h p hp
end Go.Proofs.YtecnchmcdbcofaaGreatDoor
