/- No function of this program starts a goroutine. -/
import Derived.Test.YtgjbnebmcmoilaaGreatDoorRx
set_option linter.unusedVariables false
set_option linter.unusedSimpArgs false
namespace Go.Proofs.YtgjbnebmcmoilaaGreatDoor
set_option maxRecDepth 100000 in
theorem none_goes : (Tryz.pinned.checked.prog.funcs.toList.all fun f => !f.goes) = true := by kernel_rfl
theorem goes_false (P : Program) (h : (P.funcs.toList.all fun f => !f.goes) = true) (f : FuncId) : P.goes f = false := by
  have hall : ∀ fn ∈ P.funcs.toList, fn.goes = false := fun fn hm => by
    have := List.all_eq_true.1 h fn hm
    simpa using this
  unfold Program.goes
  have h1 : ((P.closure f).any fun g => (P.funcs[g]?).any Func.goes) = false := by
    apply Bool.eq_false_iff.2
    intro hx
    simp only [Array.any_eq_true, List.any_eq_true] at hx
    first
      | (obtain ⟨i, hi, hx⟩ := hx
         cases hg : P.funcs[(P.closure f)[i]]? with
         | none => rw [hg] at hx; simp at hx
         | some fn =>
           rw [hg] at hx
           have := hall fn (by simpa using Array.mem_of_getElem? hg)
           simp [this] at hx)
      | (obtain ⟨g, _, hx⟩ := hx
         cases hg : P.funcs[g]? with
         | none => rw [hg] at hx; simp at hx
         | some fn =>
           rw [hg] at hx
           have := hall fn (by simpa using Array.mem_of_getElem? hg)
           simp [this] at hx)
  have h2 : P.funcs.any Func.goes = false := by
    apply Bool.eq_false_iff.2
    intro hx
    simp only [Array.any_eq_true] at hx
    obtain ⟨i, hi, hx⟩ := hx
    rw [hall _ (by simp)] at hx
    cases hx
  rw [h1, h2]
  simp
theorem goesAt_false (P : Program) (h : (P.funcs.toList.all fun f => !f.goes) = true) (s : Start) (f : String) : P.goesAt s f = false := by
  unfold Program.goesAt Program.goesFrom
  have h1 : ((P.funcNamed f).any P.goes) = false := by
    cases P.funcNamed f with
    | none => rfl
    | some g => simp [goes_false P h]
  have h2 : P.inits.toList.any P.goes = false := by
    apply Bool.eq_false_iff.2
    intro hx
    obtain ⟨g, _, hx⟩ := List.any_eq_true.1 hx
    rw [goes_false P h] at hx
    cases hx
  rw [h1, h2]
  cases s <;> rfl
end Go.Proofs.YtgjbnebmcmoilaaGreatDoor
