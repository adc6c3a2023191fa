/- The evaluator over this program: what is asked of the library's functions. -/
import Derived.Test.YtgjbnebmcmoilaaGreatDoorAk
import Derived.Test.YtgjbnebmcmoilaaGreatDoorSh
import Derived.Test.YtgjbnebmcmoilaaGreatDoorDf
import Derived.Test.YtgjbnebmcmoilaaGreatDoorCr
set_option linter.unusedVariables false
set_option linter.unusedSimpArgs false
namespace Go.Proofs.YtgjbnebmcmoilaaGreatDoor
open Go.RowKit Go.Maps Go.Sort Go.Shelf

/-- a function of Go's library whose contract the shelf has -/
def LibOk (f : FuncId) (x : Ax.Xt) : Prop := ∀ (E : Ax.Ev) (w : World) (h : Ax.Tr Ax.AO) (args args' : List Value) (v : Value), Ax.HR E h w → Ax.Glob E gv.ng → Ax.extF x h args = some v → Ax.VRs E args args' →
    Calls Tryz.prog f ⟨args'⟩ w fun e w' => ∃ v', e = .returned v' ∧ Ax.VR E v v' ∧ w'.heap = w.heap ∧ w'.os = w.os ∧ w'.tape = w.tape ∧ w'.output = w.output
theorem lib_contains : LibOk 57 (.contains 1) := by
  intro E w h args args' v hh hg hq ha
  unfold Ax.extF at hq
  split at hq
  · rename_i heq; cases heq
  · rename_i mx s t heq
    injection heq with heq
    subst heq
    split at hq
    · rename_i m hr hs
      injection hq with hq
      subst hq
      obtain ⟨n, hn⟩ := hg 1 gv_ng
      · obtain ⟨cs', c1, c2, c3⟩ := Ax.rd_sound hh hn hr
        cases c1 with
        | cons _ u _ _ hu hnil =>
          cases hnil
          cases hu
          have hm := c3 0 _ rfl
          cases ha with
          | cons _ _ _ _ hs1 h2 =>
            cases h2 with
            | cons _ _ _ _ ht1 h3 =>
              cases h3
              cases hs1; cases ht1
              refine (Tryz.strings_Contains s t m w (by simpa using hs) hm).mono ?_
              rintro e w' ⟨rfl, rfl⟩
              exact ⟨_, rfl, .bool _, rfl, rfl, rfl, rfl⟩
    · cases hq
  · rename_i heq; cases heq
  · rename_i heq; cases heq
  · cases hq
def SumOk (f : FuncId) (s : Ax.Sm) : Prop := ∀ (E : Ax.Ev) (w : World) (lo : Nat) (σ : Ax.St) (args args' : List Value) (v : Value) (σ' : Ax.St), Ax.Inv E σ gv.ng w → lo ≤ σ.nx → Ax.sumF s σ args = some (v, σ') → Ax.VRs E args args' →
    Calls Tryz.prog f ⟨args'⟩ w fun e w' => ∃ v' E', e = .returned v' ∧ Ax.VR E' v v' ∧ Ax.Inv E' σ' gv.ng w' ∧ Ax.Stp E lo σ.nx w E' w' ∧ Ax.AStp lo σ σ'
theorem sum_made : SumOk 59 (.fresh crcTab) := by
  intro E w lo σ args args' v σ' hI hlo hq ha
  unfold Ax.sumF at hq
  split at hq
  · rename_i cs heq
    injection heq with heq
    subst heq
    split at hq
    · injection hq with hq
      injection hq with e1 e2
      subst e1; subst e2
      cases ha
      have hs : gvb.ng ≤ w.heap.size := by
        rcases Nat.lt_or_ge w.heap.size gvb.ng with h | h
        · obtain ⟨n, hn⟩ := hI.glob w.heap.size h
          have := hI.bnd _ _ _ hn
          omega
        · exact h
      refine (made_any w hs).mono ?_
      rintro e w' ⟨g, cur, ty, rfl, hg, hw, hl, hv, hbl⟩
      exact ⟨_, _, rfl, .ptr _ _ _ _ (Ax.Ev.ext_here _ _ _ _), Ax.fresh_post (cs := crcTab) hI hlo hbl hg hw hl (by rw [hv]; exact Ax.closedL_VRs (by kernel_rfl))⟩
    · cases hq
  · rename_i heq; cases heq
  · rename_i heq; cases heq
  · rename_i heq; cases heq
  · cases hq
set_option maxRecDepth 100000 in
theorem gv_names : (Tryz.prog.funcs.toList.all fun f => f.name != "runtime.NumGoroutine") = true := by kernel_rfl
theorem gv_mixed : Tryz.prog.follows .mixedOrders = true := by kernel_rfl
theorem gv_lib (f : FuncId) (x : Ax.Xt) (hx : gv.libs.get f = some x) : LibOk f x := by
  simp only [gv, Ax.Tr.get_set] at hx
  split at hx
  · rename_i hf
    subst hf
    injection hx with hx
    subst hx
    exact lib_contains
  · simp [Ax.Tr.get] at hx
theorem gv_sum (f : FuncId) (s : Ax.Sm) (hx : gv.sums.get f = some s) : SumOk f s := by
  simp only [gv, Ax.Tr.get_set] at hx
  split at hx
  · rename_i hf
    subst hf
    injection hx with hx
    subst hx
    exact sum_made
  · simp [Ax.Tr.get] at hx
theorem gv_fun (f : FuncId) (fn : Func) (h : gv.funcs.get f = some fn) : Tryz.prog.funcs[f]? = some fn ∧ fn.name ≠ "runtime.NumGoroutine" := by
  unfold gv at h
  dsimp only at h
  exact ⟨gfuncs_ok f fn h, Ax.names_ok gv_names (gfuncs_ok f fn h)⟩
theorem gv_funs : Ax.FunsOk Tryz.prog gv := by
  refine ⟨fun f fn h => gv_fun f fn h, fun f fn x _ _ h => ?_, fun f x hx E w h args args' v hh hg hq ha => gv_lib f x hx E w h args args' v hh hg hq ha, fun f s hx E w lo σ args args' v σ' hI hlo hq ha => gv_sum f s hx E w lo σ args args' v σ' hI hlo hq ha, fun f l h => ?_, fun f k h => ?_⟩
  · simp [gv, Ax.Tr.get] at h
  · simp [gv, Ax.Tr.get] at h
  · simp only [gv, Ax.Tr.get_set] at h
    split at h
    · rename_i hf
      subst hf
      exact ⟨⟨_, _, Tryz.func245, by decide, rfl⟩, caught_idle⟩
    · simp [Ax.Tr.get] at h
def MemosOk (f : FuncId) (l : List Ax.Memo) : Prop := ∀ (E : Ax.Ev) (w : World) (lo : Nat) (σ : Ax.St) (args args' : List Value) (v : Value) (σ' : Ax.St), Ax.Inv E σ gv.ng w → lo ≤ σ.nx → Ax.memoF 1000 lo σ args l = some (v, σ') → Ax.VRs E args args' →
    Calls Tryz.prog f ⟨args'⟩ w fun e w' => ∃ v' E', e = .returned v' ∧ Ax.VR E' v v' ∧ Ax.Inv E' σ' gv.ng w' ∧ Ax.Stp E lo σ.nx w E' w' ∧ Ax.AStp lo σ σ'
/-- the package's variables, as the rows lay them (with client's rows: Env1) -/
def Env (W : World) : Prop := ∃ m, Ax.VarsAre W (vars0 m) ∧ gv.ng ≤ W.heap.size
def Env1 (W : World) : Prop := ∃ m, Ax.VarsAre W (vars m) ∧ gv.ng ≤ W.heap.size
end Go.Proofs.YtgjbnebmcmoilaaGreatDoor
