/- A node without carts: what a merge does to it. -/
import Derived.Test.YtecnchmcdbcofaaGreatDoorUb
set_option linter.unusedVariables false
set_option linter.unusedSimpArgs false
namespace Go.Proofs.YtecnchmcdbcofaaGreatDoor
open Go.RowKit
def pickN (v : Value) (g : Value → Option Value) : Option (Value × Value) := match v with
  | .tuple ⟨[n, e]⟩ => (g n).map fun r => (e, r)
  | _ => none
theorem pickN_some {v : Value} {g : Value → Option Value} {e r : Value} (h : pickN v g = some (e, r)) : ∃ n, v = .tuple ⟨[n, e]⟩ ∧ g n = some r := by
  unfold pickN at h
  split at h
  · rename_i n e'
    simp only [Option.map_eq_some_iff] at h
    obtain ⟨r', h4, h5⟩ := h
    injection h5 with h5 h6
    subst h5; subst h6
    exact ⟨n, rfl, h4⟩
  · cases h
def cfgL : List Value := [.int .i64 1, .int .i64 2, .int .i64 4, .int .i64 4]
def mergeL : List Value := [.int .i64 9, .string ⟨#[]⟩, .string ⟨#[]⟩, .string ⟨#[]⟩, .int .i64 0, .slice none 0 0]
def ansL : List Value := [.int .i64 9, .int .i64 0, .int .i64 0, .slice none 0 0, .slice none 0 0]
def ansV : Value := .tuple ⟨[.agg ⟨ansL⟩, .int .i64 0]⟩
noncomputable def newRun (m : Int) : Option (Value × Ax.St) := Ax.callB gv 100000 16 [.agg ⟨cfgL⟩] (st0 m).nx (st0 m)
noncomputable def doRun (n : Value) (σ : Ax.St) : Option Value := (Ax.callB gv 100000 17 [n, .agg ⟨mergeL⟩] σ.nx σ).map (·.1)
noncomputable def bothRun (m : Int) : Option (Value × Value) := (newRun m).bind fun p => pickN p.1 fun n => doRun n p.2
set_option maxRecDepth 100000 in
theorem both_run (m : Int) : bothRun m = some (.int .i64 0, ansV) := by kernel_rfl
/-- a node of that kind -/
def NodeOk (w : World) (v : Value) : Prop := ∃ (E : Ax.Ev) (σ : Ax.St) (n : Value), Ax.Inv E σ gv.ng w ∧ Ax.VR E n v ∧ doRun n σ = some ansV
theorem NodeOk.below {w w' : World} {v : Value} (h : NodeOk w v) (hb : Below w.heap.size w w') : NodeOk w' v := by
  obtain ⟨E, σ, n, h1, h2, h3⟩ := h
  exact ⟨E, σ, n, h1.below hb, h2, h3⟩
theorem ans_closed : closed2 ansV = true := by kernel_rfl
theorem node_do (w : World) (v : Value) (h : NodeOk w v) : Calls Tryz.prog 17 #[v, .agg ⟨mergeL⟩] w fun e w' => e = .returned ansV ∧ Below w.heap.size w w' := by
  obtain ⟨E, σ, n, hI, hn, h3⟩ := h
  unfold doRun at h3
  simp only [Option.map_eq_some_iff] at h3
  obtain ⟨⟨v0, σ'⟩, h1, h2⟩ := h3
  have e2 : v0 = ansV := h2
  subst e2
  refine (Ax.callB_sound gv_types gv_funs gv_mixed h1 hI (Nat.le_refl _) (.cons _ _ _ _ hn (.cons _ _ _ _ (Ax.closed_VR (by kernel_rfl)) .nil))).mono ?_
  rintro e w' ⟨v', E', rfl, h2, h3, h4, _⟩
  exact ⟨by rw [closed2_eq ans_closed h2], h4.below fun j m b hj => by rw [hI.fresh j hj]; simp⟩
theorem node_new (w : World) (hE : Env w) : Calls Tryz.prog 16 #[.agg ⟨cfgL⟩] w fun e w' => (∃ v, e = .returned (.tuple #[v, .int .i64 0]) ∧ NodeOk w' v) ∧ Below w.heap.size w w' := by
  obtain ⟨m, hv', hs⟩ := hE
  have hI := Ax.Inv0 (nx := 1000) hv' vars_lt gv_ng1000 hs
  have hr := both_run m
  unfold bothRun at hr
  simp only [Option.bind_eq_some_iff] at hr
  obtain ⟨⟨v, σ⟩, h1, h2⟩ := hr
  unfold newRun at h1
  have h3 := pickN_some h2
  clear h2
  obtain ⟨n, rfl, h3⟩ := h3
  refine (Ax.callB_sound gv_types gv_funs gv_mixed h1 hI (Nat.le_refl _) (.cons _ _ _ _ (Ax.closed_VR (by kernel_rfl)) .nil)).mono ?_
  rintro e w' ⟨v', E', rfl, h4, h5, h6, _⟩
  refine ⟨?_, h6.below fun j m b hj => by rw [hI.fresh j hj]; simp⟩
  cases h4 with
  | tup a a' ha =>
    cases ha with
    | cons _ x _ _ hx hr =>
      cases hr with
      | cons _ y _ _ hy hr =>
        cases hr
        have hy : y = .int .i64 0 := uclosed_eq (by kernel_rfl) hy
        subst hy
        exact ⟨x, rfl, E', σ, n, h5, hx, h3⟩
end Go.Proofs.YtecnchmcdbcofaaGreatDoor
