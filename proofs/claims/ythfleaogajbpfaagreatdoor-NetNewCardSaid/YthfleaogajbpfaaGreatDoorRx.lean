/- From a row's conditions to what the walks ask; a world that meets the conditions. -/
import Derived.Test.YthfleaogajbpfaaGreatDoorCards
import Derived.Test.YthfleaogajbpfaaGreatDoorTie
import Derived.Test.YthfleaogajbpfaaGreatDoorAl
import Derived.WalkKit
import Derived.ProofKit
import Derived.OpenShut
import Derived.Deep.DeepHandedRow
import Derived.Deep.Slices
import Derived.Deep.Strs
import Derived.ChangeSame
import Derived.Lib.LaidTab
import Derived.Shelf.Vars
namespace Go.Proofs.YthfleaogajbpfaaGreatDoor
set_option linter.unusedVariables false
set_option linter.unusedSimpArgs false
open Go.ChangeShapes Go.WideShapes Go.ChangeAt Go.RowKit Go.Deep

theorem nown : ownKnob Tryz.prog.godebug = none := by kernel_rfl
theorem nlaidOut : laidOutB Tryz.prog = true := by kernel_rfl
theorem max_of_shaped {W : World} (h : W.ShapedOpen Tryz.prog) : ∃ m, W.cell? ⟨0, 0, none⟩ = some (.int .i64 m) :=
  Go.Proofs.cell_of_shapedOpen_int (zero := #[.int .i64 0]) (t := 3) h (of_decide_eq_true (by kernel_rfl)) (by kernel_rfl) rfl (by kernel_rfl) (by kernel_rfl) Tryz.underlying3
theorem ng_of_shaped {W : World} (h : W.ShapedOpen Tryz.prog) : gv.ng ≤ W.heap.size := by
  obtain ⟨o, o0, h1, _⟩ := h.2 Tryz.prog.globals.size (Nat.le_refl _) (of_decide_eq_true (by kernel_rfl))
  exact Nat.le_of_lt (Array.getElem?_eq_some_iff.1 h1).1
theorem env_of {W : World} {laid : List (String × DataW Unit)} (h : laidMet Tryz.prog laid W) (hsh : W.ShapedOpen Tryz.prog) (h1 : ("pannier/hash.small", Rows.laid_pannier_hash_small) ∈ laid) : Env W := by
  obtain ⟨m, hm⟩ := max_of_shaped hsh
  obtain ⟨ps, hv, _⟩ := h
  have hl := Ax.vars_of_laidVars hv
  refine ⟨m, ?_, ng_of_shaped hsh⟩
  intro p hp
  simp only [vars0, List.mem_cons, List.not_mem_nil, or_false] at hp
  rcases hp with rfl | rfl
  · exact hl _ (List.mem_filterMap.2 ⟨_, h1, by kernel_rfl⟩)
  · refine ⟨rfl, ?_⟩
    unfold World.cell? at hm
    show ∃ arr ty fr rest, W.heap[0]? = some (.cells arr ty fr) ∧ arr.toList = [Value.int .i64 m] ++ rest
    cases ho : W.heap[0]? with
    | none => simp [ho] at hm
    | some o =>
      cases o <;> simp [ho] at hm
      rename_i arr ty fr
      exact ⟨arr, ty, fr, arr.toList.drop 1, rfl, by
        obtain ⟨l⟩ := arr
        cases l with
        | nil => simp at hm
        | cons a l => simp at hm; subst hm; rfl⟩

/-- A world for the witness: the settled one, the listed variables laid. -/
noncomputable def nlaidWorld (os : Os) : World :=
  let put := fun (w : World) (g : Nat) (vs : Array Value) => { w with heap := w.heap.modify g fun
      | .cells _ t frozen => .cells vs t frozen
      | o => o }
  let w0 := World.holding Tryz.prog os ⟨#[], #[], []⟩
  let w1 := put w0 2 (Go.Pinned.utf8FirstZ.map fun z : Nat => Value.int .u8 (z : Int)).toArray
  let w2 := put w1 3 #[.int .u8 128, .int .u8 191, .int .u8 160, .int .u8 191, .int .u8 128, .int .u8 159, .int .u8 144, .int .u8 191, .int .u8 128, .int .u8 143, .int .u8 0, .int .u8 0, .int .u8 0, .int .u8 0, .int .u8 0, .int .u8 0, .int .u8 0, .int .u8 0, .int .u8 0, .int .u8 0, .int .u8 0, .int .u8 0, .int .u8 0, .int .u8 0, .int .u8 0, .int .u8 0, .int .u8 0, .int .u8 0, .int .u8 0, .int .u8 0, .int .u8 0, .int .u8 0]
  let w3 := put w2 1 #[.int .u32 2166136261, .int .u32 16777619]
  w3
end Go.Proofs.YthfleaogajbpfaaGreatDoor
