/- From a row's conditions to what the walks ask; a world that meets the conditions. -/
import Derived.Test.YtecnchmcdbcofaaGreatDoorCards
import Derived.Test.YtecnchmcdbcofaaGreatDoorTie
import Derived.Test.YtecnchmcdbcofaaGreatDoorAl
import Derived.WalkKit
import Derived.ProofKit
import Derived.OpenShut
import Derived.Deep.DeepHandedRow
import Derived.Deep.Slices
import Derived.Deep.Strs
import Derived.ChangeSame
import Derived.Lib.LaidTab
import Derived.Shelf.Vars
namespace Go.Proofs.YtecnchmcdbcofaaGreatDoor
set_option linter.unusedVariables false
set_option linter.unusedSimpArgs false
open Go.ChangeShapes Go.WideShapes Go.ChangeAt Go.RowKit Go.Deep

theorem nown : ownKnob Tryz.prog.godebug = none := by kernel_rfl
theorem nlaidOut : laidOutB Tryz.prog = true := by kernel_rfl
theorem max_of_shaped {W : World} (h : W.ShapedOpen Tryz.prog) : ∃ m, W.cell? ⟨2, 0, none⟩ = some (.int .i64 m) :=
  Go.Proofs.cell_of_shapedOpen_int (zero := #[.int .i64 0]) (t := 3) h (of_decide_eq_true (by kernel_rfl)) (by kernel_rfl) rfl (by kernel_rfl) (by kernel_rfl) Tryz.underlying3
theorem ng_of_shaped {W : World} (h : W.ShapedOpen Tryz.prog) : gv.ng ≤ W.heap.size := by
  obtain ⟨o, o0, h1, _⟩ := h.2 Tryz.prog.globals.size (Nat.le_refl _) (of_decide_eq_true (by kernel_rfl))
  exact Nat.le_of_lt (Array.getElem?_eq_some_iff.1 h1).1
theorem env_of {W : World} {laid : List (String × DataW Unit)} (h : laidMet Tryz.prog laid W) (hsh : W.ShapedOpen Tryz.prog) (h1 : ("pannier/hash.small", Rows.laid_pannier_hash_small) ∈ laid) (h2 : ("pannier/client.rows", Rows.laid_pannier_client_rows) ∈ laid) : Env W := by
  obtain ⟨m, hm⟩ := max_of_shaped hsh
  obtain ⟨ps, hv, _⟩ := h
  have hl := Ax.vars_of_laidVars hv
  refine ⟨m, ?_, ng_of_shaped hsh⟩
  intro p hp
  simp only [vars, List.mem_cons, List.not_mem_nil, or_false] at hp
  rcases hp with rfl | rfl | rfl
  · exact hl _ (List.mem_filterMap.2 ⟨_, h1, by kernel_rfl⟩)
  · exact hl _ (List.mem_filterMap.2 ⟨_, h2, by kernel_rfl⟩)
  · refine ⟨rfl, ?_⟩
    unfold World.cell? at hm
    show ∃ arr ty fr rest, W.heap[2]? = some (.cells arr ty fr) ∧ arr.toList = [Value.int .i64 m] ++ rest
    cases ho : W.heap[2]? with
    | none => simp [ho] at hm
    | some o =>
      cases o <;> simp [ho] at hm
      rename_i arr ty fr
      exact ⟨arr, ty, fr, arr.toList.drop 1, rfl, by
        obtain ⟨l⟩ := arr
        cases l with
        | nil => simp at hm
        | cons a l => simp at hm; subst hm; rfl⟩

/-- A world for the witness: the settled one, the listed variables laid. -/
noncomputable def nlaidWorld (os : Os) : World :=
  let put := fun (w : World) (g : Nat) (vs : Array Value) => { w with heap := w.heap.modify g fun
      | .cells _ t frozen => .cells vs t frozen
      | o => o }
  let w0 := put (World.holding Tryz.prog os ⟨#[], #[], []⟩) 4 (Go.Pinned.utf8FirstZ.map fun z : Nat => Value.int .u8 (z : Int)).toArray
  let w1 := put w0 6 #[.int .u8 0, .int .u8 1, .int .u8 28, .int .u8 2, .int .u8 29, .int .u8 14, .int .u8 24, .int .u8 3, .int .u8 30, .int .u8 22, .int .u8 20, .int .u8 15, .int .u8 25, .int .u8 17, .int .u8 4, .int .u8 8, .int .u8 31, .int .u8 27, .int .u8 13, .int .u8 23, .int .u8 21, .int .u8 19, .int .u8 16, .int .u8 7, .int .u8 26, .int .u8 12, .int .u8 18, .int .u8 6, .int .u8 11, .int .u8 5, .int .u8 10, .int .u8 9]
  let w2 := put w1 7 #[.int .u8 0, .int .u8 1, .int .u8 56, .int .u8 2, .int .u8 57, .int .u8 49, .int .u8 28, .int .u8 3, .int .u8 61, .int .u8 58, .int .u8 42, .int .u8 50, .int .u8 38, .int .u8 29, .int .u8 17, .int .u8 4, .int .u8 62, .int .u8 47, .int .u8 59, .int .u8 36, .int .u8 45, .int .u8 43, .int .u8 51, .int .u8 22, .int .u8 53, .int .u8 39, .int .u8 33, .int .u8 30, .int .u8 24, .int .u8 18, .int .u8 12, .int .u8 5, .int .u8 63, .int .u8 55, .int .u8 48, .int .u8 27, .int .u8 60, .int .u8 41, .int .u8 37, .int .u8 16, .int .u8 46, .int .u8 35, .int .u8 44, .int .u8 21, .int .u8 52, .int .u8 32, .int .u8 23, .int .u8 11, .int .u8 54, .int .u8 26, .int .u8 40, .int .u8 15, .int .u8 34, .int .u8 20, .int .u8 31, .int .u8 10, .int .u8 25, .int .u8 14, .int .u8 19, .int .u8 9, .int .u8 13, .int .u8 8, .int .u8 7, .int .u8 6]
  let w3 := put w2 3 #[.int .u64 1, .int .u64 10, .int .u64 100, .int .u64 1000, .int .u64 10000, .int .u64 100000, .int .u64 1000000, .int .u64 10000000, .int .u64 100000000, .int .u64 1000000000, .int .u64 10000000000, .int .u64 100000000000, .int .u64 1000000000000, .int .u64 10000000000000, .int .u64 100000000000000, .int .u64 1000000000000000, .int .u64 10000000000000000, .int .u64 100000000000000000, .int .u64 1000000000000000000, .int .u64 10000000000000000000]
  let w4 := put w3 5 #[.int .u8 128, .int .u8 191, .int .u8 160, .int .u8 191, .int .u8 128, .int .u8 159, .int .u8 144, .int .u8 191, .int .u8 128, .int .u8 143, .int .u8 0, .int .u8 0, .int .u8 0, .int .u8 0, .int .u8 0, .int .u8 0, .int .u8 0, .int .u8 0, .int .u8 0, .int .u8 0, .int .u8 0, .int .u8 0, .int .u8 0, .int .u8 0, .int .u8 0, .int .u8 0, .int .u8 0, .int .u8 0, .int .u8 0, .int .u8 0, .int .u8 0, .int .u8 0]
  let w5 := put w4 0 #[.int .u32 2166136261, .int .u32 16777619]
  let w6 := put w5 1 #[.string ⟨⟨[]⟩⟩, .string ⟨⟨[]⟩⟩, .string ⟨⟨[97, 100, 100]⟩⟩, .string ⟨⟨[107, 113, 105]⟩⟩, .string ⟨⟨[115, 101, 116]⟩⟩, .string ⟨⟨[107, 113, 105]⟩⟩, .string ⟨⟨[114, 101, 109, 111, 118, 101]⟩⟩, .string ⟨⟨[107, 105]⟩⟩, .string ⟨⟨[103, 101, 116]⟩⟩, .string ⟨⟨[107]⟩⟩, .string ⟨⟨[99, 108, 101, 97, 114]⟩⟩, .string ⟨⟨[107]⟩⟩, .string ⟨⟨[119, 105, 115, 104]⟩⟩, .string ⟨⟨[107, 111, 105]⟩⟩, .string ⟨⟨[108, 111, 103, 105, 110]⟩⟩, .string ⟨⟨[107, 111]⟩⟩, .string ⟨⟨[100, 101, 108, 105, 118, 101, 114]⟩⟩, .string ⟨⟨[100]⟩⟩, .string ⟨⟨[109, 101, 114, 103, 101]⟩⟩, .string ⟨⟨[]⟩⟩, .string ⟨⟨[100, 114, 97, 105, 110]⟩⟩, .string ⟨⟨[]⟩⟩, .string ⟨⟨[99, 108, 111, 115, 101]⟩⟩, .string ⟨⟨[]⟩⟩]
  w6
end Go.Proofs.YtecnchmcdbcofaaGreatDoor
