/- From a row's conditions to what chapter 7's walks ask; a world that meets the conditions. -/
import Derived.Test.YtahklchfchjmcaaDoorCards
import Derived.Test.YtahklchfchjmcaaDoorTie
import Derived.Test.YtahklchfchjmcaaDoorNu
import Derived.WalkKit
import Derived.ProofKit
import Derived.OpenShut
import Derived.Deep.DeepHandedRow
import Derived.Deep.Slices
import Derived.Deep.Strs
import Derived.ChangeSame
import Derived.Lib.LaidTab
namespace Go.Proofs.YtahklchfchjmcaaDoor
set_option linter.unusedVariables false
set_option linter.unusedSimpArgs false
open Go.ChangeShapes Go.WideShapes Go.ChangeAt Go.RowKit Go.Deep

theorem nown : ownKnob Tryd.prog.godebug = none := by kernel_rfl
theorem nlaidOut : laidOutB Tryd.prog = true := by kernel_rfl
theorem max_of_shaped {W : World} (h : W.ShapedOpen Tryd.prog) : MaxIs W :=
  Go.Proofs.cell_of_shapedOpen_int (zero := #[.int .i64 0]) (t := 3) h (of_decide_eq_true (by kernel_rfl)) (by kernel_rfl) rfl (by kernel_rfl) (by kernel_rfl) Tryd.underlying3
/-- A slice of structs of one-cell fields: the shape that the walks ask, where each element's cells are those of some x. -/
theorem nsl_of_cells {α : Type} [Inhabited α] {cells : α → List Value} {sz : Nat} {W : World} {a : Addr} {len cap : Nat} (hsz : 0 < sz) (hcells : ∀ x, (cells x).length = sz) (hle : len ≤ cap) (hcap : cap ≤ maxLen)
    (h : ∀ i, i < len → ∃ x : α, ∀ j u, (cells x)[j]? = some u → W.cell? (a.add (i * sz + j)) = some u) : ∃ l, SlAt sz cells W (.slice (some a) len cap) l := by
  obtain ⟨f, hf⟩ := choose_lt h
  refine ⟨(List.range len).map f, some a, cap, by simp, by simpa using hle, by unfold maxLen at hcap; omega, fun h0 => ?_⟩
  have hl0 : 0 < len := by simpa using h0
  obtain ⟨b, off, spot⟩ := a
  have hspot : spot = none := by
    have hc := hcells (f 0)
    have h1 := hf 0 hl0 0 ((cells (f 0))[0]'(by omega)) (List.getElem?_eq_getElem (by omega))
    rw [Nat.zero_mul, Nat.zero_add] at h1
    unfold Addr.add World.cell? at h1
    rw [if_pos rfl] at h1
    cases spot with
    | none => rfl
    | some s =>
      dsimp only at h1
      split at h1
      · simp at h1
      · cases h1
  subst hspot
  refine ⟨b, off, rfl, fun i hi j u hu => ?_⟩
  have hi' : i < len := by simpa using hi
  have e : ((List.range len).map f)[i] = f i := by simp
  rw [e] at hu
  have h1 := hf i hi' j u hu
  have hadd : (⟨b, off, none⟩ : Addr).add (i * sz + j) = ⟨b, off + i * sz + j, none⟩ := by
    unfold Addr.add
    split
    · rename_i h0; rw [Nat.add_assoc, h0]; rfl
    · rw [Nat.add_assoc]
  rw [← hadd]
  exact h1


set_option maxRecDepth 100000 in
theorem nopen_strs {H : Type} {enc : TypeId × Value → H} {W : World} {base : Nat} {r : Reach} {v : Value} {d : DataW H} {p : List MemPlace} (hv : Value.okWide Tryd.prog W r base 68 v) (h : DataW.Trod enc Tryd.prog W 0 (fun _ => true) true 68 v d p) : ∃ l, StrAt W v l := by
  obtain ⟨a, len, cap, rfl⟩ := okWide_slice Tryd.underlying68 hv
  obtain ⟨fuel, hf⟩ := h
  rcases open_strs Tryd.underlying68 Tryd.underlying9 (by kernel_rfl) hf with ⟨hcs, _⟩ | ⟨a', len', cap', m, Sx, hcs, hb, hle, hcap, hm, _, hi⟩
  · obtain ⟨rfl, rfl, rfl⟩ : a = none ∧ len = 0 ∧ cap = 0 := by simpa [Value.cells] using hcs
    exact ⟨[], SlAt.nil 0 none (by omega)⟩
  · obtain ⟨rfl, rfl, rfl⟩ : a = some a' ∧ len = len' ∧ cap = cap' := by simpa [Value.cells] using hcs
    refine nsl_of_cells (by omega) (fun _ => rfl) hle hcap fun i hil => ?_
    obtain ⟨hc, _⟩ := hi i (by rw [hm]; simp; omega)
    refine ⟨Sx i, fun j u hu => ?_⟩
    match j, hu with
    | 0, hu =>
      cases hu
      rw [Nat.mul_one, Nat.add_zero]
      exact hc
    | j + 1, hu => simp [strCells] at hu

def acceptZ : List Int := [128, 191, 160, 191, 128, 159, 144, 191, 128, 143, 0, 0, 0, 0, 0, 0, 0, 0, 0, 0, 0, 0, 0, 0, 0, 0, 0, 0, 0, 0, 0, 0]
/-- A world for the witness: the settled one, the two tables laid. -/
noncomputable def nlaidWorld (os : Os) : World :=
  let w0 := World.holding Tryd.prog os ⟨#[], #[], []⟩
  let w1 := { w0 with heap := w0.heap.modify 1 fun
      | .cells _ t frozen => .cells (Go.Pinned.utf8FirstZ.map fun z : Nat => Value.int .u8 (z : Int)).toArray t frozen
      | o => o }
  { w1 with heap := w1.heap.modify 2 fun
      | .cells _ t frozen => .cells (acceptZ.map fun z => Value.int .u8 z).toArray t frozen
      | o => o }
end Go.Proofs.YtahklchfchjmcaaDoor
