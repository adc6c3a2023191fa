/- Slices of numbers in the heap, read as lists. -/
import Derived.Test.YtecnchmcdbcofaaGreatDoorChecked
import Derived.WalkKit
import Derived.ProofKit
import Derived.OpenShut
import Derived.Deep.DeepHandedRow
import Derived.Deep.Slices
import Derived.ChangeSame
import Derived.Lib.Hide
import Derived.Deep.QuietTactic
import Derived.BigQuiet
import Derived.WalkSpells
import Derived.WalkLawsBesides
namespace Go.Proofs.YtecnchmcdbcofaaGreatDoor
set_option linter.unusedVariables false
set_option linter.unusedSimpArgs false
open Go.ChangeShapes Go.WideShapes Go.ChangeAt Go.RowKit Go.Deep

theorem cell_below {w w' : World} (hb : Below w.heap.size w w') {a : Addr} {v : Value} (h : w.cell? a = some v) : w'.cell? a = some v :=
  (hb.cell (World.block_lt_of_cell? w a h)).trans h
/-- Slice value v holds the elements l; element x is laid as 'cells x', sz cells. -/
def SlAt {α : Type} (sz : Nat) (cells : α → List Value) (w : World) (v : Value) (l : List α) : Prop :=
  ∃ A cap, v = .slice A l.length cap ∧ l.length ≤ cap ∧ cap ≤ 9223372036854775807 ∧
    (0 < l.length → ∃ b off, A = some ⟨b, off, none⟩ ∧ ∀ i (h : i < l.length) j u, (cells l[i])[j]? = some u → w.cell? ⟨b, off + i * sz + j, none⟩ = some u)

section
variable {α : Type} {sz : Nat} {cells : α → List Value} {w w' : World} {v : Value} {l : List α}

theorem SlAt.below (h : SlAt sz cells w v l) (hb : Below w.heap.size w w') : SlAt sz cells w' v l := by
  obtain ⟨A, cap, e, hl, hm, hc⟩ := h
  refine ⟨A, cap, e, hl, hm, fun h0 => ?_⟩
  obtain ⟨b, off, e, h1⟩ := hc h0
  exact ⟨b, off, e, fun i hi j u hu => cell_below hb (h1 i hi j u hu)⟩

/-- Kept where the cells that were there are kept. -/
theorem SlAt.keep (h : SlAt sz cells w v l) (hk : ∀ a u, w.cell? a = some u → w'.cell? a = some u) : SlAt sz cells w' v l := by
  obtain ⟨A, cap, e, hl, hm, hc⟩ := h
  refine ⟨A, cap, e, hl, hm, fun h0 => ?_⟩
  obtain ⟨b, off, e, h1⟩ := hc h0
  exact ⟨b, off, e, fun i hi j u hu => hk _ _ (h1 i hi j u hu)⟩

theorem SlAt.nil (cap : Nat) (A : Option Addr) (hc : cap ≤ 9223372036854775807) : SlAt sz cells w (.slice A 0 cap) ([] : List α) :=
  ⟨A, cap, rfl, Nat.zero_le _, hc, fun h => absurd h (by simp)⟩

theorem SlAt.elem {A : Option Addr} {n cap : Nat} (h : SlAt sz cells w (.slice A n cap) l) {k : Nat} (hk : k < l.length) :
    ∃ b off, A = some ⟨b, off, none⟩ ∧ ∀ j u, (cells l[k])[j]? = some u → w.cell? ⟨b, off + k * sz + j, none⟩ = some u := by
  obtain ⟨A', cap', e, hl, hm, hc⟩ := h
  injection e with e1 e2 e3
  subst e1; subst e2; subst e3
  obtain ⟨b, off, e, h1⟩ := hc (by omega)
  exact ⟨b, off, e, fun j u hu => h1 k hk j u hu⟩

theorem SlAt.take {A : Option Addr} {n cap : Nat} (h : SlAt sz cells w (.slice A n cap) l) {k : Nat} (hk : k ≤ n) : SlAt sz cells w (.slice A k cap) (l.take k) := by
  obtain ⟨A', cap', e, hl, hm, hc⟩ := h
  injection e with e1 e2 e3
  subst e1; subst e2; subst e3
  have hlen : (l.take k).length = k := by simp; omega
  refine ⟨A, cap, by rw [hlen], by rw [hlen]; omega, hm, fun h0 => ?_⟩
  rw [hlen] at h0
  obtain ⟨b, off, e, h1⟩ := hc (by omega)
  refine ⟨b, off, e, fun i hi j u hu => h1 i (by rw [hlen] at hi; omega) j u ?_⟩
  rw [List.getElem_take] at hu
  exact hu
end

/-- A slice of structs of one-cell fields: the shape that the walks ask, where each element's cells are those of some x. -/
theorem nsl_of_cells {α : Type} [Inhabited α] {cells : α → List Value} {sz : Nat} {W : World} {a : Addr} {len cap : Nat} (hsz : 0 < sz) (hcells : ∀ x, (cells x).length = sz) (hle : len ≤ cap) (hcap : cap ≤ maxLen)
    (h : ∀ i, i < len → ∃ x : α, ∀ j u, (cells x)[j]? = some u → W.cell? (a.add (i * sz + j)) = some u) : ∃ l, SlAt sz cells W (.slice (some a) len cap) l := by
  obtain ⟨f, hf⟩ := choose_lt h
  refine ⟨(List.range len).map f, some a, cap, by simp, by simpa using hle, by unfold maxLen at hcap; omega, fun h0 => ?_⟩
  have hl0 : 0 < len := by simpa using h0
  obtain ⟨b, off, spot⟩ := a
  have hspot : spot = none := by
    have hc := hcells (f 0)
    have h1 := hf 0 hl0 0 ((cells (f 0))[0]'(by omega)) (List.getElem?_eq_getElem (by omega))
    rw [Nat.zero_mul, Nat.zero_add] at h1
    unfold Addr.add World.cell? at h1
    rw [if_pos rfl] at h1
    cases spot with
    | none => rfl
    | some s =>
      dsimp only at h1
      split at h1
      · simp at h1
      · cases h1
  subst hspot
  refine ⟨b, off, rfl, fun i hi j u hu => ?_⟩
  have hi' : i < len := by simpa using hi
  have e : ((List.range len).map f)[i] = f i := by simp
  rw [e] at hu
  have h1 := hf i hi' j u hu
  have hadd : (⟨b, off, none⟩ : Addr).add (i * sz + j) = ⟨b, off + i * sz + j, none⟩ := by
    unfold Addr.add
    split
    · rename_i h0; rw [Nat.add_assoc, h0]; rfl
    · rw [Nat.add_assoc]
  rw [← hadd]
  exact h1



def iCells (x : Int) : List Value := [.int .i64 x]
abbrev IntsAt (w : World) (v : Value) (l : List Int) : Prop := SlAt 1 iCells w v l

set_option maxRecDepth 100000 in
theorem open_ints {H : Type} {enc : TypeId × Value → H} {W : World} {base : Nat} {r : Reach} {v : Value} {d : DataW H} {p : List MemPlace} (hv : Value.okWide Tryz.prog W r base 27 v) (h : DataW.Trod enc Tryz.prog W 0 (fun _ => true) true 27 v d p) : ∃ l, IntsAt W v l := by
  obtain ⟨a, len, cap, rfl⟩ := okWide_slice Tryz.underlying27 hv
  obtain ⟨fuel, hf⟩ := h
  rcases open_slice Tryz.underlying27 hf with ⟨hcs, _⟩ | ⟨a', len', cap', m, n, D, Pl, hcs, hb, hle, hcap, hm, _, hi⟩
  · obtain ⟨rfl, rfl, rfl⟩ : a = none ∧ len = 0 ∧ cap = 0 := by simpa [Value.cells] using hcs
    exact ⟨[], SlAt.nil 0 none (by omega)⟩
  · obtain ⟨rfl, rfl, rfl⟩ : a = some a' ∧ len = len' ∧ cap = cap' := by simpa [Value.cells] using hcs
    refine nsl_of_cells (by omega) (fun _ => rfl) hle hcap fun i hil => ?_
    obtain ⟨cs', hc, ht'⟩ := hi i (by rw [hm]; simp; omega)
    rw [show Tryz.prog.cellsOf 3 = 1 by kernel_rfl] at hc
    obtain ⟨x, rfl, _, hw⟩ := DataW.trod_int (k := .i64) (by kernel_rfl) ht'
    obtain ⟨_, _, hat⟩ := World.cells?_some hc
    refine ⟨x, fun j u hu => ?_⟩
    match j, hu with
    | 0, hu =>
      cases hu
      have h0 := hat 0 (by omega)
      rw [Go.Deep.add_add] at h0
      rw [h0]
      rfl
end Go.Proofs.YtecnchmcdbcofaaGreatDoor
