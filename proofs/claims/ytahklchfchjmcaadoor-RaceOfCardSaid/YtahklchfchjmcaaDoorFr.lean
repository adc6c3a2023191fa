/- From a row's conditions to what the walks ask: the table of powers of ten, and slices of accesses; and a world that meets the conditions. -/
import Derived.Test.YtahklchfchjmcaaDoorCards
import Derived.Test.YtahklchfchjmcaaDoorTie
import Derived.Test.YtahklchfchjmcaaDoorRx
import Derived.Test.YtahklchfchjmcaaDoorTs
import Derived.WalkKit
import Derived.ProofKit
import Derived.OpenShut
import Derived.Deep.DeepHandedRow
import Derived.Deep.Slices
import Derived.Deep.Fields
import Derived.ChangeSame
import Derived.Lib.LaidTab
namespace Go.Proofs.YtahklchfchjmcaaDoor
set_option linter.unusedVariables false
set_option linter.unusedSimpArgs false
open Go.ChangeShapes Go.WideShapes Go.ChangeAt Go.RowKit Go.Deep

theorem own : ownKnob Tryd.prog.godebug = none := by kernel_rfl
theorem laidOut : laidOutB Tryd.prog = true := by kernel_rfl

theorem tab_of_laid {W : World} (h : laidMetH Tryd.prog Rows.raceChecksRow.laid W) : Tab W := by
  have h' : laidMet Tryd.prog [("math/bits.deBruijn32tab", Rows.laid_math_bits_deBruijn32tab), ("math/bits.deBruijn64tab", Rows.laid_math_bits_deBruijn64tab), ("internal/strconv.uint64pow10", Rows.laid_internal_strconv_uint64pow10)] W := h
  obtain ⟨ps, ⟨_, _, _, _, _, _, _, _, _, _, ⟨_, _, _, _, _, _, _, _, _, _, ⟨g', t', cs, fuel, p, q, hg', ht', hvar, hd, _, _⟩, _⟩, _⟩, _⟩ := h'
  obtain rfl := Option.some.inj ((show Tryd.prog.globalNamed "internal/strconv.uint64pow10" = some 3 by kernel_rfl).symm.trans hg')
  obtain rfl := Option.some.inj ((show (Tryd.prog.globals[3]?).map (·.type) = some 178 by kernel_rfl).symm.trans ht')
  have hd' : DataW.trod (fun _ => ()) Tryd.prog W 0 (fun _ => true) false fuel 178 cs.toList = some (Lib.tabData .u64 Lib.pow10Tab, p) := hd
  unfold Tab Lib.TabIs
  rw [hvar, ← Lib.cells_of_tab Tryd.underlying178 (by kernel_rfl) (by kernel_rfl) (by kernel_rfl) hd']

section
variable {H : Type} {enc : TypeId × Value → H} {P : Program} {w : World} {base : Nat} {spare : Nat → Bool} {held : Bool}
theorem open_slice_fields {t e : TypeId} {fs : Array Field} {fuel : Nat} {cs : List Value} {x : DataW H × List MemPlace} (ht : P.underlying t = some (.slice e)) (he : P.underlying e = some (.struct fs))
    (hone : oneCellFields P fs = true) (hC : P.cellsOf e = fs.size) (h : DataW.trod enc P w base spare held fuel t cs = some x) :
    (cs = [.slice none 0 0] ∧ x = (.nil, [])) ∨
    ∃ (a : Addr) (len cap m : Nat) (D : Nat → DataW H) (Pl : Nat → List MemPlace), cs = [.slice (some a) len cap] ∧ base ≤ a.block ∧ len ≤ cap ∧ cap ≤ maxLen ∧ m = (if spare a.block then cap else len) ∧
      x = (.slice ((List.range len).map D) ((List.range (m - len)).map fun j => D (len + j)), MemPlace.row a (m * fs.size) ++ (List.range m).flatMap Pl) ∧
      ∀ i, i < m → ∃ (ys : List (DataW H × List MemPlace)) (n : Nat), D i = .agg (ys.map (·.1)) ∧ Pl i = ys.flatMap (·.2) ∧ ys.length = fs.size ∧
        ∀ (j : Nat) (f : Field), fs[j]? = some f → ∃ (v : Value) (y : DataW H × List MemPlace), w.cell? (a.add (i * fs.size + j)) = some v ∧ ys[j]? = some y ∧ DataW.trod enc P w base spare held n f.type [v] = some y := by
  rcases open_slice ht h with h0 | ⟨a, len, cap, m, n, D, Pl, hcs, hb, hl, hm, hmm, hx, hi⟩
  · exact .inl h0
  · refine .inr ⟨a, len, cap, m, D, Pl, hcs, hb, hl, hm, hmm, by rw [hC] at hx; exact hx, fun i him => ?_⟩
    obtain ⟨cs', hc, ht'⟩ := hi i him
    rw [hC] at hc
    obtain ⟨ys, n', hn', hy, hlen, hyl, hf⟩ := DataW.trod_struct he ht'
    obtain ⟨_, hcl, hat⟩ := World.cells?_some hc
    simp only [Prod.mk.injEq] at hy
    refine ⟨ys, n', hy.1, hy.2, hyl, fun j f hj => ?_⟩
    obtain ⟨ho, hk⟩ := hone_of hone j f hj
    have hjl : j < fs.size := (Array.getElem?_eq_some_iff.1 hj).1
    have hcell := hat j hjl
    have hv : cs'[j]? = some (cs'[j]'(by omega)) := List.getElem?_eq_getElem (by omega)
    have h1 := hf j f hj
    rw [ho, hk] at h1
    have hone' : (cs'.drop j).take 1 = [cs'[j]'(by omega)] := by
      rw [List.drop_eq_getElem_cons (by omega)]
      rfl
    rw [hone'] at h1
    have hys : ys[j]? = some (ys[j]'(by omega)) := List.getElem?_eq_getElem (by omega)
    refine ⟨_, _, ?_, hys, h1.trans hys⟩
    rw [← Go.Deep.add_add, hcell, hv]
end

/-- A slice of structs of one-cell fields: the shape that the walks ask, where each element's cells are those of some x. -/
theorem sl_of_cells {α : Type} [Inhabited α] {cells : α → List Value} {sz : Nat} {W : World} {a : Addr} {len cap : Nat} (hsz : 0 < sz) (hcells : ∀ x, (cells x).length = sz) (hle : len ≤ cap) (hcap : cap ≤ maxLen)
    (h : ∀ i, i < len → ∃ x : α, ∀ j u, (cells x)[j]? = some u → W.cell? (a.add (i * sz + j)) = some u) : ∃ l, SlAt sz cells W (.slice (some a) len cap) l := by
  obtain ⟨f, hf⟩ := choose_lt h
  refine ⟨(List.range len).map f, some a, cap, by simp, by simpa using hle, by unfold maxLen at hcap; omega, fun h0 => ?_⟩
  have hl0 : 0 < len := by simpa using h0
  obtain ⟨b, off, spot⟩ := a
  have hspot : spot = none := by
    have hc := hcells (f 0)
    have h1 := hf 0 hl0 0 ((cells (f 0))[0]'(by omega)) (List.getElem?_eq_getElem (by omega))
    rw [Nat.zero_mul, Nat.zero_add] at h1
    unfold Addr.add World.cell? at h1
    rw [if_pos rfl] at h1
    cases spot with
    | none => rfl
    | some s =>
      dsimp only at h1
      split at h1
      · simp at h1
      · cases h1
  subst hspot
  refine ⟨b, off, rfl, fun i hi j u hu => ?_⟩
  have hi' : i < len := by simpa using hi
  have e : ((List.range len).map f)[i] = f i := by simp
  rw [e] at hu
  have h1 := hf i hi' j u hu
  have hadd : (⟨b, off, none⟩ : Addr).add (i * sz + j) = ⟨b, off + i * sz + j, none⟩ := by
    unfold Addr.add
    split
    · rename_i h0; rw [Nat.add_assoc, h0]; rfl
    · rw [Nat.add_assoc]
  rw [← hadd]
  exact h1

instance : Inhabited Acc := ⟨⟨0, 0, ⟨#[]⟩⟩⟩

set_option maxRecDepth 100000 in
theorem open_accs {H : Type} {enc : TypeId × Value → H} {W : World} {base : Nat} {r : Reach} {v : Value} {d : DataW H} {p : List MemPlace} (hv : Value.okWide Tryd.prog W r base 24 v) (h : DataW.Trod enc Tryd.prog W 0 (fun _ => true) true 24 v d p) : ∃ l, AccAt W v l := by
  obtain ⟨a, len, cap, rfl⟩ := okWide_slice Tryd.underlying24 hv
  obtain ⟨fuel, hf⟩ := h
  rcases open_slice_fields Tryd.underlying24 Tryd.underlying55 (by kernel_rfl) (by kernel_rfl) hf with ⟨hcs, _⟩ | ⟨a', len', cap', m, D, Pl, hcs, hb, hle, hcap, hm, _, hi⟩
  · obtain ⟨rfl, rfl, rfl⟩ : a = none ∧ len = 0 ∧ cap = 0 := by simpa [Value.cells] using hcs
    exact ⟨[], SlAt.nil 0 none (by omega)⟩
  · obtain ⟨rfl, rfl, rfl⟩ : a = some a' ∧ len = len' ∧ cap = cap' := by simpa [Value.cells] using hcs
    refine sl_of_cells (by omega) (fun _ => rfl) hle hcap fun i hil => ?_
    obtain ⟨ys, n, _, _, _, hf⟩ := hi i (by rw [hm]; simp; omega)
    obtain ⟨v0, y0, hc0, _, ht0⟩ := hf 0 _ rfl
    obtain ⟨v1, y1, hc1, _, ht1⟩ := hf 1 _ rfl
    obtain ⟨v2, y2, hc2, _, ht2⟩ := hf 2 _ rfl
    obtain ⟨n0, e0, _⟩ := DataW.trod_int (k := .i64) (by kernel_rfl) ht0
    obtain ⟨n1, e1, _⟩ := DataW.trod_int (k := .i64) (by kernel_rfl) ht1
    obtain ⟨s2, e2, _⟩ := DataW.trod_string (by kernel_rfl) ht2
    cases e0; cases e1; cases e2
    refine ⟨⟨n0, n1, s2⟩, fun j u hu => ?_⟩
    match j, hu with
    | 0, hu => cases hu; exact hc0
    | 1, hu => cases hu; exact hc1
    | 2, hu => cases hu; exact hc2

def tab32a : List Int := [0, 1, 28, 2, 29, 14, 24, 3, 30, 22, 20, 15, 25, 17, 4, 8]
def tab32b : List Int := [31, 27, 13, 23, 21, 19, 16, 7, 26, 12, 18, 6, 11, 5, 10, 9]
def tab32 : List Int := tab32a ++ tab32b
def tab64a : List Int := [0, 1, 56, 2, 57, 49, 28, 3, 61, 58, 42, 50, 38, 29, 17, 4]
def tab64b : List Int := [62, 47, 59, 36, 45, 43, 51, 22, 53, 39, 33, 30, 24, 18, 12, 5]
def tab64c : List Int := [63, 55, 48, 27, 60, 41, 37, 16, 46, 35, 44, 21, 52, 32, 23, 11]
def tab64d : List Int := [54, 26, 40, 15, 34, 20, 31, 10, 25, 14, 19, 9, 13, 8, 7, 6]
def tab64 : List Int := tab64a ++ tab64b ++ tab64c ++ tab64d
/-- A world for the witness: the settled one, the three tables laid. -/
noncomputable def laidWorld (os : Os) : World :=
  let w0 := World.holding Tryd.prog os ⟨#[], #[], []⟩
  let w1 := { w0 with heap := w0.heap.modify 3 fun
      | .cells _ t frozen => .cells (Lib.pow10Tab.map fun z => Value.int .u64 z).toArray t frozen
      | o => o }
  let w2 := { w1 with heap := w1.heap.modify 4 fun
      | .cells _ t frozen => .cells (tab32.map fun z => Value.int .u8 z).toArray t frozen
      | o => o }
  { w2 with heap := w2.heap.modify 5 fun
      | .cells _ t frozen => .cells (tab64.map fun z => Value.int .u8 z).toArray t frozen
      | o => o }
end Go.Proofs.YtahklchfchjmcaaDoor
