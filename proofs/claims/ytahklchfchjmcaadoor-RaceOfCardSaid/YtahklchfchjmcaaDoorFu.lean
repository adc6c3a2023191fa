/- Slices of bytes among the arguments. -/
import Derived.Test.YtahklchfchjmcaaDoorFr
namespace Go.Proofs.YtahklchfchjmcaaDoor
set_option linter.unusedVariables false
set_option linter.unusedSimpArgs false
open Go.ChangeShapes Go.WideShapes Go.ChangeAt Go.RowKit Go.Deep

def u8Cells (x : Fin 256) : List Value := [.int .u8 (x.val : Int)]

theorem wf_u8_of {n : Int} (h : (Lit.int .u8 n).wf = true) : 0 ≤ n ∧ n ≤ 255 := by
  simp only [Lit.wf, Bool.and_eq_true, decide_eq_true_eq] at h
  have h1 : IntKind.u8.min = 0 := by decide
  have h2 : IntKind.u8.max = 255 := by decide
  omega

set_option maxRecDepth 100000 in
theorem open_u8s {H : Type} {enc : TypeId × Value → H} {W : World} {base : Nat} {r : Reach} {v : Value} {d : DataW H} {p : List MemPlace} (hv : Value.okWide Tryd.prog W r base 44 v) (h : DataW.Trod enc Tryd.prog W 0 (fun _ => true) true 44 v d p) : ∃ l, SlAt 1 u8Cells W v l := by
  obtain ⟨a, len, cap, rfl⟩ := okWide_slice Tryd.underlying44 hv
  obtain ⟨fuel, hf⟩ := h
  rcases open_slice Tryd.underlying44 hf with ⟨hcs, _⟩ | ⟨a', len', cap', m, n, D, Pl, hcs, hb, hle, hcap, hm, _, hi⟩
  · obtain ⟨rfl, rfl, rfl⟩ : a = none ∧ len = 0 ∧ cap = 0 := by simpa [Value.cells] using hcs
    exact ⟨[], SlAt.nil 0 none (by omega)⟩
  · obtain ⟨rfl, rfl, rfl⟩ : a = some a' ∧ len = len' ∧ cap = cap' := by simpa [Value.cells] using hcs
    refine sl_of_cells (by omega) (fun _ => rfl) hle hcap fun i hil => ?_
    obtain ⟨cs', hc, ht'⟩ := hi i (by rw [hm]; simp; omega)
    rw [show Tryd.prog.cellsOf 5 = 1 by kernel_rfl] at hc
    obtain ⟨x, rfl, _, hw⟩ := DataW.trod_int (k := .u8) (by kernel_rfl) ht'
    have hx := wf_u8_of hw
    obtain ⟨_, _, hat⟩ := World.cells?_some hc
    refine ⟨⟨x.toNat, by omega⟩, fun j u hu => ?_⟩
    match j, hu with
    | 0, hu =>
      cases hu
      have h0 := hat 0 (by omega)
      rw [Go.Deep.add_add] at h0
      rw [h0]
      show some (Value.int .u8 x) = some (Value.int .u8 ((x.toNat : Nat) : Int))
      rw [Int.toNat_of_nonneg hx.1]
end Go.Proofs.YtahklchfchjmcaaDoor
