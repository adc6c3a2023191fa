/- A configuration of a node, opened. -/
import Derived.Test.YthfleaogajbpfaaGreatDoorRx
namespace Go.Proofs.YthfleaogajbpfaaGreatDoor
set_option linter.unusedVariables false
set_option linter.unusedSimpArgs false
open Go.ChangeShapes Go.WideShapes Go.ChangeAt Go.RowKit Go.Deep
theorem field_one {H : Type} {enc : TypeId × Value → H} {P : Program} {w : World} {base : Nat} {sp : Nat → Bool} {held : Bool} {m ft off i : Nat} {cs : List Value} {xs : List (DataW H × List MemPlace)} (hc : P.cellsOf ft = 1) (hi : i < xs.length) (ho : off < cs.length)
    (h : DataW.trod enc P w base sp held m ft ((cs.drop off).take (P.cellsOf ft)) = xs[i]?) : ∃ u y, cs[off]? = some u ∧ DataW.trod enc P w base sp held m ft [u] = some y := by
  rw [hc, List.getElem?_eq_getElem hi, List.drop_eq_getElem_cons ho] at h
  exact ⟨cs[off], _, List.getElem?_eq_getElem ho, h⟩
set_option maxRecDepth 100000 in
theorem open_nconf {H : Type} {enc : TypeId × Value → H} {W : World} {base : Nat} {r : Reach} {v : Value} {d : DataW H} {p : List MemPlace} (hv : Value.okWide Tryz.prog W r base 23 v) (h : DataW.Trod enc Tryz.prog W 0 (fun _ => true) true 23 v d p) :
    ∃ a b c d : Int, v = .agg #[.int .i64 a, .int .i64 b, .int .i64 c, .int .i64 d] := by
  obtain ⟨cs, rfl, hsz⟩ := okWide_struct Tryz.underlying23 hv
  obtain ⟨fuel, hf⟩ := h
  obtain ⟨xs, m, _, _, hlen, hxl, hfd⟩ := DataW.trod_struct Tryz.underlying23 hf
  have hsz4 : cs.size = 4 := by rw [hsz]; kernel_rfl
  have hlen4 : (Value.agg cs).cells.toList.length = 4 := by rw [hlen]; kernel_rfl
  have hx4 : xs.length = 4 := hxl
  obtain ⟨u0, y0, a0, b0⟩ := field_one (by kernel_rfl) (by omega) (by rw [hlen4]; decide) (hfd 0 _ rfl)
  obtain ⟨u1, y1, a1, b1⟩ := field_one (by kernel_rfl) (by omega) (by rw [hlen4]; decide) (hfd 1 _ rfl)
  obtain ⟨u2, y2, a2, b2⟩ := field_one (by kernel_rfl) (by omega) (by rw [hlen4]; decide) (hfd 2 _ rfl)
  obtain ⟨u3, y3, a3, b3⟩ := field_one (by kernel_rfl) (by omega) (by rw [hlen4]; decide) (hfd 3 _ rfl)
  obtain ⟨s, hs, _, _⟩ := DataW.trod_int Tryz.underlying3 b0
  obtain ⟨k, hk, _, _⟩ := DataW.trod_int Tryz.underlying3 b1
  obtain ⟨t, ht, _, _⟩ := DataW.trod_int Tryz.underlying3 b2
  obtain ⟨q, hq, _, _⟩ := DataW.trod_int Tryz.underlying3 b3
  refine ⟨s, k, t, q, ?_⟩
  have hs' : u0 = .int .i64 s := by simpa using hs
  have hk' : u1 = .int .i64 k := by simpa using hk
  have ht' : u2 = .int .i64 t := by simpa using ht
  have hq' : u3 = .int .i64 q := by simpa using hq
  subst hs' hk' ht' hq'
  obtain ⟨l⟩ := cs
  have hl : l.length = 4 := hsz4
  match l, hl with
  | [x0, x1, x2, x3], _ =>
    have e0 : x0 = .int .i64 s := by simpa [Value.cells] using a0
    have e1 : x1 = .int .i64 k := by simpa [Value.cells] using a1
    have e2 : x2 = .int .i64 t := by simpa [Value.cells] using a2
    have e3 : x3 = .int .i64 q := by simpa [Value.cells] using a3
    subst e0 e1 e2 e3
    rfl
end Go.Proofs.YthfleaogajbpfaaGreatDoor
