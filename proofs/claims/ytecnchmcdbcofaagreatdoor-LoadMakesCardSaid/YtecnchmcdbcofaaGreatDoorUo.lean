/- A slice of calls that reads as one. -/
import Derived.Test.YtecnchmcdbcofaaGreatDoorRx
import Derived.Test.YtecnchmcdbcofaaGreatDoorUe
namespace Go.Proofs.YtecnchmcdbcofaaGreatDoor
set_option linter.unusedVariables false
set_option linter.unusedSimpArgs false
open Go.ChangeShapes Go.WideShapes Go.ChangeAt Go.RowKit Go.Deep
theorem field_one {H : Type} {enc : TypeId × Value → H} {P : Program} {w : World} {base : Nat} {sp : Nat → Bool} {held : Bool} {m ft off i : Nat} {cs : List Value} {xs : List (DataW H × List MemPlace)} (hc : P.cellsOf ft = 1) (hi : i < xs.length) (ho : off < cs.length)
    (h : DataW.trod enc P w base sp held m ft ((cs.drop off).take (P.cellsOf ft)) = xs[i]?) : ∃ u y, cs[off]? = some u ∧ DataW.trod enc P w base sp held m ft [u] = some y := by
  rw [hc, List.getElem?_eq_getElem hi, List.drop_eq_getElem_cons ho] at h
  exact ⟨cs[off], _, List.getElem?_eq_getElem ho, h⟩
theorem list_of_six {cs : List Value} {a0 a1 a2 a3 a4 a5 : Value} (hl : cs.length = 6) (h0 : cs[0]? = some a0) (h1 : cs[1]? = some a1) (h2 : cs[2]? = some a2) (h3 : cs[3]? = some a3) (h4 : cs[4]? = some a4) (h5 : cs[5]? = some a5) : cs = [a0, a1, a2, a3, a4, a5] := by
  match cs, hl with
  | [b0, b1, b2, b3, b4, b5], _ => simp_all
set_option maxRecDepth 100000 in
theorem call_cells {H : Type} {enc : TypeId × Value → H} {W : World} {base : Nat} {sp : Nat → Bool} {held : Bool} {fuel : Nat} {cs : List Value} {y : DataW H × List MemPlace} (hf : DataW.trod enc Tryz.prog W base sp held fuel 33 cs = some y) :
    ∃ (o q : Int) (k t j : ByteArray) (A : Option Addr) (n c : Nat), cs = [.int .i64 o, .string k, .string t, .string j, .int .i64 q, .slice A n c] := by
  obtain ⟨xs, m, _, _, hlen, hxl, hfd⟩ := DataW.trod_struct Tryz.underlying33 hf
  have hlen6 : cs.length = 6 := by rw [hlen]; kernel_rfl
  have hx6 : xs.length = 6 := hxl
  obtain ⟨u0, y0, a0, b0⟩ := field_one (by kernel_rfl) (by omega) (by rw [hlen6]; decide) (hfd 0 _ rfl)
  obtain ⟨u1, y1, a1, b1⟩ := field_one (by kernel_rfl) (by omega) (by rw [hlen6]; decide) (hfd 1 _ rfl)
  obtain ⟨u2, y2, a2, b2⟩ := field_one (by kernel_rfl) (by omega) (by rw [hlen6]; decide) (hfd 2 _ rfl)
  obtain ⟨u3, y3, a3, b3⟩ := field_one (by kernel_rfl) (by omega) (by rw [hlen6]; decide) (hfd 3 _ rfl)
  obtain ⟨u4, y4, a4, b4⟩ := field_one (by kernel_rfl) (by omega) (by rw [hlen6]; decide) (hfd 4 _ rfl)
  obtain ⟨u5, y5, a5, b5⟩ := field_one (by kernel_rfl) (by omega) (by rw [hlen6]; decide) (hfd 5 _ rfl)
  obtain ⟨o, ho, _, _⟩ := DataW.trod_int Tryz.underlying30 b0
  obtain ⟨k, hk, _, _⟩ := DataW.trod_string Tryz.underlying9 b1
  obtain ⟨t, ht, _, _⟩ := DataW.trod_string Tryz.underlying9 b2
  obtain ⟨j, hj, _, _⟩ := DataW.trod_string Tryz.underlying9 b3
  obtain ⟨q, hq, _, _⟩ := DataW.trod_int Tryz.underlying3 b4
  obtain ⟨A, n, c, hA⟩ : ∃ (A : Option Addr) (n c : Nat), u5 = .slice A n c := by
    rcases open_slice Tryz.underlying31 b5 with ⟨h0, _⟩ | ⟨a', len', cap', _, _, _, _, h0, _⟩
    · exact ⟨none, 0, 0, by simpa using h0⟩
    · exact ⟨some a', len', cap', by simpa using h0⟩
  refine ⟨o, q, k, t, j, A, n, c, ?_⟩
  have ho' : u0 = .int .i64 o := by simpa using ho
  have hk' : u1 = .string k := by simpa using hk
  have ht' : u2 = .string t := by simpa using ht
  have hj' : u3 = .string j := by simpa using hj
  have hq' : u4 = .int .i64 q := by simpa using hq
  subst ho' hk' ht' hj' hq' hA
  exact list_of_six hlen6 a0 a1 a2 a3 a4 a5
instance : Inhabited CallV := ⟨⟨0, ⟨#[]⟩, ⟨#[]⟩, ⟨#[]⟩, 0, none, 0, 0⟩⟩
set_option maxRecDepth 100000 in
theorem open_calls {H : Type} {enc : TypeId × Value → H} {W : World} {base : Nat} {r : Reach} {v : Value} {d : DataW H} {p : List MemPlace} (hv : Value.okWide Tryz.prog W r base 22 v) (h : DataW.Trod enc Tryz.prog W 0 (fun _ => true) true 22 v d p) : ∃ l, CallsAt W v l := by
  obtain ⟨a, len, cap, rfl⟩ := okWide_slice Tryz.underlying22 hv
  obtain ⟨fuel, hf⟩ := h
  rcases open_slice Tryz.underlying22 hf with ⟨hcs, _⟩ | ⟨a', len', cap', m, n, D, Pl, hcs, hb, hle, hcap, hm, _, hi⟩
  · obtain ⟨rfl, rfl, rfl⟩ : a = none ∧ len = 0 ∧ cap = 0 := by simpa [Value.cells] using hcs
    exact ⟨[], SlAt.nil 0 none (by omega)⟩
  · obtain ⟨rfl, rfl, rfl⟩ : a = some a' ∧ len = len' ∧ cap = cap' := by simpa [Value.cells] using hcs
    refine nsl_of_cells (by omega) (fun _ => rfl) hle hcap fun i hil => ?_
    obtain ⟨cs', hc, ht'⟩ := hi i (by rw [hm]; simp; omega)
    rw [show Tryz.prog.cellsOf 33 = 6 by kernel_rfl] at hc
    obtain ⟨o, q, k, t, j, A, n', c, rfl⟩ := call_cells ht'
    obtain ⟨_, _, hat⟩ := World.cells?_some hc
    refine ⟨⟨o, k, t, j, q, A, n', c⟩, fun jj u hu => ?_⟩
    have hj6 : jj < 6 := by
      have h6 := (List.getElem?_eq_some_iff.1 hu).1
      exact h6
    have h0 := hat jj hj6
    rw [Go.Deep.add_add] at h0
    rw [h0]
    exact hu
end Go.Proofs.YtecnchmcdbcofaaGreatDoor
