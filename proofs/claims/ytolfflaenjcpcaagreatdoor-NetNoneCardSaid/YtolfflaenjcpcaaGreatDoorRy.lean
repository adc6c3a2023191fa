/- An operation of a net that reads as one. -/
import Derived.Test.YtolfflaenjcpcaaGreatDoorRx
namespace Go.Proofs.YtolfflaenjcpcaaGreatDoor
set_option linter.unusedVariables false
set_option linter.unusedSimpArgs false
open Go.ChangeShapes Go.WideShapes Go.ChangeAt Go.RowKit Go.Deep
theorem list_of_six {cs : List Value} {a0 a1 a2 a3 a4 a5 : Value} (hl : cs.length = 6) (h0 : cs[0]? = some a0) (h1 : cs[1]? = some a1) (h2 : cs[2]? = some a2) (h3 : cs[3]? = some a3) (h4 : cs[4]? = some a4) (h5 : cs[5]? = some a5) : cs = [a0, a1, a2, a3, a4, a5] := by
  match cs, hl with
  | [b0, b1, b2, b3, b4, b5], _ => simp_all
set_option maxRecDepth 100000 in
theorem call_cells {H : Type} {enc : TypeId × Value → H} {W : World} {base : Nat} {sp : Nat → Bool} {held : Bool} {fuel : Nat} {cs : List Value} {y : DataW H × List MemPlace} (hf : DataW.trod enc Tryz.prog W base sp held fuel 25 cs = some y) :
    ∃ (o q : Int) (k t j : ByteArray) (A : Option Addr) (n c : Nat), cs = [.int .i64 o, .string k, .string t, .string j, .int .i64 q, .slice A n c] := by
  obtain ⟨xs, m, _, _, hlen, hxl, hfd⟩ := DataW.trod_struct Tryz.underlying25 hf
  have hlen6 : cs.length = 6 := by rw [hlen]; kernel_rfl
  have hx6 : xs.length = 6 := hxl
  obtain ⟨u0, y0, a0, b0⟩ := field_one (by kernel_rfl) (by omega) (by rw [hlen6]; decide) (hfd 0 _ rfl)
  obtain ⟨u1, y1, a1, b1⟩ := field_one (by kernel_rfl) (by omega) (by rw [hlen6]; decide) (hfd 1 _ rfl)
  obtain ⟨u2, y2, a2, b2⟩ := field_one (by kernel_rfl) (by omega) (by rw [hlen6]; decide) (hfd 2 _ rfl)
  obtain ⟨u3, y3, a3, b3⟩ := field_one (by kernel_rfl) (by omega) (by rw [hlen6]; decide) (hfd 3 _ rfl)
  obtain ⟨u4, y4, a4, b4⟩ := field_one (by kernel_rfl) (by omega) (by rw [hlen6]; decide) (hfd 4 _ rfl)
  obtain ⟨u5, y5, a5, b5⟩ := field_one (by kernel_rfl) (by omega) (by rw [hlen6]; decide) (hfd 5 _ rfl)
  obtain ⟨o, ho, _, _⟩ := DataW.trod_int Tryz.underlying22 b0
  obtain ⟨k, hk, _, _⟩ := DataW.trod_string Tryz.underlying9 b1
  obtain ⟨t, ht, _, _⟩ := DataW.trod_string Tryz.underlying9 b2
  obtain ⟨j, hj, _, _⟩ := DataW.trod_string Tryz.underlying9 b3
  obtain ⟨q, hq, _, _⟩ := DataW.trod_int Tryz.underlying3 b4
  obtain ⟨A, n, c, hA⟩ : ∃ (A : Option Addr) (n c : Nat), u5 = .slice A n c := by
    rcases open_slice Tryz.underlying23 b5 with ⟨h0, _⟩ | ⟨a', len', cap', _, _, _, _, h0, _⟩
    · exact ⟨none, 0, 0, by simpa using h0⟩
    · exact ⟨some a', len', cap', by simpa using h0⟩
  refine ⟨o, q, k, t, j, A, n, c, ?_⟩
  have ho' : u0 = .int .i64 o := by simpa using ho
  have hk' : u1 = .string k := by simpa using hk
  have ht' : u2 = .string t := by simpa using ht
  have hj' : u3 = .string j := by simpa using hj
  have hq' : u4 = .int .i64 q := by simpa using hq
  subst ho' hk' ht' hj' hq' hA
  exact list_of_six hlen6 a0 a1 a2 a3 a4 a5
set_option maxRecDepth 100000 in
theorem open_netop {H : Type} {enc : TypeId × Value → H} {W : World} {base : Nat} {r : Reach} {v : Value} {d : DataW H} {p : List MemPlace} (hv : Value.okWide Tryz.prog W r base 67 v) (h : DataW.Trod enc Tryz.prog W 0 (fun _ => true) true 67 v d p) :
    ∃ (kd nd N o q : Int) (k t j : ByteArray) (A : Option Addr) (n c : Nat), v = .agg #[.int .i64 kd, .int .i64 nd, .int .i64 N, .int .i64 o, .string k, .string t, .string j, .int .i64 q, .slice A n c] := by
  obtain ⟨cs, rfl, hsz⟩ := okWide_struct Tryz.underlying67 hv
  obtain ⟨fuel, hf⟩ := h
  obtain ⟨xs, m, _, _, hlen, hxl, hfd⟩ := DataW.trod_struct Tryz.underlying67 hf
  have hlen9 : cs.toList.length = 9 := by
    have : (Value.agg cs).cells.toList.length = 9 := by rw [hlen]; kernel_rfl
    exact this
  have hx4 : xs.length = 4 := hxl
  have e : (Value.agg cs).cells.toList = cs.toList := rfl
  rw [e] at hfd
  obtain ⟨u0, y0, a0, b0⟩ := field_one (by kernel_rfl) (by omega) (by rw [hlen9]; decide) (hfd 0 _ rfl)
  obtain ⟨u1, y1, a1, b1⟩ := field_one (by kernel_rfl) (by omega) (by rw [hlen9]; decide) (hfd 1 _ rfl)
  obtain ⟨u2, y2, a2, b2⟩ := field_one (by kernel_rfl) (by omega) (by rw [hlen9]; decide) (hfd 2 _ rfl)
  have h3 := hfd 3 _ rfl
  rw [List.getElem?_eq_getElem (by omega)] at h3
  obtain ⟨o, q, k, t, j, A, n, c, h3⟩ := call_cells h3
  obtain ⟨kd, hk0, _, _⟩ := DataW.trod_int Tryz.underlying65 b0
  obtain ⟨nd, hk1, _, _⟩ := DataW.trod_int Tryz.underlying3 b1
  obtain ⟨N, hk2, _, _⟩ := DataW.trod_int Tryz.underlying3 b2
  have hk0' : u0 = .int .i64 kd := by simpa using hk0
  have hk1' : u1 = .int .i64 nd := by simpa using hk1
  have hk2' : u2 = .int .i64 N := by simpa using hk2
  subst hk0' hk1' hk2'
  refine ⟨kd, nd, N, o, q, k, t, j, A, n, c, ?_⟩
  congr 1
  apply Array.ext'
  have h3 : (cs.toList.drop 3).take (Tryz.prog.cellsOf 25) = _ := h3
  rw [show Tryz.prog.cellsOf 25 = 6 by kernel_rfl] at h3
  generalize cs.toList = l at *
  match l, hlen9 with
  | [b0, b1, b2, b3, b4, b5, b6, b7, b8], _ => simp_all
end Go.Proofs.YtolfflaenjcpcaaGreatDoor
