/- accesses, where the answer is known to be the one asked for. -/
import Derived.Test.YtahklchfchjmcaaDoorOf
import Derived.Test.YtahklchfchjmcaaDoorSa
namespace Go.Proofs.YtahklchfchjmcaaDoor
set_option linter.unusedVariables false
set_option linter.unusedSimpArgs false
open Go.RowKit Go.MapKept

set_option maxRecDepth 100000 in
set_option maxHeartbeats 400000 in
theorem accesses_yes (w : World) (v vw : Value) (l : List Dd) (want : List Acc) (stripes no : Int) (hl : DdAt w v l) (hone : ∀ d ∈ l, d.One) (htab : ∀ w', Below w.heap.size w w' → Tab w') (hw : AccAt w vw want) (h : OfIs l stripes want no) :
    Calls Tryd.prog 16 #[v, .int .i64 stripes, vw, .int .i64 no] w fun e w' => e = .returned (.bool true) ∧ Below w.heap.size w w' := by
  have HL := Lib.hid hl
  have HO := Lib.hid hone
  have HT := Lib.hid htab
  have HW := Lib.hid hw
  have H := Lib.hid h
  clear hl hone htab hw h
  go_enter Tryd.func16, Tryd.ntmps16
  go_wp2_with fail
  refine (of_any w v l HL.out HO.out stripes HT.out).mono ?_
  rintro e w1 ⟨v1, out, er, rfl, ho, hi, hb⟩
  obtain ⟨rfl, rfl⟩ := OfIs.unique hi H.out
  clear hi
  have hw1 := HW.out.below hb
  have HO1 := Lib.hid ho
  have HW1 := Lib.hid hw1
  clear ho hw1
  go_wp2_with fail
  refine (same_any w1 _ _ _ _ HO1.out HW1.out).mono ?_
  rintro e w2 ⟨b, rfl, hiff, hb2⟩
  obtain rfl : b = true := hiff.2 rfl
  clear hiff
  go_wp2
  go_ret
  exact ⟨rfl, hb.trans (hb2.mono hb.size)⟩
end Go.Proofs.YtahklchfchjmcaaDoor
