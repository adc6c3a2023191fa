/- RaceOf: the walk. -/
import Derived.Test.YtahklchfchjmcaaDoorRo
import Derived.Test.YtahklchfchjmcaaDoorKn
namespace Go.Proofs.YtahklchfchjmcaaDoor
set_option linter.unusedVariables false
set_option linter.unusedSimpArgs false
open Go.RowKit Go.MapKept

set_option maxRecDepth 100000 in
set_option maxHeartbeats 1000000 in
theorem of_law_any (w : World) (v : Value) (l : List Dd) (hl : DdAt w v l) (hone : ∀ d ∈ l, d.One) (stripes : Int) (htab : ∀ w', Below w.heap.size w w' → Tab w') :
    Calls Tryd.prog 3 #[v, .int .i64 stripes] w fun e w' => e = .returned (.bool true) ∧ Below w.heap.size w w' := by
  have HL := Lib.hid hl
  have HO := Lib.hid hone
  have HT := Lib.hid htab
  obtain ⟨A, cap, rfl, hcap, hcm, _⟩ := hl
  clear htab hone
  by_cases hlong : (120 : Int) < l.length
  · go_enter Tryd.func3, Tryd.ntmps3
    go_wp2_with fail
    refine (known_yes _ HT.out).mono ?_
    rintro e w2 ⟨rfl, hb⟩
    go_wp2
    go_ret
    exact ⟨rfl, hb⟩
  · have HLn := Lib.hid (show l.length ≤ 120 by omega)
    go_enter Tryd.func3, Tryd.ntmps3
    go_wp2_with fail
    refine (refof_any _ _ l HL.out HO.out HLn.out stripes).mono ?_
    rintro e w2 ⟨u, out, er, rfl, hacc, hof, hb⟩
    have HA := Lib.hid hacc
    have HF := Lib.hid hof
    clear hacc hof
    go_wp2_with fail
    refine (accesses_yes _ _ _ l out stripes er (HL.out.below hb) HO.out (fun w' h => HT.out w' (bl_step hb h)) HA.out HF.out).mono ?_
    rintro e w3 ⟨rfl, hb3⟩
    replace hb := bl_step hb hb3
    clear hb3
    go_wp2_with fail
    refine (known_yes _ (fun w' h => HT.out w' (bl_step hb h))).mono ?_
    rintro e w4 ⟨rfl, hb4⟩
    replace hb := bl_step hb hb4
    clear hb4
    go_wp2
    go_ret
    exact ⟨rfl, hb⟩
end Go.Proofs.YtahklchfchjmcaaDoor
