/- The law NamesFields. -/
import Derived.Test.YtahklchfchjmcaaDoorOe
namespace Go.Proofs.YtahklchfchjmcaaDoor
set_option linter.unusedVariables false
set_option linter.unusedSimpArgs false
open Go.RowKit Go.MapKept

set_option maxRecDepth 100000 in
set_option maxHeartbeats 2000000 in
theorem fields_law (w : World) (s : ByteArray) (hm : MaxIs w) :
    Calls Tryd.prog 12 #[.string s] w fun e w' => e = .returned (.bool true) ∧ Below w.heap.size w w' := by
  have HM := Lib.hid hm
  clear hm
  obtain ⟨N, hN⟩ : ∃ N, s.size = N := ⟨_, rfl⟩
  go_enter Tryd.func12, Tryd.ntmps12
  by_cases h300 : (300 : Int) < N
  · have h300d : decide ((300 : Int) < N) = true := decide_eq_true h300
    go_wp2_with fail
    refine (nknown_yes _ HM.out).mono ?_
    rintro e w1 ⟨rfl, hb⟩
    have HB := Lib.hid hb
    clear hb
    go_wp2
    go_ret
    exact ⟨rfl, HB.out⟩
  have h300d : decide ((300 : Int) < N) = false := decide_eq_false h300
  have HRF := Lib.hid (fun W => refFields_any s (by omega) W)
  have HFY := Lib.hid (fun W no vw want h1 h2 h3 => fields_yes s no vw want (by omega) W h1 h2 h3)
  go_wp2_with fail
  refine (HRF.out _).mono ?_
  rintro e w1 ⟨hb, hout⟩
  have HB := Lib.hid hb
  clear hb
  rcases hout with ⟨xs, v, hx, rfl, hown⟩ | ⟨hx, rfl⟩
  · have HX := Lib.hid hx
    have HO := Lib.hid hown.at_
    clear hx hown
    go_wp2_with fail
    refine (HFY.out _ 0 v xs (HM.out.later HB.out) HO.out (.inl ⟨HX.out, rfl⟩)).mono ?_
    rintro e w2 ⟨rfl, hb⟩
    replace HB := Lib.hid (nbl_step HB.out hb)
    clear hb
    go_wp2_with fail
    refine (nknown_yes _ (HM.out.later HB.out)).mono ?_
    rintro e w3 ⟨rfl, hb⟩
    replace HB := Lib.hid (nbl_step HB.out hb)
    clear hb
    go_wp2
    go_ret
    exact ⟨rfl, HB.out⟩
  · have HX := Lib.hid hx
    clear hx
    go_wp2_with fail
    refine (HFY.out _ 6 (.slice none 0 0) [] (HM.out.later HB.out) (SlAt.nil 0 none (by omega)) (.inr ⟨HX.out, rfl, rfl⟩)).mono ?_
    rintro e w2 ⟨rfl, hb⟩
    replace HB := Lib.hid (nbl_step HB.out hb)
    clear hb
    go_wp2_with fail
    refine (nknown_yes _ (HM.out.later HB.out)).mono ?_
    rintro e w3 ⟨rfl, hb⟩
    replace HB := Lib.hid (nbl_step HB.out hb)
    clear hb
    go_wp2
    go_ret
    exact ⟨rfl, HB.out⟩
end Go.Proofs.YtahklchfchjmcaaDoor
