/- LoadMakes: all together. -/
import Derived.Test.YtecnchmcdbcofaaGreatDoorMko
set_option linter.unusedVariables false
set_option linter.unusedSimpArgs false
namespace Go.Proofs.YtecnchmcdbcofaaGreatDoor
open Go.RowKit Go.MapKept
set_option maxRecDepth 100000 in
theorem loadMakes_any (c : LC) (few many : Int) (w : World) (hf : 0 ≤ few) (hE : Env w) (hT : Tab w) :
    Calls Tryz.prog 8 #[.agg c.arr, .int .u8 few, .int .i64 many] w fun e w' => e = .returned (.bool true) ∧ Below w.heap.size w w' := by
  by_cases h1 : 100 < few
  · have HE := Lib.hid hE
    clear hE hT
    obtain ⟨s, k, t, r⟩ := c
    unfold LC.arr
    have d1 : decide ((100 : Int) < few) = true := decide_eq_true h1
    go_enter Tryz.func8, Tryz.ntmps8
    go_wp2_with (first | (go_at_call 10; refine (known_yes _ (HE.out.later (below_alloc _ _))).mono ?_; rintro e w3 ⟨rfl, hb3⟩; have HB3 := Lib.hid hb3; clear hb3))
    go_ret
    exact ⟨rfl, nbl_step (below_alloc _ _) HB3.out⟩
  · by_cases h2 : 200 < many ∧ many ≤ 20000
    · have HE := Lib.hid hE
      clear hE hT
      obtain ⟨s, k, t, r⟩ := c
      unfold LC.arr
      have d1 : decide ((100 : Int) < few) = false := decide_eq_false h1
      have d2 : decide ((200 : Int) < many) = true := decide_eq_true h2.1
      have d3 : decide (many ≤ 20000) = true := decide_eq_true h2.2
      clear h2
      go_enter Tryz.func8, Tryz.ntmps8
      go_wp2_with (first | (go_at_call 10; refine (known_yes _ (HE.out.later (below_alloc _ _))).mono ?_; rintro e w3 ⟨rfl, hb3⟩; have HB3 := Lib.hid hb3; clear hb3))
      go_ret
      exact ⟨rfl, nbl_step (below_alloc _ _) HB3.out⟩
    · cases hb : okB4 c with
      | false => exact loadMakes_bad w c few many hE h1 h2 hb
      | true =>
        obtain ⟨F, rfl⟩ := Int.eq_ofNat_of_zero_le hf
        by_cases h3 : many < 0
        · exact loadMakes_neg w c F (by omega) many h3 hE hT hb
        · by_cases h4 : 20000 < many
          · exact loadMakes_big w c F (by omega) many h4 hE hT hb
          · obtain ⟨n, rfl⟩ := Int.eq_ofNat_of_zero_le (Int.not_lt.1 h3)
            exact loadMakes_in w c F (by omega) n (by omega) hE hT hb
end Go.Proofs.YtecnchmcdbcofaaGreatDoor
