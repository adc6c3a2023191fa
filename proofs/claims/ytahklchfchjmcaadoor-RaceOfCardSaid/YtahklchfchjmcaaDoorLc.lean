/- RaceChecks: the walk. -/
import Derived.Test.YtahklchfchjmcaaDoorKn
namespace Go.Proofs.YtahklchfchjmcaaDoor
set_option linter.unusedVariables false
set_option linter.unusedSimpArgs false
open Go.RowKit Go.MapKept

theorem known_wrong {l : List Acc} (hw : wrongF l ≠ 0) : ∀ f' s' er, (if wrongF l ≠ 0 then f' = 0 ∧ s' = 0 ∧ er = wrongF l else er = 0 ∧ CheckIs l f' s') → f' = 0 ∧ s' = 0 ∧ er = wrongF l := by
  intro f' s' er h
  rw [if_pos hw] at h
  exact h

set_option maxRecDepth 100000 in
set_option maxHeartbeats 1000000 in
theorem checks_any (w : World) (v : Value) (l : List Acc) (hl : AccAt w v l) (htab : ∀ w', Below w.heap.size w w' → Tab w') :
    Calls Tryd.prog 4 #[v] w fun e w' => e = .returned (.bool true) ∧ Below w.heap.size w w' := by
  have HL := Lib.hid hl
  have HT := Lib.hid htab
  clear hl htab
  go_enter Tryd.func4, Tryd.ntmps4
  go_wp2_with fail
  refine (few_any w v l 120 (by omega) (by omega) HL.out).mono ?_
  rintro e w1 ⟨b, rfl, hf, rfl⟩
  cases b
  · clear hf
    go_wp2_with fail
    refine (known_yes _ HT.out).mono ?_
    rintro e w2 ⟨rfl, hb⟩
    go_wp2
    go_ret
    exact ⟨rfl, hb⟩
  · have HF := Lib.hid (hf rfl)
    clear hf
    go_wp2_with fail
    refine (rwrong_any w v l HL.out).mono ?_
    rintro e w2 ⟨rfl, hb2⟩
    by_cases hw : wrongF l = 0
    · have HW := Lib.hid hw
      rw [hw]
      clear hw
      go_wp2_with fail
      refine (rcheck_any _ v l (HL.out.below hb2) (by have := HF.out; omega)).mono ?_
      rintro e w3 ⟨f, s, rfl, hc, hb3⟩
      have HC := Lib.hid hc
      clear hc
      have hb := bl_step hb2 hb3
      clear hb2 hb3
      go_wp2_with fail
      refine (races_yes _ v l f s 0 (HL.out.below hb) (known_check HW.out HC.out)).mono ?_
      rintro e w4 ⟨rfl, hb4⟩
      replace hb := bl_step hb hb4
      clear hb4
      go_wp2_with fail
      refine (known_yes _ (fun w' h => HT.out w' (bl_step hb h))).mono ?_
      rintro e w5 ⟨rfl, hb5⟩
      replace hb := bl_step hb hb5
      clear hb5
      go_wp2
      go_ret
      exact ⟨rfl, hb⟩
    · have HW := Lib.hid hw
      have hw' : (wrongF l != 0) = true := by simp [hw]
      go_wp2_with fail
      refine (races_yes _ v l 0 0 (wrongF l) (HL.out.below hb2) (known_wrong HW.out)).mono ?_
      rintro e w4 ⟨rfl, hb4⟩
      have hb := bl_step hb2 hb4
      clear hb4 hb2
      go_wp2_with fail
      refine (known_yes _ (fun w' h => HT.out w' (bl_step hb h))).mono ?_
      rintro e w5 ⟨rfl, hb5⟩
      replace hb := bl_step hb hb5
      clear hb5
      go_wp2
      go_ret
      exact ⟨rfl, hb⟩
end Go.Proofs.YtahklchfchjmcaaDoor
