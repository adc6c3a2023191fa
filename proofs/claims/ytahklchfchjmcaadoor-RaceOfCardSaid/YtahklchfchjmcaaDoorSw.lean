/- The teller's step: the rest. -/
import Derived.Test.YtahklchfchjmcaaDoorSt
namespace Go.Proofs.YtahklchfchjmcaaDoor
set_option linter.unusedVariables false
set_option linter.unusedSimpArgs false
set_option linter.unusedSectionVars false
open Go.RowKit Go.MapKept

section
variable (w : World) (B p bh : Nat) (S : Int → Option Value) (bf : List Dd) (stripes : Int) (vo : Value) (out : List Acc) (h : Tell w B p bh S (heldF bf) stripes vo out) (htab : ∀ w', Below B w w' → Tab w')
  (d : Dd) (hlen : out.length ≤ 500000000) (hHl : (heldF bf d.task).length ≤ 10000) (hnd : (heldF bf d.task).Nodup) (hHs : ∀ s ∈ heldF bf d.task, 0 ≤ s ∧ s < stripes) (hs : stripes ≤ 1024)
include h htab hlen hHl hnd hHs hs

set_option maxRecDepth 100000 in
set_option maxHeartbeats 1000000 in
theorem step_rest (ht : 0 ≤ d.task ∧ d.task ≤ 9999) (h1 : d.step ≠ 1) (h2 : d.step ≠ 2) (h3 : d.step ≠ 3) (h4 : d.step ≠ 4) (h5 : d.step ≠ 5) (h7 : d.step ≠ 7) :
    Calls Tryd.prog 66 #[.pointer (some ⟨p, 0, none⟩), .agg d.arr] w fun e w' => StepOut w w' B p bh bf stripes out d e := by
  have HT := Lib.hid h
  have hp := h.plt
  have HN := Lib.hid (And.intro h1 (And.intro h2 (And.intro h3 (And.intro h4 (And.intro h5 h7)))))
  have e1 : (d.step == 1) = false := by simp [h1]
  have e2 : (d.step == 2) = false := by simp [h2]
  have e3 : (d.step == 3) = false := by simp [h3]
  have e4 : (d.step == 4) = false := by simp [h4]
  have e5 : (d.step == 5) = false := by simp [h5]
  have e7 : (d.step == 7) = false := by simp [h7]
  clear h htab hnd hHs h1 h2 h3 h4 h5 h7
  unfold Dd.arr
  by_cases h6 : d.step = 6
  · have e8 : decide (d.step ≥ 1) = true := by simp [h6]
    have e9 : decide (d.step ≤ 7) = true := by simp [h6]
    have H6 := Lib.hid h6
    clear h6
    go_enter Tryd.func66, Tryd.ntmps66
    go_wp2_with fail
    refine (task_yes d.task _ ht).mono ?_
    rintro e w' ⟨rfl, rfl⟩
    go_wp2
    go_ret
    refine .inl ⟨by simp [okStep, taskOk, ht, H6.out], rfl, S, vo, ?_, (Below.refl _ _).alloc HT.out.hB _⟩
    rw [held_other HN.out.2.1 HN.out.2.2.2.2.1]
    have : stepF bf d = [] := by simp [stepF, H6.out]
    rw [this, List.append_nil]
    exact HT.out.below ((Below.refl _ _).alloc (Nat.le_refl _) _)
  · by_cases h8 : d.step ≥ 1
    · have e8 : decide (d.step ≥ 1) = true := by simp; omega
      have h9 : ¬ d.step ≤ 7 := by have := HN.out; omega
      have e9 : decide (d.step ≤ 7) = false := by simp; omega
      have H9 := Lib.hid h9
      clear h6 h8 h9
      go_enter Tryd.func66, Tryd.ntmps66
      go_wp2_with fail
      refine (task_yes d.task _ ht).mono ?_
      rintro e w' ⟨rfl, rfl⟩
      go_wp2
      go_ret
      exact .inr ⟨by unfold okStep; rw [show decide (d.step ≤ 7) = false from decide_eq_false (by have := H9.out; omega)]; simp, rfl, (Below.refl _ _).alloc HT.out.hB _⟩
    · have e8 : decide (d.step ≥ 1) = false := by simp; omega
      have h9 : ¬ 1 ≤ d.step := by omega
      have H9 := Lib.hid h9
      clear h6 h8 h9
      go_enter Tryd.func66, Tryd.ntmps66
      go_wp2_with fail
      refine (task_yes d.task _ ht).mono ?_
      rintro e w' ⟨rfl, rfl⟩
      go_wp2
      go_ret
      exact .inr ⟨by unfold okStep; rw [show decide (1 ≤ d.step) = false from decide_eq_false (by have := H9.out; omega)]; simp, rfl, (Below.refl _ _).alloc HT.out.hB _⟩
end
end Go.Proofs.YtahklchfchjmcaaDoor
