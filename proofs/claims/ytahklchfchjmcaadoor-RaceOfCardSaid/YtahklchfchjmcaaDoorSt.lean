/- The teller's step: the walk. -/
import Derived.Test.YtahklchfchjmcaaDoorTv
namespace Go.Proofs.YtahklchfchjmcaaDoor
set_option linter.unusedVariables false
set_option linter.unusedSimpArgs false
set_option linter.unusedSectionVars false
open Go.RowKit Go.MapKept

/-- What a step leaves. -/
def StepOut (w w' : World) (B p bh : Nat) (bf : List Dd) (stripes : Int) (out : List Acc) (d : Dd) (e : Ending) : Prop :=
  (okStep bf d stripes = true ∧ e = .returned (.bool true) ∧ ∃ S', TellOut w w' B p bh S' (heldF (bf ++ [d])) stripes (out ++ stepF bf d)) ∨
  (okStep bf d stripes = false ∧ e = .returned (.bool false) ∧ Below B w w')

theorem held_other {bf : List Dd} {d : Dd} (h2 : d.step ≠ 2) (h5 : d.step ≠ 5) : heldF (bf ++ [d]) = heldF bf := by
  funext t
  rw [heldF_snoc]
  unfold heldStep
  rw [if_neg h2, if_neg h5]
  split <;> rfl
theorem held_lock {bf : List Dd} {d : Dd} (h2 : d.step = 2) : heldF (bf ++ [d]) = fun y => if y = d.task then heldF bf d.task ++ [d.stripe] else heldF bf y := by
  funext t
  rw [heldF_snoc]
  unfold heldStep
  rw [if_pos h2]
  by_cases e : d.task = t
  · subst e; simp
  · rw [if_neg e, if_neg (fun h => e h.symm)]
theorem held_unlock {bf : List Dd} {d : Dd} (h5 : d.step = 5) : heldF (bf ++ [d]) = fun y => if y = d.task then without (heldF bf d.task) d.stripe else heldF bf y := by
  funext t
  rw [heldF_snoc]
  unfold heldStep
  have h2 : ¬ d.step = 2 := by omega
  rw [if_neg h2, if_pos h5]
  by_cases e : d.task = t
  · subst e; simp
  · rw [if_neg e, if_neg (fun h => e h.symm)]

section
variable (w : World) (B p bh : Nat) (S : Int → Option Value) (bf : List Dd) (stripes : Int) (vo : Value) (out : List Acc) (h : Tell w B p bh S (heldF bf) stripes vo out) (htab : ∀ w', Below B w w' → Tab w')
  (d : Dd) (hlen : out.length ≤ 500000000) (hHl : (heldF bf d.task).length ≤ 10000) (hnd : (heldF bf d.task).Nodup) (hHs : ∀ s ∈ heldF bf d.task, 0 ≤ s ∧ s < stripes) (hs : stripes ≤ 1024)
include h htab hlen hHl hnd hHs hs

set_option maxRecDepth 100000 in
set_option maxHeartbeats 1000000 in
theorem step_notask (ht : ¬ (0 ≤ d.task ∧ d.task ≤ 9999)) :
    Calls Tryd.prog 66 #[.pointer (some ⟨p, 0, none⟩), .agg d.arr] w fun e w' => StepOut w w' B p bh bf stripes out d e := by
  have HT := Lib.hid h
  have hp := h.plt
  clear h htab hHl hnd hHs
  unfold Dd.arr
  go_enter Tryd.func66, Tryd.ntmps66
  go_wp2_with fail
  refine (task_no d.task _ ht).mono ?_
  rintro e w' ⟨rfl, rfl⟩
  go_wp2
  go_ret
  refine .inr ⟨?_, rfl, (Below.refl _ _).alloc HT.out.hB _⟩
  unfold okStep taskOk
  rw [← Bool.decide_and, decide_eq_false ht]
  simp

set_option maxRecDepth 100000 in
set_option maxHeartbeats 1000000 in
theorem step_lock (ht : 0 ≤ d.task ∧ d.task ≤ 9999) (h2 : d.step = 2) :
    Calls Tryd.prog 66 #[.pointer (some ⟨p, 0, none⟩), .agg d.arr] w fun e w' => StepOut w w' B p bh bf stripes out d e := by
  have HT := Lib.hid h
  have HTab := Lib.hid htab
  have hp := h.plt
  clear h htab hnd hHs
  obtain ⟨task, step, stripe, waits, next, r0, r1, r2, r3, r4, r5, r6, r7, r8, r9, r10, r11, r12⟩ := d
  dsimp only at ht h2 hHl
  subst h2
  unfold Dd.arr
  dsimp only
  go_enter Tryd.func66, Tryd.ntmps66
  go_wp2_with fail
  refine (task_yes task _ ht).mono ?_
  rintro e w' ⟨rfl, rfl⟩
  go_wp2_with fail
  refine (lock_any _ B p bh S (heldF bf) stripes vo out (HT.out.below ((Below.refl _ _).alloc (Nat.le_refl _) _)) (fun w' hb => HTab.out w' (((Below.refl _ _).alloc HT.out.hB _).trans hb)) ⟨task, 2, stripe, waits, next, r0, r1, r2, r3, r4, r5, r6, r7, r8, r9, r10, r11, r12⟩ (by omega) (by dsimp only; omega) hs).mono ?_
  rintro e w1 hl
  unfold LockOut at hl
  dsimp only at hl
  have hok : okStep bf ⟨task, 2, stripe, waits, next, r0, r1, r2, r3, r4, r5, r6, r7, r8, r9, r10, r11, r12⟩ stripes = (decide (0 ≤ stripe) && decide (stripe < stripes) && !(heldF bf task).contains stripe) := by
    unfold okStep taskOk
    simp [ht]
  by_cases hc : 0 ≤ stripe ∧ stripe < stripes ∧ (heldF bf task).contains stripe = false
  · rw [if_pos hc] at hl
    obtain ⟨rfl, S', vo1, h1, hb1⟩ := hl
    have H1 := Lib.hid (And.intro h1 hb1)
    have HOK := Lib.hid (And.intro hok hc)
    clear h1 hb1 hok hc
    go_wp2
    go_ret
    refine .inl ⟨?_, rfl, S', vo1, ?_, ((Below.refl _ _).alloc HT.out.hB _).trans H1.out.2⟩
    · rw [HOK.out.1, HOK.out.2.2.2]
      simp [HOK.out.2.1, HOK.out.2.2.1]
    · rw [held_lock rfl]
      exact H1.out.1
  · rw [if_neg hc] at hl
    obtain ⟨rfl, hb1⟩ := hl
    have H1 := Lib.hid hb1
    have HOK := Lib.hid (And.intro hok hc)
    clear hb1 hok hc
    go_wp2
    go_ret
    refine .inr ⟨?_, rfl, ((Below.refl _ _).alloc HT.out.hB _).trans H1.out⟩
    rw [HOK.out.1, ← Bool.not_eq_true]
    intro hx
    apply HOK.out.2
    simpa [and_assoc] using hx
end
end Go.Proofs.YtahklchfchjmcaaDoor
