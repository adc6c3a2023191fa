/- The teller's step: unlock, and the steps that touch memory. -/
import Derived.Test.YtahklchfchjmcaaDoorSt
namespace Go.Proofs.YtahklchfchjmcaaDoor
set_option linter.unusedVariables false
set_option linter.unusedSimpArgs false
set_option linter.unusedSectionVars false
open Go.RowKit Go.MapKept

section
variable (w : World) (B p bh : Nat) (S : Int → Option Value) (bf : List Dd) (stripes : Int) (vo : Value) (out : List Acc) (h : Tell w B p bh S (heldF bf) stripes vo out) (htab : ∀ w', Below B w w' → Tab w')
  (d : Dd) (hlen : out.length ≤ 500000000) (hHl : (heldF bf d.task).length ≤ 10000) (hnd : (heldF bf d.task).Nodup) (hHs : ∀ s ∈ heldF bf d.task, 0 ≤ s ∧ s < stripes) (hs : stripes ≤ 1024)
include h htab hlen hHl hnd hHs hs

set_option maxRecDepth 100000 in
set_option maxHeartbeats 1000000 in
theorem step_unlock (ht : 0 ≤ d.task ∧ d.task ≤ 9999) (h5 : d.step = 5) :
    Calls Tryd.prog 66 #[.pointer (some ⟨p, 0, none⟩), .agg d.arr] w fun e w' => StepOut w w' B p bh bf stripes out d e := by
  have HT := Lib.hid h
  have HTab := Lib.hid htab
  have hp := h.plt
  obtain ⟨task, step, stripe, waits, next, r0, r1, r2, r3, r4, r5, r6, r7, r8, r9, r10, r11, r12⟩ := d
  dsimp only at ht h5 hHl hnd hHs
  subst h5
  have HND := Lib.hid (And.intro hnd hHs)
  clear h htab hnd hHs
  unfold Dd.arr
  dsimp only
  go_enter Tryd.func66, Tryd.ntmps66
  go_wp2_with fail
  refine (task_yes task _ ht).mono ?_
  rintro e w' ⟨rfl, rfl⟩
  go_wp2_with fail
  refine (unlock_any _ B p bh S (heldF bf) stripes vo out (HT.out.below ((Below.refl _ _).alloc (Nat.le_refl _) _)) (fun w' hb => HTab.out w' (((Below.refl _ _).alloc HT.out.hB _).trans hb)) ⟨task, 5, stripe, waits, next, r0, r1, r2, r3, r4, r5, r6, r7, r8, r9, r10, r11, r12⟩ (by omega) (by dsimp only; omega) HND.out.1 (fun s hs' => ⟨(HND.out.2 s hs').1, by have := (HND.out.2 s hs').2; omega⟩)).mono ?_
  rintro e w1 hl
  unfold UnlockOut at hl
  dsimp only at hl
  have hok : okStep bf ⟨task, 5, stripe, waits, next, r0, r1, r2, r3, r4, r5, r6, r7, r8, r9, r10, r11, r12⟩ stripes = true ↔ stripe ∈ heldF bf task ∧ nextOk next := by
    unfold okStep taskOk nextOk
    constructor
    · intro hx
      simp [ht] at hx
      exact ⟨hx.1.2, hx.2⟩
    · rintro ⟨h1, h2⟩
      have := HND.out.2 stripe h1
      simp [ht, h1, this.1, this.2]
      exact h2
  rcases hl with ⟨hm, hn, rfl, S', vo1, h1, hb1⟩ | ⟨hm, rfl, hb1⟩
  · have H1 := Lib.hid (And.intro h1 hb1)
    have HOK := Lib.hid (hok.2 ⟨hm, hn⟩)
    clear h1 hb1 hok hm hn
    go_wp2
    go_ret
    refine .inl ⟨HOK.out, rfl, S', vo1, ?_, ((Below.refl _ _).alloc HT.out.hB _).trans H1.out.2⟩
    rw [held_unlock rfl]
    exact H1.out.1
  · have H1 := Lib.hid hb1
    have HOK := Lib.hid (mt hok.1 hm)
    clear hb1 hok hm
    go_wp2
    go_ret
    refine .inr ⟨?_, rfl, ((Below.refl _ _).alloc HT.out.hB _).trans H1.out⟩
    exact Bool.not_eq_true _ ▸ HOK.out

set_option maxRecDepth 100000 in
set_option maxHeartbeats 1000000 in
theorem step_each (ht : 0 ≤ d.task ∧ d.task ≤ 9999) (h3 : d.step = 3) :
    Calls Tryd.prog 66 #[.pointer (some ⟨p, 0, none⟩), .agg d.arr] w fun e w' => StepOut w w' B p bh bf stripes out d e := by
  have HT := Lib.hid h
  have HTab := Lib.hid htab
  have hp := h.plt
  obtain ⟨task, step, stripe, waits, next, r0, r1, r2, r3, r4, r5, r6, r7, r8, r9, r10, r11, r12⟩ := d
  dsimp only at ht h3 hHl hnd hHs
  subst h3
  have HND := Lib.hid (And.intro hnd hHs)
  clear h htab hnd hHs
  unfold Dd.arr
  dsimp only
  go_enter Tryd.func66, Tryd.ntmps66
  go_wp2_with fail
  refine (task_yes task _ ht).mono ?_
  rintro e w' ⟨rfl, rfl⟩
  go_wp2_with fail
  refine (each_any _ B p bh S (heldF bf) stripes vo out (HT.out.below ((Below.refl _ _).alloc (Nat.le_refl _) _)) (fun w' hb => HTab.out w' (((Below.refl _ _).alloc HT.out.hB _).trans hb)) task 1 (by omega) (fun s hs' => ⟨(HND.out.2 s hs').1, by have := (HND.out.2 s hs').2; omega⟩)).mono ?_
  rintro e w1 ⟨rfl, vo1, h1, hb1, hk1⟩
  have hX1 := hk1 _ _ (heap_alloc_new w _)
  have hx1 : w1.cell? ⟨w.heap.size, 1, none⟩ = some (.int .i64 3) := by simp [World.cell?, hX1]
  have H1 := Lib.hid (And.intro h1 hb1)
  clear h1 hb1 hk1 hX1
  go_wp2
  go_ret
  refine .inl ⟨by simp [okStep, taskOk, ht], rfl, S, vo1, ?_, ((Below.refl _ _).alloc HT.out.hB _).trans H1.out.2⟩
  rw [held_other (by dsimp only; omega) (by dsimp only; omega)]
  exact H1.out.1
end
end Go.Proofs.YtahklchfchjmcaaDoor
