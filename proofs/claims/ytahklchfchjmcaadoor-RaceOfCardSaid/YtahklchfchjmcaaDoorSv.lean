/- The teller's step: node steps, and the rest. -/
import Derived.Test.YtahklchfchjmcaaDoorSt
namespace Go.Proofs.YtahklchfchjmcaaDoor
set_option linter.unusedVariables false
set_option linter.unusedSimpArgs false
set_option linter.unusedSectionVars false
open Go.RowKit Go.MapKept

section
variable (w : World) (B p bh : Nat) (S : Int → Option Value) (bf : List Dd) (stripes : Int) (vo : Value) (out : List Acc) (h : Tell w B p bh S (heldF bf) stripes vo out) (htab : ∀ w', Below B w w' → Tab w')
  (d : Dd) (hlen : out.length ≤ 500000000) (hHl : (heldF bf d.task).length ≤ 10000) (hnd : (heldF bf d.task).Nodup) (hHs : ∀ s ∈ heldF bf d.task, 0 ≤ s ∧ s < stripes) (hs : stripes ≤ 1024)
include h htab hlen hHl hnd hHs hs

set_option maxRecDepth 100000 in
set_option maxHeartbeats 1000000 in
theorem step_one (ht : 0 ≤ d.task ∧ d.task ≤ 9999) (hk : d.step = 1) :
    Calls Tryd.prog 66 #[.pointer (some ⟨p, 0, none⟩), .agg d.arr] w fun e w' => StepOut w w' B p bh bf stripes out d e := by
  have HT := Lib.hid h
  have HTab := Lib.hid htab
  have hp := h.plt
  obtain ⟨task, step, stripe, waits, next, r0, r1, r2, r3, r4, r5, r6, r7, r8, r9, r10, r11, r12⟩ := d
  dsimp only at ht hk hHl hnd hHs
  subst hk
  have HND := Lib.hid (And.intro hnd hHs)
  clear h htab hnd hHs
  unfold Dd.arr
  dsimp only
  go_enter Tryd.func66, Tryd.ntmps66
  go_wp2_with fail
  refine (task_yes task _ ht).mono ?_
  rintro e w' ⟨rfl, rfl⟩
  go_wp2_with fail
  refine (add_any _ B p bh S (heldF bf) stripes vo out (HT.out.below ((Below.refl _ _).alloc (Nat.le_refl _) _)) (by omega) task 3 _).mono ?_
  rintro e w1 ⟨rfl, vo1, h1, hb1, hk1⟩
  have hX1 := hk1 _ _ (heap_alloc_new w _)
  have hx10 : w1.cell? ⟨w.heap.size, 0, none⟩ = some (.int .i64 task) := by simp [World.cell?, hX1]
  have hx11 : w1.cell? ⟨w.heap.size, 1, none⟩ = some (.int .i64 1) := by simp [World.cell?, hX1]
  have H1 := Lib.hid (And.intro h1 (And.intro (((Below.refl _ _).alloc HT.out.hB _).trans hb1) hX1))
  clear h1 hb1 hk1 hX1
  go_wp2_with fail
  refine (add_any w1 B p bh S (heldF bf) stripes _ (out ++ [⟨task, 3, nodeB⟩]) H1.out.1 (by simp; omega) task 4 _).mono ?_
  rintro e w9 ⟨rfl, vo9, h9, hb9, hk9⟩
  have hX9 := hk9 _ _ H1.out.2.2
  have hx91 : w9.cell? ⟨w.heap.size, 1, none⟩ = some (.int .i64 1) := by simp [World.cell?, hX9]
  have H9 := Lib.hid (And.intro h9 (H1.out.2.1.trans hb9))
  clear h9 hb9 hk9 hX9
  go_wp2
  go_ret
  refine .inl ⟨by simp [okStep, taskOk, ht], rfl, S, vo9, ?_, H9.out.2⟩
  rw [held_other (by dsimp only; omega) (by dsimp only; omega)]
  have := H9.out.1
  rw [List.append_assoc] at this
  exact this

set_option maxRecDepth 100000 in
set_option maxHeartbeats 1000000 in
theorem step_seven (ht : 0 ≤ d.task ∧ d.task ≤ 9999) (hk : d.step = 7) :
    Calls Tryd.prog 66 #[.pointer (some ⟨p, 0, none⟩), .agg d.arr] w fun e w' => StepOut w w' B p bh bf stripes out d e := by
  have HT := Lib.hid h
  have HTab := Lib.hid htab
  have hp := h.plt
  obtain ⟨task, step, stripe, waits, next, r0, r1, r2, r3, r4, r5, r6, r7, r8, r9, r10, r11, r12⟩ := d
  dsimp only at ht hk hHl hnd hHs
  subst hk
  have HND := Lib.hid (And.intro hnd hHs)
  clear h htab hnd hHs
  unfold Dd.arr
  dsimp only
  go_enter Tryd.func66, Tryd.ntmps66
  go_wp2_with fail
  refine (task_yes task _ ht).mono ?_
  rintro e w' ⟨rfl, rfl⟩
  go_wp2_with fail
  refine (add_any _ B p bh S (heldF bf) stripes vo out (HT.out.below ((Below.refl _ _).alloc (Nat.le_refl _) _)) (by omega) task 3 _).mono ?_
  rintro e w1 ⟨rfl, vo1, h1, hb1, hk1⟩
  have hX1 := hk1 _ _ (heap_alloc_new w _)
  have hx10 : w1.cell? ⟨w.heap.size, 0, none⟩ = some (.int .i64 task) := by simp [World.cell?, hX1]
  have hx11 : w1.cell? ⟨w.heap.size, 1, none⟩ = some (.int .i64 7) := by simp [World.cell?, hX1]
  have H1 := Lib.hid (And.intro h1 (And.intro (((Below.refl _ _).alloc HT.out.hB _).trans hb1) hX1))
  clear h1 hb1 hk1 hX1
  go_wp2_with fail
  refine (add_any w1 B p bh S (heldF bf) stripes _ (out ++ [⟨task, 3, nodeB⟩]) H1.out.1 (by simp; omega) task 4 _).mono ?_
  rintro e w9 ⟨rfl, vo9, h9, hb9, hk9⟩
  have hX9 := hk9 _ _ H1.out.2.2
  have hx91 : w9.cell? ⟨w.heap.size, 1, none⟩ = some (.int .i64 7) := by simp [World.cell?, hX9]
  have H9 := Lib.hid (And.intro h9 (H1.out.2.1.trans hb9))
  clear h9 hb9 hk9 hX9
  go_wp2
  go_ret
  refine .inl ⟨by simp [okStep, taskOk, ht], rfl, S, vo9, ?_, H9.out.2⟩
  rw [held_other (by dsimp only; omega) (by dsimp only; omega)]
  have := H9.out.1
  rw [List.append_assoc] at this
  exact this

set_option maxRecDepth 100000 in
set_option maxHeartbeats 1000000 in
theorem step_four (ht : 0 ≤ d.task ∧ d.task ≤ 9999) (hk : d.step = 4) :
    Calls Tryd.prog 66 #[.pointer (some ⟨p, 0, none⟩), .agg d.arr] w fun e w' => StepOut w w' B p bh bf stripes out d e := by
  have HT := Lib.hid h
  have HTab := Lib.hid htab
  have hp := h.plt
  obtain ⟨task, step, stripe, waits, next, r0, r1, r2, r3, r4, r5, r6, r7, r8, r9, r10, r11, r12⟩ := d
  dsimp only at ht hk hHl hnd hHs
  subst hk
  have HND := Lib.hid (And.intro hnd hHs)
  clear h htab hnd hHs
  unfold Dd.arr
  dsimp only
  go_enter Tryd.func66, Tryd.ntmps66
  go_wp2_with fail
  refine (task_yes task _ ht).mono ?_
  rintro e w' ⟨rfl, rfl⟩
  go_wp2_with fail
  refine (add_any _ B p bh S (heldF bf) stripes vo out (HT.out.below ((Below.refl _ _).alloc (Nat.le_refl _) _)) (by omega) task 3 _).mono ?_
  rintro e w1 ⟨rfl, vo1, h1, hb1, hk1⟩
  have hX1 := hk1 _ _ (heap_alloc_new w _)
  have hx10 : w1.cell? ⟨w.heap.size, 0, none⟩ = some (.int .i64 task) := by simp [World.cell?, hX1]
  have hx11 : w1.cell? ⟨w.heap.size, 1, none⟩ = some (.int .i64 4) := by simp [World.cell?, hX1]
  have H1 := Lib.hid (And.intro h1 (And.intro (((Below.refl _ _).alloc HT.out.hB _).trans hb1) hX1))
  clear h1 hb1 hk1 hX1
  go_wp2_with fail
  refine (each_any w1 B p bh S (heldF bf) stripes vo1 (out ++ [⟨task, 3, nodeB⟩]) H1.out.1 (fun w' hb => HTab.out w' (H1.out.2.1.trans hb)) task 2 (by simp; omega) (fun s hs' => ⟨(HND.out.2 s hs').1, by have := (HND.out.2 s hs').2; omega⟩)).mono ?_
  rintro e w2 ⟨rfl, vo2, h2, hb2, hk2⟩
  have hX2 := hk2 _ _ H1.out.2.2
  have hx20 : w2.cell? ⟨w.heap.size, 0, none⟩ = some (.int .i64 task) := by simp [World.cell?, hX2]
  have H2 := Lib.hid (And.intro h2 (And.intro (H1.out.2.1.trans hb2) hX2))
  clear h2 hb2 hk2 hX2
  go_wp2_with fail
  refine (add_any w2 B p bh S (heldF bf) stripes _ (out ++ [⟨task, 3, nodeB⟩] ++ allF task 2 (heldF bf task)) H2.out.1 (by simp [allF]; omega) task 4 _).mono ?_
  rintro e w9 ⟨rfl, vo9, h9, hb9, hk9⟩
  have hX9 := hk9 _ _ H2.out.2.2
  have hx91 : w9.cell? ⟨w.heap.size, 1, none⟩ = some (.int .i64 4) := by simp [World.cell?, hX9]
  have H9 := Lib.hid (And.intro h9 (H2.out.2.1.trans hb9))
  clear h9 hb9 hk9 hX9
  go_wp2
  go_ret
  refine .inl ⟨by simp [okStep, taskOk, ht], rfl, S, vo9, ?_, H9.out.2⟩
  rw [held_other (by dsimp only; omega) (by dsimp only; omega)]
  have := H9.out.1
  rw [List.append_assoc, List.append_assoc] at this
  exact this
end
end Go.Proofs.YtahklchfchjmcaaDoor
