/- The rows of First at calls (printed by wip/genEm.py). -/
import Derived.Test.YtmocoiamhphhnaaGreatDoorEl
namespace Go.Proofs.YtmocoiamhphhnaaGreatDoor
set_option linter.unusedVariables false
set_option linter.unusedSimpArgs false
open Go.RowKit Go.MapKept

theorem key_a (w : World) : Calls Tryz.prog 26 #[.string ⟨#[97]⟩] w fun e w' => e = .returned (.bool true) ∧ Below w.heap.size w w' := by
  have h := key_any ⟨#[97]⟩ (by decide) w
  rwa [show keyL (ByteArray.mk #[97]).data.toList = true by decide] at h

theorem key_b (w : World) : Calls Tryz.prog 26 #[.string ⟨#[98]⟩] w fun e w' => e = .returned (.bool true) ∧ Below w.heap.size w w' := by
  have h := key_any ⟨#[98]⟩ (by decide) w
  rwa [show keyL (ByteArray.mk #[98]).data.toList = true by decide] at h

theorem key_A (w : World) : Calls Tryz.prog 26 #[.string ⟨#[65]⟩] w fun e w' => e = .returned (.bool false) ∧ Below w.heap.size w w' := by
  have h := key_any ⟨#[65]⟩ (by decide) w
  rwa [show keyL (ByteArray.mk #[65]).data.toList = false by decide] at h

theorem item_tea (w : World) (hm : MaxIs w) : Calls Tryz.prog 29 #[.string ⟨#[116, 101, 97]⟩] w fun e w' => e = .returned (.bool true) ∧ Below w.heap.size w w' := by
  have h := item_any ⟨#[116, 101, 97]⟩ (by decide) w hm
  rwa [show itemL (ByteArray.mk #[116, 101, 97]).data.toList = true by decide] at h

theorem item_x (w : World) (hm : MaxIs w) : Calls Tryz.prog 29 #[.string ⟨#[120]⟩] w fun e w' => e = .returned (.bool true) ∧ Below w.heap.size w w' := by
  have h := item_any ⟨#[120]⟩ (by decide) w hm
  rwa [show itemL (ByteArray.mk #[120]).data.toList = true by decide] at h

set_option maxRecDepth 100000 in
set_option maxHeartbeats 1000000 in
theorem first2_any (p1 p2 : Nat) (a b : Bool) (w : World) (h1 : HeapIs w p1 (.cells #[.bool a] 4 (0, 0))) (h2 : HeapIs w p2 (.cells #[.bool b] 4 (0, 0))) : Calls Tryz.prog 23 #[.pointer (some ⟨p1, 0, none⟩), .pointer (some ⟨p2, 0, none⟩)] w fun e w' => e = .returned (.bool (a && !b)) ∧ Below w.heap.size w w' := by
  have HB := Lib.hid (Below.refl w.heap.size w)
  have q1 := h1.cell (j := 0) (v := .bool a) rfl
  have q2 := h2.cell (j := 0) (v := .bool b) rfl
  go_enter Tryz.func23, Tryz.ntmps23
  rcases a with _ | _ <;> rcases b with _ | _ <;> go_wp2 <;> go_ret <;> exact ⟨rfl, by repeat (first | exact HB.out | apply nbl_al | apply nbl_drw)⟩

set_option maxRecDepth 100000 in
set_option maxHeartbeats 1000000 in
theorem first1_add0 (p : Nat) (w : World) (hp : HeapIs w p (.cells #[.int .i64 1, .string ⟨#[97]⟩, .string ⟨#[]⟩, .string ⟨#[116, 101, 97]⟩, .int .i64 0, .slice none 0 0] 29 (0, 0))) (hE : Env w) :
    Calls Tryz.prog 21 #[.pointer (some ⟨p, 0, none⟩)] w fun e w' => e = .returned (.bool false) ∧ Below w.heap.size w w' := by
  have q0 := hp.cell (j := 0) (v := .int .i64 1) rfl
  have q1 := hp.cell (j := 1) (v := .string ⟨#[97]⟩) rfl
  have q2 := hp.cell (j := 2) (v := .string ⟨#[]⟩) rfl
  have q3 := hp.cell (j := 3) (v := .string ⟨#[116, 101, 97]⟩) rfl
  have q4 := hp.cell (j := 4) (v := .int .i64 0) rfl
  have q5 := hp.cell (j := 5) (v := .slice none 0 0) rfl
  have HB := Lib.hid (Below.refl w.heap.size w)
  go_enter Tryz.func21, Tryz.ntmps21
  have HE := Lib.hid hE
  clear hE
  go_wp2_with fail
  refine (formed_add0 _ (HE.out.later HB.out)).mono ?_
  rintro e w1 ⟨rfl, hb⟩
  replace HB := Lib.hid (show Below w.heap.size w w1 by have h := hb; repeat (first | exact nbl_step HB.out h | replace h := nbl_new h | replace h := nbl_dr h))
  have j1 : HeapIs w1 (p) (.cells #[.int .i64 1, .string ⟨#[97]⟩, .string ⟨#[]⟩, .string ⟨#[116, 101, 97]⟩, .int .i64 0, .slice none 0 0] 29 (0, 0)) := hp.below hb
  have j1r0 := j1.cell (j := 0) (v := .int .i64 1) rfl
  have j1s0 := j1.frozen 0
  have j1a0 : ∀ o, (w1.alloc o).cell? ⟨p, 0, none⟩ = some (.int .i64 1) := fun o => (HeapIs.al j1 (o' := o)).cell (j := 0) (v := .int .i64 1) rfl
  have j1t0 := j1.set (j := 0) (v := .int .i64 1) rfl
  have j1r1 := j1.cell (j := 1) (v := .string ⟨#[97]⟩) rfl
  have j1s1 := j1.frozen 1
  have j1a1 : ∀ o, (w1.alloc o).cell? ⟨p, 1, none⟩ = some (.string ⟨#[97]⟩) := fun o => (HeapIs.al j1 (o' := o)).cell (j := 1) (v := .string ⟨#[97]⟩) rfl
  have j1t1 := j1.set (j := 1) (v := .string ⟨#[97]⟩) rfl
  have j1r2 := j1.cell (j := 2) (v := .string ⟨#[]⟩) rfl
  have j1s2 := j1.frozen 2
  have j1a2 : ∀ o, (w1.alloc o).cell? ⟨p, 2, none⟩ = some (.string ⟨#[]⟩) := fun o => (HeapIs.al j1 (o' := o)).cell (j := 2) (v := .string ⟨#[]⟩) rfl
  have j1t2 := j1.set (j := 2) (v := .string ⟨#[]⟩) rfl
  have j1r3 := j1.cell (j := 3) (v := .string ⟨#[116, 101, 97]⟩) rfl
  have j1s3 := j1.frozen 3
  have j1a3 : ∀ o, (w1.alloc o).cell? ⟨p, 3, none⟩ = some (.string ⟨#[116, 101, 97]⟩) := fun o => (HeapIs.al j1 (o' := o)).cell (j := 3) (v := .string ⟨#[116, 101, 97]⟩) rfl
  have j1t3 := j1.set (j := 3) (v := .string ⟨#[116, 101, 97]⟩) rfl
  have j1r4 := j1.cell (j := 4) (v := .int .i64 0) rfl
  have j1s4 := j1.frozen 4
  have j1a4 : ∀ o, (w1.alloc o).cell? ⟨p, 4, none⟩ = some (.int .i64 0) := fun o => (HeapIs.al j1 (o' := o)).cell (j := 4) (v := .int .i64 0) rfl
  have j1t4 := j1.set (j := 4) (v := .int .i64 0) rfl
  have j1r5 := j1.cell (j := 5) (v := .slice none 0 0) rfl
  have j1s5 := j1.frozen 5
  have j1a5 : ∀ o, (w1.alloc o).cell? ⟨p, 5, none⟩ = some (.slice none 0 0) := fun o => (HeapIs.al j1 (o' := o)).cell (j := 5) (v := .slice none 0 0) rfl
  have j1t5 := j1.set (j := 5) (v := .slice none 0 0) rfl
  clear hb
  go_wp2
  go_ret
  exact ⟨rfl, by repeat (first | exact HB.out | apply nbl_al | apply nbl_drw | refine Below.setCell ?_ (Nat.le_refl _) _ | refine nbl_set ?_ (by first | exact Nat.le_refl _ | (simp; omega) | (simp; done) | omega) )⟩

set_option maxRecDepth 100000 in
set_option maxHeartbeats 1000000 in
theorem first3_add0 (p : Nat) (w : World) (hp : HeapIs w p (.cells #[.int .i64 1, .string ⟨#[97]⟩, .string ⟨#[]⟩, .string ⟨#[116, 101, 97]⟩, .int .i64 0, .slice none 0 0] 29 (0, 0))) (hE : Env w) :
    Calls Tryz.prog 24 #[.pointer (some ⟨p, 0, none⟩)] w fun e w' => e = .returned (.bool false) ∧ Below w.heap.size w w' := by
  have q0 := hp.cell (j := 0) (v := .int .i64 1) rfl
  have q1 := hp.cell (j := 1) (v := .string ⟨#[97]⟩) rfl
  have q2 := hp.cell (j := 2) (v := .string ⟨#[]⟩) rfl
  have q3 := hp.cell (j := 3) (v := .string ⟨#[116, 101, 97]⟩) rfl
  have q4 := hp.cell (j := 4) (v := .int .i64 0) rfl
  have q5 := hp.cell (j := 5) (v := .slice none 0 0) rfl
  have HB := Lib.hid (Below.refl w.heap.size w)
  go_enter Tryz.func24, Tryz.ntmps24
  have HE := Lib.hid hE
  clear hE
  go_wp2_with fail
  refine (needs_1 _ _ _ _ _ _ true (by decide) _ (HE.out.later HB.out)).mono ?_
  rintro e w1 ⟨rfl, hb⟩
  replace HB := Lib.hid (show Below w.heap.size w w1 by have h := hb; repeat (first | exact nbl_step HB.out h | replace h := nbl_new h | replace h := nbl_dr h))
  have j1 : HeapIs w1 (p) (.cells #[.int .i64 1, .string ⟨#[97]⟩, .string ⟨#[]⟩, .string ⟨#[116, 101, 97]⟩, .int .i64 0, .slice none 0 0] 29 (0, 0)) := hp.below hb
  have j1r0 := j1.cell (j := 0) (v := .int .i64 1) rfl
  have j1s0 := j1.frozen 0
  have j1a0 : ∀ o, (w1.alloc o).cell? ⟨p, 0, none⟩ = some (.int .i64 1) := fun o => (HeapIs.al j1 (o' := o)).cell (j := 0) (v := .int .i64 1) rfl
  have j1t0 := j1.set (j := 0) (v := .int .i64 1) rfl
  have j1r1 := j1.cell (j := 1) (v := .string ⟨#[97]⟩) rfl
  have j1s1 := j1.frozen 1
  have j1a1 : ∀ o, (w1.alloc o).cell? ⟨p, 1, none⟩ = some (.string ⟨#[97]⟩) := fun o => (HeapIs.al j1 (o' := o)).cell (j := 1) (v := .string ⟨#[97]⟩) rfl
  have j1t1 := j1.set (j := 1) (v := .string ⟨#[97]⟩) rfl
  have j1r2 := j1.cell (j := 2) (v := .string ⟨#[]⟩) rfl
  have j1s2 := j1.frozen 2
  have j1a2 : ∀ o, (w1.alloc o).cell? ⟨p, 2, none⟩ = some (.string ⟨#[]⟩) := fun o => (HeapIs.al j1 (o' := o)).cell (j := 2) (v := .string ⟨#[]⟩) rfl
  have j1t2 := j1.set (j := 2) (v := .string ⟨#[]⟩) rfl
  have j1r3 := j1.cell (j := 3) (v := .string ⟨#[116, 101, 97]⟩) rfl
  have j1s3 := j1.frozen 3
  have j1a3 : ∀ o, (w1.alloc o).cell? ⟨p, 3, none⟩ = some (.string ⟨#[116, 101, 97]⟩) := fun o => (HeapIs.al j1 (o' := o)).cell (j := 3) (v := .string ⟨#[116, 101, 97]⟩) rfl
  have j1t3 := j1.set (j := 3) (v := .string ⟨#[116, 101, 97]⟩) rfl
  have j1r4 := j1.cell (j := 4) (v := .int .i64 0) rfl
  have j1s4 := j1.frozen 4
  have j1a4 : ∀ o, (w1.alloc o).cell? ⟨p, 4, none⟩ = some (.int .i64 0) := fun o => (HeapIs.al j1 (o' := o)).cell (j := 4) (v := .int .i64 0) rfl
  have j1t4 := j1.set (j := 4) (v := .int .i64 0) rfl
  have j1r5 := j1.cell (j := 5) (v := .slice none 0 0) rfl
  have j1s5 := j1.frozen 5
  have j1a5 : ∀ o, (w1.alloc o).cell? ⟨p, 5, none⟩ = some (.slice none 0 0) := fun o => (HeapIs.al j1 (o' := o)).cell (j := 5) (v := .slice none 0 0) rfl
  have j1t5 := j1.set (j := 5) (v := .slice none 0 0) rfl
  clear hb
  go_wp2_with fail
  refine (key_a _).mono ?_
  rintro e w2 ⟨rfl, hb⟩
  replace HB := Lib.hid (show Below w.heap.size w w2 by have h := hb; repeat (first | exact nbl_step HB.out h | replace h := nbl_new h | replace h := nbl_dr h))
  have j2 : HeapIs w2 (p) (.cells #[.int .i64 1, .string ⟨#[97]⟩, .string ⟨#[]⟩, .string ⟨#[116, 101, 97]⟩, .int .i64 0, .slice none 0 0] 29 (0, 0)) := j1.below hb
  have j2r0 := j2.cell (j := 0) (v := .int .i64 1) rfl
  have j2s0 := j2.frozen 0
  have j2a0 : ∀ o, (w2.alloc o).cell? ⟨p, 0, none⟩ = some (.int .i64 1) := fun o => (HeapIs.al j2 (o' := o)).cell (j := 0) (v := .int .i64 1) rfl
  have j2t0 := j2.set (j := 0) (v := .int .i64 1) rfl
  have j2r1 := j2.cell (j := 1) (v := .string ⟨#[97]⟩) rfl
  have j2s1 := j2.frozen 1
  have j2a1 : ∀ o, (w2.alloc o).cell? ⟨p, 1, none⟩ = some (.string ⟨#[97]⟩) := fun o => (HeapIs.al j2 (o' := o)).cell (j := 1) (v := .string ⟨#[97]⟩) rfl
  have j2t1 := j2.set (j := 1) (v := .string ⟨#[97]⟩) rfl
  have j2r2 := j2.cell (j := 2) (v := .string ⟨#[]⟩) rfl
  have j2s2 := j2.frozen 2
  have j2a2 : ∀ o, (w2.alloc o).cell? ⟨p, 2, none⟩ = some (.string ⟨#[]⟩) := fun o => (HeapIs.al j2 (o' := o)).cell (j := 2) (v := .string ⟨#[]⟩) rfl
  have j2t2 := j2.set (j := 2) (v := .string ⟨#[]⟩) rfl
  have j2r3 := j2.cell (j := 3) (v := .string ⟨#[116, 101, 97]⟩) rfl
  have j2s3 := j2.frozen 3
  have j2a3 : ∀ o, (w2.alloc o).cell? ⟨p, 3, none⟩ = some (.string ⟨#[116, 101, 97]⟩) := fun o => (HeapIs.al j2 (o' := o)).cell (j := 3) (v := .string ⟨#[116, 101, 97]⟩) rfl
  have j2t3 := j2.set (j := 3) (v := .string ⟨#[116, 101, 97]⟩) rfl
  have j2r4 := j2.cell (j := 4) (v := .int .i64 0) rfl
  have j2s4 := j2.frozen 4
  have j2a4 : ∀ o, (w2.alloc o).cell? ⟨p, 4, none⟩ = some (.int .i64 0) := fun o => (HeapIs.al j2 (o' := o)).cell (j := 4) (v := .int .i64 0) rfl
  have j2t4 := j2.set (j := 4) (v := .int .i64 0) rfl
  have j2r5 := j2.cell (j := 5) (v := .slice none 0 0) rfl
  have j2s5 := j2.frozen 5
  have j2a5 : ∀ o, (w2.alloc o).cell? ⟨p, 5, none⟩ = some (.slice none 0 0) := fun o => (HeapIs.al j2 (o' := o)).cell (j := 5) (v := .slice none 0 0) rfl
  have j2t5 := j2.set (j := 5) (v := .slice none 0 0) rfl
  clear hb
  go_wp2
  go_ret
  exact ⟨rfl, by repeat (first | exact HB.out | apply nbl_al | apply nbl_drw | refine Below.setCell ?_ (Nat.le_refl _) _ | refine nbl_set ?_ (by first | exact Nat.le_refl _ | (simp; omega) | (simp; done) | omega) )⟩

set_option maxRecDepth 100000 in
set_option maxHeartbeats 1000000 in
theorem first4_add0 (p : Nat) (w : World) (hp : HeapIs w p (.cells #[.int .i64 1, .string ⟨#[97]⟩, .string ⟨#[]⟩, .string ⟨#[116, 101, 97]⟩, .int .i64 0, .slice none 0 0] 29 (0, 0))) (hE : Env w) :
    Calls Tryz.prog 27 #[.pointer (some ⟨p, 0, none⟩)] w fun e w' => e = .returned (.bool false) ∧ Below w.heap.size w w' := by
  have q0 := hp.cell (j := 0) (v := .int .i64 1) rfl
  have q1 := hp.cell (j := 1) (v := .string ⟨#[97]⟩) rfl
  have q2 := hp.cell (j := 2) (v := .string ⟨#[]⟩) rfl
  have q3 := hp.cell (j := 3) (v := .string ⟨#[116, 101, 97]⟩) rfl
  have q4 := hp.cell (j := 4) (v := .int .i64 0) rfl
  have q5 := hp.cell (j := 5) (v := .slice none 0 0) rfl
  have HB := Lib.hid (Below.refl w.heap.size w)
  go_enter Tryz.func27, Tryz.ntmps27
  have HE := Lib.hid hE
  clear hE
  go_wp2_with fail
  refine (needs_1 _ _ _ _ _ _ false (by decide) _ (HE.out.later HB.out)).mono ?_
  rintro e w1 ⟨rfl, hb⟩
  replace HB := Lib.hid (show Below w.heap.size w w1 by have h := hb; repeat (first | exact nbl_step HB.out h | replace h := nbl_new h | replace h := nbl_dr h))
  have j1 : HeapIs w1 (p) (.cells #[.int .i64 1, .string ⟨#[97]⟩, .string ⟨#[]⟩, .string ⟨#[116, 101, 97]⟩, .int .i64 0, .slice none 0 0] 29 (0, 0)) := hp.below hb
  have j1r0 := j1.cell (j := 0) (v := .int .i64 1) rfl
  have j1s0 := j1.frozen 0
  have j1a0 : ∀ o, (w1.alloc o).cell? ⟨p, 0, none⟩ = some (.int .i64 1) := fun o => (HeapIs.al j1 (o' := o)).cell (j := 0) (v := .int .i64 1) rfl
  have j1t0 := j1.set (j := 0) (v := .int .i64 1) rfl
  have j1r1 := j1.cell (j := 1) (v := .string ⟨#[97]⟩) rfl
  have j1s1 := j1.frozen 1
  have j1a1 : ∀ o, (w1.alloc o).cell? ⟨p, 1, none⟩ = some (.string ⟨#[97]⟩) := fun o => (HeapIs.al j1 (o' := o)).cell (j := 1) (v := .string ⟨#[97]⟩) rfl
  have j1t1 := j1.set (j := 1) (v := .string ⟨#[97]⟩) rfl
  have j1r2 := j1.cell (j := 2) (v := .string ⟨#[]⟩) rfl
  have j1s2 := j1.frozen 2
  have j1a2 : ∀ o, (w1.alloc o).cell? ⟨p, 2, none⟩ = some (.string ⟨#[]⟩) := fun o => (HeapIs.al j1 (o' := o)).cell (j := 2) (v := .string ⟨#[]⟩) rfl
  have j1t2 := j1.set (j := 2) (v := .string ⟨#[]⟩) rfl
  have j1r3 := j1.cell (j := 3) (v := .string ⟨#[116, 101, 97]⟩) rfl
  have j1s3 := j1.frozen 3
  have j1a3 : ∀ o, (w1.alloc o).cell? ⟨p, 3, none⟩ = some (.string ⟨#[116, 101, 97]⟩) := fun o => (HeapIs.al j1 (o' := o)).cell (j := 3) (v := .string ⟨#[116, 101, 97]⟩) rfl
  have j1t3 := j1.set (j := 3) (v := .string ⟨#[116, 101, 97]⟩) rfl
  have j1r4 := j1.cell (j := 4) (v := .int .i64 0) rfl
  have j1s4 := j1.frozen 4
  have j1a4 : ∀ o, (w1.alloc o).cell? ⟨p, 4, none⟩ = some (.int .i64 0) := fun o => (HeapIs.al j1 (o' := o)).cell (j := 4) (v := .int .i64 0) rfl
  have j1t4 := j1.set (j := 4) (v := .int .i64 0) rfl
  have j1r5 := j1.cell (j := 5) (v := .slice none 0 0) rfl
  have j1s5 := j1.frozen 5
  have j1a5 : ∀ o, (w1.alloc o).cell? ⟨p, 5, none⟩ = some (.slice none 0 0) := fun o => (HeapIs.al j1 (o' := o)).cell (j := 5) (v := .slice none 0 0) rfl
  have j1t5 := j1.set (j := 5) (v := .slice none 0 0) rfl
  clear hb
  go_wp2
  go_ret
  exact ⟨rfl, by repeat (first | exact HB.out | apply nbl_al | apply nbl_drw | refine Below.setCell ?_ (Nat.le_refl _) _ | refine nbl_set ?_ (by first | exact Nat.le_refl _ | (simp; omega) | (simp; done) | omega) )⟩

set_option maxRecDepth 100000 in
set_option maxHeartbeats 1000000 in
theorem first5_add0 (p : Nat) (w : World) (hp : HeapIs w p (.cells #[.int .i64 1, .string ⟨#[97]⟩, .string ⟨#[]⟩, .string ⟨#[116, 101, 97]⟩, .int .i64 0, .slice none 0 0] 29 (0, 0))) (hE : Env w) :
    Calls Tryz.prog 28 #[.pointer (some ⟨p, 0, none⟩)] w fun e w' => e = .returned (.bool false) ∧ Below w.heap.size w w' := by
  have q0 := hp.cell (j := 0) (v := .int .i64 1) rfl
  have q1 := hp.cell (j := 1) (v := .string ⟨#[97]⟩) rfl
  have q2 := hp.cell (j := 2) (v := .string ⟨#[]⟩) rfl
  have q3 := hp.cell (j := 3) (v := .string ⟨#[116, 101, 97]⟩) rfl
  have q4 := hp.cell (j := 4) (v := .int .i64 0) rfl
  have q5 := hp.cell (j := 5) (v := .slice none 0 0) rfl
  have HB := Lib.hid (Below.refl w.heap.size w)
  go_enter Tryz.func28, Tryz.ntmps28
  have HE := Lib.hid hE
  clear hE
  go_wp2_with fail
  refine (needs_1 _ _ _ _ _ _ true (by decide) _ (HE.out.later HB.out)).mono ?_
  rintro e w1 ⟨rfl, hb⟩
  replace HB := Lib.hid (show Below w.heap.size w w1 by have h := hb; repeat (first | exact nbl_step HB.out h | replace h := nbl_new h | replace h := nbl_dr h))
  have j1 : HeapIs w1 (p) (.cells #[.int .i64 1, .string ⟨#[97]⟩, .string ⟨#[]⟩, .string ⟨#[116, 101, 97]⟩, .int .i64 0, .slice none 0 0] 29 (0, 0)) := hp.below hb
  have j1r0 := j1.cell (j := 0) (v := .int .i64 1) rfl
  have j1s0 := j1.frozen 0
  have j1a0 : ∀ o, (w1.alloc o).cell? ⟨p, 0, none⟩ = some (.int .i64 1) := fun o => (HeapIs.al j1 (o' := o)).cell (j := 0) (v := .int .i64 1) rfl
  have j1t0 := j1.set (j := 0) (v := .int .i64 1) rfl
  have j1r1 := j1.cell (j := 1) (v := .string ⟨#[97]⟩) rfl
  have j1s1 := j1.frozen 1
  have j1a1 : ∀ o, (w1.alloc o).cell? ⟨p, 1, none⟩ = some (.string ⟨#[97]⟩) := fun o => (HeapIs.al j1 (o' := o)).cell (j := 1) (v := .string ⟨#[97]⟩) rfl
  have j1t1 := j1.set (j := 1) (v := .string ⟨#[97]⟩) rfl
  have j1r2 := j1.cell (j := 2) (v := .string ⟨#[]⟩) rfl
  have j1s2 := j1.frozen 2
  have j1a2 : ∀ o, (w1.alloc o).cell? ⟨p, 2, none⟩ = some (.string ⟨#[]⟩) := fun o => (HeapIs.al j1 (o' := o)).cell (j := 2) (v := .string ⟨#[]⟩) rfl
  have j1t2 := j1.set (j := 2) (v := .string ⟨#[]⟩) rfl
  have j1r3 := j1.cell (j := 3) (v := .string ⟨#[116, 101, 97]⟩) rfl
  have j1s3 := j1.frozen 3
  have j1a3 : ∀ o, (w1.alloc o).cell? ⟨p, 3, none⟩ = some (.string ⟨#[116, 101, 97]⟩) := fun o => (HeapIs.al j1 (o' := o)).cell (j := 3) (v := .string ⟨#[116, 101, 97]⟩) rfl
  have j1t3 := j1.set (j := 3) (v := .string ⟨#[116, 101, 97]⟩) rfl
  have j1r4 := j1.cell (j := 4) (v := .int .i64 0) rfl
  have j1s4 := j1.frozen 4
  have j1a4 : ∀ o, (w1.alloc o).cell? ⟨p, 4, none⟩ = some (.int .i64 0) := fun o => (HeapIs.al j1 (o' := o)).cell (j := 4) (v := .int .i64 0) rfl
  have j1t4 := j1.set (j := 4) (v := .int .i64 0) rfl
  have j1r5 := j1.cell (j := 5) (v := .slice none 0 0) rfl
  have j1s5 := j1.frozen 5
  have j1a5 : ∀ o, (w1.alloc o).cell? ⟨p, 5, none⟩ = some (.slice none 0 0) := fun o => (HeapIs.al j1 (o' := o)).cell (j := 5) (v := .slice none 0 0) rfl
  have j1t5 := j1.set (j := 5) (v := .slice none 0 0) rfl
  clear hb
  go_wp2_with fail
  refine (item_tea _ (HE.out.later HB.out).max).mono ?_
  rintro e w2 ⟨rfl, hb⟩
  replace HB := Lib.hid (show Below w.heap.size w w2 by have h := hb; repeat (first | exact nbl_step HB.out h | replace h := nbl_new h | replace h := nbl_dr h))
  have j2 : HeapIs w2 (p) (.cells #[.int .i64 1, .string ⟨#[97]⟩, .string ⟨#[]⟩, .string ⟨#[116, 101, 97]⟩, .int .i64 0, .slice none 0 0] 29 (0, 0)) := j1.below hb
  have j2r0 := j2.cell (j := 0) (v := .int .i64 1) rfl
  have j2s0 := j2.frozen 0
  have j2a0 : ∀ o, (w2.alloc o).cell? ⟨p, 0, none⟩ = some (.int .i64 1) := fun o => (HeapIs.al j2 (o' := o)).cell (j := 0) (v := .int .i64 1) rfl
  have j2t0 := j2.set (j := 0) (v := .int .i64 1) rfl
  have j2r1 := j2.cell (j := 1) (v := .string ⟨#[97]⟩) rfl
  have j2s1 := j2.frozen 1
  have j2a1 : ∀ o, (w2.alloc o).cell? ⟨p, 1, none⟩ = some (.string ⟨#[97]⟩) := fun o => (HeapIs.al j2 (o' := o)).cell (j := 1) (v := .string ⟨#[97]⟩) rfl
  have j2t1 := j2.set (j := 1) (v := .string ⟨#[97]⟩) rfl
  have j2r2 := j2.cell (j := 2) (v := .string ⟨#[]⟩) rfl
  have j2s2 := j2.frozen 2
  have j2a2 : ∀ o, (w2.alloc o).cell? ⟨p, 2, none⟩ = some (.string ⟨#[]⟩) := fun o => (HeapIs.al j2 (o' := o)).cell (j := 2) (v := .string ⟨#[]⟩) rfl
  have j2t2 := j2.set (j := 2) (v := .string ⟨#[]⟩) rfl
  have j2r3 := j2.cell (j := 3) (v := .string ⟨#[116, 101, 97]⟩) rfl
  have j2s3 := j2.frozen 3
  have j2a3 : ∀ o, (w2.alloc o).cell? ⟨p, 3, none⟩ = some (.string ⟨#[116, 101, 97]⟩) := fun o => (HeapIs.al j2 (o' := o)).cell (j := 3) (v := .string ⟨#[116, 101, 97]⟩) rfl
  have j2t3 := j2.set (j := 3) (v := .string ⟨#[116, 101, 97]⟩) rfl
  have j2r4 := j2.cell (j := 4) (v := .int .i64 0) rfl
  have j2s4 := j2.frozen 4
  have j2a4 : ∀ o, (w2.alloc o).cell? ⟨p, 4, none⟩ = some (.int .i64 0) := fun o => (HeapIs.al j2 (o' := o)).cell (j := 4) (v := .int .i64 0) rfl
  have j2t4 := j2.set (j := 4) (v := .int .i64 0) rfl
  have j2r5 := j2.cell (j := 5) (v := .slice none 0 0) rfl
  have j2s5 := j2.frozen 5
  have j2a5 : ∀ o, (w2.alloc o).cell? ⟨p, 5, none⟩ = some (.slice none 0 0) := fun o => (HeapIs.al j2 (o' := o)).cell (j := 5) (v := .slice none 0 0) rfl
  have j2t5 := j2.set (j := 5) (v := .slice none 0 0) rfl
  clear hb
  go_wp2
  go_ret
  exact ⟨rfl, by repeat (first | exact HB.out | apply nbl_al | apply nbl_drw | refine Below.setCell ?_ (Nat.le_refl _) _ | refine nbl_set ?_ (by first | exact Nat.le_refl _ | (simp; omega) | (simp; done) | omega) )⟩

set_option maxRecDepth 100000 in
set_option maxHeartbeats 1000000 in
theorem first6_add0 (p : Nat) (w : World) (hp : HeapIs w p (.cells #[.int .i64 1, .string ⟨#[97]⟩, .string ⟨#[]⟩, .string ⟨#[116, 101, 97]⟩, .int .i64 0, .slice none 0 0] 29 (0, 0))) (hE : Env w) :
    Calls Tryz.prog 30 #[.pointer (some ⟨p, 0, none⟩)] w fun e w' => e = .returned (.bool true) ∧ Below w.heap.size w w' := by
  have q0 := hp.cell (j := 0) (v := .int .i64 1) rfl
  have q1 := hp.cell (j := 1) (v := .string ⟨#[97]⟩) rfl
  have q2 := hp.cell (j := 2) (v := .string ⟨#[]⟩) rfl
  have q3 := hp.cell (j := 3) (v := .string ⟨#[116, 101, 97]⟩) rfl
  have q4 := hp.cell (j := 4) (v := .int .i64 0) rfl
  have q5 := hp.cell (j := 5) (v := .slice none 0 0) rfl
  have HB := Lib.hid (Below.refl w.heap.size w)
  go_enter Tryz.func30, Tryz.ntmps30
  have HE := Lib.hid hE
  clear hE
  go_wp2_with fail
  refine (needs_1 _ _ _ _ _ _ true (by decide) _ (HE.out.later HB.out)).mono ?_
  rintro e w1 ⟨rfl, hb⟩
  replace HB := Lib.hid (show Below w.heap.size w w1 by have h := hb; repeat (first | exact nbl_step HB.out h | replace h := nbl_new h | replace h := nbl_dr h))
  have j1 : HeapIs w1 (p) (.cells #[.int .i64 1, .string ⟨#[97]⟩, .string ⟨#[]⟩, .string ⟨#[116, 101, 97]⟩, .int .i64 0, .slice none 0 0] 29 (0, 0)) := hp.below hb
  have j1r0 := j1.cell (j := 0) (v := .int .i64 1) rfl
  have j1s0 := j1.frozen 0
  have j1a0 : ∀ o, (w1.alloc o).cell? ⟨p, 0, none⟩ = some (.int .i64 1) := fun o => (HeapIs.al j1 (o' := o)).cell (j := 0) (v := .int .i64 1) rfl
  have j1t0 := j1.set (j := 0) (v := .int .i64 1) rfl
  have j1r1 := j1.cell (j := 1) (v := .string ⟨#[97]⟩) rfl
  have j1s1 := j1.frozen 1
  have j1a1 : ∀ o, (w1.alloc o).cell? ⟨p, 1, none⟩ = some (.string ⟨#[97]⟩) := fun o => (HeapIs.al j1 (o' := o)).cell (j := 1) (v := .string ⟨#[97]⟩) rfl
  have j1t1 := j1.set (j := 1) (v := .string ⟨#[97]⟩) rfl
  have j1r2 := j1.cell (j := 2) (v := .string ⟨#[]⟩) rfl
  have j1s2 := j1.frozen 2
  have j1a2 : ∀ o, (w1.alloc o).cell? ⟨p, 2, none⟩ = some (.string ⟨#[]⟩) := fun o => (HeapIs.al j1 (o' := o)).cell (j := 2) (v := .string ⟨#[]⟩) rfl
  have j1t2 := j1.set (j := 2) (v := .string ⟨#[]⟩) rfl
  have j1r3 := j1.cell (j := 3) (v := .string ⟨#[116, 101, 97]⟩) rfl
  have j1s3 := j1.frozen 3
  have j1a3 : ∀ o, (w1.alloc o).cell? ⟨p, 3, none⟩ = some (.string ⟨#[116, 101, 97]⟩) := fun o => (HeapIs.al j1 (o' := o)).cell (j := 3) (v := .string ⟨#[116, 101, 97]⟩) rfl
  have j1t3 := j1.set (j := 3) (v := .string ⟨#[116, 101, 97]⟩) rfl
  have j1r4 := j1.cell (j := 4) (v := .int .i64 0) rfl
  have j1s4 := j1.frozen 4
  have j1a4 : ∀ o, (w1.alloc o).cell? ⟨p, 4, none⟩ = some (.int .i64 0) := fun o => (HeapIs.al j1 (o' := o)).cell (j := 4) (v := .int .i64 0) rfl
  have j1t4 := j1.set (j := 4) (v := .int .i64 0) rfl
  have j1r5 := j1.cell (j := 5) (v := .slice none 0 0) rfl
  have j1s5 := j1.frozen 5
  have j1a5 : ∀ o, (w1.alloc o).cell? ⟨p, 5, none⟩ = some (.slice none 0 0) := fun o => (HeapIs.al j1 (o' := o)).cell (j := 5) (v := .slice none 0 0) rfl
  have j1t5 := j1.set (j := 5) (v := .slice none 0 0) rfl
  clear hb
  go_wp2_with fail
  refine (qty_valid 0 _).mono ?_
  rintro e w2 ⟨rfl, hb⟩
  replace HB := Lib.hid (show Below w.heap.size w w2 by have h := hb; repeat (first | exact nbl_step HB.out h | replace h := nbl_new h | replace h := nbl_dr h))
  have j2 : HeapIs w2 (p) (.cells #[.int .i64 1, .string ⟨#[97]⟩, .string ⟨#[]⟩, .string ⟨#[116, 101, 97]⟩, .int .i64 0, .slice none 0 0] 29 (0, 0)) := j1.below hb
  have j2r0 := j2.cell (j := 0) (v := .int .i64 1) rfl
  have j2s0 := j2.frozen 0
  have j2a0 : ∀ o, (w2.alloc o).cell? ⟨p, 0, none⟩ = some (.int .i64 1) := fun o => (HeapIs.al j2 (o' := o)).cell (j := 0) (v := .int .i64 1) rfl
  have j2t0 := j2.set (j := 0) (v := .int .i64 1) rfl
  have j2r1 := j2.cell (j := 1) (v := .string ⟨#[97]⟩) rfl
  have j2s1 := j2.frozen 1
  have j2a1 : ∀ o, (w2.alloc o).cell? ⟨p, 1, none⟩ = some (.string ⟨#[97]⟩) := fun o => (HeapIs.al j2 (o' := o)).cell (j := 1) (v := .string ⟨#[97]⟩) rfl
  have j2t1 := j2.set (j := 1) (v := .string ⟨#[97]⟩) rfl
  have j2r2 := j2.cell (j := 2) (v := .string ⟨#[]⟩) rfl
  have j2s2 := j2.frozen 2
  have j2a2 : ∀ o, (w2.alloc o).cell? ⟨p, 2, none⟩ = some (.string ⟨#[]⟩) := fun o => (HeapIs.al j2 (o' := o)).cell (j := 2) (v := .string ⟨#[]⟩) rfl
  have j2t2 := j2.set (j := 2) (v := .string ⟨#[]⟩) rfl
  have j2r3 := j2.cell (j := 3) (v := .string ⟨#[116, 101, 97]⟩) rfl
  have j2s3 := j2.frozen 3
  have j2a3 : ∀ o, (w2.alloc o).cell? ⟨p, 3, none⟩ = some (.string ⟨#[116, 101, 97]⟩) := fun o => (HeapIs.al j2 (o' := o)).cell (j := 3) (v := .string ⟨#[116, 101, 97]⟩) rfl
  have j2t3 := j2.set (j := 3) (v := .string ⟨#[116, 101, 97]⟩) rfl
  have j2r4 := j2.cell (j := 4) (v := .int .i64 0) rfl
  have j2s4 := j2.frozen 4
  have j2a4 : ∀ o, (w2.alloc o).cell? ⟨p, 4, none⟩ = some (.int .i64 0) := fun o => (HeapIs.al j2 (o' := o)).cell (j := 4) (v := .int .i64 0) rfl
  have j2t4 := j2.set (j := 4) (v := .int .i64 0) rfl
  have j2r5 := j2.cell (j := 5) (v := .slice none 0 0) rfl
  have j2s5 := j2.frozen 5
  have j2a5 : ∀ o, (w2.alloc o).cell? ⟨p, 5, none⟩ = some (.slice none 0 0) := fun o => (HeapIs.al j2 (o' := o)).cell (j := 5) (v := .slice none 0 0) rfl
  have j2t5 := j2.set (j := 5) (v := .slice none 0 0) rfl
  clear hb
  go_wp2
  go_ret
  exact ⟨rfl, by repeat (first | exact HB.out | apply nbl_al | apply nbl_drw | refine Below.setCell ?_ (Nat.le_refl _) _ | refine nbl_set ?_ (by first | exact Nat.le_refl _ | (simp; omega) | (simp; done) | omega) )⟩

set_option maxRecDepth 100000 in
set_option maxHeartbeats 1000000 in
theorem first1_getA (p : Nat) (w : World) (hp : HeapIs w p (.cells #[.int .i64 4, .string ⟨#[65]⟩, .string ⟨#[]⟩, .string ⟨#[]⟩, .int .i64 0, .slice none 0 0] 29 (0, 0))) (hE : Env w) :
    Calls Tryz.prog 21 #[.pointer (some ⟨p, 0, none⟩)] w fun e w' => e = .returned (.bool false) ∧ Below w.heap.size w w' := by
  have q0 := hp.cell (j := 0) (v := .int .i64 4) rfl
  have q1 := hp.cell (j := 1) (v := .string ⟨#[65]⟩) rfl
  have q2 := hp.cell (j := 2) (v := .string ⟨#[]⟩) rfl
  have q3 := hp.cell (j := 3) (v := .string ⟨#[]⟩) rfl
  have q4 := hp.cell (j := 4) (v := .int .i64 0) rfl
  have q5 := hp.cell (j := 5) (v := .slice none 0 0) rfl
  have HB := Lib.hid (Below.refl w.heap.size w)
  go_enter Tryz.func21, Tryz.ntmps21
  have HE := Lib.hid hE
  clear hE
  go_wp2_with fail
  refine (formed_getA _ (HE.out.later HB.out)).mono ?_
  rintro e w1 ⟨rfl, hb⟩
  replace HB := Lib.hid (show Below w.heap.size w w1 by have h := hb; repeat (first | exact nbl_step HB.out h | replace h := nbl_new h | replace h := nbl_dr h))
  have j1 : HeapIs w1 (p) (.cells #[.int .i64 4, .string ⟨#[65]⟩, .string ⟨#[]⟩, .string ⟨#[]⟩, .int .i64 0, .slice none 0 0] 29 (0, 0)) := hp.below hb
  have j1r0 := j1.cell (j := 0) (v := .int .i64 4) rfl
  have j1s0 := j1.frozen 0
  have j1a0 : ∀ o, (w1.alloc o).cell? ⟨p, 0, none⟩ = some (.int .i64 4) := fun o => (HeapIs.al j1 (o' := o)).cell (j := 0) (v := .int .i64 4) rfl
  have j1t0 := j1.set (j := 0) (v := .int .i64 4) rfl
  have j1r1 := j1.cell (j := 1) (v := .string ⟨#[65]⟩) rfl
  have j1s1 := j1.frozen 1
  have j1a1 : ∀ o, (w1.alloc o).cell? ⟨p, 1, none⟩ = some (.string ⟨#[65]⟩) := fun o => (HeapIs.al j1 (o' := o)).cell (j := 1) (v := .string ⟨#[65]⟩) rfl
  have j1t1 := j1.set (j := 1) (v := .string ⟨#[65]⟩) rfl
  have j1r2 := j1.cell (j := 2) (v := .string ⟨#[]⟩) rfl
  have j1s2 := j1.frozen 2
  have j1a2 : ∀ o, (w1.alloc o).cell? ⟨p, 2, none⟩ = some (.string ⟨#[]⟩) := fun o => (HeapIs.al j1 (o' := o)).cell (j := 2) (v := .string ⟨#[]⟩) rfl
  have j1t2 := j1.set (j := 2) (v := .string ⟨#[]⟩) rfl
  have j1r3 := j1.cell (j := 3) (v := .string ⟨#[]⟩) rfl
  have j1s3 := j1.frozen 3
  have j1a3 : ∀ o, (w1.alloc o).cell? ⟨p, 3, none⟩ = some (.string ⟨#[]⟩) := fun o => (HeapIs.al j1 (o' := o)).cell (j := 3) (v := .string ⟨#[]⟩) rfl
  have j1t3 := j1.set (j := 3) (v := .string ⟨#[]⟩) rfl
  have j1r4 := j1.cell (j := 4) (v := .int .i64 0) rfl
  have j1s4 := j1.frozen 4
  have j1a4 : ∀ o, (w1.alloc o).cell? ⟨p, 4, none⟩ = some (.int .i64 0) := fun o => (HeapIs.al j1 (o' := o)).cell (j := 4) (v := .int .i64 0) rfl
  have j1t4 := j1.set (j := 4) (v := .int .i64 0) rfl
  have j1r5 := j1.cell (j := 5) (v := .slice none 0 0) rfl
  have j1s5 := j1.frozen 5
  have j1a5 : ∀ o, (w1.alloc o).cell? ⟨p, 5, none⟩ = some (.slice none 0 0) := fun o => (HeapIs.al j1 (o' := o)).cell (j := 5) (v := .slice none 0 0) rfl
  have j1t5 := j1.set (j := 5) (v := .slice none 0 0) rfl
  clear hb
  go_wp2
  go_ret
  exact ⟨rfl, by repeat (first | exact HB.out | apply nbl_al | apply nbl_drw | refine Below.setCell ?_ (Nat.le_refl _) _ | refine nbl_set ?_ (by first | exact Nat.le_refl _ | (simp; omega) | (simp; done) | omega) )⟩

set_option maxRecDepth 100000 in
set_option maxHeartbeats 1000000 in
theorem first3_getA (p : Nat) (w : World) (hp : HeapIs w p (.cells #[.int .i64 4, .string ⟨#[65]⟩, .string ⟨#[]⟩, .string ⟨#[]⟩, .int .i64 0, .slice none 0 0] 29 (0, 0))) (hE : Env w) :
    Calls Tryz.prog 24 #[.pointer (some ⟨p, 0, none⟩)] w fun e w' => e = .returned (.bool true) ∧ Below w.heap.size w w' := by
  have q0 := hp.cell (j := 0) (v := .int .i64 4) rfl
  have q1 := hp.cell (j := 1) (v := .string ⟨#[65]⟩) rfl
  have q2 := hp.cell (j := 2) (v := .string ⟨#[]⟩) rfl
  have q3 := hp.cell (j := 3) (v := .string ⟨#[]⟩) rfl
  have q4 := hp.cell (j := 4) (v := .int .i64 0) rfl
  have q5 := hp.cell (j := 5) (v := .slice none 0 0) rfl
  have HB := Lib.hid (Below.refl w.heap.size w)
  go_enter Tryz.func24, Tryz.ntmps24
  have HE := Lib.hid hE
  clear hE
  go_wp2_with fail
  refine (needs_4 _ _ _ _ _ _ true (by decide) _ (HE.out.later HB.out)).mono ?_
  rintro e w1 ⟨rfl, hb⟩
  replace HB := Lib.hid (show Below w.heap.size w w1 by have h := hb; repeat (first | exact nbl_step HB.out h | replace h := nbl_new h | replace h := nbl_dr h))
  have j1 : HeapIs w1 (p) (.cells #[.int .i64 4, .string ⟨#[65]⟩, .string ⟨#[]⟩, .string ⟨#[]⟩, .int .i64 0, .slice none 0 0] 29 (0, 0)) := hp.below hb
  have j1r0 := j1.cell (j := 0) (v := .int .i64 4) rfl
  have j1s0 := j1.frozen 0
  have j1a0 : ∀ o, (w1.alloc o).cell? ⟨p, 0, none⟩ = some (.int .i64 4) := fun o => (HeapIs.al j1 (o' := o)).cell (j := 0) (v := .int .i64 4) rfl
  have j1t0 := j1.set (j := 0) (v := .int .i64 4) rfl
  have j1r1 := j1.cell (j := 1) (v := .string ⟨#[65]⟩) rfl
  have j1s1 := j1.frozen 1
  have j1a1 : ∀ o, (w1.alloc o).cell? ⟨p, 1, none⟩ = some (.string ⟨#[65]⟩) := fun o => (HeapIs.al j1 (o' := o)).cell (j := 1) (v := .string ⟨#[65]⟩) rfl
  have j1t1 := j1.set (j := 1) (v := .string ⟨#[65]⟩) rfl
  have j1r2 := j1.cell (j := 2) (v := .string ⟨#[]⟩) rfl
  have j1s2 := j1.frozen 2
  have j1a2 : ∀ o, (w1.alloc o).cell? ⟨p, 2, none⟩ = some (.string ⟨#[]⟩) := fun o => (HeapIs.al j1 (o' := o)).cell (j := 2) (v := .string ⟨#[]⟩) rfl
  have j1t2 := j1.set (j := 2) (v := .string ⟨#[]⟩) rfl
  have j1r3 := j1.cell (j := 3) (v := .string ⟨#[]⟩) rfl
  have j1s3 := j1.frozen 3
  have j1a3 : ∀ o, (w1.alloc o).cell? ⟨p, 3, none⟩ = some (.string ⟨#[]⟩) := fun o => (HeapIs.al j1 (o' := o)).cell (j := 3) (v := .string ⟨#[]⟩) rfl
  have j1t3 := j1.set (j := 3) (v := .string ⟨#[]⟩) rfl
  have j1r4 := j1.cell (j := 4) (v := .int .i64 0) rfl
  have j1s4 := j1.frozen 4
  have j1a4 : ∀ o, (w1.alloc o).cell? ⟨p, 4, none⟩ = some (.int .i64 0) := fun o => (HeapIs.al j1 (o' := o)).cell (j := 4) (v := .int .i64 0) rfl
  have j1t4 := j1.set (j := 4) (v := .int .i64 0) rfl
  have j1r5 := j1.cell (j := 5) (v := .slice none 0 0) rfl
  have j1s5 := j1.frozen 5
  have j1a5 : ∀ o, (w1.alloc o).cell? ⟨p, 5, none⟩ = some (.slice none 0 0) := fun o => (HeapIs.al j1 (o' := o)).cell (j := 5) (v := .slice none 0 0) rfl
  have j1t5 := j1.set (j := 5) (v := .slice none 0 0) rfl
  clear hb
  go_wp2_with fail
  refine (key_A _).mono ?_
  rintro e w2 ⟨rfl, hb⟩
  replace HB := Lib.hid (show Below w.heap.size w w2 by have h := hb; repeat (first | exact nbl_step HB.out h | replace h := nbl_new h | replace h := nbl_dr h))
  have j2 : HeapIs w2 (p) (.cells #[.int .i64 4, .string ⟨#[65]⟩, .string ⟨#[]⟩, .string ⟨#[]⟩, .int .i64 0, .slice none 0 0] 29 (0, 0)) := j1.below hb
  have j2r0 := j2.cell (j := 0) (v := .int .i64 4) rfl
  have j2s0 := j2.frozen 0
  have j2a0 : ∀ o, (w2.alloc o).cell? ⟨p, 0, none⟩ = some (.int .i64 4) := fun o => (HeapIs.al j2 (o' := o)).cell (j := 0) (v := .int .i64 4) rfl
  have j2t0 := j2.set (j := 0) (v := .int .i64 4) rfl
  have j2r1 := j2.cell (j := 1) (v := .string ⟨#[65]⟩) rfl
  have j2s1 := j2.frozen 1
  have j2a1 : ∀ o, (w2.alloc o).cell? ⟨p, 1, none⟩ = some (.string ⟨#[65]⟩) := fun o => (HeapIs.al j2 (o' := o)).cell (j := 1) (v := .string ⟨#[65]⟩) rfl
  have j2t1 := j2.set (j := 1) (v := .string ⟨#[65]⟩) rfl
  have j2r2 := j2.cell (j := 2) (v := .string ⟨#[]⟩) rfl
  have j2s2 := j2.frozen 2
  have j2a2 : ∀ o, (w2.alloc o).cell? ⟨p, 2, none⟩ = some (.string ⟨#[]⟩) := fun o => (HeapIs.al j2 (o' := o)).cell (j := 2) (v := .string ⟨#[]⟩) rfl
  have j2t2 := j2.set (j := 2) (v := .string ⟨#[]⟩) rfl
  have j2r3 := j2.cell (j := 3) (v := .string ⟨#[]⟩) rfl
  have j2s3 := j2.frozen 3
  have j2a3 : ∀ o, (w2.alloc o).cell? ⟨p, 3, none⟩ = some (.string ⟨#[]⟩) := fun o => (HeapIs.al j2 (o' := o)).cell (j := 3) (v := .string ⟨#[]⟩) rfl
  have j2t3 := j2.set (j := 3) (v := .string ⟨#[]⟩) rfl
  have j2r4 := j2.cell (j := 4) (v := .int .i64 0) rfl
  have j2s4 := j2.frozen 4
  have j2a4 : ∀ o, (w2.alloc o).cell? ⟨p, 4, none⟩ = some (.int .i64 0) := fun o => (HeapIs.al j2 (o' := o)).cell (j := 4) (v := .int .i64 0) rfl
  have j2t4 := j2.set (j := 4) (v := .int .i64 0) rfl
  have j2r5 := j2.cell (j := 5) (v := .slice none 0 0) rfl
  have j2s5 := j2.frozen 5
  have j2a5 : ∀ o, (w2.alloc o).cell? ⟨p, 5, none⟩ = some (.slice none 0 0) := fun o => (HeapIs.al j2 (o' := o)).cell (j := 5) (v := .slice none 0 0) rfl
  have j2t5 := j2.set (j := 5) (v := .slice none 0 0) rfl
  clear hb
  go_wp2
  go_ret
  exact ⟨rfl, by repeat (first | exact HB.out | apply nbl_al | apply nbl_drw | refine Below.setCell ?_ (Nat.le_refl _) _ | refine nbl_set ?_ (by first | exact Nat.le_refl _ | (simp; omega) | (simp; done) | omega) )⟩

set_option maxRecDepth 100000 in
set_option maxHeartbeats 1000000 in
theorem first1_deliver (p : Nat) (w : World) (hp : HeapIs w p (.cells #[.int .i64 8, .string ⟨#[]⟩, .string ⟨#[]⟩, .string ⟨#[]⟩, .int .i64 0, .slice none 0 0] 29 (0, 0))) (hE : Env w) :
    Calls Tryz.prog 21 #[.pointer (some ⟨p, 0, none⟩)] w fun e w' => e = .returned (.bool false) ∧ Below w.heap.size w w' := by
  have q0 := hp.cell (j := 0) (v := .int .i64 8) rfl
  have q1 := hp.cell (j := 1) (v := .string ⟨#[]⟩) rfl
  have q2 := hp.cell (j := 2) (v := .string ⟨#[]⟩) rfl
  have q3 := hp.cell (j := 3) (v := .string ⟨#[]⟩) rfl
  have q4 := hp.cell (j := 4) (v := .int .i64 0) rfl
  have q5 := hp.cell (j := 5) (v := .slice none 0 0) rfl
  have HB := Lib.hid (Below.refl w.heap.size w)
  go_enter Tryz.func21, Tryz.ntmps21
  have HE := Lib.hid hE
  clear hE
  go_wp2_with fail
  refine (formed_deliver _ (HE.out.later HB.out)).mono ?_
  rintro e w1 ⟨rfl, hb⟩
  replace HB := Lib.hid (show Below w.heap.size w w1 by have h := hb; repeat (first | exact nbl_step HB.out h | replace h := nbl_new h | replace h := nbl_dr h))
  have j1 : HeapIs w1 (p) (.cells #[.int .i64 8, .string ⟨#[]⟩, .string ⟨#[]⟩, .string ⟨#[]⟩, .int .i64 0, .slice none 0 0] 29 (0, 0)) := hp.below hb
  have j1r0 := j1.cell (j := 0) (v := .int .i64 8) rfl
  have j1s0 := j1.frozen 0
  have j1a0 : ∀ o, (w1.alloc o).cell? ⟨p, 0, none⟩ = some (.int .i64 8) := fun o => (HeapIs.al j1 (o' := o)).cell (j := 0) (v := .int .i64 8) rfl
  have j1t0 := j1.set (j := 0) (v := .int .i64 8) rfl
  have j1r1 := j1.cell (j := 1) (v := .string ⟨#[]⟩) rfl
  have j1s1 := j1.frozen 1
  have j1a1 : ∀ o, (w1.alloc o).cell? ⟨p, 1, none⟩ = some (.string ⟨#[]⟩) := fun o => (HeapIs.al j1 (o' := o)).cell (j := 1) (v := .string ⟨#[]⟩) rfl
  have j1t1 := j1.set (j := 1) (v := .string ⟨#[]⟩) rfl
  have j1r2 := j1.cell (j := 2) (v := .string ⟨#[]⟩) rfl
  have j1s2 := j1.frozen 2
  have j1a2 : ∀ o, (w1.alloc o).cell? ⟨p, 2, none⟩ = some (.string ⟨#[]⟩) := fun o => (HeapIs.al j1 (o' := o)).cell (j := 2) (v := .string ⟨#[]⟩) rfl
  have j1t2 := j1.set (j := 2) (v := .string ⟨#[]⟩) rfl
  have j1r3 := j1.cell (j := 3) (v := .string ⟨#[]⟩) rfl
  have j1s3 := j1.frozen 3
  have j1a3 : ∀ o, (w1.alloc o).cell? ⟨p, 3, none⟩ = some (.string ⟨#[]⟩) := fun o => (HeapIs.al j1 (o' := o)).cell (j := 3) (v := .string ⟨#[]⟩) rfl
  have j1t3 := j1.set (j := 3) (v := .string ⟨#[]⟩) rfl
  have j1r4 := j1.cell (j := 4) (v := .int .i64 0) rfl
  have j1s4 := j1.frozen 4
  have j1a4 : ∀ o, (w1.alloc o).cell? ⟨p, 4, none⟩ = some (.int .i64 0) := fun o => (HeapIs.al j1 (o' := o)).cell (j := 4) (v := .int .i64 0) rfl
  have j1t4 := j1.set (j := 4) (v := .int .i64 0) rfl
  have j1r5 := j1.cell (j := 5) (v := .slice none 0 0) rfl
  have j1s5 := j1.frozen 5
  have j1a5 : ∀ o, (w1.alloc o).cell? ⟨p, 5, none⟩ = some (.slice none 0 0) := fun o => (HeapIs.al j1 (o' := o)).cell (j := 5) (v := .slice none 0 0) rfl
  have j1t5 := j1.set (j := 5) (v := .slice none 0 0) rfl
  clear hb
  go_wp2
  go_ret
  exact ⟨rfl, by repeat (first | exact HB.out | apply nbl_al | apply nbl_drw | refine Below.setCell ?_ (Nat.le_refl _) _ | refine nbl_set ?_ (by first | exact Nat.le_refl _ | (simp; omega) | (simp; done) | omega) )⟩

set_option maxRecDepth 100000 in
set_option maxHeartbeats 1000000 in
theorem first3_deliver (p : Nat) (w : World) (hp : HeapIs w p (.cells #[.int .i64 8, .string ⟨#[]⟩, .string ⟨#[]⟩, .string ⟨#[]⟩, .int .i64 0, .slice none 0 0] 29 (0, 0))) (hE : Env w) :
    Calls Tryz.prog 24 #[.pointer (some ⟨p, 0, none⟩)] w fun e w' => e = .returned (.bool false) ∧ Below w.heap.size w w' := by
  have q0 := hp.cell (j := 0) (v := .int .i64 8) rfl
  have q1 := hp.cell (j := 1) (v := .string ⟨#[]⟩) rfl
  have q2 := hp.cell (j := 2) (v := .string ⟨#[]⟩) rfl
  have q3 := hp.cell (j := 3) (v := .string ⟨#[]⟩) rfl
  have q4 := hp.cell (j := 4) (v := .int .i64 0) rfl
  have q5 := hp.cell (j := 5) (v := .slice none 0 0) rfl
  have HB := Lib.hid (Below.refl w.heap.size w)
  go_enter Tryz.func24, Tryz.ntmps24
  have HE := Lib.hid hE
  clear hE
  go_wp2_with fail
  refine (needs_8 _ _ _ _ _ _ false (by decide) _ (HE.out.later HB.out)).mono ?_
  rintro e w1 ⟨rfl, hb⟩
  replace HB := Lib.hid (show Below w.heap.size w w1 by have h := hb; repeat (first | exact nbl_step HB.out h | replace h := nbl_new h | replace h := nbl_dr h))
  have j1 : HeapIs w1 (p) (.cells #[.int .i64 8, .string ⟨#[]⟩, .string ⟨#[]⟩, .string ⟨#[]⟩, .int .i64 0, .slice none 0 0] 29 (0, 0)) := hp.below hb
  have j1r0 := j1.cell (j := 0) (v := .int .i64 8) rfl
  have j1s0 := j1.frozen 0
  have j1a0 : ∀ o, (w1.alloc o).cell? ⟨p, 0, none⟩ = some (.int .i64 8) := fun o => (HeapIs.al j1 (o' := o)).cell (j := 0) (v := .int .i64 8) rfl
  have j1t0 := j1.set (j := 0) (v := .int .i64 8) rfl
  have j1r1 := j1.cell (j := 1) (v := .string ⟨#[]⟩) rfl
  have j1s1 := j1.frozen 1
  have j1a1 : ∀ o, (w1.alloc o).cell? ⟨p, 1, none⟩ = some (.string ⟨#[]⟩) := fun o => (HeapIs.al j1 (o' := o)).cell (j := 1) (v := .string ⟨#[]⟩) rfl
  have j1t1 := j1.set (j := 1) (v := .string ⟨#[]⟩) rfl
  have j1r2 := j1.cell (j := 2) (v := .string ⟨#[]⟩) rfl
  have j1s2 := j1.frozen 2
  have j1a2 : ∀ o, (w1.alloc o).cell? ⟨p, 2, none⟩ = some (.string ⟨#[]⟩) := fun o => (HeapIs.al j1 (o' := o)).cell (j := 2) (v := .string ⟨#[]⟩) rfl
  have j1t2 := j1.set (j := 2) (v := .string ⟨#[]⟩) rfl
  have j1r3 := j1.cell (j := 3) (v := .string ⟨#[]⟩) rfl
  have j1s3 := j1.frozen 3
  have j1a3 : ∀ o, (w1.alloc o).cell? ⟨p, 3, none⟩ = some (.string ⟨#[]⟩) := fun o => (HeapIs.al j1 (o' := o)).cell (j := 3) (v := .string ⟨#[]⟩) rfl
  have j1t3 := j1.set (j := 3) (v := .string ⟨#[]⟩) rfl
  have j1r4 := j1.cell (j := 4) (v := .int .i64 0) rfl
  have j1s4 := j1.frozen 4
  have j1a4 : ∀ o, (w1.alloc o).cell? ⟨p, 4, none⟩ = some (.int .i64 0) := fun o => (HeapIs.al j1 (o' := o)).cell (j := 4) (v := .int .i64 0) rfl
  have j1t4 := j1.set (j := 4) (v := .int .i64 0) rfl
  have j1r5 := j1.cell (j := 5) (v := .slice none 0 0) rfl
  have j1s5 := j1.frozen 5
  have j1a5 : ∀ o, (w1.alloc o).cell? ⟨p, 5, none⟩ = some (.slice none 0 0) := fun o => (HeapIs.al j1 (o' := o)).cell (j := 5) (v := .slice none 0 0) rfl
  have j1t5 := j1.set (j := 5) (v := .slice none 0 0) rfl
  clear hb
  go_wp2
  go_ret
  exact ⟨rfl, by repeat (first | exact HB.out | apply nbl_al | apply nbl_drw | refine Below.setCell ?_ (Nat.le_refl _) _ | refine nbl_set ?_ (by first | exact Nat.le_refl _ | (simp; omega) | (simp; done) | omega) )⟩

set_option maxRecDepth 100000 in
set_option maxHeartbeats 1000000 in
theorem first4_deliver (p : Nat) (w : World) (hp : HeapIs w p (.cells #[.int .i64 8, .string ⟨#[]⟩, .string ⟨#[]⟩, .string ⟨#[]⟩, .int .i64 0, .slice none 0 0] 29 (0, 0))) (hE : Env w) :
    Calls Tryz.prog 27 #[.pointer (some ⟨p, 0, none⟩)] w fun e w' => e = .returned (.bool false) ∧ Below w.heap.size w w' := by
  have q0 := hp.cell (j := 0) (v := .int .i64 8) rfl
  have q1 := hp.cell (j := 1) (v := .string ⟨#[]⟩) rfl
  have q2 := hp.cell (j := 2) (v := .string ⟨#[]⟩) rfl
  have q3 := hp.cell (j := 3) (v := .string ⟨#[]⟩) rfl
  have q4 := hp.cell (j := 4) (v := .int .i64 0) rfl
  have q5 := hp.cell (j := 5) (v := .slice none 0 0) rfl
  have HB := Lib.hid (Below.refl w.heap.size w)
  go_enter Tryz.func27, Tryz.ntmps27
  have HE := Lib.hid hE
  clear hE
  go_wp2_with fail
  refine (needs_8 _ _ _ _ _ _ false (by decide) _ (HE.out.later HB.out)).mono ?_
  rintro e w1 ⟨rfl, hb⟩
  replace HB := Lib.hid (show Below w.heap.size w w1 by have h := hb; repeat (first | exact nbl_step HB.out h | replace h := nbl_new h | replace h := nbl_dr h))
  have j1 : HeapIs w1 (p) (.cells #[.int .i64 8, .string ⟨#[]⟩, .string ⟨#[]⟩, .string ⟨#[]⟩, .int .i64 0, .slice none 0 0] 29 (0, 0)) := hp.below hb
  have j1r0 := j1.cell (j := 0) (v := .int .i64 8) rfl
  have j1s0 := j1.frozen 0
  have j1a0 : ∀ o, (w1.alloc o).cell? ⟨p, 0, none⟩ = some (.int .i64 8) := fun o => (HeapIs.al j1 (o' := o)).cell (j := 0) (v := .int .i64 8) rfl
  have j1t0 := j1.set (j := 0) (v := .int .i64 8) rfl
  have j1r1 := j1.cell (j := 1) (v := .string ⟨#[]⟩) rfl
  have j1s1 := j1.frozen 1
  have j1a1 : ∀ o, (w1.alloc o).cell? ⟨p, 1, none⟩ = some (.string ⟨#[]⟩) := fun o => (HeapIs.al j1 (o' := o)).cell (j := 1) (v := .string ⟨#[]⟩) rfl
  have j1t1 := j1.set (j := 1) (v := .string ⟨#[]⟩) rfl
  have j1r2 := j1.cell (j := 2) (v := .string ⟨#[]⟩) rfl
  have j1s2 := j1.frozen 2
  have j1a2 : ∀ o, (w1.alloc o).cell? ⟨p, 2, none⟩ = some (.string ⟨#[]⟩) := fun o => (HeapIs.al j1 (o' := o)).cell (j := 2) (v := .string ⟨#[]⟩) rfl
  have j1t2 := j1.set (j := 2) (v := .string ⟨#[]⟩) rfl
  have j1r3 := j1.cell (j := 3) (v := .string ⟨#[]⟩) rfl
  have j1s3 := j1.frozen 3
  have j1a3 : ∀ o, (w1.alloc o).cell? ⟨p, 3, none⟩ = some (.string ⟨#[]⟩) := fun o => (HeapIs.al j1 (o' := o)).cell (j := 3) (v := .string ⟨#[]⟩) rfl
  have j1t3 := j1.set (j := 3) (v := .string ⟨#[]⟩) rfl
  have j1r4 := j1.cell (j := 4) (v := .int .i64 0) rfl
  have j1s4 := j1.frozen 4
  have j1a4 : ∀ o, (w1.alloc o).cell? ⟨p, 4, none⟩ = some (.int .i64 0) := fun o => (HeapIs.al j1 (o' := o)).cell (j := 4) (v := .int .i64 0) rfl
  have j1t4 := j1.set (j := 4) (v := .int .i64 0) rfl
  have j1r5 := j1.cell (j := 5) (v := .slice none 0 0) rfl
  have j1s5 := j1.frozen 5
  have j1a5 : ∀ o, (w1.alloc o).cell? ⟨p, 5, none⟩ = some (.slice none 0 0) := fun o => (HeapIs.al j1 (o' := o)).cell (j := 5) (v := .slice none 0 0) rfl
  have j1t5 := j1.set (j := 5) (v := .slice none 0 0) rfl
  clear hb
  go_wp2
  go_ret
  exact ⟨rfl, by repeat (first | exact HB.out | apply nbl_al | apply nbl_drw | refine Below.setCell ?_ (Nat.le_refl _) _ | refine nbl_set ?_ (by first | exact Nat.le_refl _ | (simp; omega) | (simp; done) | omega) )⟩

set_option maxRecDepth 100000 in
set_option maxHeartbeats 1000000 in
theorem first5_deliver (p : Nat) (w : World) (hp : HeapIs w p (.cells #[.int .i64 8, .string ⟨#[]⟩, .string ⟨#[]⟩, .string ⟨#[]⟩, .int .i64 0, .slice none 0 0] 29 (0, 0))) (hE : Env w) :
    Calls Tryz.prog 28 #[.pointer (some ⟨p, 0, none⟩)] w fun e w' => e = .returned (.bool false) ∧ Below w.heap.size w w' := by
  have q0 := hp.cell (j := 0) (v := .int .i64 8) rfl
  have q1 := hp.cell (j := 1) (v := .string ⟨#[]⟩) rfl
  have q2 := hp.cell (j := 2) (v := .string ⟨#[]⟩) rfl
  have q3 := hp.cell (j := 3) (v := .string ⟨#[]⟩) rfl
  have q4 := hp.cell (j := 4) (v := .int .i64 0) rfl
  have q5 := hp.cell (j := 5) (v := .slice none 0 0) rfl
  have HB := Lib.hid (Below.refl w.heap.size w)
  go_enter Tryz.func28, Tryz.ntmps28
  have HE := Lib.hid hE
  clear hE
  go_wp2_with fail
  refine (needs_8 _ _ _ _ _ _ false (by decide) _ (HE.out.later HB.out)).mono ?_
  rintro e w1 ⟨rfl, hb⟩
  replace HB := Lib.hid (show Below w.heap.size w w1 by have h := hb; repeat (first | exact nbl_step HB.out h | replace h := nbl_new h | replace h := nbl_dr h))
  have j1 : HeapIs w1 (p) (.cells #[.int .i64 8, .string ⟨#[]⟩, .string ⟨#[]⟩, .string ⟨#[]⟩, .int .i64 0, .slice none 0 0] 29 (0, 0)) := hp.below hb
  have j1r0 := j1.cell (j := 0) (v := .int .i64 8) rfl
  have j1s0 := j1.frozen 0
  have j1a0 : ∀ o, (w1.alloc o).cell? ⟨p, 0, none⟩ = some (.int .i64 8) := fun o => (HeapIs.al j1 (o' := o)).cell (j := 0) (v := .int .i64 8) rfl
  have j1t0 := j1.set (j := 0) (v := .int .i64 8) rfl
  have j1r1 := j1.cell (j := 1) (v := .string ⟨#[]⟩) rfl
  have j1s1 := j1.frozen 1
  have j1a1 : ∀ o, (w1.alloc o).cell? ⟨p, 1, none⟩ = some (.string ⟨#[]⟩) := fun o => (HeapIs.al j1 (o' := o)).cell (j := 1) (v := .string ⟨#[]⟩) rfl
  have j1t1 := j1.set (j := 1) (v := .string ⟨#[]⟩) rfl
  have j1r2 := j1.cell (j := 2) (v := .string ⟨#[]⟩) rfl
  have j1s2 := j1.frozen 2
  have j1a2 : ∀ o, (w1.alloc o).cell? ⟨p, 2, none⟩ = some (.string ⟨#[]⟩) := fun o => (HeapIs.al j1 (o' := o)).cell (j := 2) (v := .string ⟨#[]⟩) rfl
  have j1t2 := j1.set (j := 2) (v := .string ⟨#[]⟩) rfl
  have j1r3 := j1.cell (j := 3) (v := .string ⟨#[]⟩) rfl
  have j1s3 := j1.frozen 3
  have j1a3 : ∀ o, (w1.alloc o).cell? ⟨p, 3, none⟩ = some (.string ⟨#[]⟩) := fun o => (HeapIs.al j1 (o' := o)).cell (j := 3) (v := .string ⟨#[]⟩) rfl
  have j1t3 := j1.set (j := 3) (v := .string ⟨#[]⟩) rfl
  have j1r4 := j1.cell (j := 4) (v := .int .i64 0) rfl
  have j1s4 := j1.frozen 4
  have j1a4 : ∀ o, (w1.alloc o).cell? ⟨p, 4, none⟩ = some (.int .i64 0) := fun o => (HeapIs.al j1 (o' := o)).cell (j := 4) (v := .int .i64 0) rfl
  have j1t4 := j1.set (j := 4) (v := .int .i64 0) rfl
  have j1r5 := j1.cell (j := 5) (v := .slice none 0 0) rfl
  have j1s5 := j1.frozen 5
  have j1a5 : ∀ o, (w1.alloc o).cell? ⟨p, 5, none⟩ = some (.slice none 0 0) := fun o => (HeapIs.al j1 (o' := o)).cell (j := 5) (v := .slice none 0 0) rfl
  have j1t5 := j1.set (j := 5) (v := .slice none 0 0) rfl
  clear hb
  go_wp2
  go_ret
  exact ⟨rfl, by repeat (first | exact HB.out | apply nbl_al | apply nbl_drw | refine Below.setCell ?_ (Nat.le_refl _) _ | refine nbl_set ?_ (by first | exact Nat.le_refl _ | (simp; omega) | (simp; done) | omega) )⟩

set_option maxRecDepth 100000 in
set_option maxHeartbeats 1000000 in
theorem first6_deliver (p : Nat) (w : World) (hp : HeapIs w p (.cells #[.int .i64 8, .string ⟨#[]⟩, .string ⟨#[]⟩, .string ⟨#[]⟩, .int .i64 0, .slice none 0 0] 29 (0, 0))) (hE : Env w) :
    Calls Tryz.prog 30 #[.pointer (some ⟨p, 0, none⟩)] w fun e w' => e = .returned (.bool false) ∧ Below w.heap.size w w' := by
  have q0 := hp.cell (j := 0) (v := .int .i64 8) rfl
  have q1 := hp.cell (j := 1) (v := .string ⟨#[]⟩) rfl
  have q2 := hp.cell (j := 2) (v := .string ⟨#[]⟩) rfl
  have q3 := hp.cell (j := 3) (v := .string ⟨#[]⟩) rfl
  have q4 := hp.cell (j := 4) (v := .int .i64 0) rfl
  have q5 := hp.cell (j := 5) (v := .slice none 0 0) rfl
  have HB := Lib.hid (Below.refl w.heap.size w)
  go_enter Tryz.func30, Tryz.ntmps30
  have HE := Lib.hid hE
  clear hE
  go_wp2_with fail
  refine (needs_8 _ _ _ _ _ _ false (by decide) _ (HE.out.later HB.out)).mono ?_
  rintro e w1 ⟨rfl, hb⟩
  replace HB := Lib.hid (show Below w.heap.size w w1 by have h := hb; repeat (first | exact nbl_step HB.out h | replace h := nbl_new h | replace h := nbl_dr h))
  have j1 : HeapIs w1 (p) (.cells #[.int .i64 8, .string ⟨#[]⟩, .string ⟨#[]⟩, .string ⟨#[]⟩, .int .i64 0, .slice none 0 0] 29 (0, 0)) := hp.below hb
  have j1r0 := j1.cell (j := 0) (v := .int .i64 8) rfl
  have j1s0 := j1.frozen 0
  have j1a0 : ∀ o, (w1.alloc o).cell? ⟨p, 0, none⟩ = some (.int .i64 8) := fun o => (HeapIs.al j1 (o' := o)).cell (j := 0) (v := .int .i64 8) rfl
  have j1t0 := j1.set (j := 0) (v := .int .i64 8) rfl
  have j1r1 := j1.cell (j := 1) (v := .string ⟨#[]⟩) rfl
  have j1s1 := j1.frozen 1
  have j1a1 : ∀ o, (w1.alloc o).cell? ⟨p, 1, none⟩ = some (.string ⟨#[]⟩) := fun o => (HeapIs.al j1 (o' := o)).cell (j := 1) (v := .string ⟨#[]⟩) rfl
  have j1t1 := j1.set (j := 1) (v := .string ⟨#[]⟩) rfl
  have j1r2 := j1.cell (j := 2) (v := .string ⟨#[]⟩) rfl
  have j1s2 := j1.frozen 2
  have j1a2 : ∀ o, (w1.alloc o).cell? ⟨p, 2, none⟩ = some (.string ⟨#[]⟩) := fun o => (HeapIs.al j1 (o' := o)).cell (j := 2) (v := .string ⟨#[]⟩) rfl
  have j1t2 := j1.set (j := 2) (v := .string ⟨#[]⟩) rfl
  have j1r3 := j1.cell (j := 3) (v := .string ⟨#[]⟩) rfl
  have j1s3 := j1.frozen 3
  have j1a3 : ∀ o, (w1.alloc o).cell? ⟨p, 3, none⟩ = some (.string ⟨#[]⟩) := fun o => (HeapIs.al j1 (o' := o)).cell (j := 3) (v := .string ⟨#[]⟩) rfl
  have j1t3 := j1.set (j := 3) (v := .string ⟨#[]⟩) rfl
  have j1r4 := j1.cell (j := 4) (v := .int .i64 0) rfl
  have j1s4 := j1.frozen 4
  have j1a4 : ∀ o, (w1.alloc o).cell? ⟨p, 4, none⟩ = some (.int .i64 0) := fun o => (HeapIs.al j1 (o' := o)).cell (j := 4) (v := .int .i64 0) rfl
  have j1t4 := j1.set (j := 4) (v := .int .i64 0) rfl
  have j1r5 := j1.cell (j := 5) (v := .slice none 0 0) rfl
  have j1s5 := j1.frozen 5
  have j1a5 : ∀ o, (w1.alloc o).cell? ⟨p, 5, none⟩ = some (.slice none 0 0) := fun o => (HeapIs.al j1 (o' := o)).cell (j := 5) (v := .slice none 0 0) rfl
  have j1t5 := j1.set (j := 5) (v := .slice none 0 0) rfl
  clear hb
  go_wp2
  go_ret
  exact ⟨rfl, by repeat (first | exact HB.out | apply nbl_al | apply nbl_drw | refine Below.setCell ?_ (Nat.le_refl _) _ | refine nbl_set ?_ (by first | exact Nat.le_refl _ | (simp; omega) | (simp; done) | omega) )⟩

set_option maxRecDepth 100000 in
set_option maxHeartbeats 1000000 in
theorem first7_deliver (p : Nat) (w : World) (hp : HeapIs w p (.cells #[.int .i64 8, .string ⟨#[]⟩, .string ⟨#[]⟩, .string ⟨#[]⟩, .int .i64 0, .slice none 0 0] 29 (0, 0))) (hE : Env w) :
    Calls Tryz.prog 32 #[.pointer (some ⟨p, 0, none⟩)] w fun e w' => e = .returned (.bool true) ∧ Below w.heap.size w w' := by
  have q0 := hp.cell (j := 0) (v := .int .i64 8) rfl
  have q1 := hp.cell (j := 1) (v := .string ⟨#[]⟩) rfl
  have q2 := hp.cell (j := 2) (v := .string ⟨#[]⟩) rfl
  have q3 := hp.cell (j := 3) (v := .string ⟨#[]⟩) rfl
  have q4 := hp.cell (j := 4) (v := .int .i64 0) rfl
  have q5 := hp.cell (j := 5) (v := .slice none 0 0) rfl
  have HB := Lib.hid (Below.refl w.heap.size w)
  go_enter Tryz.func32, Tryz.ntmps32
  have HE := Lib.hid hE
  clear hE
  go_wp2_with fail
  refine (needs_8 _ _ _ _ _ _ true (by decide) _ (HE.out.later HB.out)).mono ?_
  rintro e w1 ⟨rfl, hb⟩
  replace HB := Lib.hid (show Below w.heap.size w w1 by have h := hb; repeat (first | exact nbl_step HB.out h | replace h := nbl_new h | replace h := nbl_dr h))
  have j1 : HeapIs w1 (p) (.cells #[.int .i64 8, .string ⟨#[]⟩, .string ⟨#[]⟩, .string ⟨#[]⟩, .int .i64 0, .slice none 0 0] 29 (0, 0)) := hp.below hb
  have j1r0 := j1.cell (j := 0) (v := .int .i64 8) rfl
  have j1s0 := j1.frozen 0
  have j1a0 : ∀ o, (w1.alloc o).cell? ⟨p, 0, none⟩ = some (.int .i64 8) := fun o => (HeapIs.al j1 (o' := o)).cell (j := 0) (v := .int .i64 8) rfl
  have j1t0 := j1.set (j := 0) (v := .int .i64 8) rfl
  have j1r1 := j1.cell (j := 1) (v := .string ⟨#[]⟩) rfl
  have j1s1 := j1.frozen 1
  have j1a1 : ∀ o, (w1.alloc o).cell? ⟨p, 1, none⟩ = some (.string ⟨#[]⟩) := fun o => (HeapIs.al j1 (o' := o)).cell (j := 1) (v := .string ⟨#[]⟩) rfl
  have j1t1 := j1.set (j := 1) (v := .string ⟨#[]⟩) rfl
  have j1r2 := j1.cell (j := 2) (v := .string ⟨#[]⟩) rfl
  have j1s2 := j1.frozen 2
  have j1a2 : ∀ o, (w1.alloc o).cell? ⟨p, 2, none⟩ = some (.string ⟨#[]⟩) := fun o => (HeapIs.al j1 (o' := o)).cell (j := 2) (v := .string ⟨#[]⟩) rfl
  have j1t2 := j1.set (j := 2) (v := .string ⟨#[]⟩) rfl
  have j1r3 := j1.cell (j := 3) (v := .string ⟨#[]⟩) rfl
  have j1s3 := j1.frozen 3
  have j1a3 : ∀ o, (w1.alloc o).cell? ⟨p, 3, none⟩ = some (.string ⟨#[]⟩) := fun o => (HeapIs.al j1 (o' := o)).cell (j := 3) (v := .string ⟨#[]⟩) rfl
  have j1t3 := j1.set (j := 3) (v := .string ⟨#[]⟩) rfl
  have j1r4 := j1.cell (j := 4) (v := .int .i64 0) rfl
  have j1s4 := j1.frozen 4
  have j1a4 : ∀ o, (w1.alloc o).cell? ⟨p, 4, none⟩ = some (.int .i64 0) := fun o => (HeapIs.al j1 (o' := o)).cell (j := 4) (v := .int .i64 0) rfl
  have j1t4 := j1.set (j := 4) (v := .int .i64 0) rfl
  have j1r5 := j1.cell (j := 5) (v := .slice none 0 0) rfl
  have j1s5 := j1.frozen 5
  have j1a5 : ∀ o, (w1.alloc o).cell? ⟨p, 5, none⟩ = some (.slice none 0 0) := fun o => (HeapIs.al j1 (o' := o)).cell (j := 5) (v := .slice none 0 0) rfl
  have j1t5 := j1.set (j := 5) (v := .slice none 0 0) rfl
  clear hb
  go_wp2_with fail
  refine (decode_nil _).mono ?_
  rintro e w2 ⟨rfl, hb⟩
  replace HB := Lib.hid (show Below w.heap.size w w2 by have h := hb; repeat (first | exact nbl_step HB.out h | replace h := nbl_new h | replace h := nbl_dr h))
  have j2 : HeapIs w2 (p) (.cells #[.int .i64 8, .string ⟨#[]⟩, .string ⟨#[]⟩, .string ⟨#[]⟩, .int .i64 0, .slice none 0 0] 29 (0, 0)) := j1.below hb
  have j2r0 := j2.cell (j := 0) (v := .int .i64 8) rfl
  have j2s0 := j2.frozen 0
  have j2a0 : ∀ o, (w2.alloc o).cell? ⟨p, 0, none⟩ = some (.int .i64 8) := fun o => (HeapIs.al j2 (o' := o)).cell (j := 0) (v := .int .i64 8) rfl
  have j2t0 := j2.set (j := 0) (v := .int .i64 8) rfl
  have j2r1 := j2.cell (j := 1) (v := .string ⟨#[]⟩) rfl
  have j2s1 := j2.frozen 1
  have j2a1 : ∀ o, (w2.alloc o).cell? ⟨p, 1, none⟩ = some (.string ⟨#[]⟩) := fun o => (HeapIs.al j2 (o' := o)).cell (j := 1) (v := .string ⟨#[]⟩) rfl
  have j2t1 := j2.set (j := 1) (v := .string ⟨#[]⟩) rfl
  have j2r2 := j2.cell (j := 2) (v := .string ⟨#[]⟩) rfl
  have j2s2 := j2.frozen 2
  have j2a2 : ∀ o, (w2.alloc o).cell? ⟨p, 2, none⟩ = some (.string ⟨#[]⟩) := fun o => (HeapIs.al j2 (o' := o)).cell (j := 2) (v := .string ⟨#[]⟩) rfl
  have j2t2 := j2.set (j := 2) (v := .string ⟨#[]⟩) rfl
  have j2r3 := j2.cell (j := 3) (v := .string ⟨#[]⟩) rfl
  have j2s3 := j2.frozen 3
  have j2a3 : ∀ o, (w2.alloc o).cell? ⟨p, 3, none⟩ = some (.string ⟨#[]⟩) := fun o => (HeapIs.al j2 (o' := o)).cell (j := 3) (v := .string ⟨#[]⟩) rfl
  have j2t3 := j2.set (j := 3) (v := .string ⟨#[]⟩) rfl
  have j2r4 := j2.cell (j := 4) (v := .int .i64 0) rfl
  have j2s4 := j2.frozen 4
  have j2a4 : ∀ o, (w2.alloc o).cell? ⟨p, 4, none⟩ = some (.int .i64 0) := fun o => (HeapIs.al j2 (o' := o)).cell (j := 4) (v := .int .i64 0) rfl
  have j2t4 := j2.set (j := 4) (v := .int .i64 0) rfl
  have j2r5 := j2.cell (j := 5) (v := .slice none 0 0) rfl
  have j2s5 := j2.frozen 5
  have j2a5 : ∀ o, (w2.alloc o).cell? ⟨p, 5, none⟩ = some (.slice none 0 0) := fun o => (HeapIs.al j2 (o' := o)).cell (j := 5) (v := .slice none 0 0) rfl
  have j2t5 := j2.set (j := 5) (v := .slice none 0 0) rfl
  clear hb
  go_wp2
  go_ret
  exact ⟨rfl, by repeat (first | exact HB.out | apply nbl_al | apply nbl_drw | refine Below.setCell ?_ (Nat.le_refl _) _ | refine nbl_set ?_ (by first | exact Nat.le_refl _ | (simp; omega) | (simp; done) | omega) )⟩

set_option maxRecDepth 100000 in
set_option maxHeartbeats 1000000 in
theorem first1_zero (p : Nat) (w : World) (hp : HeapIs w p (.cells #[.int .i64 0, .string ⟨#[]⟩, .string ⟨#[]⟩, .string ⟨#[]⟩, .int .i64 0, .slice none 0 0] 29 (0, 0))) (hE : Env w) :
    Calls Tryz.prog 21 #[.pointer (some ⟨p, 0, none⟩)] w fun e w' => e = .returned (.bool true) ∧ Below w.heap.size w w' := by
  have q0 := hp.cell (j := 0) (v := .int .i64 0) rfl
  have q1 := hp.cell (j := 1) (v := .string ⟨#[]⟩) rfl
  have q2 := hp.cell (j := 2) (v := .string ⟨#[]⟩) rfl
  have q3 := hp.cell (j := 3) (v := .string ⟨#[]⟩) rfl
  have q4 := hp.cell (j := 4) (v := .int .i64 0) rfl
  have q5 := hp.cell (j := 5) (v := .slice none 0 0) rfl
  have HB := Lib.hid (Below.refl w.heap.size w)
  go_enter Tryz.func21, Tryz.ntmps21
  have HE := Lib.hid hE
  clear hE
  go_wp2_with fail
  refine (formed_zero _ (HE.out.later HB.out)).mono ?_
  rintro e w1 ⟨rfl, hb⟩
  replace HB := Lib.hid (show Below w.heap.size w w1 by have h := hb; repeat (first | exact nbl_step HB.out h | replace h := nbl_new h | replace h := nbl_dr h))
  have j1 : HeapIs w1 (p) (.cells #[.int .i64 0, .string ⟨#[]⟩, .string ⟨#[]⟩, .string ⟨#[]⟩, .int .i64 0, .slice none 0 0] 29 (0, 0)) := hp.below hb
  have j1r0 := j1.cell (j := 0) (v := .int .i64 0) rfl
  have j1s0 := j1.frozen 0
  have j1a0 : ∀ o, (w1.alloc o).cell? ⟨p, 0, none⟩ = some (.int .i64 0) := fun o => (HeapIs.al j1 (o' := o)).cell (j := 0) (v := .int .i64 0) rfl
  have j1t0 := j1.set (j := 0) (v := .int .i64 0) rfl
  have j1r1 := j1.cell (j := 1) (v := .string ⟨#[]⟩) rfl
  have j1s1 := j1.frozen 1
  have j1a1 : ∀ o, (w1.alloc o).cell? ⟨p, 1, none⟩ = some (.string ⟨#[]⟩) := fun o => (HeapIs.al j1 (o' := o)).cell (j := 1) (v := .string ⟨#[]⟩) rfl
  have j1t1 := j1.set (j := 1) (v := .string ⟨#[]⟩) rfl
  have j1r2 := j1.cell (j := 2) (v := .string ⟨#[]⟩) rfl
  have j1s2 := j1.frozen 2
  have j1a2 : ∀ o, (w1.alloc o).cell? ⟨p, 2, none⟩ = some (.string ⟨#[]⟩) := fun o => (HeapIs.al j1 (o' := o)).cell (j := 2) (v := .string ⟨#[]⟩) rfl
  have j1t2 := j1.set (j := 2) (v := .string ⟨#[]⟩) rfl
  have j1r3 := j1.cell (j := 3) (v := .string ⟨#[]⟩) rfl
  have j1s3 := j1.frozen 3
  have j1a3 : ∀ o, (w1.alloc o).cell? ⟨p, 3, none⟩ = some (.string ⟨#[]⟩) := fun o => (HeapIs.al j1 (o' := o)).cell (j := 3) (v := .string ⟨#[]⟩) rfl
  have j1t3 := j1.set (j := 3) (v := .string ⟨#[]⟩) rfl
  have j1r4 := j1.cell (j := 4) (v := .int .i64 0) rfl
  have j1s4 := j1.frozen 4
  have j1a4 : ∀ o, (w1.alloc o).cell? ⟨p, 4, none⟩ = some (.int .i64 0) := fun o => (HeapIs.al j1 (o' := o)).cell (j := 4) (v := .int .i64 0) rfl
  have j1t4 := j1.set (j := 4) (v := .int .i64 0) rfl
  have j1r5 := j1.cell (j := 5) (v := .slice none 0 0) rfl
  have j1s5 := j1.frozen 5
  have j1a5 : ∀ o, (w1.alloc o).cell? ⟨p, 5, none⟩ = some (.slice none 0 0) := fun o => (HeapIs.al j1 (o' := o)).cell (j := 5) (v := .slice none 0 0) rfl
  have j1t5 := j1.set (j := 5) (v := .slice none 0 0) rfl
  clear hb
  go_wp2
  go_ret
  exact ⟨rfl, by repeat (first | exact HB.out | apply nbl_al | apply nbl_drw | refine Below.setCell ?_ (Nat.le_refl _) _ | refine nbl_set ?_ (by first | exact Nat.le_refl _ | (simp; omega) | (simp; done) | omega) )⟩

set_option maxRecDepth 100000 in
set_option maxHeartbeats 1000000 in
theorem first1_set1 (p : Nat) (w : World) (hp : HeapIs w p (.cells #[.int .i64 2, .string ⟨#[97]⟩, .string ⟨#[]⟩, .string ⟨#[116, 101, 97]⟩, .int .i64 1, .slice none 0 0] 29 (0, 0))) (hE : Env w) :
    Calls Tryz.prog 21 #[.pointer (some ⟨p, 0, none⟩)] w fun e w' => e = .returned (.bool false) ∧ Below w.heap.size w w' := by
  have q0 := hp.cell (j := 0) (v := .int .i64 2) rfl
  have q1 := hp.cell (j := 1) (v := .string ⟨#[97]⟩) rfl
  have q2 := hp.cell (j := 2) (v := .string ⟨#[]⟩) rfl
  have q3 := hp.cell (j := 3) (v := .string ⟨#[116, 101, 97]⟩) rfl
  have q4 := hp.cell (j := 4) (v := .int .i64 1) rfl
  have q5 := hp.cell (j := 5) (v := .slice none 0 0) rfl
  have HB := Lib.hid (Below.refl w.heap.size w)
  go_enter Tryz.func21, Tryz.ntmps21
  have HE := Lib.hid hE
  clear hE
  go_wp2_with fail
  refine (formed_set1 _ (HE.out.later HB.out)).mono ?_
  rintro e w1 ⟨rfl, hb⟩
  replace HB := Lib.hid (show Below w.heap.size w w1 by have h := hb; repeat (first | exact nbl_step HB.out h | replace h := nbl_new h | replace h := nbl_dr h))
  have j1 : HeapIs w1 (p) (.cells #[.int .i64 2, .string ⟨#[97]⟩, .string ⟨#[]⟩, .string ⟨#[116, 101, 97]⟩, .int .i64 1, .slice none 0 0] 29 (0, 0)) := hp.below hb
  have j1r0 := j1.cell (j := 0) (v := .int .i64 2) rfl
  have j1s0 := j1.frozen 0
  have j1a0 : ∀ o, (w1.alloc o).cell? ⟨p, 0, none⟩ = some (.int .i64 2) := fun o => (HeapIs.al j1 (o' := o)).cell (j := 0) (v := .int .i64 2) rfl
  have j1t0 := j1.set (j := 0) (v := .int .i64 2) rfl
  have j1r1 := j1.cell (j := 1) (v := .string ⟨#[97]⟩) rfl
  have j1s1 := j1.frozen 1
  have j1a1 : ∀ o, (w1.alloc o).cell? ⟨p, 1, none⟩ = some (.string ⟨#[97]⟩) := fun o => (HeapIs.al j1 (o' := o)).cell (j := 1) (v := .string ⟨#[97]⟩) rfl
  have j1t1 := j1.set (j := 1) (v := .string ⟨#[97]⟩) rfl
  have j1r2 := j1.cell (j := 2) (v := .string ⟨#[]⟩) rfl
  have j1s2 := j1.frozen 2
  have j1a2 : ∀ o, (w1.alloc o).cell? ⟨p, 2, none⟩ = some (.string ⟨#[]⟩) := fun o => (HeapIs.al j1 (o' := o)).cell (j := 2) (v := .string ⟨#[]⟩) rfl
  have j1t2 := j1.set (j := 2) (v := .string ⟨#[]⟩) rfl
  have j1r3 := j1.cell (j := 3) (v := .string ⟨#[116, 101, 97]⟩) rfl
  have j1s3 := j1.frozen 3
  have j1a3 : ∀ o, (w1.alloc o).cell? ⟨p, 3, none⟩ = some (.string ⟨#[116, 101, 97]⟩) := fun o => (HeapIs.al j1 (o' := o)).cell (j := 3) (v := .string ⟨#[116, 101, 97]⟩) rfl
  have j1t3 := j1.set (j := 3) (v := .string ⟨#[116, 101, 97]⟩) rfl
  have j1r4 := j1.cell (j := 4) (v := .int .i64 1) rfl
  have j1s4 := j1.frozen 4
  have j1a4 : ∀ o, (w1.alloc o).cell? ⟨p, 4, none⟩ = some (.int .i64 1) := fun o => (HeapIs.al j1 (o' := o)).cell (j := 4) (v := .int .i64 1) rfl
  have j1t4 := j1.set (j := 4) (v := .int .i64 1) rfl
  have j1r5 := j1.cell (j := 5) (v := .slice none 0 0) rfl
  have j1s5 := j1.frozen 5
  have j1a5 : ∀ o, (w1.alloc o).cell? ⟨p, 5, none⟩ = some (.slice none 0 0) := fun o => (HeapIs.al j1 (o' := o)).cell (j := 5) (v := .slice none 0 0) rfl
  have j1t5 := j1.set (j := 5) (v := .slice none 0 0) rfl
  clear hb
  go_wp2
  go_ret
  exact ⟨rfl, by repeat (first | exact HB.out | apply nbl_al | apply nbl_drw | refine Below.setCell ?_ (Nat.le_refl _) _ | refine nbl_set ?_ (by first | exact Nat.le_refl _ | (simp; omega) | (simp; done) | omega) )⟩

set_option maxRecDepth 100000 in
set_option maxHeartbeats 1000000 in
theorem first3_set1 (p : Nat) (w : World) (hp : HeapIs w p (.cells #[.int .i64 2, .string ⟨#[97]⟩, .string ⟨#[]⟩, .string ⟨#[116, 101, 97]⟩, .int .i64 1, .slice none 0 0] 29 (0, 0))) (hE : Env w) :
    Calls Tryz.prog 24 #[.pointer (some ⟨p, 0, none⟩)] w fun e w' => e = .returned (.bool false) ∧ Below w.heap.size w w' := by
  have q0 := hp.cell (j := 0) (v := .int .i64 2) rfl
  have q1 := hp.cell (j := 1) (v := .string ⟨#[97]⟩) rfl
  have q2 := hp.cell (j := 2) (v := .string ⟨#[]⟩) rfl
  have q3 := hp.cell (j := 3) (v := .string ⟨#[116, 101, 97]⟩) rfl
  have q4 := hp.cell (j := 4) (v := .int .i64 1) rfl
  have q5 := hp.cell (j := 5) (v := .slice none 0 0) rfl
  have HB := Lib.hid (Below.refl w.heap.size w)
  go_enter Tryz.func24, Tryz.ntmps24
  have HE := Lib.hid hE
  clear hE
  go_wp2_with fail
  refine (needs_2 _ _ _ _ _ _ true (by decide) _ (HE.out.later HB.out)).mono ?_
  rintro e w1 ⟨rfl, hb⟩
  replace HB := Lib.hid (show Below w.heap.size w w1 by have h := hb; repeat (first | exact nbl_step HB.out h | replace h := nbl_new h | replace h := nbl_dr h))
  have j1 : HeapIs w1 (p) (.cells #[.int .i64 2, .string ⟨#[97]⟩, .string ⟨#[]⟩, .string ⟨#[116, 101, 97]⟩, .int .i64 1, .slice none 0 0] 29 (0, 0)) := hp.below hb
  have j1r0 := j1.cell (j := 0) (v := .int .i64 2) rfl
  have j1s0 := j1.frozen 0
  have j1a0 : ∀ o, (w1.alloc o).cell? ⟨p, 0, none⟩ = some (.int .i64 2) := fun o => (HeapIs.al j1 (o' := o)).cell (j := 0) (v := .int .i64 2) rfl
  have j1t0 := j1.set (j := 0) (v := .int .i64 2) rfl
  have j1r1 := j1.cell (j := 1) (v := .string ⟨#[97]⟩) rfl
  have j1s1 := j1.frozen 1
  have j1a1 : ∀ o, (w1.alloc o).cell? ⟨p, 1, none⟩ = some (.string ⟨#[97]⟩) := fun o => (HeapIs.al j1 (o' := o)).cell (j := 1) (v := .string ⟨#[97]⟩) rfl
  have j1t1 := j1.set (j := 1) (v := .string ⟨#[97]⟩) rfl
  have j1r2 := j1.cell (j := 2) (v := .string ⟨#[]⟩) rfl
  have j1s2 := j1.frozen 2
  have j1a2 : ∀ o, (w1.alloc o).cell? ⟨p, 2, none⟩ = some (.string ⟨#[]⟩) := fun o => (HeapIs.al j1 (o' := o)).cell (j := 2) (v := .string ⟨#[]⟩) rfl
  have j1t2 := j1.set (j := 2) (v := .string ⟨#[]⟩) rfl
  have j1r3 := j1.cell (j := 3) (v := .string ⟨#[116, 101, 97]⟩) rfl
  have j1s3 := j1.frozen 3
  have j1a3 : ∀ o, (w1.alloc o).cell? ⟨p, 3, none⟩ = some (.string ⟨#[116, 101, 97]⟩) := fun o => (HeapIs.al j1 (o' := o)).cell (j := 3) (v := .string ⟨#[116, 101, 97]⟩) rfl
  have j1t3 := j1.set (j := 3) (v := .string ⟨#[116, 101, 97]⟩) rfl
  have j1r4 := j1.cell (j := 4) (v := .int .i64 1) rfl
  have j1s4 := j1.frozen 4
  have j1a4 : ∀ o, (w1.alloc o).cell? ⟨p, 4, none⟩ = some (.int .i64 1) := fun o => (HeapIs.al j1 (o' := o)).cell (j := 4) (v := .int .i64 1) rfl
  have j1t4 := j1.set (j := 4) (v := .int .i64 1) rfl
  have j1r5 := j1.cell (j := 5) (v := .slice none 0 0) rfl
  have j1s5 := j1.frozen 5
  have j1a5 : ∀ o, (w1.alloc o).cell? ⟨p, 5, none⟩ = some (.slice none 0 0) := fun o => (HeapIs.al j1 (o' := o)).cell (j := 5) (v := .slice none 0 0) rfl
  have j1t5 := j1.set (j := 5) (v := .slice none 0 0) rfl
  clear hb
  go_wp2_with fail
  refine (key_a _).mono ?_
  rintro e w2 ⟨rfl, hb⟩
  replace HB := Lib.hid (show Below w.heap.size w w2 by have h := hb; repeat (first | exact nbl_step HB.out h | replace h := nbl_new h | replace h := nbl_dr h))
  have j2 : HeapIs w2 (p) (.cells #[.int .i64 2, .string ⟨#[97]⟩, .string ⟨#[]⟩, .string ⟨#[116, 101, 97]⟩, .int .i64 1, .slice none 0 0] 29 (0, 0)) := j1.below hb
  have j2r0 := j2.cell (j := 0) (v := .int .i64 2) rfl
  have j2s0 := j2.frozen 0
  have j2a0 : ∀ o, (w2.alloc o).cell? ⟨p, 0, none⟩ = some (.int .i64 2) := fun o => (HeapIs.al j2 (o' := o)).cell (j := 0) (v := .int .i64 2) rfl
  have j2t0 := j2.set (j := 0) (v := .int .i64 2) rfl
  have j2r1 := j2.cell (j := 1) (v := .string ⟨#[97]⟩) rfl
  have j2s1 := j2.frozen 1
  have j2a1 : ∀ o, (w2.alloc o).cell? ⟨p, 1, none⟩ = some (.string ⟨#[97]⟩) := fun o => (HeapIs.al j2 (o' := o)).cell (j := 1) (v := .string ⟨#[97]⟩) rfl
  have j2t1 := j2.set (j := 1) (v := .string ⟨#[97]⟩) rfl
  have j2r2 := j2.cell (j := 2) (v := .string ⟨#[]⟩) rfl
  have j2s2 := j2.frozen 2
  have j2a2 : ∀ o, (w2.alloc o).cell? ⟨p, 2, none⟩ = some (.string ⟨#[]⟩) := fun o => (HeapIs.al j2 (o' := o)).cell (j := 2) (v := .string ⟨#[]⟩) rfl
  have j2t2 := j2.set (j := 2) (v := .string ⟨#[]⟩) rfl
  have j2r3 := j2.cell (j := 3) (v := .string ⟨#[116, 101, 97]⟩) rfl
  have j2s3 := j2.frozen 3
  have j2a3 : ∀ o, (w2.alloc o).cell? ⟨p, 3, none⟩ = some (.string ⟨#[116, 101, 97]⟩) := fun o => (HeapIs.al j2 (o' := o)).cell (j := 3) (v := .string ⟨#[116, 101, 97]⟩) rfl
  have j2t3 := j2.set (j := 3) (v := .string ⟨#[116, 101, 97]⟩) rfl
  have j2r4 := j2.cell (j := 4) (v := .int .i64 1) rfl
  have j2s4 := j2.frozen 4
  have j2a4 : ∀ o, (w2.alloc o).cell? ⟨p, 4, none⟩ = some (.int .i64 1) := fun o => (HeapIs.al j2 (o' := o)).cell (j := 4) (v := .int .i64 1) rfl
  have j2t4 := j2.set (j := 4) (v := .int .i64 1) rfl
  have j2r5 := j2.cell (j := 5) (v := .slice none 0 0) rfl
  have j2s5 := j2.frozen 5
  have j2a5 : ∀ o, (w2.alloc o).cell? ⟨p, 5, none⟩ = some (.slice none 0 0) := fun o => (HeapIs.al j2 (o' := o)).cell (j := 5) (v := .slice none 0 0) rfl
  have j2t5 := j2.set (j := 5) (v := .slice none 0 0) rfl
  clear hb
  go_wp2
  go_ret
  exact ⟨rfl, by repeat (first | exact HB.out | apply nbl_al | apply nbl_drw | refine Below.setCell ?_ (Nat.le_refl _) _ | refine nbl_set ?_ (by first | exact Nat.le_refl _ | (simp; omega) | (simp; done) | omega) )⟩

set_option maxRecDepth 100000 in
set_option maxHeartbeats 1000000 in
theorem first4_set1 (p : Nat) (w : World) (hp : HeapIs w p (.cells #[.int .i64 2, .string ⟨#[97]⟩, .string ⟨#[]⟩, .string ⟨#[116, 101, 97]⟩, .int .i64 1, .slice none 0 0] 29 (0, 0))) (hE : Env w) :
    Calls Tryz.prog 27 #[.pointer (some ⟨p, 0, none⟩)] w fun e w' => e = .returned (.bool false) ∧ Below w.heap.size w w' := by
  have q0 := hp.cell (j := 0) (v := .int .i64 2) rfl
  have q1 := hp.cell (j := 1) (v := .string ⟨#[97]⟩) rfl
  have q2 := hp.cell (j := 2) (v := .string ⟨#[]⟩) rfl
  have q3 := hp.cell (j := 3) (v := .string ⟨#[116, 101, 97]⟩) rfl
  have q4 := hp.cell (j := 4) (v := .int .i64 1) rfl
  have q5 := hp.cell (j := 5) (v := .slice none 0 0) rfl
  have HB := Lib.hid (Below.refl w.heap.size w)
  go_enter Tryz.func27, Tryz.ntmps27
  have HE := Lib.hid hE
  clear hE
  go_wp2_with fail
  refine (needs_2 _ _ _ _ _ _ false (by decide) _ (HE.out.later HB.out)).mono ?_
  rintro e w1 ⟨rfl, hb⟩
  replace HB := Lib.hid (show Below w.heap.size w w1 by have h := hb; repeat (first | exact nbl_step HB.out h | replace h := nbl_new h | replace h := nbl_dr h))
  have j1 : HeapIs w1 (p) (.cells #[.int .i64 2, .string ⟨#[97]⟩, .string ⟨#[]⟩, .string ⟨#[116, 101, 97]⟩, .int .i64 1, .slice none 0 0] 29 (0, 0)) := hp.below hb
  have j1r0 := j1.cell (j := 0) (v := .int .i64 2) rfl
  have j1s0 := j1.frozen 0
  have j1a0 : ∀ o, (w1.alloc o).cell? ⟨p, 0, none⟩ = some (.int .i64 2) := fun o => (HeapIs.al j1 (o' := o)).cell (j := 0) (v := .int .i64 2) rfl
  have j1t0 := j1.set (j := 0) (v := .int .i64 2) rfl
  have j1r1 := j1.cell (j := 1) (v := .string ⟨#[97]⟩) rfl
  have j1s1 := j1.frozen 1
  have j1a1 : ∀ o, (w1.alloc o).cell? ⟨p, 1, none⟩ = some (.string ⟨#[97]⟩) := fun o => (HeapIs.al j1 (o' := o)).cell (j := 1) (v := .string ⟨#[97]⟩) rfl
  have j1t1 := j1.set (j := 1) (v := .string ⟨#[97]⟩) rfl
  have j1r2 := j1.cell (j := 2) (v := .string ⟨#[]⟩) rfl
  have j1s2 := j1.frozen 2
  have j1a2 : ∀ o, (w1.alloc o).cell? ⟨p, 2, none⟩ = some (.string ⟨#[]⟩) := fun o => (HeapIs.al j1 (o' := o)).cell (j := 2) (v := .string ⟨#[]⟩) rfl
  have j1t2 := j1.set (j := 2) (v := .string ⟨#[]⟩) rfl
  have j1r3 := j1.cell (j := 3) (v := .string ⟨#[116, 101, 97]⟩) rfl
  have j1s3 := j1.frozen 3
  have j1a3 : ∀ o, (w1.alloc o).cell? ⟨p, 3, none⟩ = some (.string ⟨#[116, 101, 97]⟩) := fun o => (HeapIs.al j1 (o' := o)).cell (j := 3) (v := .string ⟨#[116, 101, 97]⟩) rfl
  have j1t3 := j1.set (j := 3) (v := .string ⟨#[116, 101, 97]⟩) rfl
  have j1r4 := j1.cell (j := 4) (v := .int .i64 1) rfl
  have j1s4 := j1.frozen 4
  have j1a4 : ∀ o, (w1.alloc o).cell? ⟨p, 4, none⟩ = some (.int .i64 1) := fun o => (HeapIs.al j1 (o' := o)).cell (j := 4) (v := .int .i64 1) rfl
  have j1t4 := j1.set (j := 4) (v := .int .i64 1) rfl
  have j1r5 := j1.cell (j := 5) (v := .slice none 0 0) rfl
  have j1s5 := j1.frozen 5
  have j1a5 : ∀ o, (w1.alloc o).cell? ⟨p, 5, none⟩ = some (.slice none 0 0) := fun o => (HeapIs.al j1 (o' := o)).cell (j := 5) (v := .slice none 0 0) rfl
  have j1t5 := j1.set (j := 5) (v := .slice none 0 0) rfl
  clear hb
  go_wp2
  go_ret
  exact ⟨rfl, by repeat (first | exact HB.out | apply nbl_al | apply nbl_drw | refine Below.setCell ?_ (Nat.le_refl _) _ | refine nbl_set ?_ (by first | exact Nat.le_refl _ | (simp; omega) | (simp; done) | omega) )⟩

set_option maxRecDepth 100000 in
set_option maxHeartbeats 1000000 in
theorem first5_set1 (p : Nat) (w : World) (hp : HeapIs w p (.cells #[.int .i64 2, .string ⟨#[97]⟩, .string ⟨#[]⟩, .string ⟨#[116, 101, 97]⟩, .int .i64 1, .slice none 0 0] 29 (0, 0))) (hE : Env w) :
    Calls Tryz.prog 28 #[.pointer (some ⟨p, 0, none⟩)] w fun e w' => e = .returned (.bool false) ∧ Below w.heap.size w w' := by
  have q0 := hp.cell (j := 0) (v := .int .i64 2) rfl
  have q1 := hp.cell (j := 1) (v := .string ⟨#[97]⟩) rfl
  have q2 := hp.cell (j := 2) (v := .string ⟨#[]⟩) rfl
  have q3 := hp.cell (j := 3) (v := .string ⟨#[116, 101, 97]⟩) rfl
  have q4 := hp.cell (j := 4) (v := .int .i64 1) rfl
  have q5 := hp.cell (j := 5) (v := .slice none 0 0) rfl
  have HB := Lib.hid (Below.refl w.heap.size w)
  go_enter Tryz.func28, Tryz.ntmps28
  have HE := Lib.hid hE
  clear hE
  go_wp2_with fail
  refine (needs_2 _ _ _ _ _ _ true (by decide) _ (HE.out.later HB.out)).mono ?_
  rintro e w1 ⟨rfl, hb⟩
  replace HB := Lib.hid (show Below w.heap.size w w1 by have h := hb; repeat (first | exact nbl_step HB.out h | replace h := nbl_new h | replace h := nbl_dr h))
  have j1 : HeapIs w1 (p) (.cells #[.int .i64 2, .string ⟨#[97]⟩, .string ⟨#[]⟩, .string ⟨#[116, 101, 97]⟩, .int .i64 1, .slice none 0 0] 29 (0, 0)) := hp.below hb
  have j1r0 := j1.cell (j := 0) (v := .int .i64 2) rfl
  have j1s0 := j1.frozen 0
  have j1a0 : ∀ o, (w1.alloc o).cell? ⟨p, 0, none⟩ = some (.int .i64 2) := fun o => (HeapIs.al j1 (o' := o)).cell (j := 0) (v := .int .i64 2) rfl
  have j1t0 := j1.set (j := 0) (v := .int .i64 2) rfl
  have j1r1 := j1.cell (j := 1) (v := .string ⟨#[97]⟩) rfl
  have j1s1 := j1.frozen 1
  have j1a1 : ∀ o, (w1.alloc o).cell? ⟨p, 1, none⟩ = some (.string ⟨#[97]⟩) := fun o => (HeapIs.al j1 (o' := o)).cell (j := 1) (v := .string ⟨#[97]⟩) rfl
  have j1t1 := j1.set (j := 1) (v := .string ⟨#[97]⟩) rfl
  have j1r2 := j1.cell (j := 2) (v := .string ⟨#[]⟩) rfl
  have j1s2 := j1.frozen 2
  have j1a2 : ∀ o, (w1.alloc o).cell? ⟨p, 2, none⟩ = some (.string ⟨#[]⟩) := fun o => (HeapIs.al j1 (o' := o)).cell (j := 2) (v := .string ⟨#[]⟩) rfl
  have j1t2 := j1.set (j := 2) (v := .string ⟨#[]⟩) rfl
  have j1r3 := j1.cell (j := 3) (v := .string ⟨#[116, 101, 97]⟩) rfl
  have j1s3 := j1.frozen 3
  have j1a3 : ∀ o, (w1.alloc o).cell? ⟨p, 3, none⟩ = some (.string ⟨#[116, 101, 97]⟩) := fun o => (HeapIs.al j1 (o' := o)).cell (j := 3) (v := .string ⟨#[116, 101, 97]⟩) rfl
  have j1t3 := j1.set (j := 3) (v := .string ⟨#[116, 101, 97]⟩) rfl
  have j1r4 := j1.cell (j := 4) (v := .int .i64 1) rfl
  have j1s4 := j1.frozen 4
  have j1a4 : ∀ o, (w1.alloc o).cell? ⟨p, 4, none⟩ = some (.int .i64 1) := fun o => (HeapIs.al j1 (o' := o)).cell (j := 4) (v := .int .i64 1) rfl
  have j1t4 := j1.set (j := 4) (v := .int .i64 1) rfl
  have j1r5 := j1.cell (j := 5) (v := .slice none 0 0) rfl
  have j1s5 := j1.frozen 5
  have j1a5 : ∀ o, (w1.alloc o).cell? ⟨p, 5, none⟩ = some (.slice none 0 0) := fun o => (HeapIs.al j1 (o' := o)).cell (j := 5) (v := .slice none 0 0) rfl
  have j1t5 := j1.set (j := 5) (v := .slice none 0 0) rfl
  clear hb
  go_wp2_with fail
  refine (item_tea _ (HE.out.later HB.out).max).mono ?_
  rintro e w2 ⟨rfl, hb⟩
  replace HB := Lib.hid (show Below w.heap.size w w2 by have h := hb; repeat (first | exact nbl_step HB.out h | replace h := nbl_new h | replace h := nbl_dr h))
  have j2 : HeapIs w2 (p) (.cells #[.int .i64 2, .string ⟨#[97]⟩, .string ⟨#[]⟩, .string ⟨#[116, 101, 97]⟩, .int .i64 1, .slice none 0 0] 29 (0, 0)) := j1.below hb
  have j2r0 := j2.cell (j := 0) (v := .int .i64 2) rfl
  have j2s0 := j2.frozen 0
  have j2a0 : ∀ o, (w2.alloc o).cell? ⟨p, 0, none⟩ = some (.int .i64 2) := fun o => (HeapIs.al j2 (o' := o)).cell (j := 0) (v := .int .i64 2) rfl
  have j2t0 := j2.set (j := 0) (v := .int .i64 2) rfl
  have j2r1 := j2.cell (j := 1) (v := .string ⟨#[97]⟩) rfl
  have j2s1 := j2.frozen 1
  have j2a1 : ∀ o, (w2.alloc o).cell? ⟨p, 1, none⟩ = some (.string ⟨#[97]⟩) := fun o => (HeapIs.al j2 (o' := o)).cell (j := 1) (v := .string ⟨#[97]⟩) rfl
  have j2t1 := j2.set (j := 1) (v := .string ⟨#[97]⟩) rfl
  have j2r2 := j2.cell (j := 2) (v := .string ⟨#[]⟩) rfl
  have j2s2 := j2.frozen 2
  have j2a2 : ∀ o, (w2.alloc o).cell? ⟨p, 2, none⟩ = some (.string ⟨#[]⟩) := fun o => (HeapIs.al j2 (o' := o)).cell (j := 2) (v := .string ⟨#[]⟩) rfl
  have j2t2 := j2.set (j := 2) (v := .string ⟨#[]⟩) rfl
  have j2r3 := j2.cell (j := 3) (v := .string ⟨#[116, 101, 97]⟩) rfl
  have j2s3 := j2.frozen 3
  have j2a3 : ∀ o, (w2.alloc o).cell? ⟨p, 3, none⟩ = some (.string ⟨#[116, 101, 97]⟩) := fun o => (HeapIs.al j2 (o' := o)).cell (j := 3) (v := .string ⟨#[116, 101, 97]⟩) rfl
  have j2t3 := j2.set (j := 3) (v := .string ⟨#[116, 101, 97]⟩) rfl
  have j2r4 := j2.cell (j := 4) (v := .int .i64 1) rfl
  have j2s4 := j2.frozen 4
  have j2a4 : ∀ o, (w2.alloc o).cell? ⟨p, 4, none⟩ = some (.int .i64 1) := fun o => (HeapIs.al j2 (o' := o)).cell (j := 4) (v := .int .i64 1) rfl
  have j2t4 := j2.set (j := 4) (v := .int .i64 1) rfl
  have j2r5 := j2.cell (j := 5) (v := .slice none 0 0) rfl
  have j2s5 := j2.frozen 5
  have j2a5 : ∀ o, (w2.alloc o).cell? ⟨p, 5, none⟩ = some (.slice none 0 0) := fun o => (HeapIs.al j2 (o' := o)).cell (j := 5) (v := .slice none 0 0) rfl
  have j2t5 := j2.set (j := 5) (v := .slice none 0 0) rfl
  clear hb
  go_wp2
  go_ret
  exact ⟨rfl, by repeat (first | exact HB.out | apply nbl_al | apply nbl_drw | refine Below.setCell ?_ (Nat.le_refl _) _ | refine nbl_set ?_ (by first | exact Nat.le_refl _ | (simp; omega) | (simp; done) | omega) )⟩

set_option maxRecDepth 100000 in
set_option maxHeartbeats 1000000 in
theorem first6_set1 (p : Nat) (w : World) (hp : HeapIs w p (.cells #[.int .i64 2, .string ⟨#[97]⟩, .string ⟨#[]⟩, .string ⟨#[116, 101, 97]⟩, .int .i64 1, .slice none 0 0] 29 (0, 0))) (hE : Env w) :
    Calls Tryz.prog 30 #[.pointer (some ⟨p, 0, none⟩)] w fun e w' => e = .returned (.bool false) ∧ Below w.heap.size w w' := by
  have q0 := hp.cell (j := 0) (v := .int .i64 2) rfl
  have q1 := hp.cell (j := 1) (v := .string ⟨#[97]⟩) rfl
  have q2 := hp.cell (j := 2) (v := .string ⟨#[]⟩) rfl
  have q3 := hp.cell (j := 3) (v := .string ⟨#[116, 101, 97]⟩) rfl
  have q4 := hp.cell (j := 4) (v := .int .i64 1) rfl
  have q5 := hp.cell (j := 5) (v := .slice none 0 0) rfl
  have HB := Lib.hid (Below.refl w.heap.size w)
  go_enter Tryz.func30, Tryz.ntmps30
  have HE := Lib.hid hE
  clear hE
  go_wp2_with fail
  refine (needs_2 _ _ _ _ _ _ true (by decide) _ (HE.out.later HB.out)).mono ?_
  rintro e w1 ⟨rfl, hb⟩
  replace HB := Lib.hid (show Below w.heap.size w w1 by have h := hb; repeat (first | exact nbl_step HB.out h | replace h := nbl_new h | replace h := nbl_dr h))
  have j1 : HeapIs w1 (p) (.cells #[.int .i64 2, .string ⟨#[97]⟩, .string ⟨#[]⟩, .string ⟨#[116, 101, 97]⟩, .int .i64 1, .slice none 0 0] 29 (0, 0)) := hp.below hb
  have j1r0 := j1.cell (j := 0) (v := .int .i64 2) rfl
  have j1s0 := j1.frozen 0
  have j1a0 : ∀ o, (w1.alloc o).cell? ⟨p, 0, none⟩ = some (.int .i64 2) := fun o => (HeapIs.al j1 (o' := o)).cell (j := 0) (v := .int .i64 2) rfl
  have j1t0 := j1.set (j := 0) (v := .int .i64 2) rfl
  have j1r1 := j1.cell (j := 1) (v := .string ⟨#[97]⟩) rfl
  have j1s1 := j1.frozen 1
  have j1a1 : ∀ o, (w1.alloc o).cell? ⟨p, 1, none⟩ = some (.string ⟨#[97]⟩) := fun o => (HeapIs.al j1 (o' := o)).cell (j := 1) (v := .string ⟨#[97]⟩) rfl
  have j1t1 := j1.set (j := 1) (v := .string ⟨#[97]⟩) rfl
  have j1r2 := j1.cell (j := 2) (v := .string ⟨#[]⟩) rfl
  have j1s2 := j1.frozen 2
  have j1a2 : ∀ o, (w1.alloc o).cell? ⟨p, 2, none⟩ = some (.string ⟨#[]⟩) := fun o => (HeapIs.al j1 (o' := o)).cell (j := 2) (v := .string ⟨#[]⟩) rfl
  have j1t2 := j1.set (j := 2) (v := .string ⟨#[]⟩) rfl
  have j1r3 := j1.cell (j := 3) (v := .string ⟨#[116, 101, 97]⟩) rfl
  have j1s3 := j1.frozen 3
  have j1a3 : ∀ o, (w1.alloc o).cell? ⟨p, 3, none⟩ = some (.string ⟨#[116, 101, 97]⟩) := fun o => (HeapIs.al j1 (o' := o)).cell (j := 3) (v := .string ⟨#[116, 101, 97]⟩) rfl
  have j1t3 := j1.set (j := 3) (v := .string ⟨#[116, 101, 97]⟩) rfl
  have j1r4 := j1.cell (j := 4) (v := .int .i64 1) rfl
  have j1s4 := j1.frozen 4
  have j1a4 : ∀ o, (w1.alloc o).cell? ⟨p, 4, none⟩ = some (.int .i64 1) := fun o => (HeapIs.al j1 (o' := o)).cell (j := 4) (v := .int .i64 1) rfl
  have j1t4 := j1.set (j := 4) (v := .int .i64 1) rfl
  have j1r5 := j1.cell (j := 5) (v := .slice none 0 0) rfl
  have j1s5 := j1.frozen 5
  have j1a5 : ∀ o, (w1.alloc o).cell? ⟨p, 5, none⟩ = some (.slice none 0 0) := fun o => (HeapIs.al j1 (o' := o)).cell (j := 5) (v := .slice none 0 0) rfl
  have j1t5 := j1.set (j := 5) (v := .slice none 0 0) rfl
  clear hb
  go_wp2_with fail
  refine (qty_valid 1 _).mono ?_
  rintro e w2 ⟨rfl, hb⟩
  replace HB := Lib.hid (show Below w.heap.size w w2 by have h := hb; repeat (first | exact nbl_step HB.out h | replace h := nbl_new h | replace h := nbl_dr h))
  have j2 : HeapIs w2 (p) (.cells #[.int .i64 2, .string ⟨#[97]⟩, .string ⟨#[]⟩, .string ⟨#[116, 101, 97]⟩, .int .i64 1, .slice none 0 0] 29 (0, 0)) := j1.below hb
  have j2r0 := j2.cell (j := 0) (v := .int .i64 2) rfl
  have j2s0 := j2.frozen 0
  have j2a0 : ∀ o, (w2.alloc o).cell? ⟨p, 0, none⟩ = some (.int .i64 2) := fun o => (HeapIs.al j2 (o' := o)).cell (j := 0) (v := .int .i64 2) rfl
  have j2t0 := j2.set (j := 0) (v := .int .i64 2) rfl
  have j2r1 := j2.cell (j := 1) (v := .string ⟨#[97]⟩) rfl
  have j2s1 := j2.frozen 1
  have j2a1 : ∀ o, (w2.alloc o).cell? ⟨p, 1, none⟩ = some (.string ⟨#[97]⟩) := fun o => (HeapIs.al j2 (o' := o)).cell (j := 1) (v := .string ⟨#[97]⟩) rfl
  have j2t1 := j2.set (j := 1) (v := .string ⟨#[97]⟩) rfl
  have j2r2 := j2.cell (j := 2) (v := .string ⟨#[]⟩) rfl
  have j2s2 := j2.frozen 2
  have j2a2 : ∀ o, (w2.alloc o).cell? ⟨p, 2, none⟩ = some (.string ⟨#[]⟩) := fun o => (HeapIs.al j2 (o' := o)).cell (j := 2) (v := .string ⟨#[]⟩) rfl
  have j2t2 := j2.set (j := 2) (v := .string ⟨#[]⟩) rfl
  have j2r3 := j2.cell (j := 3) (v := .string ⟨#[116, 101, 97]⟩) rfl
  have j2s3 := j2.frozen 3
  have j2a3 : ∀ o, (w2.alloc o).cell? ⟨p, 3, none⟩ = some (.string ⟨#[116, 101, 97]⟩) := fun o => (HeapIs.al j2 (o' := o)).cell (j := 3) (v := .string ⟨#[116, 101, 97]⟩) rfl
  have j2t3 := j2.set (j := 3) (v := .string ⟨#[116, 101, 97]⟩) rfl
  have j2r4 := j2.cell (j := 4) (v := .int .i64 1) rfl
  have j2s4 := j2.frozen 4
  have j2a4 : ∀ o, (w2.alloc o).cell? ⟨p, 4, none⟩ = some (.int .i64 1) := fun o => (HeapIs.al j2 (o' := o)).cell (j := 4) (v := .int .i64 1) rfl
  have j2t4 := j2.set (j := 4) (v := .int .i64 1) rfl
  have j2r5 := j2.cell (j := 5) (v := .slice none 0 0) rfl
  have j2s5 := j2.frozen 5
  have j2a5 : ∀ o, (w2.alloc o).cell? ⟨p, 5, none⟩ = some (.slice none 0 0) := fun o => (HeapIs.al j2 (o' := o)).cell (j := 5) (v := .slice none 0 0) rfl
  have j2t5 := j2.set (j := 5) (v := .slice none 0 0) rfl
  clear hb
  go_wp2
  go_ret
  exact ⟨rfl, by repeat (first | exact HB.out | apply nbl_al | apply nbl_drw | refine Below.setCell ?_ (Nat.le_refl _) _ | refine nbl_set ?_ (by first | exact Nat.le_refl _ | (simp; omega) | (simp; done) | omega) )⟩

set_option maxRecDepth 100000 in
set_option maxHeartbeats 1000000 in
theorem first7_set1 (p : Nat) (w : World) (hp : HeapIs w p (.cells #[.int .i64 2, .string ⟨#[97]⟩, .string ⟨#[]⟩, .string ⟨#[116, 101, 97]⟩, .int .i64 1, .slice none 0 0] 29 (0, 0))) (hE : Env w) :
    Calls Tryz.prog 32 #[.pointer (some ⟨p, 0, none⟩)] w fun e w' => e = .returned (.bool false) ∧ Below w.heap.size w w' := by
  have q0 := hp.cell (j := 0) (v := .int .i64 2) rfl
  have q1 := hp.cell (j := 1) (v := .string ⟨#[97]⟩) rfl
  have q2 := hp.cell (j := 2) (v := .string ⟨#[]⟩) rfl
  have q3 := hp.cell (j := 3) (v := .string ⟨#[116, 101, 97]⟩) rfl
  have q4 := hp.cell (j := 4) (v := .int .i64 1) rfl
  have q5 := hp.cell (j := 5) (v := .slice none 0 0) rfl
  have HB := Lib.hid (Below.refl w.heap.size w)
  go_enter Tryz.func32, Tryz.ntmps32
  have HE := Lib.hid hE
  clear hE
  go_wp2_with fail
  refine (needs_2 _ _ _ _ _ _ false (by decide) _ (HE.out.later HB.out)).mono ?_
  rintro e w1 ⟨rfl, hb⟩
  replace HB := Lib.hid (show Below w.heap.size w w1 by have h := hb; repeat (first | exact nbl_step HB.out h | replace h := nbl_new h | replace h := nbl_dr h))
  have j1 : HeapIs w1 (p) (.cells #[.int .i64 2, .string ⟨#[97]⟩, .string ⟨#[]⟩, .string ⟨#[116, 101, 97]⟩, .int .i64 1, .slice none 0 0] 29 (0, 0)) := hp.below hb
  have j1r0 := j1.cell (j := 0) (v := .int .i64 2) rfl
  have j1s0 := j1.frozen 0
  have j1a0 : ∀ o, (w1.alloc o).cell? ⟨p, 0, none⟩ = some (.int .i64 2) := fun o => (HeapIs.al j1 (o' := o)).cell (j := 0) (v := .int .i64 2) rfl
  have j1t0 := j1.set (j := 0) (v := .int .i64 2) rfl
  have j1r1 := j1.cell (j := 1) (v := .string ⟨#[97]⟩) rfl
  have j1s1 := j1.frozen 1
  have j1a1 : ∀ o, (w1.alloc o).cell? ⟨p, 1, none⟩ = some (.string ⟨#[97]⟩) := fun o => (HeapIs.al j1 (o' := o)).cell (j := 1) (v := .string ⟨#[97]⟩) rfl
  have j1t1 := j1.set (j := 1) (v := .string ⟨#[97]⟩) rfl
  have j1r2 := j1.cell (j := 2) (v := .string ⟨#[]⟩) rfl
  have j1s2 := j1.frozen 2
  have j1a2 : ∀ o, (w1.alloc o).cell? ⟨p, 2, none⟩ = some (.string ⟨#[]⟩) := fun o => (HeapIs.al j1 (o' := o)).cell (j := 2) (v := .string ⟨#[]⟩) rfl
  have j1t2 := j1.set (j := 2) (v := .string ⟨#[]⟩) rfl
  have j1r3 := j1.cell (j := 3) (v := .string ⟨#[116, 101, 97]⟩) rfl
  have j1s3 := j1.frozen 3
  have j1a3 : ∀ o, (w1.alloc o).cell? ⟨p, 3, none⟩ = some (.string ⟨#[116, 101, 97]⟩) := fun o => (HeapIs.al j1 (o' := o)).cell (j := 3) (v := .string ⟨#[116, 101, 97]⟩) rfl
  have j1t3 := j1.set (j := 3) (v := .string ⟨#[116, 101, 97]⟩) rfl
  have j1r4 := j1.cell (j := 4) (v := .int .i64 1) rfl
  have j1s4 := j1.frozen 4
  have j1a4 : ∀ o, (w1.alloc o).cell? ⟨p, 4, none⟩ = some (.int .i64 1) := fun o => (HeapIs.al j1 (o' := o)).cell (j := 4) (v := .int .i64 1) rfl
  have j1t4 := j1.set (j := 4) (v := .int .i64 1) rfl
  have j1r5 := j1.cell (j := 5) (v := .slice none 0 0) rfl
  have j1s5 := j1.frozen 5
  have j1a5 : ∀ o, (w1.alloc o).cell? ⟨p, 5, none⟩ = some (.slice none 0 0) := fun o => (HeapIs.al j1 (o' := o)).cell (j := 5) (v := .slice none 0 0) rfl
  have j1t5 := j1.set (j := 5) (v := .slice none 0 0) rfl
  clear hb
  go_wp2
  go_ret
  exact ⟨rfl, by repeat (first | exact HB.out | apply nbl_al | apply nbl_drw | refine Below.setCell ?_ (Nat.le_refl _) _ | refine nbl_set ?_ (by first | exact Nat.le_refl _ | (simp; omega) | (simp; done) | omega) )⟩

set_option maxRecDepth 100000 in
set_option maxHeartbeats 1000000 in
theorem first1_add1 (p : Nat) (w : World) (hp : HeapIs w p (.cells #[.int .i64 1, .string ⟨#[97]⟩, .string ⟨#[]⟩, .string ⟨#[116, 101, 97]⟩, .int .i64 1, .slice none 0 0] 29 (0, 0))) (hE : Env w) :
    Calls Tryz.prog 21 #[.pointer (some ⟨p, 0, none⟩)] w fun e w' => e = .returned (.bool false) ∧ Below w.heap.size w w' := by
  have q0 := hp.cell (j := 0) (v := .int .i64 1) rfl
  have q1 := hp.cell (j := 1) (v := .string ⟨#[97]⟩) rfl
  have q2 := hp.cell (j := 2) (v := .string ⟨#[]⟩) rfl
  have q3 := hp.cell (j := 3) (v := .string ⟨#[116, 101, 97]⟩) rfl
  have q4 := hp.cell (j := 4) (v := .int .i64 1) rfl
  have q5 := hp.cell (j := 5) (v := .slice none 0 0) rfl
  have HB := Lib.hid (Below.refl w.heap.size w)
  go_enter Tryz.func21, Tryz.ntmps21
  have HE := Lib.hid hE
  clear hE
  go_wp2_with fail
  refine (formed_add1 _ (HE.out.later HB.out)).mono ?_
  rintro e w1 ⟨rfl, hb⟩
  replace HB := Lib.hid (show Below w.heap.size w w1 by have h := hb; repeat (first | exact nbl_step HB.out h | replace h := nbl_new h | replace h := nbl_dr h))
  have j1 : HeapIs w1 (p) (.cells #[.int .i64 1, .string ⟨#[97]⟩, .string ⟨#[]⟩, .string ⟨#[116, 101, 97]⟩, .int .i64 1, .slice none 0 0] 29 (0, 0)) := hp.below hb
  have j1r0 := j1.cell (j := 0) (v := .int .i64 1) rfl
  have j1s0 := j1.frozen 0
  have j1a0 : ∀ o, (w1.alloc o).cell? ⟨p, 0, none⟩ = some (.int .i64 1) := fun o => (HeapIs.al j1 (o' := o)).cell (j := 0) (v := .int .i64 1) rfl
  have j1t0 := j1.set (j := 0) (v := .int .i64 1) rfl
  have j1r1 := j1.cell (j := 1) (v := .string ⟨#[97]⟩) rfl
  have j1s1 := j1.frozen 1
  have j1a1 : ∀ o, (w1.alloc o).cell? ⟨p, 1, none⟩ = some (.string ⟨#[97]⟩) := fun o => (HeapIs.al j1 (o' := o)).cell (j := 1) (v := .string ⟨#[97]⟩) rfl
  have j1t1 := j1.set (j := 1) (v := .string ⟨#[97]⟩) rfl
  have j1r2 := j1.cell (j := 2) (v := .string ⟨#[]⟩) rfl
  have j1s2 := j1.frozen 2
  have j1a2 : ∀ o, (w1.alloc o).cell? ⟨p, 2, none⟩ = some (.string ⟨#[]⟩) := fun o => (HeapIs.al j1 (o' := o)).cell (j := 2) (v := .string ⟨#[]⟩) rfl
  have j1t2 := j1.set (j := 2) (v := .string ⟨#[]⟩) rfl
  have j1r3 := j1.cell (j := 3) (v := .string ⟨#[116, 101, 97]⟩) rfl
  have j1s3 := j1.frozen 3
  have j1a3 : ∀ o, (w1.alloc o).cell? ⟨p, 3, none⟩ = some (.string ⟨#[116, 101, 97]⟩) := fun o => (HeapIs.al j1 (o' := o)).cell (j := 3) (v := .string ⟨#[116, 101, 97]⟩) rfl
  have j1t3 := j1.set (j := 3) (v := .string ⟨#[116, 101, 97]⟩) rfl
  have j1r4 := j1.cell (j := 4) (v := .int .i64 1) rfl
  have j1s4 := j1.frozen 4
  have j1a4 : ∀ o, (w1.alloc o).cell? ⟨p, 4, none⟩ = some (.int .i64 1) := fun o => (HeapIs.al j1 (o' := o)).cell (j := 4) (v := .int .i64 1) rfl
  have j1t4 := j1.set (j := 4) (v := .int .i64 1) rfl
  have j1r5 := j1.cell (j := 5) (v := .slice none 0 0) rfl
  have j1s5 := j1.frozen 5
  have j1a5 : ∀ o, (w1.alloc o).cell? ⟨p, 5, none⟩ = some (.slice none 0 0) := fun o => (HeapIs.al j1 (o' := o)).cell (j := 5) (v := .slice none 0 0) rfl
  have j1t5 := j1.set (j := 5) (v := .slice none 0 0) rfl
  clear hb
  go_wp2
  go_ret
  exact ⟨rfl, by repeat (first | exact HB.out | apply nbl_al | apply nbl_drw | refine Below.setCell ?_ (Nat.le_refl _) _ | refine nbl_set ?_ (by first | exact Nat.le_refl _ | (simp; omega) | (simp; done) | omega) )⟩

set_option maxRecDepth 100000 in
set_option maxHeartbeats 1000000 in
theorem first3_add1 (p : Nat) (w : World) (hp : HeapIs w p (.cells #[.int .i64 1, .string ⟨#[97]⟩, .string ⟨#[]⟩, .string ⟨#[116, 101, 97]⟩, .int .i64 1, .slice none 0 0] 29 (0, 0))) (hE : Env w) :
    Calls Tryz.prog 24 #[.pointer (some ⟨p, 0, none⟩)] w fun e w' => e = .returned (.bool false) ∧ Below w.heap.size w w' := by
  have q0 := hp.cell (j := 0) (v := .int .i64 1) rfl
  have q1 := hp.cell (j := 1) (v := .string ⟨#[97]⟩) rfl
  have q2 := hp.cell (j := 2) (v := .string ⟨#[]⟩) rfl
  have q3 := hp.cell (j := 3) (v := .string ⟨#[116, 101, 97]⟩) rfl
  have q4 := hp.cell (j := 4) (v := .int .i64 1) rfl
  have q5 := hp.cell (j := 5) (v := .slice none 0 0) rfl
  have HB := Lib.hid (Below.refl w.heap.size w)
  go_enter Tryz.func24, Tryz.ntmps24
  have HE := Lib.hid hE
  clear hE
  go_wp2_with fail
  refine (needs_1 _ _ _ _ _ _ true (by decide) _ (HE.out.later HB.out)).mono ?_
  rintro e w1 ⟨rfl, hb⟩
  replace HB := Lib.hid (show Below w.heap.size w w1 by have h := hb; repeat (first | exact nbl_step HB.out h | replace h := nbl_new h | replace h := nbl_dr h))
  have j1 : HeapIs w1 (p) (.cells #[.int .i64 1, .string ⟨#[97]⟩, .string ⟨#[]⟩, .string ⟨#[116, 101, 97]⟩, .int .i64 1, .slice none 0 0] 29 (0, 0)) := hp.below hb
  have j1r0 := j1.cell (j := 0) (v := .int .i64 1) rfl
  have j1s0 := j1.frozen 0
  have j1a0 : ∀ o, (w1.alloc o).cell? ⟨p, 0, none⟩ = some (.int .i64 1) := fun o => (HeapIs.al j1 (o' := o)).cell (j := 0) (v := .int .i64 1) rfl
  have j1t0 := j1.set (j := 0) (v := .int .i64 1) rfl
  have j1r1 := j1.cell (j := 1) (v := .string ⟨#[97]⟩) rfl
  have j1s1 := j1.frozen 1
  have j1a1 : ∀ o, (w1.alloc o).cell? ⟨p, 1, none⟩ = some (.string ⟨#[97]⟩) := fun o => (HeapIs.al j1 (o' := o)).cell (j := 1) (v := .string ⟨#[97]⟩) rfl
  have j1t1 := j1.set (j := 1) (v := .string ⟨#[97]⟩) rfl
  have j1r2 := j1.cell (j := 2) (v := .string ⟨#[]⟩) rfl
  have j1s2 := j1.frozen 2
  have j1a2 : ∀ o, (w1.alloc o).cell? ⟨p, 2, none⟩ = some (.string ⟨#[]⟩) := fun o => (HeapIs.al j1 (o' := o)).cell (j := 2) (v := .string ⟨#[]⟩) rfl
  have j1t2 := j1.set (j := 2) (v := .string ⟨#[]⟩) rfl
  have j1r3 := j1.cell (j := 3) (v := .string ⟨#[116, 101, 97]⟩) rfl
  have j1s3 := j1.frozen 3
  have j1a3 : ∀ o, (w1.alloc o).cell? ⟨p, 3, none⟩ = some (.string ⟨#[116, 101, 97]⟩) := fun o => (HeapIs.al j1 (o' := o)).cell (j := 3) (v := .string ⟨#[116, 101, 97]⟩) rfl
  have j1t3 := j1.set (j := 3) (v := .string ⟨#[116, 101, 97]⟩) rfl
  have j1r4 := j1.cell (j := 4) (v := .int .i64 1) rfl
  have j1s4 := j1.frozen 4
  have j1a4 : ∀ o, (w1.alloc o).cell? ⟨p, 4, none⟩ = some (.int .i64 1) := fun o => (HeapIs.al j1 (o' := o)).cell (j := 4) (v := .int .i64 1) rfl
  have j1t4 := j1.set (j := 4) (v := .int .i64 1) rfl
  have j1r5 := j1.cell (j := 5) (v := .slice none 0 0) rfl
  have j1s5 := j1.frozen 5
  have j1a5 : ∀ o, (w1.alloc o).cell? ⟨p, 5, none⟩ = some (.slice none 0 0) := fun o => (HeapIs.al j1 (o' := o)).cell (j := 5) (v := .slice none 0 0) rfl
  have j1t5 := j1.set (j := 5) (v := .slice none 0 0) rfl
  clear hb
  go_wp2_with fail
  refine (key_a _).mono ?_
  rintro e w2 ⟨rfl, hb⟩
  replace HB := Lib.hid (show Below w.heap.size w w2 by have h := hb; repeat (first | exact nbl_step HB.out h | replace h := nbl_new h | replace h := nbl_dr h))
  have j2 : HeapIs w2 (p) (.cells #[.int .i64 1, .string ⟨#[97]⟩, .string ⟨#[]⟩, .string ⟨#[116, 101, 97]⟩, .int .i64 1, .slice none 0 0] 29 (0, 0)) := j1.below hb
  have j2r0 := j2.cell (j := 0) (v := .int .i64 1) rfl
  have j2s0 := j2.frozen 0
  have j2a0 : ∀ o, (w2.alloc o).cell? ⟨p, 0, none⟩ = some (.int .i64 1) := fun o => (HeapIs.al j2 (o' := o)).cell (j := 0) (v := .int .i64 1) rfl
  have j2t0 := j2.set (j := 0) (v := .int .i64 1) rfl
  have j2r1 := j2.cell (j := 1) (v := .string ⟨#[97]⟩) rfl
  have j2s1 := j2.frozen 1
  have j2a1 : ∀ o, (w2.alloc o).cell? ⟨p, 1, none⟩ = some (.string ⟨#[97]⟩) := fun o => (HeapIs.al j2 (o' := o)).cell (j := 1) (v := .string ⟨#[97]⟩) rfl
  have j2t1 := j2.set (j := 1) (v := .string ⟨#[97]⟩) rfl
  have j2r2 := j2.cell (j := 2) (v := .string ⟨#[]⟩) rfl
  have j2s2 := j2.frozen 2
  have j2a2 : ∀ o, (w2.alloc o).cell? ⟨p, 2, none⟩ = some (.string ⟨#[]⟩) := fun o => (HeapIs.al j2 (o' := o)).cell (j := 2) (v := .string ⟨#[]⟩) rfl
  have j2t2 := j2.set (j := 2) (v := .string ⟨#[]⟩) rfl
  have j2r3 := j2.cell (j := 3) (v := .string ⟨#[116, 101, 97]⟩) rfl
  have j2s3 := j2.frozen 3
  have j2a3 : ∀ o, (w2.alloc o).cell? ⟨p, 3, none⟩ = some (.string ⟨#[116, 101, 97]⟩) := fun o => (HeapIs.al j2 (o' := o)).cell (j := 3) (v := .string ⟨#[116, 101, 97]⟩) rfl
  have j2t3 := j2.set (j := 3) (v := .string ⟨#[116, 101, 97]⟩) rfl
  have j2r4 := j2.cell (j := 4) (v := .int .i64 1) rfl
  have j2s4 := j2.frozen 4
  have j2a4 : ∀ o, (w2.alloc o).cell? ⟨p, 4, none⟩ = some (.int .i64 1) := fun o => (HeapIs.al j2 (o' := o)).cell (j := 4) (v := .int .i64 1) rfl
  have j2t4 := j2.set (j := 4) (v := .int .i64 1) rfl
  have j2r5 := j2.cell (j := 5) (v := .slice none 0 0) rfl
  have j2s5 := j2.frozen 5
  have j2a5 : ∀ o, (w2.alloc o).cell? ⟨p, 5, none⟩ = some (.slice none 0 0) := fun o => (HeapIs.al j2 (o' := o)).cell (j := 5) (v := .slice none 0 0) rfl
  have j2t5 := j2.set (j := 5) (v := .slice none 0 0) rfl
  clear hb
  go_wp2
  go_ret
  exact ⟨rfl, by repeat (first | exact HB.out | apply nbl_al | apply nbl_drw | refine Below.setCell ?_ (Nat.le_refl _) _ | refine nbl_set ?_ (by first | exact Nat.le_refl _ | (simp; omega) | (simp; done) | omega) )⟩

set_option maxRecDepth 100000 in
set_option maxHeartbeats 1000000 in
theorem first4_add1 (p : Nat) (w : World) (hp : HeapIs w p (.cells #[.int .i64 1, .string ⟨#[97]⟩, .string ⟨#[]⟩, .string ⟨#[116, 101, 97]⟩, .int .i64 1, .slice none 0 0] 29 (0, 0))) (hE : Env w) :
    Calls Tryz.prog 27 #[.pointer (some ⟨p, 0, none⟩)] w fun e w' => e = .returned (.bool false) ∧ Below w.heap.size w w' := by
  have q0 := hp.cell (j := 0) (v := .int .i64 1) rfl
  have q1 := hp.cell (j := 1) (v := .string ⟨#[97]⟩) rfl
  have q2 := hp.cell (j := 2) (v := .string ⟨#[]⟩) rfl
  have q3 := hp.cell (j := 3) (v := .string ⟨#[116, 101, 97]⟩) rfl
  have q4 := hp.cell (j := 4) (v := .int .i64 1) rfl
  have q5 := hp.cell (j := 5) (v := .slice none 0 0) rfl
  have HB := Lib.hid (Below.refl w.heap.size w)
  go_enter Tryz.func27, Tryz.ntmps27
  have HE := Lib.hid hE
  clear hE
  go_wp2_with fail
  refine (needs_1 _ _ _ _ _ _ false (by decide) _ (HE.out.later HB.out)).mono ?_
  rintro e w1 ⟨rfl, hb⟩
  replace HB := Lib.hid (show Below w.heap.size w w1 by have h := hb; repeat (first | exact nbl_step HB.out h | replace h := nbl_new h | replace h := nbl_dr h))
  have j1 : HeapIs w1 (p) (.cells #[.int .i64 1, .string ⟨#[97]⟩, .string ⟨#[]⟩, .string ⟨#[116, 101, 97]⟩, .int .i64 1, .slice none 0 0] 29 (0, 0)) := hp.below hb
  have j1r0 := j1.cell (j := 0) (v := .int .i64 1) rfl
  have j1s0 := j1.frozen 0
  have j1a0 : ∀ o, (w1.alloc o).cell? ⟨p, 0, none⟩ = some (.int .i64 1) := fun o => (HeapIs.al j1 (o' := o)).cell (j := 0) (v := .int .i64 1) rfl
  have j1t0 := j1.set (j := 0) (v := .int .i64 1) rfl
  have j1r1 := j1.cell (j := 1) (v := .string ⟨#[97]⟩) rfl
  have j1s1 := j1.frozen 1
  have j1a1 : ∀ o, (w1.alloc o).cell? ⟨p, 1, none⟩ = some (.string ⟨#[97]⟩) := fun o => (HeapIs.al j1 (o' := o)).cell (j := 1) (v := .string ⟨#[97]⟩) rfl
  have j1t1 := j1.set (j := 1) (v := .string ⟨#[97]⟩) rfl
  have j1r2 := j1.cell (j := 2) (v := .string ⟨#[]⟩) rfl
  have j1s2 := j1.frozen 2
  have j1a2 : ∀ o, (w1.alloc o).cell? ⟨p, 2, none⟩ = some (.string ⟨#[]⟩) := fun o => (HeapIs.al j1 (o' := o)).cell (j := 2) (v := .string ⟨#[]⟩) rfl
  have j1t2 := j1.set (j := 2) (v := .string ⟨#[]⟩) rfl
  have j1r3 := j1.cell (j := 3) (v := .string ⟨#[116, 101, 97]⟩) rfl
  have j1s3 := j1.frozen 3
  have j1a3 : ∀ o, (w1.alloc o).cell? ⟨p, 3, none⟩ = some (.string ⟨#[116, 101, 97]⟩) := fun o => (HeapIs.al j1 (o' := o)).cell (j := 3) (v := .string ⟨#[116, 101, 97]⟩) rfl
  have j1t3 := j1.set (j := 3) (v := .string ⟨#[116, 101, 97]⟩) rfl
  have j1r4 := j1.cell (j := 4) (v := .int .i64 1) rfl
  have j1s4 := j1.frozen 4
  have j1a4 : ∀ o, (w1.alloc o).cell? ⟨p, 4, none⟩ = some (.int .i64 1) := fun o => (HeapIs.al j1 (o' := o)).cell (j := 4) (v := .int .i64 1) rfl
  have j1t4 := j1.set (j := 4) (v := .int .i64 1) rfl
  have j1r5 := j1.cell (j := 5) (v := .slice none 0 0) rfl
  have j1s5 := j1.frozen 5
  have j1a5 : ∀ o, (w1.alloc o).cell? ⟨p, 5, none⟩ = some (.slice none 0 0) := fun o => (HeapIs.al j1 (o' := o)).cell (j := 5) (v := .slice none 0 0) rfl
  have j1t5 := j1.set (j := 5) (v := .slice none 0 0) rfl
  clear hb
  go_wp2
  go_ret
  exact ⟨rfl, by repeat (first | exact HB.out | apply nbl_al | apply nbl_drw | refine Below.setCell ?_ (Nat.le_refl _) _ | refine nbl_set ?_ (by first | exact Nat.le_refl _ | (simp; omega) | (simp; done) | omega) )⟩

set_option maxRecDepth 100000 in
set_option maxHeartbeats 1000000 in
theorem first5_add1 (p : Nat) (w : World) (hp : HeapIs w p (.cells #[.int .i64 1, .string ⟨#[97]⟩, .string ⟨#[]⟩, .string ⟨#[116, 101, 97]⟩, .int .i64 1, .slice none 0 0] 29 (0, 0))) (hE : Env w) :
    Calls Tryz.prog 28 #[.pointer (some ⟨p, 0, none⟩)] w fun e w' => e = .returned (.bool false) ∧ Below w.heap.size w w' := by
  have q0 := hp.cell (j := 0) (v := .int .i64 1) rfl
  have q1 := hp.cell (j := 1) (v := .string ⟨#[97]⟩) rfl
  have q2 := hp.cell (j := 2) (v := .string ⟨#[]⟩) rfl
  have q3 := hp.cell (j := 3) (v := .string ⟨#[116, 101, 97]⟩) rfl
  have q4 := hp.cell (j := 4) (v := .int .i64 1) rfl
  have q5 := hp.cell (j := 5) (v := .slice none 0 0) rfl
  have HB := Lib.hid (Below.refl w.heap.size w)
  go_enter Tryz.func28, Tryz.ntmps28
  have HE := Lib.hid hE
  clear hE
  go_wp2_with fail
  refine (needs_1 _ _ _ _ _ _ true (by decide) _ (HE.out.later HB.out)).mono ?_
  rintro e w1 ⟨rfl, hb⟩
  replace HB := Lib.hid (show Below w.heap.size w w1 by have h := hb; repeat (first | exact nbl_step HB.out h | replace h := nbl_new h | replace h := nbl_dr h))
  have j1 : HeapIs w1 (p) (.cells #[.int .i64 1, .string ⟨#[97]⟩, .string ⟨#[]⟩, .string ⟨#[116, 101, 97]⟩, .int .i64 1, .slice none 0 0] 29 (0, 0)) := hp.below hb
  have j1r0 := j1.cell (j := 0) (v := .int .i64 1) rfl
  have j1s0 := j1.frozen 0
  have j1a0 : ∀ o, (w1.alloc o).cell? ⟨p, 0, none⟩ = some (.int .i64 1) := fun o => (HeapIs.al j1 (o' := o)).cell (j := 0) (v := .int .i64 1) rfl
  have j1t0 := j1.set (j := 0) (v := .int .i64 1) rfl
  have j1r1 := j1.cell (j := 1) (v := .string ⟨#[97]⟩) rfl
  have j1s1 := j1.frozen 1
  have j1a1 : ∀ o, (w1.alloc o).cell? ⟨p, 1, none⟩ = some (.string ⟨#[97]⟩) := fun o => (HeapIs.al j1 (o' := o)).cell (j := 1) (v := .string ⟨#[97]⟩) rfl
  have j1t1 := j1.set (j := 1) (v := .string ⟨#[97]⟩) rfl
  have j1r2 := j1.cell (j := 2) (v := .string ⟨#[]⟩) rfl
  have j1s2 := j1.frozen 2
  have j1a2 : ∀ o, (w1.alloc o).cell? ⟨p, 2, none⟩ = some (.string ⟨#[]⟩) := fun o => (HeapIs.al j1 (o' := o)).cell (j := 2) (v := .string ⟨#[]⟩) rfl
  have j1t2 := j1.set (j := 2) (v := .string ⟨#[]⟩) rfl
  have j1r3 := j1.cell (j := 3) (v := .string ⟨#[116, 101, 97]⟩) rfl
  have j1s3 := j1.frozen 3
  have j1a3 : ∀ o, (w1.alloc o).cell? ⟨p, 3, none⟩ = some (.string ⟨#[116, 101, 97]⟩) := fun o => (HeapIs.al j1 (o' := o)).cell (j := 3) (v := .string ⟨#[116, 101, 97]⟩) rfl
  have j1t3 := j1.set (j := 3) (v := .string ⟨#[116, 101, 97]⟩) rfl
  have j1r4 := j1.cell (j := 4) (v := .int .i64 1) rfl
  have j1s4 := j1.frozen 4
  have j1a4 : ∀ o, (w1.alloc o).cell? ⟨p, 4, none⟩ = some (.int .i64 1) := fun o => (HeapIs.al j1 (o' := o)).cell (j := 4) (v := .int .i64 1) rfl
  have j1t4 := j1.set (j := 4) (v := .int .i64 1) rfl
  have j1r5 := j1.cell (j := 5) (v := .slice none 0 0) rfl
  have j1s5 := j1.frozen 5
  have j1a5 : ∀ o, (w1.alloc o).cell? ⟨p, 5, none⟩ = some (.slice none 0 0) := fun o => (HeapIs.al j1 (o' := o)).cell (j := 5) (v := .slice none 0 0) rfl
  have j1t5 := j1.set (j := 5) (v := .slice none 0 0) rfl
  clear hb
  go_wp2_with fail
  refine (item_tea _ (HE.out.later HB.out).max).mono ?_
  rintro e w2 ⟨rfl, hb⟩
  replace HB := Lib.hid (show Below w.heap.size w w2 by have h := hb; repeat (first | exact nbl_step HB.out h | replace h := nbl_new h | replace h := nbl_dr h))
  have j2 : HeapIs w2 (p) (.cells #[.int .i64 1, .string ⟨#[97]⟩, .string ⟨#[]⟩, .string ⟨#[116, 101, 97]⟩, .int .i64 1, .slice none 0 0] 29 (0, 0)) := j1.below hb
  have j2r0 := j2.cell (j := 0) (v := .int .i64 1) rfl
  have j2s0 := j2.frozen 0
  have j2a0 : ∀ o, (w2.alloc o).cell? ⟨p, 0, none⟩ = some (.int .i64 1) := fun o => (HeapIs.al j2 (o' := o)).cell (j := 0) (v := .int .i64 1) rfl
  have j2t0 := j2.set (j := 0) (v := .int .i64 1) rfl
  have j2r1 := j2.cell (j := 1) (v := .string ⟨#[97]⟩) rfl
  have j2s1 := j2.frozen 1
  have j2a1 : ∀ o, (w2.alloc o).cell? ⟨p, 1, none⟩ = some (.string ⟨#[97]⟩) := fun o => (HeapIs.al j2 (o' := o)).cell (j := 1) (v := .string ⟨#[97]⟩) rfl
  have j2t1 := j2.set (j := 1) (v := .string ⟨#[97]⟩) rfl
  have j2r2 := j2.cell (j := 2) (v := .string ⟨#[]⟩) rfl
  have j2s2 := j2.frozen 2
  have j2a2 : ∀ o, (w2.alloc o).cell? ⟨p, 2, none⟩ = some (.string ⟨#[]⟩) := fun o => (HeapIs.al j2 (o' := o)).cell (j := 2) (v := .string ⟨#[]⟩) rfl
  have j2t2 := j2.set (j := 2) (v := .string ⟨#[]⟩) rfl
  have j2r3 := j2.cell (j := 3) (v := .string ⟨#[116, 101, 97]⟩) rfl
  have j2s3 := j2.frozen 3
  have j2a3 : ∀ o, (w2.alloc o).cell? ⟨p, 3, none⟩ = some (.string ⟨#[116, 101, 97]⟩) := fun o => (HeapIs.al j2 (o' := o)).cell (j := 3) (v := .string ⟨#[116, 101, 97]⟩) rfl
  have j2t3 := j2.set (j := 3) (v := .string ⟨#[116, 101, 97]⟩) rfl
  have j2r4 := j2.cell (j := 4) (v := .int .i64 1) rfl
  have j2s4 := j2.frozen 4
  have j2a4 : ∀ o, (w2.alloc o).cell? ⟨p, 4, none⟩ = some (.int .i64 1) := fun o => (HeapIs.al j2 (o' := o)).cell (j := 4) (v := .int .i64 1) rfl
  have j2t4 := j2.set (j := 4) (v := .int .i64 1) rfl
  have j2r5 := j2.cell (j := 5) (v := .slice none 0 0) rfl
  have j2s5 := j2.frozen 5
  have j2a5 : ∀ o, (w2.alloc o).cell? ⟨p, 5, none⟩ = some (.slice none 0 0) := fun o => (HeapIs.al j2 (o' := o)).cell (j := 5) (v := .slice none 0 0) rfl
  have j2t5 := j2.set (j := 5) (v := .slice none 0 0) rfl
  clear hb
  go_wp2
  go_ret
  exact ⟨rfl, by repeat (first | exact HB.out | apply nbl_al | apply nbl_drw | refine Below.setCell ?_ (Nat.le_refl _) _ | refine nbl_set ?_ (by first | exact Nat.le_refl _ | (simp; omega) | (simp; done) | omega) )⟩

set_option maxRecDepth 100000 in
set_option maxHeartbeats 1000000 in
theorem first6_add1 (p : Nat) (w : World) (hp : HeapIs w p (.cells #[.int .i64 1, .string ⟨#[97]⟩, .string ⟨#[]⟩, .string ⟨#[116, 101, 97]⟩, .int .i64 1, .slice none 0 0] 29 (0, 0))) (hE : Env w) :
    Calls Tryz.prog 30 #[.pointer (some ⟨p, 0, none⟩)] w fun e w' => e = .returned (.bool false) ∧ Below w.heap.size w w' := by
  have q0 := hp.cell (j := 0) (v := .int .i64 1) rfl
  have q1 := hp.cell (j := 1) (v := .string ⟨#[97]⟩) rfl
  have q2 := hp.cell (j := 2) (v := .string ⟨#[]⟩) rfl
  have q3 := hp.cell (j := 3) (v := .string ⟨#[116, 101, 97]⟩) rfl
  have q4 := hp.cell (j := 4) (v := .int .i64 1) rfl
  have q5 := hp.cell (j := 5) (v := .slice none 0 0) rfl
  have HB := Lib.hid (Below.refl w.heap.size w)
  go_enter Tryz.func30, Tryz.ntmps30
  have HE := Lib.hid hE
  clear hE
  go_wp2_with fail
  refine (needs_1 _ _ _ _ _ _ true (by decide) _ (HE.out.later HB.out)).mono ?_
  rintro e w1 ⟨rfl, hb⟩
  replace HB := Lib.hid (show Below w.heap.size w w1 by have h := hb; repeat (first | exact nbl_step HB.out h | replace h := nbl_new h | replace h := nbl_dr h))
  have j1 : HeapIs w1 (p) (.cells #[.int .i64 1, .string ⟨#[97]⟩, .string ⟨#[]⟩, .string ⟨#[116, 101, 97]⟩, .int .i64 1, .slice none 0 0] 29 (0, 0)) := hp.below hb
  have j1r0 := j1.cell (j := 0) (v := .int .i64 1) rfl
  have j1s0 := j1.frozen 0
  have j1a0 : ∀ o, (w1.alloc o).cell? ⟨p, 0, none⟩ = some (.int .i64 1) := fun o => (HeapIs.al j1 (o' := o)).cell (j := 0) (v := .int .i64 1) rfl
  have j1t0 := j1.set (j := 0) (v := .int .i64 1) rfl
  have j1r1 := j1.cell (j := 1) (v := .string ⟨#[97]⟩) rfl
  have j1s1 := j1.frozen 1
  have j1a1 : ∀ o, (w1.alloc o).cell? ⟨p, 1, none⟩ = some (.string ⟨#[97]⟩) := fun o => (HeapIs.al j1 (o' := o)).cell (j := 1) (v := .string ⟨#[97]⟩) rfl
  have j1t1 := j1.set (j := 1) (v := .string ⟨#[97]⟩) rfl
  have j1r2 := j1.cell (j := 2) (v := .string ⟨#[]⟩) rfl
  have j1s2 := j1.frozen 2
  have j1a2 : ∀ o, (w1.alloc o).cell? ⟨p, 2, none⟩ = some (.string ⟨#[]⟩) := fun o => (HeapIs.al j1 (o' := o)).cell (j := 2) (v := .string ⟨#[]⟩) rfl
  have j1t2 := j1.set (j := 2) (v := .string ⟨#[]⟩) rfl
  have j1r3 := j1.cell (j := 3) (v := .string ⟨#[116, 101, 97]⟩) rfl
  have j1s3 := j1.frozen 3
  have j1a3 : ∀ o, (w1.alloc o).cell? ⟨p, 3, none⟩ = some (.string ⟨#[116, 101, 97]⟩) := fun o => (HeapIs.al j1 (o' := o)).cell (j := 3) (v := .string ⟨#[116, 101, 97]⟩) rfl
  have j1t3 := j1.set (j := 3) (v := .string ⟨#[116, 101, 97]⟩) rfl
  have j1r4 := j1.cell (j := 4) (v := .int .i64 1) rfl
  have j1s4 := j1.frozen 4
  have j1a4 : ∀ o, (w1.alloc o).cell? ⟨p, 4, none⟩ = some (.int .i64 1) := fun o => (HeapIs.al j1 (o' := o)).cell (j := 4) (v := .int .i64 1) rfl
  have j1t4 := j1.set (j := 4) (v := .int .i64 1) rfl
  have j1r5 := j1.cell (j := 5) (v := .slice none 0 0) rfl
  have j1s5 := j1.frozen 5
  have j1a5 : ∀ o, (w1.alloc o).cell? ⟨p, 5, none⟩ = some (.slice none 0 0) := fun o => (HeapIs.al j1 (o' := o)).cell (j := 5) (v := .slice none 0 0) rfl
  have j1t5 := j1.set (j := 5) (v := .slice none 0 0) rfl
  clear hb
  go_wp2_with fail
  refine (qty_valid 1 _).mono ?_
  rintro e w2 ⟨rfl, hb⟩
  replace HB := Lib.hid (show Below w.heap.size w w2 by have h := hb; repeat (first | exact nbl_step HB.out h | replace h := nbl_new h | replace h := nbl_dr h))
  have j2 : HeapIs w2 (p) (.cells #[.int .i64 1, .string ⟨#[97]⟩, .string ⟨#[]⟩, .string ⟨#[116, 101, 97]⟩, .int .i64 1, .slice none 0 0] 29 (0, 0)) := j1.below hb
  have j2r0 := j2.cell (j := 0) (v := .int .i64 1) rfl
  have j2s0 := j2.frozen 0
  have j2a0 : ∀ o, (w2.alloc o).cell? ⟨p, 0, none⟩ = some (.int .i64 1) := fun o => (HeapIs.al j2 (o' := o)).cell (j := 0) (v := .int .i64 1) rfl
  have j2t0 := j2.set (j := 0) (v := .int .i64 1) rfl
  have j2r1 := j2.cell (j := 1) (v := .string ⟨#[97]⟩) rfl
  have j2s1 := j2.frozen 1
  have j2a1 : ∀ o, (w2.alloc o).cell? ⟨p, 1, none⟩ = some (.string ⟨#[97]⟩) := fun o => (HeapIs.al j2 (o' := o)).cell (j := 1) (v := .string ⟨#[97]⟩) rfl
  have j2t1 := j2.set (j := 1) (v := .string ⟨#[97]⟩) rfl
  have j2r2 := j2.cell (j := 2) (v := .string ⟨#[]⟩) rfl
  have j2s2 := j2.frozen 2
  have j2a2 : ∀ o, (w2.alloc o).cell? ⟨p, 2, none⟩ = some (.string ⟨#[]⟩) := fun o => (HeapIs.al j2 (o' := o)).cell (j := 2) (v := .string ⟨#[]⟩) rfl
  have j2t2 := j2.set (j := 2) (v := .string ⟨#[]⟩) rfl
  have j2r3 := j2.cell (j := 3) (v := .string ⟨#[116, 101, 97]⟩) rfl
  have j2s3 := j2.frozen 3
  have j2a3 : ∀ o, (w2.alloc o).cell? ⟨p, 3, none⟩ = some (.string ⟨#[116, 101, 97]⟩) := fun o => (HeapIs.al j2 (o' := o)).cell (j := 3) (v := .string ⟨#[116, 101, 97]⟩) rfl
  have j2t3 := j2.set (j := 3) (v := .string ⟨#[116, 101, 97]⟩) rfl
  have j2r4 := j2.cell (j := 4) (v := .int .i64 1) rfl
  have j2s4 := j2.frozen 4
  have j2a4 : ∀ o, (w2.alloc o).cell? ⟨p, 4, none⟩ = some (.int .i64 1) := fun o => (HeapIs.al j2 (o' := o)).cell (j := 4) (v := .int .i64 1) rfl
  have j2t4 := j2.set (j := 4) (v := .int .i64 1) rfl
  have j2r5 := j2.cell (j := 5) (v := .slice none 0 0) rfl
  have j2s5 := j2.frozen 5
  have j2a5 : ∀ o, (w2.alloc o).cell? ⟨p, 5, none⟩ = some (.slice none 0 0) := fun o => (HeapIs.al j2 (o' := o)).cell (j := 5) (v := .slice none 0 0) rfl
  have j2t5 := j2.set (j := 5) (v := .slice none 0 0) rfl
  clear hb
  go_wp2
  go_ret
  exact ⟨rfl, by repeat (first | exact HB.out | apply nbl_al | apply nbl_drw | refine Below.setCell ?_ (Nat.le_refl _) _ | refine nbl_set ?_ (by first | exact Nat.le_refl _ | (simp; omega) | (simp; done) | omega) )⟩

set_option maxRecDepth 100000 in
set_option maxHeartbeats 1000000 in
theorem first7_add1 (p : Nat) (w : World) (hp : HeapIs w p (.cells #[.int .i64 1, .string ⟨#[97]⟩, .string ⟨#[]⟩, .string ⟨#[116, 101, 97]⟩, .int .i64 1, .slice none 0 0] 29 (0, 0))) (hE : Env w) :
    Calls Tryz.prog 32 #[.pointer (some ⟨p, 0, none⟩)] w fun e w' => e = .returned (.bool false) ∧ Below w.heap.size w w' := by
  have q0 := hp.cell (j := 0) (v := .int .i64 1) rfl
  have q1 := hp.cell (j := 1) (v := .string ⟨#[97]⟩) rfl
  have q2 := hp.cell (j := 2) (v := .string ⟨#[]⟩) rfl
  have q3 := hp.cell (j := 3) (v := .string ⟨#[116, 101, 97]⟩) rfl
  have q4 := hp.cell (j := 4) (v := .int .i64 1) rfl
  have q5 := hp.cell (j := 5) (v := .slice none 0 0) rfl
  have HB := Lib.hid (Below.refl w.heap.size w)
  go_enter Tryz.func32, Tryz.ntmps32
  have HE := Lib.hid hE
  clear hE
  go_wp2_with fail
  refine (needs_1 _ _ _ _ _ _ false (by decide) _ (HE.out.later HB.out)).mono ?_
  rintro e w1 ⟨rfl, hb⟩
  replace HB := Lib.hid (show Below w.heap.size w w1 by have h := hb; repeat (first | exact nbl_step HB.out h | replace h := nbl_new h | replace h := nbl_dr h))
  have j1 : HeapIs w1 (p) (.cells #[.int .i64 1, .string ⟨#[97]⟩, .string ⟨#[]⟩, .string ⟨#[116, 101, 97]⟩, .int .i64 1, .slice none 0 0] 29 (0, 0)) := hp.below hb
  have j1r0 := j1.cell (j := 0) (v := .int .i64 1) rfl
  have j1s0 := j1.frozen 0
  have j1a0 : ∀ o, (w1.alloc o).cell? ⟨p, 0, none⟩ = some (.int .i64 1) := fun o => (HeapIs.al j1 (o' := o)).cell (j := 0) (v := .int .i64 1) rfl
  have j1t0 := j1.set (j := 0) (v := .int .i64 1) rfl
  have j1r1 := j1.cell (j := 1) (v := .string ⟨#[97]⟩) rfl
  have j1s1 := j1.frozen 1
  have j1a1 : ∀ o, (w1.alloc o).cell? ⟨p, 1, none⟩ = some (.string ⟨#[97]⟩) := fun o => (HeapIs.al j1 (o' := o)).cell (j := 1) (v := .string ⟨#[97]⟩) rfl
  have j1t1 := j1.set (j := 1) (v := .string ⟨#[97]⟩) rfl
  have j1r2 := j1.cell (j := 2) (v := .string ⟨#[]⟩) rfl
  have j1s2 := j1.frozen 2
  have j1a2 : ∀ o, (w1.alloc o).cell? ⟨p, 2, none⟩ = some (.string ⟨#[]⟩) := fun o => (HeapIs.al j1 (o' := o)).cell (j := 2) (v := .string ⟨#[]⟩) rfl
  have j1t2 := j1.set (j := 2) (v := .string ⟨#[]⟩) rfl
  have j1r3 := j1.cell (j := 3) (v := .string ⟨#[116, 101, 97]⟩) rfl
  have j1s3 := j1.frozen 3
  have j1a3 : ∀ o, (w1.alloc o).cell? ⟨p, 3, none⟩ = some (.string ⟨#[116, 101, 97]⟩) := fun o => (HeapIs.al j1 (o' := o)).cell (j := 3) (v := .string ⟨#[116, 101, 97]⟩) rfl
  have j1t3 := j1.set (j := 3) (v := .string ⟨#[116, 101, 97]⟩) rfl
  have j1r4 := j1.cell (j := 4) (v := .int .i64 1) rfl
  have j1s4 := j1.frozen 4
  have j1a4 : ∀ o, (w1.alloc o).cell? ⟨p, 4, none⟩ = some (.int .i64 1) := fun o => (HeapIs.al j1 (o' := o)).cell (j := 4) (v := .int .i64 1) rfl
  have j1t4 := j1.set (j := 4) (v := .int .i64 1) rfl
  have j1r5 := j1.cell (j := 5) (v := .slice none 0 0) rfl
  have j1s5 := j1.frozen 5
  have j1a5 : ∀ o, (w1.alloc o).cell? ⟨p, 5, none⟩ = some (.slice none 0 0) := fun o => (HeapIs.al j1 (o' := o)).cell (j := 5) (v := .slice none 0 0) rfl
  have j1t5 := j1.set (j := 5) (v := .slice none 0 0) rfl
  clear hb
  go_wp2
  go_ret
  exact ⟨rfl, by repeat (first | exact HB.out | apply nbl_al | apply nbl_drw | refine Below.setCell ?_ (Nat.le_refl _) _ | refine nbl_set ?_ (by first | exact Nat.le_refl _ | (simp; omega) | (simp; done) | omega) )⟩

set_option maxRecDepth 100000 in
set_option maxHeartbeats 1000000 in
theorem first1_merge (p : Nat) (w : World) (hp : HeapIs w p (.cells #[.int .i64 9, .string ⟨#[]⟩, .string ⟨#[]⟩, .string ⟨#[]⟩, .int .i64 0, .slice none 0 0] 29 (0, 0))) (hE : Env w) :
    Calls Tryz.prog 21 #[.pointer (some ⟨p, 0, none⟩)] w fun e w' => e = .returned (.bool false) ∧ Below w.heap.size w w' := by
  have q0 := hp.cell (j := 0) (v := .int .i64 9) rfl
  have q1 := hp.cell (j := 1) (v := .string ⟨#[]⟩) rfl
  have q2 := hp.cell (j := 2) (v := .string ⟨#[]⟩) rfl
  have q3 := hp.cell (j := 3) (v := .string ⟨#[]⟩) rfl
  have q4 := hp.cell (j := 4) (v := .int .i64 0) rfl
  have q5 := hp.cell (j := 5) (v := .slice none 0 0) rfl
  have HB := Lib.hid (Below.refl w.heap.size w)
  go_enter Tryz.func21, Tryz.ntmps21
  have HE := Lib.hid hE
  clear hE
  go_wp2_with fail
  refine (formed_merge _ (HE.out.later HB.out)).mono ?_
  rintro e w1 ⟨rfl, hb⟩
  replace HB := Lib.hid (show Below w.heap.size w w1 by have h := hb; repeat (first | exact nbl_step HB.out h | replace h := nbl_new h | replace h := nbl_dr h))
  have j1 : HeapIs w1 (p) (.cells #[.int .i64 9, .string ⟨#[]⟩, .string ⟨#[]⟩, .string ⟨#[]⟩, .int .i64 0, .slice none 0 0] 29 (0, 0)) := hp.below hb
  have j1r0 := j1.cell (j := 0) (v := .int .i64 9) rfl
  have j1s0 := j1.frozen 0
  have j1a0 : ∀ o, (w1.alloc o).cell? ⟨p, 0, none⟩ = some (.int .i64 9) := fun o => (HeapIs.al j1 (o' := o)).cell (j := 0) (v := .int .i64 9) rfl
  have j1t0 := j1.set (j := 0) (v := .int .i64 9) rfl
  have j1r1 := j1.cell (j := 1) (v := .string ⟨#[]⟩) rfl
  have j1s1 := j1.frozen 1
  have j1a1 : ∀ o, (w1.alloc o).cell? ⟨p, 1, none⟩ = some (.string ⟨#[]⟩) := fun o => (HeapIs.al j1 (o' := o)).cell (j := 1) (v := .string ⟨#[]⟩) rfl
  have j1t1 := j1.set (j := 1) (v := .string ⟨#[]⟩) rfl
  have j1r2 := j1.cell (j := 2) (v := .string ⟨#[]⟩) rfl
  have j1s2 := j1.frozen 2
  have j1a2 : ∀ o, (w1.alloc o).cell? ⟨p, 2, none⟩ = some (.string ⟨#[]⟩) := fun o => (HeapIs.al j1 (o' := o)).cell (j := 2) (v := .string ⟨#[]⟩) rfl
  have j1t2 := j1.set (j := 2) (v := .string ⟨#[]⟩) rfl
  have j1r3 := j1.cell (j := 3) (v := .string ⟨#[]⟩) rfl
  have j1s3 := j1.frozen 3
  have j1a3 : ∀ o, (w1.alloc o).cell? ⟨p, 3, none⟩ = some (.string ⟨#[]⟩) := fun o => (HeapIs.al j1 (o' := o)).cell (j := 3) (v := .string ⟨#[]⟩) rfl
  have j1t3 := j1.set (j := 3) (v := .string ⟨#[]⟩) rfl
  have j1r4 := j1.cell (j := 4) (v := .int .i64 0) rfl
  have j1s4 := j1.frozen 4
  have j1a4 : ∀ o, (w1.alloc o).cell? ⟨p, 4, none⟩ = some (.int .i64 0) := fun o => (HeapIs.al j1 (o' := o)).cell (j := 4) (v := .int .i64 0) rfl
  have j1t4 := j1.set (j := 4) (v := .int .i64 0) rfl
  have j1r5 := j1.cell (j := 5) (v := .slice none 0 0) rfl
  have j1s5 := j1.frozen 5
  have j1a5 : ∀ o, (w1.alloc o).cell? ⟨p, 5, none⟩ = some (.slice none 0 0) := fun o => (HeapIs.al j1 (o' := o)).cell (j := 5) (v := .slice none 0 0) rfl
  have j1t5 := j1.set (j := 5) (v := .slice none 0 0) rfl
  clear hb
  go_wp2
  go_ret
  exact ⟨rfl, by repeat (first | exact HB.out | apply nbl_al | apply nbl_drw | refine Below.setCell ?_ (Nat.le_refl _) _ | refine nbl_set ?_ (by first | exact Nat.le_refl _ | (simp; omega) | (simp; done) | omega) )⟩

set_option maxRecDepth 100000 in
set_option maxHeartbeats 1000000 in
theorem first3_merge (p : Nat) (w : World) (hp : HeapIs w p (.cells #[.int .i64 9, .string ⟨#[]⟩, .string ⟨#[]⟩, .string ⟨#[]⟩, .int .i64 0, .slice none 0 0] 29 (0, 0))) (hE : Env w) :
    Calls Tryz.prog 24 #[.pointer (some ⟨p, 0, none⟩)] w fun e w' => e = .returned (.bool false) ∧ Below w.heap.size w w' := by
  have q0 := hp.cell (j := 0) (v := .int .i64 9) rfl
  have q1 := hp.cell (j := 1) (v := .string ⟨#[]⟩) rfl
  have q2 := hp.cell (j := 2) (v := .string ⟨#[]⟩) rfl
  have q3 := hp.cell (j := 3) (v := .string ⟨#[]⟩) rfl
  have q4 := hp.cell (j := 4) (v := .int .i64 0) rfl
  have q5 := hp.cell (j := 5) (v := .slice none 0 0) rfl
  have HB := Lib.hid (Below.refl w.heap.size w)
  go_enter Tryz.func24, Tryz.ntmps24
  have HE := Lib.hid hE
  clear hE
  go_wp2_with fail
  refine (needs_9 _ _ _ _ _ _ false (by decide) _ (HE.out.later HB.out)).mono ?_
  rintro e w1 ⟨rfl, hb⟩
  replace HB := Lib.hid (show Below w.heap.size w w1 by have h := hb; repeat (first | exact nbl_step HB.out h | replace h := nbl_new h | replace h := nbl_dr h))
  have j1 : HeapIs w1 (p) (.cells #[.int .i64 9, .string ⟨#[]⟩, .string ⟨#[]⟩, .string ⟨#[]⟩, .int .i64 0, .slice none 0 0] 29 (0, 0)) := hp.below hb
  have j1r0 := j1.cell (j := 0) (v := .int .i64 9) rfl
  have j1s0 := j1.frozen 0
  have j1a0 : ∀ o, (w1.alloc o).cell? ⟨p, 0, none⟩ = some (.int .i64 9) := fun o => (HeapIs.al j1 (o' := o)).cell (j := 0) (v := .int .i64 9) rfl
  have j1t0 := j1.set (j := 0) (v := .int .i64 9) rfl
  have j1r1 := j1.cell (j := 1) (v := .string ⟨#[]⟩) rfl
  have j1s1 := j1.frozen 1
  have j1a1 : ∀ o, (w1.alloc o).cell? ⟨p, 1, none⟩ = some (.string ⟨#[]⟩) := fun o => (HeapIs.al j1 (o' := o)).cell (j := 1) (v := .string ⟨#[]⟩) rfl
  have j1t1 := j1.set (j := 1) (v := .string ⟨#[]⟩) rfl
  have j1r2 := j1.cell (j := 2) (v := .string ⟨#[]⟩) rfl
  have j1s2 := j1.frozen 2
  have j1a2 : ∀ o, (w1.alloc o).cell? ⟨p, 2, none⟩ = some (.string ⟨#[]⟩) := fun o => (HeapIs.al j1 (o' := o)).cell (j := 2) (v := .string ⟨#[]⟩) rfl
  have j1t2 := j1.set (j := 2) (v := .string ⟨#[]⟩) rfl
  have j1r3 := j1.cell (j := 3) (v := .string ⟨#[]⟩) rfl
  have j1s3 := j1.frozen 3
  have j1a3 : ∀ o, (w1.alloc o).cell? ⟨p, 3, none⟩ = some (.string ⟨#[]⟩) := fun o => (HeapIs.al j1 (o' := o)).cell (j := 3) (v := .string ⟨#[]⟩) rfl
  have j1t3 := j1.set (j := 3) (v := .string ⟨#[]⟩) rfl
  have j1r4 := j1.cell (j := 4) (v := .int .i64 0) rfl
  have j1s4 := j1.frozen 4
  have j1a4 : ∀ o, (w1.alloc o).cell? ⟨p, 4, none⟩ = some (.int .i64 0) := fun o => (HeapIs.al j1 (o' := o)).cell (j := 4) (v := .int .i64 0) rfl
  have j1t4 := j1.set (j := 4) (v := .int .i64 0) rfl
  have j1r5 := j1.cell (j := 5) (v := .slice none 0 0) rfl
  have j1s5 := j1.frozen 5
  have j1a5 : ∀ o, (w1.alloc o).cell? ⟨p, 5, none⟩ = some (.slice none 0 0) := fun o => (HeapIs.al j1 (o' := o)).cell (j := 5) (v := .slice none 0 0) rfl
  have j1t5 := j1.set (j := 5) (v := .slice none 0 0) rfl
  clear hb
  go_wp2
  go_ret
  exact ⟨rfl, by repeat (first | exact HB.out | apply nbl_al | apply nbl_drw | refine Below.setCell ?_ (Nat.le_refl _) _ | refine nbl_set ?_ (by first | exact Nat.le_refl _ | (simp; omega) | (simp; done) | omega) )⟩

set_option maxRecDepth 100000 in
set_option maxHeartbeats 1000000 in
theorem first4_merge (p : Nat) (w : World) (hp : HeapIs w p (.cells #[.int .i64 9, .string ⟨#[]⟩, .string ⟨#[]⟩, .string ⟨#[]⟩, .int .i64 0, .slice none 0 0] 29 (0, 0))) (hE : Env w) :
    Calls Tryz.prog 27 #[.pointer (some ⟨p, 0, none⟩)] w fun e w' => e = .returned (.bool false) ∧ Below w.heap.size w w' := by
  have q0 := hp.cell (j := 0) (v := .int .i64 9) rfl
  have q1 := hp.cell (j := 1) (v := .string ⟨#[]⟩) rfl
  have q2 := hp.cell (j := 2) (v := .string ⟨#[]⟩) rfl
  have q3 := hp.cell (j := 3) (v := .string ⟨#[]⟩) rfl
  have q4 := hp.cell (j := 4) (v := .int .i64 0) rfl
  have q5 := hp.cell (j := 5) (v := .slice none 0 0) rfl
  have HB := Lib.hid (Below.refl w.heap.size w)
  go_enter Tryz.func27, Tryz.ntmps27
  have HE := Lib.hid hE
  clear hE
  go_wp2_with fail
  refine (needs_9 _ _ _ _ _ _ false (by decide) _ (HE.out.later HB.out)).mono ?_
  rintro e w1 ⟨rfl, hb⟩
  replace HB := Lib.hid (show Below w.heap.size w w1 by have h := hb; repeat (first | exact nbl_step HB.out h | replace h := nbl_new h | replace h := nbl_dr h))
  have j1 : HeapIs w1 (p) (.cells #[.int .i64 9, .string ⟨#[]⟩, .string ⟨#[]⟩, .string ⟨#[]⟩, .int .i64 0, .slice none 0 0] 29 (0, 0)) := hp.below hb
  have j1r0 := j1.cell (j := 0) (v := .int .i64 9) rfl
  have j1s0 := j1.frozen 0
  have j1a0 : ∀ o, (w1.alloc o).cell? ⟨p, 0, none⟩ = some (.int .i64 9) := fun o => (HeapIs.al j1 (o' := o)).cell (j := 0) (v := .int .i64 9) rfl
  have j1t0 := j1.set (j := 0) (v := .int .i64 9) rfl
  have j1r1 := j1.cell (j := 1) (v := .string ⟨#[]⟩) rfl
  have j1s1 := j1.frozen 1
  have j1a1 : ∀ o, (w1.alloc o).cell? ⟨p, 1, none⟩ = some (.string ⟨#[]⟩) := fun o => (HeapIs.al j1 (o' := o)).cell (j := 1) (v := .string ⟨#[]⟩) rfl
  have j1t1 := j1.set (j := 1) (v := .string ⟨#[]⟩) rfl
  have j1r2 := j1.cell (j := 2) (v := .string ⟨#[]⟩) rfl
  have j1s2 := j1.frozen 2
  have j1a2 : ∀ o, (w1.alloc o).cell? ⟨p, 2, none⟩ = some (.string ⟨#[]⟩) := fun o => (HeapIs.al j1 (o' := o)).cell (j := 2) (v := .string ⟨#[]⟩) rfl
  have j1t2 := j1.set (j := 2) (v := .string ⟨#[]⟩) rfl
  have j1r3 := j1.cell (j := 3) (v := .string ⟨#[]⟩) rfl
  have j1s3 := j1.frozen 3
  have j1a3 : ∀ o, (w1.alloc o).cell? ⟨p, 3, none⟩ = some (.string ⟨#[]⟩) := fun o => (HeapIs.al j1 (o' := o)).cell (j := 3) (v := .string ⟨#[]⟩) rfl
  have j1t3 := j1.set (j := 3) (v := .string ⟨#[]⟩) rfl
  have j1r4 := j1.cell (j := 4) (v := .int .i64 0) rfl
  have j1s4 := j1.frozen 4
  have j1a4 : ∀ o, (w1.alloc o).cell? ⟨p, 4, none⟩ = some (.int .i64 0) := fun o => (HeapIs.al j1 (o' := o)).cell (j := 4) (v := .int .i64 0) rfl
  have j1t4 := j1.set (j := 4) (v := .int .i64 0) rfl
  have j1r5 := j1.cell (j := 5) (v := .slice none 0 0) rfl
  have j1s5 := j1.frozen 5
  have j1a5 : ∀ o, (w1.alloc o).cell? ⟨p, 5, none⟩ = some (.slice none 0 0) := fun o => (HeapIs.al j1 (o' := o)).cell (j := 5) (v := .slice none 0 0) rfl
  have j1t5 := j1.set (j := 5) (v := .slice none 0 0) rfl
  clear hb
  go_wp2
  go_ret
  exact ⟨rfl, by repeat (first | exact HB.out | apply nbl_al | apply nbl_drw | refine Below.setCell ?_ (Nat.le_refl _) _ | refine nbl_set ?_ (by first | exact Nat.le_refl _ | (simp; omega) | (simp; done) | omega) )⟩

set_option maxRecDepth 100000 in
set_option maxHeartbeats 1000000 in
theorem first5_merge (p : Nat) (w : World) (hp : HeapIs w p (.cells #[.int .i64 9, .string ⟨#[]⟩, .string ⟨#[]⟩, .string ⟨#[]⟩, .int .i64 0, .slice none 0 0] 29 (0, 0))) (hE : Env w) :
    Calls Tryz.prog 28 #[.pointer (some ⟨p, 0, none⟩)] w fun e w' => e = .returned (.bool false) ∧ Below w.heap.size w w' := by
  have q0 := hp.cell (j := 0) (v := .int .i64 9) rfl
  have q1 := hp.cell (j := 1) (v := .string ⟨#[]⟩) rfl
  have q2 := hp.cell (j := 2) (v := .string ⟨#[]⟩) rfl
  have q3 := hp.cell (j := 3) (v := .string ⟨#[]⟩) rfl
  have q4 := hp.cell (j := 4) (v := .int .i64 0) rfl
  have q5 := hp.cell (j := 5) (v := .slice none 0 0) rfl
  have HB := Lib.hid (Below.refl w.heap.size w)
  go_enter Tryz.func28, Tryz.ntmps28
  have HE := Lib.hid hE
  clear hE
  go_wp2_with fail
  refine (needs_9 _ _ _ _ _ _ false (by decide) _ (HE.out.later HB.out)).mono ?_
  rintro e w1 ⟨rfl, hb⟩
  replace HB := Lib.hid (show Below w.heap.size w w1 by have h := hb; repeat (first | exact nbl_step HB.out h | replace h := nbl_new h | replace h := nbl_dr h))
  have j1 : HeapIs w1 (p) (.cells #[.int .i64 9, .string ⟨#[]⟩, .string ⟨#[]⟩, .string ⟨#[]⟩, .int .i64 0, .slice none 0 0] 29 (0, 0)) := hp.below hb
  have j1r0 := j1.cell (j := 0) (v := .int .i64 9) rfl
  have j1s0 := j1.frozen 0
  have j1a0 : ∀ o, (w1.alloc o).cell? ⟨p, 0, none⟩ = some (.int .i64 9) := fun o => (HeapIs.al j1 (o' := o)).cell (j := 0) (v := .int .i64 9) rfl
  have j1t0 := j1.set (j := 0) (v := .int .i64 9) rfl
  have j1r1 := j1.cell (j := 1) (v := .string ⟨#[]⟩) rfl
  have j1s1 := j1.frozen 1
  have j1a1 : ∀ o, (w1.alloc o).cell? ⟨p, 1, none⟩ = some (.string ⟨#[]⟩) := fun o => (HeapIs.al j1 (o' := o)).cell (j := 1) (v := .string ⟨#[]⟩) rfl
  have j1t1 := j1.set (j := 1) (v := .string ⟨#[]⟩) rfl
  have j1r2 := j1.cell (j := 2) (v := .string ⟨#[]⟩) rfl
  have j1s2 := j1.frozen 2
  have j1a2 : ∀ o, (w1.alloc o).cell? ⟨p, 2, none⟩ = some (.string ⟨#[]⟩) := fun o => (HeapIs.al j1 (o' := o)).cell (j := 2) (v := .string ⟨#[]⟩) rfl
  have j1t2 := j1.set (j := 2) (v := .string ⟨#[]⟩) rfl
  have j1r3 := j1.cell (j := 3) (v := .string ⟨#[]⟩) rfl
  have j1s3 := j1.frozen 3
  have j1a3 : ∀ o, (w1.alloc o).cell? ⟨p, 3, none⟩ = some (.string ⟨#[]⟩) := fun o => (HeapIs.al j1 (o' := o)).cell (j := 3) (v := .string ⟨#[]⟩) rfl
  have j1t3 := j1.set (j := 3) (v := .string ⟨#[]⟩) rfl
  have j1r4 := j1.cell (j := 4) (v := .int .i64 0) rfl
  have j1s4 := j1.frozen 4
  have j1a4 : ∀ o, (w1.alloc o).cell? ⟨p, 4, none⟩ = some (.int .i64 0) := fun o => (HeapIs.al j1 (o' := o)).cell (j := 4) (v := .int .i64 0) rfl
  have j1t4 := j1.set (j := 4) (v := .int .i64 0) rfl
  have j1r5 := j1.cell (j := 5) (v := .slice none 0 0) rfl
  have j1s5 := j1.frozen 5
  have j1a5 : ∀ o, (w1.alloc o).cell? ⟨p, 5, none⟩ = some (.slice none 0 0) := fun o => (HeapIs.al j1 (o' := o)).cell (j := 5) (v := .slice none 0 0) rfl
  have j1t5 := j1.set (j := 5) (v := .slice none 0 0) rfl
  clear hb
  go_wp2
  go_ret
  exact ⟨rfl, by repeat (first | exact HB.out | apply nbl_al | apply nbl_drw | refine Below.setCell ?_ (Nat.le_refl _) _ | refine nbl_set ?_ (by first | exact Nat.le_refl _ | (simp; omega) | (simp; done) | omega) )⟩

set_option maxRecDepth 100000 in
set_option maxHeartbeats 1000000 in
theorem first6_merge (p : Nat) (w : World) (hp : HeapIs w p (.cells #[.int .i64 9, .string ⟨#[]⟩, .string ⟨#[]⟩, .string ⟨#[]⟩, .int .i64 0, .slice none 0 0] 29 (0, 0))) (hE : Env w) :
    Calls Tryz.prog 30 #[.pointer (some ⟨p, 0, none⟩)] w fun e w' => e = .returned (.bool false) ∧ Below w.heap.size w w' := by
  have q0 := hp.cell (j := 0) (v := .int .i64 9) rfl
  have q1 := hp.cell (j := 1) (v := .string ⟨#[]⟩) rfl
  have q2 := hp.cell (j := 2) (v := .string ⟨#[]⟩) rfl
  have q3 := hp.cell (j := 3) (v := .string ⟨#[]⟩) rfl
  have q4 := hp.cell (j := 4) (v := .int .i64 0) rfl
  have q5 := hp.cell (j := 5) (v := .slice none 0 0) rfl
  have HB := Lib.hid (Below.refl w.heap.size w)
  go_enter Tryz.func30, Tryz.ntmps30
  have HE := Lib.hid hE
  clear hE
  go_wp2_with fail
  refine (needs_9 _ _ _ _ _ _ false (by decide) _ (HE.out.later HB.out)).mono ?_
  rintro e w1 ⟨rfl, hb⟩
  replace HB := Lib.hid (show Below w.heap.size w w1 by have h := hb; repeat (first | exact nbl_step HB.out h | replace h := nbl_new h | replace h := nbl_dr h))
  have j1 : HeapIs w1 (p) (.cells #[.int .i64 9, .string ⟨#[]⟩, .string ⟨#[]⟩, .string ⟨#[]⟩, .int .i64 0, .slice none 0 0] 29 (0, 0)) := hp.below hb
  have j1r0 := j1.cell (j := 0) (v := .int .i64 9) rfl
  have j1s0 := j1.frozen 0
  have j1a0 : ∀ o, (w1.alloc o).cell? ⟨p, 0, none⟩ = some (.int .i64 9) := fun o => (HeapIs.al j1 (o' := o)).cell (j := 0) (v := .int .i64 9) rfl
  have j1t0 := j1.set (j := 0) (v := .int .i64 9) rfl
  have j1r1 := j1.cell (j := 1) (v := .string ⟨#[]⟩) rfl
  have j1s1 := j1.frozen 1
  have j1a1 : ∀ o, (w1.alloc o).cell? ⟨p, 1, none⟩ = some (.string ⟨#[]⟩) := fun o => (HeapIs.al j1 (o' := o)).cell (j := 1) (v := .string ⟨#[]⟩) rfl
  have j1t1 := j1.set (j := 1) (v := .string ⟨#[]⟩) rfl
  have j1r2 := j1.cell (j := 2) (v := .string ⟨#[]⟩) rfl
  have j1s2 := j1.frozen 2
  have j1a2 : ∀ o, (w1.alloc o).cell? ⟨p, 2, none⟩ = some (.string ⟨#[]⟩) := fun o => (HeapIs.al j1 (o' := o)).cell (j := 2) (v := .string ⟨#[]⟩) rfl
  have j1t2 := j1.set (j := 2) (v := .string ⟨#[]⟩) rfl
  have j1r3 := j1.cell (j := 3) (v := .string ⟨#[]⟩) rfl
  have j1s3 := j1.frozen 3
  have j1a3 : ∀ o, (w1.alloc o).cell? ⟨p, 3, none⟩ = some (.string ⟨#[]⟩) := fun o => (HeapIs.al j1 (o' := o)).cell (j := 3) (v := .string ⟨#[]⟩) rfl
  have j1t3 := j1.set (j := 3) (v := .string ⟨#[]⟩) rfl
  have j1r4 := j1.cell (j := 4) (v := .int .i64 0) rfl
  have j1s4 := j1.frozen 4
  have j1a4 : ∀ o, (w1.alloc o).cell? ⟨p, 4, none⟩ = some (.int .i64 0) := fun o => (HeapIs.al j1 (o' := o)).cell (j := 4) (v := .int .i64 0) rfl
  have j1t4 := j1.set (j := 4) (v := .int .i64 0) rfl
  have j1r5 := j1.cell (j := 5) (v := .slice none 0 0) rfl
  have j1s5 := j1.frozen 5
  have j1a5 : ∀ o, (w1.alloc o).cell? ⟨p, 5, none⟩ = some (.slice none 0 0) := fun o => (HeapIs.al j1 (o' := o)).cell (j := 5) (v := .slice none 0 0) rfl
  have j1t5 := j1.set (j := 5) (v := .slice none 0 0) rfl
  clear hb
  go_wp2
  go_ret
  exact ⟨rfl, by repeat (first | exact HB.out | apply nbl_al | apply nbl_drw | refine Below.setCell ?_ (Nat.le_refl _) _ | refine nbl_set ?_ (by first | exact Nat.le_refl _ | (simp; omega) | (simp; done) | omega) )⟩

set_option maxRecDepth 100000 in
set_option maxHeartbeats 1000000 in
theorem first7_merge (p : Nat) (w : World) (hp : HeapIs w p (.cells #[.int .i64 9, .string ⟨#[]⟩, .string ⟨#[]⟩, .string ⟨#[]⟩, .int .i64 0, .slice none 0 0] 29 (0, 0))) (hE : Env w) :
    Calls Tryz.prog 32 #[.pointer (some ⟨p, 0, none⟩)] w fun e w' => e = .returned (.bool false) ∧ Below w.heap.size w w' := by
  have q0 := hp.cell (j := 0) (v := .int .i64 9) rfl
  have q1 := hp.cell (j := 1) (v := .string ⟨#[]⟩) rfl
  have q2 := hp.cell (j := 2) (v := .string ⟨#[]⟩) rfl
  have q3 := hp.cell (j := 3) (v := .string ⟨#[]⟩) rfl
  have q4 := hp.cell (j := 4) (v := .int .i64 0) rfl
  have q5 := hp.cell (j := 5) (v := .slice none 0 0) rfl
  have HB := Lib.hid (Below.refl w.heap.size w)
  go_enter Tryz.func32, Tryz.ntmps32
  have HE := Lib.hid hE
  clear hE
  go_wp2_with fail
  refine (needs_9 _ _ _ _ _ _ false (by decide) _ (HE.out.later HB.out)).mono ?_
  rintro e w1 ⟨rfl, hb⟩
  replace HB := Lib.hid (show Below w.heap.size w w1 by have h := hb; repeat (first | exact nbl_step HB.out h | replace h := nbl_new h | replace h := nbl_dr h))
  have j1 : HeapIs w1 (p) (.cells #[.int .i64 9, .string ⟨#[]⟩, .string ⟨#[]⟩, .string ⟨#[]⟩, .int .i64 0, .slice none 0 0] 29 (0, 0)) := hp.below hb
  have j1r0 := j1.cell (j := 0) (v := .int .i64 9) rfl
  have j1s0 := j1.frozen 0
  have j1a0 : ∀ o, (w1.alloc o).cell? ⟨p, 0, none⟩ = some (.int .i64 9) := fun o => (HeapIs.al j1 (o' := o)).cell (j := 0) (v := .int .i64 9) rfl
  have j1t0 := j1.set (j := 0) (v := .int .i64 9) rfl
  have j1r1 := j1.cell (j := 1) (v := .string ⟨#[]⟩) rfl
  have j1s1 := j1.frozen 1
  have j1a1 : ∀ o, (w1.alloc o).cell? ⟨p, 1, none⟩ = some (.string ⟨#[]⟩) := fun o => (HeapIs.al j1 (o' := o)).cell (j := 1) (v := .string ⟨#[]⟩) rfl
  have j1t1 := j1.set (j := 1) (v := .string ⟨#[]⟩) rfl
  have j1r2 := j1.cell (j := 2) (v := .string ⟨#[]⟩) rfl
  have j1s2 := j1.frozen 2
  have j1a2 : ∀ o, (w1.alloc o).cell? ⟨p, 2, none⟩ = some (.string ⟨#[]⟩) := fun o => (HeapIs.al j1 (o' := o)).cell (j := 2) (v := .string ⟨#[]⟩) rfl
  have j1t2 := j1.set (j := 2) (v := .string ⟨#[]⟩) rfl
  have j1r3 := j1.cell (j := 3) (v := .string ⟨#[]⟩) rfl
  have j1s3 := j1.frozen 3
  have j1a3 : ∀ o, (w1.alloc o).cell? ⟨p, 3, none⟩ = some (.string ⟨#[]⟩) := fun o => (HeapIs.al j1 (o' := o)).cell (j := 3) (v := .string ⟨#[]⟩) rfl
  have j1t3 := j1.set (j := 3) (v := .string ⟨#[]⟩) rfl
  have j1r4 := j1.cell (j := 4) (v := .int .i64 0) rfl
  have j1s4 := j1.frozen 4
  have j1a4 : ∀ o, (w1.alloc o).cell? ⟨p, 4, none⟩ = some (.int .i64 0) := fun o => (HeapIs.al j1 (o' := o)).cell (j := 4) (v := .int .i64 0) rfl
  have j1t4 := j1.set (j := 4) (v := .int .i64 0) rfl
  have j1r5 := j1.cell (j := 5) (v := .slice none 0 0) rfl
  have j1s5 := j1.frozen 5
  have j1a5 : ∀ o, (w1.alloc o).cell? ⟨p, 5, none⟩ = some (.slice none 0 0) := fun o => (HeapIs.al j1 (o' := o)).cell (j := 5) (v := .slice none 0 0) rfl
  have j1t5 := j1.set (j := 5) (v := .slice none 0 0) rfl
  clear hb
  go_wp2
  go_ret
  exact ⟨rfl, by repeat (first | exact HB.out | apply nbl_al | apply nbl_drw | refine Below.setCell ?_ (Nat.le_refl _) _ | refine nbl_set ?_ (by first | exact Nat.le_refl _ | (simp; omega) | (simp; done) | omega) )⟩

set_option maxRecDepth 100000 in
set_option maxHeartbeats 1000000 in
theorem first1_wishaa (p : Nat) (w : World) (hp : HeapIs w p (.cells #[.int .i64 6, .string ⟨#[97]⟩, .string ⟨#[97]⟩, .string ⟨#[116, 101, 97]⟩, .int .i64 0, .slice none 0 0] 29 (0, 0))) (hE : Env w) :
    Calls Tryz.prog 21 #[.pointer (some ⟨p, 0, none⟩)] w fun e w' => e = .returned (.bool false) ∧ Below w.heap.size w w' := by
  have q0 := hp.cell (j := 0) (v := .int .i64 6) rfl
  have q1 := hp.cell (j := 1) (v := .string ⟨#[97]⟩) rfl
  have q2 := hp.cell (j := 2) (v := .string ⟨#[97]⟩) rfl
  have q3 := hp.cell (j := 3) (v := .string ⟨#[116, 101, 97]⟩) rfl
  have q4 := hp.cell (j := 4) (v := .int .i64 0) rfl
  have q5 := hp.cell (j := 5) (v := .slice none 0 0) rfl
  have HB := Lib.hid (Below.refl w.heap.size w)
  go_enter Tryz.func21, Tryz.ntmps21
  have HE := Lib.hid hE
  clear hE
  go_wp2_with fail
  refine (formed_wishaa _ (HE.out.later HB.out)).mono ?_
  rintro e w1 ⟨rfl, hb⟩
  replace HB := Lib.hid (show Below w.heap.size w w1 by have h := hb; repeat (first | exact nbl_step HB.out h | replace h := nbl_new h | replace h := nbl_dr h))
  have j1 : HeapIs w1 (p) (.cells #[.int .i64 6, .string ⟨#[97]⟩, .string ⟨#[97]⟩, .string ⟨#[116, 101, 97]⟩, .int .i64 0, .slice none 0 0] 29 (0, 0)) := hp.below hb
  have j1r0 := j1.cell (j := 0) (v := .int .i64 6) rfl
  have j1s0 := j1.frozen 0
  have j1a0 : ∀ o, (w1.alloc o).cell? ⟨p, 0, none⟩ = some (.int .i64 6) := fun o => (HeapIs.al j1 (o' := o)).cell (j := 0) (v := .int .i64 6) rfl
  have j1t0 := j1.set (j := 0) (v := .int .i64 6) rfl
  have j1r1 := j1.cell (j := 1) (v := .string ⟨#[97]⟩) rfl
  have j1s1 := j1.frozen 1
  have j1a1 : ∀ o, (w1.alloc o).cell? ⟨p, 1, none⟩ = some (.string ⟨#[97]⟩) := fun o => (HeapIs.al j1 (o' := o)).cell (j := 1) (v := .string ⟨#[97]⟩) rfl
  have j1t1 := j1.set (j := 1) (v := .string ⟨#[97]⟩) rfl
  have j1r2 := j1.cell (j := 2) (v := .string ⟨#[97]⟩) rfl
  have j1s2 := j1.frozen 2
  have j1a2 : ∀ o, (w1.alloc o).cell? ⟨p, 2, none⟩ = some (.string ⟨#[97]⟩) := fun o => (HeapIs.al j1 (o' := o)).cell (j := 2) (v := .string ⟨#[97]⟩) rfl
  have j1t2 := j1.set (j := 2) (v := .string ⟨#[97]⟩) rfl
  have j1r3 := j1.cell (j := 3) (v := .string ⟨#[116, 101, 97]⟩) rfl
  have j1s3 := j1.frozen 3
  have j1a3 : ∀ o, (w1.alloc o).cell? ⟨p, 3, none⟩ = some (.string ⟨#[116, 101, 97]⟩) := fun o => (HeapIs.al j1 (o' := o)).cell (j := 3) (v := .string ⟨#[116, 101, 97]⟩) rfl
  have j1t3 := j1.set (j := 3) (v := .string ⟨#[116, 101, 97]⟩) rfl
  have j1r4 := j1.cell (j := 4) (v := .int .i64 0) rfl
  have j1s4 := j1.frozen 4
  have j1a4 : ∀ o, (w1.alloc o).cell? ⟨p, 4, none⟩ = some (.int .i64 0) := fun o => (HeapIs.al j1 (o' := o)).cell (j := 4) (v := .int .i64 0) rfl
  have j1t4 := j1.set (j := 4) (v := .int .i64 0) rfl
  have j1r5 := j1.cell (j := 5) (v := .slice none 0 0) rfl
  have j1s5 := j1.frozen 5
  have j1a5 : ∀ o, (w1.alloc o).cell? ⟨p, 5, none⟩ = some (.slice none 0 0) := fun o => (HeapIs.al j1 (o' := o)).cell (j := 5) (v := .slice none 0 0) rfl
  have j1t5 := j1.set (j := 5) (v := .slice none 0 0) rfl
  clear hb
  go_wp2
  go_ret
  exact ⟨rfl, by repeat (first | exact HB.out | apply nbl_al | apply nbl_drw | refine Below.setCell ?_ (Nat.le_refl _) _ | refine nbl_set ?_ (by first | exact Nat.le_refl _ | (simp; omega) | (simp; done) | omega) )⟩

set_option maxRecDepth 100000 in
set_option maxHeartbeats 1000000 in
theorem first3_wishaa (p : Nat) (w : World) (hp : HeapIs w p (.cells #[.int .i64 6, .string ⟨#[97]⟩, .string ⟨#[97]⟩, .string ⟨#[116, 101, 97]⟩, .int .i64 0, .slice none 0 0] 29 (0, 0))) (hE : Env w) :
    Calls Tryz.prog 24 #[.pointer (some ⟨p, 0, none⟩)] w fun e w' => e = .returned (.bool false) ∧ Below w.heap.size w w' := by
  have q0 := hp.cell (j := 0) (v := .int .i64 6) rfl
  have q1 := hp.cell (j := 1) (v := .string ⟨#[97]⟩) rfl
  have q2 := hp.cell (j := 2) (v := .string ⟨#[97]⟩) rfl
  have q3 := hp.cell (j := 3) (v := .string ⟨#[116, 101, 97]⟩) rfl
  have q4 := hp.cell (j := 4) (v := .int .i64 0) rfl
  have q5 := hp.cell (j := 5) (v := .slice none 0 0) rfl
  have HB := Lib.hid (Below.refl w.heap.size w)
  go_enter Tryz.func24, Tryz.ntmps24
  have HE := Lib.hid hE
  clear hE
  go_wp2_with fail
  refine (needs_6 _ _ _ _ _ _ true (by decide) _ (HE.out.later HB.out)).mono ?_
  rintro e w1 ⟨rfl, hb⟩
  replace HB := Lib.hid (show Below w.heap.size w w1 by have h := hb; repeat (first | exact nbl_step HB.out h | replace h := nbl_new h | replace h := nbl_dr h))
  have j1 : HeapIs w1 (p) (.cells #[.int .i64 6, .string ⟨#[97]⟩, .string ⟨#[97]⟩, .string ⟨#[116, 101, 97]⟩, .int .i64 0, .slice none 0 0] 29 (0, 0)) := hp.below hb
  have j1r0 := j1.cell (j := 0) (v := .int .i64 6) rfl
  have j1s0 := j1.frozen 0
  have j1a0 : ∀ o, (w1.alloc o).cell? ⟨p, 0, none⟩ = some (.int .i64 6) := fun o => (HeapIs.al j1 (o' := o)).cell (j := 0) (v := .int .i64 6) rfl
  have j1t0 := j1.set (j := 0) (v := .int .i64 6) rfl
  have j1r1 := j1.cell (j := 1) (v := .string ⟨#[97]⟩) rfl
  have j1s1 := j1.frozen 1
  have j1a1 : ∀ o, (w1.alloc o).cell? ⟨p, 1, none⟩ = some (.string ⟨#[97]⟩) := fun o => (HeapIs.al j1 (o' := o)).cell (j := 1) (v := .string ⟨#[97]⟩) rfl
  have j1t1 := j1.set (j := 1) (v := .string ⟨#[97]⟩) rfl
  have j1r2 := j1.cell (j := 2) (v := .string ⟨#[97]⟩) rfl
  have j1s2 := j1.frozen 2
  have j1a2 : ∀ o, (w1.alloc o).cell? ⟨p, 2, none⟩ = some (.string ⟨#[97]⟩) := fun o => (HeapIs.al j1 (o' := o)).cell (j := 2) (v := .string ⟨#[97]⟩) rfl
  have j1t2 := j1.set (j := 2) (v := .string ⟨#[97]⟩) rfl
  have j1r3 := j1.cell (j := 3) (v := .string ⟨#[116, 101, 97]⟩) rfl
  have j1s3 := j1.frozen 3
  have j1a3 : ∀ o, (w1.alloc o).cell? ⟨p, 3, none⟩ = some (.string ⟨#[116, 101, 97]⟩) := fun o => (HeapIs.al j1 (o' := o)).cell (j := 3) (v := .string ⟨#[116, 101, 97]⟩) rfl
  have j1t3 := j1.set (j := 3) (v := .string ⟨#[116, 101, 97]⟩) rfl
  have j1r4 := j1.cell (j := 4) (v := .int .i64 0) rfl
  have j1s4 := j1.frozen 4
  have j1a4 : ∀ o, (w1.alloc o).cell? ⟨p, 4, none⟩ = some (.int .i64 0) := fun o => (HeapIs.al j1 (o' := o)).cell (j := 4) (v := .int .i64 0) rfl
  have j1t4 := j1.set (j := 4) (v := .int .i64 0) rfl
  have j1r5 := j1.cell (j := 5) (v := .slice none 0 0) rfl
  have j1s5 := j1.frozen 5
  have j1a5 : ∀ o, (w1.alloc o).cell? ⟨p, 5, none⟩ = some (.slice none 0 0) := fun o => (HeapIs.al j1 (o' := o)).cell (j := 5) (v := .slice none 0 0) rfl
  have j1t5 := j1.set (j := 5) (v := .slice none 0 0) rfl
  clear hb
  go_wp2_with fail
  refine (key_a _).mono ?_
  rintro e w2 ⟨rfl, hb⟩
  replace HB := Lib.hid (show Below w.heap.size w w2 by have h := hb; repeat (first | exact nbl_step HB.out h | replace h := nbl_new h | replace h := nbl_dr h))
  have j2 : HeapIs w2 (p) (.cells #[.int .i64 6, .string ⟨#[97]⟩, .string ⟨#[97]⟩, .string ⟨#[116, 101, 97]⟩, .int .i64 0, .slice none 0 0] 29 (0, 0)) := j1.below hb
  have j2r0 := j2.cell (j := 0) (v := .int .i64 6) rfl
  have j2s0 := j2.frozen 0
  have j2a0 : ∀ o, (w2.alloc o).cell? ⟨p, 0, none⟩ = some (.int .i64 6) := fun o => (HeapIs.al j2 (o' := o)).cell (j := 0) (v := .int .i64 6) rfl
  have j2t0 := j2.set (j := 0) (v := .int .i64 6) rfl
  have j2r1 := j2.cell (j := 1) (v := .string ⟨#[97]⟩) rfl
  have j2s1 := j2.frozen 1
  have j2a1 : ∀ o, (w2.alloc o).cell? ⟨p, 1, none⟩ = some (.string ⟨#[97]⟩) := fun o => (HeapIs.al j2 (o' := o)).cell (j := 1) (v := .string ⟨#[97]⟩) rfl
  have j2t1 := j2.set (j := 1) (v := .string ⟨#[97]⟩) rfl
  have j2r2 := j2.cell (j := 2) (v := .string ⟨#[97]⟩) rfl
  have j2s2 := j2.frozen 2
  have j2a2 : ∀ o, (w2.alloc o).cell? ⟨p, 2, none⟩ = some (.string ⟨#[97]⟩) := fun o => (HeapIs.al j2 (o' := o)).cell (j := 2) (v := .string ⟨#[97]⟩) rfl
  have j2t2 := j2.set (j := 2) (v := .string ⟨#[97]⟩) rfl
  have j2r3 := j2.cell (j := 3) (v := .string ⟨#[116, 101, 97]⟩) rfl
  have j2s3 := j2.frozen 3
  have j2a3 : ∀ o, (w2.alloc o).cell? ⟨p, 3, none⟩ = some (.string ⟨#[116, 101, 97]⟩) := fun o => (HeapIs.al j2 (o' := o)).cell (j := 3) (v := .string ⟨#[116, 101, 97]⟩) rfl
  have j2t3 := j2.set (j := 3) (v := .string ⟨#[116, 101, 97]⟩) rfl
  have j2r4 := j2.cell (j := 4) (v := .int .i64 0) rfl
  have j2s4 := j2.frozen 4
  have j2a4 : ∀ o, (w2.alloc o).cell? ⟨p, 4, none⟩ = some (.int .i64 0) := fun o => (HeapIs.al j2 (o' := o)).cell (j := 4) (v := .int .i64 0) rfl
  have j2t4 := j2.set (j := 4) (v := .int .i64 0) rfl
  have j2r5 := j2.cell (j := 5) (v := .slice none 0 0) rfl
  have j2s5 := j2.frozen 5
  have j2a5 : ∀ o, (w2.alloc o).cell? ⟨p, 5, none⟩ = some (.slice none 0 0) := fun o => (HeapIs.al j2 (o' := o)).cell (j := 5) (v := .slice none 0 0) rfl
  have j2t5 := j2.set (j := 5) (v := .slice none 0 0) rfl
  clear hb
  go_wp2
  go_ret
  exact ⟨rfl, by repeat (first | exact HB.out | apply nbl_al | apply nbl_drw | refine Below.setCell ?_ (Nat.le_refl _) _ | refine nbl_set ?_ (by first | exact Nat.le_refl _ | (simp; omega) | (simp; done) | omega) )⟩

set_option maxRecDepth 100000 in
set_option maxHeartbeats 1000000 in
theorem first4_wishaa (p : Nat) (w : World) (hp : HeapIs w p (.cells #[.int .i64 6, .string ⟨#[97]⟩, .string ⟨#[97]⟩, .string ⟨#[116, 101, 97]⟩, .int .i64 0, .slice none 0 0] 29 (0, 0))) (hE : Env w) :
    Calls Tryz.prog 27 #[.pointer (some ⟨p, 0, none⟩)] w fun e w' => e = .returned (.bool true) ∧ Below w.heap.size w w' := by
  have q0 := hp.cell (j := 0) (v := .int .i64 6) rfl
  have q1 := hp.cell (j := 1) (v := .string ⟨#[97]⟩) rfl
  have q2 := hp.cell (j := 2) (v := .string ⟨#[97]⟩) rfl
  have q3 := hp.cell (j := 3) (v := .string ⟨#[116, 101, 97]⟩) rfl
  have q4 := hp.cell (j := 4) (v := .int .i64 0) rfl
  have q5 := hp.cell (j := 5) (v := .slice none 0 0) rfl
  have HB := Lib.hid (Below.refl w.heap.size w)
  go_enter Tryz.func27, Tryz.ntmps27
  have HE := Lib.hid hE
  clear hE
  go_wp2_with fail
  refine (needs_6 _ _ _ _ _ _ true (by decide) _ (HE.out.later HB.out)).mono ?_
  rintro e w1 ⟨rfl, hb⟩
  replace HB := Lib.hid (show Below w.heap.size w w1 by have h := hb; repeat (first | exact nbl_step HB.out h | replace h := nbl_new h | replace h := nbl_dr h))
  have j1 : HeapIs w1 (p) (.cells #[.int .i64 6, .string ⟨#[97]⟩, .string ⟨#[97]⟩, .string ⟨#[116, 101, 97]⟩, .int .i64 0, .slice none 0 0] 29 (0, 0)) := hp.below hb
  have j1r0 := j1.cell (j := 0) (v := .int .i64 6) rfl
  have j1s0 := j1.frozen 0
  have j1a0 : ∀ o, (w1.alloc o).cell? ⟨p, 0, none⟩ = some (.int .i64 6) := fun o => (HeapIs.al j1 (o' := o)).cell (j := 0) (v := .int .i64 6) rfl
  have j1t0 := j1.set (j := 0) (v := .int .i64 6) rfl
  have j1r1 := j1.cell (j := 1) (v := .string ⟨#[97]⟩) rfl
  have j1s1 := j1.frozen 1
  have j1a1 : ∀ o, (w1.alloc o).cell? ⟨p, 1, none⟩ = some (.string ⟨#[97]⟩) := fun o => (HeapIs.al j1 (o' := o)).cell (j := 1) (v := .string ⟨#[97]⟩) rfl
  have j1t1 := j1.set (j := 1) (v := .string ⟨#[97]⟩) rfl
  have j1r2 := j1.cell (j := 2) (v := .string ⟨#[97]⟩) rfl
  have j1s2 := j1.frozen 2
  have j1a2 : ∀ o, (w1.alloc o).cell? ⟨p, 2, none⟩ = some (.string ⟨#[97]⟩) := fun o => (HeapIs.al j1 (o' := o)).cell (j := 2) (v := .string ⟨#[97]⟩) rfl
  have j1t2 := j1.set (j := 2) (v := .string ⟨#[97]⟩) rfl
  have j1r3 := j1.cell (j := 3) (v := .string ⟨#[116, 101, 97]⟩) rfl
  have j1s3 := j1.frozen 3
  have j1a3 : ∀ o, (w1.alloc o).cell? ⟨p, 3, none⟩ = some (.string ⟨#[116, 101, 97]⟩) := fun o => (HeapIs.al j1 (o' := o)).cell (j := 3) (v := .string ⟨#[116, 101, 97]⟩) rfl
  have j1t3 := j1.set (j := 3) (v := .string ⟨#[116, 101, 97]⟩) rfl
  have j1r4 := j1.cell (j := 4) (v := .int .i64 0) rfl
  have j1s4 := j1.frozen 4
  have j1a4 : ∀ o, (w1.alloc o).cell? ⟨p, 4, none⟩ = some (.int .i64 0) := fun o => (HeapIs.al j1 (o' := o)).cell (j := 4) (v := .int .i64 0) rfl
  have j1t4 := j1.set (j := 4) (v := .int .i64 0) rfl
  have j1r5 := j1.cell (j := 5) (v := .slice none 0 0) rfl
  have j1s5 := j1.frozen 5
  have j1a5 : ∀ o, (w1.alloc o).cell? ⟨p, 5, none⟩ = some (.slice none 0 0) := fun o => (HeapIs.al j1 (o' := o)).cell (j := 5) (v := .slice none 0 0) rfl
  have j1t5 := j1.set (j := 5) (v := .slice none 0 0) rfl
  clear hb
  go_wp2_with fail
  refine (key_a _).mono ?_
  rintro e w2 ⟨rfl, hb⟩
  replace HB := Lib.hid (show Below w.heap.size w w2 by have h := hb; repeat (first | exact nbl_step HB.out h | replace h := nbl_new h | replace h := nbl_dr h))
  have j2 : HeapIs w2 (p) (.cells #[.int .i64 6, .string ⟨#[97]⟩, .string ⟨#[97]⟩, .string ⟨#[116, 101, 97]⟩, .int .i64 0, .slice none 0 0] 29 (0, 0)) := j1.below hb
  have j2r0 := j2.cell (j := 0) (v := .int .i64 6) rfl
  have j2s0 := j2.frozen 0
  have j2a0 : ∀ o, (w2.alloc o).cell? ⟨p, 0, none⟩ = some (.int .i64 6) := fun o => (HeapIs.al j2 (o' := o)).cell (j := 0) (v := .int .i64 6) rfl
  have j2t0 := j2.set (j := 0) (v := .int .i64 6) rfl
  have j2r1 := j2.cell (j := 1) (v := .string ⟨#[97]⟩) rfl
  have j2s1 := j2.frozen 1
  have j2a1 : ∀ o, (w2.alloc o).cell? ⟨p, 1, none⟩ = some (.string ⟨#[97]⟩) := fun o => (HeapIs.al j2 (o' := o)).cell (j := 1) (v := .string ⟨#[97]⟩) rfl
  have j2t1 := j2.set (j := 1) (v := .string ⟨#[97]⟩) rfl
  have j2r2 := j2.cell (j := 2) (v := .string ⟨#[97]⟩) rfl
  have j2s2 := j2.frozen 2
  have j2a2 : ∀ o, (w2.alloc o).cell? ⟨p, 2, none⟩ = some (.string ⟨#[97]⟩) := fun o => (HeapIs.al j2 (o' := o)).cell (j := 2) (v := .string ⟨#[97]⟩) rfl
  have j2t2 := j2.set (j := 2) (v := .string ⟨#[97]⟩) rfl
  have j2r3 := j2.cell (j := 3) (v := .string ⟨#[116, 101, 97]⟩) rfl
  have j2s3 := j2.frozen 3
  have j2a3 : ∀ o, (w2.alloc o).cell? ⟨p, 3, none⟩ = some (.string ⟨#[116, 101, 97]⟩) := fun o => (HeapIs.al j2 (o' := o)).cell (j := 3) (v := .string ⟨#[116, 101, 97]⟩) rfl
  have j2t3 := j2.set (j := 3) (v := .string ⟨#[116, 101, 97]⟩) rfl
  have j2r4 := j2.cell (j := 4) (v := .int .i64 0) rfl
  have j2s4 := j2.frozen 4
  have j2a4 : ∀ o, (w2.alloc o).cell? ⟨p, 4, none⟩ = some (.int .i64 0) := fun o => (HeapIs.al j2 (o' := o)).cell (j := 4) (v := .int .i64 0) rfl
  have j2t4 := j2.set (j := 4) (v := .int .i64 0) rfl
  have j2r5 := j2.cell (j := 5) (v := .slice none 0 0) rfl
  have j2s5 := j2.frozen 5
  have j2a5 : ∀ o, (w2.alloc o).cell? ⟨p, 5, none⟩ = some (.slice none 0 0) := fun o => (HeapIs.al j2 (o' := o)).cell (j := 5) (v := .slice none 0 0) rfl
  have j2t5 := j2.set (j := 5) (v := .slice none 0 0) rfl
  clear hb
  go_wp2
  go_ret
  exact ⟨rfl, by repeat (first | exact HB.out | apply nbl_al | apply nbl_drw | refine Below.setCell ?_ (Nat.le_refl _) _ | refine nbl_set ?_ (by first | exact Nat.le_refl _ | (simp; omega) | (simp; done) | omega) )⟩

end Go.Proofs.YtmocoiamhphhnaaGreatDoor

