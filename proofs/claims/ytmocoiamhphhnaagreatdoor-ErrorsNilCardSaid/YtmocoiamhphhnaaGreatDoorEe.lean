/- Times at empty carts (printed by wip/genE4.py). -/
import Derived.Test.YtmocoiamhphhnaaGreatDoorEd
namespace Go.Proofs.YtmocoiamhphhnaaGreatDoor
set_option linter.unusedVariables false
set_option linter.unusedSimpArgs false
open Go.RowKit Go.MapKept

set_option maxRecDepth 100000 in
set_option maxHeartbeats 1000000 in
theorem greatest_zero (p : Nat) (w : World) (hp : HeapIs w p (.cells #[.int .i64 0, .int .i64 0, .int .i64 0, .int .u64 0] 226 (0, 0))) :
    Calls Tryz.prog 164 #[.slice (some ⟨p, 0, none⟩) 1 1, .func (.func 165) #[] #[]] w fun e w' => e = .returned (.agg #[.int .i64 0, .int .i64 0, .int .i64 0, .int .u64 0]) ∧ Below w.heap.size w w' := by
  have n1 : HeapIs ((w.alloc (.cells #[.int .i64 0, .int .i64 0, .int .i64 0, .int .u64 0] 226)).alloc (.cells #[.int .i64 0, .int .i64 0, .int .i64 0, .int .u64 0] 226)) (w.heap.size + 1) (.cells #[.int .i64 0, .int .i64 0, .int .i64 0, .int .u64 0] 226 (0, 0)) := by have h := HeapIs.new (w.alloc (.cells #[.int .i64 0, .int .i64 0, .int .i64 0, .int .u64 0] 226)) (.cells #[.int .i64 0, .int .i64 0, .int .i64 0, .int .u64 0] 226); rw [show (w.alloc (.cells #[.int .i64 0, .int .i64 0, .int .i64 0, .int .u64 0] 226)).heap.size = w.heap.size + 1 by simp] at h; exact h
  have n2 : HeapIs (((w.alloc (.cells #[.int .i64 0, .int .i64 0, .int .i64 0, .int .u64 0] 226)).alloc (.cells #[.int .i64 0, .int .i64 0, .int .i64 0, .int .u64 0] 226)).alloc (.cells #[.int .i64 0, .int .i64 0, .int .i64 0, .int .u64 0] 226)) (w.heap.size + 2) (.cells #[.int .i64 0, .int .i64 0, .int .i64 0, .int .u64 0] 226 (0, 0)) := by have h := HeapIs.new ((w.alloc (.cells #[.int .i64 0, .int .i64 0, .int .i64 0, .int .u64 0] 226)).alloc (.cells #[.int .i64 0, .int .i64 0, .int .i64 0, .int .u64 0] 226)) (.cells #[.int .i64 0, .int .i64 0, .int .i64 0, .int .u64 0] 226); rw [show ((w.alloc (.cells #[.int .i64 0, .int .i64 0, .int .i64 0, .int .u64 0] 226)).alloc (.cells #[.int .i64 0, .int .i64 0, .int .i64 0, .int .u64 0] 226)).heap.size = w.heap.size + 2 by simp] at h; exact h
  have n0 : HeapIs (((w.alloc (.cells #[.int .i64 0, .int .i64 0, .int .i64 0, .int .u64 0] 226)).alloc (.cells #[.int .i64 0, .int .i64 0, .int .i64 0, .int .u64 0] 226)).alloc (.cells #[.int .i64 0, .int .i64 0, .int .i64 0, .int .u64 0] 226)) w.heap.size (.cells #[.int .i64 0, .int .i64 0, .int .i64 0, .int .u64 0] 226 (0, 0)) := ((HeapIs.new w _).al).al
  have m1 := n1.al (o' := .cells #[.int .i64 0, .int .i64 0, .int .i64 0, .int .u64 0] 226)
  have a0 := n1.set (j := 0) (v := .int .i64 0) rfl
  have b0 := n2.set (j := 0) (v := .int .i64 0) rfl
  have c0 := n1.frozen 0
  have d0 := n2.frozen 0
  have f0 : ∀ o, (w.alloc o).cell? ⟨p, 0, none⟩ = some (.int .i64 0) := fun o => (HeapIs.al hp (o' := o)).cell (j := 0) rfl
  have g0 : ∀ o o2, ((w.alloc o).alloc o2).cell? ⟨p, 0, none⟩ = some (.int .i64 0) := fun o o2 => (HeapIs.al (HeapIs.al hp (o' := o)) (o' := o2)).cell (j := 0) rfl
  have e0 : w.cell? ⟨p, 0, none⟩ = some (.int .i64 0) := hp.cell (j := 0) rfl
  have a1 := n1.set (j := 1) (v := .int .i64 0) rfl
  have b1 := n2.set (j := 1) (v := .int .i64 0) rfl
  have c1 := n1.frozen 1
  have d1 := n2.frozen 1
  have f1 : ∀ o, (w.alloc o).cell? ⟨p, 1, none⟩ = some (.int .i64 0) := fun o => (HeapIs.al hp (o' := o)).cell (j := 1) rfl
  have g1 : ∀ o o2, ((w.alloc o).alloc o2).cell? ⟨p, 1, none⟩ = some (.int .i64 0) := fun o o2 => (HeapIs.al (HeapIs.al hp (o' := o)) (o' := o2)).cell (j := 1) rfl
  have e1 : w.cell? ⟨p, 1, none⟩ = some (.int .i64 0) := hp.cell (j := 1) rfl
  have a2 := n1.set (j := 2) (v := .int .i64 0) rfl
  have b2 := n2.set (j := 2) (v := .int .i64 0) rfl
  have c2 := n1.frozen 2
  have d2 := n2.frozen 2
  have f2 : ∀ o, (w.alloc o).cell? ⟨p, 2, none⟩ = some (.int .i64 0) := fun o => (HeapIs.al hp (o' := o)).cell (j := 2) rfl
  have g2 : ∀ o o2, ((w.alloc o).alloc o2).cell? ⟨p, 2, none⟩ = some (.int .i64 0) := fun o o2 => (HeapIs.al (HeapIs.al hp (o' := o)) (o' := o2)).cell (j := 2) rfl
  have e2 : w.cell? ⟨p, 2, none⟩ = some (.int .i64 0) := hp.cell (j := 2) rfl
  have a3 := n1.set (j := 3) (v := .int .u64 0) rfl
  have b3 := n2.set (j := 3) (v := .int .u64 0) rfl
  have c3 := n1.frozen 3
  have d3 := n2.frozen 3
  have f3 : ∀ o, (w.alloc o).cell? ⟨p, 3, none⟩ = some (.int .u64 0) := fun o => (HeapIs.al hp (o' := o)).cell (j := 3) rfl
  have g3 : ∀ o o2, ((w.alloc o).alloc o2).cell? ⟨p, 3, none⟩ = some (.int .u64 0) := fun o o2 => (HeapIs.al (HeapIs.al hp (o' := o)) (o' := o2)).cell (j := 3) rfl
  have e3 : w.cell? ⟨p, 3, none⟩ = some (.int .u64 0) := hp.cell (j := 3) rfl
  have HB := Lib.hid (Below.refl w.heap.size w)
  go_enter Tryz.func164, Tryz.ntmps164
  go_wp2_with fail
  refine wp_loop_rounds 2 ?_
  rw [rounds_succ]
  go_wp2_with fail
  refine (mark_compare _).mono ?_
  rintro e w1 ⟨rfl, hb⟩
  replace HB := Lib.hid (show Below w.heap.size w w1 by have h := hb; repeat (first | exact nbl_step HB.out h | replace h := nbl_new h | replace h := nbl_dr h))
  have j1 : HeapIs w1 (w.heap.size) (.cells #[.int .i64 0, .int .i64 0, .int .i64 0, .int .u64 0] 226 (0, 0)) := n0.below hb
  have j1r0 := j1.cell (j := 0) (v := .int .i64 0) rfl
  have j1s0 := j1.frozen 0
  have j1a0 : ∀ o, (w1.alloc o).cell? ⟨w.heap.size, 0, none⟩ = some (.int .i64 0) := fun o => (HeapIs.al j1 (o' := o)).cell (j := 0) (v := .int .i64 0) rfl
  have j1t0 := j1.set (j := 0) (v := .int .i64 0) rfl
  have j1r1 := j1.cell (j := 1) (v := .int .i64 0) rfl
  have j1s1 := j1.frozen 1
  have j1a1 : ∀ o, (w1.alloc o).cell? ⟨w.heap.size, 1, none⟩ = some (.int .i64 0) := fun o => (HeapIs.al j1 (o' := o)).cell (j := 1) (v := .int .i64 0) rfl
  have j1t1 := j1.set (j := 1) (v := .int .i64 0) rfl
  have j1r2 := j1.cell (j := 2) (v := .int .i64 0) rfl
  have j1s2 := j1.frozen 2
  have j1a2 : ∀ o, (w1.alloc o).cell? ⟨w.heap.size, 2, none⟩ = some (.int .i64 0) := fun o => (HeapIs.al j1 (o' := o)).cell (j := 2) (v := .int .i64 0) rfl
  have j1t2 := j1.set (j := 2) (v := .int .i64 0) rfl
  have j1r3 := j1.cell (j := 3) (v := .int .u64 0) rfl
  have j1s3 := j1.frozen 3
  have j1a3 : ∀ o, (w1.alloc o).cell? ⟨w.heap.size, 3, none⟩ = some (.int .u64 0) := fun o => (HeapIs.al j1 (o' := o)).cell (j := 3) (v := .int .u64 0) rfl
  have j1t3 := j1.set (j := 3) (v := .int .u64 0) rfl
  have l1 : HeapIs w1 (w.heap.size + 1) (.cells #[.int .i64 0, .int .i64 0, .int .i64 0, .int .u64 0] 226 (0, 0)) := m1.below hb
  have l1r0 := l1.cell (j := 0) (v := .int .i64 0) rfl
  have l1s0 := l1.frozen 0
  have l1a0 : ∀ o, (w1.alloc o).cell? ⟨w.heap.size + 1, 0, none⟩ = some (.int .i64 0) := fun o => (HeapIs.al l1 (o' := o)).cell (j := 0) (v := .int .i64 0) rfl
  have l1t0 := l1.set (j := 0) (v := .int .i64 0) rfl
  have l1r1 := l1.cell (j := 1) (v := .int .i64 0) rfl
  have l1s1 := l1.frozen 1
  have l1a1 : ∀ o, (w1.alloc o).cell? ⟨w.heap.size + 1, 1, none⟩ = some (.int .i64 0) := fun o => (HeapIs.al l1 (o' := o)).cell (j := 1) (v := .int .i64 0) rfl
  have l1t1 := l1.set (j := 1) (v := .int .i64 0) rfl
  have l1r2 := l1.cell (j := 2) (v := .int .i64 0) rfl
  have l1s2 := l1.frozen 2
  have l1a2 : ∀ o, (w1.alloc o).cell? ⟨w.heap.size + 1, 2, none⟩ = some (.int .i64 0) := fun o => (HeapIs.al l1 (o' := o)).cell (j := 2) (v := .int .i64 0) rfl
  have l1t2 := l1.set (j := 2) (v := .int .i64 0) rfl
  have l1r3 := l1.cell (j := 3) (v := .int .u64 0) rfl
  have l1s3 := l1.frozen 3
  have l1a3 : ∀ o, (w1.alloc o).cell? ⟨w.heap.size + 1, 3, none⟩ = some (.int .u64 0) := fun o => (HeapIs.al l1 (o' := o)).cell (j := 3) (v := .int .u64 0) rfl
  have l1t3 := l1.set (j := 3) (v := .int .u64 0) rfl
  clear hb
  go_wp2_with fail
  rw [rounds_succ]
  go_wp2
  refine bodyPost_ret (by simp [results, Tryz.results164, go_sem, j1r0, j1r1, j1r2, j1r3]; try rfl) rfl ?_
  exact ⟨rfl, by repeat (first | exact HB.out | apply nbl_al | apply nbl_drw)⟩

set_option maxRecDepth 100000 in
set_option maxHeartbeats 1000000 in
theorem qty_next  (w : World)  :
    Calls Tryz.prog 97 #[.slice none 0 0] w fun e w' => e = .returned (.tuple #[.int .u64 1, .int .i64 0]) ∧ Below w.heap.size w w' := by
  have hfl : ∀ W, (Instr.field 226 (.agg #[.int .i64 0, .int .i64 0, .int .i64 0, .int .u64 0]) 2).run Tryz.prog W = .ok (.int .u64 0) W := fun W => by first | kernel_rfl | rfl
  have HB := Lib.hid (Below.refl w.heap.size w)
  go_enter Tryz.func97, Tryz.ntmps97
  go_wp2_with fail
  refine (containsFunc_mark _ _).mono ?_
  rintro e w1 ⟨rfl, hb⟩
  replace HB := Lib.hid (show Below w.heap.size w w1 by have h := hb; repeat (first | exact nbl_step HB.out h | replace h := nbl_new h | replace h := nbl_dr h))
  clear hb
  go_wp2_with fail
  refine (greatest_zero _ _ (HeapIs.new _ _)).mono ?_
  rintro e w2 ⟨rfl, hb⟩
  replace HB := Lib.hid (show Below w.heap.size w w2 by have h := hb; repeat (first | exact nbl_step HB.out h | replace h := nbl_new h | replace h := nbl_dr h))
  clear hb
  go_wp2
  go_ret2
  exact ⟨rfl, by repeat (first | exact HB.out | apply nbl_al | apply nbl_drw)⟩

set_option maxRecDepth 100000 in
set_option maxHeartbeats 1000000 in
theorem cart_time  (w : World)  :
    Calls Tryz.prog 61 #[.agg #[.slice none 0 0, .slice none 0 0, .slice none 0 0]] w fun e w' => e = .returned (.tuple #[.int .u64 1, .int .i64 0]) ∧ Below w.heap.size w w' := by
  have HB := Lib.hid (Below.refl w.heap.size w)
  go_enter Tryz.func61, Tryz.ntmps61
  go_wp2_with fail
  refine (cart_valid _).mono ?_
  rintro e w1 ⟨rfl, hb⟩
  replace HB := Lib.hid (show Below w.heap.size w w1 by have h := hb; repeat (first | exact nbl_step HB.out h | replace h := nbl_new h | replace h := nbl_dr h))
  have j1 : HeapIs w1 (w.heap.size) (.cells #[.slice none 0 0, .slice none 0 0, .slice none 0 0] 103 (0, 0)) := (HeapIs.new _ _).below hb
  have j1r0 := j1.cell (j := 0) (v := .slice none 0 0) rfl
  have j1s0 := j1.frozen 0
  have j1a0 : ∀ o, (w1.alloc o).cell? ⟨w.heap.size, 0, none⟩ = some (.slice none 0 0) := fun o => (HeapIs.al j1 (o' := o)).cell (j := 0) (v := .slice none 0 0) rfl
  have j1t0 := j1.set (j := 0) (v := .slice none 0 0) rfl
  have j1r1 := j1.cell (j := 1) (v := .slice none 0 0) rfl
  have j1s1 := j1.frozen 1
  have j1a1 : ∀ o, (w1.alloc o).cell? ⟨w.heap.size, 1, none⟩ = some (.slice none 0 0) := fun o => (HeapIs.al j1 (o' := o)).cell (j := 1) (v := .slice none 0 0) rfl
  have j1t1 := j1.set (j := 1) (v := .slice none 0 0) rfl
  have j1r2 := j1.cell (j := 2) (v := .slice none 0 0) rfl
  have j1s2 := j1.frozen 2
  have j1a2 : ∀ o, (w1.alloc o).cell? ⟨w.heap.size, 2, none⟩ = some (.slice none 0 0) := fun o => (HeapIs.al j1 (o' := o)).cell (j := 2) (v := .slice none 0 0) rfl
  have j1t2 := j1.set (j := 2) (v := .slice none 0 0) rfl
  clear hb
  go_wp2_with fail
  refine wp_loop_rounds 1 ?_
  rw [rounds_succ]
  go_wp2_with fail
  refine (qty_next _).mono ?_
  rintro e w2 ⟨rfl, hb⟩
  replace HB := Lib.hid (show Below w.heap.size w w2 by have h := hb; repeat (first | exact nbl_step HB.out h | replace h := nbl_new h | replace h := nbl_dr h))
  clear hb
  go_wp2
  go_ret2
  exact ⟨rfl, by repeat (first | exact HB.out | apply nbl_al | apply nbl_drw)⟩

end Go.Proofs.YtmocoiamhphhnaaGreatDoor

