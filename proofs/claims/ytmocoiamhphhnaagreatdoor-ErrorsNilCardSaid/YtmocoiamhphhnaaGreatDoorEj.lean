/- Making an empty node (printed by wip/genEj.py). -/
import Derived.Test.YtmocoiamhphhnaaGreatDoorEi
namespace Go.Proofs.YtmocoiamhphhnaaGreatDoor
set_option linter.unusedVariables false
set_option linter.unusedSimpArgs false
open Go.RowKit Go.MapKept

def TabOut (w : World) (e : Ending) (w' : World) : Prop := ∃ pt ps bm : Nat, e = .returned (.tuple #[.pointer (some ⟨pt, 0, none⟩), .int .i64 0]) ∧ TabE w' pt ps bm ∧ Below w.heap.size w w'
def DotOut (w : World) (e : Ending) (w' : World) : Prop := ∃ pd : Nat, e = .returned (.tuple #[.pointer (some ⟨pd, 0, none⟩), .int .i64 0]) ∧ DotE w' pd ∧ Below w.heap.size w w'
def PtrOut (w : World) (e : Ending) (w' : World) : Prop := ∃ pd : Nat, e = .returned (.tuple #[.pointer (some ⟨pd, 0, none⟩), .int .i64 0]) ∧ Below w.heap.size w w'

set_option maxRecDepth 100000 in
set_option maxHeartbeats 1000000 in
theorem dot_valid (w : World) : Calls Tryz.prog 39 #[.agg #[.int .i64 1, .int .i64 1]] w fun e w' => e = .returned (.bool true) ∧ Below w.heap.size w w' := by
  have HB := Lib.hid (Below.refl w.heap.size w)
  go_enter Tryz.func39, Tryz.ntmps39
  go_wp2
  go_ret
  exact ⟨rfl, by repeat (first | exact HB.out | apply nbl_al | apply nbl_drw)⟩

set_option maxRecDepth 100000 in
set_option maxHeartbeats 1000000 in
theorem counter_new (w : World) : Calls Tryz.prog 17 #[.int .i64 1, .int .i64 0] w (DotOut w) := by
  have HB := Lib.hid (Below.refl w.heap.size w)
  go_enter Tryz.func17, Tryz.ntmps17
  go_wp2_with fail
  refine (dot_valid _).mono ?_
  rintro e w1 ⟨rfl, hb⟩
  replace HB := Lib.hid (nbl_step HB.out hb)
  clear hb
  go_wp2
  go_ret2
  exact ⟨w1.heap.size, rfl, HeapIs.new _ _, nbl_al HB.out⟩

set_option maxRecDepth 100000 in
set_option maxHeartbeats 1000000 in
theorem inbox_new (w : World) : Calls Tryz.prog 18 #[.int .i64 1] w (PtrOut w) := by
  have HB := Lib.hid (Below.refl w.heap.size w)
  go_enter Tryz.func18, Tryz.ntmps18
  go_wp2
  go_ret2
  exact ⟨w.heap.size, rfl, nbl_al HB.out⟩

set_option maxRecDepth 100000 in
set_option maxHeartbeats 1000000 in
theorem outbox_new (w : World) : Calls Tryz.prog 19 #[.int .i64 1] w (PtrOut w) := by
  have HB := Lib.hid (Below.refl w.heap.size w)
  go_enter Tryz.func19, Tryz.ntmps19
  go_wp2
  go_ret2
  exact ⟨w.heap.size, rfl, nbl_al HB.out⟩

set_option maxRecDepth 100000 in
set_option maxHeartbeats 1000000 in
theorem table_new (w : World) : Calls Tryz.prog 16 #[.int .i64 1] w (TabOut w) := by
  have HB := Lib.hid (Below.refl w.heap.size w)
  have hmm := @run_makeMap Tryz.prog
  have hmk : (Instr.makeSlice 71 (.int .i64 1) (.int .i64 1)).run Tryz.prog w = .ok (.slice (some ⟨w.heap.size, 0, none⟩) 1 1) (w.alloc (.cells #[.map none] 74)) := by kernel_rfl
  go_enter Tryz.func16, Tryz.ntmps16
  go_wp2_with fail
  refine wp_loop_rounds 2 ?_
  rw [rounds_succ]
  go_wp2_with fail
  rw [rounds_succ]
  go_wp2
  go_ret2
  refine ⟨w.heap.size + 1, w.heap.size, w.heap.size + 1 + 1, rfl, ⟨?_, ?_, ?_⟩, by repeat (first | exact HB.out | apply nbl_al)⟩
  · have h := HeapIs.new (w.alloc (.cells #[.map (some (w.heap.size + 1 + 1))] 74)) (.cells #[.slice (some ⟨w.heap.size, 0, none⟩) 1 1, .int .i64 0] 73)
    rw [show (w.alloc (.cells #[.map (some (w.heap.size + 1 + 1))] 74)).heap.size = w.heap.size + 1 by simp] at h
    exact h.al
  · exact ((HeapIs.new w _).al).al
  · have h := HeapIs.new ((w.alloc (.cells #[.map (some (w.heap.size + 1 + 1))] 74)).alloc (.cells #[.slice (some ⟨w.heap.size, 0, none⟩) 1 1, .int .i64 0] 73)) (.map #[] 0)
    rw [show ((w.alloc (.cells #[.map (some (w.heap.size + 1 + 1))] 74)).alloc (.cells #[.slice (some ⟨w.heap.size, 0, none⟩) 1 1, .int .i64 0] 73)).heap.size = w.heap.size + 1 + 1 by simp] at h
    exact h

def NodeOut (w : World) (e : Ending) (w' : World) : Prop := ∃ pn pt pd pi po ps bm : Nat, e = .returned (.tuple #[.pointer (some ⟨pn, 0, none⟩), .int .i64 0]) ∧ NodeE w' pn pt pd pi po ps bm ∧ Below w.heap.size w w'

set_option maxRecDepth 100000 in
set_option maxHeartbeats 1000000 in
theorem node_new (w : World) : Calls Tryz.prog 10 #[.agg #[.int .i64 1, .int .i64 1, .int .i64 1, .int .i64 1]] w (NodeOut w) := by
  have HB := Lib.hid (Below.refl w.heap.size w)
  go_enter Tryz.func10, Tryz.ntmps10
  go_wp2_with fail
  refine (table_new _).mono ?_
  rintro e w1 ⟨pt, ps, bm, rfl, ht, hb⟩
  replace HB := Lib.hid (nbl_step HB.out (nbl_new hb))
  have j1 : HeapIs w1 (w.heap.size) (.cells #[.int .i64 1, .int .i64 1, .int .i64 1, .int .i64 1] 34 (0, 0)) := (HeapIs.new _ _).below hb
  have j1r0 := j1.cell (j := 0) (v := .int .i64 1) rfl
  have j1s0 := j1.frozen 0
  have j1a0 : ∀ o, (w1.alloc o).cell? ⟨w.heap.size, 0, none⟩ = some (.int .i64 1) := fun o => (HeapIs.al j1 (o' := o)).cell (j := 0) (v := .int .i64 1) rfl
  have j1t0 := j1.set (j := 0) (v := .int .i64 1) rfl
  have j1r1 := j1.cell (j := 1) (v := .int .i64 1) rfl
  have j1s1 := j1.frozen 1
  have j1a1 : ∀ o, (w1.alloc o).cell? ⟨w.heap.size, 1, none⟩ = some (.int .i64 1) := fun o => (HeapIs.al j1 (o' := o)).cell (j := 1) (v := .int .i64 1) rfl
  have j1t1 := j1.set (j := 1) (v := .int .i64 1) rfl
  have j1r2 := j1.cell (j := 2) (v := .int .i64 1) rfl
  have j1s2 := j1.frozen 2
  have j1a2 : ∀ o, (w1.alloc o).cell? ⟨w.heap.size, 2, none⟩ = some (.int .i64 1) := fun o => (HeapIs.al j1 (o' := o)).cell (j := 2) (v := .int .i64 1) rfl
  have j1t2 := j1.set (j := 2) (v := .int .i64 1) rfl
  have j1r3 := j1.cell (j := 3) (v := .int .i64 1) rfl
  have j1s3 := j1.frozen 3
  have j1a3 : ∀ o, (w1.alloc o).cell? ⟨w.heap.size, 3, none⟩ = some (.int .i64 1) := fun o => (HeapIs.al j1 (o' := o)).cell (j := 3) (v := .int .i64 1) rfl
  have j1t3 := j1.set (j := 3) (v := .int .i64 1) rfl
  have HT := Lib.hid ht
  clear hb ht
  go_wp2_with fail
  refine (counter_new _).mono ?_
  rintro e w2 ⟨pd, rfl, hd, hb⟩
  replace HB := Lib.hid (nbl_step HB.out hb)
  have j2 : HeapIs w2 (w.heap.size) (.cells #[.int .i64 1, .int .i64 1, .int .i64 1, .int .i64 1] 34 (0, 0)) := j1.below hb
  have j2r0 := j2.cell (j := 0) (v := .int .i64 1) rfl
  have j2s0 := j2.frozen 0
  have j2a0 : ∀ o, (w2.alloc o).cell? ⟨w.heap.size, 0, none⟩ = some (.int .i64 1) := fun o => (HeapIs.al j2 (o' := o)).cell (j := 0) (v := .int .i64 1) rfl
  have j2t0 := j2.set (j := 0) (v := .int .i64 1) rfl
  have j2r1 := j2.cell (j := 1) (v := .int .i64 1) rfl
  have j2s1 := j2.frozen 1
  have j2a1 : ∀ o, (w2.alloc o).cell? ⟨w.heap.size, 1, none⟩ = some (.int .i64 1) := fun o => (HeapIs.al j2 (o' := o)).cell (j := 1) (v := .int .i64 1) rfl
  have j2t1 := j2.set (j := 1) (v := .int .i64 1) rfl
  have j2r2 := j2.cell (j := 2) (v := .int .i64 1) rfl
  have j2s2 := j2.frozen 2
  have j2a2 : ∀ o, (w2.alloc o).cell? ⟨w.heap.size, 2, none⟩ = some (.int .i64 1) := fun o => (HeapIs.al j2 (o' := o)).cell (j := 2) (v := .int .i64 1) rfl
  have j2t2 := j2.set (j := 2) (v := .int .i64 1) rfl
  have j2r3 := j2.cell (j := 3) (v := .int .i64 1) rfl
  have j2s3 := j2.frozen 3
  have j2a3 : ∀ o, (w2.alloc o).cell? ⟨w.heap.size, 3, none⟩ = some (.int .i64 1) := fun o => (HeapIs.al j2 (o' := o)).cell (j := 3) (v := .int .i64 1) rfl
  have j2t3 := j2.set (j := 3) (v := .int .i64 1) rfl
  replace HT := Lib.hid (HT.out.later hb)
  have HD := Lib.hid hd
  clear hb hd
  go_wp2_with fail
  refine (inbox_new _).mono ?_
  rintro e w3 ⟨pi, rfl, hb⟩
  replace HB := Lib.hid (nbl_step HB.out hb)
  have j3 : HeapIs w3 (w.heap.size) (.cells #[.int .i64 1, .int .i64 1, .int .i64 1, .int .i64 1] 34 (0, 0)) := j2.below hb
  have j3r0 := j3.cell (j := 0) (v := .int .i64 1) rfl
  have j3s0 := j3.frozen 0
  have j3a0 : ∀ o, (w3.alloc o).cell? ⟨w.heap.size, 0, none⟩ = some (.int .i64 1) := fun o => (HeapIs.al j3 (o' := o)).cell (j := 0) (v := .int .i64 1) rfl
  have j3t0 := j3.set (j := 0) (v := .int .i64 1) rfl
  have j3r1 := j3.cell (j := 1) (v := .int .i64 1) rfl
  have j3s1 := j3.frozen 1
  have j3a1 : ∀ o, (w3.alloc o).cell? ⟨w.heap.size, 1, none⟩ = some (.int .i64 1) := fun o => (HeapIs.al j3 (o' := o)).cell (j := 1) (v := .int .i64 1) rfl
  have j3t1 := j3.set (j := 1) (v := .int .i64 1) rfl
  have j3r2 := j3.cell (j := 2) (v := .int .i64 1) rfl
  have j3s2 := j3.frozen 2
  have j3a2 : ∀ o, (w3.alloc o).cell? ⟨w.heap.size, 2, none⟩ = some (.int .i64 1) := fun o => (HeapIs.al j3 (o' := o)).cell (j := 2) (v := .int .i64 1) rfl
  have j3t2 := j3.set (j := 2) (v := .int .i64 1) rfl
  have j3r3 := j3.cell (j := 3) (v := .int .i64 1) rfl
  have j3s3 := j3.frozen 3
  have j3a3 : ∀ o, (w3.alloc o).cell? ⟨w.heap.size, 3, none⟩ = some (.int .i64 1) := fun o => (HeapIs.al j3 (o' := o)).cell (j := 3) (v := .int .i64 1) rfl
  have j3t3 := j3.set (j := 3) (v := .int .i64 1) rfl
  replace HT := Lib.hid (HT.out.later hb)
  replace HD := Lib.hid (HeapIs.below HD.out hb)
  clear hb
  go_wp2_with fail
  refine (outbox_new _).mono ?_
  rintro e w4 ⟨po, rfl, hb⟩
  replace HB := Lib.hid (nbl_step HB.out hb)
  have j4 : HeapIs w4 (w.heap.size) (.cells #[.int .i64 1, .int .i64 1, .int .i64 1, .int .i64 1] 34 (0, 0)) := j3.below hb
  have j4r0 := j4.cell (j := 0) (v := .int .i64 1) rfl
  have j4s0 := j4.frozen 0
  have j4a0 : ∀ o, (w4.alloc o).cell? ⟨w.heap.size, 0, none⟩ = some (.int .i64 1) := fun o => (HeapIs.al j4 (o' := o)).cell (j := 0) (v := .int .i64 1) rfl
  have j4t0 := j4.set (j := 0) (v := .int .i64 1) rfl
  have j4r1 := j4.cell (j := 1) (v := .int .i64 1) rfl
  have j4s1 := j4.frozen 1
  have j4a1 : ∀ o, (w4.alloc o).cell? ⟨w.heap.size, 1, none⟩ = some (.int .i64 1) := fun o => (HeapIs.al j4 (o' := o)).cell (j := 1) (v := .int .i64 1) rfl
  have j4t1 := j4.set (j := 1) (v := .int .i64 1) rfl
  have j4r2 := j4.cell (j := 2) (v := .int .i64 1) rfl
  have j4s2 := j4.frozen 2
  have j4a2 : ∀ o, (w4.alloc o).cell? ⟨w.heap.size, 2, none⟩ = some (.int .i64 1) := fun o => (HeapIs.al j4 (o' := o)).cell (j := 2) (v := .int .i64 1) rfl
  have j4t2 := j4.set (j := 2) (v := .int .i64 1) rfl
  have j4r3 := j4.cell (j := 3) (v := .int .i64 1) rfl
  have j4s3 := j4.frozen 3
  have j4a3 : ∀ o, (w4.alloc o).cell? ⟨w.heap.size, 3, none⟩ = some (.int .i64 1) := fun o => (HeapIs.al j4 (o' := o)).cell (j := 3) (v := .int .i64 1) rfl
  have j4t3 := j4.set (j := 3) (v := .int .i64 1) rfl
  replace HT := Lib.hid (HT.out.later hb)
  replace HD := Lib.hid (HeapIs.below HD.out hb)
  clear hb
  go_wp2
  go_ret2
  exact ⟨w4.heap.size, pt, pd, pi, po, ps, bm, rfl, ⟨HeapIs.new _ _, HT.out.al _, HeapIs.al HD.out⟩, nbl_al HB.out⟩

end Go.Proofs.YtmocoiamhphhnaaGreatDoor

