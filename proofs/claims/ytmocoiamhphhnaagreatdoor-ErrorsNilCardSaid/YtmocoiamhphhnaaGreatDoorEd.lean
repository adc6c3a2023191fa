/- Quantities at empty carts (printed by wip/genE3.py). -/
import Derived.Test.YtmocoiamhphhnaaGreatDoorEc
namespace Go.Proofs.YtmocoiamhphhnaaGreatDoor
set_option linter.unusedVariables false
set_option linter.unusedSimpArgs false
open Go.RowKit Go.MapKept

set_option maxRecDepth 100000 in
set_option maxHeartbeats 1000000 in
theorem items_find (n : ByteArray) (w : World)  :
    Calls Tryz.prog 92 #[.slice none 0 0, .string n] w fun e w' => e = .returned (.tuple #[.agg #[.string ⟨#[]⟩, .slice none 0 0], .int .i64 9]) ∧ Below w.heap.size w w' := by
  have HB := Lib.hid (Below.refl w.heap.size w)
  go_enter Tryz.func92, Tryz.ntmps92
  go_wp2_with fail
  refine (items_index n _).mono ?_
  rintro e w1 ⟨rfl, hb⟩
  replace HB := Lib.hid (show Below w.heap.size w w1 by have h := hb; repeat (first | exact nbl_step HB.out h | replace h := nbl_new h | replace h := nbl_dr h))
  have j1 : HeapIs w1 (w.heap.size) (.cells #[.string ⟨#[]⟩, .slice none 0 0] 157 (0, 0)) := (HeapIs.new _ _).below hb
  have j1r0 := j1.cell (j := 0) (v := .string ⟨#[]⟩) rfl
  have j1s0 := j1.frozen 0
  have j1a0 : ∀ o, (w1.alloc o).cell? ⟨w.heap.size, 0, none⟩ = some (.string ⟨#[]⟩) := fun o => (HeapIs.al j1 (o' := o)).cell (j := 0) (v := .string ⟨#[]⟩) rfl
  have j1t0 := j1.set (j := 0) (v := .string ⟨#[]⟩) rfl
  have j1r1 := j1.cell (j := 1) (v := .slice none 0 0) rfl
  have j1s1 := j1.frozen 1
  have j1a1 : ∀ o, (w1.alloc o).cell? ⟨w.heap.size, 1, none⟩ = some (.slice none 0 0) := fun o => (HeapIs.al j1 (o' := o)).cell (j := 1) (v := .slice none 0 0) rfl
  have j1t1 := j1.set (j := 1) (v := .slice none 0 0) rfl
  clear hb
  go_wp2
  refine bodyPost_ret (by simp [results, Tryz.results92, go_sem, j1r0, j1r1]; try rfl) rfl ?_
  exact ⟨rfl, by repeat (first | exact HB.out | apply nbl_al | apply nbl_drw)⟩

set_option maxRecDepth 100000 in
set_option maxHeartbeats 1000000 in
theorem cart_qty (n : ByteArray) (w : World)  :
    Calls Tryz.prog 51 #[.agg #[.slice none 0 0, .slice none 0 0, .slice none 0 0], .string n] w fun e w' => e = .returned (.tuple #[.int .i64 0, .int .i64 9]) ∧ Below w.heap.size w w' := by
  have HB := Lib.hid (Below.refl w.heap.size w)
  go_enter Tryz.func51, Tryz.ntmps51
  go_wp2_with fail
  refine (cart_valid _).mono ?_
  rintro e w1 ⟨rfl, hb⟩
  replace HB := Lib.hid (show Below w.heap.size w w1 by have h := hb; repeat (first | exact nbl_step HB.out h | replace h := nbl_new h | replace h := nbl_dr h))
  have j1 : HeapIs w1 (w.heap.size) (.cells #[.slice none 0 0, .slice none 0 0, .slice none 0 0] 103 (0, 0)) := (HeapIs.new _ _).below hb
  have j1r0 := j1.cell (j := 0) (v := .slice none 0 0) rfl
  have j1s0 := j1.frozen 0
  have j1a0 : ∀ o, (w1.alloc o).cell? ⟨w.heap.size, 0, none⟩ = some (.slice none 0 0) := fun o => (HeapIs.al j1 (o' := o)).cell (j := 0) (v := .slice none 0 0) rfl
  have j1t0 := j1.set (j := 0) (v := .slice none 0 0) rfl
  have j1r1 := j1.cell (j := 1) (v := .slice none 0 0) rfl
  have j1s1 := j1.frozen 1
  have j1a1 : ∀ o, (w1.alloc o).cell? ⟨w.heap.size, 1, none⟩ = some (.slice none 0 0) := fun o => (HeapIs.al j1 (o' := o)).cell (j := 1) (v := .slice none 0 0) rfl
  have j1t1 := j1.set (j := 1) (v := .slice none 0 0) rfl
  have j1r2 := j1.cell (j := 2) (v := .slice none 0 0) rfl
  have j1s2 := j1.frozen 2
  have j1a2 : ∀ o, (w1.alloc o).cell? ⟨w.heap.size, 2, none⟩ = some (.slice none 0 0) := fun o => (HeapIs.al j1 (o' := o)).cell (j := 2) (v := .slice none 0 0) rfl
  have j1t2 := j1.set (j := 2) (v := .slice none 0 0) rfl
  clear hb
  go_wp2_with fail
  refine (items_find n _).mono ?_
  rintro e w2 ⟨rfl, hb⟩
  replace HB := Lib.hid (show Below w.heap.size w w2 by have h := hb; repeat (first | exact nbl_step HB.out h | replace h := nbl_new h | replace h := nbl_dr h))
  clear hb
  go_wp2
  go_ret2
  exact ⟨rfl, by repeat (first | exact HB.out | apply nbl_al | apply nbl_drw)⟩

theorem qty_valid (q : Int) (w : World) : Calls Tryz.prog 31 #[.int .i64 q] w fun e w' => e = .returned (.bool (decide (1 ≤ q ∧ q ≤ 2147483647))) ∧ Below w.heap.size w w' := by
  go_enter Tryz.func31, Tryz.ntmps31
  by_cases h1 : 1 ≤ q
  · by_cases h2 : q ≤ 2147483647
    · have h1d : decide (1 ≤ q) = true := decide_eq_true h1
      have h2d : decide (q ≤ 2147483647) = true := decide_eq_true h2
      go_wp2
      go_ret
      exact ⟨by rw [decide_eq_true ⟨h1, h2⟩]; rfl, Below.refl _ _⟩
    · have h1d : decide (1 ≤ q) = true := decide_eq_true h1
      have h2d : decide (q ≤ 2147483647) = false := decide_eq_false h2
      go_wp2
      go_ret
      exact ⟨rfl, Below.refl _ _⟩
  · have h1d : decide (1 ≤ q) = false := decide_eq_false h1
    go_wp2
    go_ret
    exact ⟨rfl, Below.refl _ _⟩

set_option maxRecDepth 100000 in
set_option maxHeartbeats 1000000 in
theorem sum_one (p : Nat) (q : Int) (h1 : 1 ≤ q) (h2 : q ≤ 2147483647) (w : World) (hc : w.cell? ⟨p, 0, none⟩ = some (.int .i64 q)) :
    Calls Tryz.prog 95 #[.slice (some ⟨p, 0, none⟩) 1 1] w fun e w' => e = .returned (.tuple #[.int .i64 q, .int .i64 0]) ∧ Below w.heap.size w w' := by
  have hv : decide (1 ≤ q ∧ q ≤ 2147483647) = true := decide_eq_true ⟨h1, h2⟩
  have HB := Lib.hid (Below.refl w.heap.size w)
  go_enter Tryz.func95, Tryz.ntmps95
  go_wp2_with fail
  refine wp_loop_rounds 2 ?_
  rw [rounds_succ]
  go_wp2_with fail
  refine (qty_valid q _).mono ?_
  rintro e w1 ⟨rfl, hb⟩
  replace HB := Lib.hid (show Below w.heap.size w w1 by have h := hb; repeat (first | exact nbl_step HB.out h | replace h := nbl_new h | replace h := nbl_dr h))
  clear hb
  go_wp2_with fail
  refine (qty_valid q _).mono ?_
  rintro e w2 ⟨rfl, hb⟩
  replace HB := Lib.hid (show Below w.heap.size w w2 by have h := hb; repeat (first | exact nbl_step HB.out h | replace h := nbl_new h | replace h := nbl_dr h))
  clear hb
  go_wp2_with fail
  rw [rounds_succ]
  go_wp2
  go_ret2
  exact ⟨rfl, by repeat (first | exact HB.out | apply nbl_al | apply nbl_drw)⟩

set_option maxRecDepth 100000 in
set_option maxHeartbeats 1000000 in
theorem mark_compare  (w : World)  :
    Calls Tryz.prog 165 #[.agg #[.int .i64 0, .int .i64 0, .int .i64 0, .int .u64 0], .agg #[.int .i64 0, .int .i64 0, .int .i64 0, .int .u64 0]] w fun e w' => e = .returned (.int .i64 0) ∧ Below w.heap.size w w' := by
  have HB := Lib.hid (Below.refl w.heap.size w)
  go_enter Tryz.func165, Tryz.ntmps165
  go_wp2
  go_ret
  exact ⟨rfl, by repeat (first | exact HB.out | apply nbl_al | apply nbl_drw)⟩

set_option maxRecDepth 100000 in
set_option maxHeartbeats 1000000 in
theorem move_sum (n : ByteArray) (hn : n.size ≤ 100000) (hi : itemL n.data.toList = true) (q : Int) (h1 : 1 ≤ q) (h2 : q ≤ 2147483647) (w : World) (hm : MaxIs w) :
    Calls Tryz.prog 56 #[.agg #[.slice none 0 0, .slice none 0 0, .slice none 0 0], .string n, .int .i64 q] w fun e w' => e = .returned (.tuple #[.int .i64 q, .int .i64 0]) ∧ Below w.heap.size w w' := by
  have HM := Lib.hid hm
  clear hm
  have HI : Hid (∀ W, MaxIs W → Calls Tryz.prog 29 #[.string n] W fun e w' => e = .returned (.bool true) ∧ Below W.heap.size W w') := Lib.hid (fun W h => by rw [← hi]; exact item_any n hn W h)
  have HB := Lib.hid (Below.refl w.heap.size w)
  go_enter Tryz.func56, Tryz.ntmps56
  go_wp2_with fail
  refine (cart_valid _).mono ?_
  rintro e w1 ⟨rfl, hb⟩
  replace HB := Lib.hid (show Below w.heap.size w w1 by have h := hb; repeat (first | exact nbl_step HB.out h | replace h := nbl_new h | replace h := nbl_dr h))
  have j1 : HeapIs w1 (w.heap.size) (.cells #[.slice none 0 0, .slice none 0 0, .slice none 0 0] 103 (0, 0)) := (HeapIs.new _ _).below hb
  have j1r0 := j1.cell (j := 0) (v := .slice none 0 0) rfl
  have j1s0 := j1.frozen 0
  have j1a0 : ∀ o, (w1.alloc o).cell? ⟨w.heap.size, 0, none⟩ = some (.slice none 0 0) := fun o => (HeapIs.al j1 (o' := o)).cell (j := 0) (v := .slice none 0 0) rfl
  have j1t0 := j1.set (j := 0) (v := .slice none 0 0) rfl
  have j1r1 := j1.cell (j := 1) (v := .slice none 0 0) rfl
  have j1s1 := j1.frozen 1
  have j1a1 : ∀ o, (w1.alloc o).cell? ⟨w.heap.size, 1, none⟩ = some (.slice none 0 0) := fun o => (HeapIs.al j1 (o' := o)).cell (j := 1) (v := .slice none 0 0) rfl
  have j1t1 := j1.set (j := 1) (v := .slice none 0 0) rfl
  have j1r2 := j1.cell (j := 2) (v := .slice none 0 0) rfl
  have j1s2 := j1.frozen 2
  have j1a2 : ∀ o, (w1.alloc o).cell? ⟨w.heap.size, 2, none⟩ = some (.slice none 0 0) := fun o => (HeapIs.al j1 (o' := o)).cell (j := 2) (v := .slice none 0 0) rfl
  have j1t2 := j1.set (j := 2) (v := .slice none 0 0) rfl
  have HM1 := Lib.hid (show MaxIs w1 from HM.out.later HB.out)
  clear hb
  go_wp2_with fail
  refine (HI.out _ HM1.out).mono ?_
  rintro e w2 ⟨rfl, hb⟩
  replace HB := Lib.hid (show Below w.heap.size w w2 by have h := hb; repeat (first | exact nbl_step HB.out h | replace h := nbl_new h | replace h := nbl_dr h))
  have j2 : HeapIs w2 (w.heap.size) (.cells #[.slice none 0 0, .slice none 0 0, .slice none 0 0] 103 (0, 0)) := j1.below hb
  have j2r0 := j2.cell (j := 0) (v := .slice none 0 0) rfl
  have j2s0 := j2.frozen 0
  have j2a0 : ∀ o, (w2.alloc o).cell? ⟨w.heap.size, 0, none⟩ = some (.slice none 0 0) := fun o => (HeapIs.al j2 (o' := o)).cell (j := 0) (v := .slice none 0 0) rfl
  have j2t0 := j2.set (j := 0) (v := .slice none 0 0) rfl
  have j2r1 := j2.cell (j := 1) (v := .slice none 0 0) rfl
  have j2s1 := j2.frozen 1
  have j2a1 : ∀ o, (w2.alloc o).cell? ⟨w.heap.size, 1, none⟩ = some (.slice none 0 0) := fun o => (HeapIs.al j2 (o' := o)).cell (j := 1) (v := .slice none 0 0) rfl
  have j2t1 := j2.set (j := 1) (v := .slice none 0 0) rfl
  have j2r2 := j2.cell (j := 2) (v := .slice none 0 0) rfl
  have j2s2 := j2.frozen 2
  have j2a2 : ∀ o, (w2.alloc o).cell? ⟨w.heap.size, 2, none⟩ = some (.slice none 0 0) := fun o => (HeapIs.al j2 (o' := o)).cell (j := 2) (v := .slice none 0 0) rfl
  have j2t2 := j2.set (j := 2) (v := .slice none 0 0) rfl
  clear hb
  go_wp2_with fail
  refine (cart_qty n _).mono ?_
  rintro e w3 ⟨rfl, hb⟩
  replace HB := Lib.hid (show Below w.heap.size w w3 by have h := hb; repeat (first | exact nbl_step HB.out h | replace h := nbl_new h | replace h := nbl_dr h))
  have d3 : w3.cell? ⟨w2.heap.size, 0, none⟩ = some (.int .i64 q) := (hb.cell (by simp)).trans (by simp)
  clear hb
  go_wp2_with fail
  refine (sum_one _ q h1 h2 _ d3).mono ?_
  rintro e w4 ⟨rfl, hb⟩
  replace HB := Lib.hid (show Below w.heap.size w w4 by have h := hb; repeat (first | exact nbl_step HB.out h | replace h := nbl_new h | replace h := nbl_dr h))
  clear hb
  go_wp2
  go_ret2
  exact ⟨rfl, by repeat (first | exact HB.out | apply nbl_al | apply nbl_drw)⟩

end Go.Proofs.YtmocoiamhphhnaaGreatDoor

