/- What the law knows of errors (printed by wip/genEv.py). -/
import Derived.Test.YtmocoiamhphhnaaGreatDoorEu
namespace Go.Proofs.YtmocoiamhphhnaaGreatDoor
set_option linter.unusedVariables false
set_option linter.unusedSimpArgs false
open Go.RowKit Go.MapKept

theorem word_13 (w : World) (hW : WordsAt w) : Calls Tryz.prog 5 #[.int .i64 13] w fun e w' => e = .returned (.string ⟨#[116, 111, 111, 32, 109, 97, 110, 121]⟩) ∧ Below w.heap.size w w' := word_any 13 w hW
theorem word_18 (w : World) (hW : WordsAt w) : Calls Tryz.prog 5 #[.int .i64 18] w fun e w' => e = .returned (.string ⟨#[]⟩) ∧ Below w.heap.size w w' := word_any 18 w hW

set_option maxRecDepth 100000 in
set_option maxHeartbeats 1000000 in
theorem addlaw_0 (w : World) : Calls Tryz.prog 12 #[.string ⟨#[97]⟩, .int .i64 0] w fun e w' => e = .returned (.agg #[.int .i64 1, .string ⟨#[97]⟩, .string ⟨#[]⟩, .string ⟨#[116, 101, 97]⟩, .int .i64 0, .slice none 0 0]) ∧ Below w.heap.size w w' := by
  have HB := Lib.hid (Below.refl w.heap.size w)
  have j := HeapIs.new w (.cells #[.int .i64 1, .string ⟨#[97]⟩, .string ⟨#[]⟩, .string ⟨#[116, 101, 97]⟩, .int .i64 0, .slice none 0 0] 29)
  have jr0 := j.cell (j := 0) rfl
  have jr1 := j.cell (j := 1) rfl
  have jr2 := j.cell (j := 2) rfl
  have jr3 := j.cell (j := 3) rfl
  have jr4 := j.cell (j := 4) rfl
  have jr5 := j.cell (j := 5) rfl
  go_enter Tryz.func12, Tryz.ntmps12
  go_wp2
  refine bodyPost_ret (by simp [results, Tryz.results12, go_sem]; try rfl) rfl ?_
  exact ⟨rfl, by repeat (first | exact HB.out | apply nbl_al | apply nbl_drw)⟩

set_option maxRecDepth 100000 in
set_option maxHeartbeats 1000000 in
theorem addlaw_1 (w : World) : Calls Tryz.prog 12 #[.string ⟨#[97]⟩, .int .i64 1] w fun e w' => e = .returned (.agg #[.int .i64 1, .string ⟨#[97]⟩, .string ⟨#[]⟩, .string ⟨#[116, 101, 97]⟩, .int .i64 1, .slice none 0 0]) ∧ Below w.heap.size w w' := by
  have HB := Lib.hid (Below.refl w.heap.size w)
  have j := HeapIs.new w (.cells #[.int .i64 1, .string ⟨#[97]⟩, .string ⟨#[]⟩, .string ⟨#[116, 101, 97]⟩, .int .i64 1, .slice none 0 0] 29)
  have jr0 := j.cell (j := 0) rfl
  have jr1 := j.cell (j := 1) rfl
  have jr2 := j.cell (j := 2) rfl
  have jr3 := j.cell (j := 3) rfl
  have jr4 := j.cell (j := 4) rfl
  have jr5 := j.cell (j := 5) rfl
  go_enter Tryz.func12, Tryz.ntmps12
  go_wp2
  refine bodyPost_ret (by simp [results, Tryz.results12, go_sem]; try rfl) rfl ?_
  exact ⟨rfl, by repeat (first | exact HB.out | apply nbl_al | apply nbl_drw)⟩

set_option maxRecDepth 100000 in
set_option maxHeartbeats 4000000 in
theorem known_yes (w : World) (hE : Env w) (hW : WordsAt w) : Calls Tryz.prog 7 #[] w fun e w' => e = .returned (.bool true) ∧ Below w.heap.size w w' := by
  have HE := Lib.hid hE
  have HW := Lib.hid hW
  clear hE hW
  have HB := Lib.hid (Below.refl w.heap.size w)
  go_enter Tryz.func7, Tryz.ntmps7
  go_wp2_with fail
  refine (node_new _).mono ?_
  rintro e w1 ⟨pn, pt, pd, pi, po, ps, bm, rfl, hn, hb⟩
  replace HB := Lib.hid (nbl_step HB.out hb)
  have HN := Lib.hid hn
  clear hb hn
  go_wp2_with fail
  refine (addlaw_0 _).mono ?_
  rintro e w2 ⟨rfl, hb⟩
  replace HB := Lib.hid (show Below w.heap.size w w2 by have h := hb; repeat (first | exact nbl_step HB.out h | replace h := nbl_new h | replace h := nbl_dr h))
  have c2 : HeapIs w2 w1.heap.size (.cells #[.int .i64 4, .string ⟨#[65]⟩, .string ⟨#[]⟩, .string ⟨#[]⟩, .int .i64 0, .slice none 0 0] 29 (0, 0)) := (HeapIs.new w1 _).below hb
  have c2r0 := c2.cell (j := 0) (v := .int .i64 4) rfl
  have c2a0 : ∀ o, (w2.alloc o).cell? ⟨w1.heap.size, 0, none⟩ = some (.int .i64 4) := fun o => (HeapIs.al c2 (o' := o)).cell (j := 0) (v := .int .i64 4) rfl
  have c2r1 := c2.cell (j := 1) (v := .string ⟨#[65]⟩) rfl
  have c2a1 : ∀ o, (w2.alloc o).cell? ⟨w1.heap.size, 1, none⟩ = some (.string ⟨#[65]⟩) := fun o => (HeapIs.al c2 (o' := o)).cell (j := 1) (v := .string ⟨#[65]⟩) rfl
  have c2r2 := c2.cell (j := 2) (v := .string ⟨#[]⟩) rfl
  have c2a2 : ∀ o, (w2.alloc o).cell? ⟨w1.heap.size, 2, none⟩ = some (.string ⟨#[]⟩) := fun o => (HeapIs.al c2 (o' := o)).cell (j := 2) (v := .string ⟨#[]⟩) rfl
  have c2r3 := c2.cell (j := 3) (v := .string ⟨#[]⟩) rfl
  have c2a3 : ∀ o, (w2.alloc o).cell? ⟨w1.heap.size, 3, none⟩ = some (.string ⟨#[]⟩) := fun o => (HeapIs.al c2 (o' := o)).cell (j := 3) (v := .string ⟨#[]⟩) rfl
  have c2r4 := c2.cell (j := 4) (v := .int .i64 0) rfl
  have c2a4 : ∀ o, (w2.alloc o).cell? ⟨w1.heap.size, 4, none⟩ = some (.int .i64 0) := fun o => (HeapIs.al c2 (o' := o)).cell (j := 4) (v := .int .i64 0) rfl
  have c2r5 := c2.cell (j := 5) (v := .slice none 0 0) rfl
  have c2a5 : ∀ o, (w2.alloc o).cell? ⟨w1.heap.size, 5, none⟩ = some (.slice none 0 0) := fun o => (HeapIs.al c2 (o' := o)).cell (j := 5) (v := .slice none 0 0) rfl
  replace HN := Lib.hid ((HN.out.al (.cells #[.int .i64 4, .string ⟨#[65]⟩, .string ⟨#[]⟩, .string ⟨#[]⟩, .int .i64 0, .slice none 0 0] 29)).later hb)
  clear hb
  go_wp2_with fail
  refine (first_add0_0 _ (HE.out.later (by repeat (first | exact HB.out | apply nbl_al)))).mono ?_
  rintro e w3 ⟨rfl, hb⟩
  replace HB := Lib.hid (show Below w.heap.size w w3 by have h := hb; repeat (first | exact nbl_step HB.out h | replace h := nbl_new h | replace h := nbl_dr h))
  have c3 : HeapIs w3 w1.heap.size (.cells #[.int .i64 4, .string ⟨#[65]⟩, .string ⟨#[]⟩, .string ⟨#[]⟩, .int .i64 0, .slice none 0 0] 29 (0, 0)) := c2.below hb
  have c3r0 := c3.cell (j := 0) (v := .int .i64 4) rfl
  have c3a0 : ∀ o, (w3.alloc o).cell? ⟨w1.heap.size, 0, none⟩ = some (.int .i64 4) := fun o => (HeapIs.al c3 (o' := o)).cell (j := 0) (v := .int .i64 4) rfl
  have c3r1 := c3.cell (j := 1) (v := .string ⟨#[65]⟩) rfl
  have c3a1 : ∀ o, (w3.alloc o).cell? ⟨w1.heap.size, 1, none⟩ = some (.string ⟨#[65]⟩) := fun o => (HeapIs.al c3 (o' := o)).cell (j := 1) (v := .string ⟨#[65]⟩) rfl
  have c3r2 := c3.cell (j := 2) (v := .string ⟨#[]⟩) rfl
  have c3a2 : ∀ o, (w3.alloc o).cell? ⟨w1.heap.size, 2, none⟩ = some (.string ⟨#[]⟩) := fun o => (HeapIs.al c3 (o' := o)).cell (j := 2) (v := .string ⟨#[]⟩) rfl
  have c3r3 := c3.cell (j := 3) (v := .string ⟨#[]⟩) rfl
  have c3a3 : ∀ o, (w3.alloc o).cell? ⟨w1.heap.size, 3, none⟩ = some (.string ⟨#[]⟩) := fun o => (HeapIs.al c3 (o' := o)).cell (j := 3) (v := .string ⟨#[]⟩) rfl
  have c3r4 := c3.cell (j := 4) (v := .int .i64 0) rfl
  have c3a4 : ∀ o, (w3.alloc o).cell? ⟨w1.heap.size, 4, none⟩ = some (.int .i64 0) := fun o => (HeapIs.al c3 (o' := o)).cell (j := 4) (v := .int .i64 0) rfl
  have c3r5 := c3.cell (j := 5) (v := .slice none 0 0) rfl
  have c3a5 : ∀ o, (w3.alloc o).cell? ⟨w1.heap.size, 5, none⟩ = some (.slice none 0 0) := fun o => (HeapIs.al c3 (o' := o)).cell (j := 5) (v := .slice none 0 0) rfl
  clear c2 c2r0 c2a0 c2r1 c2a1 c2r2 c2a2 c2r3 c2a3 c2r4 c2a4 c2r5 c2a5
  replace HN := Lib.hid (HN.out.later hb)
  clear hb
  go_wp2_with fail
  refine (addlaw_0 _).mono ?_
  rintro e w4 ⟨rfl, hb⟩
  replace HB := Lib.hid (show Below w.heap.size w w4 by have h := hb; repeat (first | exact nbl_step HB.out h | replace h := nbl_new h | replace h := nbl_dr h))
  have c4 : HeapIs w4 w1.heap.size (.cells #[.int .i64 4, .string ⟨#[65]⟩, .string ⟨#[]⟩, .string ⟨#[]⟩, .int .i64 0, .slice none 0 0] 29 (0, 0)) := c3.below hb
  have c4r0 := c4.cell (j := 0) (v := .int .i64 4) rfl
  have c4a0 : ∀ o, (w4.alloc o).cell? ⟨w1.heap.size, 0, none⟩ = some (.int .i64 4) := fun o => (HeapIs.al c4 (o' := o)).cell (j := 0) (v := .int .i64 4) rfl
  have c4r1 := c4.cell (j := 1) (v := .string ⟨#[65]⟩) rfl
  have c4a1 : ∀ o, (w4.alloc o).cell? ⟨w1.heap.size, 1, none⟩ = some (.string ⟨#[65]⟩) := fun o => (HeapIs.al c4 (o' := o)).cell (j := 1) (v := .string ⟨#[65]⟩) rfl
  have c4r2 := c4.cell (j := 2) (v := .string ⟨#[]⟩) rfl
  have c4a2 : ∀ o, (w4.alloc o).cell? ⟨w1.heap.size, 2, none⟩ = some (.string ⟨#[]⟩) := fun o => (HeapIs.al c4 (o' := o)).cell (j := 2) (v := .string ⟨#[]⟩) rfl
  have c4r3 := c4.cell (j := 3) (v := .string ⟨#[]⟩) rfl
  have c4a3 : ∀ o, (w4.alloc o).cell? ⟨w1.heap.size, 3, none⟩ = some (.string ⟨#[]⟩) := fun o => (HeapIs.al c4 (o' := o)).cell (j := 3) (v := .string ⟨#[]⟩) rfl
  have c4r4 := c4.cell (j := 4) (v := .int .i64 0) rfl
  have c4a4 : ∀ o, (w4.alloc o).cell? ⟨w1.heap.size, 4, none⟩ = some (.int .i64 0) := fun o => (HeapIs.al c4 (o' := o)).cell (j := 4) (v := .int .i64 0) rfl
  have c4r5 := c4.cell (j := 5) (v := .slice none 0 0) rfl
  have c4a5 : ∀ o, (w4.alloc o).cell? ⟨w1.heap.size, 5, none⟩ = some (.slice none 0 0) := fun o => (HeapIs.al c4 (o' := o)).cell (j := 5) (v := .slice none 0 0) rfl
  clear c3 c3r0 c3a0 c3r1 c3a1 c3r2 c3a2 c3r3 c3a3 c3r4 c3a4 c3r5 c3a5
  replace HN := Lib.hid (HN.out.later hb)
  clear hb
  go_wp2_with fail
  refine (first_add0_1 _ (HE.out.later (by repeat (first | exact HB.out | apply nbl_al)))).mono ?_
  rintro e w5 ⟨rfl, hb⟩
  replace HB := Lib.hid (show Below w.heap.size w w5 by have h := hb; repeat (first | exact nbl_step HB.out h | replace h := nbl_new h | replace h := nbl_dr h))
  have c5 : HeapIs w5 w1.heap.size (.cells #[.int .i64 4, .string ⟨#[65]⟩, .string ⟨#[]⟩, .string ⟨#[]⟩, .int .i64 0, .slice none 0 0] 29 (0, 0)) := c4.below hb
  have c5r0 := c5.cell (j := 0) (v := .int .i64 4) rfl
  have c5a0 : ∀ o, (w5.alloc o).cell? ⟨w1.heap.size, 0, none⟩ = some (.int .i64 4) := fun o => (HeapIs.al c5 (o' := o)).cell (j := 0) (v := .int .i64 4) rfl
  have c5r1 := c5.cell (j := 1) (v := .string ⟨#[65]⟩) rfl
  have c5a1 : ∀ o, (w5.alloc o).cell? ⟨w1.heap.size, 1, none⟩ = some (.string ⟨#[65]⟩) := fun o => (HeapIs.al c5 (o' := o)).cell (j := 1) (v := .string ⟨#[65]⟩) rfl
  have c5r2 := c5.cell (j := 2) (v := .string ⟨#[]⟩) rfl
  have c5a2 : ∀ o, (w5.alloc o).cell? ⟨w1.heap.size, 2, none⟩ = some (.string ⟨#[]⟩) := fun o => (HeapIs.al c5 (o' := o)).cell (j := 2) (v := .string ⟨#[]⟩) rfl
  have c5r3 := c5.cell (j := 3) (v := .string ⟨#[]⟩) rfl
  have c5a3 : ∀ o, (w5.alloc o).cell? ⟨w1.heap.size, 3, none⟩ = some (.string ⟨#[]⟩) := fun o => (HeapIs.al c5 (o' := o)).cell (j := 3) (v := .string ⟨#[]⟩) rfl
  have c5r4 := c5.cell (j := 4) (v := .int .i64 0) rfl
  have c5a4 : ∀ o, (w5.alloc o).cell? ⟨w1.heap.size, 4, none⟩ = some (.int .i64 0) := fun o => (HeapIs.al c5 (o' := o)).cell (j := 4) (v := .int .i64 0) rfl
  have c5r5 := c5.cell (j := 5) (v := .slice none 0 0) rfl
  have c5a5 : ∀ o, (w5.alloc o).cell? ⟨w1.heap.size, 5, none⟩ = some (.slice none 0 0) := fun o => (HeapIs.al c5 (o' := o)).cell (j := 5) (v := .slice none 0 0) rfl
  clear c4 c4r0 c4a0 c4r1 c4a1 c4r2 c4a2 c4r3 c4a3 c4r4 c4a4 c4r5 c4a5
  replace HN := Lib.hid (HN.out.later hb)
  clear hb
  go_wp2_with fail
  refine (first_getA_1 _ (HE.out.later (by repeat (first | exact HB.out | apply nbl_al)))).mono ?_
  rintro e w6 ⟨rfl, hb⟩
  replace HB := Lib.hid (show Below w.heap.size w w6 by have h := hb; repeat (first | exact nbl_step HB.out h | replace h := nbl_new h | replace h := nbl_dr h))
  replace HN := Lib.hid (HN.out.later hb)
  clear hb
  go_wp2_with fail
  refine (first_deliver_0 _ (HE.out.later (by repeat (first | exact HB.out | apply nbl_al)))).mono ?_
  rintro e w7 ⟨rfl, hb⟩
  replace HB := Lib.hid (show Below w.heap.size w w7 by have h := hb; repeat (first | exact nbl_step HB.out h | replace h := nbl_new h | replace h := nbl_dr h))
  replace HN := Lib.hid (HN.out.later hb)
  clear hb
  go_wp2_with fail
  refine (first_zero_1 _ (HE.out.later (by repeat (first | exact HB.out | apply nbl_al)))).mono ?_
  rintro e w8 ⟨rfl, hb⟩
  replace HB := Lib.hid (show Below w.heap.size w w8 by have h := hb; repeat (first | exact nbl_step HB.out h | replace h := nbl_new h | replace h := nbl_dr h))
  replace HN := Lib.hid (HN.out.later hb)
  clear hb
  go_wp2_with fail
  refine (ofs_set1 pn pt pd pi po ps bm _ (HN.out.al _) (HE.out.later (by repeat (first | exact HB.out | apply nbl_al)))).mono ?_
  rintro e w9 ⟨rfl, hb⟩
  replace HB := Lib.hid (show Below w.heap.size w w9 by have h := hb; repeat (first | exact nbl_step HB.out h | replace h := nbl_new h | replace h := nbl_dr h))
  have d9 : HeapIs w9 w8.heap.size (.cells #[.int .i64 9, .string ⟨#[]⟩, .string ⟨#[]⟩, .string ⟨#[]⟩, .int .i64 0, .slice none 0 0] 29 (0, 0)) := (HeapIs.new w8 _).below hb
  have d9r0 := d9.cell (j := 0) (v := .int .i64 9) rfl
  have d9a0 : ∀ o, (w9.alloc o).cell? ⟨w8.heap.size, 0, none⟩ = some (.int .i64 9) := fun o => (HeapIs.al d9 (o' := o)).cell (j := 0) (v := .int .i64 9) rfl
  have d9r1 := d9.cell (j := 1) (v := .string ⟨#[]⟩) rfl
  have d9a1 : ∀ o, (w9.alloc o).cell? ⟨w8.heap.size, 1, none⟩ = some (.string ⟨#[]⟩) := fun o => (HeapIs.al d9 (o' := o)).cell (j := 1) (v := .string ⟨#[]⟩) rfl
  have d9r2 := d9.cell (j := 2) (v := .string ⟨#[]⟩) rfl
  have d9a2 : ∀ o, (w9.alloc o).cell? ⟨w8.heap.size, 2, none⟩ = some (.string ⟨#[]⟩) := fun o => (HeapIs.al d9 (o' := o)).cell (j := 2) (v := .string ⟨#[]⟩) rfl
  have d9r3 := d9.cell (j := 3) (v := .string ⟨#[]⟩) rfl
  have d9a3 : ∀ o, (w9.alloc o).cell? ⟨w8.heap.size, 3, none⟩ = some (.string ⟨#[]⟩) := fun o => (HeapIs.al d9 (o' := o)).cell (j := 3) (v := .string ⟨#[]⟩) rfl
  have d9r4 := d9.cell (j := 4) (v := .int .i64 0) rfl
  have d9a4 : ∀ o, (w9.alloc o).cell? ⟨w8.heap.size, 4, none⟩ = some (.int .i64 0) := fun o => (HeapIs.al d9 (o' := o)).cell (j := 4) (v := .int .i64 0) rfl
  have d9r5 := d9.cell (j := 5) (v := .slice none 0 0) rfl
  have d9a5 : ∀ o, (w9.alloc o).cell? ⟨w8.heap.size, 5, none⟩ = some (.slice none 0 0) := fun o => (HeapIs.al d9 (o' := o)).cell (j := 5) (v := .slice none 0 0) rfl
  replace HN := Lib.hid ((HN.out.al (.cells #[.int .i64 9, .string ⟨#[]⟩, .string ⟨#[]⟩, .string ⟨#[]⟩, .int .i64 0, .slice none 0 0] 29)).later hb)
  clear hb
  go_wp2_with fail
  refine (addlaw_1 _).mono ?_
  rintro e w10 ⟨rfl, hb⟩
  replace HB := Lib.hid (show Below w.heap.size w w10 by have h := hb; repeat (first | exact nbl_step HB.out h | replace h := nbl_new h | replace h := nbl_dr h))
  have d10 : HeapIs w10 w8.heap.size (.cells #[.int .i64 9, .string ⟨#[]⟩, .string ⟨#[]⟩, .string ⟨#[]⟩, .int .i64 0, .slice none 0 0] 29 (0, 0)) := d9.below hb
  have d10r0 := d10.cell (j := 0) (v := .int .i64 9) rfl
  have d10a0 : ∀ o, (w10.alloc o).cell? ⟨w8.heap.size, 0, none⟩ = some (.int .i64 9) := fun o => (HeapIs.al d10 (o' := o)).cell (j := 0) (v := .int .i64 9) rfl
  have d10r1 := d10.cell (j := 1) (v := .string ⟨#[]⟩) rfl
  have d10a1 : ∀ o, (w10.alloc o).cell? ⟨w8.heap.size, 1, none⟩ = some (.string ⟨#[]⟩) := fun o => (HeapIs.al d10 (o' := o)).cell (j := 1) (v := .string ⟨#[]⟩) rfl
  have d10r2 := d10.cell (j := 2) (v := .string ⟨#[]⟩) rfl
  have d10a2 : ∀ o, (w10.alloc o).cell? ⟨w8.heap.size, 2, none⟩ = some (.string ⟨#[]⟩) := fun o => (HeapIs.al d10 (o' := o)).cell (j := 2) (v := .string ⟨#[]⟩) rfl
  have d10r3 := d10.cell (j := 3) (v := .string ⟨#[]⟩) rfl
  have d10a3 : ∀ o, (w10.alloc o).cell? ⟨w8.heap.size, 3, none⟩ = some (.string ⟨#[]⟩) := fun o => (HeapIs.al d10 (o' := o)).cell (j := 3) (v := .string ⟨#[]⟩) rfl
  have d10r4 := d10.cell (j := 4) (v := .int .i64 0) rfl
  have d10a4 : ∀ o, (w10.alloc o).cell? ⟨w8.heap.size, 4, none⟩ = some (.int .i64 0) := fun o => (HeapIs.al d10 (o' := o)).cell (j := 4) (v := .int .i64 0) rfl
  have d10r5 := d10.cell (j := 5) (v := .slice none 0 0) rfl
  have d10a5 : ∀ o, (w10.alloc o).cell? ⟨w8.heap.size, 5, none⟩ = some (.slice none 0 0) := fun o => (HeapIs.al d10 (o' := o)).cell (j := 5) (v := .slice none 0 0) rfl
  clear d9 d9r0 d9a0 d9r1 d9a1 d9r2 d9a2 d9r3 d9a3 d9r4 d9a4 d9r5 d9a5
  replace HN := Lib.hid (HN.out.later hb)
  clear hb
  go_wp2_with fail
  refine (ofs_add1 pn pt pd pi po ps bm _ HN.out (HE.out.later (by repeat (first | exact HB.out | apply nbl_al)))).mono ?_
  rintro e w11 ⟨rfl, hb⟩
  replace HB := Lib.hid (show Below w.heap.size w w11 by have h := hb; repeat (first | exact nbl_step HB.out h | replace h := nbl_new h | replace h := nbl_dr h))
  have d11 : HeapIs w11 w8.heap.size (.cells #[.int .i64 9, .string ⟨#[]⟩, .string ⟨#[]⟩, .string ⟨#[]⟩, .int .i64 0, .slice none 0 0] 29 (0, 0)) := d10.below hb
  have d11r0 := d11.cell (j := 0) (v := .int .i64 9) rfl
  have d11a0 : ∀ o, (w11.alloc o).cell? ⟨w8.heap.size, 0, none⟩ = some (.int .i64 9) := fun o => (HeapIs.al d11 (o' := o)).cell (j := 0) (v := .int .i64 9) rfl
  have d11r1 := d11.cell (j := 1) (v := .string ⟨#[]⟩) rfl
  have d11a1 : ∀ o, (w11.alloc o).cell? ⟨w8.heap.size, 1, none⟩ = some (.string ⟨#[]⟩) := fun o => (HeapIs.al d11 (o' := o)).cell (j := 1) (v := .string ⟨#[]⟩) rfl
  have d11r2 := d11.cell (j := 2) (v := .string ⟨#[]⟩) rfl
  have d11a2 : ∀ o, (w11.alloc o).cell? ⟨w8.heap.size, 2, none⟩ = some (.string ⟨#[]⟩) := fun o => (HeapIs.al d11 (o' := o)).cell (j := 2) (v := .string ⟨#[]⟩) rfl
  have d11r3 := d11.cell (j := 3) (v := .string ⟨#[]⟩) rfl
  have d11a3 : ∀ o, (w11.alloc o).cell? ⟨w8.heap.size, 3, none⟩ = some (.string ⟨#[]⟩) := fun o => (HeapIs.al d11 (o' := o)).cell (j := 3) (v := .string ⟨#[]⟩) rfl
  have d11r4 := d11.cell (j := 4) (v := .int .i64 0) rfl
  have d11a4 : ∀ o, (w11.alloc o).cell? ⟨w8.heap.size, 4, none⟩ = some (.int .i64 0) := fun o => (HeapIs.al d11 (o' := o)).cell (j := 4) (v := .int .i64 0) rfl
  have d11r5 := d11.cell (j := 5) (v := .slice none 0 0) rfl
  have d11a5 : ∀ o, (w11.alloc o).cell? ⟨w8.heap.size, 5, none⟩ = some (.slice none 0 0) := fun o => (HeapIs.al d11 (o' := o)).cell (j := 5) (v := .slice none 0 0) rfl
  clear d10 d10r0 d10a0 d10r1 d10a1 d10r2 d10a2 d10r3 d10a3 d10r4 d10a4 d10r5 d10a5
  replace HN := Lib.hid (HN.out.later hb)
  clear hb
  go_wp2_with fail
  refine (ofs_merge pn pt pd pi po ps bm _ HN.out (HE.out.later (by repeat (first | exact HB.out | apply nbl_al)))).mono ?_
  rintro e w12 ⟨rfl, hb⟩
  replace HB := Lib.hid (show Below w.heap.size w w12 by have h := hb; repeat (first | exact nbl_step HB.out h | replace h := nbl_new h | replace h := nbl_dr h))
  have d12 : HeapIs w12 w8.heap.size (.cells #[.int .i64 9, .string ⟨#[]⟩, .string ⟨#[]⟩, .string ⟨#[]⟩, .int .i64 0, .slice none 0 0] 29 (0, 0)) := d11.below hb
  have d12r0 := d12.cell (j := 0) (v := .int .i64 9) rfl
  have d12a0 : ∀ o, (w12.alloc o).cell? ⟨w8.heap.size, 0, none⟩ = some (.int .i64 9) := fun o => (HeapIs.al d12 (o' := o)).cell (j := 0) (v := .int .i64 9) rfl
  have d12r1 := d12.cell (j := 1) (v := .string ⟨#[]⟩) rfl
  have d12a1 : ∀ o, (w12.alloc o).cell? ⟨w8.heap.size, 1, none⟩ = some (.string ⟨#[]⟩) := fun o => (HeapIs.al d12 (o' := o)).cell (j := 1) (v := .string ⟨#[]⟩) rfl
  have d12r2 := d12.cell (j := 2) (v := .string ⟨#[]⟩) rfl
  have d12a2 : ∀ o, (w12.alloc o).cell? ⟨w8.heap.size, 2, none⟩ = some (.string ⟨#[]⟩) := fun o => (HeapIs.al d12 (o' := o)).cell (j := 2) (v := .string ⟨#[]⟩) rfl
  have d12r3 := d12.cell (j := 3) (v := .string ⟨#[]⟩) rfl
  have d12a3 : ∀ o, (w12.alloc o).cell? ⟨w8.heap.size, 3, none⟩ = some (.string ⟨#[]⟩) := fun o => (HeapIs.al d12 (o' := o)).cell (j := 3) (v := .string ⟨#[]⟩) rfl
  have d12r4 := d12.cell (j := 4) (v := .int .i64 0) rfl
  have d12a4 : ∀ o, (w12.alloc o).cell? ⟨w8.heap.size, 4, none⟩ = some (.int .i64 0) := fun o => (HeapIs.al d12 (o' := o)).cell (j := 4) (v := .int .i64 0) rfl
  have d12r5 := d12.cell (j := 5) (v := .slice none 0 0) rfl
  have d12a5 : ∀ o, (w12.alloc o).cell? ⟨w8.heap.size, 5, none⟩ = some (.slice none 0 0) := fun o => (HeapIs.al d12 (o' := o)).cell (j := 5) (v := .slice none 0 0) rfl
  clear d11 d11r0 d11a0 d11r1 d11a1 d11r2 d11a2 d11r3 d11a3 d11r4 d11a4 d11r5 d11a5
  replace HN := Lib.hid (HN.out.later hb)
  clear hb
  go_wp2_with fail
  refine (ofs_wishaa pn pt pd pi po ps bm _ HN.out (HE.out.later (by repeat (first | exact HB.out | apply nbl_al)))).mono ?_
  rintro e w13 ⟨rfl, hb⟩
  replace HB := Lib.hid (show Below w.heap.size w w13 by have h := hb; repeat (first | exact nbl_step HB.out h | replace h := nbl_new h | replace h := nbl_dr h))
  have d13 : HeapIs w13 w8.heap.size (.cells #[.int .i64 9, .string ⟨#[]⟩, .string ⟨#[]⟩, .string ⟨#[]⟩, .int .i64 0, .slice none 0 0] 29 (0, 0)) := d12.below hb
  have d13r0 := d13.cell (j := 0) (v := .int .i64 9) rfl
  have d13a0 : ∀ o, (w13.alloc o).cell? ⟨w8.heap.size, 0, none⟩ = some (.int .i64 9) := fun o => (HeapIs.al d13 (o' := o)).cell (j := 0) (v := .int .i64 9) rfl
  have d13r1 := d13.cell (j := 1) (v := .string ⟨#[]⟩) rfl
  have d13a1 : ∀ o, (w13.alloc o).cell? ⟨w8.heap.size, 1, none⟩ = some (.string ⟨#[]⟩) := fun o => (HeapIs.al d13 (o' := o)).cell (j := 1) (v := .string ⟨#[]⟩) rfl
  have d13r2 := d13.cell (j := 2) (v := .string ⟨#[]⟩) rfl
  have d13a2 : ∀ o, (w13.alloc o).cell? ⟨w8.heap.size, 2, none⟩ = some (.string ⟨#[]⟩) := fun o => (HeapIs.al d13 (o' := o)).cell (j := 2) (v := .string ⟨#[]⟩) rfl
  have d13r3 := d13.cell (j := 3) (v := .string ⟨#[]⟩) rfl
  have d13a3 : ∀ o, (w13.alloc o).cell? ⟨w8.heap.size, 3, none⟩ = some (.string ⟨#[]⟩) := fun o => (HeapIs.al d13 (o' := o)).cell (j := 3) (v := .string ⟨#[]⟩) rfl
  have d13r4 := d13.cell (j := 4) (v := .int .i64 0) rfl
  have d13a4 : ∀ o, (w13.alloc o).cell? ⟨w8.heap.size, 4, none⟩ = some (.int .i64 0) := fun o => (HeapIs.al d13 (o' := o)).cell (j := 4) (v := .int .i64 0) rfl
  have d13r5 := d13.cell (j := 5) (v := .slice none 0 0) rfl
  have d13a5 : ∀ o, (w13.alloc o).cell? ⟨w8.heap.size, 5, none⟩ = some (.slice none 0 0) := fun o => (HeapIs.al d13 (o' := o)).cell (j := 5) (v := .slice none 0 0) rfl
  clear d12 d12r0 d12a0 d12r1 d12a1 d12r2 d12a2 d12r3 d12a3 d12r4 d12a4 d12r5 d12a5
  replace HN := Lib.hid (HN.out.later hb)
  clear hb
  go_wp2_with fail
  refine (ofs_zero pn pt pd pi po ps bm _ HN.out (HE.out.later (by repeat (first | exact HB.out | apply nbl_al)))).mono ?_
  rintro e w14 ⟨rfl, hb⟩
  replace HB := Lib.hid (show Below w.heap.size w w14 by have h := hb; repeat (first | exact nbl_step HB.out h | replace h := nbl_new h | replace h := nbl_dr h))
  have d14 : HeapIs w14 w8.heap.size (.cells #[.int .i64 9, .string ⟨#[]⟩, .string ⟨#[]⟩, .string ⟨#[]⟩, .int .i64 0, .slice none 0 0] 29 (0, 0)) := d13.below hb
  have d14r0 := d14.cell (j := 0) (v := .int .i64 9) rfl
  have d14a0 : ∀ o, (w14.alloc o).cell? ⟨w8.heap.size, 0, none⟩ = some (.int .i64 9) := fun o => (HeapIs.al d14 (o' := o)).cell (j := 0) (v := .int .i64 9) rfl
  have d14r1 := d14.cell (j := 1) (v := .string ⟨#[]⟩) rfl
  have d14a1 : ∀ o, (w14.alloc o).cell? ⟨w8.heap.size, 1, none⟩ = some (.string ⟨#[]⟩) := fun o => (HeapIs.al d14 (o' := o)).cell (j := 1) (v := .string ⟨#[]⟩) rfl
  have d14r2 := d14.cell (j := 2) (v := .string ⟨#[]⟩) rfl
  have d14a2 : ∀ o, (w14.alloc o).cell? ⟨w8.heap.size, 2, none⟩ = some (.string ⟨#[]⟩) := fun o => (HeapIs.al d14 (o' := o)).cell (j := 2) (v := .string ⟨#[]⟩) rfl
  have d14r3 := d14.cell (j := 3) (v := .string ⟨#[]⟩) rfl
  have d14a3 : ∀ o, (w14.alloc o).cell? ⟨w8.heap.size, 3, none⟩ = some (.string ⟨#[]⟩) := fun o => (HeapIs.al d14 (o' := o)).cell (j := 3) (v := .string ⟨#[]⟩) rfl
  have d14r4 := d14.cell (j := 4) (v := .int .i64 0) rfl
  have d14a4 : ∀ o, (w14.alloc o).cell? ⟨w8.heap.size, 4, none⟩ = some (.int .i64 0) := fun o => (HeapIs.al d14 (o' := o)).cell (j := 4) (v := .int .i64 0) rfl
  have d14r5 := d14.cell (j := 5) (v := .slice none 0 0) rfl
  have d14a5 : ∀ o, (w14.alloc o).cell? ⟨w8.heap.size, 5, none⟩ = some (.slice none 0 0) := fun o => (HeapIs.al d14 (o' := o)).cell (j := 5) (v := .slice none 0 0) rfl
  clear d13 d13r0 d13a0 d13r1 d13a1 d13r2 d13a2 d13r3 d13a3 d13r4 d13a4 d13r5 d13a5
  replace HN := Lib.hid (HN.out.later hb)
  clear hb
  go_wp2_with fail
  refine (keyed_wishba _ _ (HE.out.later (by repeat (first | exact HB.out | apply nbl_al))) (HeapIs.new w14 _)).mono ?_
  rintro e w15 ⟨rfl, hb⟩
  replace HB := Lib.hid (show Below w.heap.size w w15 by have h := hb; repeat (first | exact nbl_step HB.out h | replace h := nbl_new h | replace h := nbl_dr h))
  have d15 : HeapIs w15 w8.heap.size (.cells #[.int .i64 9, .string ⟨#[]⟩, .string ⟨#[]⟩, .string ⟨#[]⟩, .int .i64 0, .slice none 0 0] 29 (0, 0)) := d14.al.below hb
  have d15r0 := d15.cell (j := 0) (v := .int .i64 9) rfl
  have d15a0 : ∀ o, (w15.alloc o).cell? ⟨w8.heap.size, 0, none⟩ = some (.int .i64 9) := fun o => (HeapIs.al d15 (o' := o)).cell (j := 0) (v := .int .i64 9) rfl
  have d15r1 := d15.cell (j := 1) (v := .string ⟨#[]⟩) rfl
  have d15a1 : ∀ o, (w15.alloc o).cell? ⟨w8.heap.size, 1, none⟩ = some (.string ⟨#[]⟩) := fun o => (HeapIs.al d15 (o' := o)).cell (j := 1) (v := .string ⟨#[]⟩) rfl
  have d15r2 := d15.cell (j := 2) (v := .string ⟨#[]⟩) rfl
  have d15a2 : ∀ o, (w15.alloc o).cell? ⟨w8.heap.size, 2, none⟩ = some (.string ⟨#[]⟩) := fun o => (HeapIs.al d15 (o' := o)).cell (j := 2) (v := .string ⟨#[]⟩) rfl
  have d15r3 := d15.cell (j := 3) (v := .string ⟨#[]⟩) rfl
  have d15a3 : ∀ o, (w15.alloc o).cell? ⟨w8.heap.size, 3, none⟩ = some (.string ⟨#[]⟩) := fun o => (HeapIs.al d15 (o' := o)).cell (j := 3) (v := .string ⟨#[]⟩) rfl
  have d15r4 := d15.cell (j := 4) (v := .int .i64 0) rfl
  have d15a4 : ∀ o, (w15.alloc o).cell? ⟨w8.heap.size, 4, none⟩ = some (.int .i64 0) := fun o => (HeapIs.al d15 (o' := o)).cell (j := 4) (v := .int .i64 0) rfl
  have d15r5 := d15.cell (j := 5) (v := .slice none 0 0) rfl
  have d15a5 : ∀ o, (w15.alloc o).cell? ⟨w8.heap.size, 5, none⟩ = some (.slice none 0 0) := fun o => (HeapIs.al d15 (o' := o)).cell (j := 5) (v := .slice none 0 0) rfl
  clear d14 d14r0 d14a0 d14r1 d14a1 d14r2 d14a2 d14r3 d14a3 d14r4 d14a4 d14r5 d14a5
  replace HN := Lib.hid ((HN.out.al (.cells #[.string ⟨#[97]⟩, .string ⟨#[98]⟩] 9)).later hb)
  clear hb
  go_wp2_with fail
  refine (keyed_login _ _ (HE.out.later (by repeat (first | exact HB.out | apply nbl_al))) (HeapIs.new w15 _)).mono ?_
  rintro e w16 ⟨rfl, hb⟩
  replace HB := Lib.hid (show Below w.heap.size w w16 by have h := hb; repeat (first | exact nbl_step HB.out h | replace h := nbl_new h | replace h := nbl_dr h))
  have d16 : HeapIs w16 w8.heap.size (.cells #[.int .i64 9, .string ⟨#[]⟩, .string ⟨#[]⟩, .string ⟨#[]⟩, .int .i64 0, .slice none 0 0] 29 (0, 0)) := d15.al.below hb
  have d16r0 := d16.cell (j := 0) (v := .int .i64 9) rfl
  have d16a0 : ∀ o, (w16.alloc o).cell? ⟨w8.heap.size, 0, none⟩ = some (.int .i64 9) := fun o => (HeapIs.al d16 (o' := o)).cell (j := 0) (v := .int .i64 9) rfl
  have d16r1 := d16.cell (j := 1) (v := .string ⟨#[]⟩) rfl
  have d16a1 : ∀ o, (w16.alloc o).cell? ⟨w8.heap.size, 1, none⟩ = some (.string ⟨#[]⟩) := fun o => (HeapIs.al d16 (o' := o)).cell (j := 1) (v := .string ⟨#[]⟩) rfl
  have d16r2 := d16.cell (j := 2) (v := .string ⟨#[]⟩) rfl
  have d16a2 : ∀ o, (w16.alloc o).cell? ⟨w8.heap.size, 2, none⟩ = some (.string ⟨#[]⟩) := fun o => (HeapIs.al d16 (o' := o)).cell (j := 2) (v := .string ⟨#[]⟩) rfl
  have d16r3 := d16.cell (j := 3) (v := .string ⟨#[]⟩) rfl
  have d16a3 : ∀ o, (w16.alloc o).cell? ⟨w8.heap.size, 3, none⟩ = some (.string ⟨#[]⟩) := fun o => (HeapIs.al d16 (o' := o)).cell (j := 3) (v := .string ⟨#[]⟩) rfl
  have d16r4 := d16.cell (j := 4) (v := .int .i64 0) rfl
  have d16a4 : ∀ o, (w16.alloc o).cell? ⟨w8.heap.size, 4, none⟩ = some (.int .i64 0) := fun o => (HeapIs.al d16 (o' := o)).cell (j := 4) (v := .int .i64 0) rfl
  have d16r5 := d16.cell (j := 5) (v := .slice none 0 0) rfl
  have d16a5 : ∀ o, (w16.alloc o).cell? ⟨w8.heap.size, 5, none⟩ = some (.slice none 0 0) := fun o => (HeapIs.al d16 (o' := o)).cell (j := 5) (v := .slice none 0 0) rfl
  clear d15 d15r0 d15a0 d15r1 d15a1 d15r2 d15a2 d15r3 d15a3 d15r4 d15a4 d15r5 d15a5
  replace HN := Lib.hid ((HN.out.al (.cells #[.string ⟨#[97]⟩] 9)).later hb)
  clear hb
  go_wp2_with fail
  refine (keyed_merge _ (HE.out.later (by repeat (first | exact HB.out | apply nbl_al)))).mono ?_
  rintro e w17 ⟨rfl, hb⟩
  replace HB := Lib.hid (show Below w.heap.size w w17 by have h := hb; repeat (first | exact nbl_step HB.out h | replace h := nbl_new h | replace h := nbl_dr h))
  have d17 : HeapIs w17 w8.heap.size (.cells #[.int .i64 9, .string ⟨#[]⟩, .string ⟨#[]⟩, .string ⟨#[]⟩, .int .i64 0, .slice none 0 0] 29 (0, 0)) := d16.below hb
  have d17r0 := d17.cell (j := 0) (v := .int .i64 9) rfl
  have d17a0 : ∀ o, (w17.alloc o).cell? ⟨w8.heap.size, 0, none⟩ = some (.int .i64 9) := fun o => (HeapIs.al d17 (o' := o)).cell (j := 0) (v := .int .i64 9) rfl
  have d17r1 := d17.cell (j := 1) (v := .string ⟨#[]⟩) rfl
  have d17a1 : ∀ o, (w17.alloc o).cell? ⟨w8.heap.size, 1, none⟩ = some (.string ⟨#[]⟩) := fun o => (HeapIs.al d17 (o' := o)).cell (j := 1) (v := .string ⟨#[]⟩) rfl
  have d17r2 := d17.cell (j := 2) (v := .string ⟨#[]⟩) rfl
  have d17a2 : ∀ o, (w17.alloc o).cell? ⟨w8.heap.size, 2, none⟩ = some (.string ⟨#[]⟩) := fun o => (HeapIs.al d17 (o' := o)).cell (j := 2) (v := .string ⟨#[]⟩) rfl
  have d17r3 := d17.cell (j := 3) (v := .string ⟨#[]⟩) rfl
  have d17a3 : ∀ o, (w17.alloc o).cell? ⟨w8.heap.size, 3, none⟩ = some (.string ⟨#[]⟩) := fun o => (HeapIs.al d17 (o' := o)).cell (j := 3) (v := .string ⟨#[]⟩) rfl
  have d17r4 := d17.cell (j := 4) (v := .int .i64 0) rfl
  have d17a4 : ∀ o, (w17.alloc o).cell? ⟨w8.heap.size, 4, none⟩ = some (.int .i64 0) := fun o => (HeapIs.al d17 (o' := o)).cell (j := 4) (v := .int .i64 0) rfl
  have d17r5 := d17.cell (j := 5) (v := .slice none 0 0) rfl
  have d17a5 : ∀ o, (w17.alloc o).cell? ⟨w8.heap.size, 5, none⟩ = some (.slice none 0 0) := fun o => (HeapIs.al d17 (o' := o)).cell (j := 5) (v := .slice none 0 0) rfl
  clear d16 d16r0 d16a0 d16r1 d16a1 d16r2 d16a2 d16r3 d16a3 d16r4 d16a4 d16r5 d16a5
  replace HN := Lib.hid (HN.out.later hb)
  clear hb
  go_wp2_with fail
  refine (changes_merge _ (HE.out.later (by repeat (first | exact HB.out | apply nbl_al)))).mono ?_
  rintro e w18 ⟨rfl, hb⟩
  replace HB := Lib.hid (show Below w.heap.size w w18 by have h := hb; repeat (first | exact nbl_step HB.out h | replace h := nbl_new h | replace h := nbl_dr h))
  replace HN := Lib.hid (HN.out.later hb)
  clear hb
  go_wp2_with fail
  refine (changes_geta _ (HE.out.later (by repeat (first | exact HB.out | apply nbl_al)))).mono ?_
  rintro e w19 ⟨rfl, hb⟩
  replace HB := Lib.hid (show Below w.heap.size w w19 by have h := hb; repeat (first | exact nbl_step HB.out h | replace h := nbl_new h | replace h := nbl_dr h))
  replace HN := Lib.hid (HN.out.later hb)
  clear hb
  go_wp2_with fail
  refine (word_13 _ (HW.out.later (by repeat (first | exact HB.out | apply nbl_al)))).mono ?_
  rintro e w20 ⟨rfl, hb⟩
  replace HB := Lib.hid (show Below w.heap.size w w20 by have h := hb; repeat (first | exact nbl_step HB.out h | replace h := nbl_new h | replace h := nbl_dr h))
  replace HN := Lib.hid (HN.out.later hb)
  clear hb
  go_wp2_with fail
  refine (word_18 _ (HW.out.later (by repeat (first | exact HB.out | apply nbl_al)))).mono ?_
  rintro e w21 ⟨rfl, hb⟩
  replace HB := Lib.hid (show Below w.heap.size w w21 by have h := hb; repeat (first | exact nbl_step HB.out h | replace h := nbl_new h | replace h := nbl_dr h))
  replace HN := Lib.hid (HN.out.later hb)
  clear hb
  go_wp2
  go_ret
  exact ⟨rfl, HB.out⟩

end Go.Proofs.YtmocoiamhphhnaaGreatDoor

