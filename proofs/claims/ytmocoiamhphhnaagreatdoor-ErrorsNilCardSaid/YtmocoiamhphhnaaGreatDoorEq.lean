/- What Of answers at calls (printed by wip/genEq.py). -/
import Derived.Test.YtmocoiamhphhnaaGreatDoorEp
namespace Go.Proofs.YtmocoiamhphhnaaGreatDoor
set_option linter.unusedVariables false
set_option linter.unusedSimpArgs false
open Go.RowKit Go.MapKept

theorem cfg_ne (W : World) : (binOp .eql 34 (.agg #[.int .i64 1, .int .i64 1, .int .i64 1, .int .i64 1]) (.agg #[.int .i64 0, .int .i64 0, .int .i64 0, .int .i64 0])).run Tryz.prog W = .ok (.bool false) W := by kernel_rfl
theorem cfg_eq (W : World) : (binOp .eql 34 (.agg #[.int .i64 0, .int .i64 0, .int .i64 0, .int .i64 0]) (.agg #[.int .i64 0, .int .i64 0, .int .i64 0, .int .i64 0])).run Tryz.prog W = .ok (.bool true) W := by kernel_rfl
theorem cfg_ne_eq : True := trivial

set_option maxRecDepth 100000 in
set_option maxHeartbeats 1000000 in
theorem of_set1 (pn pt pd pi po ps bm : Nat) (w : World) (hN : NodeE w pn pt pd pi po ps bm) (hE : Env w) :
    Calls Tryz.prog 15 #[.pointer (some ⟨pn, 0, none⟩), .agg #[.int .i64 2, .string ⟨#[97]⟩, .string ⟨#[]⟩, .string ⟨#[116, 101, 97]⟩, .int .i64 1, .slice none 0 0]] w fun e w' => e = .returned (.tuple #[.int .i64 9, .int .i64 0]) ∧ Below w.heap.size w w' := by
  have HE := Lib.hid hE
  have HN := Lib.hid hN
  clear hE hN
  have hne := cfg_ne
  have HB := Lib.hid (Below.refl w.heap.size w)
  go_enter Tryz.func15, Tryz.ntmps15
  go_wp2_with fail
  refine (node_config pn pt pd pi po ps bm _ (HN.out.al _)).mono ?_
  rintro e w1 ⟨rfl, hb⟩
  replace HB := Lib.hid (show Below w.heap.size w w1 by have h := hb; repeat (first | exact nbl_step HB.out h | replace h := nbl_new h | replace h := nbl_dr h))
  have c1 : HeapIs w1 w.heap.size (.cells #[.int .i64 2, .string ⟨#[97]⟩, .string ⟨#[]⟩, .string ⟨#[116, 101, 97]⟩, .int .i64 1, .slice none 0 0] 29 (0, 0)) := (HeapIs.new w _).below hb
  have c1r0 := c1.cell (j := 0) (v := .int .i64 2) rfl
  have c1r1 := c1.cell (j := 1) (v := .string ⟨#[97]⟩) rfl
  have c1r2 := c1.cell (j := 2) (v := .string ⟨#[]⟩) rfl
  have c1r3 := c1.cell (j := 3) (v := .string ⟨#[116, 101, 97]⟩) rfl
  have c1r4 := c1.cell (j := 4) (v := .int .i64 1) rfl
  have c1r5 := c1.cell (j := 5) (v := .slice none 0 0) rfl
  have HN1 := Lib.hid (HN.out.al (.cells #[.int .i64 2, .string ⟨#[97]⟩, .string ⟨#[]⟩, .string ⟨#[116, 101, 97]⟩, .int .i64 1, .slice none 0 0] 29) |>.later hb)
  clear hb
  go_wp2_with fail
  refine (formed_set1 _ (HE.out.later HB.out)).mono ?_
  rintro e w2 ⟨rfl, hb⟩
  replace HB := Lib.hid (show Below w.heap.size w w2 by have h := hb; repeat (first | exact nbl_step HB.out h | replace h := nbl_new h | replace h := nbl_dr h))
  have c2 : HeapIs w2 w.heap.size (.cells #[.int .i64 2, .string ⟨#[97]⟩, .string ⟨#[]⟩, .string ⟨#[116, 101, 97]⟩, .int .i64 1, .slice none 0 0] 29 (0, 0)) := c1.below hb
  have c2r0 := c2.cell (j := 0) (v := .int .i64 2) rfl
  have c2r1 := c2.cell (j := 1) (v := .string ⟨#[97]⟩) rfl
  have c2r2 := c2.cell (j := 2) (v := .string ⟨#[]⟩) rfl
  have c2r3 := c2.cell (j := 3) (v := .string ⟨#[116, 101, 97]⟩) rfl
  have c2r4 := c2.cell (j := 4) (v := .int .i64 1) rfl
  have c2r5 := c2.cell (j := 5) (v := .slice none 0 0) rfl
  have HN2 := Lib.hid (HN1.out.later hb)
  clear hb
  go_wp2_with fail
  go_region_held3 (fun w' => w'.cell? ⟨w.heap.size, 0, none⟩ = some (.int .i64 2) ∧ w'.cell? ⟨w.heap.size, 1, none⟩ = some (.string ⟨#[97]⟩) ∧ w'.cell? ⟨w.heap.size, 2, none⟩ = some (.string ⟨#[]⟩) ∧ w'.cell? ⟨w.heap.size, 3, none⟩ = some (.string ⟨#[116, 101, 97]⟩) ∧ w'.cell? ⟨w.heap.size, 4, none⟩ = some (.int .i64 1) ∧ w'.cell? ⟨w.heap.size, 5, none⟩ = some (.slice none 0 0)) (go_keep)
    (first
      | (go_at_call 37; refine (node_closed pn pt pd pi po ps bm _ (by first | exact HN2.out | exact HN2.out.drew)).mono ?_; rintro e w3 ⟨rfl, hb⟩; have k3_0 : w3.cell? ⟨w.heap.size, 0, none⟩ = some (.int .i64 2) := (HeapIs.below c2 (by first | exact hb | exact nbl_dr hb)).cell (j := 0) rfl; have k3_1 : w3.cell? ⟨w.heap.size, 1, none⟩ = some (.string ⟨#[97]⟩) := (HeapIs.below c2 (by first | exact hb | exact nbl_dr hb)).cell (j := 1) rfl; have k3_2 : w3.cell? ⟨w.heap.size, 2, none⟩ = some (.string ⟨#[]⟩) := (HeapIs.below c2 (by first | exact hb | exact nbl_dr hb)).cell (j := 2) rfl; have k3_3 : w3.cell? ⟨w.heap.size, 3, none⟩ = some (.string ⟨#[116, 101, 97]⟩) := (HeapIs.below c2 (by first | exact hb | exact nbl_dr hb)).cell (j := 3) rfl; have k3_4 : w3.cell? ⟨w.heap.size, 4, none⟩ = some (.int .i64 1) := (HeapIs.below c2 (by first | exact hb | exact nbl_dr hb)).cell (j := 4) rfl; have k3_5 : w3.cell? ⟨w.heap.size, 5, none⟩ = some (.slice none 0 0) := (HeapIs.below c2 (by first | exact hb | exact nbl_dr hb)).cell (j := 5) rfl; have c3 := HeapIs.below c2 (by first | exact hb | exact nbl_dr hb); replace HN2 := Lib.hid (HN2.out.later (by first | exact hb | exact nbl_dr hb)); replace HB := Lib.hid (nbl_step HB.out (by first | exact hb | exact nbl_dr hb)); clear hb)
      | (go_at_call 11; refine (first_set1_0 _ (HE.out.later (by first | exact HB.out | exact nbl_drw HB.out))).mono ?_; rintro e w4 ⟨rfl, hb⟩; have k4_0 : w4.cell? ⟨w.heap.size, 0, none⟩ = some (.int .i64 2) := (HeapIs.below c3 (by first | exact hb | exact nbl_dr hb)).cell (j := 0) rfl; have k4_1 : w4.cell? ⟨w.heap.size, 1, none⟩ = some (.string ⟨#[97]⟩) := (HeapIs.below c3 (by first | exact hb | exact nbl_dr hb)).cell (j := 1) rfl; have k4_2 : w4.cell? ⟨w.heap.size, 2, none⟩ = some (.string ⟨#[]⟩) := (HeapIs.below c3 (by first | exact hb | exact nbl_dr hb)).cell (j := 2) rfl; have k4_3 : w4.cell? ⟨w.heap.size, 3, none⟩ = some (.string ⟨#[116, 101, 97]⟩) := (HeapIs.below c3 (by first | exact hb | exact nbl_dr hb)).cell (j := 3) rfl; have k4_4 : w4.cell? ⟨w.heap.size, 4, none⟩ = some (.int .i64 1) := (HeapIs.below c3 (by first | exact hb | exact nbl_dr hb)).cell (j := 4) rfl; have k4_5 : w4.cell? ⟨w.heap.size, 5, none⟩ = some (.slice none 0 0) := (HeapIs.below c3 (by first | exact hb | exact nbl_dr hb)).cell (j := 5) rfl; have c4 := HeapIs.below c3 (by first | exact hb | exact nbl_dr hb); replace HN2 := Lib.hid (HN2.out.later (by first | exact hb | exact nbl_dr hb)); replace HB := Lib.hid (nbl_step HB.out (by first | exact hb | exact nbl_dr hb)); clear hb)
      | fail)
  all_goals (go_wp2_with fail; refine (state_set1 pn pt pd pi po ps bm _ HN2.out (HE.out.later HB.out)).mono ?_; rintro e w5 ⟨rfl, hb⟩; replace HB := Lib.hid (nbl_step HB.out hb); clear hb; go_wp2; go_ret2; exact ⟨rfl, HB.out⟩)

set_option maxRecDepth 100000 in
set_option maxHeartbeats 1000000 in
theorem ofs_set1 (pn pt pd pi po ps bm : Nat) (w : World) (hN : NodeE w pn pt pd pi po ps bm) (hE : Env w) :
    Calls Tryz.prog 9 #[.pointer (some ⟨pn, 0, none⟩), .agg #[.int .i64 2, .string ⟨#[97]⟩, .string ⟨#[]⟩, .string ⟨#[116, 101, 97]⟩, .int .i64 1, .slice none 0 0], .int .i64 9, .int .i64 0] w fun e w' => e = .returned (.bool true) ∧ Below w.heap.size w w' := by
  have HE := Lib.hid hE
  have HN := Lib.hid hN
  clear hE hN
  have HB := Lib.hid (Below.refl w.heap.size w)
  go_enter Tryz.func9, Tryz.ntmps9
  go_wp2_with fail
  refine (of_set1 pn pt pd pi po ps bm _ (HN.out.al _) (HE.out.later (nbl_al HB.out))).mono ?_
  rintro e w1 ⟨rfl, hb⟩
  replace HB := Lib.hid (show Below w.heap.size w w1 by have h := hb; repeat (first | exact nbl_step HB.out h | replace h := nbl_new h | replace h := nbl_dr h))
  clear hb
  go_wp2
  go_ret
  exact ⟨rfl, by repeat (first | exact HB.out | apply nbl_al | apply nbl_drw | apply nbl_drewN | refine Below.setCell ?_ (Nat.le_refl _) _ | refine nbl_set ?_ (by first | exact Nat.le_refl _ | (simp; omega) | (simp; done) | omega) )⟩

set_option maxRecDepth 100000 in
set_option maxHeartbeats 1000000 in
theorem of_add1 (pn pt pd pi po ps bm : Nat) (w : World) (hN : NodeE w pn pt pd pi po ps bm) (hE : Env w) :
    Calls Tryz.prog 15 #[.pointer (some ⟨pn, 0, none⟩), .agg #[.int .i64 1, .string ⟨#[97]⟩, .string ⟨#[]⟩, .string ⟨#[116, 101, 97]⟩, .int .i64 1, .slice none 0 0]] w fun e w' => e = .returned (.tuple #[.int .i64 0, .int .i64 0]) ∧ Below w.heap.size w w' := by
  have HE := Lib.hid hE
  have HN := Lib.hid hN
  clear hE hN
  have hne := cfg_ne
  have HB := Lib.hid (Below.refl w.heap.size w)
  go_enter Tryz.func15, Tryz.ntmps15
  go_wp2_with fail
  refine (node_config pn pt pd pi po ps bm _ (HN.out.al _)).mono ?_
  rintro e w1 ⟨rfl, hb⟩
  replace HB := Lib.hid (show Below w.heap.size w w1 by have h := hb; repeat (first | exact nbl_step HB.out h | replace h := nbl_new h | replace h := nbl_dr h))
  have c1 : HeapIs w1 w.heap.size (.cells #[.int .i64 1, .string ⟨#[97]⟩, .string ⟨#[]⟩, .string ⟨#[116, 101, 97]⟩, .int .i64 1, .slice none 0 0] 29 (0, 0)) := (HeapIs.new w _).below hb
  have c1r0 := c1.cell (j := 0) (v := .int .i64 1) rfl
  have c1r1 := c1.cell (j := 1) (v := .string ⟨#[97]⟩) rfl
  have c1r2 := c1.cell (j := 2) (v := .string ⟨#[]⟩) rfl
  have c1r3 := c1.cell (j := 3) (v := .string ⟨#[116, 101, 97]⟩) rfl
  have c1r4 := c1.cell (j := 4) (v := .int .i64 1) rfl
  have c1r5 := c1.cell (j := 5) (v := .slice none 0 0) rfl
  have HN1 := Lib.hid (HN.out.al (.cells #[.int .i64 1, .string ⟨#[97]⟩, .string ⟨#[]⟩, .string ⟨#[116, 101, 97]⟩, .int .i64 1, .slice none 0 0] 29) |>.later hb)
  clear hb
  go_wp2_with fail
  refine (formed_add1 _ (HE.out.later HB.out)).mono ?_
  rintro e w2 ⟨rfl, hb⟩
  replace HB := Lib.hid (show Below w.heap.size w w2 by have h := hb; repeat (first | exact nbl_step HB.out h | replace h := nbl_new h | replace h := nbl_dr h))
  have c2 : HeapIs w2 w.heap.size (.cells #[.int .i64 1, .string ⟨#[97]⟩, .string ⟨#[]⟩, .string ⟨#[116, 101, 97]⟩, .int .i64 1, .slice none 0 0] 29 (0, 0)) := c1.below hb
  have c2r0 := c2.cell (j := 0) (v := .int .i64 1) rfl
  have c2r1 := c2.cell (j := 1) (v := .string ⟨#[97]⟩) rfl
  have c2r2 := c2.cell (j := 2) (v := .string ⟨#[]⟩) rfl
  have c2r3 := c2.cell (j := 3) (v := .string ⟨#[116, 101, 97]⟩) rfl
  have c2r4 := c2.cell (j := 4) (v := .int .i64 1) rfl
  have c2r5 := c2.cell (j := 5) (v := .slice none 0 0) rfl
  have HN2 := Lib.hid (HN1.out.later hb)
  clear hb
  go_wp2_with fail
  go_region_held3 (fun w' => w'.cell? ⟨w.heap.size, 0, none⟩ = some (.int .i64 1) ∧ w'.cell? ⟨w.heap.size, 1, none⟩ = some (.string ⟨#[97]⟩) ∧ w'.cell? ⟨w.heap.size, 2, none⟩ = some (.string ⟨#[]⟩) ∧ w'.cell? ⟨w.heap.size, 3, none⟩ = some (.string ⟨#[116, 101, 97]⟩) ∧ w'.cell? ⟨w.heap.size, 4, none⟩ = some (.int .i64 1) ∧ w'.cell? ⟨w.heap.size, 5, none⟩ = some (.slice none 0 0)) (go_keep)
    (first
      | (go_at_call 37; refine (node_closed pn pt pd pi po ps bm _ (by first | exact HN2.out | exact HN2.out.drew)).mono ?_; rintro e w3 ⟨rfl, hb⟩; have k3_0 : w3.cell? ⟨w.heap.size, 0, none⟩ = some (.int .i64 1) := (HeapIs.below c2 (by first | exact hb | exact nbl_dr hb)).cell (j := 0) rfl; have k3_1 : w3.cell? ⟨w.heap.size, 1, none⟩ = some (.string ⟨#[97]⟩) := (HeapIs.below c2 (by first | exact hb | exact nbl_dr hb)).cell (j := 1) rfl; have k3_2 : w3.cell? ⟨w.heap.size, 2, none⟩ = some (.string ⟨#[]⟩) := (HeapIs.below c2 (by first | exact hb | exact nbl_dr hb)).cell (j := 2) rfl; have k3_3 : w3.cell? ⟨w.heap.size, 3, none⟩ = some (.string ⟨#[116, 101, 97]⟩) := (HeapIs.below c2 (by first | exact hb | exact nbl_dr hb)).cell (j := 3) rfl; have k3_4 : w3.cell? ⟨w.heap.size, 4, none⟩ = some (.int .i64 1) := (HeapIs.below c2 (by first | exact hb | exact nbl_dr hb)).cell (j := 4) rfl; have k3_5 : w3.cell? ⟨w.heap.size, 5, none⟩ = some (.slice none 0 0) := (HeapIs.below c2 (by first | exact hb | exact nbl_dr hb)).cell (j := 5) rfl; have c3 := HeapIs.below c2 (by first | exact hb | exact nbl_dr hb); replace HN2 := Lib.hid (HN2.out.later (by first | exact hb | exact nbl_dr hb)); replace HB := Lib.hid (nbl_step HB.out (by first | exact hb | exact nbl_dr hb)); clear hb)
      | (go_at_call 11; refine (first_add1_0 _ (HE.out.later (by first | exact HB.out | exact nbl_drw HB.out))).mono ?_; rintro e w4 ⟨rfl, hb⟩; have k4_0 : w4.cell? ⟨w.heap.size, 0, none⟩ = some (.int .i64 1) := (HeapIs.below c3 (by first | exact hb | exact nbl_dr hb)).cell (j := 0) rfl; have k4_1 : w4.cell? ⟨w.heap.size, 1, none⟩ = some (.string ⟨#[97]⟩) := (HeapIs.below c3 (by first | exact hb | exact nbl_dr hb)).cell (j := 1) rfl; have k4_2 : w4.cell? ⟨w.heap.size, 2, none⟩ = some (.string ⟨#[]⟩) := (HeapIs.below c3 (by first | exact hb | exact nbl_dr hb)).cell (j := 2) rfl; have k4_3 : w4.cell? ⟨w.heap.size, 3, none⟩ = some (.string ⟨#[116, 101, 97]⟩) := (HeapIs.below c3 (by first | exact hb | exact nbl_dr hb)).cell (j := 3) rfl; have k4_4 : w4.cell? ⟨w.heap.size, 4, none⟩ = some (.int .i64 1) := (HeapIs.below c3 (by first | exact hb | exact nbl_dr hb)).cell (j := 4) rfl; have k4_5 : w4.cell? ⟨w.heap.size, 5, none⟩ = some (.slice none 0 0) := (HeapIs.below c3 (by first | exact hb | exact nbl_dr hb)).cell (j := 5) rfl; have c4 := HeapIs.below c3 (by first | exact hb | exact nbl_dr hb); replace HN2 := Lib.hid (HN2.out.later (by first | exact hb | exact nbl_dr hb)); replace HB := Lib.hid (nbl_step HB.out (by first | exact hb | exact nbl_dr hb)); clear hb)
      | fail)
  all_goals (go_wp2_with fail; refine (state_add1 pn pt pd pi po ps bm _ HN2.out (HE.out.later HB.out)).mono ?_; rintro e w5 ⟨rfl, hb⟩; replace HB := Lib.hid (nbl_step HB.out hb); clear hb; go_wp2; go_ret2; exact ⟨rfl, HB.out⟩)

set_option maxRecDepth 100000 in
set_option maxHeartbeats 1000000 in
theorem ofs_add1 (pn pt pd pi po ps bm : Nat) (w : World) (hN : NodeE w pn pt pd pi po ps bm) (hE : Env w) :
    Calls Tryz.prog 9 #[.pointer (some ⟨pn, 0, none⟩), .agg #[.int .i64 1, .string ⟨#[97]⟩, .string ⟨#[]⟩, .string ⟨#[116, 101, 97]⟩, .int .i64 1, .slice none 0 0], .int .i64 0, .int .i64 0] w fun e w' => e = .returned (.bool true) ∧ Below w.heap.size w w' := by
  have HE := Lib.hid hE
  have HN := Lib.hid hN
  clear hE hN
  have HB := Lib.hid (Below.refl w.heap.size w)
  go_enter Tryz.func9, Tryz.ntmps9
  go_wp2_with fail
  refine (of_add1 pn pt pd pi po ps bm _ (HN.out.al _) (HE.out.later (nbl_al HB.out))).mono ?_
  rintro e w1 ⟨rfl, hb⟩
  replace HB := Lib.hid (show Below w.heap.size w w1 by have h := hb; repeat (first | exact nbl_step HB.out h | replace h := nbl_new h | replace h := nbl_dr h))
  clear hb
  go_wp2
  go_ret
  exact ⟨rfl, by repeat (first | exact HB.out | apply nbl_al | apply nbl_drw | apply nbl_drewN | refine Below.setCell ?_ (Nat.le_refl _) _ | refine nbl_set ?_ (by first | exact Nat.le_refl _ | (simp; omega) | (simp; done) | omega) )⟩

set_option maxRecDepth 100000 in
set_option maxHeartbeats 1000000 in
theorem of_merge (pn pt pd pi po ps bm : Nat) (w : World) (hN : NodeE w pn pt pd pi po ps bm) (hE : Env w) :
    Calls Tryz.prog 15 #[.pointer (some ⟨pn, 0, none⟩), .agg #[.int .i64 9, .string ⟨#[]⟩, .string ⟨#[]⟩, .string ⟨#[]⟩, .int .i64 0, .slice none 0 0]] w fun e w' => e = .returned (.tuple #[.int .i64 0, .int .i64 0]) ∧ Below w.heap.size w w' := by
  have HE := Lib.hid hE
  have HN := Lib.hid hN
  clear hE hN
  have hne := cfg_ne
  have HB := Lib.hid (Below.refl w.heap.size w)
  go_enter Tryz.func15, Tryz.ntmps15
  go_wp2_with fail
  refine (node_config pn pt pd pi po ps bm _ (HN.out.al _)).mono ?_
  rintro e w1 ⟨rfl, hb⟩
  replace HB := Lib.hid (show Below w.heap.size w w1 by have h := hb; repeat (first | exact nbl_step HB.out h | replace h := nbl_new h | replace h := nbl_dr h))
  have c1 : HeapIs w1 w.heap.size (.cells #[.int .i64 9, .string ⟨#[]⟩, .string ⟨#[]⟩, .string ⟨#[]⟩, .int .i64 0, .slice none 0 0] 29 (0, 0)) := (HeapIs.new w _).below hb
  have c1r0 := c1.cell (j := 0) (v := .int .i64 9) rfl
  have c1r1 := c1.cell (j := 1) (v := .string ⟨#[]⟩) rfl
  have c1r2 := c1.cell (j := 2) (v := .string ⟨#[]⟩) rfl
  have c1r3 := c1.cell (j := 3) (v := .string ⟨#[]⟩) rfl
  have c1r4 := c1.cell (j := 4) (v := .int .i64 0) rfl
  have c1r5 := c1.cell (j := 5) (v := .slice none 0 0) rfl
  have HN1 := Lib.hid (HN.out.al (.cells #[.int .i64 9, .string ⟨#[]⟩, .string ⟨#[]⟩, .string ⟨#[]⟩, .int .i64 0, .slice none 0 0] 29) |>.later hb)
  clear hb
  go_wp2_with fail
  refine (formed_merge _ (HE.out.later HB.out)).mono ?_
  rintro e w2 ⟨rfl, hb⟩
  replace HB := Lib.hid (show Below w.heap.size w w2 by have h := hb; repeat (first | exact nbl_step HB.out h | replace h := nbl_new h | replace h := nbl_dr h))
  have c2 : HeapIs w2 w.heap.size (.cells #[.int .i64 9, .string ⟨#[]⟩, .string ⟨#[]⟩, .string ⟨#[]⟩, .int .i64 0, .slice none 0 0] 29 (0, 0)) := c1.below hb
  have c2r0 := c2.cell (j := 0) (v := .int .i64 9) rfl
  have c2r1 := c2.cell (j := 1) (v := .string ⟨#[]⟩) rfl
  have c2r2 := c2.cell (j := 2) (v := .string ⟨#[]⟩) rfl
  have c2r3 := c2.cell (j := 3) (v := .string ⟨#[]⟩) rfl
  have c2r4 := c2.cell (j := 4) (v := .int .i64 0) rfl
  have c2r5 := c2.cell (j := 5) (v := .slice none 0 0) rfl
  have HN2 := Lib.hid (HN1.out.later hb)
  clear hb
  go_wp2_with fail
  go_region_held3 (fun w' => w'.cell? ⟨w.heap.size, 0, none⟩ = some (.int .i64 9) ∧ w'.cell? ⟨w.heap.size, 1, none⟩ = some (.string ⟨#[]⟩) ∧ w'.cell? ⟨w.heap.size, 2, none⟩ = some (.string ⟨#[]⟩) ∧ w'.cell? ⟨w.heap.size, 3, none⟩ = some (.string ⟨#[]⟩) ∧ w'.cell? ⟨w.heap.size, 4, none⟩ = some (.int .i64 0) ∧ w'.cell? ⟨w.heap.size, 5, none⟩ = some (.slice none 0 0)) (go_keep)
    (first
      | (go_at_call 37; refine (node_closed pn pt pd pi po ps bm _ (by first | exact HN2.out | exact HN2.out.drew)).mono ?_; rintro e w3 ⟨rfl, hb⟩; have k3_0 : w3.cell? ⟨w.heap.size, 0, none⟩ = some (.int .i64 9) := (HeapIs.below c2 (by first | exact hb | exact nbl_dr hb)).cell (j := 0) rfl; have k3_1 : w3.cell? ⟨w.heap.size, 1, none⟩ = some (.string ⟨#[]⟩) := (HeapIs.below c2 (by first | exact hb | exact nbl_dr hb)).cell (j := 1) rfl; have k3_2 : w3.cell? ⟨w.heap.size, 2, none⟩ = some (.string ⟨#[]⟩) := (HeapIs.below c2 (by first | exact hb | exact nbl_dr hb)).cell (j := 2) rfl; have k3_3 : w3.cell? ⟨w.heap.size, 3, none⟩ = some (.string ⟨#[]⟩) := (HeapIs.below c2 (by first | exact hb | exact nbl_dr hb)).cell (j := 3) rfl; have k3_4 : w3.cell? ⟨w.heap.size, 4, none⟩ = some (.int .i64 0) := (HeapIs.below c2 (by first | exact hb | exact nbl_dr hb)).cell (j := 4) rfl; have k3_5 : w3.cell? ⟨w.heap.size, 5, none⟩ = some (.slice none 0 0) := (HeapIs.below c2 (by first | exact hb | exact nbl_dr hb)).cell (j := 5) rfl; have c3 := HeapIs.below c2 (by first | exact hb | exact nbl_dr hb); replace HN2 := Lib.hid (HN2.out.later (by first | exact hb | exact nbl_dr hb)); replace HB := Lib.hid (nbl_step HB.out (by first | exact hb | exact nbl_dr hb)); clear hb)
      | (go_at_call 11; refine (first_merge_0 _ (HE.out.later (by first | exact HB.out | exact nbl_drw HB.out))).mono ?_; rintro e w4 ⟨rfl, hb⟩; have k4_0 : w4.cell? ⟨w.heap.size, 0, none⟩ = some (.int .i64 9) := (HeapIs.below c3 (by first | exact hb | exact nbl_dr hb)).cell (j := 0) rfl; have k4_1 : w4.cell? ⟨w.heap.size, 1, none⟩ = some (.string ⟨#[]⟩) := (HeapIs.below c3 (by first | exact hb | exact nbl_dr hb)).cell (j := 1) rfl; have k4_2 : w4.cell? ⟨w.heap.size, 2, none⟩ = some (.string ⟨#[]⟩) := (HeapIs.below c3 (by first | exact hb | exact nbl_dr hb)).cell (j := 2) rfl; have k4_3 : w4.cell? ⟨w.heap.size, 3, none⟩ = some (.string ⟨#[]⟩) := (HeapIs.below c3 (by first | exact hb | exact nbl_dr hb)).cell (j := 3) rfl; have k4_4 : w4.cell? ⟨w.heap.size, 4, none⟩ = some (.int .i64 0) := (HeapIs.below c3 (by first | exact hb | exact nbl_dr hb)).cell (j := 4) rfl; have k4_5 : w4.cell? ⟨w.heap.size, 5, none⟩ = some (.slice none 0 0) := (HeapIs.below c3 (by first | exact hb | exact nbl_dr hb)).cell (j := 5) rfl; have c4 := HeapIs.below c3 (by first | exact hb | exact nbl_dr hb); replace HN2 := Lib.hid (HN2.out.later (by first | exact hb | exact nbl_dr hb)); replace HB := Lib.hid (nbl_step HB.out (by first | exact hb | exact nbl_dr hb)); clear hb)
      | fail)
  all_goals (go_wp2_with fail; refine (state_merge pn pt pd pi po ps bm _ HN2.out (HE.out.later HB.out)).mono ?_; rintro e w5 ⟨rfl, hb⟩; replace HB := Lib.hid (nbl_step HB.out hb); clear hb; go_wp2; go_ret2; exact ⟨rfl, HB.out⟩)

set_option maxRecDepth 100000 in
set_option maxHeartbeats 1000000 in
theorem ofs_merge (pn pt pd pi po ps bm : Nat) (w : World) (hN : NodeE w pn pt pd pi po ps bm) (hE : Env w) :
    Calls Tryz.prog 9 #[.pointer (some ⟨pn, 0, none⟩), .agg #[.int .i64 9, .string ⟨#[]⟩, .string ⟨#[]⟩, .string ⟨#[]⟩, .int .i64 0, .slice none 0 0], .int .i64 0, .int .i64 0] w fun e w' => e = .returned (.bool true) ∧ Below w.heap.size w w' := by
  have HE := Lib.hid hE
  have HN := Lib.hid hN
  clear hE hN
  have HB := Lib.hid (Below.refl w.heap.size w)
  go_enter Tryz.func9, Tryz.ntmps9
  go_wp2_with fail
  refine (of_merge pn pt pd pi po ps bm _ (HN.out.al _) (HE.out.later (nbl_al HB.out))).mono ?_
  rintro e w1 ⟨rfl, hb⟩
  replace HB := Lib.hid (show Below w.heap.size w w1 by have h := hb; repeat (first | exact nbl_step HB.out h | replace h := nbl_new h | replace h := nbl_dr h))
  clear hb
  go_wp2
  go_ret
  exact ⟨rfl, by repeat (first | exact HB.out | apply nbl_al | apply nbl_drw | apply nbl_drewN | refine Below.setCell ?_ (Nat.le_refl _) _ | refine nbl_set ?_ (by first | exact Nat.le_refl _ | (simp; omega) | (simp; done) | omega) )⟩

set_option maxRecDepth 100000 in
set_option maxHeartbeats 1000000 in
theorem of_wishaa (pn pt pd pi po ps bm : Nat) (w : World) (hN : NodeE w pn pt pd pi po ps bm) (hE : Env w) :
    Calls Tryz.prog 15 #[.pointer (some ⟨pn, 0, none⟩), .agg #[.int .i64 6, .string ⟨#[97]⟩, .string ⟨#[97]⟩, .string ⟨#[116, 101, 97]⟩, .int .i64 0, .slice none 0 0]] w fun e w' => e = .returned (.tuple #[.int .i64 2, .int .i64 0]) ∧ Below w.heap.size w w' := by
  have HE := Lib.hid hE
  have HN := Lib.hid hN
  clear hE hN
  have hne := cfg_ne
  have HB := Lib.hid (Below.refl w.heap.size w)
  go_enter Tryz.func15, Tryz.ntmps15
  go_wp2_with fail
  refine (node_config pn pt pd pi po ps bm _ (HN.out.al _)).mono ?_
  rintro e w1 ⟨rfl, hb⟩
  replace HB := Lib.hid (show Below w.heap.size w w1 by have h := hb; repeat (first | exact nbl_step HB.out h | replace h := nbl_new h | replace h := nbl_dr h))
  have c1 : HeapIs w1 w.heap.size (.cells #[.int .i64 6, .string ⟨#[97]⟩, .string ⟨#[97]⟩, .string ⟨#[116, 101, 97]⟩, .int .i64 0, .slice none 0 0] 29 (0, 0)) := (HeapIs.new w _).below hb
  have c1r0 := c1.cell (j := 0) (v := .int .i64 6) rfl
  have c1r1 := c1.cell (j := 1) (v := .string ⟨#[97]⟩) rfl
  have c1r2 := c1.cell (j := 2) (v := .string ⟨#[97]⟩) rfl
  have c1r3 := c1.cell (j := 3) (v := .string ⟨#[116, 101, 97]⟩) rfl
  have c1r4 := c1.cell (j := 4) (v := .int .i64 0) rfl
  have c1r5 := c1.cell (j := 5) (v := .slice none 0 0) rfl
  have HN1 := Lib.hid (HN.out.al (.cells #[.int .i64 6, .string ⟨#[97]⟩, .string ⟨#[97]⟩, .string ⟨#[116, 101, 97]⟩, .int .i64 0, .slice none 0 0] 29) |>.later hb)
  clear hb
  go_wp2_with fail
  refine (formed_wishaa _ (HE.out.later HB.out)).mono ?_
  rintro e w2 ⟨rfl, hb⟩
  replace HB := Lib.hid (show Below w.heap.size w w2 by have h := hb; repeat (first | exact nbl_step HB.out h | replace h := nbl_new h | replace h := nbl_dr h))
  have c2 : HeapIs w2 w.heap.size (.cells #[.int .i64 6, .string ⟨#[97]⟩, .string ⟨#[97]⟩, .string ⟨#[116, 101, 97]⟩, .int .i64 0, .slice none 0 0] 29 (0, 0)) := c1.below hb
  have c2r0 := c2.cell (j := 0) (v := .int .i64 6) rfl
  have c2r1 := c2.cell (j := 1) (v := .string ⟨#[97]⟩) rfl
  have c2r2 := c2.cell (j := 2) (v := .string ⟨#[97]⟩) rfl
  have c2r3 := c2.cell (j := 3) (v := .string ⟨#[116, 101, 97]⟩) rfl
  have c2r4 := c2.cell (j := 4) (v := .int .i64 0) rfl
  have c2r5 := c2.cell (j := 5) (v := .slice none 0 0) rfl
  have HN2 := Lib.hid (HN1.out.later hb)
  clear hb
  go_wp2_with fail
  go_region_held3 (fun w' => w'.cell? ⟨w.heap.size, 0, none⟩ = some (.int .i64 6) ∧ w'.cell? ⟨w.heap.size, 1, none⟩ = some (.string ⟨#[97]⟩) ∧ w'.cell? ⟨w.heap.size, 2, none⟩ = some (.string ⟨#[97]⟩) ∧ w'.cell? ⟨w.heap.size, 3, none⟩ = some (.string ⟨#[116, 101, 97]⟩) ∧ w'.cell? ⟨w.heap.size, 4, none⟩ = some (.int .i64 0) ∧ w'.cell? ⟨w.heap.size, 5, none⟩ = some (.slice none 0 0)) (go_keep)
    (first
      | (go_at_call 37; refine (node_closed pn pt pd pi po ps bm _ (by first | exact HN2.out | exact HN2.out.drew)).mono ?_; rintro e w3 ⟨rfl, hb⟩; have k3_0 : w3.cell? ⟨w.heap.size, 0, none⟩ = some (.int .i64 6) := (HeapIs.below c2 (by first | exact hb | exact nbl_dr hb)).cell (j := 0) rfl; have k3_1 : w3.cell? ⟨w.heap.size, 1, none⟩ = some (.string ⟨#[97]⟩) := (HeapIs.below c2 (by first | exact hb | exact nbl_dr hb)).cell (j := 1) rfl; have k3_2 : w3.cell? ⟨w.heap.size, 2, none⟩ = some (.string ⟨#[97]⟩) := (HeapIs.below c2 (by first | exact hb | exact nbl_dr hb)).cell (j := 2) rfl; have k3_3 : w3.cell? ⟨w.heap.size, 3, none⟩ = some (.string ⟨#[116, 101, 97]⟩) := (HeapIs.below c2 (by first | exact hb | exact nbl_dr hb)).cell (j := 3) rfl; have k3_4 : w3.cell? ⟨w.heap.size, 4, none⟩ = some (.int .i64 0) := (HeapIs.below c2 (by first | exact hb | exact nbl_dr hb)).cell (j := 4) rfl; have k3_5 : w3.cell? ⟨w.heap.size, 5, none⟩ = some (.slice none 0 0) := (HeapIs.below c2 (by first | exact hb | exact nbl_dr hb)).cell (j := 5) rfl; have c3 := HeapIs.below c2 (by first | exact hb | exact nbl_dr hb); replace HN2 := Lib.hid (HN2.out.later (by first | exact hb | exact nbl_dr hb)); replace HB := Lib.hid (nbl_step HB.out (by first | exact hb | exact nbl_dr hb)); clear hb)
      | (go_at_call 11; refine (first_wishaa_0 _ (HE.out.later (by first | exact HB.out | exact nbl_drw HB.out))).mono ?_; rintro e w4 ⟨rfl, hb⟩; have k4_0 : w4.cell? ⟨w.heap.size, 0, none⟩ = some (.int .i64 6) := (HeapIs.below c3 (by first | exact hb | exact nbl_dr hb)).cell (j := 0) rfl; have k4_1 : w4.cell? ⟨w.heap.size, 1, none⟩ = some (.string ⟨#[97]⟩) := (HeapIs.below c3 (by first | exact hb | exact nbl_dr hb)).cell (j := 1) rfl; have k4_2 : w4.cell? ⟨w.heap.size, 2, none⟩ = some (.string ⟨#[97]⟩) := (HeapIs.below c3 (by first | exact hb | exact nbl_dr hb)).cell (j := 2) rfl; have k4_3 : w4.cell? ⟨w.heap.size, 3, none⟩ = some (.string ⟨#[116, 101, 97]⟩) := (HeapIs.below c3 (by first | exact hb | exact nbl_dr hb)).cell (j := 3) rfl; have k4_4 : w4.cell? ⟨w.heap.size, 4, none⟩ = some (.int .i64 0) := (HeapIs.below c3 (by first | exact hb | exact nbl_dr hb)).cell (j := 4) rfl; have k4_5 : w4.cell? ⟨w.heap.size, 5, none⟩ = some (.slice none 0 0) := (HeapIs.below c3 (by first | exact hb | exact nbl_dr hb)).cell (j := 5) rfl; have c4 := HeapIs.below c3 (by first | exact hb | exact nbl_dr hb); replace HN2 := Lib.hid (HN2.out.later (by first | exact hb | exact nbl_dr hb)); replace HB := Lib.hid (nbl_step HB.out (by first | exact hb | exact nbl_dr hb)); clear hb)
      | fail)
  all_goals (go_wp2; go_ret2; exact ⟨rfl, HB.out⟩)

set_option maxRecDepth 100000 in
set_option maxHeartbeats 1000000 in
theorem ofs_wishaa (pn pt pd pi po ps bm : Nat) (w : World) (hN : NodeE w pn pt pd pi po ps bm) (hE : Env w) :
    Calls Tryz.prog 9 #[.pointer (some ⟨pn, 0, none⟩), .agg #[.int .i64 6, .string ⟨#[97]⟩, .string ⟨#[97]⟩, .string ⟨#[116, 101, 97]⟩, .int .i64 0, .slice none 0 0], .int .i64 2, .int .i64 0] w fun e w' => e = .returned (.bool true) ∧ Below w.heap.size w w' := by
  have HE := Lib.hid hE
  have HN := Lib.hid hN
  clear hE hN
  have HB := Lib.hid (Below.refl w.heap.size w)
  go_enter Tryz.func9, Tryz.ntmps9
  go_wp2_with fail
  refine (of_wishaa pn pt pd pi po ps bm _ (HN.out.al _) (HE.out.later (nbl_al HB.out))).mono ?_
  rintro e w1 ⟨rfl, hb⟩
  replace HB := Lib.hid (show Below w.heap.size w w1 by have h := hb; repeat (first | exact nbl_step HB.out h | replace h := nbl_new h | replace h := nbl_dr h))
  clear hb
  go_wp2
  go_ret
  exact ⟨rfl, by repeat (first | exact HB.out | apply nbl_al | apply nbl_drw | apply nbl_drewN | refine Below.setCell ?_ (Nat.le_refl _) _ | refine nbl_set ?_ (by first | exact Nat.le_refl _ | (simp; omega) | (simp; done) | omega) )⟩

set_option maxRecDepth 100000 in
set_option maxHeartbeats 1000000 in
theorem of_zero (pn pt pd pi po ps bm : Nat) (w : World) (hN : NodeE w pn pt pd pi po ps bm) (hE : Env w) :
    Calls Tryz.prog 15 #[.pointer (some ⟨pn, 0, none⟩), .agg #[.int .i64 0, .string ⟨#[]⟩, .string ⟨#[]⟩, .string ⟨#[]⟩, .int .i64 0, .slice none 0 0]] w fun e w' => e = .returned (.tuple #[.int .i64 0, .int .i64 2]) ∧ Below w.heap.size w w' := by
  have HE := Lib.hid hE
  have HN := Lib.hid hN
  clear hE hN
  have hne := cfg_ne
  have HB := Lib.hid (Below.refl w.heap.size w)
  go_enter Tryz.func15, Tryz.ntmps15
  go_wp2_with fail
  refine (node_config pn pt pd pi po ps bm _ (HN.out.al _)).mono ?_
  rintro e w1 ⟨rfl, hb⟩
  replace HB := Lib.hid (show Below w.heap.size w w1 by have h := hb; repeat (first | exact nbl_step HB.out h | replace h := nbl_new h | replace h := nbl_dr h))
  have c1 : HeapIs w1 w.heap.size (.cells #[.int .i64 0, .string ⟨#[]⟩, .string ⟨#[]⟩, .string ⟨#[]⟩, .int .i64 0, .slice none 0 0] 29 (0, 0)) := (HeapIs.new w _).below hb
  have c1r0 := c1.cell (j := 0) (v := .int .i64 0) rfl
  have c1r1 := c1.cell (j := 1) (v := .string ⟨#[]⟩) rfl
  have c1r2 := c1.cell (j := 2) (v := .string ⟨#[]⟩) rfl
  have c1r3 := c1.cell (j := 3) (v := .string ⟨#[]⟩) rfl
  have c1r4 := c1.cell (j := 4) (v := .int .i64 0) rfl
  have c1r5 := c1.cell (j := 5) (v := .slice none 0 0) rfl
  have HN1 := Lib.hid (HN.out.al (.cells #[.int .i64 0, .string ⟨#[]⟩, .string ⟨#[]⟩, .string ⟨#[]⟩, .int .i64 0, .slice none 0 0] 29) |>.later hb)
  clear hb
  go_wp2_with fail
  refine (formed_zero _ (HE.out.later HB.out)).mono ?_
  rintro e w2 ⟨rfl, hb⟩
  replace HB := Lib.hid (show Below w.heap.size w w2 by have h := hb; repeat (first | exact nbl_step HB.out h | replace h := nbl_new h | replace h := nbl_dr h))
  have c2 : HeapIs w2 w.heap.size (.cells #[.int .i64 0, .string ⟨#[]⟩, .string ⟨#[]⟩, .string ⟨#[]⟩, .int .i64 0, .slice none 0 0] 29 (0, 0)) := c1.below hb
  have c2r0 := c2.cell (j := 0) (v := .int .i64 0) rfl
  have c2r1 := c2.cell (j := 1) (v := .string ⟨#[]⟩) rfl
  have c2r2 := c2.cell (j := 2) (v := .string ⟨#[]⟩) rfl
  have c2r3 := c2.cell (j := 3) (v := .string ⟨#[]⟩) rfl
  have c2r4 := c2.cell (j := 4) (v := .int .i64 0) rfl
  have c2r5 := c2.cell (j := 5) (v := .slice none 0 0) rfl
  have HN2 := Lib.hid (HN1.out.later hb)
  clear hb
  go_wp2
  go_ret2
  exact ⟨rfl, by repeat (first | exact HB.out | apply nbl_al | apply nbl_drw | apply nbl_drewN | refine Below.setCell ?_ (Nat.le_refl _) _ | refine nbl_set ?_ (by first | exact Nat.le_refl _ | (simp; omega) | (simp; done) | omega) )⟩

set_option maxRecDepth 100000 in
set_option maxHeartbeats 1000000 in
theorem ofs_zero (pn pt pd pi po ps bm : Nat) (w : World) (hN : NodeE w pn pt pd pi po ps bm) (hE : Env w) :
    Calls Tryz.prog 9 #[.pointer (some ⟨pn, 0, none⟩), .agg #[.int .i64 0, .string ⟨#[]⟩, .string ⟨#[]⟩, .string ⟨#[]⟩, .int .i64 0, .slice none 0 0], .int .i64 0, .int .i64 2] w fun e w' => e = .returned (.bool true) ∧ Below w.heap.size w w' := by
  have HE := Lib.hid hE
  have HN := Lib.hid hN
  clear hE hN
  have HB := Lib.hid (Below.refl w.heap.size w)
  go_enter Tryz.func9, Tryz.ntmps9
  go_wp2_with fail
  refine (of_zero pn pt pd pi po ps bm _ (HN.out.al _) (HE.out.later (nbl_al HB.out))).mono ?_
  rintro e w1 ⟨rfl, hb⟩
  replace HB := Lib.hid (show Below w.heap.size w w1 by have h := hb; repeat (first | exact nbl_step HB.out h | replace h := nbl_new h | replace h := nbl_dr h))
  clear hb
  go_wp2
  go_ret
  exact ⟨rfl, by repeat (first | exact HB.out | apply nbl_al | apply nbl_drw | apply nbl_drewN | refine Below.setCell ?_ (Nat.le_refl _) _ | refine nbl_set ?_ (by first | exact Nat.le_refl _ | (simp; omega) | (simp; done) | omega) )⟩

end Go.Proofs.YtmocoiamhphhnaaGreatDoor

