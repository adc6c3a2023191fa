/- cart.Valid and cart.Copy at the empty cart (printed by wip/genEc.py). -/
import Derived.Test.YtmocoiamhphhnaaGreatDoorEb
namespace Go.Proofs.YtmocoiamhphhnaaGreatDoor
set_option linter.unusedVariables false
set_option linter.unusedSimpArgs false
open Go.RowKit Go.MapKept

set_option maxRecDepth 100000 in
set_option maxHeartbeats 4000000 in
theorem cart_valid (w : World) : Calls Tryz.prog 91 #[.agg #[.slice none 0 0, .slice none 0 0, .slice none 0 0]] w fun e w' => e = .returned (.bool true) ∧ Below w.heap.size w w' := by
  go_enter Tryz.func91, Tryz.ntmps91
  go_wp2_with fail
  go_region_held3 (fun w' => w'.cell? ⟨w.heap.size, 0, none⟩ = some (.slice none 0 0) ∧ w'.cell? ⟨w.heap.size, 1, none⟩ = some (.slice none 0 0) ∧ w'.cell? ⟨w.heap.size, 2, none⟩ = some (.slice none 0 0)) (go_keep)
    (first
      | (go_at_call 153; refine (ctx_compact _).mono ?_; rintro e w1 ⟨rfl, hb⟩; have hz1_0 : w.heap.size < w1.heap.size := Nat.lt_of_lt_of_le (by first | (simp; done) | (simp; omega) | assumption | (simp; assumption)) hb.size; have k1_0_0 : w1.cell? ⟨w.heap.size, 0, none⟩ = _ := hb.cell (by first | (simp; done) | (simp; omega) | assumption | (simp; assumption)); have k1_0_1 : w1.cell? ⟨w.heap.size, 1, none⟩ = _ := hb.cell (by first | (simp; done) | (simp; omega) | assumption | (simp; assumption)); have k1_0_2 : w1.cell? ⟨w.heap.size, 2, none⟩ = _ := hb.cell (by first | (simp; done) | (simp; omega) | assumption | (simp; assumption)); have HB1 := Lib.hid hb; clear hb)
      | (go_at_call 154; refine (items_valid _).mono ?_; rintro e w2 ⟨rfl, hb⟩; have hz2_0 : w.heap.size < w2.heap.size := Nat.lt_of_lt_of_le (by first | (simp; done) | (simp; omega) | assumption | (simp; assumption)) hb.size; have k2_0_0 : w2.cell? ⟨w.heap.size, 0, none⟩ = _ := hb.cell (by first | (simp; done) | (simp; omega) | assumption | (simp; assumption)); have k2_0_1 : w2.cell? ⟨w.heap.size, 1, none⟩ = _ := hb.cell (by first | (simp; done) | (simp; omega) | assumption | (simp; assumption)); have k2_0_2 : w2.cell? ⟨w.heap.size, 2, none⟩ = _ := hb.cell (by first | (simp; done) | (simp; omega) | assumption | (simp; assumption)); have HB2 := Lib.hid hb; clear hb)
      | (go_at_call 156; refine (items_dots _).mono ?_; rintro e w3 ⟨rfl, hb⟩; have hz3_0 : w.heap.size < w3.heap.size := Nat.lt_of_lt_of_le (by first | (simp; done) | (simp; omega) | assumption | (simp; assumption)) hb.size; have k3_0_0 : w3.cell? ⟨w.heap.size, 0, none⟩ = _ := hb.cell (by first | (simp; done) | (simp; omega) | assumption | (simp; assumption)); have k3_0_1 : w3.cell? ⟨w.heap.size, 1, none⟩ = _ := hb.cell (by first | (simp; done) | (simp; omega) | assumption | (simp; assumption)); have k3_0_2 : w3.cell? ⟨w.heap.size, 2, none⟩ = _ := hb.cell (by first | (simp; done) | (simp; omega) | assumption | (simp; assumption)); have HB3 := Lib.hid hb; clear hb)
      | (go_at_call 155; refine (ctx_missing _).mono ?_; rintro e w4 ⟨rfl, hb⟩; have hz4_0 : w.heap.size < w4.heap.size := Nat.lt_of_lt_of_le (by first | (simp; done) | (simp; omega) | assumption | (simp; assumption)) hb.size; have k4_0_0 : w4.cell? ⟨w.heap.size, 0, none⟩ = _ := hb.cell (by first | (simp; done) | (simp; omega) | assumption | (simp; assumption)); have k4_0_1 : w4.cell? ⟨w.heap.size, 1, none⟩ = _ := hb.cell (by first | (simp; done) | (simp; omega) | assumption | (simp; assumption)); have k4_0_2 : w4.cell? ⟨w.heap.size, 2, none⟩ = _ := hb.cell (by first | (simp; done) | (simp; omega) | assumption | (simp; assumption)); have HB4 := Lib.hid hb; clear hb)
      | fail)
  all_goals
    go_wp2
    go_ret
    exact ⟨rfl, nbl_step (nbl_step (nbl_step (nbl_new (nbl_dr HB1.out)) HB2.out) HB3.out) HB4.out⟩

set_option maxRecDepth 100000 in
set_option maxHeartbeats 4000000 in
theorem cart_copy (w : World) : Calls Tryz.prog 152 #[.agg #[.slice none 0 0, .slice none 0 0, .slice none 0 0]] w fun e w' => e = .returned (.agg #[.slice none 0 0, .slice none 0 0, .slice none 0 0]) ∧ Below w.heap.size w w' := by
  go_enter Tryz.func152, Tryz.ntmps152
  go_wp2_with fail
  obtain ⟨W0, hW0⟩ : ∃ W0, (w.alloc (.cells #[.slice none 0 0, .slice none 0 0, .slice none 0 0] 103)).alloc (.cells #[.slice none 0 0, .slice none 0 0, .slice none 0 0] 103) = W0 := ⟨_, rfl⟩
  have c0 : W0.cell? ⟨w.heap.size, 0, none⟩ = some (.slice none 0 0) := by rw [← hW0]; simp [World.cell?_alloc_lt]
  have c1 : W0.cell? ⟨w.heap.size, 1, none⟩ = some (.slice none 0 0) := by rw [← hW0]; simp [World.cell?_alloc_lt]
  have c2 : W0.cell? ⟨w.heap.size, 2, none⟩ = some (.slice none 0 0) := by rw [← hW0]; simp [World.cell?_alloc_lt]
  have hq : HeapIs W0 (w.heap.size + 1) (.cells #[.slice none 0 0, .slice none 0 0, .slice none 0 0] 103 (0, 0)) := by
    rw [← hW0]
    have h := HeapIs.new (w.alloc (.cells #[.slice none 0 0, .slice none 0 0, .slice none 0 0] 103)) (.cells #[.slice none 0 0, .slice none 0 0, .slice none 0 0] 103)
    have e : (w.alloc (.cells #[.slice none 0 0, .slice none 0 0, .slice none 0 0] 103)).heap.size = w.heap.size + 1 := by simp
    rw [e] at h
    exact h
  have hqd := hq.drew
  have hz : w.heap.size + 1 < W0.heap.size := by rw [← hW0]; simp
  have hz0 : w.heap.size < W0.heap.size := by omega
  have HB0 : Hid (Below w.heap.size w W0) := Lib.hid (hW0 ▸ nbl_al (nbl_al (Below.refl _ _)))
  rw [hW0]
  clear hW0
  go_region_held3 (fun w' => w'.cell? ⟨w.heap.size, 0, none⟩ = some (.slice none 0 0) ∧ w'.cell? ⟨w.heap.size, 1, none⟩ = some (.slice none 0 0) ∧ w'.cell? ⟨w.heap.size, 2, none⟩ = some (.slice none 0 0)) (go_keep)
    (first
      | (go_at_call 212; refine (clone_vec _).mono ?_; rintro e w1 ⟨rfl, hb⟩; have hz1_0 : w.heap.size < w1.heap.size := Nat.lt_of_lt_of_le (by first | (simp; done) | (simp; omega) | assumption | (simp; assumption)) hb.size; have gz1_0 : w.heap.size + 1 < w1.heap.size := Nat.lt_of_lt_of_le (by first | (simp; done) | (simp; omega) | assumption | (simp; assumption)) hb.size; have j1_0 : HeapIs w1 (w.heap.size + 1) (.cells #[.slice none 0 0, .slice none 0 0, .slice none 0 0] 103 (0, 0)) := HeapIs.below (by assumption) hb;  have r1_0_0 := j1_0.cell (j := 0) (v := .slice none 0 0) rfl; have s1_0_0 := j1_0.frozen 0; have t1_0_0 := j1_0.set (j := 0) (v := .slice none 0 0) rfl; have r1_0_1 := j1_0.cell (j := 1) (v := .slice none 0 0) rfl; have s1_0_1 := j1_0.frozen 1; have t1_0_1 := j1_0.set (j := 1) (v := .slice none 0 0) rfl; have r1_0_2 := j1_0.cell (j := 2) (v := .slice none 0 0) rfl; have s1_0_2 := j1_0.frozen 2; have t1_0_2 := j1_0.set (j := 2) (v := .slice none 0 0) rfl; have k1_0_0 : w1.cell? ⟨w.heap.size, 0, none⟩ = _ := hb.cell (by first | (simp; done) | (simp; omega) | assumption | (simp; assumption)); have k1_0_1 : w1.cell? ⟨w.heap.size, 1, none⟩ = _ := hb.cell (by first | (simp; done) | (simp; omega) | assumption | (simp; assumption)); have k1_0_2 : w1.cell? ⟨w.heap.size, 2, none⟩ = _ := hb.cell (by first | (simp; done) | (simp; omega) | assumption | (simp; assumption)); have HB1 := Lib.hid hb; clear hb)
      | (go_at_call 213; refine (clone_dot _).mono ?_; rintro e w2 ⟨rfl, hb⟩; have hz2_0 : w.heap.size < w2.heap.size := Nat.lt_of_lt_of_le (by first | (simp; done) | (simp; omega) | assumption | (simp; assumption)) hb.size; have gz2_0 : w.heap.size + 1 < w2.heap.size := Nat.lt_of_lt_of_le (by first | (simp; done) | (simp; omega) | assumption | (simp; assumption)) hb.size; have j2_0 : HeapIs w2 (w.heap.size + 1) (.cells #[.slice none 0 0, .slice none 0 0, .slice none 0 0] 103 (0, 0)) := HeapIs.below (by assumption) hb;  have r2_0_0 := j2_0.cell (j := 0) (v := .slice none 0 0) rfl; have s2_0_0 := j2_0.frozen 0; have t2_0_0 := j2_0.set (j := 0) (v := .slice none 0 0) rfl; have r2_0_1 := j2_0.cell (j := 1) (v := .slice none 0 0) rfl; have s2_0_1 := j2_0.frozen 1; have t2_0_1 := j2_0.set (j := 1) (v := .slice none 0 0) rfl; have r2_0_2 := j2_0.cell (j := 2) (v := .slice none 0 0) rfl; have s2_0_2 := j2_0.frozen 2; have t2_0_2 := j2_0.set (j := 2) (v := .slice none 0 0) rfl; have k2_0_0 : w2.cell? ⟨w.heap.size, 0, none⟩ = _ := hb.cell (by first | (simp; done) | (simp; omega) | assumption | (simp; assumption)); have k2_0_1 : w2.cell? ⟨w.heap.size, 1, none⟩ = _ := hb.cell (by first | (simp; done) | (simp; omega) | assumption | (simp; assumption)); have k2_0_2 : w2.cell? ⟨w.heap.size, 2, none⟩ = _ := hb.cell (by first | (simp; done) | (simp; omega) | assumption | (simp; assumption)); have HB2 := Lib.hid hb; clear hb)
      | (go_at_call 158; refine (copy_items _).mono ?_; rintro e w3 ⟨rfl, hb⟩; have hz3_0 : w.heap.size < w3.heap.size := Nat.lt_of_lt_of_le (by first | (simp; done) | (simp; omega) | assumption | (simp; assumption)) hb.size; have gz3_0 : w.heap.size + 1 < w3.heap.size := Nat.lt_of_lt_of_le (by first | (simp; done) | (simp; omega) | assumption | (simp; assumption)) hb.size; have j3_0 : HeapIs w3 (w.heap.size + 1) (.cells #[.slice none 0 0, .slice none 0 0, .slice none 0 0] 103 (0, 0)) := HeapIs.below (by assumption) hb;  have r3_0_0 := j3_0.cell (j := 0) (v := .slice none 0 0) rfl; have s3_0_0 := j3_0.frozen 0; have t3_0_0 := j3_0.set (j := 0) (v := .slice none 0 0) rfl; have r3_0_1 := j3_0.cell (j := 1) (v := .slice none 0 0) rfl; have s3_0_1 := j3_0.frozen 1; have t3_0_1 := j3_0.set (j := 1) (v := .slice none 0 0) rfl; have r3_0_2 := j3_0.cell (j := 2) (v := .slice none 0 0) rfl; have s3_0_2 := j3_0.frozen 2; have t3_0_2 := j3_0.set (j := 2) (v := .slice none 0 0) rfl; have k3_0_0 : w3.cell? ⟨w.heap.size, 0, none⟩ = _ := hb.cell (by first | (simp; done) | (simp; omega) | assumption | (simp; assumption)); have k3_0_1 : w3.cell? ⟨w.heap.size, 1, none⟩ = _ := hb.cell (by first | (simp; done) | (simp; omega) | assumption | (simp; assumption)); have k3_0_2 : w3.cell? ⟨w.heap.size, 2, none⟩ = _ := hb.cell (by first | (simp; done) | (simp; omega) | assumption | (simp; assumption)); have HB3 := Lib.hid hb; clear hb)
      | fail)
  all_goals
    go_wp2
    refine bodyPost_ret (by simp [results, Tryz.results152, go_sem, r3_0_0, r3_0_1, r3_0_2]; try rfl) rfl ?_
    exact ⟨rfl, nbl_step (nbl_step (nbl_step HB0.out (nbl_dr HB1.out)) HB2.out) HB3.out⟩

end Go.Proofs.YtmocoiamhphhnaaGreatDoor

