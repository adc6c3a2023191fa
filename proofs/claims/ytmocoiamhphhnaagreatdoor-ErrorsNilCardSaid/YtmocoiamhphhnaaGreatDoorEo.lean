/- The rows of state at calls (printed by wip/genEo.py). -/
import Derived.Test.YtmocoiamhphhnaaGreatDoorEn
namespace Go.Proofs.YtmocoiamhphhnaaGreatDoor
set_option linter.unusedVariables false
set_option linter.unusedSimpArgs false
open Go.RowKit Go.MapKept

set_option maxRecDepth 100000 in
set_option maxHeartbeats 1000000 in
theorem coming_set1  (w : World)  :
    Calls Tryz.prog 50 #[.agg #[.slice none 0 0, .slice none 0 0, .slice none 0 0], .agg #[.int .i64 2, .string ⟨#[97]⟩, .string ⟨#[]⟩, .string ⟨#[116, 101, 97]⟩, .int .i64 1, .slice none 0 0]] w fun e w' => e = .returned (.tuple #[.slice none 0 0, .int .i64 1]) ∧ Below w.heap.size w w' := by
  have HB := Lib.hid (Below.refl w.heap.size w)
  go_enter Tryz.func50, Tryz.ntmps50
  go_wp2
  go_ret2
  exact ⟨rfl, by repeat (first | exact HB.out | apply nbl_al | apply nbl_drw | apply nbl_drewN | refine Below.setCell ?_ (Nat.le_refl _) _ | refine nbl_set ?_ (by first | exact Nat.le_refl _ | (simp; omega) | (simp; done) | omega) )⟩

set_option maxRecDepth 100000 in
set_option maxHeartbeats 1000000 in
theorem coming_merge  (w : World)  :
    Calls Tryz.prog 50 #[.agg #[.slice none 0 0, .slice none 0 0, .slice none 0 0], .agg #[.int .i64 9, .string ⟨#[]⟩, .string ⟨#[]⟩, .string ⟨#[]⟩, .int .i64 0, .slice none 0 0]] w fun e w' => e = .returned (.tuple #[.slice none 0 0, .int .i64 0]) ∧ Below w.heap.size w w' := by
  have HB := Lib.hid (Below.refl w.heap.size w)
  go_enter Tryz.func50, Tryz.ntmps50
  go_wp2
  go_ret2
  exact ⟨rfl, by repeat (first | exact HB.out | apply nbl_al | apply nbl_drw | apply nbl_drewN | refine Below.setCell ?_ (Nat.le_refl _) _ | refine nbl_set ?_ (by first | exact Nat.le_refl _ | (simp; omega) | (simp; done) | omega) )⟩

def LinesOut (w : World) (e : Ending) (w' : World) : Prop := ∃ pl : Nat, e = .returned (.tuple #[.slice (some ⟨pl, 0, none⟩) 1 1, .int .i64 1]) ∧ HeapIs w' pl (.cells #[.string ⟨#[116, 101, 97]⟩, .int .i64 1] 112 (0, 0)) ∧ Below w.heap.size w w'
set_option maxRecDepth 100000 in
set_option maxHeartbeats 1000000 in
theorem coming_add1 (w : World) : Calls Tryz.prog 50 #[.agg #[.slice none 0 0, .slice none 0 0, .slice none 0 0], .agg #[.int .i64 1, .string ⟨#[97]⟩, .string ⟨#[]⟩, .string ⟨#[116, 101, 97]⟩, .int .i64 1, .slice none 0 0]] w (LinesOut w) := by
  have HB := Lib.hid (Below.refl w.heap.size w)
  go_enter Tryz.func50, Tryz.ntmps50
  go_wp2
  go_ret2
  refine ⟨w.heap.size + 2, rfl, ?_, by repeat (first | exact HB.out | apply nbl_al)⟩
  have h := HeapIs.new ((w.alloc (.cells #[.slice none 0 0, .slice none 0 0, .slice none 0 0] 103)).alloc (.cells #[.int .i64 1, .string ⟨#[97]⟩, .string ⟨#[]⟩, .string ⟨#[116, 101, 97]⟩, .int .i64 1, .slice none 0 0] 29)) (.cells #[.string ⟨#[116, 101, 97]⟩, .int .i64 1] 112)
  rw [show ((w.alloc (.cells #[.slice none 0 0, .slice none 0 0, .slice none 0 0] 103)).alloc (.cells #[.int .i64 1, .string ⟨#[97]⟩, .string ⟨#[]⟩, .string ⟨#[116, 101, 97]⟩, .int .i64 1, .slice none 0 0] 29)).heap.size = w.heap.size + 2 by simp] at h
  exact h

set_option maxRecDepth 100000 in
set_option maxHeartbeats 1000000 in
theorem state1_set1 (s c : Nat) (w : World) (hs : HeapIs w s (.cells #[.int .i64 0, .slice none 0 0, .slice none 0 0, .slice none 0 0] 105 (0, 0))) (hc : HeapIs w c (.cells #[.int .i64 2, .string ⟨#[97]⟩, .string ⟨#[]⟩, .string ⟨#[116, 101, 97]⟩, .int .i64 1, .slice none 0 0] 29 (0, 0))) :
    Calls Tryz.prog 52 #[.pointer (some ⟨s, 0, none⟩), .pointer (some ⟨c, 0, none⟩)] w fun e w' => e = .returned (.bool true) ∧ Below w.heap.size w w' := by
  have a0 := hs.cell (j := 0) (v := .int .i64 0) rfl
  have a1 := hs.cell (j := 1) (v := .slice none 0 0) rfl
  have a2 := hs.cell (j := 2) (v := .slice none 0 0) rfl
  have a3 := hs.cell (j := 3) (v := .slice none 0 0) rfl
  have b0 := hc.cell (j := 0) (v := .int .i64 2) rfl
  have b1 := hc.cell (j := 1) (v := .string ⟨#[97]⟩) rfl
  have b2 := hc.cell (j := 2) (v := .string ⟨#[]⟩) rfl
  have b3 := hc.cell (j := 3) (v := .string ⟨#[116, 101, 97]⟩) rfl
  have b4 := hc.cell (j := 4) (v := .int .i64 1) rfl
  have b5 := hc.cell (j := 5) (v := .slice none 0 0) rfl
  have HB := Lib.hid (Below.refl w.heap.size w)
  go_enter Tryz.func52, Tryz.ntmps52
  go_wp2_with fail
  refine (cart_qty _ _).mono ?_
  rintro e w1 ⟨rfl, hb⟩
  replace HB := Lib.hid (show Below w.heap.size w w1 by have h := hb; repeat (first | exact nbl_step HB.out h | replace h := nbl_new h | replace h := nbl_dr h))
  have hc1 : HeapIs w1 c (.cells #[.int .i64 2, .string ⟨#[97]⟩, .string ⟨#[]⟩, .string ⟨#[116, 101, 97]⟩, .int .i64 1, .slice none 0 0] 29 (0, 0)) := hc.below hb
  have d0 := hc1.cell (j := 0) (v := .int .i64 2) rfl
  have d1 := hc1.cell (j := 1) (v := .string ⟨#[97]⟩) rfl
  have d2 := hc1.cell (j := 2) (v := .string ⟨#[]⟩) rfl
  have d3 := hc1.cell (j := 3) (v := .string ⟨#[116, 101, 97]⟩) rfl
  have d4 := hc1.cell (j := 4) (v := .int .i64 1) rfl
  have d5 := hc1.cell (j := 5) (v := .slice none 0 0) rfl
  clear hb
  go_wp2
  go_ret
  exact ⟨rfl, by repeat (first | exact HB.out | apply nbl_al | apply nbl_drw | apply nbl_drewN | refine Below.setCell ?_ (Nat.le_refl _) _ | refine nbl_set ?_ (by first | exact Nat.le_refl _ | (simp; omega) | (simp; done) | omega) )⟩

set_option maxRecDepth 100000 in
set_option maxHeartbeats 1000000 in
theorem state1_add1 (s c : Nat) (w : World) (hs : HeapIs w s (.cells #[.int .i64 0, .slice none 0 0, .slice none 0 0, .slice none 0 0] 105 (0, 0))) (hc : HeapIs w c (.cells #[.int .i64 1, .string ⟨#[97]⟩, .string ⟨#[]⟩, .string ⟨#[116, 101, 97]⟩, .int .i64 1, .slice none 0 0] 29 (0, 0))) :
    Calls Tryz.prog 52 #[.pointer (some ⟨s, 0, none⟩), .pointer (some ⟨c, 0, none⟩)] w fun e w' => e = .returned (.bool false) ∧ Below w.heap.size w w' := by
  have a0 := hs.cell (j := 0) (v := .int .i64 0) rfl
  have a1 := hs.cell (j := 1) (v := .slice none 0 0) rfl
  have a2 := hs.cell (j := 2) (v := .slice none 0 0) rfl
  have a3 := hs.cell (j := 3) (v := .slice none 0 0) rfl
  have b0 := hc.cell (j := 0) (v := .int .i64 1) rfl
  have b1 := hc.cell (j := 1) (v := .string ⟨#[97]⟩) rfl
  have b2 := hc.cell (j := 2) (v := .string ⟨#[]⟩) rfl
  have b3 := hc.cell (j := 3) (v := .string ⟨#[116, 101, 97]⟩) rfl
  have b4 := hc.cell (j := 4) (v := .int .i64 1) rfl
  have b5 := hc.cell (j := 5) (v := .slice none 0 0) rfl
  have HB := Lib.hid (Below.refl w.heap.size w)
  go_enter Tryz.func52, Tryz.ntmps52
  go_wp2_with fail
  refine (cart_qty _ _).mono ?_
  rintro e w1 ⟨rfl, hb⟩
  replace HB := Lib.hid (show Below w.heap.size w w1 by have h := hb; repeat (first | exact nbl_step HB.out h | replace h := nbl_new h | replace h := nbl_dr h))
  have hc1 : HeapIs w1 c (.cells #[.int .i64 1, .string ⟨#[97]⟩, .string ⟨#[]⟩, .string ⟨#[116, 101, 97]⟩, .int .i64 1, .slice none 0 0] 29 (0, 0)) := hc.below hb
  have d0 := hc1.cell (j := 0) (v := .int .i64 1) rfl
  have d1 := hc1.cell (j := 1) (v := .string ⟨#[97]⟩) rfl
  have d2 := hc1.cell (j := 2) (v := .string ⟨#[]⟩) rfl
  have d3 := hc1.cell (j := 3) (v := .string ⟨#[116, 101, 97]⟩) rfl
  have d4 := hc1.cell (j := 4) (v := .int .i64 1) rfl
  have d5 := hc1.cell (j := 5) (v := .slice none 0 0) rfl
  clear hb
  go_wp2
  go_ret
  exact ⟨rfl, by repeat (first | exact HB.out | apply nbl_al | apply nbl_drw | apply nbl_drewN | refine Below.setCell ?_ (Nat.le_refl _) _ | refine nbl_set ?_ (by first | exact Nat.le_refl _ | (simp; omega) | (simp; done) | omega) )⟩

set_option maxRecDepth 100000 in
set_option maxHeartbeats 1000000 in
theorem state1_merge (s c : Nat) (w : World) (hs : HeapIs w s (.cells #[.int .i64 0, .slice none 0 0, .slice none 0 0, .slice none 0 0] 105 (0, 0))) (hc : HeapIs w c (.cells #[.int .i64 9, .string ⟨#[]⟩, .string ⟨#[]⟩, .string ⟨#[]⟩, .int .i64 0, .slice none 0 0] 29 (0, 0))) :
    Calls Tryz.prog 52 #[.pointer (some ⟨s, 0, none⟩), .pointer (some ⟨c, 0, none⟩)] w fun e w' => e = .returned (.bool false) ∧ Below w.heap.size w w' := by
  have a0 := hs.cell (j := 0) (v := .int .i64 0) rfl
  have a1 := hs.cell (j := 1) (v := .slice none 0 0) rfl
  have a2 := hs.cell (j := 2) (v := .slice none 0 0) rfl
  have a3 := hs.cell (j := 3) (v := .slice none 0 0) rfl
  have b0 := hc.cell (j := 0) (v := .int .i64 9) rfl
  have b1 := hc.cell (j := 1) (v := .string ⟨#[]⟩) rfl
  have b2 := hc.cell (j := 2) (v := .string ⟨#[]⟩) rfl
  have b3 := hc.cell (j := 3) (v := .string ⟨#[]⟩) rfl
  have b4 := hc.cell (j := 4) (v := .int .i64 0) rfl
  have b5 := hc.cell (j := 5) (v := .slice none 0 0) rfl
  have HB := Lib.hid (Below.refl w.heap.size w)
  go_enter Tryz.func52, Tryz.ntmps52
  go_wp2_with fail
  refine (cart_qty _ _).mono ?_
  rintro e w1 ⟨rfl, hb⟩
  replace HB := Lib.hid (show Below w.heap.size w w1 by have h := hb; repeat (first | exact nbl_step HB.out h | replace h := nbl_new h | replace h := nbl_dr h))
  have hc1 : HeapIs w1 c (.cells #[.int .i64 9, .string ⟨#[]⟩, .string ⟨#[]⟩, .string ⟨#[]⟩, .int .i64 0, .slice none 0 0] 29 (0, 0)) := hc.below hb
  have d0 := hc1.cell (j := 0) (v := .int .i64 9) rfl
  have d1 := hc1.cell (j := 1) (v := .string ⟨#[]⟩) rfl
  have d2 := hc1.cell (j := 2) (v := .string ⟨#[]⟩) rfl
  have d3 := hc1.cell (j := 3) (v := .string ⟨#[]⟩) rfl
  have d4 := hc1.cell (j := 4) (v := .int .i64 0) rfl
  have d5 := hc1.cell (j := 5) (v := .slice none 0 0) rfl
  clear hb
  go_wp2
  go_ret
  exact ⟨rfl, by repeat (first | exact HB.out | apply nbl_al | apply nbl_drw | apply nbl_drewN | refine Below.setCell ?_ (Nat.le_refl _) _ | refine nbl_set ?_ (by first | exact Nat.le_refl _ | (simp; omega) | (simp; done) | omega) )⟩

set_option maxRecDepth 100000 in
set_option maxHeartbeats 1000000 in
theorem state2_nil (l s : Nat) (w : World) (hl : HeapIs w l (.cells #[.slice none 0 0] 108 (0, 0))) :
    Calls Tryz.prog 53 #[.pointer (some ⟨l, 0, none⟩), .pointer (some ⟨s, 0, none⟩)] w fun e w' => e = .returned (.bool false) ∧ Below w.heap.size w w' := by
  have a0 := hl.cell (j := 0) (v := .slice none 0 0) rfl
  have HB := Lib.hid (Below.refl w.heap.size w)
  go_enter Tryz.func53, Tryz.ntmps53
  have hmf : ∀ (fn : Fn) (first cap : Array Value) (w : World), (Instr.makeFunc fn first cap).run Tryz.prog w = .ok (.func fn first cap) w := fun _ _ _ _ => rfl
  go_wp2_with fail
  refine (containsFunc_line _ _).mono ?_
  rintro e w1 ⟨rfl, hb⟩
  replace HB := Lib.hid (show Below w.heap.size w w1 by have h := hb; repeat (first | exact nbl_step HB.out h | replace h := nbl_new h | replace h := nbl_dr h))
  clear hb
  go_wp2
  go_ret
  exact ⟨rfl, by repeat (first | exact HB.out | apply nbl_al | apply nbl_drw | apply nbl_drewN | refine Below.setCell ?_ (Nat.le_refl _) _ | refine nbl_set ?_ (by first | exact Nat.le_refl _ | (simp; omega) | (simp; done) | omega) )⟩

set_option maxRecDepth 100000 in
set_option maxHeartbeats 1000000 in
theorem state21_tea (s : Nat) (w : World) (hs : HeapIs w s (.cells #[.int .i64 0, .slice none 0 0, .slice none 0 0, .slice none 0 0] 105 (0, 0))) (hE : Env w) :
    Calls Tryz.prog 55 #[.agg #[.string ⟨#[116, 101, 97]⟩, .int .i64 1], .pointer (some ⟨s, 0, none⟩)] w fun e w' => e = .returned (.bool false) ∧ Below w.heap.size w w' := by
  have HB := Lib.hid (Below.refl w.heap.size w)
  go_enter Tryz.func55, Tryz.ntmps55
  have HE := Lib.hid hE
  clear hE
  have HS : Hid (∀ W, MaxIs W → Calls Tryz.prog 56 #[.agg #[.slice none 0 0, .slice none 0 0, .slice none 0 0], .string ⟨#[116, 101, 97]⟩, .int .i64 1] W fun e w' => e = .returned (.tuple #[.int .i64 1, .int .i64 0]) ∧ Below W.heap.size W w') := Lib.hid (fun W h => move_sum _ (by decide) (by decide) 1 (by decide) (by decide) W h)
  have q0 : (w.alloc (.cells #[.string ⟨#[116, 101, 97]⟩, .int .i64 1] 112)).cell? ⟨s, 0, none⟩ = some (.int .i64 0) := hs.al.cell (j := 0) rfl
  have q1 : (w.alloc (.cells #[.string ⟨#[116, 101, 97]⟩, .int .i64 1] 112)).cell? ⟨s, 1, none⟩ = some (.slice none 0 0) := hs.al.cell (j := 1) rfl
  have q2 : (w.alloc (.cells #[.string ⟨#[116, 101, 97]⟩, .int .i64 1] 112)).cell? ⟨s, 2, none⟩ = some (.slice none 0 0) := hs.al.cell (j := 2) rfl
  have q3 : (w.alloc (.cells #[.string ⟨#[116, 101, 97]⟩, .int .i64 1] 112)).cell? ⟨s, 3, none⟩ = some (.slice none 0 0) := hs.al.cell (j := 3) rfl
  go_wp2_with fail
  refine (HS.out _ (HE.out.later (nbl_al HB.out)).max).mono ?_
  rintro e w1 ⟨rfl, hb⟩
  replace HB := Lib.hid (show Below w.heap.size w w1 by have h := hb; repeat (first | exact nbl_step HB.out h | replace h := nbl_new h | replace h := nbl_dr h))
  clear hb
  go_wp2
  go_ret
  exact ⟨rfl, by repeat (first | exact HB.out | apply nbl_al | apply nbl_drw | apply nbl_drewN | refine Below.setCell ?_ (Nat.le_refl _) _ | refine nbl_set ?_ (by first | exact Nat.le_refl _ | (simp; omega) | (simp; done) | omega) )⟩

set_option maxRecDepth 100000 in
set_option maxHeartbeats 1000000 in
theorem index_tea (pl s : Nat) (w : World) (hl : HeapIs w pl (.cells #[.string ⟨#[116, 101, 97]⟩, .int .i64 1] 112 (0, 0))) (hs : HeapIs w s (.cells #[.int .i64 0, .slice none 0 0, .slice none 0 0, .slice none 0 0] 105 (0, 0))) (hE : Env w) :
    Calls Tryz.prog 94 #[.slice (some ⟨pl, 0, none⟩) 1 1, .func (.func 55) #[] #[.pointer (some ⟨s, 0, none⟩)]] w fun e w' => e = .returned (.int .i64 (-1)) ∧ Below w.heap.size w w' := by
  have a0 := hl.cell (j := 0) (v := .string ⟨#[116, 101, 97]⟩) rfl
  have a1 := hl.cell (j := 1) (v := .int .i64 1) rfl
  have HB := Lib.hid (Below.refl w.heap.size w)
  go_enter Tryz.func94, Tryz.ntmps94
  have HE := Lib.hid hE
  clear hE
  have HS := Lib.hid hs
  clear hs
  go_wp2_with fail
  refine wp_loop_rounds 2 ?_
  rw [rounds_succ]
  go_wp2_with fail
  refine (state21_tea s _ (HS.out.below HB.out) (HE.out.later HB.out)).mono ?_
  rintro e w1 ⟨rfl, hb⟩
  replace HB := Lib.hid (show Below w.heap.size w w1 by have h := hb; repeat (first | exact nbl_step HB.out h | replace h := nbl_new h | replace h := nbl_dr h))
  clear hb
  go_wp2_with fail
  rw [rounds_succ]
  go_wp2
  go_ret
  exact ⟨rfl, by repeat (first | exact HB.out | apply nbl_al | apply nbl_drw | apply nbl_drewN | refine Below.setCell ?_ (Nat.le_refl _) _ | refine nbl_set ?_ (by first | exact Nat.le_refl _ | (simp; omega) | (simp; done) | omega) )⟩

set_option maxRecDepth 100000 in
set_option maxHeartbeats 1000000 in
theorem contains_tea (pl s : Nat) (w : World) (hl : HeapIs w pl (.cells #[.string ⟨#[116, 101, 97]⟩, .int .i64 1] 112 (0, 0))) (hs : HeapIs w s (.cells #[.int .i64 0, .slice none 0 0, .slice none 0 0, .slice none 0 0] 105 (0, 0))) (hE : Env w) :
    Calls Tryz.prog 54 #[.slice (some ⟨pl, 0, none⟩) 1 1, .func (.func 55) #[] #[.pointer (some ⟨s, 0, none⟩)]] w fun e w' => e = .returned (.bool false) ∧ Below w.heap.size w w' := by
  have HB := Lib.hid (Below.refl w.heap.size w)
  go_enter Tryz.func54, Tryz.ntmps54
  go_wp2_with fail
  refine (index_tea pl s _ hl hs hE).mono ?_
  rintro e w1 ⟨rfl, hb⟩
  replace HB := Lib.hid (show Below w.heap.size w w1 by have h := hb; repeat (first | exact nbl_step HB.out h | replace h := nbl_new h | replace h := nbl_dr h))
  clear hb
  go_wp2
  go_ret
  exact ⟨rfl, by repeat (first | exact HB.out | apply nbl_al | apply nbl_drw | apply nbl_drewN | refine Below.setCell ?_ (Nat.le_refl _) _ | refine nbl_set ?_ (by first | exact Nat.le_refl _ | (simp; omega) | (simp; done) | omega) )⟩

set_option maxRecDepth 100000 in
set_option maxHeartbeats 1000000 in
theorem state2_tea (l s pl : Nat) (w : World) (hl : HeapIs w l (.cells #[.slice (some ⟨pl, 0, none⟩) 1 1] 108 (0, 0))) (hp : HeapIs w pl (.cells #[.string ⟨#[116, 101, 97]⟩, .int .i64 1] 112 (0, 0))) (hs : HeapIs w s (.cells #[.int .i64 0, .slice none 0 0, .slice none 0 0, .slice none 0 0] 105 (0, 0))) (hE : Env w) :
    Calls Tryz.prog 53 #[.pointer (some ⟨l, 0, none⟩), .pointer (some ⟨s, 0, none⟩)] w fun e w' => e = .returned (.bool false) ∧ Below w.heap.size w w' := by
  have a0 := hl.cell (j := 0) (v := .slice (some ⟨pl, 0, none⟩) 1 1) rfl
  have HB := Lib.hid (Below.refl w.heap.size w)
  go_enter Tryz.func53, Tryz.ntmps53
  have hmf : ∀ (fn : Fn) (first cap : Array Value) (w : World), (Instr.makeFunc fn first cap).run Tryz.prog w = .ok (.func fn first cap) w := fun _ _ _ _ => rfl
  go_wp2_with fail
  refine (contains_tea pl s _ hp hs hE).mono ?_
  rintro e w1 ⟨rfl, hb⟩
  replace HB := Lib.hid (show Below w.heap.size w w1 by have h := hb; repeat (first | exact nbl_step HB.out h | replace h := nbl_new h | replace h := nbl_dr h))
  clear hb
  go_wp2
  go_ret
  exact ⟨rfl, by repeat (first | exact HB.out | apply nbl_al | apply nbl_drw | apply nbl_drewN | refine Below.setCell ?_ (Nat.le_refl _) _ | refine nbl_set ?_ (by first | exact Nat.le_refl _ | (simp; omega) | (simp; done) | omega) )⟩

set_option maxRecDepth 100000 in
set_option maxHeartbeats 1000000 in
theorem state3_0 (x s : Nat) (w : World) (hx : HeapIs w x (.cells #[.int .i64 0] 3 (0, 0))) (hs : HeapIs w s (.cells #[.int .i64 0, .slice none 0 0, .slice none 0 0, .slice none 0 0] 105 (0, 0))) :
    Calls Tryz.prog 57 #[.pointer (some ⟨x, 0, none⟩), .pointer (some ⟨s, 0, none⟩)] w fun e w' => e = .returned (.bool false) ∧ Below w.heap.size w w' := by
  have a0 := hx.cell (j := 0) (v := .int .i64 0) rfl
  have b0 := hs.cell (j := 0) (v := .int .i64 0) rfl
  have b1 := hs.cell (j := 1) (v := .slice none 0 0) rfl
  have b2 := hs.cell (j := 2) (v := .slice none 0 0) rfl
  have b3 := hs.cell (j := 3) (v := .slice none 0 0) rfl
  have HB := Lib.hid (Below.refl w.heap.size w)
  go_enter Tryz.func57, Tryz.ntmps57
  go_wp2
  go_ret
  exact ⟨rfl, by repeat (first | exact HB.out | apply nbl_al | apply nbl_drw | apply nbl_drewN | refine Below.setCell ?_ (Nat.le_refl _) _ | refine nbl_set ?_ (by first | exact Nat.le_refl _ | (simp; omega) | (simp; done) | omega) )⟩

set_option maxRecDepth 100000 in
set_option maxHeartbeats 1000000 in
theorem state3_1 (x s : Nat) (w : World) (hx : HeapIs w x (.cells #[.int .i64 1] 3 (0, 0))) (hs : HeapIs w s (.cells #[.int .i64 0, .slice none 0 0, .slice none 0 0, .slice none 0 0] 105 (0, 0))) :
    Calls Tryz.prog 57 #[.pointer (some ⟨x, 0, none⟩), .pointer (some ⟨s, 0, none⟩)] w fun e w' => e = .returned (.bool false) ∧ Below w.heap.size w w' := by
  have a0 := hx.cell (j := 0) (v := .int .i64 1) rfl
  have b0 := hs.cell (j := 0) (v := .int .i64 0) rfl
  have b1 := hs.cell (j := 1) (v := .slice none 0 0) rfl
  have b2 := hs.cell (j := 2) (v := .slice none 0 0) rfl
  have b3 := hs.cell (j := 3) (v := .slice none 0 0) rfl
  have HB := Lib.hid (Below.refl w.heap.size w)
  go_enter Tryz.func57, Tryz.ntmps57
  go_wp2
  go_ret
  exact ⟨rfl, by repeat (first | exact HB.out | apply nbl_al | apply nbl_drw | apply nbl_drewN | refine Below.setCell ?_ (Nat.le_refl _) _ | refine nbl_set ?_ (by first | exact Nat.le_refl _ | (simp; omega) | (simp; done) | omega) )⟩

set_option maxRecDepth 100000 in
set_option maxHeartbeats 1000000 in
theorem state4_nil (l s n : Nat) (w : World) (hl : HeapIs w l (.cells #[.slice none 0 0] 108 (0, 0))) :
    Calls Tryz.prog 58 #[.pointer (some ⟨l, 0, none⟩), .pointer (some ⟨s, 0, none⟩), .pointer (some ⟨n, 0, none⟩)] w fun e w' => e = .returned (.bool false) ∧ Below w.heap.size w w' := by
  have a0 := hl.cell (j := 0) (v := .slice none 0 0) rfl
  have HB := Lib.hid (Below.refl w.heap.size w)
  go_enter Tryz.func58, Tryz.ntmps58
  go_wp2
  go_ret
  exact ⟨rfl, by repeat (first | exact HB.out | apply nbl_al | apply nbl_drw | apply nbl_drewN | refine Below.setCell ?_ (Nat.le_refl _) _ | refine nbl_set ?_ (by first | exact Nat.le_refl _ | (simp; omega) | (simp; done) | omega) )⟩

set_option maxRecDepth 100000 in
set_option maxHeartbeats 1000000 in
theorem state4_tea (l s n pl : Nat) (pn pt pd pi po ps bm : Nat) (w : World) (hl : HeapIs w l (.cells #[.slice (some ⟨pl, 0, none⟩) 1 1] 108 (0, 0))) (hs : HeapIs w s (.cells #[.int .i64 0, .slice none 0 0, .slice none 0 0, .slice none 0 0] 105 (0, 0))) (hn : HeapIs w n (.cells #[.pointer (some ⟨pn, 0, none⟩)] 32 (0, 0))) (hN : NodeE w pn pt pd pi po ps bm) :
    Calls Tryz.prog 58 #[.pointer (some ⟨l, 0, none⟩), .pointer (some ⟨s, 0, none⟩), .pointer (some ⟨n, 0, none⟩)] w fun e w' => e = .returned (.bool false) ∧ Below w.heap.size w w' := by
  have a0 := hl.cell (j := 0) (v := .slice (some ⟨pl, 0, none⟩) 1 1) rfl
  have b0 := hs.cell (j := 0) (v := .int .i64 0) rfl
  have b1 := hs.cell (j := 1) (v := .slice none 0 0) rfl
  have b2 := hs.cell (j := 2) (v := .slice none 0 0) rfl
  have b3 := hs.cell (j := 3) (v := .slice none 0 0) rfl
  have c0 := hn.cell (j := 0) (v := .pointer (some ⟨pn, 0, none⟩)) rfl
  have HB := Lib.hid (Below.refl w.heap.size w)
  go_enter Tryz.func58, Tryz.ntmps58
  go_wp2_with fail
  refine (node_room pn pt pd pi po ps bm _ hN).mono ?_
  rintro e w1 ⟨rfl, hb⟩
  replace HB := Lib.hid (show Below w.heap.size w w1 by have h := hb; repeat (first | exact nbl_step HB.out h | replace h := nbl_new h | replace h := nbl_dr h))
  clear hb
  go_wp2
  go_ret
  exact ⟨rfl, by repeat (first | exact HB.out | apply nbl_al | apply nbl_drw | apply nbl_drewN | refine Below.setCell ?_ (Nat.le_refl _) _ | refine nbl_set ?_ (by first | exact Nat.le_refl _ | (simp; omega) | (simp; done) | omega) )⟩

set_option maxRecDepth 100000 in
set_option maxHeartbeats 1000000 in
theorem state5_0 (s y n : Nat) (pn pt pd pi po ps bm : Nat) (w : World) (hs : HeapIs w s (.cells #[.int .i64 0, .slice none 0 0, .slice none 0 0, .slice none 0 0] 105 (0, 0))) (hy : HeapIs w y (.cells #[.int .i64 0] 3 (0, 0))) (hn : HeapIs w n (.cells #[.pointer (some ⟨pn, 0, none⟩)] 32 (0, 0))) (hN : NodeE w pn pt pd pi po ps bm) :
    Calls Tryz.prog 60 #[.pointer (some ⟨s, 0, none⟩), .pointer (some ⟨y, 0, none⟩), .pointer (some ⟨n, 0, none⟩)] w fun e w' => e = .returned (.bool false) ∧ Below w.heap.size w w' := by
  have a0 := hs.cell (j := 0) (v := .int .i64 0) rfl
  have a1 := hs.cell (j := 1) (v := .slice none 0 0) rfl
  have a2 := hs.cell (j := 2) (v := .slice none 0 0) rfl
  have a3 := hs.cell (j := 3) (v := .slice none 0 0) rfl
  have HB := Lib.hid (Below.refl w.heap.size w)
  go_enter Tryz.func60, Tryz.ntmps60
  have HN := Lib.hid hN
  clear hN
  have HY := Lib.hid hy
  have HW := Lib.hid hn
  clear hy hn
  go_wp2_with fail
  refine (cart_time _).mono ?_
  rintro e w1 ⟨rfl, hb⟩
  replace HB := Lib.hid (show Below w.heap.size w w1 by have h := hb; repeat (first | exact nbl_step HB.out h | replace h := nbl_new h | replace h := nbl_dr h))
  have hy1 : HeapIs w1 y (.cells #[.int .i64 0] 3 (0, 0)) := HY.out.below hb
  have c0 := hy1.cell (j := 0) (v := .int .i64 0) rfl
  have hn1 : HeapIs w1 n (.cells #[.pointer (some ⟨pn, 0, none⟩)] 32 (0, 0)) := HW.out.below hb
  have e0 := hn1.cell (j := 0) (v := .pointer (some ⟨pn, 0, none⟩)) rfl
  replace HN := Lib.hid (HN.out.later hb)
  clear hb
  go_wp2_with fail
  go_quiet (fail)
  go_wp2
  go_ret
  exact ⟨rfl, by repeat (first | exact HB.out | apply nbl_al | apply nbl_drw | apply nbl_drewN | refine Below.setCell ?_ (Nat.le_refl _) _ | refine nbl_set ?_ (by first | exact Nat.le_refl _ | (simp; omega) | (simp; done) | omega) )⟩

set_option maxRecDepth 100000 in
set_option maxHeartbeats 1000000 in
theorem state5_1 (s y n : Nat) (pn pt pd pi po ps bm : Nat) (w : World) (hs : HeapIs w s (.cells #[.int .i64 0, .slice none 0 0, .slice none 0 0, .slice none 0 0] 105 (0, 0))) (hy : HeapIs w y (.cells #[.int .i64 1] 3 (0, 0))) (hn : HeapIs w n (.cells #[.pointer (some ⟨pn, 0, none⟩)] 32 (0, 0))) (hN : NodeE w pn pt pd pi po ps bm) :
    Calls Tryz.prog 60 #[.pointer (some ⟨s, 0, none⟩), .pointer (some ⟨y, 0, none⟩), .pointer (some ⟨n, 0, none⟩)] w fun e w' => e = .returned (.bool false) ∧ Below w.heap.size w w' := by
  have a0 := hs.cell (j := 0) (v := .int .i64 0) rfl
  have a1 := hs.cell (j := 1) (v := .slice none 0 0) rfl
  have a2 := hs.cell (j := 2) (v := .slice none 0 0) rfl
  have a3 := hs.cell (j := 3) (v := .slice none 0 0) rfl
  have HB := Lib.hid (Below.refl w.heap.size w)
  go_enter Tryz.func60, Tryz.ntmps60
  have HN := Lib.hid hN
  clear hN
  have HY := Lib.hid hy
  have HW := Lib.hid hn
  clear hy hn
  go_wp2_with fail
  refine (cart_time _).mono ?_
  rintro e w1 ⟨rfl, hb⟩
  replace HB := Lib.hid (show Below w.heap.size w w1 by have h := hb; repeat (first | exact nbl_step HB.out h | replace h := nbl_new h | replace h := nbl_dr h))
  have hy1 : HeapIs w1 y (.cells #[.int .i64 1] 3 (0, 0)) := HY.out.below hb
  have c0 := hy1.cell (j := 0) (v := .int .i64 1) rfl
  have hn1 : HeapIs w1 n (.cells #[.pointer (some ⟨pn, 0, none⟩)] 32 (0, 0)) := HW.out.below hb
  have e0 := hn1.cell (j := 0) (v := .pointer (some ⟨pn, 0, none⟩)) rfl
  replace HN := Lib.hid (HN.out.later hb)
  clear hb
  go_wp2_with fail
  go_region_held3 (fun w' => w'.cell? ⟨y, 0, none⟩ = some (.int .i64 1) ∧ w'.cell? ⟨n, 0, none⟩ = some (.pointer (some ⟨pn, 0, none⟩))) (go_keep)
    (first
      | (go_at_call 62; refine (node_last pn pt pd pi po ps bm _ (by first | exact HN.out | exact HN.out.drew)).mono ?_; rintro e w2 ⟨rfl, hb⟩; have k2_0 : w2.cell? ⟨y, 0, none⟩ = some (.int .i64 1) := (HeapIs.below hy1 (by first | exact hb | exact nbl_dr hb)).cell (j := 0) rfl; have k2_1 : w2.cell? ⟨n, 0, none⟩ = some (.pointer (some ⟨pn, 0, none⟩)) := (HeapIs.below hn1 (by first | exact hb | exact nbl_dr hb)).cell (j := 0) rfl; replace HB := Lib.hid (nbl_step HB.out (by first | exact hb | exact nbl_dr hb)); clear hb)
      | fail)
  go_wp2
  go_ret
  exact ⟨rfl, by repeat (first | exact HB.out | apply nbl_al | apply nbl_drw | apply nbl_drewN | refine Below.setCell ?_ (Nat.le_refl _) _ | refine nbl_set ?_ (by first | exact Nat.le_refl _ | (simp; omega) | (simp; done) | omega) )⟩

set_option maxRecDepth 100000 in
set_option maxHeartbeats 1000000 in
theorem state6_add1 (c n : Nat) (w : World) (hc : HeapIs w c (.cells #[.int .i64 1, .string ⟨#[97]⟩, .string ⟨#[]⟩, .string ⟨#[116, 101, 97]⟩, .int .i64 1, .slice none 0 0] 29 (0, 0))) :
    Calls Tryz.prog 63 #[.pointer (some ⟨c, 0, none⟩), .pointer (some ⟨n, 0, none⟩)] w fun e w' => e = .returned (.bool false) ∧ Below w.heap.size w w' := by
  have a0 := hc.cell (j := 0) (v := .int .i64 1) rfl
  have a1 := hc.cell (j := 1) (v := .string ⟨#[97]⟩) rfl
  have a2 := hc.cell (j := 2) (v := .string ⟨#[]⟩) rfl
  have a3 := hc.cell (j := 3) (v := .string ⟨#[116, 101, 97]⟩) rfl
  have a4 := hc.cell (j := 4) (v := .int .i64 1) rfl
  have a5 := hc.cell (j := 5) (v := .slice none 0 0) rfl
  have HB := Lib.hid (Below.refl w.heap.size w)
  go_enter Tryz.func63, Tryz.ntmps63
  go_wp2
  go_ret
  exact ⟨rfl, by repeat (first | exact HB.out | apply nbl_al | apply nbl_drw | apply nbl_drewN | refine Below.setCell ?_ (Nat.le_refl _) _ | refine nbl_set ?_ (by first | exact Nat.le_refl _ | (simp; omega) | (simp; done) | omega) )⟩

set_option maxRecDepth 100000 in
set_option maxHeartbeats 1000000 in
theorem state7_add1 (c n : Nat) (w : World) (hc : HeapIs w c (.cells #[.int .i64 1, .string ⟨#[97]⟩, .string ⟨#[]⟩, .string ⟨#[116, 101, 97]⟩, .int .i64 1, .slice none 0 0] 29 (0, 0))) :
    Calls Tryz.prog 65 #[.pointer (some ⟨c, 0, none⟩), .pointer (some ⟨n, 0, none⟩)] w fun e w' => e = .returned (.bool false) ∧ Below w.heap.size w w' := by
  have a0 := hc.cell (j := 0) (v := .int .i64 1) rfl
  have a1 := hc.cell (j := 1) (v := .string ⟨#[97]⟩) rfl
  have a2 := hc.cell (j := 2) (v := .string ⟨#[]⟩) rfl
  have a3 := hc.cell (j := 3) (v := .string ⟨#[116, 101, 97]⟩) rfl
  have a4 := hc.cell (j := 4) (v := .int .i64 1) rfl
  have a5 := hc.cell (j := 5) (v := .slice none 0 0) rfl
  have HB := Lib.hid (Below.refl w.heap.size w)
  go_enter Tryz.func65, Tryz.ntmps65
  go_wp2
  go_ret
  exact ⟨rfl, by repeat (first | exact HB.out | apply nbl_al | apply nbl_drw | apply nbl_drewN | refine Below.setCell ?_ (Nat.le_refl _) _ | refine nbl_set ?_ (by first | exact Nat.le_refl _ | (simp; omega) | (simp; done) | omega) )⟩

set_option maxRecDepth 100000 in
set_option maxHeartbeats 1000000 in
theorem state6_merge (c n : Nat) (w : World) (hc : HeapIs w c (.cells #[.int .i64 9, .string ⟨#[]⟩, .string ⟨#[]⟩, .string ⟨#[]⟩, .int .i64 0, .slice none 0 0] 29 (0, 0))) :
    Calls Tryz.prog 63 #[.pointer (some ⟨c, 0, none⟩), .pointer (some ⟨n, 0, none⟩)] w fun e w' => e = .returned (.bool false) ∧ Below w.heap.size w w' := by
  have a0 := hc.cell (j := 0) (v := .int .i64 9) rfl
  have a1 := hc.cell (j := 1) (v := .string ⟨#[]⟩) rfl
  have a2 := hc.cell (j := 2) (v := .string ⟨#[]⟩) rfl
  have a3 := hc.cell (j := 3) (v := .string ⟨#[]⟩) rfl
  have a4 := hc.cell (j := 4) (v := .int .i64 0) rfl
  have a5 := hc.cell (j := 5) (v := .slice none 0 0) rfl
  have HB := Lib.hid (Below.refl w.heap.size w)
  go_enter Tryz.func63, Tryz.ntmps63
  go_wp2
  go_ret
  exact ⟨rfl, by repeat (first | exact HB.out | apply nbl_al | apply nbl_drw | apply nbl_drewN | refine Below.setCell ?_ (Nat.le_refl _) _ | refine nbl_set ?_ (by first | exact Nat.le_refl _ | (simp; omega) | (simp; done) | omega) )⟩

set_option maxRecDepth 100000 in
set_option maxHeartbeats 1000000 in
theorem state7_merge (c n : Nat) (w : World) (hc : HeapIs w c (.cells #[.int .i64 9, .string ⟨#[]⟩, .string ⟨#[]⟩, .string ⟨#[]⟩, .int .i64 0, .slice none 0 0] 29 (0, 0))) :
    Calls Tryz.prog 65 #[.pointer (some ⟨c, 0, none⟩), .pointer (some ⟨n, 0, none⟩)] w fun e w' => e = .returned (.bool false) ∧ Below w.heap.size w w' := by
  have a0 := hc.cell (j := 0) (v := .int .i64 9) rfl
  have a1 := hc.cell (j := 1) (v := .string ⟨#[]⟩) rfl
  have a2 := hc.cell (j := 2) (v := .string ⟨#[]⟩) rfl
  have a3 := hc.cell (j := 3) (v := .string ⟨#[]⟩) rfl
  have a4 := hc.cell (j := 4) (v := .int .i64 0) rfl
  have a5 := hc.cell (j := 5) (v := .slice none 0 0) rfl
  have HB := Lib.hid (Below.refl w.heap.size w)
  go_enter Tryz.func65, Tryz.ntmps65
  go_wp2
  go_ret
  exact ⟨rfl, by repeat (first | exact HB.out | apply nbl_al | apply nbl_drw | apply nbl_drewN | refine Below.setCell ?_ (Nat.le_refl _) _ | refine nbl_set ?_ (by first | exact Nat.le_refl _ | (simp; omega) | (simp; done) | omega) )⟩

end Go.Proofs.YtmocoiamhphhnaaGreatDoor

