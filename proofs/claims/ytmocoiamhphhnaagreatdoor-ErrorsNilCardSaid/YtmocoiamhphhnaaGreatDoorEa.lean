/- What functions give at empty carts: slices without elements (printed by wip/genE1.py). -/
import Derived.Test.YtmocoiamhphhnaaGreatDoorSh
import Derived.Test.YtmocoiamhphhnaaGreatDoorNe
import Derived.LoopN
import Derived.Lib.SliceRun
import Derived.Handy
import Derived.WalkKit
import Derived.Lib.Hide
import Derived.Deep.QuietTactic
namespace Go.Proofs.YtmocoiamhphhnaaGreatDoor
set_option linter.unusedVariables false
set_option linter.unusedSimpArgs false
open Go.RowKit Go.MapKept

theorem nbl_step {w a b : World} (h : Below w.heap.size w a) (k : Below a.heap.size a b) : Below w.heap.size w b := h.trans (k.mono h.size)
theorem nbl_new {a b : World} {o : Obj} (k : Below (a.alloc o).heap.size (a.alloc o) b) : Below a.heap.size a b := ((Below.refl _ _).alloc (Nat.le_refl _) o).trans (k.mono (by simp))
theorem nbl_dr {a b : World} (k : Below a.drew.heap.size a.drew b) : Below a.heap.size a b := (Below.refl _ _).drew.trans k
theorem nbl_al {w a : World} {o : Obj} (h : Below w.heap.size w a) : Below w.heap.size w (a.alloc o) := h.alloc h.size o
theorem nbl_drw {w a : World} (h : Below w.heap.size w a) : Below w.heap.size w a.drew := h.drew

set_option maxRecDepth 100000 in
set_option maxHeartbeats 1000000 in
theorem indexFunc_line (fv : Value) (w : World)  :
    Calls Tryz.prog 94 #[.slice none 0 0, fv] w fun e w' => e = .returned (.int .i64 (-1)) ∧ Below w.heap.size w w' := by
  have HB := Lib.hid (Below.refl w.heap.size w)
  go_enter Tryz.func94, Tryz.ntmps94
  go_wp2_with fail
  refine wp_loop_rounds 1 ?_
  rw [rounds_succ]
  go_wp2
  go_ret
  exact ⟨rfl, by repeat (first | exact HB.out | apply nbl_al | apply nbl_drw)⟩

set_option maxRecDepth 100000 in
set_option maxHeartbeats 1000000 in
theorem indexFunc_mark (fv : Value) (w : World)  :
    Calls Tryz.prog 230 #[.slice none 0 0, fv] w fun e w' => e = .returned (.int .i64 (-1)) ∧ Below w.heap.size w w' := by
  have HB := Lib.hid (Below.refl w.heap.size w)
  go_enter Tryz.func230, Tryz.ntmps230
  go_wp2_with fail
  refine wp_loop_rounds 1 ?_
  rw [rounds_succ]
  go_wp2
  go_ret
  exact ⟨rfl, by repeat (first | exact HB.out | apply nbl_al | apply nbl_drw)⟩

set_option maxRecDepth 100000 in
set_option maxHeartbeats 1000000 in
theorem indexFunc_dot (fv : Value) (w : World)  :
    Calls Tryz.prog 271 #[.slice none 0 0, fv] w fun e w' => e = .returned (.int .i64 (-1)) ∧ Below w.heap.size w w' := by
  have HB := Lib.hid (Below.refl w.heap.size w)
  go_enter Tryz.func271, Tryz.ntmps271
  go_wp2_with fail
  refine wp_loop_rounds 1 ?_
  rw [rounds_succ]
  go_wp2
  go_ret
  exact ⟨rfl, by repeat (first | exact HB.out | apply nbl_al | apply nbl_drw)⟩

set_option maxRecDepth 100000 in
set_option maxHeartbeats 1000000 in
theorem indexFunc_vec (fv : Value) (w : World)  :
    Calls Tryz.prog 266 #[.slice none 0 0, fv] w fun e w' => e = .returned (.int .i64 (-1)) ∧ Below w.heap.size w w' := by
  have HB := Lib.hid (Below.refl w.heap.size w)
  go_enter Tryz.func266, Tryz.ntmps266
  go_wp2_with fail
  refine wp_loop_rounds 1 ?_
  rw [rounds_succ]
  go_wp2
  go_ret
  exact ⟨rfl, by repeat (first | exact HB.out | apply nbl_al | apply nbl_drw)⟩

set_option maxRecDepth 100000 in
set_option maxHeartbeats 1000000 in
theorem indexFunc_item (fv : Value) (w : World)  :
    Calls Tryz.prog 223 #[.slice none 0 0, fv] w fun e w' => e = .returned (.int .i64 (-1)) ∧ Below w.heap.size w w' := by
  have HB := Lib.hid (Below.refl w.heap.size w)
  go_enter Tryz.func223, Tryz.ntmps223
  go_wp2_with fail
  refine wp_loop_rounds 1 ?_
  rw [rounds_succ]
  go_wp2
  go_ret
  exact ⟨rfl, by repeat (first | exact HB.out | apply nbl_al | apply nbl_drw)⟩

set_option maxRecDepth 100000 in
set_option maxHeartbeats 1000000 in
theorem containsFunc_line (fv : Value) (w : World)  :
    Calls Tryz.prog 54 #[.slice none 0 0, fv] w fun e w' => e = .returned (.bool false) ∧ Below w.heap.size w w' := by
  have HB := Lib.hid (Below.refl w.heap.size w)
  go_enter Tryz.func54, Tryz.ntmps54
  go_wp2_with fail
  refine (indexFunc_line _ _).mono ?_
  rintro e w1 ⟨rfl, hb⟩
  replace HB := Lib.hid (show Below w.heap.size w w1 by have h := hb; repeat (first | exact nbl_step HB.out h | replace h := nbl_new h | replace h := nbl_dr h))
  clear hb
  go_wp2
  go_ret
  exact ⟨rfl, by repeat (first | exact HB.out | apply nbl_al | apply nbl_drw)⟩

set_option maxRecDepth 100000 in
set_option maxHeartbeats 1000000 in
theorem containsFunc_mark (fv : Value) (w : World)  :
    Calls Tryz.prog 162 #[.slice none 0 0, fv] w fun e w' => e = .returned (.bool false) ∧ Below w.heap.size w w' := by
  have HB := Lib.hid (Below.refl w.heap.size w)
  go_enter Tryz.func162, Tryz.ntmps162
  go_wp2_with fail
  refine (indexFunc_mark _ _).mono ?_
  rintro e w1 ⟨rfl, hb⟩
  replace HB := Lib.hid (show Below w.heap.size w w1 by have h := hb; repeat (first | exact nbl_step HB.out h | replace h := nbl_new h | replace h := nbl_dr h))
  clear hb
  go_wp2
  go_ret
  exact ⟨rfl, by repeat (first | exact HB.out | apply nbl_al | apply nbl_drw)⟩

set_option maxRecDepth 100000 in
set_option maxHeartbeats 1000000 in
theorem containsFunc_dot (fv : Value) (w : World)  :
    Calls Tryz.prog 217 #[.slice none 0 0, fv] w fun e w' => e = .returned (.bool false) ∧ Below w.heap.size w w' := by
  have HB := Lib.hid (Below.refl w.heap.size w)
  go_enter Tryz.func217, Tryz.ntmps217
  go_wp2_with fail
  refine (indexFunc_dot _ _).mono ?_
  rintro e w1 ⟨rfl, hb⟩
  replace HB := Lib.hid (show Below w.heap.size w w1 by have h := hb; repeat (first | exact nbl_step HB.out h | replace h := nbl_new h | replace h := nbl_dr h))
  clear hb
  go_wp2
  go_ret
  exact ⟨rfl, by repeat (first | exact HB.out | apply nbl_al | apply nbl_drw)⟩

set_option maxRecDepth 100000 in
set_option maxHeartbeats 1000000 in
theorem containsFunc_vec (fv : Value) (w : World)  :
    Calls Tryz.prog 302 #[.slice none 0 0, fv] w fun e w' => e = .returned (.bool false) ∧ Below w.heap.size w w' := by
  have HB := Lib.hid (Below.refl w.heap.size w)
  go_enter Tryz.func302, Tryz.ntmps302
  go_wp2_with fail
  refine (indexFunc_vec _ _).mono ?_
  rintro e w1 ⟨rfl, hb⟩
  replace HB := Lib.hid (show Below w.heap.size w w1 by have h := hb; repeat (first | exact nbl_step HB.out h | replace h := nbl_new h | replace h := nbl_dr h))
  clear hb
  go_wp2
  go_ret
  exact ⟨rfl, by repeat (first | exact HB.out | apply nbl_al | apply nbl_drw)⟩

set_option maxRecDepth 100000 in
set_option maxHeartbeats 1000000 in
theorem clone_dot  (w : World)  :
    Calls Tryz.prog 213 #[.slice none 0 0] w fun e w' => e = .returned (.slice none 0 0) ∧ Below w.heap.size w w' := by
  have hnil : ∀ W, (binOp .eql 97 (.slice none 0 0) (.slice none 0 0)).run Tryz.prog W = .ok (.bool true) W := fun W => Lib.run_eql_slice_nil W _ _ none 0 0 0 0 Tryz.underlying97
  have HB := Lib.hid (Below.refl w.heap.size w)
  go_enter Tryz.func213, Tryz.ntmps213
  go_wp2
  go_ret
  exact ⟨rfl, by repeat (first | exact HB.out | apply nbl_al | apply nbl_drw)⟩

set_option maxRecDepth 100000 in
set_option maxHeartbeats 1000000 in
theorem clone_vec  (w : World)  :
    Calls Tryz.prog 212 #[.slice none 0 0] w fun e w' => e = .returned (.slice none 0 0) ∧ Below w.heap.size w w' := by
  have hnil : ∀ W, (binOp .eql 98 (.slice none 0 0) (.slice none 0 0)).run Tryz.prog W = .ok (.bool true) W := fun W => Lib.run_eql_slice_nil W _ _ none 0 0 0 0 Tryz.underlying98
  have HB := Lib.hid (Below.refl w.heap.size w)
  go_enter Tryz.func212, Tryz.ntmps212
  go_wp2
  go_ret
  exact ⟨rfl, by repeat (first | exact HB.out | apply nbl_al | apply nbl_drw)⟩

set_option maxRecDepth 100000 in
set_option maxHeartbeats 1000000 in
theorem clone_item  (w : World)  :
    Calls Tryz.prog 225 #[.slice none 0 0] w fun e w' => e = .returned (.slice none 0 0) ∧ Below w.heap.size w w' := by
  have hnil : ∀ W, (binOp .eql 101 (.slice none 0 0) (.slice none 0 0)).run Tryz.prog W = .ok (.bool true) W := fun W => Lib.run_eql_slice_nil W _ _ none 0 0 0 0 Tryz.underlying101
  have HB := Lib.hid (Below.refl w.heap.size w)
  go_enter Tryz.func225, Tryz.ntmps225
  go_wp2
  go_ret
  exact ⟨rfl, by repeat (first | exact HB.out | apply nbl_al | apply nbl_drw)⟩

set_option maxRecDepth 100000 in
set_option maxHeartbeats 1000000 in
theorem deleteFunc_dot (fv : Value) (w : World)  :
    Calls Tryz.prog 218 #[.slice none 0 0, fv] w fun e w' => e = .returned (.slice none 0 0) ∧ Below w.heap.size w w' := by
  have HB := Lib.hid (Below.refl w.heap.size w)
  go_enter Tryz.func218, Tryz.ntmps218
  go_wp2_with fail
  refine (indexFunc_dot _ _).mono ?_
  rintro e w1 ⟨rfl, hb⟩
  replace HB := Lib.hid (show Below w.heap.size w w1 by have h := hb; repeat (first | exact nbl_step HB.out h | replace h := nbl_new h | replace h := nbl_dr h))
  clear hb
  go_wp2
  go_ret
  exact ⟨rfl, by repeat (first | exact HB.out | apply nbl_al | apply nbl_drw)⟩

set_option maxRecDepth 100000 in
set_option maxHeartbeats 1000000 in
theorem compact_dot  (w : World)  :
    Calls Tryz.prog 274 #[.slice none 0 0] w fun e w' => e = .returned (.slice none 0 0) ∧ Below w.heap.size w w' := by
  have HB := Lib.hid (Below.refl w.heap.size w)
  go_enter Tryz.func274, Tryz.ntmps274
  go_wp2
  go_ret
  exact ⟨rfl, by repeat (first | exact HB.out | apply nbl_al | apply nbl_drw)⟩

set_option maxRecDepth 100000 in
set_option maxHeartbeats 1000000 in
theorem copy_items  (w : World)  :
    Calls Tryz.prog 158 #[.slice none 0 0] w fun e w' => e = .returned (.slice none 0 0) ∧ Below w.heap.size w w' := by
  have HB := Lib.hid (Below.refl w.heap.size w)
  go_enter Tryz.func158, Tryz.ntmps158
  go_wp2_with fail
  refine (clone_item _).mono ?_
  rintro e w1 ⟨rfl, hb⟩
  replace HB := Lib.hid (show Below w.heap.size w w1 by have h := hb; repeat (first | exact nbl_step HB.out h | replace h := nbl_new h | replace h := nbl_dr h))
  clear hb
  go_wp2_with fail
  refine wp_loop_rounds 1 ?_
  rw [rounds_succ]
  go_wp2
  go_ret
  exact ⟨rfl, by repeat (first | exact HB.out | apply nbl_al | apply nbl_drw)⟩

set_option maxRecDepth 100000 in
set_option maxHeartbeats 1000000 in
theorem isSet_nil  (w : World)  :
    Calls Tryz.prog 269 #[.slice none 0 0] w fun e w' => e = .returned (.bool true) ∧ Below w.heap.size w w' := by
  have HB := Lib.hid (Below.refl w.heap.size w)
  go_enter Tryz.func269, Tryz.ntmps269
  go_wp2_with fail
  refine wp_loop_rounds 1 ?_
  rw [rounds_succ]
  go_wp2
  go_ret
  exact ⟨rfl, by repeat (first | exact HB.out | apply nbl_al | apply nbl_drw)⟩

set_option maxRecDepth 100000 in
set_option maxHeartbeats 1000000 in
theorem valid_vec  (w : World)  :
    Calls Tryz.prog 268 #[.slice none 0 0] w fun e w' => e = .returned (.bool true) ∧ Below w.heap.size w w' := by
  have HB := Lib.hid (Below.refl w.heap.size w)
  go_enter Tryz.func268, Tryz.ntmps268
  go_wp2_with fail
  refine wp_loop_rounds 1 ?_
  rw [rounds_succ]
  go_wp2_with fail
  refine (containsFunc_vec _ _).mono ?_
  rintro e w1 ⟨rfl, hb⟩
  replace HB := Lib.hid (show Below w.heap.size w w1 by have h := hb; repeat (first | exact nbl_step HB.out h | replace h := nbl_new h | replace h := nbl_dr h))
  clear hb
  go_wp2
  go_ret
  exact ⟨rfl, by repeat (first | exact HB.out | apply nbl_al | apply nbl_drw)⟩

set_option maxRecDepth 100000 in
set_option maxHeartbeats 1000000 in
theorem valid_dots  (w : World)  :
    Calls Tryz.prog 270 #[.slice none 0 0] w fun e w' => e = .returned (.bool true) ∧ Below w.heap.size w w' := by
  have HB := Lib.hid (Below.refl w.heap.size w)
  go_enter Tryz.func270, Tryz.ntmps270
  go_wp2_with fail
  refine (containsFunc_dot _ _).mono ?_
  rintro e w1 ⟨rfl, hb⟩
  replace HB := Lib.hid (show Below w.heap.size w w1 by have h := hb; repeat (first | exact nbl_step HB.out h | replace h := nbl_new h | replace h := nbl_dr h))
  clear hb
  go_wp2
  go_ret
  exact ⟨rfl, by repeat (first | exact HB.out | apply nbl_al | apply nbl_drw)⟩

set_option maxRecDepth 100000 in
set_option maxHeartbeats 1000000 in
theorem insertion_dot (fv : Value) (w : World)  :
    Calls Tryz.prog 326 #[.slice none 0 0, .int .i64 0, .int .i64 0, fv] w fun e w' => e = .returned (.tuple #[]) ∧ Below w.heap.size w w' := by
  have HB := Lib.hid (Below.refl w.heap.size w)
  go_enter Tryz.func326, Tryz.ntmps326
  go_wp2_with fail
  refine wp_loop_rounds 1 ?_
  rw [rounds_succ]
  go_wp2
  go_end0
  exact ⟨rfl, by repeat (first | exact HB.out | apply nbl_al | apply nbl_drw)⟩

end Go.Proofs.YtmocoiamhphhnaaGreatDoor

