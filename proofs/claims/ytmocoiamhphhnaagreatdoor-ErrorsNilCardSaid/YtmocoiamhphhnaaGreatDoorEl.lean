/- The first row that holds (printed by wip/genEl.py). -/
import Derived.Test.YtmocoiamhphhnaaGreatDoorEk
import Derived.Laws.EntriesVeiled
namespace Go.Proofs.YtmocoiamhphhnaaGreatDoor
set_option linter.unusedVariables false
set_option linter.unusedSimpArgs false
open Go.RowKit Go.MapKept

set_option maxRecDepth 100000 in
set_option maxHeartbeats 1000000 in
theorem take_first_0 (pr : Nat) (p p1 p2 : Nat) (w : World) (hr : HeapIs w pr (.cells #[.int .i64 2, .func (.func 21) #[] #[.pointer (some ⟨p, 0, none⟩)], .int .i64 16, .func (.func 23) #[] #[.pointer (some ⟨p1, 0, none⟩), .pointer (some ⟨p2, 0, none⟩)], .int .i64 2, .func (.func 24) #[] #[.pointer (some ⟨p, 0, none⟩)], .int .i64 2, .func (.func 27) #[] #[.pointer (some ⟨p, 0, none⟩)], .int .i64 2, .func (.func 28) #[] #[.pointer (some ⟨p, 0, none⟩)], .int .i64 14, .func (.func 30) #[] #[.pointer (some ⟨p, 0, none⟩)], .int .i64 12, .func (.func 32) #[] #[.pointer (some ⟨p, 0, none⟩)]] 60 (0, 0))) (h0 : ∀ W, Below w.heap.size w W → Calls Tryz.prog 21 #[.pointer (some ⟨p, 0, none⟩)] W fun e w' => e = .returned (.bool true) ∧ Below W.heap.size W w') :
    Calls Tryz.prog 20 #[.slice (some ⟨pr, 0, none⟩) 7 7] w fun e w' => e = .returned (.int .i64 2) ∧ Below w.heap.size w w' := by
  have HR := Lib.hid hr
  clear hr
  have H0 := Lib.hid h0
  clear h0
  have HB := Lib.hid (Below.refl w.heap.size w)
  go_enter Tryz.func20, Tryz.ntmps20
  have y0 : HeapIs w pr (.cells #[.int .i64 2, .func (.func 21) #[] #[.pointer (some ⟨p, 0, none⟩)], .int .i64 16, .func (.func 23) #[] #[.pointer (some ⟨p1, 0, none⟩), .pointer (some ⟨p2, 0, none⟩)], .int .i64 2, .func (.func 24) #[] #[.pointer (some ⟨p, 0, none⟩)], .int .i64 2, .func (.func 27) #[] #[.pointer (some ⟨p, 0, none⟩)], .int .i64 2, .func (.func 28) #[] #[.pointer (some ⟨p, 0, none⟩)], .int .i64 14, .func (.func 30) #[] #[.pointer (some ⟨p, 0, none⟩)], .int .i64 12, .func (.func 32) #[] #[.pointer (some ⟨p, 0, none⟩)]] 60 (0, 0)) := HR.out
  have y0r0 := y0.cell (j := 0) (v := .int .i64 2) rfl
  have y0r1 := y0.cell (j := 1) (v := .func (.func 21) #[] #[.pointer (some ⟨p, 0, none⟩)]) rfl
  clear y0
  go_wp2_with fail
  refine wp_loop_rounds 1 ?_
  rw [rounds_succ]
  go_wp2_with fail
  refine (H0.out _ (nbl_al HB.out)).mono ?_
  rintro e w1 ⟨rfl, hb⟩
  replace HB := Lib.hid (show Below w.heap.size w w1 by have h := hb; repeat (first | exact nbl_step HB.out h | replace h := nbl_new h | replace h := nbl_dr h))
  have z0 : HeapIs w1 (w.heap.size) (.cells #[.int .i64 2, .func (.func 21) #[] #[.pointer (some ⟨p, 0, none⟩)]] 60 (0, 0)) := (HeapIs.new _ _).below hb
  have z0r0 := z0.cell (j := 0) (v := .int .i64 2) rfl
  clear z0
  have y1 : HeapIs w1 pr (.cells #[.int .i64 2, .func (.func 21) #[] #[.pointer (some ⟨p, 0, none⟩)], .int .i64 16, .func (.func 23) #[] #[.pointer (some ⟨p1, 0, none⟩), .pointer (some ⟨p2, 0, none⟩)], .int .i64 2, .func (.func 24) #[] #[.pointer (some ⟨p, 0, none⟩)], .int .i64 2, .func (.func 27) #[] #[.pointer (some ⟨p, 0, none⟩)], .int .i64 2, .func (.func 28) #[] #[.pointer (some ⟨p, 0, none⟩)], .int .i64 14, .func (.func 30) #[] #[.pointer (some ⟨p, 0, none⟩)], .int .i64 12, .func (.func 32) #[] #[.pointer (some ⟨p, 0, none⟩)]] 60 (0, 0)) := HR.out.below HB.out
  have y1r0 := y1.cell (j := 2) (v := .int .i64 16) rfl
  have y1r1 := y1.cell (j := 3) (v := .func (.func 23) #[] #[.pointer (some ⟨p1, 0, none⟩), .pointer (some ⟨p2, 0, none⟩)]) rfl
  clear y1
  clear hb
  go_wp2
  go_ret
  exact ⟨rfl, by repeat (first | exact HB.out | apply nbl_al | apply nbl_drw | refine Below.setCell ?_ (Nat.le_refl _) _ | refine nbl_set ?_ (by first | exact Nat.le_refl _ | (simp; omega) | (simp; done) | omega) )⟩

set_option maxRecDepth 100000 in
set_option maxHeartbeats 1000000 in
theorem take_first_1 (pr : Nat) (p p1 p2 : Nat) (w : World) (hr : HeapIs w pr (.cells #[.int .i64 2, .func (.func 21) #[] #[.pointer (some ⟨p, 0, none⟩)], .int .i64 16, .func (.func 23) #[] #[.pointer (some ⟨p1, 0, none⟩), .pointer (some ⟨p2, 0, none⟩)], .int .i64 2, .func (.func 24) #[] #[.pointer (some ⟨p, 0, none⟩)], .int .i64 2, .func (.func 27) #[] #[.pointer (some ⟨p, 0, none⟩)], .int .i64 2, .func (.func 28) #[] #[.pointer (some ⟨p, 0, none⟩)], .int .i64 14, .func (.func 30) #[] #[.pointer (some ⟨p, 0, none⟩)], .int .i64 12, .func (.func 32) #[] #[.pointer (some ⟨p, 0, none⟩)]] 60 (0, 0))) (h0 : ∀ W, Below w.heap.size w W → Calls Tryz.prog 21 #[.pointer (some ⟨p, 0, none⟩)] W fun e w' => e = .returned (.bool false) ∧ Below W.heap.size W w') (h1 : ∀ W, Below w.heap.size w W → Calls Tryz.prog 23 #[.pointer (some ⟨p1, 0, none⟩), .pointer (some ⟨p2, 0, none⟩)] W fun e w' => e = .returned (.bool true) ∧ Below W.heap.size W w') :
    Calls Tryz.prog 20 #[.slice (some ⟨pr, 0, none⟩) 7 7] w fun e w' => e = .returned (.int .i64 16) ∧ Below w.heap.size w w' := by
  have HR := Lib.hid hr
  clear hr
  have H0 := Lib.hid h0
  clear h0
  have H1 := Lib.hid h1
  clear h1
  have HB := Lib.hid (Below.refl w.heap.size w)
  go_enter Tryz.func20, Tryz.ntmps20
  have y0 : HeapIs w pr (.cells #[.int .i64 2, .func (.func 21) #[] #[.pointer (some ⟨p, 0, none⟩)], .int .i64 16, .func (.func 23) #[] #[.pointer (some ⟨p1, 0, none⟩), .pointer (some ⟨p2, 0, none⟩)], .int .i64 2, .func (.func 24) #[] #[.pointer (some ⟨p, 0, none⟩)], .int .i64 2, .func (.func 27) #[] #[.pointer (some ⟨p, 0, none⟩)], .int .i64 2, .func (.func 28) #[] #[.pointer (some ⟨p, 0, none⟩)], .int .i64 14, .func (.func 30) #[] #[.pointer (some ⟨p, 0, none⟩)], .int .i64 12, .func (.func 32) #[] #[.pointer (some ⟨p, 0, none⟩)]] 60 (0, 0)) := HR.out
  have y0r0 := y0.cell (j := 0) (v := .int .i64 2) rfl
  have y0r1 := y0.cell (j := 1) (v := .func (.func 21) #[] #[.pointer (some ⟨p, 0, none⟩)]) rfl
  clear y0
  go_wp2_with fail
  refine wp_loop_rounds 2 ?_
  rw [rounds_succ]
  go_wp2_with fail
  refine (H0.out _ (nbl_al HB.out)).mono ?_
  rintro e w1 ⟨rfl, hb⟩
  replace HB := Lib.hid (show Below w.heap.size w w1 by have h := hb; repeat (first | exact nbl_step HB.out h | replace h := nbl_new h | replace h := nbl_dr h))
  have z0 : HeapIs w1 (w.heap.size) (.cells #[.int .i64 2, .func (.func 21) #[] #[.pointer (some ⟨p, 0, none⟩)]] 60 (0, 0)) := (HeapIs.new _ _).below hb
  have z0r0 := z0.cell (j := 0) (v := .int .i64 2) rfl
  clear z0
  have y1 : HeapIs w1 pr (.cells #[.int .i64 2, .func (.func 21) #[] #[.pointer (some ⟨p, 0, none⟩)], .int .i64 16, .func (.func 23) #[] #[.pointer (some ⟨p1, 0, none⟩), .pointer (some ⟨p2, 0, none⟩)], .int .i64 2, .func (.func 24) #[] #[.pointer (some ⟨p, 0, none⟩)], .int .i64 2, .func (.func 27) #[] #[.pointer (some ⟨p, 0, none⟩)], .int .i64 2, .func (.func 28) #[] #[.pointer (some ⟨p, 0, none⟩)], .int .i64 14, .func (.func 30) #[] #[.pointer (some ⟨p, 0, none⟩)], .int .i64 12, .func (.func 32) #[] #[.pointer (some ⟨p, 0, none⟩)]] 60 (0, 0)) := HR.out.below HB.out
  have y1r0 := y1.cell (j := 2) (v := .int .i64 16) rfl
  have y1r1 := y1.cell (j := 3) (v := .func (.func 23) #[] #[.pointer (some ⟨p1, 0, none⟩), .pointer (some ⟨p2, 0, none⟩)]) rfl
  clear y1
  clear hb
  go_wp2_with fail
  rw [rounds_succ]
  go_wp2_with fail
  refine (H1.out _ (nbl_al HB.out)).mono ?_
  rintro e w2 ⟨rfl, hb⟩
  replace HB := Lib.hid (show Below w.heap.size w w2 by have h := hb; repeat (first | exact nbl_step HB.out h | replace h := nbl_new h | replace h := nbl_dr h))
  have z1 : HeapIs w2 (w1.heap.size) (.cells #[.int .i64 16, .func (.func 23) #[] #[.pointer (some ⟨p1, 0, none⟩), .pointer (some ⟨p2, 0, none⟩)]] 60 (0, 0)) := (HeapIs.new _ _).below hb
  have z1r0 := z1.cell (j := 0) (v := .int .i64 16) rfl
  clear z1
  have y2 : HeapIs w2 pr (.cells #[.int .i64 2, .func (.func 21) #[] #[.pointer (some ⟨p, 0, none⟩)], .int .i64 16, .func (.func 23) #[] #[.pointer (some ⟨p1, 0, none⟩), .pointer (some ⟨p2, 0, none⟩)], .int .i64 2, .func (.func 24) #[] #[.pointer (some ⟨p, 0, none⟩)], .int .i64 2, .func (.func 27) #[] #[.pointer (some ⟨p, 0, none⟩)], .int .i64 2, .func (.func 28) #[] #[.pointer (some ⟨p, 0, none⟩)], .int .i64 14, .func (.func 30) #[] #[.pointer (some ⟨p, 0, none⟩)], .int .i64 12, .func (.func 32) #[] #[.pointer (some ⟨p, 0, none⟩)]] 60 (0, 0)) := HR.out.below HB.out
  have y2r0 := y2.cell (j := 4) (v := .int .i64 2) rfl
  have y2r1 := y2.cell (j := 5) (v := .func (.func 24) #[] #[.pointer (some ⟨p, 0, none⟩)]) rfl
  clear y2
  clear hb
  go_wp2
  go_ret
  exact ⟨rfl, by repeat (first | exact HB.out | apply nbl_al | apply nbl_drw | refine Below.setCell ?_ (Nat.le_refl _) _ | refine nbl_set ?_ (by first | exact Nat.le_refl _ | (simp; omega) | (simp; done) | omega) )⟩

set_option maxRecDepth 100000 in
set_option maxHeartbeats 1000000 in
theorem take_first_2 (pr : Nat) (p p1 p2 : Nat) (w : World) (hr : HeapIs w pr (.cells #[.int .i64 2, .func (.func 21) #[] #[.pointer (some ⟨p, 0, none⟩)], .int .i64 16, .func (.func 23) #[] #[.pointer (some ⟨p1, 0, none⟩), .pointer (some ⟨p2, 0, none⟩)], .int .i64 2, .func (.func 24) #[] #[.pointer (some ⟨p, 0, none⟩)], .int .i64 2, .func (.func 27) #[] #[.pointer (some ⟨p, 0, none⟩)], .int .i64 2, .func (.func 28) #[] #[.pointer (some ⟨p, 0, none⟩)], .int .i64 14, .func (.func 30) #[] #[.pointer (some ⟨p, 0, none⟩)], .int .i64 12, .func (.func 32) #[] #[.pointer (some ⟨p, 0, none⟩)]] 60 (0, 0))) (h0 : ∀ W, Below w.heap.size w W → Calls Tryz.prog 21 #[.pointer (some ⟨p, 0, none⟩)] W fun e w' => e = .returned (.bool false) ∧ Below W.heap.size W w') (h1 : ∀ W, Below w.heap.size w W → Calls Tryz.prog 23 #[.pointer (some ⟨p1, 0, none⟩), .pointer (some ⟨p2, 0, none⟩)] W fun e w' => e = .returned (.bool false) ∧ Below W.heap.size W w') (h2 : ∀ W, Below w.heap.size w W → Calls Tryz.prog 24 #[.pointer (some ⟨p, 0, none⟩)] W fun e w' => e = .returned (.bool true) ∧ Below W.heap.size W w') :
    Calls Tryz.prog 20 #[.slice (some ⟨pr, 0, none⟩) 7 7] w fun e w' => e = .returned (.int .i64 2) ∧ Below w.heap.size w w' := by
  have HR := Lib.hid hr
  clear hr
  have H0 := Lib.hid h0
  clear h0
  have H1 := Lib.hid h1
  clear h1
  have H2 := Lib.hid h2
  clear h2
  have HB := Lib.hid (Below.refl w.heap.size w)
  go_enter Tryz.func20, Tryz.ntmps20
  have y0 : HeapIs w pr (.cells #[.int .i64 2, .func (.func 21) #[] #[.pointer (some ⟨p, 0, none⟩)], .int .i64 16, .func (.func 23) #[] #[.pointer (some ⟨p1, 0, none⟩), .pointer (some ⟨p2, 0, none⟩)], .int .i64 2, .func (.func 24) #[] #[.pointer (some ⟨p, 0, none⟩)], .int .i64 2, .func (.func 27) #[] #[.pointer (some ⟨p, 0, none⟩)], .int .i64 2, .func (.func 28) #[] #[.pointer (some ⟨p, 0, none⟩)], .int .i64 14, .func (.func 30) #[] #[.pointer (some ⟨p, 0, none⟩)], .int .i64 12, .func (.func 32) #[] #[.pointer (some ⟨p, 0, none⟩)]] 60 (0, 0)) := HR.out
  have y0r0 := y0.cell (j := 0) (v := .int .i64 2) rfl
  have y0r1 := y0.cell (j := 1) (v := .func (.func 21) #[] #[.pointer (some ⟨p, 0, none⟩)]) rfl
  clear y0
  go_wp2_with fail
  refine wp_loop_rounds 3 ?_
  rw [rounds_succ]
  go_wp2_with fail
  refine (H0.out _ (nbl_al HB.out)).mono ?_
  rintro e w1 ⟨rfl, hb⟩
  replace HB := Lib.hid (show Below w.heap.size w w1 by have h := hb; repeat (first | exact nbl_step HB.out h | replace h := nbl_new h | replace h := nbl_dr h))
  have z0 : HeapIs w1 (w.heap.size) (.cells #[.int .i64 2, .func (.func 21) #[] #[.pointer (some ⟨p, 0, none⟩)]] 60 (0, 0)) := (HeapIs.new _ _).below hb
  have z0r0 := z0.cell (j := 0) (v := .int .i64 2) rfl
  clear z0
  have y1 : HeapIs w1 pr (.cells #[.int .i64 2, .func (.func 21) #[] #[.pointer (some ⟨p, 0, none⟩)], .int .i64 16, .func (.func 23) #[] #[.pointer (some ⟨p1, 0, none⟩), .pointer (some ⟨p2, 0, none⟩)], .int .i64 2, .func (.func 24) #[] #[.pointer (some ⟨p, 0, none⟩)], .int .i64 2, .func (.func 27) #[] #[.pointer (some ⟨p, 0, none⟩)], .int .i64 2, .func (.func 28) #[] #[.pointer (some ⟨p, 0, none⟩)], .int .i64 14, .func (.func 30) #[] #[.pointer (some ⟨p, 0, none⟩)], .int .i64 12, .func (.func 32) #[] #[.pointer (some ⟨p, 0, none⟩)]] 60 (0, 0)) := HR.out.below HB.out
  have y1r0 := y1.cell (j := 2) (v := .int .i64 16) rfl
  have y1r1 := y1.cell (j := 3) (v := .func (.func 23) #[] #[.pointer (some ⟨p1, 0, none⟩), .pointer (some ⟨p2, 0, none⟩)]) rfl
  clear y1
  clear hb
  go_wp2_with fail
  rw [rounds_succ]
  go_wp2_with fail
  refine (H1.out _ (nbl_al HB.out)).mono ?_
  rintro e w2 ⟨rfl, hb⟩
  replace HB := Lib.hid (show Below w.heap.size w w2 by have h := hb; repeat (first | exact nbl_step HB.out h | replace h := nbl_new h | replace h := nbl_dr h))
  have z1 : HeapIs w2 (w1.heap.size) (.cells #[.int .i64 16, .func (.func 23) #[] #[.pointer (some ⟨p1, 0, none⟩), .pointer (some ⟨p2, 0, none⟩)]] 60 (0, 0)) := (HeapIs.new _ _).below hb
  have z1r0 := z1.cell (j := 0) (v := .int .i64 16) rfl
  clear z1
  have y2 : HeapIs w2 pr (.cells #[.int .i64 2, .func (.func 21) #[] #[.pointer (some ⟨p, 0, none⟩)], .int .i64 16, .func (.func 23) #[] #[.pointer (some ⟨p1, 0, none⟩), .pointer (some ⟨p2, 0, none⟩)], .int .i64 2, .func (.func 24) #[] #[.pointer (some ⟨p, 0, none⟩)], .int .i64 2, .func (.func 27) #[] #[.pointer (some ⟨p, 0, none⟩)], .int .i64 2, .func (.func 28) #[] #[.pointer (some ⟨p, 0, none⟩)], .int .i64 14, .func (.func 30) #[] #[.pointer (some ⟨p, 0, none⟩)], .int .i64 12, .func (.func 32) #[] #[.pointer (some ⟨p, 0, none⟩)]] 60 (0, 0)) := HR.out.below HB.out
  have y2r0 := y2.cell (j := 4) (v := .int .i64 2) rfl
  have y2r1 := y2.cell (j := 5) (v := .func (.func 24) #[] #[.pointer (some ⟨p, 0, none⟩)]) rfl
  clear y2
  clear hb
  go_wp2_with fail
  rw [rounds_succ]
  go_wp2_with fail
  refine (H2.out _ (nbl_al HB.out)).mono ?_
  rintro e w3 ⟨rfl, hb⟩
  replace HB := Lib.hid (show Below w.heap.size w w3 by have h := hb; repeat (first | exact nbl_step HB.out h | replace h := nbl_new h | replace h := nbl_dr h))
  have z2 : HeapIs w3 (w2.heap.size) (.cells #[.int .i64 2, .func (.func 24) #[] #[.pointer (some ⟨p, 0, none⟩)]] 60 (0, 0)) := (HeapIs.new _ _).below hb
  have z2r0 := z2.cell (j := 0) (v := .int .i64 2) rfl
  clear z2
  have y3 : HeapIs w3 pr (.cells #[.int .i64 2, .func (.func 21) #[] #[.pointer (some ⟨p, 0, none⟩)], .int .i64 16, .func (.func 23) #[] #[.pointer (some ⟨p1, 0, none⟩), .pointer (some ⟨p2, 0, none⟩)], .int .i64 2, .func (.func 24) #[] #[.pointer (some ⟨p, 0, none⟩)], .int .i64 2, .func (.func 27) #[] #[.pointer (some ⟨p, 0, none⟩)], .int .i64 2, .func (.func 28) #[] #[.pointer (some ⟨p, 0, none⟩)], .int .i64 14, .func (.func 30) #[] #[.pointer (some ⟨p, 0, none⟩)], .int .i64 12, .func (.func 32) #[] #[.pointer (some ⟨p, 0, none⟩)]] 60 (0, 0)) := HR.out.below HB.out
  have y3r0 := y3.cell (j := 6) (v := .int .i64 2) rfl
  have y3r1 := y3.cell (j := 7) (v := .func (.func 27) #[] #[.pointer (some ⟨p, 0, none⟩)]) rfl
  clear y3
  clear hb
  go_wp2
  go_ret
  exact ⟨rfl, by repeat (first | exact HB.out | apply nbl_al | apply nbl_drw | refine Below.setCell ?_ (Nat.le_refl _) _ | refine nbl_set ?_ (by first | exact Nat.le_refl _ | (simp; omega) | (simp; done) | omega) )⟩

set_option maxRecDepth 100000 in
set_option maxHeartbeats 1000000 in
theorem take_first_3 (pr : Nat) (p p1 p2 : Nat) (w : World) (hr : HeapIs w pr (.cells #[.int .i64 2, .func (.func 21) #[] #[.pointer (some ⟨p, 0, none⟩)], .int .i64 16, .func (.func 23) #[] #[.pointer (some ⟨p1, 0, none⟩), .pointer (some ⟨p2, 0, none⟩)], .int .i64 2, .func (.func 24) #[] #[.pointer (some ⟨p, 0, none⟩)], .int .i64 2, .func (.func 27) #[] #[.pointer (some ⟨p, 0, none⟩)], .int .i64 2, .func (.func 28) #[] #[.pointer (some ⟨p, 0, none⟩)], .int .i64 14, .func (.func 30) #[] #[.pointer (some ⟨p, 0, none⟩)], .int .i64 12, .func (.func 32) #[] #[.pointer (some ⟨p, 0, none⟩)]] 60 (0, 0))) (h0 : ∀ W, Below w.heap.size w W → Calls Tryz.prog 21 #[.pointer (some ⟨p, 0, none⟩)] W fun e w' => e = .returned (.bool false) ∧ Below W.heap.size W w') (h1 : ∀ W, Below w.heap.size w W → Calls Tryz.prog 23 #[.pointer (some ⟨p1, 0, none⟩), .pointer (some ⟨p2, 0, none⟩)] W fun e w' => e = .returned (.bool false) ∧ Below W.heap.size W w') (h2 : ∀ W, Below w.heap.size w W → Calls Tryz.prog 24 #[.pointer (some ⟨p, 0, none⟩)] W fun e w' => e = .returned (.bool false) ∧ Below W.heap.size W w') (h3 : ∀ W, Below w.heap.size w W → Calls Tryz.prog 27 #[.pointer (some ⟨p, 0, none⟩)] W fun e w' => e = .returned (.bool true) ∧ Below W.heap.size W w') :
    Calls Tryz.prog 20 #[.slice (some ⟨pr, 0, none⟩) 7 7] w fun e w' => e = .returned (.int .i64 2) ∧ Below w.heap.size w w' := by
  have HR := Lib.hid hr
  clear hr
  have H0 := Lib.hid h0
  clear h0
  have H1 := Lib.hid h1
  clear h1
  have H2 := Lib.hid h2
  clear h2
  have H3 := Lib.hid h3
  clear h3
  have HB := Lib.hid (Below.refl w.heap.size w)
  go_enter Tryz.func20, Tryz.ntmps20
  have y0 : HeapIs w pr (.cells #[.int .i64 2, .func (.func 21) #[] #[.pointer (some ⟨p, 0, none⟩)], .int .i64 16, .func (.func 23) #[] #[.pointer (some ⟨p1, 0, none⟩), .pointer (some ⟨p2, 0, none⟩)], .int .i64 2, .func (.func 24) #[] #[.pointer (some ⟨p, 0, none⟩)], .int .i64 2, .func (.func 27) #[] #[.pointer (some ⟨p, 0, none⟩)], .int .i64 2, .func (.func 28) #[] #[.pointer (some ⟨p, 0, none⟩)], .int .i64 14, .func (.func 30) #[] #[.pointer (some ⟨p, 0, none⟩)], .int .i64 12, .func (.func 32) #[] #[.pointer (some ⟨p, 0, none⟩)]] 60 (0, 0)) := HR.out
  have y0r0 := y0.cell (j := 0) (v := .int .i64 2) rfl
  have y0r1 := y0.cell (j := 1) (v := .func (.func 21) #[] #[.pointer (some ⟨p, 0, none⟩)]) rfl
  clear y0
  go_wp2_with fail
  refine wp_loop_rounds 4 ?_
  rw [rounds_succ]
  go_wp2_with fail
  refine (H0.out _ (nbl_al HB.out)).mono ?_
  rintro e w1 ⟨rfl, hb⟩
  replace HB := Lib.hid (show Below w.heap.size w w1 by have h := hb; repeat (first | exact nbl_step HB.out h | replace h := nbl_new h | replace h := nbl_dr h))
  have z0 : HeapIs w1 (w.heap.size) (.cells #[.int .i64 2, .func (.func 21) #[] #[.pointer (some ⟨p, 0, none⟩)]] 60 (0, 0)) := (HeapIs.new _ _).below hb
  have z0r0 := z0.cell (j := 0) (v := .int .i64 2) rfl
  clear z0
  have y1 : HeapIs w1 pr (.cells #[.int .i64 2, .func (.func 21) #[] #[.pointer (some ⟨p, 0, none⟩)], .int .i64 16, .func (.func 23) #[] #[.pointer (some ⟨p1, 0, none⟩), .pointer (some ⟨p2, 0, none⟩)], .int .i64 2, .func (.func 24) #[] #[.pointer (some ⟨p, 0, none⟩)], .int .i64 2, .func (.func 27) #[] #[.pointer (some ⟨p, 0, none⟩)], .int .i64 2, .func (.func 28) #[] #[.pointer (some ⟨p, 0, none⟩)], .int .i64 14, .func (.func 30) #[] #[.pointer (some ⟨p, 0, none⟩)], .int .i64 12, .func (.func 32) #[] #[.pointer (some ⟨p, 0, none⟩)]] 60 (0, 0)) := HR.out.below HB.out
  have y1r0 := y1.cell (j := 2) (v := .int .i64 16) rfl
  have y1r1 := y1.cell (j := 3) (v := .func (.func 23) #[] #[.pointer (some ⟨p1, 0, none⟩), .pointer (some ⟨p2, 0, none⟩)]) rfl
  clear y1
  clear hb
  go_wp2_with fail
  rw [rounds_succ]
  go_wp2_with fail
  refine (H1.out _ (nbl_al HB.out)).mono ?_
  rintro e w2 ⟨rfl, hb⟩
  replace HB := Lib.hid (show Below w.heap.size w w2 by have h := hb; repeat (first | exact nbl_step HB.out h | replace h := nbl_new h | replace h := nbl_dr h))
  have z1 : HeapIs w2 (w1.heap.size) (.cells #[.int .i64 16, .func (.func 23) #[] #[.pointer (some ⟨p1, 0, none⟩), .pointer (some ⟨p2, 0, none⟩)]] 60 (0, 0)) := (HeapIs.new _ _).below hb
  have z1r0 := z1.cell (j := 0) (v := .int .i64 16) rfl
  clear z1
  have y2 : HeapIs w2 pr (.cells #[.int .i64 2, .func (.func 21) #[] #[.pointer (some ⟨p, 0, none⟩)], .int .i64 16, .func (.func 23) #[] #[.pointer (some ⟨p1, 0, none⟩), .pointer (some ⟨p2, 0, none⟩)], .int .i64 2, .func (.func 24) #[] #[.pointer (some ⟨p, 0, none⟩)], .int .i64 2, .func (.func 27) #[] #[.pointer (some ⟨p, 0, none⟩)], .int .i64 2, .func (.func 28) #[] #[.pointer (some ⟨p, 0, none⟩)], .int .i64 14, .func (.func 30) #[] #[.pointer (some ⟨p, 0, none⟩)], .int .i64 12, .func (.func 32) #[] #[.pointer (some ⟨p, 0, none⟩)]] 60 (0, 0)) := HR.out.below HB.out
  have y2r0 := y2.cell (j := 4) (v := .int .i64 2) rfl
  have y2r1 := y2.cell (j := 5) (v := .func (.func 24) #[] #[.pointer (some ⟨p, 0, none⟩)]) rfl
  clear y2
  clear hb
  go_wp2_with fail
  rw [rounds_succ]
  go_wp2_with fail
  refine (H2.out _ (nbl_al HB.out)).mono ?_
  rintro e w3 ⟨rfl, hb⟩
  replace HB := Lib.hid (show Below w.heap.size w w3 by have h := hb; repeat (first | exact nbl_step HB.out h | replace h := nbl_new h | replace h := nbl_dr h))
  have z2 : HeapIs w3 (w2.heap.size) (.cells #[.int .i64 2, .func (.func 24) #[] #[.pointer (some ⟨p, 0, none⟩)]] 60 (0, 0)) := (HeapIs.new _ _).below hb
  have z2r0 := z2.cell (j := 0) (v := .int .i64 2) rfl
  clear z2
  have y3 : HeapIs w3 pr (.cells #[.int .i64 2, .func (.func 21) #[] #[.pointer (some ⟨p, 0, none⟩)], .int .i64 16, .func (.func 23) #[] #[.pointer (some ⟨p1, 0, none⟩), .pointer (some ⟨p2, 0, none⟩)], .int .i64 2, .func (.func 24) #[] #[.pointer (some ⟨p, 0, none⟩)], .int .i64 2, .func (.func 27) #[] #[.pointer (some ⟨p, 0, none⟩)], .int .i64 2, .func (.func 28) #[] #[.pointer (some ⟨p, 0, none⟩)], .int .i64 14, .func (.func 30) #[] #[.pointer (some ⟨p, 0, none⟩)], .int .i64 12, .func (.func 32) #[] #[.pointer (some ⟨p, 0, none⟩)]] 60 (0, 0)) := HR.out.below HB.out
  have y3r0 := y3.cell (j := 6) (v := .int .i64 2) rfl
  have y3r1 := y3.cell (j := 7) (v := .func (.func 27) #[] #[.pointer (some ⟨p, 0, none⟩)]) rfl
  clear y3
  clear hb
  go_wp2_with fail
  rw [rounds_succ]
  go_wp2_with fail
  refine (H3.out _ (nbl_al HB.out)).mono ?_
  rintro e w4 ⟨rfl, hb⟩
  replace HB := Lib.hid (show Below w.heap.size w w4 by have h := hb; repeat (first | exact nbl_step HB.out h | replace h := nbl_new h | replace h := nbl_dr h))
  have z3 : HeapIs w4 (w3.heap.size) (.cells #[.int .i64 2, .func (.func 27) #[] #[.pointer (some ⟨p, 0, none⟩)]] 60 (0, 0)) := (HeapIs.new _ _).below hb
  have z3r0 := z3.cell (j := 0) (v := .int .i64 2) rfl
  clear z3
  have y4 : HeapIs w4 pr (.cells #[.int .i64 2, .func (.func 21) #[] #[.pointer (some ⟨p, 0, none⟩)], .int .i64 16, .func (.func 23) #[] #[.pointer (some ⟨p1, 0, none⟩), .pointer (some ⟨p2, 0, none⟩)], .int .i64 2, .func (.func 24) #[] #[.pointer (some ⟨p, 0, none⟩)], .int .i64 2, .func (.func 27) #[] #[.pointer (some ⟨p, 0, none⟩)], .int .i64 2, .func (.func 28) #[] #[.pointer (some ⟨p, 0, none⟩)], .int .i64 14, .func (.func 30) #[] #[.pointer (some ⟨p, 0, none⟩)], .int .i64 12, .func (.func 32) #[] #[.pointer (some ⟨p, 0, none⟩)]] 60 (0, 0)) := HR.out.below HB.out
  have y4r0 := y4.cell (j := 8) (v := .int .i64 2) rfl
  have y4r1 := y4.cell (j := 9) (v := .func (.func 28) #[] #[.pointer (some ⟨p, 0, none⟩)]) rfl
  clear y4
  clear hb
  go_wp2
  go_ret
  exact ⟨rfl, by repeat (first | exact HB.out | apply nbl_al | apply nbl_drw | refine Below.setCell ?_ (Nat.le_refl _) _ | refine nbl_set ?_ (by first | exact Nat.le_refl _ | (simp; omega) | (simp; done) | omega) )⟩

set_option maxRecDepth 100000 in
set_option maxHeartbeats 1000000 in
theorem take_first_5 (pr : Nat) (p p1 p2 : Nat) (w : World) (hr : HeapIs w pr (.cells #[.int .i64 2, .func (.func 21) #[] #[.pointer (some ⟨p, 0, none⟩)], .int .i64 16, .func (.func 23) #[] #[.pointer (some ⟨p1, 0, none⟩), .pointer (some ⟨p2, 0, none⟩)], .int .i64 2, .func (.func 24) #[] #[.pointer (some ⟨p, 0, none⟩)], .int .i64 2, .func (.func 27) #[] #[.pointer (some ⟨p, 0, none⟩)], .int .i64 2, .func (.func 28) #[] #[.pointer (some ⟨p, 0, none⟩)], .int .i64 14, .func (.func 30) #[] #[.pointer (some ⟨p, 0, none⟩)], .int .i64 12, .func (.func 32) #[] #[.pointer (some ⟨p, 0, none⟩)]] 60 (0, 0))) (h0 : ∀ W, Below w.heap.size w W → Calls Tryz.prog 21 #[.pointer (some ⟨p, 0, none⟩)] W fun e w' => e = .returned (.bool false) ∧ Below W.heap.size W w') (h1 : ∀ W, Below w.heap.size w W → Calls Tryz.prog 23 #[.pointer (some ⟨p1, 0, none⟩), .pointer (some ⟨p2, 0, none⟩)] W fun e w' => e = .returned (.bool false) ∧ Below W.heap.size W w') (h2 : ∀ W, Below w.heap.size w W → Calls Tryz.prog 24 #[.pointer (some ⟨p, 0, none⟩)] W fun e w' => e = .returned (.bool false) ∧ Below W.heap.size W w') (h3 : ∀ W, Below w.heap.size w W → Calls Tryz.prog 27 #[.pointer (some ⟨p, 0, none⟩)] W fun e w' => e = .returned (.bool false) ∧ Below W.heap.size W w') (h4 : ∀ W, Below w.heap.size w W → Calls Tryz.prog 28 #[.pointer (some ⟨p, 0, none⟩)] W fun e w' => e = .returned (.bool false) ∧ Below W.heap.size W w') (h5 : ∀ W, Below w.heap.size w W → Calls Tryz.prog 30 #[.pointer (some ⟨p, 0, none⟩)] W fun e w' => e = .returned (.bool true) ∧ Below W.heap.size W w') :
    Calls Tryz.prog 20 #[.slice (some ⟨pr, 0, none⟩) 7 7] w fun e w' => e = .returned (.int .i64 14) ∧ Below w.heap.size w w' := by
  have HR := Lib.hid hr
  clear hr
  have H0 := Lib.hid h0
  clear h0
  have H1 := Lib.hid h1
  clear h1
  have H2 := Lib.hid h2
  clear h2
  have H3 := Lib.hid h3
  clear h3
  have H4 := Lib.hid h4
  clear h4
  have H5 := Lib.hid h5
  clear h5
  have HB := Lib.hid (Below.refl w.heap.size w)
  go_enter Tryz.func20, Tryz.ntmps20
  have y0 : HeapIs w pr (.cells #[.int .i64 2, .func (.func 21) #[] #[.pointer (some ⟨p, 0, none⟩)], .int .i64 16, .func (.func 23) #[] #[.pointer (some ⟨p1, 0, none⟩), .pointer (some ⟨p2, 0, none⟩)], .int .i64 2, .func (.func 24) #[] #[.pointer (some ⟨p, 0, none⟩)], .int .i64 2, .func (.func 27) #[] #[.pointer (some ⟨p, 0, none⟩)], .int .i64 2, .func (.func 28) #[] #[.pointer (some ⟨p, 0, none⟩)], .int .i64 14, .func (.func 30) #[] #[.pointer (some ⟨p, 0, none⟩)], .int .i64 12, .func (.func 32) #[] #[.pointer (some ⟨p, 0, none⟩)]] 60 (0, 0)) := HR.out
  have y0r0 := y0.cell (j := 0) (v := .int .i64 2) rfl
  have y0r1 := y0.cell (j := 1) (v := .func (.func 21) #[] #[.pointer (some ⟨p, 0, none⟩)]) rfl
  clear y0
  go_wp2_with fail
  refine wp_loop_rounds 6 ?_
  rw [rounds_succ]
  go_wp2_with fail
  refine (H0.out _ (nbl_al HB.out)).mono ?_
  rintro e w1 ⟨rfl, hb⟩
  replace HB := Lib.hid (show Below w.heap.size w w1 by have h := hb; repeat (first | exact nbl_step HB.out h | replace h := nbl_new h | replace h := nbl_dr h))
  have z0 : HeapIs w1 (w.heap.size) (.cells #[.int .i64 2, .func (.func 21) #[] #[.pointer (some ⟨p, 0, none⟩)]] 60 (0, 0)) := (HeapIs.new _ _).below hb
  have z0r0 := z0.cell (j := 0) (v := .int .i64 2) rfl
  clear z0
  have y1 : HeapIs w1 pr (.cells #[.int .i64 2, .func (.func 21) #[] #[.pointer (some ⟨p, 0, none⟩)], .int .i64 16, .func (.func 23) #[] #[.pointer (some ⟨p1, 0, none⟩), .pointer (some ⟨p2, 0, none⟩)], .int .i64 2, .func (.func 24) #[] #[.pointer (some ⟨p, 0, none⟩)], .int .i64 2, .func (.func 27) #[] #[.pointer (some ⟨p, 0, none⟩)], .int .i64 2, .func (.func 28) #[] #[.pointer (some ⟨p, 0, none⟩)], .int .i64 14, .func (.func 30) #[] #[.pointer (some ⟨p, 0, none⟩)], .int .i64 12, .func (.func 32) #[] #[.pointer (some ⟨p, 0, none⟩)]] 60 (0, 0)) := HR.out.below HB.out
  have y1r0 := y1.cell (j := 2) (v := .int .i64 16) rfl
  have y1r1 := y1.cell (j := 3) (v := .func (.func 23) #[] #[.pointer (some ⟨p1, 0, none⟩), .pointer (some ⟨p2, 0, none⟩)]) rfl
  clear y1
  clear hb
  go_wp2_with fail
  rw [rounds_succ]
  go_wp2_with fail
  refine (H1.out _ (nbl_al HB.out)).mono ?_
  rintro e w2 ⟨rfl, hb⟩
  replace HB := Lib.hid (show Below w.heap.size w w2 by have h := hb; repeat (first | exact nbl_step HB.out h | replace h := nbl_new h | replace h := nbl_dr h))
  have z1 : HeapIs w2 (w1.heap.size) (.cells #[.int .i64 16, .func (.func 23) #[] #[.pointer (some ⟨p1, 0, none⟩), .pointer (some ⟨p2, 0, none⟩)]] 60 (0, 0)) := (HeapIs.new _ _).below hb
  have z1r0 := z1.cell (j := 0) (v := .int .i64 16) rfl
  clear z1
  have y2 : HeapIs w2 pr (.cells #[.int .i64 2, .func (.func 21) #[] #[.pointer (some ⟨p, 0, none⟩)], .int .i64 16, .func (.func 23) #[] #[.pointer (some ⟨p1, 0, none⟩), .pointer (some ⟨p2, 0, none⟩)], .int .i64 2, .func (.func 24) #[] #[.pointer (some ⟨p, 0, none⟩)], .int .i64 2, .func (.func 27) #[] #[.pointer (some ⟨p, 0, none⟩)], .int .i64 2, .func (.func 28) #[] #[.pointer (some ⟨p, 0, none⟩)], .int .i64 14, .func (.func 30) #[] #[.pointer (some ⟨p, 0, none⟩)], .int .i64 12, .func (.func 32) #[] #[.pointer (some ⟨p, 0, none⟩)]] 60 (0, 0)) := HR.out.below HB.out
  have y2r0 := y2.cell (j := 4) (v := .int .i64 2) rfl
  have y2r1 := y2.cell (j := 5) (v := .func (.func 24) #[] #[.pointer (some ⟨p, 0, none⟩)]) rfl
  clear y2
  clear hb
  go_wp2_with fail
  rw [rounds_succ]
  go_wp2_with fail
  refine (H2.out _ (nbl_al HB.out)).mono ?_
  rintro e w3 ⟨rfl, hb⟩
  replace HB := Lib.hid (show Below w.heap.size w w3 by have h := hb; repeat (first | exact nbl_step HB.out h | replace h := nbl_new h | replace h := nbl_dr h))
  have z2 : HeapIs w3 (w2.heap.size) (.cells #[.int .i64 2, .func (.func 24) #[] #[.pointer (some ⟨p, 0, none⟩)]] 60 (0, 0)) := (HeapIs.new _ _).below hb
  have z2r0 := z2.cell (j := 0) (v := .int .i64 2) rfl
  clear z2
  have y3 : HeapIs w3 pr (.cells #[.int .i64 2, .func (.func 21) #[] #[.pointer (some ⟨p, 0, none⟩)], .int .i64 16, .func (.func 23) #[] #[.pointer (some ⟨p1, 0, none⟩), .pointer (some ⟨p2, 0, none⟩)], .int .i64 2, .func (.func 24) #[] #[.pointer (some ⟨p, 0, none⟩)], .int .i64 2, .func (.func 27) #[] #[.pointer (some ⟨p, 0, none⟩)], .int .i64 2, .func (.func 28) #[] #[.pointer (some ⟨p, 0, none⟩)], .int .i64 14, .func (.func 30) #[] #[.pointer (some ⟨p, 0, none⟩)], .int .i64 12, .func (.func 32) #[] #[.pointer (some ⟨p, 0, none⟩)]] 60 (0, 0)) := HR.out.below HB.out
  have y3r0 := y3.cell (j := 6) (v := .int .i64 2) rfl
  have y3r1 := y3.cell (j := 7) (v := .func (.func 27) #[] #[.pointer (some ⟨p, 0, none⟩)]) rfl
  clear y3
  clear hb
  go_wp2_with fail
  rw [rounds_succ]
  go_wp2_with fail
  refine (H3.out _ (nbl_al HB.out)).mono ?_
  rintro e w4 ⟨rfl, hb⟩
  replace HB := Lib.hid (show Below w.heap.size w w4 by have h := hb; repeat (first | exact nbl_step HB.out h | replace h := nbl_new h | replace h := nbl_dr h))
  have z3 : HeapIs w4 (w3.heap.size) (.cells #[.int .i64 2, .func (.func 27) #[] #[.pointer (some ⟨p, 0, none⟩)]] 60 (0, 0)) := (HeapIs.new _ _).below hb
  have z3r0 := z3.cell (j := 0) (v := .int .i64 2) rfl
  clear z3
  have y4 : HeapIs w4 pr (.cells #[.int .i64 2, .func (.func 21) #[] #[.pointer (some ⟨p, 0, none⟩)], .int .i64 16, .func (.func 23) #[] #[.pointer (some ⟨p1, 0, none⟩), .pointer (some ⟨p2, 0, none⟩)], .int .i64 2, .func (.func 24) #[] #[.pointer (some ⟨p, 0, none⟩)], .int .i64 2, .func (.func 27) #[] #[.pointer (some ⟨p, 0, none⟩)], .int .i64 2, .func (.func 28) #[] #[.pointer (some ⟨p, 0, none⟩)], .int .i64 14, .func (.func 30) #[] #[.pointer (some ⟨p, 0, none⟩)], .int .i64 12, .func (.func 32) #[] #[.pointer (some ⟨p, 0, none⟩)]] 60 (0, 0)) := HR.out.below HB.out
  have y4r0 := y4.cell (j := 8) (v := .int .i64 2) rfl
  have y4r1 := y4.cell (j := 9) (v := .func (.func 28) #[] #[.pointer (some ⟨p, 0, none⟩)]) rfl
  clear y4
  clear hb
  go_wp2_with fail
  rw [rounds_succ]
  go_wp2_with fail
  refine (H4.out _ (nbl_al HB.out)).mono ?_
  rintro e w5 ⟨rfl, hb⟩
  replace HB := Lib.hid (show Below w.heap.size w w5 by have h := hb; repeat (first | exact nbl_step HB.out h | replace h := nbl_new h | replace h := nbl_dr h))
  have z4 : HeapIs w5 (w4.heap.size) (.cells #[.int .i64 2, .func (.func 28) #[] #[.pointer (some ⟨p, 0, none⟩)]] 60 (0, 0)) := (HeapIs.new _ _).below hb
  have z4r0 := z4.cell (j := 0) (v := .int .i64 2) rfl
  clear z4
  have y5 : HeapIs w5 pr (.cells #[.int .i64 2, .func (.func 21) #[] #[.pointer (some ⟨p, 0, none⟩)], .int .i64 16, .func (.func 23) #[] #[.pointer (some ⟨p1, 0, none⟩), .pointer (some ⟨p2, 0, none⟩)], .int .i64 2, .func (.func 24) #[] #[.pointer (some ⟨p, 0, none⟩)], .int .i64 2, .func (.func 27) #[] #[.pointer (some ⟨p, 0, none⟩)], .int .i64 2, .func (.func 28) #[] #[.pointer (some ⟨p, 0, none⟩)], .int .i64 14, .func (.func 30) #[] #[.pointer (some ⟨p, 0, none⟩)], .int .i64 12, .func (.func 32) #[] #[.pointer (some ⟨p, 0, none⟩)]] 60 (0, 0)) := HR.out.below HB.out
  have y5r0 := y5.cell (j := 10) (v := .int .i64 14) rfl
  have y5r1 := y5.cell (j := 11) (v := .func (.func 30) #[] #[.pointer (some ⟨p, 0, none⟩)]) rfl
  clear y5
  clear hb
  go_wp2_with fail
  rw [rounds_succ]
  go_wp2_with fail
  refine (H5.out _ (nbl_al HB.out)).mono ?_
  rintro e w6 ⟨rfl, hb⟩
  replace HB := Lib.hid (show Below w.heap.size w w6 by have h := hb; repeat (first | exact nbl_step HB.out h | replace h := nbl_new h | replace h := nbl_dr h))
  have z5 : HeapIs w6 (w5.heap.size) (.cells #[.int .i64 14, .func (.func 30) #[] #[.pointer (some ⟨p, 0, none⟩)]] 60 (0, 0)) := (HeapIs.new _ _).below hb
  have z5r0 := z5.cell (j := 0) (v := .int .i64 14) rfl
  clear z5
  have y6 : HeapIs w6 pr (.cells #[.int .i64 2, .func (.func 21) #[] #[.pointer (some ⟨p, 0, none⟩)], .int .i64 16, .func (.func 23) #[] #[.pointer (some ⟨p1, 0, none⟩), .pointer (some ⟨p2, 0, none⟩)], .int .i64 2, .func (.func 24) #[] #[.pointer (some ⟨p, 0, none⟩)], .int .i64 2, .func (.func 27) #[] #[.pointer (some ⟨p, 0, none⟩)], .int .i64 2, .func (.func 28) #[] #[.pointer (some ⟨p, 0, none⟩)], .int .i64 14, .func (.func 30) #[] #[.pointer (some ⟨p, 0, none⟩)], .int .i64 12, .func (.func 32) #[] #[.pointer (some ⟨p, 0, none⟩)]] 60 (0, 0)) := HR.out.below HB.out
  have y6r0 := y6.cell (j := 12) (v := .int .i64 12) rfl
  have y6r1 := y6.cell (j := 13) (v := .func (.func 32) #[] #[.pointer (some ⟨p, 0, none⟩)]) rfl
  clear y6
  clear hb
  go_wp2
  go_ret
  exact ⟨rfl, by repeat (first | exact HB.out | apply nbl_al | apply nbl_drw | refine Below.setCell ?_ (Nat.le_refl _) _ | refine nbl_set ?_ (by first | exact Nat.le_refl _ | (simp; omega) | (simp; done) | omega) )⟩

set_option maxRecDepth 100000 in
set_option maxHeartbeats 1000000 in
theorem take_first_6 (pr : Nat) (p p1 p2 : Nat) (w : World) (hr : HeapIs w pr (.cells #[.int .i64 2, .func (.func 21) #[] #[.pointer (some ⟨p, 0, none⟩)], .int .i64 16, .func (.func 23) #[] #[.pointer (some ⟨p1, 0, none⟩), .pointer (some ⟨p2, 0, none⟩)], .int .i64 2, .func (.func 24) #[] #[.pointer (some ⟨p, 0, none⟩)], .int .i64 2, .func (.func 27) #[] #[.pointer (some ⟨p, 0, none⟩)], .int .i64 2, .func (.func 28) #[] #[.pointer (some ⟨p, 0, none⟩)], .int .i64 14, .func (.func 30) #[] #[.pointer (some ⟨p, 0, none⟩)], .int .i64 12, .func (.func 32) #[] #[.pointer (some ⟨p, 0, none⟩)]] 60 (0, 0))) (h0 : ∀ W, Below w.heap.size w W → Calls Tryz.prog 21 #[.pointer (some ⟨p, 0, none⟩)] W fun e w' => e = .returned (.bool false) ∧ Below W.heap.size W w') (h1 : ∀ W, Below w.heap.size w W → Calls Tryz.prog 23 #[.pointer (some ⟨p1, 0, none⟩), .pointer (some ⟨p2, 0, none⟩)] W fun e w' => e = .returned (.bool false) ∧ Below W.heap.size W w') (h2 : ∀ W, Below w.heap.size w W → Calls Tryz.prog 24 #[.pointer (some ⟨p, 0, none⟩)] W fun e w' => e = .returned (.bool false) ∧ Below W.heap.size W w') (h3 : ∀ W, Below w.heap.size w W → Calls Tryz.prog 27 #[.pointer (some ⟨p, 0, none⟩)] W fun e w' => e = .returned (.bool false) ∧ Below W.heap.size W w') (h4 : ∀ W, Below w.heap.size w W → Calls Tryz.prog 28 #[.pointer (some ⟨p, 0, none⟩)] W fun e w' => e = .returned (.bool false) ∧ Below W.heap.size W w') (h5 : ∀ W, Below w.heap.size w W → Calls Tryz.prog 30 #[.pointer (some ⟨p, 0, none⟩)] W fun e w' => e = .returned (.bool false) ∧ Below W.heap.size W w') (h6 : ∀ W, Below w.heap.size w W → Calls Tryz.prog 32 #[.pointer (some ⟨p, 0, none⟩)] W fun e w' => e = .returned (.bool true) ∧ Below W.heap.size W w') :
    Calls Tryz.prog 20 #[.slice (some ⟨pr, 0, none⟩) 7 7] w fun e w' => e = .returned (.int .i64 12) ∧ Below w.heap.size w w' := by
  have HR := Lib.hid hr
  clear hr
  have H0 := Lib.hid h0
  clear h0
  have H1 := Lib.hid h1
  clear h1
  have H2 := Lib.hid h2
  clear h2
  have H3 := Lib.hid h3
  clear h3
  have H4 := Lib.hid h4
  clear h4
  have H5 := Lib.hid h5
  clear h5
  have H6 := Lib.hid h6
  clear h6
  have HB := Lib.hid (Below.refl w.heap.size w)
  go_enter Tryz.func20, Tryz.ntmps20
  have y0 : HeapIs w pr (.cells #[.int .i64 2, .func (.func 21) #[] #[.pointer (some ⟨p, 0, none⟩)], .int .i64 16, .func (.func 23) #[] #[.pointer (some ⟨p1, 0, none⟩), .pointer (some ⟨p2, 0, none⟩)], .int .i64 2, .func (.func 24) #[] #[.pointer (some ⟨p, 0, none⟩)], .int .i64 2, .func (.func 27) #[] #[.pointer (some ⟨p, 0, none⟩)], .int .i64 2, .func (.func 28) #[] #[.pointer (some ⟨p, 0, none⟩)], .int .i64 14, .func (.func 30) #[] #[.pointer (some ⟨p, 0, none⟩)], .int .i64 12, .func (.func 32) #[] #[.pointer (some ⟨p, 0, none⟩)]] 60 (0, 0)) := HR.out
  have y0r0 := y0.cell (j := 0) (v := .int .i64 2) rfl
  have y0r1 := y0.cell (j := 1) (v := .func (.func 21) #[] #[.pointer (some ⟨p, 0, none⟩)]) rfl
  clear y0
  go_wp2_with fail
  refine wp_loop_rounds 7 ?_
  rw [rounds_succ]
  go_wp2_with fail
  refine (H0.out _ (nbl_al HB.out)).mono ?_
  rintro e w1 ⟨rfl, hb⟩
  replace HB := Lib.hid (show Below w.heap.size w w1 by have h := hb; repeat (first | exact nbl_step HB.out h | replace h := nbl_new h | replace h := nbl_dr h))
  have z0 : HeapIs w1 (w.heap.size) (.cells #[.int .i64 2, .func (.func 21) #[] #[.pointer (some ⟨p, 0, none⟩)]] 60 (0, 0)) := (HeapIs.new _ _).below hb
  have z0r0 := z0.cell (j := 0) (v := .int .i64 2) rfl
  clear z0
  have y1 : HeapIs w1 pr (.cells #[.int .i64 2, .func (.func 21) #[] #[.pointer (some ⟨p, 0, none⟩)], .int .i64 16, .func (.func 23) #[] #[.pointer (some ⟨p1, 0, none⟩), .pointer (some ⟨p2, 0, none⟩)], .int .i64 2, .func (.func 24) #[] #[.pointer (some ⟨p, 0, none⟩)], .int .i64 2, .func (.func 27) #[] #[.pointer (some ⟨p, 0, none⟩)], .int .i64 2, .func (.func 28) #[] #[.pointer (some ⟨p, 0, none⟩)], .int .i64 14, .func (.func 30) #[] #[.pointer (some ⟨p, 0, none⟩)], .int .i64 12, .func (.func 32) #[] #[.pointer (some ⟨p, 0, none⟩)]] 60 (0, 0)) := HR.out.below HB.out
  have y1r0 := y1.cell (j := 2) (v := .int .i64 16) rfl
  have y1r1 := y1.cell (j := 3) (v := .func (.func 23) #[] #[.pointer (some ⟨p1, 0, none⟩), .pointer (some ⟨p2, 0, none⟩)]) rfl
  clear y1
  clear hb
  go_wp2_with fail
  rw [rounds_succ]
  go_wp2_with fail
  refine (H1.out _ (nbl_al HB.out)).mono ?_
  rintro e w2 ⟨rfl, hb⟩
  replace HB := Lib.hid (show Below w.heap.size w w2 by have h := hb; repeat (first | exact nbl_step HB.out h | replace h := nbl_new h | replace h := nbl_dr h))
  have z1 : HeapIs w2 (w1.heap.size) (.cells #[.int .i64 16, .func (.func 23) #[] #[.pointer (some ⟨p1, 0, none⟩), .pointer (some ⟨p2, 0, none⟩)]] 60 (0, 0)) := (HeapIs.new _ _).below hb
  have z1r0 := z1.cell (j := 0) (v := .int .i64 16) rfl
  clear z1
  have y2 : HeapIs w2 pr (.cells #[.int .i64 2, .func (.func 21) #[] #[.pointer (some ⟨p, 0, none⟩)], .int .i64 16, .func (.func 23) #[] #[.pointer (some ⟨p1, 0, none⟩), .pointer (some ⟨p2, 0, none⟩)], .int .i64 2, .func (.func 24) #[] #[.pointer (some ⟨p, 0, none⟩)], .int .i64 2, .func (.func 27) #[] #[.pointer (some ⟨p, 0, none⟩)], .int .i64 2, .func (.func 28) #[] #[.pointer (some ⟨p, 0, none⟩)], .int .i64 14, .func (.func 30) #[] #[.pointer (some ⟨p, 0, none⟩)], .int .i64 12, .func (.func 32) #[] #[.pointer (some ⟨p, 0, none⟩)]] 60 (0, 0)) := HR.out.below HB.out
  have y2r0 := y2.cell (j := 4) (v := .int .i64 2) rfl
  have y2r1 := y2.cell (j := 5) (v := .func (.func 24) #[] #[.pointer (some ⟨p, 0, none⟩)]) rfl
  clear y2
  clear hb
  go_wp2_with fail
  rw [rounds_succ]
  go_wp2_with fail
  refine (H2.out _ (nbl_al HB.out)).mono ?_
  rintro e w3 ⟨rfl, hb⟩
  replace HB := Lib.hid (show Below w.heap.size w w3 by have h := hb; repeat (first | exact nbl_step HB.out h | replace h := nbl_new h | replace h := nbl_dr h))
  have z2 : HeapIs w3 (w2.heap.size) (.cells #[.int .i64 2, .func (.func 24) #[] #[.pointer (some ⟨p, 0, none⟩)]] 60 (0, 0)) := (HeapIs.new _ _).below hb
  have z2r0 := z2.cell (j := 0) (v := .int .i64 2) rfl
  clear z2
  have y3 : HeapIs w3 pr (.cells #[.int .i64 2, .func (.func 21) #[] #[.pointer (some ⟨p, 0, none⟩)], .int .i64 16, .func (.func 23) #[] #[.pointer (some ⟨p1, 0, none⟩), .pointer (some ⟨p2, 0, none⟩)], .int .i64 2, .func (.func 24) #[] #[.pointer (some ⟨p, 0, none⟩)], .int .i64 2, .func (.func 27) #[] #[.pointer (some ⟨p, 0, none⟩)], .int .i64 2, .func (.func 28) #[] #[.pointer (some ⟨p, 0, none⟩)], .int .i64 14, .func (.func 30) #[] #[.pointer (some ⟨p, 0, none⟩)], .int .i64 12, .func (.func 32) #[] #[.pointer (some ⟨p, 0, none⟩)]] 60 (0, 0)) := HR.out.below HB.out
  have y3r0 := y3.cell (j := 6) (v := .int .i64 2) rfl
  have y3r1 := y3.cell (j := 7) (v := .func (.func 27) #[] #[.pointer (some ⟨p, 0, none⟩)]) rfl
  clear y3
  clear hb
  go_wp2_with fail
  rw [rounds_succ]
  go_wp2_with fail
  refine (H3.out _ (nbl_al HB.out)).mono ?_
  rintro e w4 ⟨rfl, hb⟩
  replace HB := Lib.hid (show Below w.heap.size w w4 by have h := hb; repeat (first | exact nbl_step HB.out h | replace h := nbl_new h | replace h := nbl_dr h))
  have z3 : HeapIs w4 (w3.heap.size) (.cells #[.int .i64 2, .func (.func 27) #[] #[.pointer (some ⟨p, 0, none⟩)]] 60 (0, 0)) := (HeapIs.new _ _).below hb
  have z3r0 := z3.cell (j := 0) (v := .int .i64 2) rfl
  clear z3
  have y4 : HeapIs w4 pr (.cells #[.int .i64 2, .func (.func 21) #[] #[.pointer (some ⟨p, 0, none⟩)], .int .i64 16, .func (.func 23) #[] #[.pointer (some ⟨p1, 0, none⟩), .pointer (some ⟨p2, 0, none⟩)], .int .i64 2, .func (.func 24) #[] #[.pointer (some ⟨p, 0, none⟩)], .int .i64 2, .func (.func 27) #[] #[.pointer (some ⟨p, 0, none⟩)], .int .i64 2, .func (.func 28) #[] #[.pointer (some ⟨p, 0, none⟩)], .int .i64 14, .func (.func 30) #[] #[.pointer (some ⟨p, 0, none⟩)], .int .i64 12, .func (.func 32) #[] #[.pointer (some ⟨p, 0, none⟩)]] 60 (0, 0)) := HR.out.below HB.out
  have y4r0 := y4.cell (j := 8) (v := .int .i64 2) rfl
  have y4r1 := y4.cell (j := 9) (v := .func (.func 28) #[] #[.pointer (some ⟨p, 0, none⟩)]) rfl
  clear y4
  clear hb
  go_wp2_with fail
  rw [rounds_succ]
  go_wp2_with fail
  refine (H4.out _ (nbl_al HB.out)).mono ?_
  rintro e w5 ⟨rfl, hb⟩
  replace HB := Lib.hid (show Below w.heap.size w w5 by have h := hb; repeat (first | exact nbl_step HB.out h | replace h := nbl_new h | replace h := nbl_dr h))
  have z4 : HeapIs w5 (w4.heap.size) (.cells #[.int .i64 2, .func (.func 28) #[] #[.pointer (some ⟨p, 0, none⟩)]] 60 (0, 0)) := (HeapIs.new _ _).below hb
  have z4r0 := z4.cell (j := 0) (v := .int .i64 2) rfl
  clear z4
  have y5 : HeapIs w5 pr (.cells #[.int .i64 2, .func (.func 21) #[] #[.pointer (some ⟨p, 0, none⟩)], .int .i64 16, .func (.func 23) #[] #[.pointer (some ⟨p1, 0, none⟩), .pointer (some ⟨p2, 0, none⟩)], .int .i64 2, .func (.func 24) #[] #[.pointer (some ⟨p, 0, none⟩)], .int .i64 2, .func (.func 27) #[] #[.pointer (some ⟨p, 0, none⟩)], .int .i64 2, .func (.func 28) #[] #[.pointer (some ⟨p, 0, none⟩)], .int .i64 14, .func (.func 30) #[] #[.pointer (some ⟨p, 0, none⟩)], .int .i64 12, .func (.func 32) #[] #[.pointer (some ⟨p, 0, none⟩)]] 60 (0, 0)) := HR.out.below HB.out
  have y5r0 := y5.cell (j := 10) (v := .int .i64 14) rfl
  have y5r1 := y5.cell (j := 11) (v := .func (.func 30) #[] #[.pointer (some ⟨p, 0, none⟩)]) rfl
  clear y5
  clear hb
  go_wp2_with fail
  rw [rounds_succ]
  go_wp2_with fail
  refine (H5.out _ (nbl_al HB.out)).mono ?_
  rintro e w6 ⟨rfl, hb⟩
  replace HB := Lib.hid (show Below w.heap.size w w6 by have h := hb; repeat (first | exact nbl_step HB.out h | replace h := nbl_new h | replace h := nbl_dr h))
  have z5 : HeapIs w6 (w5.heap.size) (.cells #[.int .i64 14, .func (.func 30) #[] #[.pointer (some ⟨p, 0, none⟩)]] 60 (0, 0)) := (HeapIs.new _ _).below hb
  have z5r0 := z5.cell (j := 0) (v := .int .i64 14) rfl
  clear z5
  have y6 : HeapIs w6 pr (.cells #[.int .i64 2, .func (.func 21) #[] #[.pointer (some ⟨p, 0, none⟩)], .int .i64 16, .func (.func 23) #[] #[.pointer (some ⟨p1, 0, none⟩), .pointer (some ⟨p2, 0, none⟩)], .int .i64 2, .func (.func 24) #[] #[.pointer (some ⟨p, 0, none⟩)], .int .i64 2, .func (.func 27) #[] #[.pointer (some ⟨p, 0, none⟩)], .int .i64 2, .func (.func 28) #[] #[.pointer (some ⟨p, 0, none⟩)], .int .i64 14, .func (.func 30) #[] #[.pointer (some ⟨p, 0, none⟩)], .int .i64 12, .func (.func 32) #[] #[.pointer (some ⟨p, 0, none⟩)]] 60 (0, 0)) := HR.out.below HB.out
  have y6r0 := y6.cell (j := 12) (v := .int .i64 12) rfl
  have y6r1 := y6.cell (j := 13) (v := .func (.func 32) #[] #[.pointer (some ⟨p, 0, none⟩)]) rfl
  clear y6
  clear hb
  go_wp2_with fail
  rw [rounds_succ]
  go_wp2_with fail
  refine (H6.out _ (nbl_al HB.out)).mono ?_
  rintro e w7 ⟨rfl, hb⟩
  replace HB := Lib.hid (show Below w.heap.size w w7 by have h := hb; repeat (first | exact nbl_step HB.out h | replace h := nbl_new h | replace h := nbl_dr h))
  have z6 : HeapIs w7 (w6.heap.size) (.cells #[.int .i64 12, .func (.func 32) #[] #[.pointer (some ⟨p, 0, none⟩)]] 60 (0, 0)) := (HeapIs.new _ _).below hb
  have z6r0 := z6.cell (j := 0) (v := .int .i64 12) rfl
  clear z6
  clear hb
  go_wp2
  go_ret
  exact ⟨rfl, by repeat (first | exact HB.out | apply nbl_al | apply nbl_drw | refine Below.setCell ?_ (Nat.le_refl _) _ | refine nbl_set ?_ (by first | exact Nat.le_refl _ | (simp; omega) | (simp; done) | omega) )⟩

set_option maxRecDepth 100000 in
set_option maxHeartbeats 1000000 in
theorem take_first_7 (pr : Nat) (p p1 p2 : Nat) (w : World) (hr : HeapIs w pr (.cells #[.int .i64 2, .func (.func 21) #[] #[.pointer (some ⟨p, 0, none⟩)], .int .i64 16, .func (.func 23) #[] #[.pointer (some ⟨p1, 0, none⟩), .pointer (some ⟨p2, 0, none⟩)], .int .i64 2, .func (.func 24) #[] #[.pointer (some ⟨p, 0, none⟩)], .int .i64 2, .func (.func 27) #[] #[.pointer (some ⟨p, 0, none⟩)], .int .i64 2, .func (.func 28) #[] #[.pointer (some ⟨p, 0, none⟩)], .int .i64 14, .func (.func 30) #[] #[.pointer (some ⟨p, 0, none⟩)], .int .i64 12, .func (.func 32) #[] #[.pointer (some ⟨p, 0, none⟩)]] 60 (0, 0))) (h0 : ∀ W, Below w.heap.size w W → Calls Tryz.prog 21 #[.pointer (some ⟨p, 0, none⟩)] W fun e w' => e = .returned (.bool false) ∧ Below W.heap.size W w') (h1 : ∀ W, Below w.heap.size w W → Calls Tryz.prog 23 #[.pointer (some ⟨p1, 0, none⟩), .pointer (some ⟨p2, 0, none⟩)] W fun e w' => e = .returned (.bool false) ∧ Below W.heap.size W w') (h2 : ∀ W, Below w.heap.size w W → Calls Tryz.prog 24 #[.pointer (some ⟨p, 0, none⟩)] W fun e w' => e = .returned (.bool false) ∧ Below W.heap.size W w') (h3 : ∀ W, Below w.heap.size w W → Calls Tryz.prog 27 #[.pointer (some ⟨p, 0, none⟩)] W fun e w' => e = .returned (.bool false) ∧ Below W.heap.size W w') (h4 : ∀ W, Below w.heap.size w W → Calls Tryz.prog 28 #[.pointer (some ⟨p, 0, none⟩)] W fun e w' => e = .returned (.bool false) ∧ Below W.heap.size W w') (h5 : ∀ W, Below w.heap.size w W → Calls Tryz.prog 30 #[.pointer (some ⟨p, 0, none⟩)] W fun e w' => e = .returned (.bool false) ∧ Below W.heap.size W w') (h6 : ∀ W, Below w.heap.size w W → Calls Tryz.prog 32 #[.pointer (some ⟨p, 0, none⟩)] W fun e w' => e = .returned (.bool false) ∧ Below W.heap.size W w') :
    Calls Tryz.prog 20 #[.slice (some ⟨pr, 0, none⟩) 7 7] w fun e w' => e = .returned (.int .i64 0) ∧ Below w.heap.size w w' := by
  have HR := Lib.hid hr
  clear hr
  have H0 := Lib.hid h0
  clear h0
  have H1 := Lib.hid h1
  clear h1
  have H2 := Lib.hid h2
  clear h2
  have H3 := Lib.hid h3
  clear h3
  have H4 := Lib.hid h4
  clear h4
  have H5 := Lib.hid h5
  clear h5
  have H6 := Lib.hid h6
  clear h6
  have HB := Lib.hid (Below.refl w.heap.size w)
  go_enter Tryz.func20, Tryz.ntmps20
  have y0 : HeapIs w pr (.cells #[.int .i64 2, .func (.func 21) #[] #[.pointer (some ⟨p, 0, none⟩)], .int .i64 16, .func (.func 23) #[] #[.pointer (some ⟨p1, 0, none⟩), .pointer (some ⟨p2, 0, none⟩)], .int .i64 2, .func (.func 24) #[] #[.pointer (some ⟨p, 0, none⟩)], .int .i64 2, .func (.func 27) #[] #[.pointer (some ⟨p, 0, none⟩)], .int .i64 2, .func (.func 28) #[] #[.pointer (some ⟨p, 0, none⟩)], .int .i64 14, .func (.func 30) #[] #[.pointer (some ⟨p, 0, none⟩)], .int .i64 12, .func (.func 32) #[] #[.pointer (some ⟨p, 0, none⟩)]] 60 (0, 0)) := HR.out
  have y0r0 := y0.cell (j := 0) (v := .int .i64 2) rfl
  have y0r1 := y0.cell (j := 1) (v := .func (.func 21) #[] #[.pointer (some ⟨p, 0, none⟩)]) rfl
  clear y0
  go_wp2_with fail
  refine wp_loop_rounds 8 ?_
  rw [rounds_succ]
  go_wp2_with fail
  refine (H0.out _ (nbl_al HB.out)).mono ?_
  rintro e w1 ⟨rfl, hb⟩
  replace HB := Lib.hid (show Below w.heap.size w w1 by have h := hb; repeat (first | exact nbl_step HB.out h | replace h := nbl_new h | replace h := nbl_dr h))
  have z0 : HeapIs w1 (w.heap.size) (.cells #[.int .i64 2, .func (.func 21) #[] #[.pointer (some ⟨p, 0, none⟩)]] 60 (0, 0)) := (HeapIs.new _ _).below hb
  have z0r0 := z0.cell (j := 0) (v := .int .i64 2) rfl
  clear z0
  have y1 : HeapIs w1 pr (.cells #[.int .i64 2, .func (.func 21) #[] #[.pointer (some ⟨p, 0, none⟩)], .int .i64 16, .func (.func 23) #[] #[.pointer (some ⟨p1, 0, none⟩), .pointer (some ⟨p2, 0, none⟩)], .int .i64 2, .func (.func 24) #[] #[.pointer (some ⟨p, 0, none⟩)], .int .i64 2, .func (.func 27) #[] #[.pointer (some ⟨p, 0, none⟩)], .int .i64 2, .func (.func 28) #[] #[.pointer (some ⟨p, 0, none⟩)], .int .i64 14, .func (.func 30) #[] #[.pointer (some ⟨p, 0, none⟩)], .int .i64 12, .func (.func 32) #[] #[.pointer (some ⟨p, 0, none⟩)]] 60 (0, 0)) := HR.out.below HB.out
  have y1r0 := y1.cell (j := 2) (v := .int .i64 16) rfl
  have y1r1 := y1.cell (j := 3) (v := .func (.func 23) #[] #[.pointer (some ⟨p1, 0, none⟩), .pointer (some ⟨p2, 0, none⟩)]) rfl
  clear y1
  clear hb
  go_wp2_with fail
  rw [rounds_succ]
  go_wp2_with fail
  refine (H1.out _ (nbl_al HB.out)).mono ?_
  rintro e w2 ⟨rfl, hb⟩
  replace HB := Lib.hid (show Below w.heap.size w w2 by have h := hb; repeat (first | exact nbl_step HB.out h | replace h := nbl_new h | replace h := nbl_dr h))
  have z1 : HeapIs w2 (w1.heap.size) (.cells #[.int .i64 16, .func (.func 23) #[] #[.pointer (some ⟨p1, 0, none⟩), .pointer (some ⟨p2, 0, none⟩)]] 60 (0, 0)) := (HeapIs.new _ _).below hb
  have z1r0 := z1.cell (j := 0) (v := .int .i64 16) rfl
  clear z1
  have y2 : HeapIs w2 pr (.cells #[.int .i64 2, .func (.func 21) #[] #[.pointer (some ⟨p, 0, none⟩)], .int .i64 16, .func (.func 23) #[] #[.pointer (some ⟨p1, 0, none⟩), .pointer (some ⟨p2, 0, none⟩)], .int .i64 2, .func (.func 24) #[] #[.pointer (some ⟨p, 0, none⟩)], .int .i64 2, .func (.func 27) #[] #[.pointer (some ⟨p, 0, none⟩)], .int .i64 2, .func (.func 28) #[] #[.pointer (some ⟨p, 0, none⟩)], .int .i64 14, .func (.func 30) #[] #[.pointer (some ⟨p, 0, none⟩)], .int .i64 12, .func (.func 32) #[] #[.pointer (some ⟨p, 0, none⟩)]] 60 (0, 0)) := HR.out.below HB.out
  have y2r0 := y2.cell (j := 4) (v := .int .i64 2) rfl
  have y2r1 := y2.cell (j := 5) (v := .func (.func 24) #[] #[.pointer (some ⟨p, 0, none⟩)]) rfl
  clear y2
  clear hb
  go_wp2_with fail
  rw [rounds_succ]
  go_wp2_with fail
  refine (H2.out _ (nbl_al HB.out)).mono ?_
  rintro e w3 ⟨rfl, hb⟩
  replace HB := Lib.hid (show Below w.heap.size w w3 by have h := hb; repeat (first | exact nbl_step HB.out h | replace h := nbl_new h | replace h := nbl_dr h))
  have z2 : HeapIs w3 (w2.heap.size) (.cells #[.int .i64 2, .func (.func 24) #[] #[.pointer (some ⟨p, 0, none⟩)]] 60 (0, 0)) := (HeapIs.new _ _).below hb
  have z2r0 := z2.cell (j := 0) (v := .int .i64 2) rfl
  clear z2
  have y3 : HeapIs w3 pr (.cells #[.int .i64 2, .func (.func 21) #[] #[.pointer (some ⟨p, 0, none⟩)], .int .i64 16, .func (.func 23) #[] #[.pointer (some ⟨p1, 0, none⟩), .pointer (some ⟨p2, 0, none⟩)], .int .i64 2, .func (.func 24) #[] #[.pointer (some ⟨p, 0, none⟩)], .int .i64 2, .func (.func 27) #[] #[.pointer (some ⟨p, 0, none⟩)], .int .i64 2, .func (.func 28) #[] #[.pointer (some ⟨p, 0, none⟩)], .int .i64 14, .func (.func 30) #[] #[.pointer (some ⟨p, 0, none⟩)], .int .i64 12, .func (.func 32) #[] #[.pointer (some ⟨p, 0, none⟩)]] 60 (0, 0)) := HR.out.below HB.out
  have y3r0 := y3.cell (j := 6) (v := .int .i64 2) rfl
  have y3r1 := y3.cell (j := 7) (v := .func (.func 27) #[] #[.pointer (some ⟨p, 0, none⟩)]) rfl
  clear y3
  clear hb
  go_wp2_with fail
  rw [rounds_succ]
  go_wp2_with fail
  refine (H3.out _ (nbl_al HB.out)).mono ?_
  rintro e w4 ⟨rfl, hb⟩
  replace HB := Lib.hid (show Below w.heap.size w w4 by have h := hb; repeat (first | exact nbl_step HB.out h | replace h := nbl_new h | replace h := nbl_dr h))
  have z3 : HeapIs w4 (w3.heap.size) (.cells #[.int .i64 2, .func (.func 27) #[] #[.pointer (some ⟨p, 0, none⟩)]] 60 (0, 0)) := (HeapIs.new _ _).below hb
  have z3r0 := z3.cell (j := 0) (v := .int .i64 2) rfl
  clear z3
  have y4 : HeapIs w4 pr (.cells #[.int .i64 2, .func (.func 21) #[] #[.pointer (some ⟨p, 0, none⟩)], .int .i64 16, .func (.func 23) #[] #[.pointer (some ⟨p1, 0, none⟩), .pointer (some ⟨p2, 0, none⟩)], .int .i64 2, .func (.func 24) #[] #[.pointer (some ⟨p, 0, none⟩)], .int .i64 2, .func (.func 27) #[] #[.pointer (some ⟨p, 0, none⟩)], .int .i64 2, .func (.func 28) #[] #[.pointer (some ⟨p, 0, none⟩)], .int .i64 14, .func (.func 30) #[] #[.pointer (some ⟨p, 0, none⟩)], .int .i64 12, .func (.func 32) #[] #[.pointer (some ⟨p, 0, none⟩)]] 60 (0, 0)) := HR.out.below HB.out
  have y4r0 := y4.cell (j := 8) (v := .int .i64 2) rfl
  have y4r1 := y4.cell (j := 9) (v := .func (.func 28) #[] #[.pointer (some ⟨p, 0, none⟩)]) rfl
  clear y4
  clear hb
  go_wp2_with fail
  rw [rounds_succ]
  go_wp2_with fail
  refine (H4.out _ (nbl_al HB.out)).mono ?_
  rintro e w5 ⟨rfl, hb⟩
  replace HB := Lib.hid (show Below w.heap.size w w5 by have h := hb; repeat (first | exact nbl_step HB.out h | replace h := nbl_new h | replace h := nbl_dr h))
  have z4 : HeapIs w5 (w4.heap.size) (.cells #[.int .i64 2, .func (.func 28) #[] #[.pointer (some ⟨p, 0, none⟩)]] 60 (0, 0)) := (HeapIs.new _ _).below hb
  have z4r0 := z4.cell (j := 0) (v := .int .i64 2) rfl
  clear z4
  have y5 : HeapIs w5 pr (.cells #[.int .i64 2, .func (.func 21) #[] #[.pointer (some ⟨p, 0, none⟩)], .int .i64 16, .func (.func 23) #[] #[.pointer (some ⟨p1, 0, none⟩), .pointer (some ⟨p2, 0, none⟩)], .int .i64 2, .func (.func 24) #[] #[.pointer (some ⟨p, 0, none⟩)], .int .i64 2, .func (.func 27) #[] #[.pointer (some ⟨p, 0, none⟩)], .int .i64 2, .func (.func 28) #[] #[.pointer (some ⟨p, 0, none⟩)], .int .i64 14, .func (.func 30) #[] #[.pointer (some ⟨p, 0, none⟩)], .int .i64 12, .func (.func 32) #[] #[.pointer (some ⟨p, 0, none⟩)]] 60 (0, 0)) := HR.out.below HB.out
  have y5r0 := y5.cell (j := 10) (v := .int .i64 14) rfl
  have y5r1 := y5.cell (j := 11) (v := .func (.func 30) #[] #[.pointer (some ⟨p, 0, none⟩)]) rfl
  clear y5
  clear hb
  go_wp2_with fail
  rw [rounds_succ]
  go_wp2_with fail
  refine (H5.out _ (nbl_al HB.out)).mono ?_
  rintro e w6 ⟨rfl, hb⟩
  replace HB := Lib.hid (show Below w.heap.size w w6 by have h := hb; repeat (first | exact nbl_step HB.out h | replace h := nbl_new h | replace h := nbl_dr h))
  have z5 : HeapIs w6 (w5.heap.size) (.cells #[.int .i64 14, .func (.func 30) #[] #[.pointer (some ⟨p, 0, none⟩)]] 60 (0, 0)) := (HeapIs.new _ _).below hb
  have z5r0 := z5.cell (j := 0) (v := .int .i64 14) rfl
  clear z5
  have y6 : HeapIs w6 pr (.cells #[.int .i64 2, .func (.func 21) #[] #[.pointer (some ⟨p, 0, none⟩)], .int .i64 16, .func (.func 23) #[] #[.pointer (some ⟨p1, 0, none⟩), .pointer (some ⟨p2, 0, none⟩)], .int .i64 2, .func (.func 24) #[] #[.pointer (some ⟨p, 0, none⟩)], .int .i64 2, .func (.func 27) #[] #[.pointer (some ⟨p, 0, none⟩)], .int .i64 2, .func (.func 28) #[] #[.pointer (some ⟨p, 0, none⟩)], .int .i64 14, .func (.func 30) #[] #[.pointer (some ⟨p, 0, none⟩)], .int .i64 12, .func (.func 32) #[] #[.pointer (some ⟨p, 0, none⟩)]] 60 (0, 0)) := HR.out.below HB.out
  have y6r0 := y6.cell (j := 12) (v := .int .i64 12) rfl
  have y6r1 := y6.cell (j := 13) (v := .func (.func 32) #[] #[.pointer (some ⟨p, 0, none⟩)]) rfl
  clear y6
  clear hb
  go_wp2_with fail
  rw [rounds_succ]
  go_wp2_with fail
  refine (H6.out _ (nbl_al HB.out)).mono ?_
  rintro e w7 ⟨rfl, hb⟩
  replace HB := Lib.hid (show Below w.heap.size w w7 by have h := hb; repeat (first | exact nbl_step HB.out h | replace h := nbl_new h | replace h := nbl_dr h))
  have z6 : HeapIs w7 (w6.heap.size) (.cells #[.int .i64 12, .func (.func 32) #[] #[.pointer (some ⟨p, 0, none⟩)]] 60 (0, 0)) := (HeapIs.new _ _).below hb
  have z6r0 := z6.cell (j := 0) (v := .int .i64 12) rfl
  clear z6
  clear hb
  go_wp2_with fail
  rw [rounds_succ]
  go_wp2
  go_ret
  exact ⟨rfl, by repeat (first | exact HB.out | apply nbl_al | apply nbl_drw | refine Below.setCell ?_ (Nat.le_refl _) _ | refine nbl_set ?_ (by first | exact Nat.le_refl _ | (simp; omega) | (simp; done) | omega) )⟩

set_option maxRecDepth 100000 in
set_option maxHeartbeats 1000000 in
theorem take_state_0 (pr : Nat) (c n s1 s2 l x y : Nat) (w : World) (hr : HeapIs w pr (.cells #[.int .i64 9, .func (.func 52) #[] #[.pointer (some ⟨s1, 0, none⟩), .pointer (some ⟨c, 0, none⟩)], .int .i64 14, .func (.func 53) #[] #[.pointer (some ⟨l, 0, none⟩), .pointer (some ⟨s2, 0, none⟩)], .int .i64 13, .func (.func 57) #[] #[.pointer (some ⟨x, 0, none⟩), .pointer (some ⟨s2, 0, none⟩)], .int .i64 7, .func (.func 58) #[] #[.pointer (some ⟨l, 0, none⟩), .pointer (some ⟨s2, 0, none⟩), .pointer (some ⟨n, 0, none⟩)], .int .i64 15, .func (.func 60) #[] #[.pointer (some ⟨s2, 0, none⟩), .pointer (some ⟨y, 0, none⟩), .pointer (some ⟨n, 0, none⟩)], .int .i64 11, .func (.func 63) #[] #[.pointer (some ⟨c, 0, none⟩), .pointer (some ⟨n, 0, none⟩)], .int .i64 5, .func (.func 65) #[] #[.pointer (some ⟨c, 0, none⟩), .pointer (some ⟨n, 0, none⟩)]] 60 (0, 0))) (h0 : ∀ W, Below w.heap.size w W → Calls Tryz.prog 52 #[.pointer (some ⟨s1, 0, none⟩), .pointer (some ⟨c, 0, none⟩)] W fun e w' => e = .returned (.bool true) ∧ Below W.heap.size W w') :
    Calls Tryz.prog 20 #[.slice (some ⟨pr, 0, none⟩) 7 7] w fun e w' => e = .returned (.int .i64 9) ∧ Below w.heap.size w w' := by
  have HR := Lib.hid hr
  clear hr
  have H0 := Lib.hid h0
  clear h0
  have HB := Lib.hid (Below.refl w.heap.size w)
  go_enter Tryz.func20, Tryz.ntmps20
  have y0 : HeapIs w pr (.cells #[.int .i64 9, .func (.func 52) #[] #[.pointer (some ⟨s1, 0, none⟩), .pointer (some ⟨c, 0, none⟩)], .int .i64 14, .func (.func 53) #[] #[.pointer (some ⟨l, 0, none⟩), .pointer (some ⟨s2, 0, none⟩)], .int .i64 13, .func (.func 57) #[] #[.pointer (some ⟨x, 0, none⟩), .pointer (some ⟨s2, 0, none⟩)], .int .i64 7, .func (.func 58) #[] #[.pointer (some ⟨l, 0, none⟩), .pointer (some ⟨s2, 0, none⟩), .pointer (some ⟨n, 0, none⟩)], .int .i64 15, .func (.func 60) #[] #[.pointer (some ⟨s2, 0, none⟩), .pointer (some ⟨y, 0, none⟩), .pointer (some ⟨n, 0, none⟩)], .int .i64 11, .func (.func 63) #[] #[.pointer (some ⟨c, 0, none⟩), .pointer (some ⟨n, 0, none⟩)], .int .i64 5, .func (.func 65) #[] #[.pointer (some ⟨c, 0, none⟩), .pointer (some ⟨n, 0, none⟩)]] 60 (0, 0)) := HR.out
  have y0r0 := y0.cell (j := 0) (v := .int .i64 9) rfl
  have y0r1 := y0.cell (j := 1) (v := .func (.func 52) #[] #[.pointer (some ⟨s1, 0, none⟩), .pointer (some ⟨c, 0, none⟩)]) rfl
  clear y0
  go_wp2_with fail
  refine wp_loop_rounds 1 ?_
  rw [rounds_succ]
  go_wp2_with fail
  refine (H0.out _ (nbl_al HB.out)).mono ?_
  rintro e w1 ⟨rfl, hb⟩
  replace HB := Lib.hid (show Below w.heap.size w w1 by have h := hb; repeat (first | exact nbl_step HB.out h | replace h := nbl_new h | replace h := nbl_dr h))
  have z0 : HeapIs w1 (w.heap.size) (.cells #[.int .i64 9, .func (.func 52) #[] #[.pointer (some ⟨s1, 0, none⟩), .pointer (some ⟨c, 0, none⟩)]] 60 (0, 0)) := (HeapIs.new _ _).below hb
  have z0r0 := z0.cell (j := 0) (v := .int .i64 9) rfl
  clear z0
  have y1 : HeapIs w1 pr (.cells #[.int .i64 9, .func (.func 52) #[] #[.pointer (some ⟨s1, 0, none⟩), .pointer (some ⟨c, 0, none⟩)], .int .i64 14, .func (.func 53) #[] #[.pointer (some ⟨l, 0, none⟩), .pointer (some ⟨s2, 0, none⟩)], .int .i64 13, .func (.func 57) #[] #[.pointer (some ⟨x, 0, none⟩), .pointer (some ⟨s2, 0, none⟩)], .int .i64 7, .func (.func 58) #[] #[.pointer (some ⟨l, 0, none⟩), .pointer (some ⟨s2, 0, none⟩), .pointer (some ⟨n, 0, none⟩)], .int .i64 15, .func (.func 60) #[] #[.pointer (some ⟨s2, 0, none⟩), .pointer (some ⟨y, 0, none⟩), .pointer (some ⟨n, 0, none⟩)], .int .i64 11, .func (.func 63) #[] #[.pointer (some ⟨c, 0, none⟩), .pointer (some ⟨n, 0, none⟩)], .int .i64 5, .func (.func 65) #[] #[.pointer (some ⟨c, 0, none⟩), .pointer (some ⟨n, 0, none⟩)]] 60 (0, 0)) := HR.out.below HB.out
  have y1r0 := y1.cell (j := 2) (v := .int .i64 14) rfl
  have y1r1 := y1.cell (j := 3) (v := .func (.func 53) #[] #[.pointer (some ⟨l, 0, none⟩), .pointer (some ⟨s2, 0, none⟩)]) rfl
  clear y1
  clear hb
  go_wp2
  go_ret
  exact ⟨rfl, by repeat (first | exact HB.out | apply nbl_al | apply nbl_drw | refine Below.setCell ?_ (Nat.le_refl _) _ | refine nbl_set ?_ (by first | exact Nat.le_refl _ | (simp; omega) | (simp; done) | omega) )⟩

set_option maxRecDepth 100000 in
set_option maxHeartbeats 1000000 in
theorem take_state_7 (pr : Nat) (c n s1 s2 l x y : Nat) (w : World) (hr : HeapIs w pr (.cells #[.int .i64 9, .func (.func 52) #[] #[.pointer (some ⟨s1, 0, none⟩), .pointer (some ⟨c, 0, none⟩)], .int .i64 14, .func (.func 53) #[] #[.pointer (some ⟨l, 0, none⟩), .pointer (some ⟨s2, 0, none⟩)], .int .i64 13, .func (.func 57) #[] #[.pointer (some ⟨x, 0, none⟩), .pointer (some ⟨s2, 0, none⟩)], .int .i64 7, .func (.func 58) #[] #[.pointer (some ⟨l, 0, none⟩), .pointer (some ⟨s2, 0, none⟩), .pointer (some ⟨n, 0, none⟩)], .int .i64 15, .func (.func 60) #[] #[.pointer (some ⟨s2, 0, none⟩), .pointer (some ⟨y, 0, none⟩), .pointer (some ⟨n, 0, none⟩)], .int .i64 11, .func (.func 63) #[] #[.pointer (some ⟨c, 0, none⟩), .pointer (some ⟨n, 0, none⟩)], .int .i64 5, .func (.func 65) #[] #[.pointer (some ⟨c, 0, none⟩), .pointer (some ⟨n, 0, none⟩)]] 60 (0, 0))) (h0 : ∀ W, Below w.heap.size w W → Calls Tryz.prog 52 #[.pointer (some ⟨s1, 0, none⟩), .pointer (some ⟨c, 0, none⟩)] W fun e w' => e = .returned (.bool false) ∧ Below W.heap.size W w') (h1 : ∀ W, Below w.heap.size w W → Calls Tryz.prog 53 #[.pointer (some ⟨l, 0, none⟩), .pointer (some ⟨s2, 0, none⟩)] W fun e w' => e = .returned (.bool false) ∧ Below W.heap.size W w') (h2 : ∀ W, Below w.heap.size w W → Calls Tryz.prog 57 #[.pointer (some ⟨x, 0, none⟩), .pointer (some ⟨s2, 0, none⟩)] W fun e w' => e = .returned (.bool false) ∧ Below W.heap.size W w') (h3 : ∀ W, Below w.heap.size w W → Calls Tryz.prog 58 #[.pointer (some ⟨l, 0, none⟩), .pointer (some ⟨s2, 0, none⟩), .pointer (some ⟨n, 0, none⟩)] W fun e w' => e = .returned (.bool false) ∧ Below W.heap.size W w') (h4 : ∀ W, Below w.heap.size w W → Calls Tryz.prog 60 #[.pointer (some ⟨s2, 0, none⟩), .pointer (some ⟨y, 0, none⟩), .pointer (some ⟨n, 0, none⟩)] W fun e w' => e = .returned (.bool false) ∧ Below W.heap.size W w') (h5 : ∀ W, Below w.heap.size w W → Calls Tryz.prog 63 #[.pointer (some ⟨c, 0, none⟩), .pointer (some ⟨n, 0, none⟩)] W fun e w' => e = .returned (.bool false) ∧ Below W.heap.size W w') (h6 : ∀ W, Below w.heap.size w W → Calls Tryz.prog 65 #[.pointer (some ⟨c, 0, none⟩), .pointer (some ⟨n, 0, none⟩)] W fun e w' => e = .returned (.bool false) ∧ Below W.heap.size W w') :
    Calls Tryz.prog 20 #[.slice (some ⟨pr, 0, none⟩) 7 7] w fun e w' => e = .returned (.int .i64 0) ∧ Below w.heap.size w w' := by
  have HR := Lib.hid hr
  clear hr
  have H0 := Lib.hid h0
  clear h0
  have H1 := Lib.hid h1
  clear h1
  have H2 := Lib.hid h2
  clear h2
  have H3 := Lib.hid h3
  clear h3
  have H4 := Lib.hid h4
  clear h4
  have H5 := Lib.hid h5
  clear h5
  have H6 := Lib.hid h6
  clear h6
  have HB := Lib.hid (Below.refl w.heap.size w)
  go_enter Tryz.func20, Tryz.ntmps20
  have y0 : HeapIs w pr (.cells #[.int .i64 9, .func (.func 52) #[] #[.pointer (some ⟨s1, 0, none⟩), .pointer (some ⟨c, 0, none⟩)], .int .i64 14, .func (.func 53) #[] #[.pointer (some ⟨l, 0, none⟩), .pointer (some ⟨s2, 0, none⟩)], .int .i64 13, .func (.func 57) #[] #[.pointer (some ⟨x, 0, none⟩), .pointer (some ⟨s2, 0, none⟩)], .int .i64 7, .func (.func 58) #[] #[.pointer (some ⟨l, 0, none⟩), .pointer (some ⟨s2, 0, none⟩), .pointer (some ⟨n, 0, none⟩)], .int .i64 15, .func (.func 60) #[] #[.pointer (some ⟨s2, 0, none⟩), .pointer (some ⟨y, 0, none⟩), .pointer (some ⟨n, 0, none⟩)], .int .i64 11, .func (.func 63) #[] #[.pointer (some ⟨c, 0, none⟩), .pointer (some ⟨n, 0, none⟩)], .int .i64 5, .func (.func 65) #[] #[.pointer (some ⟨c, 0, none⟩), .pointer (some ⟨n, 0, none⟩)]] 60 (0, 0)) := HR.out
  have y0r0 := y0.cell (j := 0) (v := .int .i64 9) rfl
  have y0r1 := y0.cell (j := 1) (v := .func (.func 52) #[] #[.pointer (some ⟨s1, 0, none⟩), .pointer (some ⟨c, 0, none⟩)]) rfl
  clear y0
  go_wp2_with fail
  refine wp_loop_rounds 8 ?_
  rw [rounds_succ]
  go_wp2_with fail
  refine (H0.out _ (nbl_al HB.out)).mono ?_
  rintro e w1 ⟨rfl, hb⟩
  replace HB := Lib.hid (show Below w.heap.size w w1 by have h := hb; repeat (first | exact nbl_step HB.out h | replace h := nbl_new h | replace h := nbl_dr h))
  have z0 : HeapIs w1 (w.heap.size) (.cells #[.int .i64 9, .func (.func 52) #[] #[.pointer (some ⟨s1, 0, none⟩), .pointer (some ⟨c, 0, none⟩)]] 60 (0, 0)) := (HeapIs.new _ _).below hb
  have z0r0 := z0.cell (j := 0) (v := .int .i64 9) rfl
  clear z0
  have y1 : HeapIs w1 pr (.cells #[.int .i64 9, .func (.func 52) #[] #[.pointer (some ⟨s1, 0, none⟩), .pointer (some ⟨c, 0, none⟩)], .int .i64 14, .func (.func 53) #[] #[.pointer (some ⟨l, 0, none⟩), .pointer (some ⟨s2, 0, none⟩)], .int .i64 13, .func (.func 57) #[] #[.pointer (some ⟨x, 0, none⟩), .pointer (some ⟨s2, 0, none⟩)], .int .i64 7, .func (.func 58) #[] #[.pointer (some ⟨l, 0, none⟩), .pointer (some ⟨s2, 0, none⟩), .pointer (some ⟨n, 0, none⟩)], .int .i64 15, .func (.func 60) #[] #[.pointer (some ⟨s2, 0, none⟩), .pointer (some ⟨y, 0, none⟩), .pointer (some ⟨n, 0, none⟩)], .int .i64 11, .func (.func 63) #[] #[.pointer (some ⟨c, 0, none⟩), .pointer (some ⟨n, 0, none⟩)], .int .i64 5, .func (.func 65) #[] #[.pointer (some ⟨c, 0, none⟩), .pointer (some ⟨n, 0, none⟩)]] 60 (0, 0)) := HR.out.below HB.out
  have y1r0 := y1.cell (j := 2) (v := .int .i64 14) rfl
  have y1r1 := y1.cell (j := 3) (v := .func (.func 53) #[] #[.pointer (some ⟨l, 0, none⟩), .pointer (some ⟨s2, 0, none⟩)]) rfl
  clear y1
  clear hb
  go_wp2_with fail
  rw [rounds_succ]
  go_wp2_with fail
  refine (H1.out _ (nbl_al HB.out)).mono ?_
  rintro e w2 ⟨rfl, hb⟩
  replace HB := Lib.hid (show Below w.heap.size w w2 by have h := hb; repeat (first | exact nbl_step HB.out h | replace h := nbl_new h | replace h := nbl_dr h))
  have z1 : HeapIs w2 (w1.heap.size) (.cells #[.int .i64 14, .func (.func 53) #[] #[.pointer (some ⟨l, 0, none⟩), .pointer (some ⟨s2, 0, none⟩)]] 60 (0, 0)) := (HeapIs.new _ _).below hb
  have z1r0 := z1.cell (j := 0) (v := .int .i64 14) rfl
  clear z1
  have y2 : HeapIs w2 pr (.cells #[.int .i64 9, .func (.func 52) #[] #[.pointer (some ⟨s1, 0, none⟩), .pointer (some ⟨c, 0, none⟩)], .int .i64 14, .func (.func 53) #[] #[.pointer (some ⟨l, 0, none⟩), .pointer (some ⟨s2, 0, none⟩)], .int .i64 13, .func (.func 57) #[] #[.pointer (some ⟨x, 0, none⟩), .pointer (some ⟨s2, 0, none⟩)], .int .i64 7, .func (.func 58) #[] #[.pointer (some ⟨l, 0, none⟩), .pointer (some ⟨s2, 0, none⟩), .pointer (some ⟨n, 0, none⟩)], .int .i64 15, .func (.func 60) #[] #[.pointer (some ⟨s2, 0, none⟩), .pointer (some ⟨y, 0, none⟩), .pointer (some ⟨n, 0, none⟩)], .int .i64 11, .func (.func 63) #[] #[.pointer (some ⟨c, 0, none⟩), .pointer (some ⟨n, 0, none⟩)], .int .i64 5, .func (.func 65) #[] #[.pointer (some ⟨c, 0, none⟩), .pointer (some ⟨n, 0, none⟩)]] 60 (0, 0)) := HR.out.below HB.out
  have y2r0 := y2.cell (j := 4) (v := .int .i64 13) rfl
  have y2r1 := y2.cell (j := 5) (v := .func (.func 57) #[] #[.pointer (some ⟨x, 0, none⟩), .pointer (some ⟨s2, 0, none⟩)]) rfl
  clear y2
  clear hb
  go_wp2_with fail
  rw [rounds_succ]
  go_wp2_with fail
  refine (H2.out _ (nbl_al HB.out)).mono ?_
  rintro e w3 ⟨rfl, hb⟩
  replace HB := Lib.hid (show Below w.heap.size w w3 by have h := hb; repeat (first | exact nbl_step HB.out h | replace h := nbl_new h | replace h := nbl_dr h))
  have z2 : HeapIs w3 (w2.heap.size) (.cells #[.int .i64 13, .func (.func 57) #[] #[.pointer (some ⟨x, 0, none⟩), .pointer (some ⟨s2, 0, none⟩)]] 60 (0, 0)) := (HeapIs.new _ _).below hb
  have z2r0 := z2.cell (j := 0) (v := .int .i64 13) rfl
  clear z2
  have y3 : HeapIs w3 pr (.cells #[.int .i64 9, .func (.func 52) #[] #[.pointer (some ⟨s1, 0, none⟩), .pointer (some ⟨c, 0, none⟩)], .int .i64 14, .func (.func 53) #[] #[.pointer (some ⟨l, 0, none⟩), .pointer (some ⟨s2, 0, none⟩)], .int .i64 13, .func (.func 57) #[] #[.pointer (some ⟨x, 0, none⟩), .pointer (some ⟨s2, 0, none⟩)], .int .i64 7, .func (.func 58) #[] #[.pointer (some ⟨l, 0, none⟩), .pointer (some ⟨s2, 0, none⟩), .pointer (some ⟨n, 0, none⟩)], .int .i64 15, .func (.func 60) #[] #[.pointer (some ⟨s2, 0, none⟩), .pointer (some ⟨y, 0, none⟩), .pointer (some ⟨n, 0, none⟩)], .int .i64 11, .func (.func 63) #[] #[.pointer (some ⟨c, 0, none⟩), .pointer (some ⟨n, 0, none⟩)], .int .i64 5, .func (.func 65) #[] #[.pointer (some ⟨c, 0, none⟩), .pointer (some ⟨n, 0, none⟩)]] 60 (0, 0)) := HR.out.below HB.out
  have y3r0 := y3.cell (j := 6) (v := .int .i64 7) rfl
  have y3r1 := y3.cell (j := 7) (v := .func (.func 58) #[] #[.pointer (some ⟨l, 0, none⟩), .pointer (some ⟨s2, 0, none⟩), .pointer (some ⟨n, 0, none⟩)]) rfl
  clear y3
  clear hb
  go_wp2_with fail
  rw [rounds_succ]
  go_wp2_with fail
  refine (H3.out _ (nbl_al HB.out)).mono ?_
  rintro e w4 ⟨rfl, hb⟩
  replace HB := Lib.hid (show Below w.heap.size w w4 by have h := hb; repeat (first | exact nbl_step HB.out h | replace h := nbl_new h | replace h := nbl_dr h))
  have z3 : HeapIs w4 (w3.heap.size) (.cells #[.int .i64 7, .func (.func 58) #[] #[.pointer (some ⟨l, 0, none⟩), .pointer (some ⟨s2, 0, none⟩), .pointer (some ⟨n, 0, none⟩)]] 60 (0, 0)) := (HeapIs.new _ _).below hb
  have z3r0 := z3.cell (j := 0) (v := .int .i64 7) rfl
  clear z3
  have y4 : HeapIs w4 pr (.cells #[.int .i64 9, .func (.func 52) #[] #[.pointer (some ⟨s1, 0, none⟩), .pointer (some ⟨c, 0, none⟩)], .int .i64 14, .func (.func 53) #[] #[.pointer (some ⟨l, 0, none⟩), .pointer (some ⟨s2, 0, none⟩)], .int .i64 13, .func (.func 57) #[] #[.pointer (some ⟨x, 0, none⟩), .pointer (some ⟨s2, 0, none⟩)], .int .i64 7, .func (.func 58) #[] #[.pointer (some ⟨l, 0, none⟩), .pointer (some ⟨s2, 0, none⟩), .pointer (some ⟨n, 0, none⟩)], .int .i64 15, .func (.func 60) #[] #[.pointer (some ⟨s2, 0, none⟩), .pointer (some ⟨y, 0, none⟩), .pointer (some ⟨n, 0, none⟩)], .int .i64 11, .func (.func 63) #[] #[.pointer (some ⟨c, 0, none⟩), .pointer (some ⟨n, 0, none⟩)], .int .i64 5, .func (.func 65) #[] #[.pointer (some ⟨c, 0, none⟩), .pointer (some ⟨n, 0, none⟩)]] 60 (0, 0)) := HR.out.below HB.out
  have y4r0 := y4.cell (j := 8) (v := .int .i64 15) rfl
  have y4r1 := y4.cell (j := 9) (v := .func (.func 60) #[] #[.pointer (some ⟨s2, 0, none⟩), .pointer (some ⟨y, 0, none⟩), .pointer (some ⟨n, 0, none⟩)]) rfl
  clear y4
  clear hb
  go_wp2_with fail
  rw [rounds_succ]
  go_wp2_with fail
  refine (H4.out _ (nbl_al HB.out)).mono ?_
  rintro e w5 ⟨rfl, hb⟩
  replace HB := Lib.hid (show Below w.heap.size w w5 by have h := hb; repeat (first | exact nbl_step HB.out h | replace h := nbl_new h | replace h := nbl_dr h))
  have z4 : HeapIs w5 (w4.heap.size) (.cells #[.int .i64 15, .func (.func 60) #[] #[.pointer (some ⟨s2, 0, none⟩), .pointer (some ⟨y, 0, none⟩), .pointer (some ⟨n, 0, none⟩)]] 60 (0, 0)) := (HeapIs.new _ _).below hb
  have z4r0 := z4.cell (j := 0) (v := .int .i64 15) rfl
  clear z4
  have y5 : HeapIs w5 pr (.cells #[.int .i64 9, .func (.func 52) #[] #[.pointer (some ⟨s1, 0, none⟩), .pointer (some ⟨c, 0, none⟩)], .int .i64 14, .func (.func 53) #[] #[.pointer (some ⟨l, 0, none⟩), .pointer (some ⟨s2, 0, none⟩)], .int .i64 13, .func (.func 57) #[] #[.pointer (some ⟨x, 0, none⟩), .pointer (some ⟨s2, 0, none⟩)], .int .i64 7, .func (.func 58) #[] #[.pointer (some ⟨l, 0, none⟩), .pointer (some ⟨s2, 0, none⟩), .pointer (some ⟨n, 0, none⟩)], .int .i64 15, .func (.func 60) #[] #[.pointer (some ⟨s2, 0, none⟩), .pointer (some ⟨y, 0, none⟩), .pointer (some ⟨n, 0, none⟩)], .int .i64 11, .func (.func 63) #[] #[.pointer (some ⟨c, 0, none⟩), .pointer (some ⟨n, 0, none⟩)], .int .i64 5, .func (.func 65) #[] #[.pointer (some ⟨c, 0, none⟩), .pointer (some ⟨n, 0, none⟩)]] 60 (0, 0)) := HR.out.below HB.out
  have y5r0 := y5.cell (j := 10) (v := .int .i64 11) rfl
  have y5r1 := y5.cell (j := 11) (v := .func (.func 63) #[] #[.pointer (some ⟨c, 0, none⟩), .pointer (some ⟨n, 0, none⟩)]) rfl
  clear y5
  clear hb
  go_wp2_with fail
  rw [rounds_succ]
  go_wp2_with fail
  refine (H5.out _ (nbl_al HB.out)).mono ?_
  rintro e w6 ⟨rfl, hb⟩
  replace HB := Lib.hid (show Below w.heap.size w w6 by have h := hb; repeat (first | exact nbl_step HB.out h | replace h := nbl_new h | replace h := nbl_dr h))
  have z5 : HeapIs w6 (w5.heap.size) (.cells #[.int .i64 11, .func (.func 63) #[] #[.pointer (some ⟨c, 0, none⟩), .pointer (some ⟨n, 0, none⟩)]] 60 (0, 0)) := (HeapIs.new _ _).below hb
  have z5r0 := z5.cell (j := 0) (v := .int .i64 11) rfl
  clear z5
  have y6 : HeapIs w6 pr (.cells #[.int .i64 9, .func (.func 52) #[] #[.pointer (some ⟨s1, 0, none⟩), .pointer (some ⟨c, 0, none⟩)], .int .i64 14, .func (.func 53) #[] #[.pointer (some ⟨l, 0, none⟩), .pointer (some ⟨s2, 0, none⟩)], .int .i64 13, .func (.func 57) #[] #[.pointer (some ⟨x, 0, none⟩), .pointer (some ⟨s2, 0, none⟩)], .int .i64 7, .func (.func 58) #[] #[.pointer (some ⟨l, 0, none⟩), .pointer (some ⟨s2, 0, none⟩), .pointer (some ⟨n, 0, none⟩)], .int .i64 15, .func (.func 60) #[] #[.pointer (some ⟨s2, 0, none⟩), .pointer (some ⟨y, 0, none⟩), .pointer (some ⟨n, 0, none⟩)], .int .i64 11, .func (.func 63) #[] #[.pointer (some ⟨c, 0, none⟩), .pointer (some ⟨n, 0, none⟩)], .int .i64 5, .func (.func 65) #[] #[.pointer (some ⟨c, 0, none⟩), .pointer (some ⟨n, 0, none⟩)]] 60 (0, 0)) := HR.out.below HB.out
  have y6r0 := y6.cell (j := 12) (v := .int .i64 5) rfl
  have y6r1 := y6.cell (j := 13) (v := .func (.func 65) #[] #[.pointer (some ⟨c, 0, none⟩), .pointer (some ⟨n, 0, none⟩)]) rfl
  clear y6
  clear hb
  go_wp2_with fail
  rw [rounds_succ]
  go_wp2_with fail
  refine (H6.out _ (nbl_al HB.out)).mono ?_
  rintro e w7 ⟨rfl, hb⟩
  replace HB := Lib.hid (show Below w.heap.size w w7 by have h := hb; repeat (first | exact nbl_step HB.out h | replace h := nbl_new h | replace h := nbl_dr h))
  have z6 : HeapIs w7 (w6.heap.size) (.cells #[.int .i64 5, .func (.func 65) #[] #[.pointer (some ⟨c, 0, none⟩), .pointer (some ⟨n, 0, none⟩)]] 60 (0, 0)) := (HeapIs.new _ _).below hb
  have z6r0 := z6.cell (j := 0) (v := .int .i64 5) rfl
  clear z6
  clear hb
  go_wp2_with fail
  rw [rounds_succ]
  go_wp2
  go_ret
  exact ⟨rfl, by repeat (first | exact HB.out | apply nbl_al | apply nbl_drw | refine Below.setCell ?_ (Nat.le_refl _) _ | refine nbl_set ?_ (by first | exact Nat.le_refl _ | (simp; omega) | (simp; done) | omega) )⟩

end Go.Proofs.YtmocoiamhphhnaaGreatDoor

