/- Readers of an empty node (printed by wip/genEh.py). -/
import Derived.Test.YtmocoiamhphhnaaGreatDoorEg
namespace Go.Proofs.YtmocoiamhphhnaaGreatDoor
set_option linter.unusedVariables false
set_option linter.unusedSimpArgs false
open Go.RowKit Go.MapKept

set_option maxRecDepth 100000 in
set_option maxHeartbeats 1000000 in
theorem table_none (pt ps bm : Nat) (w : World) (hT : TabE w pt ps bm) :
    Calls Tryz.prog 161 #[.pointer (some ⟨pt, 0, none⟩)] w fun e w' => e = .returned (.bool false) ∧ Below w.heap.size w w' := by
  have atb : HeapIs w (pt) (.cells #[.slice (some ⟨ps, 0, none⟩) 1 1, .int .i64 0] 73 (0, 0)) := (hT).tab
  have atbr0 := atb.cell (j := 0) (v := .slice (some ⟨ps, 0, none⟩) 1 1) rfl
  have atbr1 := atb.cell (j := 1) (v := .int .i64 0) rfl
  have asb : HeapIs w (ps) (.cells #[.map (some bm)] 74 (0, 0)) := (hT).row
  have asbr0 := asb.cell (j := 0) (v := .map (some bm)) rfl
  have HB := Lib.hid (Below.refl w.heap.size w)
  go_enter Tryz.func161, Tryz.ntmps161
  go_wp2
  go_ret
  exact ⟨rfl, by repeat (first | exact HB.out | apply nbl_al | apply nbl_drw | refine Below.setCell ?_ (Nat.le_refl _) _ | refine nbl_set ?_ (by first | exact Nat.le_refl _ | (simp; omega) | (simp; done) | omega) )⟩

set_option maxRecDepth 100000 in
set_option maxHeartbeats 1000000 in
theorem table_room (pt ps bm : Nat) (w : World) (hT : TabE w pt ps bm) :
    Calls Tryz.prog 96 #[.pointer (some ⟨pt, 0, none⟩)] w fun e w' => e = .returned (.int .i64 1024) ∧ Below w.heap.size w w' := by
  have HB := Lib.hid (Below.refl w.heap.size w)
  go_enter Tryz.func96, Tryz.ntmps96
  go_wp2_with fail
  refine (table_none pt ps bm _ hT).mono ?_
  rintro e w1 ⟨rfl, hb⟩
  replace HB := Lib.hid (show Below w.heap.size w w1 by have h := hb; repeat (first | exact nbl_step HB.out h | replace h := nbl_new h | replace h := nbl_dr h))
  have btb : HeapIs w1 (pt) (.cells #[.slice (some ⟨ps, 0, none⟩) 1 1, .int .i64 0] 73 (0, 0)) := (hT.later HB.out).tab
  have btbr0 := btb.cell (j := 0) (v := .slice (some ⟨ps, 0, none⟩) 1 1) rfl
  have btbr1 := btb.cell (j := 1) (v := .int .i64 0) rfl
  have bsb : HeapIs w1 (ps) (.cells #[.map (some bm)] 74 (0, 0)) := (hT.later HB.out).row
  have bsbr0 := bsb.cell (j := 0) (v := .map (some bm)) rfl
  clear hb
  go_wp2
  go_ret
  exact ⟨rfl, by repeat (first | exact HB.out | apply nbl_al | apply nbl_drw | refine Below.setCell ?_ (Nat.le_refl _) _ | refine nbl_set ?_ (by first | exact Nat.le_refl _ | (simp; omega) | (simp; done) | omega) )⟩

set_option maxRecDepth 100000 in
set_option maxHeartbeats 1000000 in
theorem table_stripe_true (s : ByteArray) (hs : s.size ≤ 100000) (hk : keyL s.data.toList = true) (pt ps bm : Nat) (w : World) (hT : TabE w pt ps bm) (hE : Env w) :
    Calls Tryz.prog 151 #[.pointer (some ⟨pt, 0, none⟩), .string s] w fun e w' => e = .returned (.tuple #[.int .i64 0, .int .i64 0]) ∧ Below w.heap.size w w' := by
  have HB := Lib.hid (Below.refl w.heap.size w)
  go_enter Tryz.func151, Tryz.ntmps151
  have HE := Lib.hid hE
  clear hE
  go_wp2_with fail
  refine (table_none pt ps bm _ hT).mono ?_
  rintro e w1 ⟨rfl, hb⟩
  replace HB := Lib.hid (show Below w.heap.size w w1 by have h := hb; repeat (first | exact nbl_step HB.out h | replace h := nbl_new h | replace h := nbl_dr h))
  have btb : HeapIs w1 (pt) (.cells #[.slice (some ⟨ps, 0, none⟩) 1 1, .int .i64 0] 73 (0, 0)) := (hT.later HB.out).tab
  have btbr0 := btb.cell (j := 0) (v := .slice (some ⟨ps, 0, none⟩) 1 1) rfl
  have btbr1 := btb.cell (j := 1) (v := .int .i64 0) rfl
  have bsb : HeapIs w1 (ps) (.cells #[.map (some bm)] 74 (0, 0)) := (hT.later HB.out).row
  have bsbr0 := bsb.cell (j := 0) (v := .map (some bm)) rfl
  clear hb
  have HK : Hid (∀ W, Calls Tryz.prog 26 #[.string s] W fun e w' => e = .returned (.bool true) ∧ Below W.heap.size W w') := Lib.hid (fun W => by rw [← hk]; exact key_any s hs W)
  clear hk
  go_wp2_with fail
  refine (HK.out _).mono ?_
  rintro e w2 ⟨rfl, hb⟩
  replace HB := Lib.hid (show Below w.heap.size w w2 by have h := hb; repeat (first | exact nbl_step HB.out h | replace h := nbl_new h | replace h := nbl_dr h))
  have ctb : HeapIs w2 (pt) (.cells #[.slice (some ⟨ps, 0, none⟩) 1 1, .int .i64 0] 73 (0, 0)) := (hT.later HB.out).tab
  have ctbr0 := ctb.cell (j := 0) (v := .slice (some ⟨ps, 0, none⟩) 1 1) rfl
  have ctbr1 := ctb.cell (j := 1) (v := .int .i64 0) rfl
  have csb : HeapIs w2 (ps) (.cells #[.map (some bm)] 74 (0, 0)) := (hT.later HB.out).row
  have csbr0 := csb.cell (j := 0) (v := .map (some bm)) rfl
  clear hb
  go_wp2_with fail
  refine (stripe_one s hs _ (HE.out.later HB.out)).mono ?_
  rintro e w3 ⟨rfl, hb⟩
  replace HB := Lib.hid (show Below w.heap.size w w3 by have h := hb; repeat (first | exact nbl_step HB.out h | replace h := nbl_new h | replace h := nbl_dr h))
  clear hb
  go_wp2
  go_ret2
  exact ⟨rfl, by repeat (first | exact HB.out | apply nbl_al | apply nbl_drw | refine Below.setCell ?_ (Nat.le_refl _) _ | refine nbl_set ?_ (by first | exact Nat.le_refl _ | (simp; omega) | (simp; done) | omega) )⟩

set_option maxRecDepth 100000 in
set_option maxHeartbeats 1000000 in
theorem table_stripe_false (s : ByteArray) (hs : s.size ≤ 100000) (hk : keyL s.data.toList = false) (pt ps bm : Nat) (w : World) (hT : TabE w pt ps bm) (hE : Env w) :
    Calls Tryz.prog 151 #[.pointer (some ⟨pt, 0, none⟩), .string s] w fun e w' => e = .returned (.tuple #[.int .i64 0, .int .i64 2]) ∧ Below w.heap.size w w' := by
  have HB := Lib.hid (Below.refl w.heap.size w)
  go_enter Tryz.func151, Tryz.ntmps151
  have HE := Lib.hid hE
  clear hE
  go_wp2_with fail
  refine (table_none pt ps bm _ hT).mono ?_
  rintro e w1 ⟨rfl, hb⟩
  replace HB := Lib.hid (show Below w.heap.size w w1 by have h := hb; repeat (first | exact nbl_step HB.out h | replace h := nbl_new h | replace h := nbl_dr h))
  have btb : HeapIs w1 (pt) (.cells #[.slice (some ⟨ps, 0, none⟩) 1 1, .int .i64 0] 73 (0, 0)) := (hT.later HB.out).tab
  have btbr0 := btb.cell (j := 0) (v := .slice (some ⟨ps, 0, none⟩) 1 1) rfl
  have btbr1 := btb.cell (j := 1) (v := .int .i64 0) rfl
  have bsb : HeapIs w1 (ps) (.cells #[.map (some bm)] 74 (0, 0)) := (hT.later HB.out).row
  have bsbr0 := bsb.cell (j := 0) (v := .map (some bm)) rfl
  clear hb
  have HK : Hid (∀ W, Calls Tryz.prog 26 #[.string s] W fun e w' => e = .returned (.bool false) ∧ Below W.heap.size W w') := Lib.hid (fun W => by rw [← hk]; exact key_any s hs W)
  clear hk
  go_wp2_with fail
  refine (HK.out _).mono ?_
  rintro e w2 ⟨rfl, hb⟩
  replace HB := Lib.hid (show Below w.heap.size w w2 by have h := hb; repeat (first | exact nbl_step HB.out h | replace h := nbl_new h | replace h := nbl_dr h))
  have ctb : HeapIs w2 (pt) (.cells #[.slice (some ⟨ps, 0, none⟩) 1 1, .int .i64 0] 73 (0, 0)) := (hT.later HB.out).tab
  have ctbr0 := ctb.cell (j := 0) (v := .slice (some ⟨ps, 0, none⟩) 1 1) rfl
  have ctbr1 := ctb.cell (j := 1) (v := .int .i64 0) rfl
  have csb : HeapIs w2 (ps) (.cells #[.map (some bm)] 74 (0, 0)) := (hT.later HB.out).row
  have csbr0 := csb.cell (j := 0) (v := .map (some bm)) rfl
  clear hb
  go_wp2
  go_ret2
  exact ⟨rfl, by repeat (first | exact HB.out | apply nbl_al | apply nbl_drw | refine Below.setCell ?_ (Nat.le_refl _) _ | refine nbl_set ?_ (by first | exact Nat.le_refl _ | (simp; omega) | (simp; done) | omega) )⟩

set_option maxRecDepth 100000 in
set_option maxHeartbeats 1000000 in
theorem counter_none (pd : Nat) (w : World) (hD : DotE w pd) :
    Calls Tryz.prog 166 #[.pointer (some ⟨pd, 0, none⟩)] w fun e w' => e = .returned (.bool false) ∧ Below w.heap.size w w' := by
  have adb : HeapIs w (pd) (.cells #[.int .i64 1, .int .i64 0] 79 (0, 0)) := hD
  have adbr0 := adb.cell (j := 0) (v := .int .i64 1) rfl
  have adbr1 := adb.cell (j := 1) (v := .int .i64 0) rfl
  have HB := Lib.hid (Below.refl w.heap.size w)
  go_enter Tryz.func166, Tryz.ntmps166
  go_wp2
  go_ret
  exact ⟨rfl, by repeat (first | exact HB.out | apply nbl_al | apply nbl_drw | refine Below.setCell ?_ (Nat.le_refl _) _ | refine nbl_set ?_ (by first | exact Nat.le_refl _ | (simp; omega) | (simp; done) | omega) )⟩

set_option maxRecDepth 100000 in
set_option maxHeartbeats 1000000 in
theorem counter_last (pd : Nat) (w : World) (hD : DotE w pd) :
    Calls Tryz.prog 98 #[.pointer (some ⟨pd, 0, none⟩)] w fun e w' => e = .returned (.int .i64 0) ∧ Below w.heap.size w w' := by
  have HB := Lib.hid (Below.refl w.heap.size w)
  go_enter Tryz.func98, Tryz.ntmps98
  go_wp2_with fail
  refine (counter_none pd _ hD).mono ?_
  rintro e w1 ⟨rfl, hb⟩
  replace HB := Lib.hid (show Below w.heap.size w w1 by have h := hb; repeat (first | exact nbl_step HB.out h | replace h := nbl_new h | replace h := nbl_dr h))
  have bdb : HeapIs w1 (pd) (.cells #[.int .i64 1, .int .i64 0] 79 (0, 0)) := HeapIs.below hD HB.out
  have bdbr0 := bdb.cell (j := 0) (v := .int .i64 1) rfl
  have bdbr1 := bdb.cell (j := 1) (v := .int .i64 0) rfl
  clear hb
  go_wp2
  go_ret
  exact ⟨rfl, by repeat (first | exact HB.out | apply nbl_al | apply nbl_drw | refine Below.setCell ?_ (Nat.le_refl _) _ | refine nbl_set ?_ (by first | exact Nat.le_refl _ | (simp; omega) | (simp; done) | omega) )⟩

set_option maxRecDepth 100000 in
set_option maxHeartbeats 1000000 in
theorem node_none (pn pt pd pi po ps bm : Nat) (w : World) (hN : NodeE w pn pt pd pi po ps bm) :
    Calls Tryz.prog 48 #[.pointer (some ⟨pn, 0, none⟩)] w fun e w' => e = .returned (.bool false) ∧ Below w.heap.size w w' := by
  have anb : HeapIs w (pn) (.cells #[.int .i64 1, .int .i64 1, .int .i64 1, .int .i64 1, .pointer (some ⟨pt, 0, none⟩), .pointer (some ⟨pd, 0, none⟩), .pointer (some ⟨pi, 0, none⟩), .pointer (some ⟨po, 0, none⟩), .bool false] 40 (0, 0)) := (hN).node
  have anbr0 := anb.cell (j := 0) (v := .int .i64 1) rfl
  have anbr1 := anb.cell (j := 1) (v := .int .i64 1) rfl
  have anbr2 := anb.cell (j := 2) (v := .int .i64 1) rfl
  have anbr3 := anb.cell (j := 3) (v := .int .i64 1) rfl
  have anbr4 := anb.cell (j := 4) (v := .pointer (some ⟨pt, 0, none⟩)) rfl
  have anbr5 := anb.cell (j := 5) (v := .pointer (some ⟨pd, 0, none⟩)) rfl
  have anbr6 := anb.cell (j := 6) (v := .pointer (some ⟨pi, 0, none⟩)) rfl
  have anbr7 := anb.cell (j := 7) (v := .pointer (some ⟨po, 0, none⟩)) rfl
  have anbr8 := anb.cell (j := 8) (v := .bool false) rfl
  have HB := Lib.hid (Below.refl w.heap.size w)
  go_enter Tryz.func48, Tryz.ntmps48
  go_wp2
  go_ret
  exact ⟨rfl, by repeat (first | exact HB.out | apply nbl_al | apply nbl_drw | refine Below.setCell ?_ (Nat.le_refl _) _ | refine nbl_set ?_ (by first | exact Nat.le_refl _ | (simp; omega) | (simp; done) | omega) )⟩

set_option maxRecDepth 100000 in
set_option maxHeartbeats 1000000 in
theorem node_closed (pn pt pd pi po ps bm : Nat) (w : World) (hN : NodeE w pn pt pd pi po ps bm) :
    Calls Tryz.prog 37 #[.pointer (some ⟨pn, 0, none⟩)] w fun e w' => e = .returned (.bool false) ∧ Below w.heap.size w w' := by
  have HB := Lib.hid (Below.refl w.heap.size w)
  go_enter Tryz.func37, Tryz.ntmps37
  go_wp2_with fail
  refine (node_none pn pt pd pi po ps bm _ hN).mono ?_
  rintro e w1 ⟨rfl, hb⟩
  replace HB := Lib.hid (show Below w.heap.size w w1 by have h := hb; repeat (first | exact nbl_step HB.out h | replace h := nbl_new h | replace h := nbl_dr h))
  have bnb : HeapIs w1 (pn) (.cells #[.int .i64 1, .int .i64 1, .int .i64 1, .int .i64 1, .pointer (some ⟨pt, 0, none⟩), .pointer (some ⟨pd, 0, none⟩), .pointer (some ⟨pi, 0, none⟩), .pointer (some ⟨po, 0, none⟩), .bool false] 40 (0, 0)) := (hN.later HB.out).node
  have bnbr0 := bnb.cell (j := 0) (v := .int .i64 1) rfl
  have bnbr1 := bnb.cell (j := 1) (v := .int .i64 1) rfl
  have bnbr2 := bnb.cell (j := 2) (v := .int .i64 1) rfl
  have bnbr3 := bnb.cell (j := 3) (v := .int .i64 1) rfl
  have bnbr4 := bnb.cell (j := 4) (v := .pointer (some ⟨pt, 0, none⟩)) rfl
  have bnbr5 := bnb.cell (j := 5) (v := .pointer (some ⟨pd, 0, none⟩)) rfl
  have bnbr6 := bnb.cell (j := 6) (v := .pointer (some ⟨pi, 0, none⟩)) rfl
  have bnbr7 := bnb.cell (j := 7) (v := .pointer (some ⟨po, 0, none⟩)) rfl
  have bnbr8 := bnb.cell (j := 8) (v := .bool false) rfl
  clear hb
  go_wp2
  go_ret
  exact ⟨rfl, by repeat (first | exact HB.out | apply nbl_al | apply nbl_drw | refine Below.setCell ?_ (Nat.le_refl _) _ | refine nbl_set ?_ (by first | exact Nat.le_refl _ | (simp; omega) | (simp; done) | omega) )⟩

set_option maxRecDepth 100000 in
set_option maxHeartbeats 1000000 in
theorem node_room (pn pt pd pi po ps bm : Nat) (w : World) (hN : NodeE w pn pt pd pi po ps bm) :
    Calls Tryz.prog 59 #[.pointer (some ⟨pn, 0, none⟩)] w fun e w' => e = .returned (.int .i64 1024) ∧ Below w.heap.size w w' := by
  have HB := Lib.hid (Below.refl w.heap.size w)
  go_enter Tryz.func59, Tryz.ntmps59
  go_wp2_with fail
  refine (node_none pn pt pd pi po ps bm _ hN).mono ?_
  rintro e w1 ⟨rfl, hb⟩
  replace HB := Lib.hid (show Below w.heap.size w w1 by have h := hb; repeat (first | exact nbl_step HB.out h | replace h := nbl_new h | replace h := nbl_dr h))
  have bnb : HeapIs w1 (pn) (.cells #[.int .i64 1, .int .i64 1, .int .i64 1, .int .i64 1, .pointer (some ⟨pt, 0, none⟩), .pointer (some ⟨pd, 0, none⟩), .pointer (some ⟨pi, 0, none⟩), .pointer (some ⟨po, 0, none⟩), .bool false] 40 (0, 0)) := (hN.later HB.out).node
  have bnbr0 := bnb.cell (j := 0) (v := .int .i64 1) rfl
  have bnbr1 := bnb.cell (j := 1) (v := .int .i64 1) rfl
  have bnbr2 := bnb.cell (j := 2) (v := .int .i64 1) rfl
  have bnbr3 := bnb.cell (j := 3) (v := .int .i64 1) rfl
  have bnbr4 := bnb.cell (j := 4) (v := .pointer (some ⟨pt, 0, none⟩)) rfl
  have bnbr5 := bnb.cell (j := 5) (v := .pointer (some ⟨pd, 0, none⟩)) rfl
  have bnbr6 := bnb.cell (j := 6) (v := .pointer (some ⟨pi, 0, none⟩)) rfl
  have bnbr7 := bnb.cell (j := 7) (v := .pointer (some ⟨po, 0, none⟩)) rfl
  have bnbr8 := bnb.cell (j := 8) (v := .bool false) rfl
  clear hb
  go_wp2_with fail
  refine (table_room pt ps bm _ (hN.later HB.out).tabs).mono ?_
  rintro e w2 ⟨rfl, hb⟩
  replace HB := Lib.hid (show Below w.heap.size w w2 by have h := hb; repeat (first | exact nbl_step HB.out h | replace h := nbl_new h | replace h := nbl_dr h))
  clear hb
  go_wp2
  go_ret
  exact ⟨rfl, by repeat (first | exact HB.out | apply nbl_al | apply nbl_drw | refine Below.setCell ?_ (Nat.le_refl _) _ | refine nbl_set ?_ (by first | exact Nat.le_refl _ | (simp; omega) | (simp; done) | omega) )⟩

set_option maxRecDepth 100000 in
set_option maxHeartbeats 1000000 in
theorem node_last (pn pt pd pi po ps bm : Nat) (w : World) (hN : NodeE w pn pt pd pi po ps bm) :
    Calls Tryz.prog 62 #[.pointer (some ⟨pn, 0, none⟩)] w fun e w' => e = .returned (.int .i64 0) ∧ Below w.heap.size w w' := by
  have HB := Lib.hid (Below.refl w.heap.size w)
  go_enter Tryz.func62, Tryz.ntmps62
  go_wp2_with fail
  refine (node_none pn pt pd pi po ps bm _ hN).mono ?_
  rintro e w1 ⟨rfl, hb⟩
  replace HB := Lib.hid (show Below w.heap.size w w1 by have h := hb; repeat (first | exact nbl_step HB.out h | replace h := nbl_new h | replace h := nbl_dr h))
  have bnb : HeapIs w1 (pn) (.cells #[.int .i64 1, .int .i64 1, .int .i64 1, .int .i64 1, .pointer (some ⟨pt, 0, none⟩), .pointer (some ⟨pd, 0, none⟩), .pointer (some ⟨pi, 0, none⟩), .pointer (some ⟨po, 0, none⟩), .bool false] 40 (0, 0)) := (hN.later HB.out).node
  have bnbr0 := bnb.cell (j := 0) (v := .int .i64 1) rfl
  have bnbr1 := bnb.cell (j := 1) (v := .int .i64 1) rfl
  have bnbr2 := bnb.cell (j := 2) (v := .int .i64 1) rfl
  have bnbr3 := bnb.cell (j := 3) (v := .int .i64 1) rfl
  have bnbr4 := bnb.cell (j := 4) (v := .pointer (some ⟨pt, 0, none⟩)) rfl
  have bnbr5 := bnb.cell (j := 5) (v := .pointer (some ⟨pd, 0, none⟩)) rfl
  have bnbr6 := bnb.cell (j := 6) (v := .pointer (some ⟨pi, 0, none⟩)) rfl
  have bnbr7 := bnb.cell (j := 7) (v := .pointer (some ⟨po, 0, none⟩)) rfl
  have bnbr8 := bnb.cell (j := 8) (v := .bool false) rfl
  clear hb
  go_wp2_with fail
  refine (counter_last pd _ (hN.later HB.out).dots).mono ?_
  rintro e w2 ⟨rfl, hb⟩
  replace HB := Lib.hid (show Below w.heap.size w w2 by have h := hb; repeat (first | exact nbl_step HB.out h | replace h := nbl_new h | replace h := nbl_dr h))
  clear hb
  go_wp2
  go_ret
  exact ⟨rfl, by repeat (first | exact HB.out | apply nbl_al | apply nbl_drw | refine Below.setCell ?_ (Nat.le_refl _) _ | refine nbl_set ?_ (by first | exact Nat.le_refl _ | (simp; omega) | (simp; done) | omega) )⟩

set_option maxRecDepth 100000 in
set_option maxHeartbeats 1000000 in
theorem node_config (pn pt pd pi po ps bm : Nat) (w : World) (hN : NodeE w pn pt pd pi po ps bm) :
    Calls Tryz.prog 36 #[.pointer (some ⟨pn, 0, none⟩)] w fun e w' => e = .returned (.agg #[.int .i64 1, .int .i64 1, .int .i64 1, .int .i64 1]) ∧ Below w.heap.size w w' := by
  have HB := Lib.hid (Below.refl w.heap.size w)
  go_enter Tryz.func36, Tryz.ntmps36
  have NA := hN.al (.cells #[.int .i64 0, .int .i64 0, .int .i64 0, .int .i64 0] 34)
  go_wp2_with fail
  refine (node_none pn pt pd pi po ps bm _ NA).mono ?_
  rintro e w1 ⟨rfl, hb⟩
  replace HB := Lib.hid (show Below w.heap.size w w1 by have h := hb; repeat (first | exact nbl_step HB.out h | replace h := nbl_new h | replace h := nbl_dr h))
  have bnb : HeapIs w1 (pn) (.cells #[.int .i64 1, .int .i64 1, .int .i64 1, .int .i64 1, .pointer (some ⟨pt, 0, none⟩), .pointer (some ⟨pd, 0, none⟩), .pointer (some ⟨pi, 0, none⟩), .pointer (some ⟨po, 0, none⟩), .bool false] 40 (0, 0)) := (NA.later hb).node
  have bnbr0 := bnb.cell (j := 0) (v := .int .i64 1) rfl
  have bnbr1 := bnb.cell (j := 1) (v := .int .i64 1) rfl
  have bnbr2 := bnb.cell (j := 2) (v := .int .i64 1) rfl
  have bnbr3 := bnb.cell (j := 3) (v := .int .i64 1) rfl
  have bnbr4 := bnb.cell (j := 4) (v := .pointer (some ⟨pt, 0, none⟩)) rfl
  have bnbr5 := bnb.cell (j := 5) (v := .pointer (some ⟨pd, 0, none⟩)) rfl
  have bnbr6 := bnb.cell (j := 6) (v := .pointer (some ⟨pi, 0, none⟩)) rfl
  have bnbr7 := bnb.cell (j := 7) (v := .pointer (some ⟨po, 0, none⟩)) rfl
  have bnbr8 := bnb.cell (j := 8) (v := .bool false) rfl
  have j : HeapIs w1 (w.heap.size) (.cells #[.int .i64 0, .int .i64 0, .int .i64 0, .int .i64 0] 34 (0, 0)) := (HeapIs.new _ _).below hb
  have jr0 := j.cell (j := 0) (v := .int .i64 0) rfl
  have jr1 := j.cell (j := 1) (v := .int .i64 0) rfl
  have jr2 := j.cell (j := 2) (v := .int .i64 0) rfl
  have jr3 := j.cell (j := 3) (v := .int .i64 0) rfl
  have js := j.frozen
  clear hb
  go_wp2
  refine bodyPost_ret (by simp [results, Tryz.results36, go_sem, jr0, jr1, jr2, jr3]; try rfl) rfl ?_
  exact ⟨rfl, by repeat (first | exact HB.out | apply nbl_al | apply nbl_drw | refine Below.setCell ?_ (Nat.le_refl _) _ | refine nbl_set ?_ (by first | exact Nat.le_refl _ | (simp; omega) | (simp; done) | omega) )⟩

end Go.Proofs.YtmocoiamhphhnaaGreatDoor

