/- What a call bears (printed by wip/genEk.py). -/
import Derived.Test.YtmocoiamhphhnaaGreatDoorEj
namespace Go.Proofs.YtmocoiamhphhnaaGreatDoor
set_option linter.unusedVariables false
set_option linter.unusedSimpArgs false
open Go.RowKit Go.MapKept

set_option maxRecDepth 100000 in
set_option maxHeartbeats 1000000 in
theorem decode_nil  (w : World)  :
    Calls Tryz.prog 33 #[.slice none 0 0] w fun e w' => e = .returned (.tuple #[.slice none 0 0, .int .i64 12]) ∧ Below w.heap.size w w' := by
  have HB := Lib.hid (Below.refl w.heap.size w)
  go_enter Tryz.func33, Tryz.ntmps33
  go_wp2
  go_ret2
  exact ⟨rfl, by repeat (first | exact HB.out | apply nbl_al | apply nbl_drw | refine Below.setCell ?_ (Nat.le_refl _) _ | refine nbl_set ?_ (by first | exact Nat.le_refl _ | (simp; omega) | (simp; done) | omega) )⟩

set_option maxRecDepth 100000 in
set_option maxHeartbeats 1000000 in
theorem needs_1 (k t i : ByteArray) (q : Int) (d : Value) (c : UInt8) (b : Bool) (hb : decide (0 ≤ Lib.indexByte ([107, 105, 113] : List UInt8) c) = b) (w : World) (hE : Env w) :
    Calls Tryz.prog 25 #[.agg #[.int .i64 1, .string k, .string t, .string i, .int .i64 q, d], .string ⟨#[c]⟩] w fun e w' => e = .returned (.bool b) ∧ Below w.heap.size w w' := by
  have hp : (w.alloc (.cells #[.int .i64 1, .string k, .string t, .string i, .int .i64 q, d] 29)).cell? ⟨1, 1, none⟩ = some (.string ⟨#[107, 105, 113]⟩) := (hE.later ((Below.refl _ _).alloc (Nat.le_refl _) _)).parts 1 _ rfl
  clear hE
  have HB := Lib.hid (Below.refl w.heap.size w)
  go_enter Tryz.func25, Tryz.ntmps25
  go_wp2_with fail
  refine (Tryz.strings_Contains_one _ c _).mono ?_
  rintro e w1 ⟨rfl, hw1⟩
  have hcb : decide (0 ≤ Lib.indexByte (ByteArray.mk #[107, 105, 113]).data.toList c) = b := hb
  rw [hcb]
  replace HB := Lib.hid (show Below w.heap.size w w1 by rw [hw1]; exact nbl_al HB.out)
  clear hb hcb hw1
  go_wp2
  go_ret
  exact ⟨rfl, by repeat (first | exact HB.out | apply nbl_al | apply nbl_drw | refine Below.setCell ?_ (Nat.le_refl _) _ | refine nbl_set ?_ (by first | exact Nat.le_refl _ | (simp; omega) | (simp; done) | omega) )⟩

set_option maxRecDepth 100000 in
set_option maxHeartbeats 1000000 in
theorem needs_2 (k t i : ByteArray) (q : Int) (d : Value) (c : UInt8) (b : Bool) (hb : decide (0 ≤ Lib.indexByte ([107, 105, 113] : List UInt8) c) = b) (w : World) (hE : Env w) :
    Calls Tryz.prog 25 #[.agg #[.int .i64 2, .string k, .string t, .string i, .int .i64 q, d], .string ⟨#[c]⟩] w fun e w' => e = .returned (.bool b) ∧ Below w.heap.size w w' := by
  have hp : (w.alloc (.cells #[.int .i64 2, .string k, .string t, .string i, .int .i64 q, d] 29)).cell? ⟨1, 2, none⟩ = some (.string ⟨#[107, 105, 113]⟩) := (hE.later ((Below.refl _ _).alloc (Nat.le_refl _) _)).parts 2 _ rfl
  clear hE
  have HB := Lib.hid (Below.refl w.heap.size w)
  go_enter Tryz.func25, Tryz.ntmps25
  go_wp2_with fail
  refine (Tryz.strings_Contains_one _ c _).mono ?_
  rintro e w1 ⟨rfl, hw1⟩
  have hcb : decide (0 ≤ Lib.indexByte (ByteArray.mk #[107, 105, 113]).data.toList c) = b := hb
  rw [hcb]
  replace HB := Lib.hid (show Below w.heap.size w w1 by rw [hw1]; exact nbl_al HB.out)
  clear hb hcb hw1
  go_wp2
  go_ret
  exact ⟨rfl, by repeat (first | exact HB.out | apply nbl_al | apply nbl_drw | refine Below.setCell ?_ (Nat.le_refl _) _ | refine nbl_set ?_ (by first | exact Nat.le_refl _ | (simp; omega) | (simp; done) | omega) )⟩

set_option maxRecDepth 100000 in
set_option maxHeartbeats 1000000 in
theorem needs_4 (k t i : ByteArray) (q : Int) (d : Value) (c : UInt8) (b : Bool) (hb : decide (0 ≤ Lib.indexByte ([107] : List UInt8) c) = b) (w : World) (hE : Env w) :
    Calls Tryz.prog 25 #[.agg #[.int .i64 4, .string k, .string t, .string i, .int .i64 q, d], .string ⟨#[c]⟩] w fun e w' => e = .returned (.bool b) ∧ Below w.heap.size w w' := by
  have hp : (w.alloc (.cells #[.int .i64 4, .string k, .string t, .string i, .int .i64 q, d] 29)).cell? ⟨1, 4, none⟩ = some (.string ⟨#[107]⟩) := (hE.later ((Below.refl _ _).alloc (Nat.le_refl _) _)).parts 4 _ rfl
  clear hE
  have HB := Lib.hid (Below.refl w.heap.size w)
  go_enter Tryz.func25, Tryz.ntmps25
  go_wp2_with fail
  refine (Tryz.strings_Contains_one _ c _).mono ?_
  rintro e w1 ⟨rfl, hw1⟩
  have hcb : decide (0 ≤ Lib.indexByte (ByteArray.mk #[107]).data.toList c) = b := hb
  rw [hcb]
  replace HB := Lib.hid (show Below w.heap.size w w1 by rw [hw1]; exact nbl_al HB.out)
  clear hb hcb hw1
  go_wp2
  go_ret
  exact ⟨rfl, by repeat (first | exact HB.out | apply nbl_al | apply nbl_drw | refine Below.setCell ?_ (Nat.le_refl _) _ | refine nbl_set ?_ (by first | exact Nat.le_refl _ | (simp; omega) | (simp; done) | omega) )⟩

set_option maxRecDepth 100000 in
set_option maxHeartbeats 1000000 in
theorem needs_6 (k t i : ByteArray) (q : Int) (d : Value) (c : UInt8) (b : Bool) (hb : decide (0 ≤ Lib.indexByte ([107, 111, 105] : List UInt8) c) = b) (w : World) (hE : Env w) :
    Calls Tryz.prog 25 #[.agg #[.int .i64 6, .string k, .string t, .string i, .int .i64 q, d], .string ⟨#[c]⟩] w fun e w' => e = .returned (.bool b) ∧ Below w.heap.size w w' := by
  have hp : (w.alloc (.cells #[.int .i64 6, .string k, .string t, .string i, .int .i64 q, d] 29)).cell? ⟨1, 6, none⟩ = some (.string ⟨#[107, 111, 105]⟩) := (hE.later ((Below.refl _ _).alloc (Nat.le_refl _) _)).parts 6 _ rfl
  clear hE
  have HB := Lib.hid (Below.refl w.heap.size w)
  go_enter Tryz.func25, Tryz.ntmps25
  go_wp2_with fail
  refine (Tryz.strings_Contains_one _ c _).mono ?_
  rintro e w1 ⟨rfl, hw1⟩
  have hcb : decide (0 ≤ Lib.indexByte (ByteArray.mk #[107, 111, 105]).data.toList c) = b := hb
  rw [hcb]
  replace HB := Lib.hid (show Below w.heap.size w w1 by rw [hw1]; exact nbl_al HB.out)
  clear hb hcb hw1
  go_wp2
  go_ret
  exact ⟨rfl, by repeat (first | exact HB.out | apply nbl_al | apply nbl_drw | refine Below.setCell ?_ (Nat.le_refl _) _ | refine nbl_set ?_ (by first | exact Nat.le_refl _ | (simp; omega) | (simp; done) | omega) )⟩

set_option maxRecDepth 100000 in
set_option maxHeartbeats 1000000 in
theorem needs_7 (k t i : ByteArray) (q : Int) (d : Value) (c : UInt8) (b : Bool) (hb : decide (0 ≤ Lib.indexByte ([107, 111] : List UInt8) c) = b) (w : World) (hE : Env w) :
    Calls Tryz.prog 25 #[.agg #[.int .i64 7, .string k, .string t, .string i, .int .i64 q, d], .string ⟨#[c]⟩] w fun e w' => e = .returned (.bool b) ∧ Below w.heap.size w w' := by
  have hp : (w.alloc (.cells #[.int .i64 7, .string k, .string t, .string i, .int .i64 q, d] 29)).cell? ⟨1, 7, none⟩ = some (.string ⟨#[107, 111]⟩) := (hE.later ((Below.refl _ _).alloc (Nat.le_refl _) _)).parts 7 _ rfl
  clear hE
  have HB := Lib.hid (Below.refl w.heap.size w)
  go_enter Tryz.func25, Tryz.ntmps25
  go_wp2_with fail
  refine (Tryz.strings_Contains_one _ c _).mono ?_
  rintro e w1 ⟨rfl, hw1⟩
  have hcb : decide (0 ≤ Lib.indexByte (ByteArray.mk #[107, 111]).data.toList c) = b := hb
  rw [hcb]
  replace HB := Lib.hid (show Below w.heap.size w w1 by rw [hw1]; exact nbl_al HB.out)
  clear hb hcb hw1
  go_wp2
  go_ret
  exact ⟨rfl, by repeat (first | exact HB.out | apply nbl_al | apply nbl_drw | refine Below.setCell ?_ (Nat.le_refl _) _ | refine nbl_set ?_ (by first | exact Nat.le_refl _ | (simp; omega) | (simp; done) | omega) )⟩

set_option maxRecDepth 100000 in
set_option maxHeartbeats 1000000 in
theorem needs_8 (k t i : ByteArray) (q : Int) (d : Value) (c : UInt8) (b : Bool) (hb : decide (0 ≤ Lib.indexByte ([100] : List UInt8) c) = b) (w : World) (hE : Env w) :
    Calls Tryz.prog 25 #[.agg #[.int .i64 8, .string k, .string t, .string i, .int .i64 q, d], .string ⟨#[c]⟩] w fun e w' => e = .returned (.bool b) ∧ Below w.heap.size w w' := by
  have hp : (w.alloc (.cells #[.int .i64 8, .string k, .string t, .string i, .int .i64 q, d] 29)).cell? ⟨1, 8, none⟩ = some (.string ⟨#[100]⟩) := (hE.later ((Below.refl _ _).alloc (Nat.le_refl _) _)).parts 8 _ rfl
  clear hE
  have HB := Lib.hid (Below.refl w.heap.size w)
  go_enter Tryz.func25, Tryz.ntmps25
  go_wp2_with fail
  refine (Tryz.strings_Contains_one _ c _).mono ?_
  rintro e w1 ⟨rfl, hw1⟩
  have hcb : decide (0 ≤ Lib.indexByte (ByteArray.mk #[100]).data.toList c) = b := hb
  rw [hcb]
  replace HB := Lib.hid (show Below w.heap.size w w1 by rw [hw1]; exact nbl_al HB.out)
  clear hb hcb hw1
  go_wp2
  go_ret
  exact ⟨rfl, by repeat (first | exact HB.out | apply nbl_al | apply nbl_drw | refine Below.setCell ?_ (Nat.le_refl _) _ | refine nbl_set ?_ (by first | exact Nat.le_refl _ | (simp; omega) | (simp; done) | omega) )⟩

set_option maxRecDepth 100000 in
set_option maxHeartbeats 1000000 in
theorem needs_9 (k t i : ByteArray) (q : Int) (d : Value) (c : UInt8) (b : Bool) (hb : decide (0 ≤ Lib.indexByte ([] : List UInt8) c) = b) (w : World) (hE : Env w) :
    Calls Tryz.prog 25 #[.agg #[.int .i64 9, .string k, .string t, .string i, .int .i64 q, d], .string ⟨#[c]⟩] w fun e w' => e = .returned (.bool b) ∧ Below w.heap.size w w' := by
  have hp : (w.alloc (.cells #[.int .i64 9, .string k, .string t, .string i, .int .i64 q, d] 29)).cell? ⟨1, 9, none⟩ = some (.string ⟨#[]⟩) := (hE.later ((Below.refl _ _).alloc (Nat.le_refl _) _)).parts 9 _ rfl
  clear hE
  have HB := Lib.hid (Below.refl w.heap.size w)
  go_enter Tryz.func25, Tryz.ntmps25
  go_wp2_with fail
  refine (Tryz.strings_Contains_one _ c _).mono ?_
  rintro e w1 ⟨rfl, hw1⟩
  have hcb : decide (0 ≤ Lib.indexByte (ByteArray.mk #[]).data.toList c) = b := hb
  rw [hcb]
  replace HB := Lib.hid (show Below w.heap.size w w1 by rw [hw1]; exact nbl_al HB.out)
  clear hb hcb hw1
  go_wp2
  go_ret
  exact ⟨rfl, by repeat (first | exact HB.out | apply nbl_al | apply nbl_drw | refine Below.setCell ?_ (Nat.le_refl _) _ | refine nbl_set ?_ (by first | exact Nat.le_refl _ | (simp; omega) | (simp; done) | omega) )⟩

set_option maxRecDepth 100000 in
set_option maxHeartbeats 1000000 in
theorem needs_0 (k t i : ByteArray) (q : Int) (d : Value) (c : UInt8) (w : World)  :
    Calls Tryz.prog 25 #[.agg #[.int .i64 0, .string k, .string t, .string i, .int .i64 q, d], .string ⟨#[c]⟩] w fun e w' => e = .returned (.bool false) ∧ Below w.heap.size w w' := by
  have HB := Lib.hid (Below.refl w.heap.size w)
  go_enter Tryz.func25, Tryz.ntmps25
  go_wp2
  go_ret
  exact ⟨rfl, by repeat (first | exact HB.out | apply nbl_al | apply nbl_drw | refine Below.setCell ?_ (Nat.le_refl _) _ | refine nbl_set ?_ (by first | exact Nat.le_refl _ | (simp; omega) | (simp; done) | omega) )⟩

set_option maxRecDepth 100000 in
set_option maxHeartbeats 1000000 in
theorem formed_add0  (w : World) (hE : Env w) :
    Calls Tryz.prog 22 #[.agg #[.int .i64 1, .string ⟨#[97]⟩, .string ⟨#[]⟩, .string ⟨#[116, 101, 97]⟩, .int .i64 0, .slice none 0 0]] w fun e w' => e = .returned (.bool true) ∧ Below w.heap.size w w' := by
  have HB := Lib.hid (Below.refl w.heap.size w)
  go_enter Tryz.func22, Tryz.ntmps22
  have HE := Lib.hid hE
  replace HB := Lib.hid (nbl_al HB.out (o := .cells #[.int .i64 1, .string ⟨#[97]⟩, .string ⟨#[]⟩, .string ⟨#[116, 101, 97]⟩, .int .i64 0, .slice none 0 0] 29))
  clear hE
  go_wp2_with fail
  refine (needs_1 _ _ _ _ _ _ true (by decide) _ (HE.out.later HB.out)).mono ?_
  rintro e w1 ⟨rfl, hb⟩
  replace HB := Lib.hid (show Below w.heap.size w w1 by have h := hb; repeat (first | exact nbl_step HB.out h | replace h := nbl_new h | replace h := nbl_dr h))
  have j1 : HeapIs w1 (w.heap.size) (.cells #[.int .i64 1, .string ⟨#[97]⟩, .string ⟨#[]⟩, .string ⟨#[116, 101, 97]⟩, .int .i64 0, .slice none 0 0] 29 (0, 0)) := (HeapIs.new _ _).below hb
  have j1r0 := j1.cell (j := 0) (v := .int .i64 1) rfl
  have j1s0 := j1.frozen 0
  have j1a0 : ∀ o, (w1.alloc o).cell? ⟨w.heap.size, 0, none⟩ = some (.int .i64 1) := fun o => (HeapIs.al j1 (o' := o)).cell (j := 0) (v := .int .i64 1) rfl
  have j1t0 := j1.set (j := 0) (v := .int .i64 1) rfl
  have j1r1 := j1.cell (j := 1) (v := .string ⟨#[97]⟩) rfl
  have j1s1 := j1.frozen 1
  have j1a1 : ∀ o, (w1.alloc o).cell? ⟨w.heap.size, 1, none⟩ = some (.string ⟨#[97]⟩) := fun o => (HeapIs.al j1 (o' := o)).cell (j := 1) (v := .string ⟨#[97]⟩) rfl
  have j1t1 := j1.set (j := 1) (v := .string ⟨#[97]⟩) rfl
  have j1r2 := j1.cell (j := 2) (v := .string ⟨#[]⟩) rfl
  have j1s2 := j1.frozen 2
  have j1a2 : ∀ o, (w1.alloc o).cell? ⟨w.heap.size, 2, none⟩ = some (.string ⟨#[]⟩) := fun o => (HeapIs.al j1 (o' := o)).cell (j := 2) (v := .string ⟨#[]⟩) rfl
  have j1t2 := j1.set (j := 2) (v := .string ⟨#[]⟩) rfl
  have j1r3 := j1.cell (j := 3) (v := .string ⟨#[116, 101, 97]⟩) rfl
  have j1s3 := j1.frozen 3
  have j1a3 : ∀ o, (w1.alloc o).cell? ⟨w.heap.size, 3, none⟩ = some (.string ⟨#[116, 101, 97]⟩) := fun o => (HeapIs.al j1 (o' := o)).cell (j := 3) (v := .string ⟨#[116, 101, 97]⟩) rfl
  have j1t3 := j1.set (j := 3) (v := .string ⟨#[116, 101, 97]⟩) rfl
  have j1r4 := j1.cell (j := 4) (v := .int .i64 0) rfl
  have j1s4 := j1.frozen 4
  have j1a4 : ∀ o, (w1.alloc o).cell? ⟨w.heap.size, 4, none⟩ = some (.int .i64 0) := fun o => (HeapIs.al j1 (o' := o)).cell (j := 4) (v := .int .i64 0) rfl
  have j1t4 := j1.set (j := 4) (v := .int .i64 0) rfl
  have j1r5 := j1.cell (j := 5) (v := .slice none 0 0) rfl
  have j1s5 := j1.frozen 5
  have j1a5 : ∀ o, (w1.alloc o).cell? ⟨w.heap.size, 5, none⟩ = some (.slice none 0 0) := fun o => (HeapIs.al j1 (o' := o)).cell (j := 5) (v := .slice none 0 0) rfl
  have j1t5 := j1.set (j := 5) (v := .slice none 0 0) rfl
  clear hb
  go_wp2_with fail
  refine (needs_1 _ _ _ _ _ _ false (by decide) _ (HE.out.later HB.out)).mono ?_
  rintro e w2 ⟨rfl, hb⟩
  replace HB := Lib.hid (show Below w.heap.size w w2 by have h := hb; repeat (first | exact nbl_step HB.out h | replace h := nbl_new h | replace h := nbl_dr h))
  have j2 : HeapIs w2 (w.heap.size) (.cells #[.int .i64 1, .string ⟨#[97]⟩, .string ⟨#[]⟩, .string ⟨#[116, 101, 97]⟩, .int .i64 0, .slice none 0 0] 29 (0, 0)) := j1.below hb
  have j2r0 := j2.cell (j := 0) (v := .int .i64 1) rfl
  have j2s0 := j2.frozen 0
  have j2a0 : ∀ o, (w2.alloc o).cell? ⟨w.heap.size, 0, none⟩ = some (.int .i64 1) := fun o => (HeapIs.al j2 (o' := o)).cell (j := 0) (v := .int .i64 1) rfl
  have j2t0 := j2.set (j := 0) (v := .int .i64 1) rfl
  have j2r1 := j2.cell (j := 1) (v := .string ⟨#[97]⟩) rfl
  have j2s1 := j2.frozen 1
  have j2a1 : ∀ o, (w2.alloc o).cell? ⟨w.heap.size, 1, none⟩ = some (.string ⟨#[97]⟩) := fun o => (HeapIs.al j2 (o' := o)).cell (j := 1) (v := .string ⟨#[97]⟩) rfl
  have j2t1 := j2.set (j := 1) (v := .string ⟨#[97]⟩) rfl
  have j2r2 := j2.cell (j := 2) (v := .string ⟨#[]⟩) rfl
  have j2s2 := j2.frozen 2
  have j2a2 : ∀ o, (w2.alloc o).cell? ⟨w.heap.size, 2, none⟩ = some (.string ⟨#[]⟩) := fun o => (HeapIs.al j2 (o' := o)).cell (j := 2) (v := .string ⟨#[]⟩) rfl
  have j2t2 := j2.set (j := 2) (v := .string ⟨#[]⟩) rfl
  have j2r3 := j2.cell (j := 3) (v := .string ⟨#[116, 101, 97]⟩) rfl
  have j2s3 := j2.frozen 3
  have j2a3 : ∀ o, (w2.alloc o).cell? ⟨w.heap.size, 3, none⟩ = some (.string ⟨#[116, 101, 97]⟩) := fun o => (HeapIs.al j2 (o' := o)).cell (j := 3) (v := .string ⟨#[116, 101, 97]⟩) rfl
  have j2t3 := j2.set (j := 3) (v := .string ⟨#[116, 101, 97]⟩) rfl
  have j2r4 := j2.cell (j := 4) (v := .int .i64 0) rfl
  have j2s4 := j2.frozen 4
  have j2a4 : ∀ o, (w2.alloc o).cell? ⟨w.heap.size, 4, none⟩ = some (.int .i64 0) := fun o => (HeapIs.al j2 (o' := o)).cell (j := 4) (v := .int .i64 0) rfl
  have j2t4 := j2.set (j := 4) (v := .int .i64 0) rfl
  have j2r5 := j2.cell (j := 5) (v := .slice none 0 0) rfl
  have j2s5 := j2.frozen 5
  have j2a5 : ∀ o, (w2.alloc o).cell? ⟨w.heap.size, 5, none⟩ = some (.slice none 0 0) := fun o => (HeapIs.al j2 (o' := o)).cell (j := 5) (v := .slice none 0 0) rfl
  have j2t5 := j2.set (j := 5) (v := .slice none 0 0) rfl
  clear hb
  go_wp2_with fail
  refine (needs_1 _ _ _ _ _ _ true (by decide) _ (HE.out.later HB.out)).mono ?_
  rintro e w3 ⟨rfl, hb⟩
  replace HB := Lib.hid (show Below w.heap.size w w3 by have h := hb; repeat (first | exact nbl_step HB.out h | replace h := nbl_new h | replace h := nbl_dr h))
  have j3 : HeapIs w3 (w.heap.size) (.cells #[.int .i64 1, .string ⟨#[97]⟩, .string ⟨#[]⟩, .string ⟨#[116, 101, 97]⟩, .int .i64 0, .slice none 0 0] 29 (0, 0)) := j2.below hb
  have j3r0 := j3.cell (j := 0) (v := .int .i64 1) rfl
  have j3s0 := j3.frozen 0
  have j3a0 : ∀ o, (w3.alloc o).cell? ⟨w.heap.size, 0, none⟩ = some (.int .i64 1) := fun o => (HeapIs.al j3 (o' := o)).cell (j := 0) (v := .int .i64 1) rfl
  have j3t0 := j3.set (j := 0) (v := .int .i64 1) rfl
  have j3r1 := j3.cell (j := 1) (v := .string ⟨#[97]⟩) rfl
  have j3s1 := j3.frozen 1
  have j3a1 : ∀ o, (w3.alloc o).cell? ⟨w.heap.size, 1, none⟩ = some (.string ⟨#[97]⟩) := fun o => (HeapIs.al j3 (o' := o)).cell (j := 1) (v := .string ⟨#[97]⟩) rfl
  have j3t1 := j3.set (j := 1) (v := .string ⟨#[97]⟩) rfl
  have j3r2 := j3.cell (j := 2) (v := .string ⟨#[]⟩) rfl
  have j3s2 := j3.frozen 2
  have j3a2 : ∀ o, (w3.alloc o).cell? ⟨w.heap.size, 2, none⟩ = some (.string ⟨#[]⟩) := fun o => (HeapIs.al j3 (o' := o)).cell (j := 2) (v := .string ⟨#[]⟩) rfl
  have j3t2 := j3.set (j := 2) (v := .string ⟨#[]⟩) rfl
  have j3r3 := j3.cell (j := 3) (v := .string ⟨#[116, 101, 97]⟩) rfl
  have j3s3 := j3.frozen 3
  have j3a3 : ∀ o, (w3.alloc o).cell? ⟨w.heap.size, 3, none⟩ = some (.string ⟨#[116, 101, 97]⟩) := fun o => (HeapIs.al j3 (o' := o)).cell (j := 3) (v := .string ⟨#[116, 101, 97]⟩) rfl
  have j3t3 := j3.set (j := 3) (v := .string ⟨#[116, 101, 97]⟩) rfl
  have j3r4 := j3.cell (j := 4) (v := .int .i64 0) rfl
  have j3s4 := j3.frozen 4
  have j3a4 : ∀ o, (w3.alloc o).cell? ⟨w.heap.size, 4, none⟩ = some (.int .i64 0) := fun o => (HeapIs.al j3 (o' := o)).cell (j := 4) (v := .int .i64 0) rfl
  have j3t4 := j3.set (j := 4) (v := .int .i64 0) rfl
  have j3r5 := j3.cell (j := 5) (v := .slice none 0 0) rfl
  have j3s5 := j3.frozen 5
  have j3a5 : ∀ o, (w3.alloc o).cell? ⟨w.heap.size, 5, none⟩ = some (.slice none 0 0) := fun o => (HeapIs.al j3 (o' := o)).cell (j := 5) (v := .slice none 0 0) rfl
  have j3t5 := j3.set (j := 5) (v := .slice none 0 0) rfl
  clear hb
  go_wp2_with fail
  refine (needs_1 _ _ _ _ _ _ true (by decide) _ (HE.out.later HB.out)).mono ?_
  rintro e w4 ⟨rfl, hb⟩
  replace HB := Lib.hid (show Below w.heap.size w w4 by have h := hb; repeat (first | exact nbl_step HB.out h | replace h := nbl_new h | replace h := nbl_dr h))
  have j4 : HeapIs w4 (w.heap.size) (.cells #[.int .i64 1, .string ⟨#[97]⟩, .string ⟨#[]⟩, .string ⟨#[116, 101, 97]⟩, .int .i64 0, .slice none 0 0] 29 (0, 0)) := j3.below hb
  have j4r0 := j4.cell (j := 0) (v := .int .i64 1) rfl
  have j4s0 := j4.frozen 0
  have j4a0 : ∀ o, (w4.alloc o).cell? ⟨w.heap.size, 0, none⟩ = some (.int .i64 1) := fun o => (HeapIs.al j4 (o' := o)).cell (j := 0) (v := .int .i64 1) rfl
  have j4t0 := j4.set (j := 0) (v := .int .i64 1) rfl
  have j4r1 := j4.cell (j := 1) (v := .string ⟨#[97]⟩) rfl
  have j4s1 := j4.frozen 1
  have j4a1 : ∀ o, (w4.alloc o).cell? ⟨w.heap.size, 1, none⟩ = some (.string ⟨#[97]⟩) := fun o => (HeapIs.al j4 (o' := o)).cell (j := 1) (v := .string ⟨#[97]⟩) rfl
  have j4t1 := j4.set (j := 1) (v := .string ⟨#[97]⟩) rfl
  have j4r2 := j4.cell (j := 2) (v := .string ⟨#[]⟩) rfl
  have j4s2 := j4.frozen 2
  have j4a2 : ∀ o, (w4.alloc o).cell? ⟨w.heap.size, 2, none⟩ = some (.string ⟨#[]⟩) := fun o => (HeapIs.al j4 (o' := o)).cell (j := 2) (v := .string ⟨#[]⟩) rfl
  have j4t2 := j4.set (j := 2) (v := .string ⟨#[]⟩) rfl
  have j4r3 := j4.cell (j := 3) (v := .string ⟨#[116, 101, 97]⟩) rfl
  have j4s3 := j4.frozen 3
  have j4a3 : ∀ o, (w4.alloc o).cell? ⟨w.heap.size, 3, none⟩ = some (.string ⟨#[116, 101, 97]⟩) := fun o => (HeapIs.al j4 (o' := o)).cell (j := 3) (v := .string ⟨#[116, 101, 97]⟩) rfl
  have j4t3 := j4.set (j := 3) (v := .string ⟨#[116, 101, 97]⟩) rfl
  have j4r4 := j4.cell (j := 4) (v := .int .i64 0) rfl
  have j4s4 := j4.frozen 4
  have j4a4 : ∀ o, (w4.alloc o).cell? ⟨w.heap.size, 4, none⟩ = some (.int .i64 0) := fun o => (HeapIs.al j4 (o' := o)).cell (j := 4) (v := .int .i64 0) rfl
  have j4t4 := j4.set (j := 4) (v := .int .i64 0) rfl
  have j4r5 := j4.cell (j := 5) (v := .slice none 0 0) rfl
  have j4s5 := j4.frozen 5
  have j4a5 : ∀ o, (w4.alloc o).cell? ⟨w.heap.size, 5, none⟩ = some (.slice none 0 0) := fun o => (HeapIs.al j4 (o' := o)).cell (j := 5) (v := .slice none 0 0) rfl
  have j4t5 := j4.set (j := 5) (v := .slice none 0 0) rfl
  clear hb
  go_wp2_with fail
  refine (needs_1 _ _ _ _ _ _ false (by decide) _ (HE.out.later HB.out)).mono ?_
  rintro e w5 ⟨rfl, hb⟩
  replace HB := Lib.hid (show Below w.heap.size w w5 by have h := hb; repeat (first | exact nbl_step HB.out h | replace h := nbl_new h | replace h := nbl_dr h))
  have j5 : HeapIs w5 (w.heap.size) (.cells #[.int .i64 1, .string ⟨#[97]⟩, .string ⟨#[]⟩, .string ⟨#[116, 101, 97]⟩, .int .i64 0, .slice none 0 0] 29 (0, 0)) := j4.below hb
  have j5r0 := j5.cell (j := 0) (v := .int .i64 1) rfl
  have j5s0 := j5.frozen 0
  have j5a0 : ∀ o, (w5.alloc o).cell? ⟨w.heap.size, 0, none⟩ = some (.int .i64 1) := fun o => (HeapIs.al j5 (o' := o)).cell (j := 0) (v := .int .i64 1) rfl
  have j5t0 := j5.set (j := 0) (v := .int .i64 1) rfl
  have j5r1 := j5.cell (j := 1) (v := .string ⟨#[97]⟩) rfl
  have j5s1 := j5.frozen 1
  have j5a1 : ∀ o, (w5.alloc o).cell? ⟨w.heap.size, 1, none⟩ = some (.string ⟨#[97]⟩) := fun o => (HeapIs.al j5 (o' := o)).cell (j := 1) (v := .string ⟨#[97]⟩) rfl
  have j5t1 := j5.set (j := 1) (v := .string ⟨#[97]⟩) rfl
  have j5r2 := j5.cell (j := 2) (v := .string ⟨#[]⟩) rfl
  have j5s2 := j5.frozen 2
  have j5a2 : ∀ o, (w5.alloc o).cell? ⟨w.heap.size, 2, none⟩ = some (.string ⟨#[]⟩) := fun o => (HeapIs.al j5 (o' := o)).cell (j := 2) (v := .string ⟨#[]⟩) rfl
  have j5t2 := j5.set (j := 2) (v := .string ⟨#[]⟩) rfl
  have j5r3 := j5.cell (j := 3) (v := .string ⟨#[116, 101, 97]⟩) rfl
  have j5s3 := j5.frozen 3
  have j5a3 : ∀ o, (w5.alloc o).cell? ⟨w.heap.size, 3, none⟩ = some (.string ⟨#[116, 101, 97]⟩) := fun o => (HeapIs.al j5 (o' := o)).cell (j := 3) (v := .string ⟨#[116, 101, 97]⟩) rfl
  have j5t3 := j5.set (j := 3) (v := .string ⟨#[116, 101, 97]⟩) rfl
  have j5r4 := j5.cell (j := 4) (v := .int .i64 0) rfl
  have j5s4 := j5.frozen 4
  have j5a4 : ∀ o, (w5.alloc o).cell? ⟨w.heap.size, 4, none⟩ = some (.int .i64 0) := fun o => (HeapIs.al j5 (o' := o)).cell (j := 4) (v := .int .i64 0) rfl
  have j5t4 := j5.set (j := 4) (v := .int .i64 0) rfl
  have j5r5 := j5.cell (j := 5) (v := .slice none 0 0) rfl
  have j5s5 := j5.frozen 5
  have j5a5 : ∀ o, (w5.alloc o).cell? ⟨w.heap.size, 5, none⟩ = some (.slice none 0 0) := fun o => (HeapIs.al j5 (o' := o)).cell (j := 5) (v := .slice none 0 0) rfl
  have j5t5 := j5.set (j := 5) (v := .slice none 0 0) rfl
  clear hb
  go_wp2
  go_ret
  exact ⟨rfl, by repeat (first | exact HB.out | apply nbl_al | apply nbl_drw | refine Below.setCell ?_ (Nat.le_refl _) _ | refine nbl_set ?_ (by first | exact Nat.le_refl _ | (simp; omega) | (simp; done) | omega) )⟩

set_option maxRecDepth 100000 in
set_option maxHeartbeats 1000000 in
theorem formed_add1  (w : World) (hE : Env w) :
    Calls Tryz.prog 22 #[.agg #[.int .i64 1, .string ⟨#[97]⟩, .string ⟨#[]⟩, .string ⟨#[116, 101, 97]⟩, .int .i64 1, .slice none 0 0]] w fun e w' => e = .returned (.bool true) ∧ Below w.heap.size w w' := by
  have HB := Lib.hid (Below.refl w.heap.size w)
  go_enter Tryz.func22, Tryz.ntmps22
  have HE := Lib.hid hE
  replace HB := Lib.hid (nbl_al HB.out (o := .cells #[.int .i64 1, .string ⟨#[97]⟩, .string ⟨#[]⟩, .string ⟨#[116, 101, 97]⟩, .int .i64 1, .slice none 0 0] 29))
  clear hE
  go_wp2_with fail
  refine (needs_1 _ _ _ _ _ _ true (by decide) _ (HE.out.later HB.out)).mono ?_
  rintro e w1 ⟨rfl, hb⟩
  replace HB := Lib.hid (show Below w.heap.size w w1 by have h := hb; repeat (first | exact nbl_step HB.out h | replace h := nbl_new h | replace h := nbl_dr h))
  have j1 : HeapIs w1 (w.heap.size) (.cells #[.int .i64 1, .string ⟨#[97]⟩, .string ⟨#[]⟩, .string ⟨#[116, 101, 97]⟩, .int .i64 1, .slice none 0 0] 29 (0, 0)) := (HeapIs.new _ _).below hb
  have j1r0 := j1.cell (j := 0) (v := .int .i64 1) rfl
  have j1s0 := j1.frozen 0
  have j1a0 : ∀ o, (w1.alloc o).cell? ⟨w.heap.size, 0, none⟩ = some (.int .i64 1) := fun o => (HeapIs.al j1 (o' := o)).cell (j := 0) (v := .int .i64 1) rfl
  have j1t0 := j1.set (j := 0) (v := .int .i64 1) rfl
  have j1r1 := j1.cell (j := 1) (v := .string ⟨#[97]⟩) rfl
  have j1s1 := j1.frozen 1
  have j1a1 : ∀ o, (w1.alloc o).cell? ⟨w.heap.size, 1, none⟩ = some (.string ⟨#[97]⟩) := fun o => (HeapIs.al j1 (o' := o)).cell (j := 1) (v := .string ⟨#[97]⟩) rfl
  have j1t1 := j1.set (j := 1) (v := .string ⟨#[97]⟩) rfl
  have j1r2 := j1.cell (j := 2) (v := .string ⟨#[]⟩) rfl
  have j1s2 := j1.frozen 2
  have j1a2 : ∀ o, (w1.alloc o).cell? ⟨w.heap.size, 2, none⟩ = some (.string ⟨#[]⟩) := fun o => (HeapIs.al j1 (o' := o)).cell (j := 2) (v := .string ⟨#[]⟩) rfl
  have j1t2 := j1.set (j := 2) (v := .string ⟨#[]⟩) rfl
  have j1r3 := j1.cell (j := 3) (v := .string ⟨#[116, 101, 97]⟩) rfl
  have j1s3 := j1.frozen 3
  have j1a3 : ∀ o, (w1.alloc o).cell? ⟨w.heap.size, 3, none⟩ = some (.string ⟨#[116, 101, 97]⟩) := fun o => (HeapIs.al j1 (o' := o)).cell (j := 3) (v := .string ⟨#[116, 101, 97]⟩) rfl
  have j1t3 := j1.set (j := 3) (v := .string ⟨#[116, 101, 97]⟩) rfl
  have j1r4 := j1.cell (j := 4) (v := .int .i64 1) rfl
  have j1s4 := j1.frozen 4
  have j1a4 : ∀ o, (w1.alloc o).cell? ⟨w.heap.size, 4, none⟩ = some (.int .i64 1) := fun o => (HeapIs.al j1 (o' := o)).cell (j := 4) (v := .int .i64 1) rfl
  have j1t4 := j1.set (j := 4) (v := .int .i64 1) rfl
  have j1r5 := j1.cell (j := 5) (v := .slice none 0 0) rfl
  have j1s5 := j1.frozen 5
  have j1a5 : ∀ o, (w1.alloc o).cell? ⟨w.heap.size, 5, none⟩ = some (.slice none 0 0) := fun o => (HeapIs.al j1 (o' := o)).cell (j := 5) (v := .slice none 0 0) rfl
  have j1t5 := j1.set (j := 5) (v := .slice none 0 0) rfl
  clear hb
  go_wp2_with fail
  refine (needs_1 _ _ _ _ _ _ false (by decide) _ (HE.out.later HB.out)).mono ?_
  rintro e w2 ⟨rfl, hb⟩
  replace HB := Lib.hid (show Below w.heap.size w w2 by have h := hb; repeat (first | exact nbl_step HB.out h | replace h := nbl_new h | replace h := nbl_dr h))
  have j2 : HeapIs w2 (w.heap.size) (.cells #[.int .i64 1, .string ⟨#[97]⟩, .string ⟨#[]⟩, .string ⟨#[116, 101, 97]⟩, .int .i64 1, .slice none 0 0] 29 (0, 0)) := j1.below hb
  have j2r0 := j2.cell (j := 0) (v := .int .i64 1) rfl
  have j2s0 := j2.frozen 0
  have j2a0 : ∀ o, (w2.alloc o).cell? ⟨w.heap.size, 0, none⟩ = some (.int .i64 1) := fun o => (HeapIs.al j2 (o' := o)).cell (j := 0) (v := .int .i64 1) rfl
  have j2t0 := j2.set (j := 0) (v := .int .i64 1) rfl
  have j2r1 := j2.cell (j := 1) (v := .string ⟨#[97]⟩) rfl
  have j2s1 := j2.frozen 1
  have j2a1 : ∀ o, (w2.alloc o).cell? ⟨w.heap.size, 1, none⟩ = some (.string ⟨#[97]⟩) := fun o => (HeapIs.al j2 (o' := o)).cell (j := 1) (v := .string ⟨#[97]⟩) rfl
  have j2t1 := j2.set (j := 1) (v := .string ⟨#[97]⟩) rfl
  have j2r2 := j2.cell (j := 2) (v := .string ⟨#[]⟩) rfl
  have j2s2 := j2.frozen 2
  have j2a2 : ∀ o, (w2.alloc o).cell? ⟨w.heap.size, 2, none⟩ = some (.string ⟨#[]⟩) := fun o => (HeapIs.al j2 (o' := o)).cell (j := 2) (v := .string ⟨#[]⟩) rfl
  have j2t2 := j2.set (j := 2) (v := .string ⟨#[]⟩) rfl
  have j2r3 := j2.cell (j := 3) (v := .string ⟨#[116, 101, 97]⟩) rfl
  have j2s3 := j2.frozen 3
  have j2a3 : ∀ o, (w2.alloc o).cell? ⟨w.heap.size, 3, none⟩ = some (.string ⟨#[116, 101, 97]⟩) := fun o => (HeapIs.al j2 (o' := o)).cell (j := 3) (v := .string ⟨#[116, 101, 97]⟩) rfl
  have j2t3 := j2.set (j := 3) (v := .string ⟨#[116, 101, 97]⟩) rfl
  have j2r4 := j2.cell (j := 4) (v := .int .i64 1) rfl
  have j2s4 := j2.frozen 4
  have j2a4 : ∀ o, (w2.alloc o).cell? ⟨w.heap.size, 4, none⟩ = some (.int .i64 1) := fun o => (HeapIs.al j2 (o' := o)).cell (j := 4) (v := .int .i64 1) rfl
  have j2t4 := j2.set (j := 4) (v := .int .i64 1) rfl
  have j2r5 := j2.cell (j := 5) (v := .slice none 0 0) rfl
  have j2s5 := j2.frozen 5
  have j2a5 : ∀ o, (w2.alloc o).cell? ⟨w.heap.size, 5, none⟩ = some (.slice none 0 0) := fun o => (HeapIs.al j2 (o' := o)).cell (j := 5) (v := .slice none 0 0) rfl
  have j2t5 := j2.set (j := 5) (v := .slice none 0 0) rfl
  clear hb
  go_wp2_with fail
  refine (needs_1 _ _ _ _ _ _ true (by decide) _ (HE.out.later HB.out)).mono ?_
  rintro e w3 ⟨rfl, hb⟩
  replace HB := Lib.hid (show Below w.heap.size w w3 by have h := hb; repeat (first | exact nbl_step HB.out h | replace h := nbl_new h | replace h := nbl_dr h))
  have j3 : HeapIs w3 (w.heap.size) (.cells #[.int .i64 1, .string ⟨#[97]⟩, .string ⟨#[]⟩, .string ⟨#[116, 101, 97]⟩, .int .i64 1, .slice none 0 0] 29 (0, 0)) := j2.below hb
  have j3r0 := j3.cell (j := 0) (v := .int .i64 1) rfl
  have j3s0 := j3.frozen 0
  have j3a0 : ∀ o, (w3.alloc o).cell? ⟨w.heap.size, 0, none⟩ = some (.int .i64 1) := fun o => (HeapIs.al j3 (o' := o)).cell (j := 0) (v := .int .i64 1) rfl
  have j3t0 := j3.set (j := 0) (v := .int .i64 1) rfl
  have j3r1 := j3.cell (j := 1) (v := .string ⟨#[97]⟩) rfl
  have j3s1 := j3.frozen 1
  have j3a1 : ∀ o, (w3.alloc o).cell? ⟨w.heap.size, 1, none⟩ = some (.string ⟨#[97]⟩) := fun o => (HeapIs.al j3 (o' := o)).cell (j := 1) (v := .string ⟨#[97]⟩) rfl
  have j3t1 := j3.set (j := 1) (v := .string ⟨#[97]⟩) rfl
  have j3r2 := j3.cell (j := 2) (v := .string ⟨#[]⟩) rfl
  have j3s2 := j3.frozen 2
  have j3a2 : ∀ o, (w3.alloc o).cell? ⟨w.heap.size, 2, none⟩ = some (.string ⟨#[]⟩) := fun o => (HeapIs.al j3 (o' := o)).cell (j := 2) (v := .string ⟨#[]⟩) rfl
  have j3t2 := j3.set (j := 2) (v := .string ⟨#[]⟩) rfl
  have j3r3 := j3.cell (j := 3) (v := .string ⟨#[116, 101, 97]⟩) rfl
  have j3s3 := j3.frozen 3
  have j3a3 : ∀ o, (w3.alloc o).cell? ⟨w.heap.size, 3, none⟩ = some (.string ⟨#[116, 101, 97]⟩) := fun o => (HeapIs.al j3 (o' := o)).cell (j := 3) (v := .string ⟨#[116, 101, 97]⟩) rfl
  have j3t3 := j3.set (j := 3) (v := .string ⟨#[116, 101, 97]⟩) rfl
  have j3r4 := j3.cell (j := 4) (v := .int .i64 1) rfl
  have j3s4 := j3.frozen 4
  have j3a4 : ∀ o, (w3.alloc o).cell? ⟨w.heap.size, 4, none⟩ = some (.int .i64 1) := fun o => (HeapIs.al j3 (o' := o)).cell (j := 4) (v := .int .i64 1) rfl
  have j3t4 := j3.set (j := 4) (v := .int .i64 1) rfl
  have j3r5 := j3.cell (j := 5) (v := .slice none 0 0) rfl
  have j3s5 := j3.frozen 5
  have j3a5 : ∀ o, (w3.alloc o).cell? ⟨w.heap.size, 5, none⟩ = some (.slice none 0 0) := fun o => (HeapIs.al j3 (o' := o)).cell (j := 5) (v := .slice none 0 0) rfl
  have j3t5 := j3.set (j := 5) (v := .slice none 0 0) rfl
  clear hb
  go_wp2_with fail
  refine (needs_1 _ _ _ _ _ _ true (by decide) _ (HE.out.later HB.out)).mono ?_
  rintro e w4 ⟨rfl, hb⟩
  replace HB := Lib.hid (show Below w.heap.size w w4 by have h := hb; repeat (first | exact nbl_step HB.out h | replace h := nbl_new h | replace h := nbl_dr h))
  have j4 : HeapIs w4 (w.heap.size) (.cells #[.int .i64 1, .string ⟨#[97]⟩, .string ⟨#[]⟩, .string ⟨#[116, 101, 97]⟩, .int .i64 1, .slice none 0 0] 29 (0, 0)) := j3.below hb
  have j4r0 := j4.cell (j := 0) (v := .int .i64 1) rfl
  have j4s0 := j4.frozen 0
  have j4a0 : ∀ o, (w4.alloc o).cell? ⟨w.heap.size, 0, none⟩ = some (.int .i64 1) := fun o => (HeapIs.al j4 (o' := o)).cell (j := 0) (v := .int .i64 1) rfl
  have j4t0 := j4.set (j := 0) (v := .int .i64 1) rfl
  have j4r1 := j4.cell (j := 1) (v := .string ⟨#[97]⟩) rfl
  have j4s1 := j4.frozen 1
  have j4a1 : ∀ o, (w4.alloc o).cell? ⟨w.heap.size, 1, none⟩ = some (.string ⟨#[97]⟩) := fun o => (HeapIs.al j4 (o' := o)).cell (j := 1) (v := .string ⟨#[97]⟩) rfl
  have j4t1 := j4.set (j := 1) (v := .string ⟨#[97]⟩) rfl
  have j4r2 := j4.cell (j := 2) (v := .string ⟨#[]⟩) rfl
  have j4s2 := j4.frozen 2
  have j4a2 : ∀ o, (w4.alloc o).cell? ⟨w.heap.size, 2, none⟩ = some (.string ⟨#[]⟩) := fun o => (HeapIs.al j4 (o' := o)).cell (j := 2) (v := .string ⟨#[]⟩) rfl
  have j4t2 := j4.set (j := 2) (v := .string ⟨#[]⟩) rfl
  have j4r3 := j4.cell (j := 3) (v := .string ⟨#[116, 101, 97]⟩) rfl
  have j4s3 := j4.frozen 3
  have j4a3 : ∀ o, (w4.alloc o).cell? ⟨w.heap.size, 3, none⟩ = some (.string ⟨#[116, 101, 97]⟩) := fun o => (HeapIs.al j4 (o' := o)).cell (j := 3) (v := .string ⟨#[116, 101, 97]⟩) rfl
  have j4t3 := j4.set (j := 3) (v := .string ⟨#[116, 101, 97]⟩) rfl
  have j4r4 := j4.cell (j := 4) (v := .int .i64 1) rfl
  have j4s4 := j4.frozen 4
  have j4a4 : ∀ o, (w4.alloc o).cell? ⟨w.heap.size, 4, none⟩ = some (.int .i64 1) := fun o => (HeapIs.al j4 (o' := o)).cell (j := 4) (v := .int .i64 1) rfl
  have j4t4 := j4.set (j := 4) (v := .int .i64 1) rfl
  have j4r5 := j4.cell (j := 5) (v := .slice none 0 0) rfl
  have j4s5 := j4.frozen 5
  have j4a5 : ∀ o, (w4.alloc o).cell? ⟨w.heap.size, 5, none⟩ = some (.slice none 0 0) := fun o => (HeapIs.al j4 (o' := o)).cell (j := 5) (v := .slice none 0 0) rfl
  have j4t5 := j4.set (j := 5) (v := .slice none 0 0) rfl
  clear hb
  go_wp2_with fail
  refine (needs_1 _ _ _ _ _ _ false (by decide) _ (HE.out.later HB.out)).mono ?_
  rintro e w5 ⟨rfl, hb⟩
  replace HB := Lib.hid (show Below w.heap.size w w5 by have h := hb; repeat (first | exact nbl_step HB.out h | replace h := nbl_new h | replace h := nbl_dr h))
  have j5 : HeapIs w5 (w.heap.size) (.cells #[.int .i64 1, .string ⟨#[97]⟩, .string ⟨#[]⟩, .string ⟨#[116, 101, 97]⟩, .int .i64 1, .slice none 0 0] 29 (0, 0)) := j4.below hb
  have j5r0 := j5.cell (j := 0) (v := .int .i64 1) rfl
  have j5s0 := j5.frozen 0
  have j5a0 : ∀ o, (w5.alloc o).cell? ⟨w.heap.size, 0, none⟩ = some (.int .i64 1) := fun o => (HeapIs.al j5 (o' := o)).cell (j := 0) (v := .int .i64 1) rfl
  have j5t0 := j5.set (j := 0) (v := .int .i64 1) rfl
  have j5r1 := j5.cell (j := 1) (v := .string ⟨#[97]⟩) rfl
  have j5s1 := j5.frozen 1
  have j5a1 : ∀ o, (w5.alloc o).cell? ⟨w.heap.size, 1, none⟩ = some (.string ⟨#[97]⟩) := fun o => (HeapIs.al j5 (o' := o)).cell (j := 1) (v := .string ⟨#[97]⟩) rfl
  have j5t1 := j5.set (j := 1) (v := .string ⟨#[97]⟩) rfl
  have j5r2 := j5.cell (j := 2) (v := .string ⟨#[]⟩) rfl
  have j5s2 := j5.frozen 2
  have j5a2 : ∀ o, (w5.alloc o).cell? ⟨w.heap.size, 2, none⟩ = some (.string ⟨#[]⟩) := fun o => (HeapIs.al j5 (o' := o)).cell (j := 2) (v := .string ⟨#[]⟩) rfl
  have j5t2 := j5.set (j := 2) (v := .string ⟨#[]⟩) rfl
  have j5r3 := j5.cell (j := 3) (v := .string ⟨#[116, 101, 97]⟩) rfl
  have j5s3 := j5.frozen 3
  have j5a3 : ∀ o, (w5.alloc o).cell? ⟨w.heap.size, 3, none⟩ = some (.string ⟨#[116, 101, 97]⟩) := fun o => (HeapIs.al j5 (o' := o)).cell (j := 3) (v := .string ⟨#[116, 101, 97]⟩) rfl
  have j5t3 := j5.set (j := 3) (v := .string ⟨#[116, 101, 97]⟩) rfl
  have j5r4 := j5.cell (j := 4) (v := .int .i64 1) rfl
  have j5s4 := j5.frozen 4
  have j5a4 : ∀ o, (w5.alloc o).cell? ⟨w.heap.size, 4, none⟩ = some (.int .i64 1) := fun o => (HeapIs.al j5 (o' := o)).cell (j := 4) (v := .int .i64 1) rfl
  have j5t4 := j5.set (j := 4) (v := .int .i64 1) rfl
  have j5r5 := j5.cell (j := 5) (v := .slice none 0 0) rfl
  have j5s5 := j5.frozen 5
  have j5a5 : ∀ o, (w5.alloc o).cell? ⟨w.heap.size, 5, none⟩ = some (.slice none 0 0) := fun o => (HeapIs.al j5 (o' := o)).cell (j := 5) (v := .slice none 0 0) rfl
  have j5t5 := j5.set (j := 5) (v := .slice none 0 0) rfl
  clear hb
  go_wp2
  go_ret
  exact ⟨rfl, by repeat (first | exact HB.out | apply nbl_al | apply nbl_drw | refine Below.setCell ?_ (Nat.le_refl _) _ | refine nbl_set ?_ (by first | exact Nat.le_refl _ | (simp; omega) | (simp; done) | omega) )⟩

set_option maxRecDepth 100000 in
set_option maxHeartbeats 1000000 in
theorem formed_set1  (w : World) (hE : Env w) :
    Calls Tryz.prog 22 #[.agg #[.int .i64 2, .string ⟨#[97]⟩, .string ⟨#[]⟩, .string ⟨#[116, 101, 97]⟩, .int .i64 1, .slice none 0 0]] w fun e w' => e = .returned (.bool true) ∧ Below w.heap.size w w' := by
  have HB := Lib.hid (Below.refl w.heap.size w)
  go_enter Tryz.func22, Tryz.ntmps22
  have HE := Lib.hid hE
  replace HB := Lib.hid (nbl_al HB.out (o := .cells #[.int .i64 2, .string ⟨#[97]⟩, .string ⟨#[]⟩, .string ⟨#[116, 101, 97]⟩, .int .i64 1, .slice none 0 0] 29))
  clear hE
  go_wp2_with fail
  refine (needs_2 _ _ _ _ _ _ true (by decide) _ (HE.out.later HB.out)).mono ?_
  rintro e w1 ⟨rfl, hb⟩
  replace HB := Lib.hid (show Below w.heap.size w w1 by have h := hb; repeat (first | exact nbl_step HB.out h | replace h := nbl_new h | replace h := nbl_dr h))
  have j1 : HeapIs w1 (w.heap.size) (.cells #[.int .i64 2, .string ⟨#[97]⟩, .string ⟨#[]⟩, .string ⟨#[116, 101, 97]⟩, .int .i64 1, .slice none 0 0] 29 (0, 0)) := (HeapIs.new _ _).below hb
  have j1r0 := j1.cell (j := 0) (v := .int .i64 2) rfl
  have j1s0 := j1.frozen 0
  have j1a0 : ∀ o, (w1.alloc o).cell? ⟨w.heap.size, 0, none⟩ = some (.int .i64 2) := fun o => (HeapIs.al j1 (o' := o)).cell (j := 0) (v := .int .i64 2) rfl
  have j1t0 := j1.set (j := 0) (v := .int .i64 2) rfl
  have j1r1 := j1.cell (j := 1) (v := .string ⟨#[97]⟩) rfl
  have j1s1 := j1.frozen 1
  have j1a1 : ∀ o, (w1.alloc o).cell? ⟨w.heap.size, 1, none⟩ = some (.string ⟨#[97]⟩) := fun o => (HeapIs.al j1 (o' := o)).cell (j := 1) (v := .string ⟨#[97]⟩) rfl
  have j1t1 := j1.set (j := 1) (v := .string ⟨#[97]⟩) rfl
  have j1r2 := j1.cell (j := 2) (v := .string ⟨#[]⟩) rfl
  have j1s2 := j1.frozen 2
  have j1a2 : ∀ o, (w1.alloc o).cell? ⟨w.heap.size, 2, none⟩ = some (.string ⟨#[]⟩) := fun o => (HeapIs.al j1 (o' := o)).cell (j := 2) (v := .string ⟨#[]⟩) rfl
  have j1t2 := j1.set (j := 2) (v := .string ⟨#[]⟩) rfl
  have j1r3 := j1.cell (j := 3) (v := .string ⟨#[116, 101, 97]⟩) rfl
  have j1s3 := j1.frozen 3
  have j1a3 : ∀ o, (w1.alloc o).cell? ⟨w.heap.size, 3, none⟩ = some (.string ⟨#[116, 101, 97]⟩) := fun o => (HeapIs.al j1 (o' := o)).cell (j := 3) (v := .string ⟨#[116, 101, 97]⟩) rfl
  have j1t3 := j1.set (j := 3) (v := .string ⟨#[116, 101, 97]⟩) rfl
  have j1r4 := j1.cell (j := 4) (v := .int .i64 1) rfl
  have j1s4 := j1.frozen 4
  have j1a4 : ∀ o, (w1.alloc o).cell? ⟨w.heap.size, 4, none⟩ = some (.int .i64 1) := fun o => (HeapIs.al j1 (o' := o)).cell (j := 4) (v := .int .i64 1) rfl
  have j1t4 := j1.set (j := 4) (v := .int .i64 1) rfl
  have j1r5 := j1.cell (j := 5) (v := .slice none 0 0) rfl
  have j1s5 := j1.frozen 5
  have j1a5 : ∀ o, (w1.alloc o).cell? ⟨w.heap.size, 5, none⟩ = some (.slice none 0 0) := fun o => (HeapIs.al j1 (o' := o)).cell (j := 5) (v := .slice none 0 0) rfl
  have j1t5 := j1.set (j := 5) (v := .slice none 0 0) rfl
  clear hb
  go_wp2_with fail
  refine (needs_2 _ _ _ _ _ _ false (by decide) _ (HE.out.later HB.out)).mono ?_
  rintro e w2 ⟨rfl, hb⟩
  replace HB := Lib.hid (show Below w.heap.size w w2 by have h := hb; repeat (first | exact nbl_step HB.out h | replace h := nbl_new h | replace h := nbl_dr h))
  have j2 : HeapIs w2 (w.heap.size) (.cells #[.int .i64 2, .string ⟨#[97]⟩, .string ⟨#[]⟩, .string ⟨#[116, 101, 97]⟩, .int .i64 1, .slice none 0 0] 29 (0, 0)) := j1.below hb
  have j2r0 := j2.cell (j := 0) (v := .int .i64 2) rfl
  have j2s0 := j2.frozen 0
  have j2a0 : ∀ o, (w2.alloc o).cell? ⟨w.heap.size, 0, none⟩ = some (.int .i64 2) := fun o => (HeapIs.al j2 (o' := o)).cell (j := 0) (v := .int .i64 2) rfl
  have j2t0 := j2.set (j := 0) (v := .int .i64 2) rfl
  have j2r1 := j2.cell (j := 1) (v := .string ⟨#[97]⟩) rfl
  have j2s1 := j2.frozen 1
  have j2a1 : ∀ o, (w2.alloc o).cell? ⟨w.heap.size, 1, none⟩ = some (.string ⟨#[97]⟩) := fun o => (HeapIs.al j2 (o' := o)).cell (j := 1) (v := .string ⟨#[97]⟩) rfl
  have j2t1 := j2.set (j := 1) (v := .string ⟨#[97]⟩) rfl
  have j2r2 := j2.cell (j := 2) (v := .string ⟨#[]⟩) rfl
  have j2s2 := j2.frozen 2
  have j2a2 : ∀ o, (w2.alloc o).cell? ⟨w.heap.size, 2, none⟩ = some (.string ⟨#[]⟩) := fun o => (HeapIs.al j2 (o' := o)).cell (j := 2) (v := .string ⟨#[]⟩) rfl
  have j2t2 := j2.set (j := 2) (v := .string ⟨#[]⟩) rfl
  have j2r3 := j2.cell (j := 3) (v := .string ⟨#[116, 101, 97]⟩) rfl
  have j2s3 := j2.frozen 3
  have j2a3 : ∀ o, (w2.alloc o).cell? ⟨w.heap.size, 3, none⟩ = some (.string ⟨#[116, 101, 97]⟩) := fun o => (HeapIs.al j2 (o' := o)).cell (j := 3) (v := .string ⟨#[116, 101, 97]⟩) rfl
  have j2t3 := j2.set (j := 3) (v := .string ⟨#[116, 101, 97]⟩) rfl
  have j2r4 := j2.cell (j := 4) (v := .int .i64 1) rfl
  have j2s4 := j2.frozen 4
  have j2a4 : ∀ o, (w2.alloc o).cell? ⟨w.heap.size, 4, none⟩ = some (.int .i64 1) := fun o => (HeapIs.al j2 (o' := o)).cell (j := 4) (v := .int .i64 1) rfl
  have j2t4 := j2.set (j := 4) (v := .int .i64 1) rfl
  have j2r5 := j2.cell (j := 5) (v := .slice none 0 0) rfl
  have j2s5 := j2.frozen 5
  have j2a5 : ∀ o, (w2.alloc o).cell? ⟨w.heap.size, 5, none⟩ = some (.slice none 0 0) := fun o => (HeapIs.al j2 (o' := o)).cell (j := 5) (v := .slice none 0 0) rfl
  have j2t5 := j2.set (j := 5) (v := .slice none 0 0) rfl
  clear hb
  go_wp2_with fail
  refine (needs_2 _ _ _ _ _ _ true (by decide) _ (HE.out.later HB.out)).mono ?_
  rintro e w3 ⟨rfl, hb⟩
  replace HB := Lib.hid (show Below w.heap.size w w3 by have h := hb; repeat (first | exact nbl_step HB.out h | replace h := nbl_new h | replace h := nbl_dr h))
  have j3 : HeapIs w3 (w.heap.size) (.cells #[.int .i64 2, .string ⟨#[97]⟩, .string ⟨#[]⟩, .string ⟨#[116, 101, 97]⟩, .int .i64 1, .slice none 0 0] 29 (0, 0)) := j2.below hb
  have j3r0 := j3.cell (j := 0) (v := .int .i64 2) rfl
  have j3s0 := j3.frozen 0
  have j3a0 : ∀ o, (w3.alloc o).cell? ⟨w.heap.size, 0, none⟩ = some (.int .i64 2) := fun o => (HeapIs.al j3 (o' := o)).cell (j := 0) (v := .int .i64 2) rfl
  have j3t0 := j3.set (j := 0) (v := .int .i64 2) rfl
  have j3r1 := j3.cell (j := 1) (v := .string ⟨#[97]⟩) rfl
  have j3s1 := j3.frozen 1
  have j3a1 : ∀ o, (w3.alloc o).cell? ⟨w.heap.size, 1, none⟩ = some (.string ⟨#[97]⟩) := fun o => (HeapIs.al j3 (o' := o)).cell (j := 1) (v := .string ⟨#[97]⟩) rfl
  have j3t1 := j3.set (j := 1) (v := .string ⟨#[97]⟩) rfl
  have j3r2 := j3.cell (j := 2) (v := .string ⟨#[]⟩) rfl
  have j3s2 := j3.frozen 2
  have j3a2 : ∀ o, (w3.alloc o).cell? ⟨w.heap.size, 2, none⟩ = some (.string ⟨#[]⟩) := fun o => (HeapIs.al j3 (o' := o)).cell (j := 2) (v := .string ⟨#[]⟩) rfl
  have j3t2 := j3.set (j := 2) (v := .string ⟨#[]⟩) rfl
  have j3r3 := j3.cell (j := 3) (v := .string ⟨#[116, 101, 97]⟩) rfl
  have j3s3 := j3.frozen 3
  have j3a3 : ∀ o, (w3.alloc o).cell? ⟨w.heap.size, 3, none⟩ = some (.string ⟨#[116, 101, 97]⟩) := fun o => (HeapIs.al j3 (o' := o)).cell (j := 3) (v := .string ⟨#[116, 101, 97]⟩) rfl
  have j3t3 := j3.set (j := 3) (v := .string ⟨#[116, 101, 97]⟩) rfl
  have j3r4 := j3.cell (j := 4) (v := .int .i64 1) rfl
  have j3s4 := j3.frozen 4
  have j3a4 : ∀ o, (w3.alloc o).cell? ⟨w.heap.size, 4, none⟩ = some (.int .i64 1) := fun o => (HeapIs.al j3 (o' := o)).cell (j := 4) (v := .int .i64 1) rfl
  have j3t4 := j3.set (j := 4) (v := .int .i64 1) rfl
  have j3r5 := j3.cell (j := 5) (v := .slice none 0 0) rfl
  have j3s5 := j3.frozen 5
  have j3a5 : ∀ o, (w3.alloc o).cell? ⟨w.heap.size, 5, none⟩ = some (.slice none 0 0) := fun o => (HeapIs.al j3 (o' := o)).cell (j := 5) (v := .slice none 0 0) rfl
  have j3t5 := j3.set (j := 5) (v := .slice none 0 0) rfl
  clear hb
  go_wp2_with fail
  refine (needs_2 _ _ _ _ _ _ true (by decide) _ (HE.out.later HB.out)).mono ?_
  rintro e w4 ⟨rfl, hb⟩
  replace HB := Lib.hid (show Below w.heap.size w w4 by have h := hb; repeat (first | exact nbl_step HB.out h | replace h := nbl_new h | replace h := nbl_dr h))
  have j4 : HeapIs w4 (w.heap.size) (.cells #[.int .i64 2, .string ⟨#[97]⟩, .string ⟨#[]⟩, .string ⟨#[116, 101, 97]⟩, .int .i64 1, .slice none 0 0] 29 (0, 0)) := j3.below hb
  have j4r0 := j4.cell (j := 0) (v := .int .i64 2) rfl
  have j4s0 := j4.frozen 0
  have j4a0 : ∀ o, (w4.alloc o).cell? ⟨w.heap.size, 0, none⟩ = some (.int .i64 2) := fun o => (HeapIs.al j4 (o' := o)).cell (j := 0) (v := .int .i64 2) rfl
  have j4t0 := j4.set (j := 0) (v := .int .i64 2) rfl
  have j4r1 := j4.cell (j := 1) (v := .string ⟨#[97]⟩) rfl
  have j4s1 := j4.frozen 1
  have j4a1 : ∀ o, (w4.alloc o).cell? ⟨w.heap.size, 1, none⟩ = some (.string ⟨#[97]⟩) := fun o => (HeapIs.al j4 (o' := o)).cell (j := 1) (v := .string ⟨#[97]⟩) rfl
  have j4t1 := j4.set (j := 1) (v := .string ⟨#[97]⟩) rfl
  have j4r2 := j4.cell (j := 2) (v := .string ⟨#[]⟩) rfl
  have j4s2 := j4.frozen 2
  have j4a2 : ∀ o, (w4.alloc o).cell? ⟨w.heap.size, 2, none⟩ = some (.string ⟨#[]⟩) := fun o => (HeapIs.al j4 (o' := o)).cell (j := 2) (v := .string ⟨#[]⟩) rfl
  have j4t2 := j4.set (j := 2) (v := .string ⟨#[]⟩) rfl
  have j4r3 := j4.cell (j := 3) (v := .string ⟨#[116, 101, 97]⟩) rfl
  have j4s3 := j4.frozen 3
  have j4a3 : ∀ o, (w4.alloc o).cell? ⟨w.heap.size, 3, none⟩ = some (.string ⟨#[116, 101, 97]⟩) := fun o => (HeapIs.al j4 (o' := o)).cell (j := 3) (v := .string ⟨#[116, 101, 97]⟩) rfl
  have j4t3 := j4.set (j := 3) (v := .string ⟨#[116, 101, 97]⟩) rfl
  have j4r4 := j4.cell (j := 4) (v := .int .i64 1) rfl
  have j4s4 := j4.frozen 4
  have j4a4 : ∀ o, (w4.alloc o).cell? ⟨w.heap.size, 4, none⟩ = some (.int .i64 1) := fun o => (HeapIs.al j4 (o' := o)).cell (j := 4) (v := .int .i64 1) rfl
  have j4t4 := j4.set (j := 4) (v := .int .i64 1) rfl
  have j4r5 := j4.cell (j := 5) (v := .slice none 0 0) rfl
  have j4s5 := j4.frozen 5
  have j4a5 : ∀ o, (w4.alloc o).cell? ⟨w.heap.size, 5, none⟩ = some (.slice none 0 0) := fun o => (HeapIs.al j4 (o' := o)).cell (j := 5) (v := .slice none 0 0) rfl
  have j4t5 := j4.set (j := 5) (v := .slice none 0 0) rfl
  clear hb
  go_wp2_with fail
  refine (needs_2 _ _ _ _ _ _ false (by decide) _ (HE.out.later HB.out)).mono ?_
  rintro e w5 ⟨rfl, hb⟩
  replace HB := Lib.hid (show Below w.heap.size w w5 by have h := hb; repeat (first | exact nbl_step HB.out h | replace h := nbl_new h | replace h := nbl_dr h))
  have j5 : HeapIs w5 (w.heap.size) (.cells #[.int .i64 2, .string ⟨#[97]⟩, .string ⟨#[]⟩, .string ⟨#[116, 101, 97]⟩, .int .i64 1, .slice none 0 0] 29 (0, 0)) := j4.below hb
  have j5r0 := j5.cell (j := 0) (v := .int .i64 2) rfl
  have j5s0 := j5.frozen 0
  have j5a0 : ∀ o, (w5.alloc o).cell? ⟨w.heap.size, 0, none⟩ = some (.int .i64 2) := fun o => (HeapIs.al j5 (o' := o)).cell (j := 0) (v := .int .i64 2) rfl
  have j5t0 := j5.set (j := 0) (v := .int .i64 2) rfl
  have j5r1 := j5.cell (j := 1) (v := .string ⟨#[97]⟩) rfl
  have j5s1 := j5.frozen 1
  have j5a1 : ∀ o, (w5.alloc o).cell? ⟨w.heap.size, 1, none⟩ = some (.string ⟨#[97]⟩) := fun o => (HeapIs.al j5 (o' := o)).cell (j := 1) (v := .string ⟨#[97]⟩) rfl
  have j5t1 := j5.set (j := 1) (v := .string ⟨#[97]⟩) rfl
  have j5r2 := j5.cell (j := 2) (v := .string ⟨#[]⟩) rfl
  have j5s2 := j5.frozen 2
  have j5a2 : ∀ o, (w5.alloc o).cell? ⟨w.heap.size, 2, none⟩ = some (.string ⟨#[]⟩) := fun o => (HeapIs.al j5 (o' := o)).cell (j := 2) (v := .string ⟨#[]⟩) rfl
  have j5t2 := j5.set (j := 2) (v := .string ⟨#[]⟩) rfl
  have j5r3 := j5.cell (j := 3) (v := .string ⟨#[116, 101, 97]⟩) rfl
  have j5s3 := j5.frozen 3
  have j5a3 : ∀ o, (w5.alloc o).cell? ⟨w.heap.size, 3, none⟩ = some (.string ⟨#[116, 101, 97]⟩) := fun o => (HeapIs.al j5 (o' := o)).cell (j := 3) (v := .string ⟨#[116, 101, 97]⟩) rfl
  have j5t3 := j5.set (j := 3) (v := .string ⟨#[116, 101, 97]⟩) rfl
  have j5r4 := j5.cell (j := 4) (v := .int .i64 1) rfl
  have j5s4 := j5.frozen 4
  have j5a4 : ∀ o, (w5.alloc o).cell? ⟨w.heap.size, 4, none⟩ = some (.int .i64 1) := fun o => (HeapIs.al j5 (o' := o)).cell (j := 4) (v := .int .i64 1) rfl
  have j5t4 := j5.set (j := 4) (v := .int .i64 1) rfl
  have j5r5 := j5.cell (j := 5) (v := .slice none 0 0) rfl
  have j5s5 := j5.frozen 5
  have j5a5 : ∀ o, (w5.alloc o).cell? ⟨w.heap.size, 5, none⟩ = some (.slice none 0 0) := fun o => (HeapIs.al j5 (o' := o)).cell (j := 5) (v := .slice none 0 0) rfl
  have j5t5 := j5.set (j := 5) (v := .slice none 0 0) rfl
  clear hb
  go_wp2
  go_ret
  exact ⟨rfl, by repeat (first | exact HB.out | apply nbl_al | apply nbl_drw | refine Below.setCell ?_ (Nat.le_refl _) _ | refine nbl_set ?_ (by first | exact Nat.le_refl _ | (simp; omega) | (simp; done) | omega) )⟩

set_option maxRecDepth 100000 in
set_option maxHeartbeats 1000000 in
theorem formed_getA  (w : World) (hE : Env w) :
    Calls Tryz.prog 22 #[.agg #[.int .i64 4, .string ⟨#[65]⟩, .string ⟨#[]⟩, .string ⟨#[]⟩, .int .i64 0, .slice none 0 0]] w fun e w' => e = .returned (.bool true) ∧ Below w.heap.size w w' := by
  have HB := Lib.hid (Below.refl w.heap.size w)
  go_enter Tryz.func22, Tryz.ntmps22
  have HE := Lib.hid hE
  replace HB := Lib.hid (nbl_al HB.out (o := .cells #[.int .i64 4, .string ⟨#[65]⟩, .string ⟨#[]⟩, .string ⟨#[]⟩, .int .i64 0, .slice none 0 0] 29))
  clear hE
  go_wp2_with fail
  refine (needs_4 _ _ _ _ _ _ true (by decide) _ (HE.out.later HB.out)).mono ?_
  rintro e w1 ⟨rfl, hb⟩
  replace HB := Lib.hid (show Below w.heap.size w w1 by have h := hb; repeat (first | exact nbl_step HB.out h | replace h := nbl_new h | replace h := nbl_dr h))
  have j1 : HeapIs w1 (w.heap.size) (.cells #[.int .i64 4, .string ⟨#[65]⟩, .string ⟨#[]⟩, .string ⟨#[]⟩, .int .i64 0, .slice none 0 0] 29 (0, 0)) := (HeapIs.new _ _).below hb
  have j1r0 := j1.cell (j := 0) (v := .int .i64 4) rfl
  have j1s0 := j1.frozen 0
  have j1a0 : ∀ o, (w1.alloc o).cell? ⟨w.heap.size, 0, none⟩ = some (.int .i64 4) := fun o => (HeapIs.al j1 (o' := o)).cell (j := 0) (v := .int .i64 4) rfl
  have j1t0 := j1.set (j := 0) (v := .int .i64 4) rfl
  have j1r1 := j1.cell (j := 1) (v := .string ⟨#[65]⟩) rfl
  have j1s1 := j1.frozen 1
  have j1a1 : ∀ o, (w1.alloc o).cell? ⟨w.heap.size, 1, none⟩ = some (.string ⟨#[65]⟩) := fun o => (HeapIs.al j1 (o' := o)).cell (j := 1) (v := .string ⟨#[65]⟩) rfl
  have j1t1 := j1.set (j := 1) (v := .string ⟨#[65]⟩) rfl
  have j1r2 := j1.cell (j := 2) (v := .string ⟨#[]⟩) rfl
  have j1s2 := j1.frozen 2
  have j1a2 : ∀ o, (w1.alloc o).cell? ⟨w.heap.size, 2, none⟩ = some (.string ⟨#[]⟩) := fun o => (HeapIs.al j1 (o' := o)).cell (j := 2) (v := .string ⟨#[]⟩) rfl
  have j1t2 := j1.set (j := 2) (v := .string ⟨#[]⟩) rfl
  have j1r3 := j1.cell (j := 3) (v := .string ⟨#[]⟩) rfl
  have j1s3 := j1.frozen 3
  have j1a3 : ∀ o, (w1.alloc o).cell? ⟨w.heap.size, 3, none⟩ = some (.string ⟨#[]⟩) := fun o => (HeapIs.al j1 (o' := o)).cell (j := 3) (v := .string ⟨#[]⟩) rfl
  have j1t3 := j1.set (j := 3) (v := .string ⟨#[]⟩) rfl
  have j1r4 := j1.cell (j := 4) (v := .int .i64 0) rfl
  have j1s4 := j1.frozen 4
  have j1a4 : ∀ o, (w1.alloc o).cell? ⟨w.heap.size, 4, none⟩ = some (.int .i64 0) := fun o => (HeapIs.al j1 (o' := o)).cell (j := 4) (v := .int .i64 0) rfl
  have j1t4 := j1.set (j := 4) (v := .int .i64 0) rfl
  have j1r5 := j1.cell (j := 5) (v := .slice none 0 0) rfl
  have j1s5 := j1.frozen 5
  have j1a5 : ∀ o, (w1.alloc o).cell? ⟨w.heap.size, 5, none⟩ = some (.slice none 0 0) := fun o => (HeapIs.al j1 (o' := o)).cell (j := 5) (v := .slice none 0 0) rfl
  have j1t5 := j1.set (j := 5) (v := .slice none 0 0) rfl
  clear hb
  go_wp2_with fail
  refine (needs_4 _ _ _ _ _ _ false (by decide) _ (HE.out.later HB.out)).mono ?_
  rintro e w2 ⟨rfl, hb⟩
  replace HB := Lib.hid (show Below w.heap.size w w2 by have h := hb; repeat (first | exact nbl_step HB.out h | replace h := nbl_new h | replace h := nbl_dr h))
  have j2 : HeapIs w2 (w.heap.size) (.cells #[.int .i64 4, .string ⟨#[65]⟩, .string ⟨#[]⟩, .string ⟨#[]⟩, .int .i64 0, .slice none 0 0] 29 (0, 0)) := j1.below hb
  have j2r0 := j2.cell (j := 0) (v := .int .i64 4) rfl
  have j2s0 := j2.frozen 0
  have j2a0 : ∀ o, (w2.alloc o).cell? ⟨w.heap.size, 0, none⟩ = some (.int .i64 4) := fun o => (HeapIs.al j2 (o' := o)).cell (j := 0) (v := .int .i64 4) rfl
  have j2t0 := j2.set (j := 0) (v := .int .i64 4) rfl
  have j2r1 := j2.cell (j := 1) (v := .string ⟨#[65]⟩) rfl
  have j2s1 := j2.frozen 1
  have j2a1 : ∀ o, (w2.alloc o).cell? ⟨w.heap.size, 1, none⟩ = some (.string ⟨#[65]⟩) := fun o => (HeapIs.al j2 (o' := o)).cell (j := 1) (v := .string ⟨#[65]⟩) rfl
  have j2t1 := j2.set (j := 1) (v := .string ⟨#[65]⟩) rfl
  have j2r2 := j2.cell (j := 2) (v := .string ⟨#[]⟩) rfl
  have j2s2 := j2.frozen 2
  have j2a2 : ∀ o, (w2.alloc o).cell? ⟨w.heap.size, 2, none⟩ = some (.string ⟨#[]⟩) := fun o => (HeapIs.al j2 (o' := o)).cell (j := 2) (v := .string ⟨#[]⟩) rfl
  have j2t2 := j2.set (j := 2) (v := .string ⟨#[]⟩) rfl
  have j2r3 := j2.cell (j := 3) (v := .string ⟨#[]⟩) rfl
  have j2s3 := j2.frozen 3
  have j2a3 : ∀ o, (w2.alloc o).cell? ⟨w.heap.size, 3, none⟩ = some (.string ⟨#[]⟩) := fun o => (HeapIs.al j2 (o' := o)).cell (j := 3) (v := .string ⟨#[]⟩) rfl
  have j2t3 := j2.set (j := 3) (v := .string ⟨#[]⟩) rfl
  have j2r4 := j2.cell (j := 4) (v := .int .i64 0) rfl
  have j2s4 := j2.frozen 4
  have j2a4 : ∀ o, (w2.alloc o).cell? ⟨w.heap.size, 4, none⟩ = some (.int .i64 0) := fun o => (HeapIs.al j2 (o' := o)).cell (j := 4) (v := .int .i64 0) rfl
  have j2t4 := j2.set (j := 4) (v := .int .i64 0) rfl
  have j2r5 := j2.cell (j := 5) (v := .slice none 0 0) rfl
  have j2s5 := j2.frozen 5
  have j2a5 : ∀ o, (w2.alloc o).cell? ⟨w.heap.size, 5, none⟩ = some (.slice none 0 0) := fun o => (HeapIs.al j2 (o' := o)).cell (j := 5) (v := .slice none 0 0) rfl
  have j2t5 := j2.set (j := 5) (v := .slice none 0 0) rfl
  clear hb
  go_wp2_with fail
  refine (needs_4 _ _ _ _ _ _ false (by decide) _ (HE.out.later HB.out)).mono ?_
  rintro e w3 ⟨rfl, hb⟩
  replace HB := Lib.hid (show Below w.heap.size w w3 by have h := hb; repeat (first | exact nbl_step HB.out h | replace h := nbl_new h | replace h := nbl_dr h))
  have j3 : HeapIs w3 (w.heap.size) (.cells #[.int .i64 4, .string ⟨#[65]⟩, .string ⟨#[]⟩, .string ⟨#[]⟩, .int .i64 0, .slice none 0 0] 29 (0, 0)) := j2.below hb
  have j3r0 := j3.cell (j := 0) (v := .int .i64 4) rfl
  have j3s0 := j3.frozen 0
  have j3a0 : ∀ o, (w3.alloc o).cell? ⟨w.heap.size, 0, none⟩ = some (.int .i64 4) := fun o => (HeapIs.al j3 (o' := o)).cell (j := 0) (v := .int .i64 4) rfl
  have j3t0 := j3.set (j := 0) (v := .int .i64 4) rfl
  have j3r1 := j3.cell (j := 1) (v := .string ⟨#[65]⟩) rfl
  have j3s1 := j3.frozen 1
  have j3a1 : ∀ o, (w3.alloc o).cell? ⟨w.heap.size, 1, none⟩ = some (.string ⟨#[65]⟩) := fun o => (HeapIs.al j3 (o' := o)).cell (j := 1) (v := .string ⟨#[65]⟩) rfl
  have j3t1 := j3.set (j := 1) (v := .string ⟨#[65]⟩) rfl
  have j3r2 := j3.cell (j := 2) (v := .string ⟨#[]⟩) rfl
  have j3s2 := j3.frozen 2
  have j3a2 : ∀ o, (w3.alloc o).cell? ⟨w.heap.size, 2, none⟩ = some (.string ⟨#[]⟩) := fun o => (HeapIs.al j3 (o' := o)).cell (j := 2) (v := .string ⟨#[]⟩) rfl
  have j3t2 := j3.set (j := 2) (v := .string ⟨#[]⟩) rfl
  have j3r3 := j3.cell (j := 3) (v := .string ⟨#[]⟩) rfl
  have j3s3 := j3.frozen 3
  have j3a3 : ∀ o, (w3.alloc o).cell? ⟨w.heap.size, 3, none⟩ = some (.string ⟨#[]⟩) := fun o => (HeapIs.al j3 (o' := o)).cell (j := 3) (v := .string ⟨#[]⟩) rfl
  have j3t3 := j3.set (j := 3) (v := .string ⟨#[]⟩) rfl
  have j3r4 := j3.cell (j := 4) (v := .int .i64 0) rfl
  have j3s4 := j3.frozen 4
  have j3a4 : ∀ o, (w3.alloc o).cell? ⟨w.heap.size, 4, none⟩ = some (.int .i64 0) := fun o => (HeapIs.al j3 (o' := o)).cell (j := 4) (v := .int .i64 0) rfl
  have j3t4 := j3.set (j := 4) (v := .int .i64 0) rfl
  have j3r5 := j3.cell (j := 5) (v := .slice none 0 0) rfl
  have j3s5 := j3.frozen 5
  have j3a5 : ∀ o, (w3.alloc o).cell? ⟨w.heap.size, 5, none⟩ = some (.slice none 0 0) := fun o => (HeapIs.al j3 (o' := o)).cell (j := 5) (v := .slice none 0 0) rfl
  have j3t5 := j3.set (j := 5) (v := .slice none 0 0) rfl
  clear hb
  go_wp2_with fail
  refine (needs_4 _ _ _ _ _ _ false (by decide) _ (HE.out.later HB.out)).mono ?_
  rintro e w4 ⟨rfl, hb⟩
  replace HB := Lib.hid (show Below w.heap.size w w4 by have h := hb; repeat (first | exact nbl_step HB.out h | replace h := nbl_new h | replace h := nbl_dr h))
  have j4 : HeapIs w4 (w.heap.size) (.cells #[.int .i64 4, .string ⟨#[65]⟩, .string ⟨#[]⟩, .string ⟨#[]⟩, .int .i64 0, .slice none 0 0] 29 (0, 0)) := j3.below hb
  have j4r0 := j4.cell (j := 0) (v := .int .i64 4) rfl
  have j4s0 := j4.frozen 0
  have j4a0 : ∀ o, (w4.alloc o).cell? ⟨w.heap.size, 0, none⟩ = some (.int .i64 4) := fun o => (HeapIs.al j4 (o' := o)).cell (j := 0) (v := .int .i64 4) rfl
  have j4t0 := j4.set (j := 0) (v := .int .i64 4) rfl
  have j4r1 := j4.cell (j := 1) (v := .string ⟨#[65]⟩) rfl
  have j4s1 := j4.frozen 1
  have j4a1 : ∀ o, (w4.alloc o).cell? ⟨w.heap.size, 1, none⟩ = some (.string ⟨#[65]⟩) := fun o => (HeapIs.al j4 (o' := o)).cell (j := 1) (v := .string ⟨#[65]⟩) rfl
  have j4t1 := j4.set (j := 1) (v := .string ⟨#[65]⟩) rfl
  have j4r2 := j4.cell (j := 2) (v := .string ⟨#[]⟩) rfl
  have j4s2 := j4.frozen 2
  have j4a2 : ∀ o, (w4.alloc o).cell? ⟨w.heap.size, 2, none⟩ = some (.string ⟨#[]⟩) := fun o => (HeapIs.al j4 (o' := o)).cell (j := 2) (v := .string ⟨#[]⟩) rfl
  have j4t2 := j4.set (j := 2) (v := .string ⟨#[]⟩) rfl
  have j4r3 := j4.cell (j := 3) (v := .string ⟨#[]⟩) rfl
  have j4s3 := j4.frozen 3
  have j4a3 : ∀ o, (w4.alloc o).cell? ⟨w.heap.size, 3, none⟩ = some (.string ⟨#[]⟩) := fun o => (HeapIs.al j4 (o' := o)).cell (j := 3) (v := .string ⟨#[]⟩) rfl
  have j4t3 := j4.set (j := 3) (v := .string ⟨#[]⟩) rfl
  have j4r4 := j4.cell (j := 4) (v := .int .i64 0) rfl
  have j4s4 := j4.frozen 4
  have j4a4 : ∀ o, (w4.alloc o).cell? ⟨w.heap.size, 4, none⟩ = some (.int .i64 0) := fun o => (HeapIs.al j4 (o' := o)).cell (j := 4) (v := .int .i64 0) rfl
  have j4t4 := j4.set (j := 4) (v := .int .i64 0) rfl
  have j4r5 := j4.cell (j := 5) (v := .slice none 0 0) rfl
  have j4s5 := j4.frozen 5
  have j4a5 : ∀ o, (w4.alloc o).cell? ⟨w.heap.size, 5, none⟩ = some (.slice none 0 0) := fun o => (HeapIs.al j4 (o' := o)).cell (j := 5) (v := .slice none 0 0) rfl
  have j4t5 := j4.set (j := 5) (v := .slice none 0 0) rfl
  clear hb
  go_wp2_with fail
  refine (needs_4 _ _ _ _ _ _ false (by decide) _ (HE.out.later HB.out)).mono ?_
  rintro e w5 ⟨rfl, hb⟩
  replace HB := Lib.hid (show Below w.heap.size w w5 by have h := hb; repeat (first | exact nbl_step HB.out h | replace h := nbl_new h | replace h := nbl_dr h))
  have j5 : HeapIs w5 (w.heap.size) (.cells #[.int .i64 4, .string ⟨#[65]⟩, .string ⟨#[]⟩, .string ⟨#[]⟩, .int .i64 0, .slice none 0 0] 29 (0, 0)) := j4.below hb
  have j5r0 := j5.cell (j := 0) (v := .int .i64 4) rfl
  have j5s0 := j5.frozen 0
  have j5a0 : ∀ o, (w5.alloc o).cell? ⟨w.heap.size, 0, none⟩ = some (.int .i64 4) := fun o => (HeapIs.al j5 (o' := o)).cell (j := 0) (v := .int .i64 4) rfl
  have j5t0 := j5.set (j := 0) (v := .int .i64 4) rfl
  have j5r1 := j5.cell (j := 1) (v := .string ⟨#[65]⟩) rfl
  have j5s1 := j5.frozen 1
  have j5a1 : ∀ o, (w5.alloc o).cell? ⟨w.heap.size, 1, none⟩ = some (.string ⟨#[65]⟩) := fun o => (HeapIs.al j5 (o' := o)).cell (j := 1) (v := .string ⟨#[65]⟩) rfl
  have j5t1 := j5.set (j := 1) (v := .string ⟨#[65]⟩) rfl
  have j5r2 := j5.cell (j := 2) (v := .string ⟨#[]⟩) rfl
  have j5s2 := j5.frozen 2
  have j5a2 : ∀ o, (w5.alloc o).cell? ⟨w.heap.size, 2, none⟩ = some (.string ⟨#[]⟩) := fun o => (HeapIs.al j5 (o' := o)).cell (j := 2) (v := .string ⟨#[]⟩) rfl
  have j5t2 := j5.set (j := 2) (v := .string ⟨#[]⟩) rfl
  have j5r3 := j5.cell (j := 3) (v := .string ⟨#[]⟩) rfl
  have j5s3 := j5.frozen 3
  have j5a3 : ∀ o, (w5.alloc o).cell? ⟨w.heap.size, 3, none⟩ = some (.string ⟨#[]⟩) := fun o => (HeapIs.al j5 (o' := o)).cell (j := 3) (v := .string ⟨#[]⟩) rfl
  have j5t3 := j5.set (j := 3) (v := .string ⟨#[]⟩) rfl
  have j5r4 := j5.cell (j := 4) (v := .int .i64 0) rfl
  have j5s4 := j5.frozen 4
  have j5a4 : ∀ o, (w5.alloc o).cell? ⟨w.heap.size, 4, none⟩ = some (.int .i64 0) := fun o => (HeapIs.al j5 (o' := o)).cell (j := 4) (v := .int .i64 0) rfl
  have j5t4 := j5.set (j := 4) (v := .int .i64 0) rfl
  have j5r5 := j5.cell (j := 5) (v := .slice none 0 0) rfl
  have j5s5 := j5.frozen 5
  have j5a5 : ∀ o, (w5.alloc o).cell? ⟨w.heap.size, 5, none⟩ = some (.slice none 0 0) := fun o => (HeapIs.al j5 (o' := o)).cell (j := 5) (v := .slice none 0 0) rfl
  have j5t5 := j5.set (j := 5) (v := .slice none 0 0) rfl
  clear hb
  go_wp2
  go_ret
  exact ⟨rfl, by repeat (first | exact HB.out | apply nbl_al | apply nbl_drw | refine Below.setCell ?_ (Nat.le_refl _) _ | refine nbl_set ?_ (by first | exact Nat.le_refl _ | (simp; omega) | (simp; done) | omega) )⟩

set_option maxRecDepth 100000 in
set_option maxHeartbeats 1000000 in
theorem formed_geta  (w : World) (hE : Env w) :
    Calls Tryz.prog 22 #[.agg #[.int .i64 4, .string ⟨#[97]⟩, .string ⟨#[]⟩, .string ⟨#[]⟩, .int .i64 0, .slice none 0 0]] w fun e w' => e = .returned (.bool true) ∧ Below w.heap.size w w' := by
  have HB := Lib.hid (Below.refl w.heap.size w)
  go_enter Tryz.func22, Tryz.ntmps22
  have HE := Lib.hid hE
  replace HB := Lib.hid (nbl_al HB.out (o := .cells #[.int .i64 4, .string ⟨#[97]⟩, .string ⟨#[]⟩, .string ⟨#[]⟩, .int .i64 0, .slice none 0 0] 29))
  clear hE
  go_wp2_with fail
  refine (needs_4 _ _ _ _ _ _ true (by decide) _ (HE.out.later HB.out)).mono ?_
  rintro e w1 ⟨rfl, hb⟩
  replace HB := Lib.hid (show Below w.heap.size w w1 by have h := hb; repeat (first | exact nbl_step HB.out h | replace h := nbl_new h | replace h := nbl_dr h))
  have j1 : HeapIs w1 (w.heap.size) (.cells #[.int .i64 4, .string ⟨#[97]⟩, .string ⟨#[]⟩, .string ⟨#[]⟩, .int .i64 0, .slice none 0 0] 29 (0, 0)) := (HeapIs.new _ _).below hb
  have j1r0 := j1.cell (j := 0) (v := .int .i64 4) rfl
  have j1s0 := j1.frozen 0
  have j1a0 : ∀ o, (w1.alloc o).cell? ⟨w.heap.size, 0, none⟩ = some (.int .i64 4) := fun o => (HeapIs.al j1 (o' := o)).cell (j := 0) (v := .int .i64 4) rfl
  have j1t0 := j1.set (j := 0) (v := .int .i64 4) rfl
  have j1r1 := j1.cell (j := 1) (v := .string ⟨#[97]⟩) rfl
  have j1s1 := j1.frozen 1
  have j1a1 : ∀ o, (w1.alloc o).cell? ⟨w.heap.size, 1, none⟩ = some (.string ⟨#[97]⟩) := fun o => (HeapIs.al j1 (o' := o)).cell (j := 1) (v := .string ⟨#[97]⟩) rfl
  have j1t1 := j1.set (j := 1) (v := .string ⟨#[97]⟩) rfl
  have j1r2 := j1.cell (j := 2) (v := .string ⟨#[]⟩) rfl
  have j1s2 := j1.frozen 2
  have j1a2 : ∀ o, (w1.alloc o).cell? ⟨w.heap.size, 2, none⟩ = some (.string ⟨#[]⟩) := fun o => (HeapIs.al j1 (o' := o)).cell (j := 2) (v := .string ⟨#[]⟩) rfl
  have j1t2 := j1.set (j := 2) (v := .string ⟨#[]⟩) rfl
  have j1r3 := j1.cell (j := 3) (v := .string ⟨#[]⟩) rfl
  have j1s3 := j1.frozen 3
  have j1a3 : ∀ o, (w1.alloc o).cell? ⟨w.heap.size, 3, none⟩ = some (.string ⟨#[]⟩) := fun o => (HeapIs.al j1 (o' := o)).cell (j := 3) (v := .string ⟨#[]⟩) rfl
  have j1t3 := j1.set (j := 3) (v := .string ⟨#[]⟩) rfl
  have j1r4 := j1.cell (j := 4) (v := .int .i64 0) rfl
  have j1s4 := j1.frozen 4
  have j1a4 : ∀ o, (w1.alloc o).cell? ⟨w.heap.size, 4, none⟩ = some (.int .i64 0) := fun o => (HeapIs.al j1 (o' := o)).cell (j := 4) (v := .int .i64 0) rfl
  have j1t4 := j1.set (j := 4) (v := .int .i64 0) rfl
  have j1r5 := j1.cell (j := 5) (v := .slice none 0 0) rfl
  have j1s5 := j1.frozen 5
  have j1a5 : ∀ o, (w1.alloc o).cell? ⟨w.heap.size, 5, none⟩ = some (.slice none 0 0) := fun o => (HeapIs.al j1 (o' := o)).cell (j := 5) (v := .slice none 0 0) rfl
  have j1t5 := j1.set (j := 5) (v := .slice none 0 0) rfl
  clear hb
  go_wp2_with fail
  refine (needs_4 _ _ _ _ _ _ false (by decide) _ (HE.out.later HB.out)).mono ?_
  rintro e w2 ⟨rfl, hb⟩
  replace HB := Lib.hid (show Below w.heap.size w w2 by have h := hb; repeat (first | exact nbl_step HB.out h | replace h := nbl_new h | replace h := nbl_dr h))
  have j2 : HeapIs w2 (w.heap.size) (.cells #[.int .i64 4, .string ⟨#[97]⟩, .string ⟨#[]⟩, .string ⟨#[]⟩, .int .i64 0, .slice none 0 0] 29 (0, 0)) := j1.below hb
  have j2r0 := j2.cell (j := 0) (v := .int .i64 4) rfl
  have j2s0 := j2.frozen 0
  have j2a0 : ∀ o, (w2.alloc o).cell? ⟨w.heap.size, 0, none⟩ = some (.int .i64 4) := fun o => (HeapIs.al j2 (o' := o)).cell (j := 0) (v := .int .i64 4) rfl
  have j2t0 := j2.set (j := 0) (v := .int .i64 4) rfl
  have j2r1 := j2.cell (j := 1) (v := .string ⟨#[97]⟩) rfl
  have j2s1 := j2.frozen 1
  have j2a1 : ∀ o, (w2.alloc o).cell? ⟨w.heap.size, 1, none⟩ = some (.string ⟨#[97]⟩) := fun o => (HeapIs.al j2 (o' := o)).cell (j := 1) (v := .string ⟨#[97]⟩) rfl
  have j2t1 := j2.set (j := 1) (v := .string ⟨#[97]⟩) rfl
  have j2r2 := j2.cell (j := 2) (v := .string ⟨#[]⟩) rfl
  have j2s2 := j2.frozen 2
  have j2a2 : ∀ o, (w2.alloc o).cell? ⟨w.heap.size, 2, none⟩ = some (.string ⟨#[]⟩) := fun o => (HeapIs.al j2 (o' := o)).cell (j := 2) (v := .string ⟨#[]⟩) rfl
  have j2t2 := j2.set (j := 2) (v := .string ⟨#[]⟩) rfl
  have j2r3 := j2.cell (j := 3) (v := .string ⟨#[]⟩) rfl
  have j2s3 := j2.frozen 3
  have j2a3 : ∀ o, (w2.alloc o).cell? ⟨w.heap.size, 3, none⟩ = some (.string ⟨#[]⟩) := fun o => (HeapIs.al j2 (o' := o)).cell (j := 3) (v := .string ⟨#[]⟩) rfl
  have j2t3 := j2.set (j := 3) (v := .string ⟨#[]⟩) rfl
  have j2r4 := j2.cell (j := 4) (v := .int .i64 0) rfl
  have j2s4 := j2.frozen 4
  have j2a4 : ∀ o, (w2.alloc o).cell? ⟨w.heap.size, 4, none⟩ = some (.int .i64 0) := fun o => (HeapIs.al j2 (o' := o)).cell (j := 4) (v := .int .i64 0) rfl
  have j2t4 := j2.set (j := 4) (v := .int .i64 0) rfl
  have j2r5 := j2.cell (j := 5) (v := .slice none 0 0) rfl
  have j2s5 := j2.frozen 5
  have j2a5 : ∀ o, (w2.alloc o).cell? ⟨w.heap.size, 5, none⟩ = some (.slice none 0 0) := fun o => (HeapIs.al j2 (o' := o)).cell (j := 5) (v := .slice none 0 0) rfl
  have j2t5 := j2.set (j := 5) (v := .slice none 0 0) rfl
  clear hb
  go_wp2_with fail
  refine (needs_4 _ _ _ _ _ _ false (by decide) _ (HE.out.later HB.out)).mono ?_
  rintro e w3 ⟨rfl, hb⟩
  replace HB := Lib.hid (show Below w.heap.size w w3 by have h := hb; repeat (first | exact nbl_step HB.out h | replace h := nbl_new h | replace h := nbl_dr h))
  have j3 : HeapIs w3 (w.heap.size) (.cells #[.int .i64 4, .string ⟨#[97]⟩, .string ⟨#[]⟩, .string ⟨#[]⟩, .int .i64 0, .slice none 0 0] 29 (0, 0)) := j2.below hb
  have j3r0 := j3.cell (j := 0) (v := .int .i64 4) rfl
  have j3s0 := j3.frozen 0
  have j3a0 : ∀ o, (w3.alloc o).cell? ⟨w.heap.size, 0, none⟩ = some (.int .i64 4) := fun o => (HeapIs.al j3 (o' := o)).cell (j := 0) (v := .int .i64 4) rfl
  have j3t0 := j3.set (j := 0) (v := .int .i64 4) rfl
  have j3r1 := j3.cell (j := 1) (v := .string ⟨#[97]⟩) rfl
  have j3s1 := j3.frozen 1
  have j3a1 : ∀ o, (w3.alloc o).cell? ⟨w.heap.size, 1, none⟩ = some (.string ⟨#[97]⟩) := fun o => (HeapIs.al j3 (o' := o)).cell (j := 1) (v := .string ⟨#[97]⟩) rfl
  have j3t1 := j3.set (j := 1) (v := .string ⟨#[97]⟩) rfl
  have j3r2 := j3.cell (j := 2) (v := .string ⟨#[]⟩) rfl
  have j3s2 := j3.frozen 2
  have j3a2 : ∀ o, (w3.alloc o).cell? ⟨w.heap.size, 2, none⟩ = some (.string ⟨#[]⟩) := fun o => (HeapIs.al j3 (o' := o)).cell (j := 2) (v := .string ⟨#[]⟩) rfl
  have j3t2 := j3.set (j := 2) (v := .string ⟨#[]⟩) rfl
  have j3r3 := j3.cell (j := 3) (v := .string ⟨#[]⟩) rfl
  have j3s3 := j3.frozen 3
  have j3a3 : ∀ o, (w3.alloc o).cell? ⟨w.heap.size, 3, none⟩ = some (.string ⟨#[]⟩) := fun o => (HeapIs.al j3 (o' := o)).cell (j := 3) (v := .string ⟨#[]⟩) rfl
  have j3t3 := j3.set (j := 3) (v := .string ⟨#[]⟩) rfl
  have j3r4 := j3.cell (j := 4) (v := .int .i64 0) rfl
  have j3s4 := j3.frozen 4
  have j3a4 : ∀ o, (w3.alloc o).cell? ⟨w.heap.size, 4, none⟩ = some (.int .i64 0) := fun o => (HeapIs.al j3 (o' := o)).cell (j := 4) (v := .int .i64 0) rfl
  have j3t4 := j3.set (j := 4) (v := .int .i64 0) rfl
  have j3r5 := j3.cell (j := 5) (v := .slice none 0 0) rfl
  have j3s5 := j3.frozen 5
  have j3a5 : ∀ o, (w3.alloc o).cell? ⟨w.heap.size, 5, none⟩ = some (.slice none 0 0) := fun o => (HeapIs.al j3 (o' := o)).cell (j := 5) (v := .slice none 0 0) rfl
  have j3t5 := j3.set (j := 5) (v := .slice none 0 0) rfl
  clear hb
  go_wp2_with fail
  refine (needs_4 _ _ _ _ _ _ false (by decide) _ (HE.out.later HB.out)).mono ?_
  rintro e w4 ⟨rfl, hb⟩
  replace HB := Lib.hid (show Below w.heap.size w w4 by have h := hb; repeat (first | exact nbl_step HB.out h | replace h := nbl_new h | replace h := nbl_dr h))
  have j4 : HeapIs w4 (w.heap.size) (.cells #[.int .i64 4, .string ⟨#[97]⟩, .string ⟨#[]⟩, .string ⟨#[]⟩, .int .i64 0, .slice none 0 0] 29 (0, 0)) := j3.below hb
  have j4r0 := j4.cell (j := 0) (v := .int .i64 4) rfl
  have j4s0 := j4.frozen 0
  have j4a0 : ∀ o, (w4.alloc o).cell? ⟨w.heap.size, 0, none⟩ = some (.int .i64 4) := fun o => (HeapIs.al j4 (o' := o)).cell (j := 0) (v := .int .i64 4) rfl
  have j4t0 := j4.set (j := 0) (v := .int .i64 4) rfl
  have j4r1 := j4.cell (j := 1) (v := .string ⟨#[97]⟩) rfl
  have j4s1 := j4.frozen 1
  have j4a1 : ∀ o, (w4.alloc o).cell? ⟨w.heap.size, 1, none⟩ = some (.string ⟨#[97]⟩) := fun o => (HeapIs.al j4 (o' := o)).cell (j := 1) (v := .string ⟨#[97]⟩) rfl
  have j4t1 := j4.set (j := 1) (v := .string ⟨#[97]⟩) rfl
  have j4r2 := j4.cell (j := 2) (v := .string ⟨#[]⟩) rfl
  have j4s2 := j4.frozen 2
  have j4a2 : ∀ o, (w4.alloc o).cell? ⟨w.heap.size, 2, none⟩ = some (.string ⟨#[]⟩) := fun o => (HeapIs.al j4 (o' := o)).cell (j := 2) (v := .string ⟨#[]⟩) rfl
  have j4t2 := j4.set (j := 2) (v := .string ⟨#[]⟩) rfl
  have j4r3 := j4.cell (j := 3) (v := .string ⟨#[]⟩) rfl
  have j4s3 := j4.frozen 3
  have j4a3 : ∀ o, (w4.alloc o).cell? ⟨w.heap.size, 3, none⟩ = some (.string ⟨#[]⟩) := fun o => (HeapIs.al j4 (o' := o)).cell (j := 3) (v := .string ⟨#[]⟩) rfl
  have j4t3 := j4.set (j := 3) (v := .string ⟨#[]⟩) rfl
  have j4r4 := j4.cell (j := 4) (v := .int .i64 0) rfl
  have j4s4 := j4.frozen 4
  have j4a4 : ∀ o, (w4.alloc o).cell? ⟨w.heap.size, 4, none⟩ = some (.int .i64 0) := fun o => (HeapIs.al j4 (o' := o)).cell (j := 4) (v := .int .i64 0) rfl
  have j4t4 := j4.set (j := 4) (v := .int .i64 0) rfl
  have j4r5 := j4.cell (j := 5) (v := .slice none 0 0) rfl
  have j4s5 := j4.frozen 5
  have j4a5 : ∀ o, (w4.alloc o).cell? ⟨w.heap.size, 5, none⟩ = some (.slice none 0 0) := fun o => (HeapIs.al j4 (o' := o)).cell (j := 5) (v := .slice none 0 0) rfl
  have j4t5 := j4.set (j := 5) (v := .slice none 0 0) rfl
  clear hb
  go_wp2_with fail
  refine (needs_4 _ _ _ _ _ _ false (by decide) _ (HE.out.later HB.out)).mono ?_
  rintro e w5 ⟨rfl, hb⟩
  replace HB := Lib.hid (show Below w.heap.size w w5 by have h := hb; repeat (first | exact nbl_step HB.out h | replace h := nbl_new h | replace h := nbl_dr h))
  have j5 : HeapIs w5 (w.heap.size) (.cells #[.int .i64 4, .string ⟨#[97]⟩, .string ⟨#[]⟩, .string ⟨#[]⟩, .int .i64 0, .slice none 0 0] 29 (0, 0)) := j4.below hb
  have j5r0 := j5.cell (j := 0) (v := .int .i64 4) rfl
  have j5s0 := j5.frozen 0
  have j5a0 : ∀ o, (w5.alloc o).cell? ⟨w.heap.size, 0, none⟩ = some (.int .i64 4) := fun o => (HeapIs.al j5 (o' := o)).cell (j := 0) (v := .int .i64 4) rfl
  have j5t0 := j5.set (j := 0) (v := .int .i64 4) rfl
  have j5r1 := j5.cell (j := 1) (v := .string ⟨#[97]⟩) rfl
  have j5s1 := j5.frozen 1
  have j5a1 : ∀ o, (w5.alloc o).cell? ⟨w.heap.size, 1, none⟩ = some (.string ⟨#[97]⟩) := fun o => (HeapIs.al j5 (o' := o)).cell (j := 1) (v := .string ⟨#[97]⟩) rfl
  have j5t1 := j5.set (j := 1) (v := .string ⟨#[97]⟩) rfl
  have j5r2 := j5.cell (j := 2) (v := .string ⟨#[]⟩) rfl
  have j5s2 := j5.frozen 2
  have j5a2 : ∀ o, (w5.alloc o).cell? ⟨w.heap.size, 2, none⟩ = some (.string ⟨#[]⟩) := fun o => (HeapIs.al j5 (o' := o)).cell (j := 2) (v := .string ⟨#[]⟩) rfl
  have j5t2 := j5.set (j := 2) (v := .string ⟨#[]⟩) rfl
  have j5r3 := j5.cell (j := 3) (v := .string ⟨#[]⟩) rfl
  have j5s3 := j5.frozen 3
  have j5a3 : ∀ o, (w5.alloc o).cell? ⟨w.heap.size, 3, none⟩ = some (.string ⟨#[]⟩) := fun o => (HeapIs.al j5 (o' := o)).cell (j := 3) (v := .string ⟨#[]⟩) rfl
  have j5t3 := j5.set (j := 3) (v := .string ⟨#[]⟩) rfl
  have j5r4 := j5.cell (j := 4) (v := .int .i64 0) rfl
  have j5s4 := j5.frozen 4
  have j5a4 : ∀ o, (w5.alloc o).cell? ⟨w.heap.size, 4, none⟩ = some (.int .i64 0) := fun o => (HeapIs.al j5 (o' := o)).cell (j := 4) (v := .int .i64 0) rfl
  have j5t4 := j5.set (j := 4) (v := .int .i64 0) rfl
  have j5r5 := j5.cell (j := 5) (v := .slice none 0 0) rfl
  have j5s5 := j5.frozen 5
  have j5a5 : ∀ o, (w5.alloc o).cell? ⟨w.heap.size, 5, none⟩ = some (.slice none 0 0) := fun o => (HeapIs.al j5 (o' := o)).cell (j := 5) (v := .slice none 0 0) rfl
  have j5t5 := j5.set (j := 5) (v := .slice none 0 0) rfl
  clear hb
  go_wp2
  go_ret
  exact ⟨rfl, by repeat (first | exact HB.out | apply nbl_al | apply nbl_drw | refine Below.setCell ?_ (Nat.le_refl _) _ | refine nbl_set ?_ (by first | exact Nat.le_refl _ | (simp; omega) | (simp; done) | omega) )⟩

set_option maxRecDepth 100000 in
set_option maxHeartbeats 1000000 in
theorem formed_deliver  (w : World) (hE : Env w) :
    Calls Tryz.prog 22 #[.agg #[.int .i64 8, .string ⟨#[]⟩, .string ⟨#[]⟩, .string ⟨#[]⟩, .int .i64 0, .slice none 0 0]] w fun e w' => e = .returned (.bool true) ∧ Below w.heap.size w w' := by
  have HB := Lib.hid (Below.refl w.heap.size w)
  go_enter Tryz.func22, Tryz.ntmps22
  have HE := Lib.hid hE
  replace HB := Lib.hid (nbl_al HB.out (o := .cells #[.int .i64 8, .string ⟨#[]⟩, .string ⟨#[]⟩, .string ⟨#[]⟩, .int .i64 0, .slice none 0 0] 29))
  clear hE
  go_wp2_with fail
  refine (needs_8 _ _ _ _ _ _ false (by decide) _ (HE.out.later HB.out)).mono ?_
  rintro e w1 ⟨rfl, hb⟩
  replace HB := Lib.hid (show Below w.heap.size w w1 by have h := hb; repeat (first | exact nbl_step HB.out h | replace h := nbl_new h | replace h := nbl_dr h))
  have j1 : HeapIs w1 (w.heap.size) (.cells #[.int .i64 8, .string ⟨#[]⟩, .string ⟨#[]⟩, .string ⟨#[]⟩, .int .i64 0, .slice none 0 0] 29 (0, 0)) := (HeapIs.new _ _).below hb
  have j1r0 := j1.cell (j := 0) (v := .int .i64 8) rfl
  have j1s0 := j1.frozen 0
  have j1a0 : ∀ o, (w1.alloc o).cell? ⟨w.heap.size, 0, none⟩ = some (.int .i64 8) := fun o => (HeapIs.al j1 (o' := o)).cell (j := 0) (v := .int .i64 8) rfl
  have j1t0 := j1.set (j := 0) (v := .int .i64 8) rfl
  have j1r1 := j1.cell (j := 1) (v := .string ⟨#[]⟩) rfl
  have j1s1 := j1.frozen 1
  have j1a1 : ∀ o, (w1.alloc o).cell? ⟨w.heap.size, 1, none⟩ = some (.string ⟨#[]⟩) := fun o => (HeapIs.al j1 (o' := o)).cell (j := 1) (v := .string ⟨#[]⟩) rfl
  have j1t1 := j1.set (j := 1) (v := .string ⟨#[]⟩) rfl
  have j1r2 := j1.cell (j := 2) (v := .string ⟨#[]⟩) rfl
  have j1s2 := j1.frozen 2
  have j1a2 : ∀ o, (w1.alloc o).cell? ⟨w.heap.size, 2, none⟩ = some (.string ⟨#[]⟩) := fun o => (HeapIs.al j1 (o' := o)).cell (j := 2) (v := .string ⟨#[]⟩) rfl
  have j1t2 := j1.set (j := 2) (v := .string ⟨#[]⟩) rfl
  have j1r3 := j1.cell (j := 3) (v := .string ⟨#[]⟩) rfl
  have j1s3 := j1.frozen 3
  have j1a3 : ∀ o, (w1.alloc o).cell? ⟨w.heap.size, 3, none⟩ = some (.string ⟨#[]⟩) := fun o => (HeapIs.al j1 (o' := o)).cell (j := 3) (v := .string ⟨#[]⟩) rfl
  have j1t3 := j1.set (j := 3) (v := .string ⟨#[]⟩) rfl
  have j1r4 := j1.cell (j := 4) (v := .int .i64 0) rfl
  have j1s4 := j1.frozen 4
  have j1a4 : ∀ o, (w1.alloc o).cell? ⟨w.heap.size, 4, none⟩ = some (.int .i64 0) := fun o => (HeapIs.al j1 (o' := o)).cell (j := 4) (v := .int .i64 0) rfl
  have j1t4 := j1.set (j := 4) (v := .int .i64 0) rfl
  have j1r5 := j1.cell (j := 5) (v := .slice none 0 0) rfl
  have j1s5 := j1.frozen 5
  have j1a5 : ∀ o, (w1.alloc o).cell? ⟨w.heap.size, 5, none⟩ = some (.slice none 0 0) := fun o => (HeapIs.al j1 (o' := o)).cell (j := 5) (v := .slice none 0 0) rfl
  have j1t5 := j1.set (j := 5) (v := .slice none 0 0) rfl
  clear hb
  go_wp2_with fail
  refine (needs_8 _ _ _ _ _ _ false (by decide) _ (HE.out.later HB.out)).mono ?_
  rintro e w2 ⟨rfl, hb⟩
  replace HB := Lib.hid (show Below w.heap.size w w2 by have h := hb; repeat (first | exact nbl_step HB.out h | replace h := nbl_new h | replace h := nbl_dr h))
  have j2 : HeapIs w2 (w.heap.size) (.cells #[.int .i64 8, .string ⟨#[]⟩, .string ⟨#[]⟩, .string ⟨#[]⟩, .int .i64 0, .slice none 0 0] 29 (0, 0)) := j1.below hb
  have j2r0 := j2.cell (j := 0) (v := .int .i64 8) rfl
  have j2s0 := j2.frozen 0
  have j2a0 : ∀ o, (w2.alloc o).cell? ⟨w.heap.size, 0, none⟩ = some (.int .i64 8) := fun o => (HeapIs.al j2 (o' := o)).cell (j := 0) (v := .int .i64 8) rfl
  have j2t0 := j2.set (j := 0) (v := .int .i64 8) rfl
  have j2r1 := j2.cell (j := 1) (v := .string ⟨#[]⟩) rfl
  have j2s1 := j2.frozen 1
  have j2a1 : ∀ o, (w2.alloc o).cell? ⟨w.heap.size, 1, none⟩ = some (.string ⟨#[]⟩) := fun o => (HeapIs.al j2 (o' := o)).cell (j := 1) (v := .string ⟨#[]⟩) rfl
  have j2t1 := j2.set (j := 1) (v := .string ⟨#[]⟩) rfl
  have j2r2 := j2.cell (j := 2) (v := .string ⟨#[]⟩) rfl
  have j2s2 := j2.frozen 2
  have j2a2 : ∀ o, (w2.alloc o).cell? ⟨w.heap.size, 2, none⟩ = some (.string ⟨#[]⟩) := fun o => (HeapIs.al j2 (o' := o)).cell (j := 2) (v := .string ⟨#[]⟩) rfl
  have j2t2 := j2.set (j := 2) (v := .string ⟨#[]⟩) rfl
  have j2r3 := j2.cell (j := 3) (v := .string ⟨#[]⟩) rfl
  have j2s3 := j2.frozen 3
  have j2a3 : ∀ o, (w2.alloc o).cell? ⟨w.heap.size, 3, none⟩ = some (.string ⟨#[]⟩) := fun o => (HeapIs.al j2 (o' := o)).cell (j := 3) (v := .string ⟨#[]⟩) rfl
  have j2t3 := j2.set (j := 3) (v := .string ⟨#[]⟩) rfl
  have j2r4 := j2.cell (j := 4) (v := .int .i64 0) rfl
  have j2s4 := j2.frozen 4
  have j2a4 : ∀ o, (w2.alloc o).cell? ⟨w.heap.size, 4, none⟩ = some (.int .i64 0) := fun o => (HeapIs.al j2 (o' := o)).cell (j := 4) (v := .int .i64 0) rfl
  have j2t4 := j2.set (j := 4) (v := .int .i64 0) rfl
  have j2r5 := j2.cell (j := 5) (v := .slice none 0 0) rfl
  have j2s5 := j2.frozen 5
  have j2a5 : ∀ o, (w2.alloc o).cell? ⟨w.heap.size, 5, none⟩ = some (.slice none 0 0) := fun o => (HeapIs.al j2 (o' := o)).cell (j := 5) (v := .slice none 0 0) rfl
  have j2t5 := j2.set (j := 5) (v := .slice none 0 0) rfl
  clear hb
  go_wp2_with fail
  refine (needs_8 _ _ _ _ _ _ false (by decide) _ (HE.out.later HB.out)).mono ?_
  rintro e w3 ⟨rfl, hb⟩
  replace HB := Lib.hid (show Below w.heap.size w w3 by have h := hb; repeat (first | exact nbl_step HB.out h | replace h := nbl_new h | replace h := nbl_dr h))
  have j3 : HeapIs w3 (w.heap.size) (.cells #[.int .i64 8, .string ⟨#[]⟩, .string ⟨#[]⟩, .string ⟨#[]⟩, .int .i64 0, .slice none 0 0] 29 (0, 0)) := j2.below hb
  have j3r0 := j3.cell (j := 0) (v := .int .i64 8) rfl
  have j3s0 := j3.frozen 0
  have j3a0 : ∀ o, (w3.alloc o).cell? ⟨w.heap.size, 0, none⟩ = some (.int .i64 8) := fun o => (HeapIs.al j3 (o' := o)).cell (j := 0) (v := .int .i64 8) rfl
  have j3t0 := j3.set (j := 0) (v := .int .i64 8) rfl
  have j3r1 := j3.cell (j := 1) (v := .string ⟨#[]⟩) rfl
  have j3s1 := j3.frozen 1
  have j3a1 : ∀ o, (w3.alloc o).cell? ⟨w.heap.size, 1, none⟩ = some (.string ⟨#[]⟩) := fun o => (HeapIs.al j3 (o' := o)).cell (j := 1) (v := .string ⟨#[]⟩) rfl
  have j3t1 := j3.set (j := 1) (v := .string ⟨#[]⟩) rfl
  have j3r2 := j3.cell (j := 2) (v := .string ⟨#[]⟩) rfl
  have j3s2 := j3.frozen 2
  have j3a2 : ∀ o, (w3.alloc o).cell? ⟨w.heap.size, 2, none⟩ = some (.string ⟨#[]⟩) := fun o => (HeapIs.al j3 (o' := o)).cell (j := 2) (v := .string ⟨#[]⟩) rfl
  have j3t2 := j3.set (j := 2) (v := .string ⟨#[]⟩) rfl
  have j3r3 := j3.cell (j := 3) (v := .string ⟨#[]⟩) rfl
  have j3s3 := j3.frozen 3
  have j3a3 : ∀ o, (w3.alloc o).cell? ⟨w.heap.size, 3, none⟩ = some (.string ⟨#[]⟩) := fun o => (HeapIs.al j3 (o' := o)).cell (j := 3) (v := .string ⟨#[]⟩) rfl
  have j3t3 := j3.set (j := 3) (v := .string ⟨#[]⟩) rfl
  have j3r4 := j3.cell (j := 4) (v := .int .i64 0) rfl
  have j3s4 := j3.frozen 4
  have j3a4 : ∀ o, (w3.alloc o).cell? ⟨w.heap.size, 4, none⟩ = some (.int .i64 0) := fun o => (HeapIs.al j3 (o' := o)).cell (j := 4) (v := .int .i64 0) rfl
  have j3t4 := j3.set (j := 4) (v := .int .i64 0) rfl
  have j3r5 := j3.cell (j := 5) (v := .slice none 0 0) rfl
  have j3s5 := j3.frozen 5
  have j3a5 : ∀ o, (w3.alloc o).cell? ⟨w.heap.size, 5, none⟩ = some (.slice none 0 0) := fun o => (HeapIs.al j3 (o' := o)).cell (j := 5) (v := .slice none 0 0) rfl
  have j3t5 := j3.set (j := 5) (v := .slice none 0 0) rfl
  clear hb
  go_wp2_with fail
  refine (needs_8 _ _ _ _ _ _ false (by decide) _ (HE.out.later HB.out)).mono ?_
  rintro e w4 ⟨rfl, hb⟩
  replace HB := Lib.hid (show Below w.heap.size w w4 by have h := hb; repeat (first | exact nbl_step HB.out h | replace h := nbl_new h | replace h := nbl_dr h))
  have j4 : HeapIs w4 (w.heap.size) (.cells #[.int .i64 8, .string ⟨#[]⟩, .string ⟨#[]⟩, .string ⟨#[]⟩, .int .i64 0, .slice none 0 0] 29 (0, 0)) := j3.below hb
  have j4r0 := j4.cell (j := 0) (v := .int .i64 8) rfl
  have j4s0 := j4.frozen 0
  have j4a0 : ∀ o, (w4.alloc o).cell? ⟨w.heap.size, 0, none⟩ = some (.int .i64 8) := fun o => (HeapIs.al j4 (o' := o)).cell (j := 0) (v := .int .i64 8) rfl
  have j4t0 := j4.set (j := 0) (v := .int .i64 8) rfl
  have j4r1 := j4.cell (j := 1) (v := .string ⟨#[]⟩) rfl
  have j4s1 := j4.frozen 1
  have j4a1 : ∀ o, (w4.alloc o).cell? ⟨w.heap.size, 1, none⟩ = some (.string ⟨#[]⟩) := fun o => (HeapIs.al j4 (o' := o)).cell (j := 1) (v := .string ⟨#[]⟩) rfl
  have j4t1 := j4.set (j := 1) (v := .string ⟨#[]⟩) rfl
  have j4r2 := j4.cell (j := 2) (v := .string ⟨#[]⟩) rfl
  have j4s2 := j4.frozen 2
  have j4a2 : ∀ o, (w4.alloc o).cell? ⟨w.heap.size, 2, none⟩ = some (.string ⟨#[]⟩) := fun o => (HeapIs.al j4 (o' := o)).cell (j := 2) (v := .string ⟨#[]⟩) rfl
  have j4t2 := j4.set (j := 2) (v := .string ⟨#[]⟩) rfl
  have j4r3 := j4.cell (j := 3) (v := .string ⟨#[]⟩) rfl
  have j4s3 := j4.frozen 3
  have j4a3 : ∀ o, (w4.alloc o).cell? ⟨w.heap.size, 3, none⟩ = some (.string ⟨#[]⟩) := fun o => (HeapIs.al j4 (o' := o)).cell (j := 3) (v := .string ⟨#[]⟩) rfl
  have j4t3 := j4.set (j := 3) (v := .string ⟨#[]⟩) rfl
  have j4r4 := j4.cell (j := 4) (v := .int .i64 0) rfl
  have j4s4 := j4.frozen 4
  have j4a4 : ∀ o, (w4.alloc o).cell? ⟨w.heap.size, 4, none⟩ = some (.int .i64 0) := fun o => (HeapIs.al j4 (o' := o)).cell (j := 4) (v := .int .i64 0) rfl
  have j4t4 := j4.set (j := 4) (v := .int .i64 0) rfl
  have j4r5 := j4.cell (j := 5) (v := .slice none 0 0) rfl
  have j4s5 := j4.frozen 5
  have j4a5 : ∀ o, (w4.alloc o).cell? ⟨w.heap.size, 5, none⟩ = some (.slice none 0 0) := fun o => (HeapIs.al j4 (o' := o)).cell (j := 5) (v := .slice none 0 0) rfl
  have j4t5 := j4.set (j := 5) (v := .slice none 0 0) rfl
  clear hb
  go_wp2_with fail
  refine (needs_8 _ _ _ _ _ _ true (by decide) _ (HE.out.later HB.out)).mono ?_
  rintro e w5 ⟨rfl, hb⟩
  replace HB := Lib.hid (show Below w.heap.size w w5 by have h := hb; repeat (first | exact nbl_step HB.out h | replace h := nbl_new h | replace h := nbl_dr h))
  have j5 : HeapIs w5 (w.heap.size) (.cells #[.int .i64 8, .string ⟨#[]⟩, .string ⟨#[]⟩, .string ⟨#[]⟩, .int .i64 0, .slice none 0 0] 29 (0, 0)) := j4.below hb
  have j5r0 := j5.cell (j := 0) (v := .int .i64 8) rfl
  have j5s0 := j5.frozen 0
  have j5a0 : ∀ o, (w5.alloc o).cell? ⟨w.heap.size, 0, none⟩ = some (.int .i64 8) := fun o => (HeapIs.al j5 (o' := o)).cell (j := 0) (v := .int .i64 8) rfl
  have j5t0 := j5.set (j := 0) (v := .int .i64 8) rfl
  have j5r1 := j5.cell (j := 1) (v := .string ⟨#[]⟩) rfl
  have j5s1 := j5.frozen 1
  have j5a1 : ∀ o, (w5.alloc o).cell? ⟨w.heap.size, 1, none⟩ = some (.string ⟨#[]⟩) := fun o => (HeapIs.al j5 (o' := o)).cell (j := 1) (v := .string ⟨#[]⟩) rfl
  have j5t1 := j5.set (j := 1) (v := .string ⟨#[]⟩) rfl
  have j5r2 := j5.cell (j := 2) (v := .string ⟨#[]⟩) rfl
  have j5s2 := j5.frozen 2
  have j5a2 : ∀ o, (w5.alloc o).cell? ⟨w.heap.size, 2, none⟩ = some (.string ⟨#[]⟩) := fun o => (HeapIs.al j5 (o' := o)).cell (j := 2) (v := .string ⟨#[]⟩) rfl
  have j5t2 := j5.set (j := 2) (v := .string ⟨#[]⟩) rfl
  have j5r3 := j5.cell (j := 3) (v := .string ⟨#[]⟩) rfl
  have j5s3 := j5.frozen 3
  have j5a3 : ∀ o, (w5.alloc o).cell? ⟨w.heap.size, 3, none⟩ = some (.string ⟨#[]⟩) := fun o => (HeapIs.al j5 (o' := o)).cell (j := 3) (v := .string ⟨#[]⟩) rfl
  have j5t3 := j5.set (j := 3) (v := .string ⟨#[]⟩) rfl
  have j5r4 := j5.cell (j := 4) (v := .int .i64 0) rfl
  have j5s4 := j5.frozen 4
  have j5a4 : ∀ o, (w5.alloc o).cell? ⟨w.heap.size, 4, none⟩ = some (.int .i64 0) := fun o => (HeapIs.al j5 (o' := o)).cell (j := 4) (v := .int .i64 0) rfl
  have j5t4 := j5.set (j := 4) (v := .int .i64 0) rfl
  have j5r5 := j5.cell (j := 5) (v := .slice none 0 0) rfl
  have j5s5 := j5.frozen 5
  have j5a5 : ∀ o, (w5.alloc o).cell? ⟨w.heap.size, 5, none⟩ = some (.slice none 0 0) := fun o => (HeapIs.al j5 (o' := o)).cell (j := 5) (v := .slice none 0 0) rfl
  have j5t5 := j5.set (j := 5) (v := .slice none 0 0) rfl
  clear hb
  go_wp2
  go_ret
  exact ⟨rfl, by repeat (first | exact HB.out | apply nbl_al | apply nbl_drw | refine Below.setCell ?_ (Nat.le_refl _) _ | refine nbl_set ?_ (by first | exact Nat.le_refl _ | (simp; omega) | (simp; done) | omega) )⟩

set_option maxRecDepth 100000 in
set_option maxHeartbeats 1000000 in
theorem formed_zero  (w : World) (hE : Env w) :
    Calls Tryz.prog 22 #[.agg #[.int .i64 0, .string ⟨#[]⟩, .string ⟨#[]⟩, .string ⟨#[]⟩, .int .i64 0, .slice none 0 0]] w fun e w' => e = .returned (.bool false) ∧ Below w.heap.size w w' := by
  have HB := Lib.hid (Below.refl w.heap.size w)
  go_enter Tryz.func22, Tryz.ntmps22
  have HE := Lib.hid hE
  replace HB := Lib.hid (nbl_al HB.out (o := .cells #[.int .i64 0, .string ⟨#[]⟩, .string ⟨#[]⟩, .string ⟨#[]⟩, .int .i64 0, .slice none 0 0] 29))
  clear hE
  go_wp2_with fail
  refine (needs_0 _ _ _ _ _ _ _).mono ?_
  rintro e w1 ⟨rfl, hb⟩
  replace HB := Lib.hid (show Below w.heap.size w w1 by have h := hb; repeat (first | exact nbl_step HB.out h | replace h := nbl_new h | replace h := nbl_dr h))
  have j1 : HeapIs w1 (w.heap.size) (.cells #[.int .i64 0, .string ⟨#[]⟩, .string ⟨#[]⟩, .string ⟨#[]⟩, .int .i64 0, .slice none 0 0] 29 (0, 0)) := (HeapIs.new _ _).below hb
  have j1r0 := j1.cell (j := 0) (v := .int .i64 0) rfl
  have j1s0 := j1.frozen 0
  have j1a0 : ∀ o, (w1.alloc o).cell? ⟨w.heap.size, 0, none⟩ = some (.int .i64 0) := fun o => (HeapIs.al j1 (o' := o)).cell (j := 0) (v := .int .i64 0) rfl
  have j1t0 := j1.set (j := 0) (v := .int .i64 0) rfl
  have j1r1 := j1.cell (j := 1) (v := .string ⟨#[]⟩) rfl
  have j1s1 := j1.frozen 1
  have j1a1 : ∀ o, (w1.alloc o).cell? ⟨w.heap.size, 1, none⟩ = some (.string ⟨#[]⟩) := fun o => (HeapIs.al j1 (o' := o)).cell (j := 1) (v := .string ⟨#[]⟩) rfl
  have j1t1 := j1.set (j := 1) (v := .string ⟨#[]⟩) rfl
  have j1r2 := j1.cell (j := 2) (v := .string ⟨#[]⟩) rfl
  have j1s2 := j1.frozen 2
  have j1a2 : ∀ o, (w1.alloc o).cell? ⟨w.heap.size, 2, none⟩ = some (.string ⟨#[]⟩) := fun o => (HeapIs.al j1 (o' := o)).cell (j := 2) (v := .string ⟨#[]⟩) rfl
  have j1t2 := j1.set (j := 2) (v := .string ⟨#[]⟩) rfl
  have j1r3 := j1.cell (j := 3) (v := .string ⟨#[]⟩) rfl
  have j1s3 := j1.frozen 3
  have j1a3 : ∀ o, (w1.alloc o).cell? ⟨w.heap.size, 3, none⟩ = some (.string ⟨#[]⟩) := fun o => (HeapIs.al j1 (o' := o)).cell (j := 3) (v := .string ⟨#[]⟩) rfl
  have j1t3 := j1.set (j := 3) (v := .string ⟨#[]⟩) rfl
  have j1r4 := j1.cell (j := 4) (v := .int .i64 0) rfl
  have j1s4 := j1.frozen 4
  have j1a4 : ∀ o, (w1.alloc o).cell? ⟨w.heap.size, 4, none⟩ = some (.int .i64 0) := fun o => (HeapIs.al j1 (o' := o)).cell (j := 4) (v := .int .i64 0) rfl
  have j1t4 := j1.set (j := 4) (v := .int .i64 0) rfl
  have j1r5 := j1.cell (j := 5) (v := .slice none 0 0) rfl
  have j1s5 := j1.frozen 5
  have j1a5 : ∀ o, (w1.alloc o).cell? ⟨w.heap.size, 5, none⟩ = some (.slice none 0 0) := fun o => (HeapIs.al j1 (o' := o)).cell (j := 5) (v := .slice none 0 0) rfl
  have j1t5 := j1.set (j := 5) (v := .slice none 0 0) rfl
  clear hb
  go_wp2_with fail
  refine (needs_0 _ _ _ _ _ _ _).mono ?_
  rintro e w2 ⟨rfl, hb⟩
  replace HB := Lib.hid (show Below w.heap.size w w2 by have h := hb; repeat (first | exact nbl_step HB.out h | replace h := nbl_new h | replace h := nbl_dr h))
  have j2 : HeapIs w2 (w.heap.size) (.cells #[.int .i64 0, .string ⟨#[]⟩, .string ⟨#[]⟩, .string ⟨#[]⟩, .int .i64 0, .slice none 0 0] 29 (0, 0)) := j1.below hb
  have j2r0 := j2.cell (j := 0) (v := .int .i64 0) rfl
  have j2s0 := j2.frozen 0
  have j2a0 : ∀ o, (w2.alloc o).cell? ⟨w.heap.size, 0, none⟩ = some (.int .i64 0) := fun o => (HeapIs.al j2 (o' := o)).cell (j := 0) (v := .int .i64 0) rfl
  have j2t0 := j2.set (j := 0) (v := .int .i64 0) rfl
  have j2r1 := j2.cell (j := 1) (v := .string ⟨#[]⟩) rfl
  have j2s1 := j2.frozen 1
  have j2a1 : ∀ o, (w2.alloc o).cell? ⟨w.heap.size, 1, none⟩ = some (.string ⟨#[]⟩) := fun o => (HeapIs.al j2 (o' := o)).cell (j := 1) (v := .string ⟨#[]⟩) rfl
  have j2t1 := j2.set (j := 1) (v := .string ⟨#[]⟩) rfl
  have j2r2 := j2.cell (j := 2) (v := .string ⟨#[]⟩) rfl
  have j2s2 := j2.frozen 2
  have j2a2 : ∀ o, (w2.alloc o).cell? ⟨w.heap.size, 2, none⟩ = some (.string ⟨#[]⟩) := fun o => (HeapIs.al j2 (o' := o)).cell (j := 2) (v := .string ⟨#[]⟩) rfl
  have j2t2 := j2.set (j := 2) (v := .string ⟨#[]⟩) rfl
  have j2r3 := j2.cell (j := 3) (v := .string ⟨#[]⟩) rfl
  have j2s3 := j2.frozen 3
  have j2a3 : ∀ o, (w2.alloc o).cell? ⟨w.heap.size, 3, none⟩ = some (.string ⟨#[]⟩) := fun o => (HeapIs.al j2 (o' := o)).cell (j := 3) (v := .string ⟨#[]⟩) rfl
  have j2t3 := j2.set (j := 3) (v := .string ⟨#[]⟩) rfl
  have j2r4 := j2.cell (j := 4) (v := .int .i64 0) rfl
  have j2s4 := j2.frozen 4
  have j2a4 : ∀ o, (w2.alloc o).cell? ⟨w.heap.size, 4, none⟩ = some (.int .i64 0) := fun o => (HeapIs.al j2 (o' := o)).cell (j := 4) (v := .int .i64 0) rfl
  have j2t4 := j2.set (j := 4) (v := .int .i64 0) rfl
  have j2r5 := j2.cell (j := 5) (v := .slice none 0 0) rfl
  have j2s5 := j2.frozen 5
  have j2a5 : ∀ o, (w2.alloc o).cell? ⟨w.heap.size, 5, none⟩ = some (.slice none 0 0) := fun o => (HeapIs.al j2 (o' := o)).cell (j := 5) (v := .slice none 0 0) rfl
  have j2t5 := j2.set (j := 5) (v := .slice none 0 0) rfl
  clear hb
  go_wp2_with fail
  refine (needs_0 _ _ _ _ _ _ _).mono ?_
  rintro e w3 ⟨rfl, hb⟩
  replace HB := Lib.hid (show Below w.heap.size w w3 by have h := hb; repeat (first | exact nbl_step HB.out h | replace h := nbl_new h | replace h := nbl_dr h))
  have j3 : HeapIs w3 (w.heap.size) (.cells #[.int .i64 0, .string ⟨#[]⟩, .string ⟨#[]⟩, .string ⟨#[]⟩, .int .i64 0, .slice none 0 0] 29 (0, 0)) := j2.below hb
  have j3r0 := j3.cell (j := 0) (v := .int .i64 0) rfl
  have j3s0 := j3.frozen 0
  have j3a0 : ∀ o, (w3.alloc o).cell? ⟨w.heap.size, 0, none⟩ = some (.int .i64 0) := fun o => (HeapIs.al j3 (o' := o)).cell (j := 0) (v := .int .i64 0) rfl
  have j3t0 := j3.set (j := 0) (v := .int .i64 0) rfl
  have j3r1 := j3.cell (j := 1) (v := .string ⟨#[]⟩) rfl
  have j3s1 := j3.frozen 1
  have j3a1 : ∀ o, (w3.alloc o).cell? ⟨w.heap.size, 1, none⟩ = some (.string ⟨#[]⟩) := fun o => (HeapIs.al j3 (o' := o)).cell (j := 1) (v := .string ⟨#[]⟩) rfl
  have j3t1 := j3.set (j := 1) (v := .string ⟨#[]⟩) rfl
  have j3r2 := j3.cell (j := 2) (v := .string ⟨#[]⟩) rfl
  have j3s2 := j3.frozen 2
  have j3a2 : ∀ o, (w3.alloc o).cell? ⟨w.heap.size, 2, none⟩ = some (.string ⟨#[]⟩) := fun o => (HeapIs.al j3 (o' := o)).cell (j := 2) (v := .string ⟨#[]⟩) rfl
  have j3t2 := j3.set (j := 2) (v := .string ⟨#[]⟩) rfl
  have j3r3 := j3.cell (j := 3) (v := .string ⟨#[]⟩) rfl
  have j3s3 := j3.frozen 3
  have j3a3 : ∀ o, (w3.alloc o).cell? ⟨w.heap.size, 3, none⟩ = some (.string ⟨#[]⟩) := fun o => (HeapIs.al j3 (o' := o)).cell (j := 3) (v := .string ⟨#[]⟩) rfl
  have j3t3 := j3.set (j := 3) (v := .string ⟨#[]⟩) rfl
  have j3r4 := j3.cell (j := 4) (v := .int .i64 0) rfl
  have j3s4 := j3.frozen 4
  have j3a4 : ∀ o, (w3.alloc o).cell? ⟨w.heap.size, 4, none⟩ = some (.int .i64 0) := fun o => (HeapIs.al j3 (o' := o)).cell (j := 4) (v := .int .i64 0) rfl
  have j3t4 := j3.set (j := 4) (v := .int .i64 0) rfl
  have j3r5 := j3.cell (j := 5) (v := .slice none 0 0) rfl
  have j3s5 := j3.frozen 5
  have j3a5 : ∀ o, (w3.alloc o).cell? ⟨w.heap.size, 5, none⟩ = some (.slice none 0 0) := fun o => (HeapIs.al j3 (o' := o)).cell (j := 5) (v := .slice none 0 0) rfl
  have j3t5 := j3.set (j := 5) (v := .slice none 0 0) rfl
  clear hb
  go_wp2
  go_ret
  exact ⟨rfl, by repeat (first | exact HB.out | apply nbl_al | apply nbl_drw | refine Below.setCell ?_ (Nat.le_refl _) _ | refine nbl_set ?_ (by first | exact Nat.le_refl _ | (simp; omega) | (simp; done) | omega) )⟩

set_option maxRecDepth 100000 in
set_option maxHeartbeats 1000000 in
theorem formed_merge  (w : World) (hE : Env w) :
    Calls Tryz.prog 22 #[.agg #[.int .i64 9, .string ⟨#[]⟩, .string ⟨#[]⟩, .string ⟨#[]⟩, .int .i64 0, .slice none 0 0]] w fun e w' => e = .returned (.bool true) ∧ Below w.heap.size w w' := by
  have HB := Lib.hid (Below.refl w.heap.size w)
  go_enter Tryz.func22, Tryz.ntmps22
  have HE := Lib.hid hE
  replace HB := Lib.hid (nbl_al HB.out (o := .cells #[.int .i64 9, .string ⟨#[]⟩, .string ⟨#[]⟩, .string ⟨#[]⟩, .int .i64 0, .slice none 0 0] 29))
  clear hE
  go_wp2_with fail
  refine (needs_9 _ _ _ _ _ _ false (by decide) _ (HE.out.later HB.out)).mono ?_
  rintro e w1 ⟨rfl, hb⟩
  replace HB := Lib.hid (show Below w.heap.size w w1 by have h := hb; repeat (first | exact nbl_step HB.out h | replace h := nbl_new h | replace h := nbl_dr h))
  have j1 : HeapIs w1 (w.heap.size) (.cells #[.int .i64 9, .string ⟨#[]⟩, .string ⟨#[]⟩, .string ⟨#[]⟩, .int .i64 0, .slice none 0 0] 29 (0, 0)) := (HeapIs.new _ _).below hb
  have j1r0 := j1.cell (j := 0) (v := .int .i64 9) rfl
  have j1s0 := j1.frozen 0
  have j1a0 : ∀ o, (w1.alloc o).cell? ⟨w.heap.size, 0, none⟩ = some (.int .i64 9) := fun o => (HeapIs.al j1 (o' := o)).cell (j := 0) (v := .int .i64 9) rfl
  have j1t0 := j1.set (j := 0) (v := .int .i64 9) rfl
  have j1r1 := j1.cell (j := 1) (v := .string ⟨#[]⟩) rfl
  have j1s1 := j1.frozen 1
  have j1a1 : ∀ o, (w1.alloc o).cell? ⟨w.heap.size, 1, none⟩ = some (.string ⟨#[]⟩) := fun o => (HeapIs.al j1 (o' := o)).cell (j := 1) (v := .string ⟨#[]⟩) rfl
  have j1t1 := j1.set (j := 1) (v := .string ⟨#[]⟩) rfl
  have j1r2 := j1.cell (j := 2) (v := .string ⟨#[]⟩) rfl
  have j1s2 := j1.frozen 2
  have j1a2 : ∀ o, (w1.alloc o).cell? ⟨w.heap.size, 2, none⟩ = some (.string ⟨#[]⟩) := fun o => (HeapIs.al j1 (o' := o)).cell (j := 2) (v := .string ⟨#[]⟩) rfl
  have j1t2 := j1.set (j := 2) (v := .string ⟨#[]⟩) rfl
  have j1r3 := j1.cell (j := 3) (v := .string ⟨#[]⟩) rfl
  have j1s3 := j1.frozen 3
  have j1a3 : ∀ o, (w1.alloc o).cell? ⟨w.heap.size, 3, none⟩ = some (.string ⟨#[]⟩) := fun o => (HeapIs.al j1 (o' := o)).cell (j := 3) (v := .string ⟨#[]⟩) rfl
  have j1t3 := j1.set (j := 3) (v := .string ⟨#[]⟩) rfl
  have j1r4 := j1.cell (j := 4) (v := .int .i64 0) rfl
  have j1s4 := j1.frozen 4
  have j1a4 : ∀ o, (w1.alloc o).cell? ⟨w.heap.size, 4, none⟩ = some (.int .i64 0) := fun o => (HeapIs.al j1 (o' := o)).cell (j := 4) (v := .int .i64 0) rfl
  have j1t4 := j1.set (j := 4) (v := .int .i64 0) rfl
  have j1r5 := j1.cell (j := 5) (v := .slice none 0 0) rfl
  have j1s5 := j1.frozen 5
  have j1a5 : ∀ o, (w1.alloc o).cell? ⟨w.heap.size, 5, none⟩ = some (.slice none 0 0) := fun o => (HeapIs.al j1 (o' := o)).cell (j := 5) (v := .slice none 0 0) rfl
  have j1t5 := j1.set (j := 5) (v := .slice none 0 0) rfl
  clear hb
  go_wp2_with fail
  refine (needs_9 _ _ _ _ _ _ false (by decide) _ (HE.out.later HB.out)).mono ?_
  rintro e w2 ⟨rfl, hb⟩
  replace HB := Lib.hid (show Below w.heap.size w w2 by have h := hb; repeat (first | exact nbl_step HB.out h | replace h := nbl_new h | replace h := nbl_dr h))
  have j2 : HeapIs w2 (w.heap.size) (.cells #[.int .i64 9, .string ⟨#[]⟩, .string ⟨#[]⟩, .string ⟨#[]⟩, .int .i64 0, .slice none 0 0] 29 (0, 0)) := j1.below hb
  have j2r0 := j2.cell (j := 0) (v := .int .i64 9) rfl
  have j2s0 := j2.frozen 0
  have j2a0 : ∀ o, (w2.alloc o).cell? ⟨w.heap.size, 0, none⟩ = some (.int .i64 9) := fun o => (HeapIs.al j2 (o' := o)).cell (j := 0) (v := .int .i64 9) rfl
  have j2t0 := j2.set (j := 0) (v := .int .i64 9) rfl
  have j2r1 := j2.cell (j := 1) (v := .string ⟨#[]⟩) rfl
  have j2s1 := j2.frozen 1
  have j2a1 : ∀ o, (w2.alloc o).cell? ⟨w.heap.size, 1, none⟩ = some (.string ⟨#[]⟩) := fun o => (HeapIs.al j2 (o' := o)).cell (j := 1) (v := .string ⟨#[]⟩) rfl
  have j2t1 := j2.set (j := 1) (v := .string ⟨#[]⟩) rfl
  have j2r2 := j2.cell (j := 2) (v := .string ⟨#[]⟩) rfl
  have j2s2 := j2.frozen 2
  have j2a2 : ∀ o, (w2.alloc o).cell? ⟨w.heap.size, 2, none⟩ = some (.string ⟨#[]⟩) := fun o => (HeapIs.al j2 (o' := o)).cell (j := 2) (v := .string ⟨#[]⟩) rfl
  have j2t2 := j2.set (j := 2) (v := .string ⟨#[]⟩) rfl
  have j2r3 := j2.cell (j := 3) (v := .string ⟨#[]⟩) rfl
  have j2s3 := j2.frozen 3
  have j2a3 : ∀ o, (w2.alloc o).cell? ⟨w.heap.size, 3, none⟩ = some (.string ⟨#[]⟩) := fun o => (HeapIs.al j2 (o' := o)).cell (j := 3) (v := .string ⟨#[]⟩) rfl
  have j2t3 := j2.set (j := 3) (v := .string ⟨#[]⟩) rfl
  have j2r4 := j2.cell (j := 4) (v := .int .i64 0) rfl
  have j2s4 := j2.frozen 4
  have j2a4 : ∀ o, (w2.alloc o).cell? ⟨w.heap.size, 4, none⟩ = some (.int .i64 0) := fun o => (HeapIs.al j2 (o' := o)).cell (j := 4) (v := .int .i64 0) rfl
  have j2t4 := j2.set (j := 4) (v := .int .i64 0) rfl
  have j2r5 := j2.cell (j := 5) (v := .slice none 0 0) rfl
  have j2s5 := j2.frozen 5
  have j2a5 : ∀ o, (w2.alloc o).cell? ⟨w.heap.size, 5, none⟩ = some (.slice none 0 0) := fun o => (HeapIs.al j2 (o' := o)).cell (j := 5) (v := .slice none 0 0) rfl
  have j2t5 := j2.set (j := 5) (v := .slice none 0 0) rfl
  clear hb
  go_wp2_with fail
  refine (needs_9 _ _ _ _ _ _ false (by decide) _ (HE.out.later HB.out)).mono ?_
  rintro e w3 ⟨rfl, hb⟩
  replace HB := Lib.hid (show Below w.heap.size w w3 by have h := hb; repeat (first | exact nbl_step HB.out h | replace h := nbl_new h | replace h := nbl_dr h))
  have j3 : HeapIs w3 (w.heap.size) (.cells #[.int .i64 9, .string ⟨#[]⟩, .string ⟨#[]⟩, .string ⟨#[]⟩, .int .i64 0, .slice none 0 0] 29 (0, 0)) := j2.below hb
  have j3r0 := j3.cell (j := 0) (v := .int .i64 9) rfl
  have j3s0 := j3.frozen 0
  have j3a0 : ∀ o, (w3.alloc o).cell? ⟨w.heap.size, 0, none⟩ = some (.int .i64 9) := fun o => (HeapIs.al j3 (o' := o)).cell (j := 0) (v := .int .i64 9) rfl
  have j3t0 := j3.set (j := 0) (v := .int .i64 9) rfl
  have j3r1 := j3.cell (j := 1) (v := .string ⟨#[]⟩) rfl
  have j3s1 := j3.frozen 1
  have j3a1 : ∀ o, (w3.alloc o).cell? ⟨w.heap.size, 1, none⟩ = some (.string ⟨#[]⟩) := fun o => (HeapIs.al j3 (o' := o)).cell (j := 1) (v := .string ⟨#[]⟩) rfl
  have j3t1 := j3.set (j := 1) (v := .string ⟨#[]⟩) rfl
  have j3r2 := j3.cell (j := 2) (v := .string ⟨#[]⟩) rfl
  have j3s2 := j3.frozen 2
  have j3a2 : ∀ o, (w3.alloc o).cell? ⟨w.heap.size, 2, none⟩ = some (.string ⟨#[]⟩) := fun o => (HeapIs.al j3 (o' := o)).cell (j := 2) (v := .string ⟨#[]⟩) rfl
  have j3t2 := j3.set (j := 2) (v := .string ⟨#[]⟩) rfl
  have j3r3 := j3.cell (j := 3) (v := .string ⟨#[]⟩) rfl
  have j3s3 := j3.frozen 3
  have j3a3 : ∀ o, (w3.alloc o).cell? ⟨w.heap.size, 3, none⟩ = some (.string ⟨#[]⟩) := fun o => (HeapIs.al j3 (o' := o)).cell (j := 3) (v := .string ⟨#[]⟩) rfl
  have j3t3 := j3.set (j := 3) (v := .string ⟨#[]⟩) rfl
  have j3r4 := j3.cell (j := 4) (v := .int .i64 0) rfl
  have j3s4 := j3.frozen 4
  have j3a4 : ∀ o, (w3.alloc o).cell? ⟨w.heap.size, 4, none⟩ = some (.int .i64 0) := fun o => (HeapIs.al j3 (o' := o)).cell (j := 4) (v := .int .i64 0) rfl
  have j3t4 := j3.set (j := 4) (v := .int .i64 0) rfl
  have j3r5 := j3.cell (j := 5) (v := .slice none 0 0) rfl
  have j3s5 := j3.frozen 5
  have j3a5 : ∀ o, (w3.alloc o).cell? ⟨w.heap.size, 5, none⟩ = some (.slice none 0 0) := fun o => (HeapIs.al j3 (o' := o)).cell (j := 5) (v := .slice none 0 0) rfl
  have j3t5 := j3.set (j := 5) (v := .slice none 0 0) rfl
  clear hb
  go_wp2_with fail
  refine (needs_9 _ _ _ _ _ _ false (by decide) _ (HE.out.later HB.out)).mono ?_
  rintro e w4 ⟨rfl, hb⟩
  replace HB := Lib.hid (show Below w.heap.size w w4 by have h := hb; repeat (first | exact nbl_step HB.out h | replace h := nbl_new h | replace h := nbl_dr h))
  have j4 : HeapIs w4 (w.heap.size) (.cells #[.int .i64 9, .string ⟨#[]⟩, .string ⟨#[]⟩, .string ⟨#[]⟩, .int .i64 0, .slice none 0 0] 29 (0, 0)) := j3.below hb
  have j4r0 := j4.cell (j := 0) (v := .int .i64 9) rfl
  have j4s0 := j4.frozen 0
  have j4a0 : ∀ o, (w4.alloc o).cell? ⟨w.heap.size, 0, none⟩ = some (.int .i64 9) := fun o => (HeapIs.al j4 (o' := o)).cell (j := 0) (v := .int .i64 9) rfl
  have j4t0 := j4.set (j := 0) (v := .int .i64 9) rfl
  have j4r1 := j4.cell (j := 1) (v := .string ⟨#[]⟩) rfl
  have j4s1 := j4.frozen 1
  have j4a1 : ∀ o, (w4.alloc o).cell? ⟨w.heap.size, 1, none⟩ = some (.string ⟨#[]⟩) := fun o => (HeapIs.al j4 (o' := o)).cell (j := 1) (v := .string ⟨#[]⟩) rfl
  have j4t1 := j4.set (j := 1) (v := .string ⟨#[]⟩) rfl
  have j4r2 := j4.cell (j := 2) (v := .string ⟨#[]⟩) rfl
  have j4s2 := j4.frozen 2
  have j4a2 : ∀ o, (w4.alloc o).cell? ⟨w.heap.size, 2, none⟩ = some (.string ⟨#[]⟩) := fun o => (HeapIs.al j4 (o' := o)).cell (j := 2) (v := .string ⟨#[]⟩) rfl
  have j4t2 := j4.set (j := 2) (v := .string ⟨#[]⟩) rfl
  have j4r3 := j4.cell (j := 3) (v := .string ⟨#[]⟩) rfl
  have j4s3 := j4.frozen 3
  have j4a3 : ∀ o, (w4.alloc o).cell? ⟨w.heap.size, 3, none⟩ = some (.string ⟨#[]⟩) := fun o => (HeapIs.al j4 (o' := o)).cell (j := 3) (v := .string ⟨#[]⟩) rfl
  have j4t3 := j4.set (j := 3) (v := .string ⟨#[]⟩) rfl
  have j4r4 := j4.cell (j := 4) (v := .int .i64 0) rfl
  have j4s4 := j4.frozen 4
  have j4a4 : ∀ o, (w4.alloc o).cell? ⟨w.heap.size, 4, none⟩ = some (.int .i64 0) := fun o => (HeapIs.al j4 (o' := o)).cell (j := 4) (v := .int .i64 0) rfl
  have j4t4 := j4.set (j := 4) (v := .int .i64 0) rfl
  have j4r5 := j4.cell (j := 5) (v := .slice none 0 0) rfl
  have j4s5 := j4.frozen 5
  have j4a5 : ∀ o, (w4.alloc o).cell? ⟨w.heap.size, 5, none⟩ = some (.slice none 0 0) := fun o => (HeapIs.al j4 (o' := o)).cell (j := 5) (v := .slice none 0 0) rfl
  have j4t5 := j4.set (j := 5) (v := .slice none 0 0) rfl
  clear hb
  go_wp2_with fail
  refine (needs_9 _ _ _ _ _ _ false (by decide) _ (HE.out.later HB.out)).mono ?_
  rintro e w5 ⟨rfl, hb⟩
  replace HB := Lib.hid (show Below w.heap.size w w5 by have h := hb; repeat (first | exact nbl_step HB.out h | replace h := nbl_new h | replace h := nbl_dr h))
  have j5 : HeapIs w5 (w.heap.size) (.cells #[.int .i64 9, .string ⟨#[]⟩, .string ⟨#[]⟩, .string ⟨#[]⟩, .int .i64 0, .slice none 0 0] 29 (0, 0)) := j4.below hb
  have j5r0 := j5.cell (j := 0) (v := .int .i64 9) rfl
  have j5s0 := j5.frozen 0
  have j5a0 : ∀ o, (w5.alloc o).cell? ⟨w.heap.size, 0, none⟩ = some (.int .i64 9) := fun o => (HeapIs.al j5 (o' := o)).cell (j := 0) (v := .int .i64 9) rfl
  have j5t0 := j5.set (j := 0) (v := .int .i64 9) rfl
  have j5r1 := j5.cell (j := 1) (v := .string ⟨#[]⟩) rfl
  have j5s1 := j5.frozen 1
  have j5a1 : ∀ o, (w5.alloc o).cell? ⟨w.heap.size, 1, none⟩ = some (.string ⟨#[]⟩) := fun o => (HeapIs.al j5 (o' := o)).cell (j := 1) (v := .string ⟨#[]⟩) rfl
  have j5t1 := j5.set (j := 1) (v := .string ⟨#[]⟩) rfl
  have j5r2 := j5.cell (j := 2) (v := .string ⟨#[]⟩) rfl
  have j5s2 := j5.frozen 2
  have j5a2 : ∀ o, (w5.alloc o).cell? ⟨w.heap.size, 2, none⟩ = some (.string ⟨#[]⟩) := fun o => (HeapIs.al j5 (o' := o)).cell (j := 2) (v := .string ⟨#[]⟩) rfl
  have j5t2 := j5.set (j := 2) (v := .string ⟨#[]⟩) rfl
  have j5r3 := j5.cell (j := 3) (v := .string ⟨#[]⟩) rfl
  have j5s3 := j5.frozen 3
  have j5a3 : ∀ o, (w5.alloc o).cell? ⟨w.heap.size, 3, none⟩ = some (.string ⟨#[]⟩) := fun o => (HeapIs.al j5 (o' := o)).cell (j := 3) (v := .string ⟨#[]⟩) rfl
  have j5t3 := j5.set (j := 3) (v := .string ⟨#[]⟩) rfl
  have j5r4 := j5.cell (j := 4) (v := .int .i64 0) rfl
  have j5s4 := j5.frozen 4
  have j5a4 : ∀ o, (w5.alloc o).cell? ⟨w.heap.size, 4, none⟩ = some (.int .i64 0) := fun o => (HeapIs.al j5 (o' := o)).cell (j := 4) (v := .int .i64 0) rfl
  have j5t4 := j5.set (j := 4) (v := .int .i64 0) rfl
  have j5r5 := j5.cell (j := 5) (v := .slice none 0 0) rfl
  have j5s5 := j5.frozen 5
  have j5a5 : ∀ o, (w5.alloc o).cell? ⟨w.heap.size, 5, none⟩ = some (.slice none 0 0) := fun o => (HeapIs.al j5 (o' := o)).cell (j := 5) (v := .slice none 0 0) rfl
  have j5t5 := j5.set (j := 5) (v := .slice none 0 0) rfl
  clear hb
  go_wp2
  go_ret
  exact ⟨rfl, by repeat (first | exact HB.out | apply nbl_al | apply nbl_drw | refine Below.setCell ?_ (Nat.le_refl _) _ | refine nbl_set ?_ (by first | exact Nat.le_refl _ | (simp; omega) | (simp; done) | omega) )⟩

set_option maxRecDepth 100000 in
set_option maxHeartbeats 1000000 in
theorem formed_wishaa  (w : World) (hE : Env w) :
    Calls Tryz.prog 22 #[.agg #[.int .i64 6, .string ⟨#[97]⟩, .string ⟨#[97]⟩, .string ⟨#[116, 101, 97]⟩, .int .i64 0, .slice none 0 0]] w fun e w' => e = .returned (.bool true) ∧ Below w.heap.size w w' := by
  have HB := Lib.hid (Below.refl w.heap.size w)
  go_enter Tryz.func22, Tryz.ntmps22
  have HE := Lib.hid hE
  replace HB := Lib.hid (nbl_al HB.out (o := .cells #[.int .i64 6, .string ⟨#[97]⟩, .string ⟨#[97]⟩, .string ⟨#[116, 101, 97]⟩, .int .i64 0, .slice none 0 0] 29))
  clear hE
  go_wp2_with fail
  refine (needs_6 _ _ _ _ _ _ true (by decide) _ (HE.out.later HB.out)).mono ?_
  rintro e w1 ⟨rfl, hb⟩
  replace HB := Lib.hid (show Below w.heap.size w w1 by have h := hb; repeat (first | exact nbl_step HB.out h | replace h := nbl_new h | replace h := nbl_dr h))
  have j1 : HeapIs w1 (w.heap.size) (.cells #[.int .i64 6, .string ⟨#[97]⟩, .string ⟨#[97]⟩, .string ⟨#[116, 101, 97]⟩, .int .i64 0, .slice none 0 0] 29 (0, 0)) := (HeapIs.new _ _).below hb
  have j1r0 := j1.cell (j := 0) (v := .int .i64 6) rfl
  have j1s0 := j1.frozen 0
  have j1a0 : ∀ o, (w1.alloc o).cell? ⟨w.heap.size, 0, none⟩ = some (.int .i64 6) := fun o => (HeapIs.al j1 (o' := o)).cell (j := 0) (v := .int .i64 6) rfl
  have j1t0 := j1.set (j := 0) (v := .int .i64 6) rfl
  have j1r1 := j1.cell (j := 1) (v := .string ⟨#[97]⟩) rfl
  have j1s1 := j1.frozen 1
  have j1a1 : ∀ o, (w1.alloc o).cell? ⟨w.heap.size, 1, none⟩ = some (.string ⟨#[97]⟩) := fun o => (HeapIs.al j1 (o' := o)).cell (j := 1) (v := .string ⟨#[97]⟩) rfl
  have j1t1 := j1.set (j := 1) (v := .string ⟨#[97]⟩) rfl
  have j1r2 := j1.cell (j := 2) (v := .string ⟨#[97]⟩) rfl
  have j1s2 := j1.frozen 2
  have j1a2 : ∀ o, (w1.alloc o).cell? ⟨w.heap.size, 2, none⟩ = some (.string ⟨#[97]⟩) := fun o => (HeapIs.al j1 (o' := o)).cell (j := 2) (v := .string ⟨#[97]⟩) rfl
  have j1t2 := j1.set (j := 2) (v := .string ⟨#[97]⟩) rfl
  have j1r3 := j1.cell (j := 3) (v := .string ⟨#[116, 101, 97]⟩) rfl
  have j1s3 := j1.frozen 3
  have j1a3 : ∀ o, (w1.alloc o).cell? ⟨w.heap.size, 3, none⟩ = some (.string ⟨#[116, 101, 97]⟩) := fun o => (HeapIs.al j1 (o' := o)).cell (j := 3) (v := .string ⟨#[116, 101, 97]⟩) rfl
  have j1t3 := j1.set (j := 3) (v := .string ⟨#[116, 101, 97]⟩) rfl
  have j1r4 := j1.cell (j := 4) (v := .int .i64 0) rfl
  have j1s4 := j1.frozen 4
  have j1a4 : ∀ o, (w1.alloc o).cell? ⟨w.heap.size, 4, none⟩ = some (.int .i64 0) := fun o => (HeapIs.al j1 (o' := o)).cell (j := 4) (v := .int .i64 0) rfl
  have j1t4 := j1.set (j := 4) (v := .int .i64 0) rfl
  have j1r5 := j1.cell (j := 5) (v := .slice none 0 0) rfl
  have j1s5 := j1.frozen 5
  have j1a5 : ∀ o, (w1.alloc o).cell? ⟨w.heap.size, 5, none⟩ = some (.slice none 0 0) := fun o => (HeapIs.al j1 (o' := o)).cell (j := 5) (v := .slice none 0 0) rfl
  have j1t5 := j1.set (j := 5) (v := .slice none 0 0) rfl
  clear hb
  go_wp2_with fail
  refine (needs_6 _ _ _ _ _ _ true (by decide) _ (HE.out.later HB.out)).mono ?_
  rintro e w2 ⟨rfl, hb⟩
  replace HB := Lib.hid (show Below w.heap.size w w2 by have h := hb; repeat (first | exact nbl_step HB.out h | replace h := nbl_new h | replace h := nbl_dr h))
  have j2 : HeapIs w2 (w.heap.size) (.cells #[.int .i64 6, .string ⟨#[97]⟩, .string ⟨#[97]⟩, .string ⟨#[116, 101, 97]⟩, .int .i64 0, .slice none 0 0] 29 (0, 0)) := j1.below hb
  have j2r0 := j2.cell (j := 0) (v := .int .i64 6) rfl
  have j2s0 := j2.frozen 0
  have j2a0 : ∀ o, (w2.alloc o).cell? ⟨w.heap.size, 0, none⟩ = some (.int .i64 6) := fun o => (HeapIs.al j2 (o' := o)).cell (j := 0) (v := .int .i64 6) rfl
  have j2t0 := j2.set (j := 0) (v := .int .i64 6) rfl
  have j2r1 := j2.cell (j := 1) (v := .string ⟨#[97]⟩) rfl
  have j2s1 := j2.frozen 1
  have j2a1 : ∀ o, (w2.alloc o).cell? ⟨w.heap.size, 1, none⟩ = some (.string ⟨#[97]⟩) := fun o => (HeapIs.al j2 (o' := o)).cell (j := 1) (v := .string ⟨#[97]⟩) rfl
  have j2t1 := j2.set (j := 1) (v := .string ⟨#[97]⟩) rfl
  have j2r2 := j2.cell (j := 2) (v := .string ⟨#[97]⟩) rfl
  have j2s2 := j2.frozen 2
  have j2a2 : ∀ o, (w2.alloc o).cell? ⟨w.heap.size, 2, none⟩ = some (.string ⟨#[97]⟩) := fun o => (HeapIs.al j2 (o' := o)).cell (j := 2) (v := .string ⟨#[97]⟩) rfl
  have j2t2 := j2.set (j := 2) (v := .string ⟨#[97]⟩) rfl
  have j2r3 := j2.cell (j := 3) (v := .string ⟨#[116, 101, 97]⟩) rfl
  have j2s3 := j2.frozen 3
  have j2a3 : ∀ o, (w2.alloc o).cell? ⟨w.heap.size, 3, none⟩ = some (.string ⟨#[116, 101, 97]⟩) := fun o => (HeapIs.al j2 (o' := o)).cell (j := 3) (v := .string ⟨#[116, 101, 97]⟩) rfl
  have j2t3 := j2.set (j := 3) (v := .string ⟨#[116, 101, 97]⟩) rfl
  have j2r4 := j2.cell (j := 4) (v := .int .i64 0) rfl
  have j2s4 := j2.frozen 4
  have j2a4 : ∀ o, (w2.alloc o).cell? ⟨w.heap.size, 4, none⟩ = some (.int .i64 0) := fun o => (HeapIs.al j2 (o' := o)).cell (j := 4) (v := .int .i64 0) rfl
  have j2t4 := j2.set (j := 4) (v := .int .i64 0) rfl
  have j2r5 := j2.cell (j := 5) (v := .slice none 0 0) rfl
  have j2s5 := j2.frozen 5
  have j2a5 : ∀ o, (w2.alloc o).cell? ⟨w.heap.size, 5, none⟩ = some (.slice none 0 0) := fun o => (HeapIs.al j2 (o' := o)).cell (j := 5) (v := .slice none 0 0) rfl
  have j2t5 := j2.set (j := 5) (v := .slice none 0 0) rfl
  clear hb
  go_wp2_with fail
  refine (needs_6 _ _ _ _ _ _ true (by decide) _ (HE.out.later HB.out)).mono ?_
  rintro e w3 ⟨rfl, hb⟩
  replace HB := Lib.hid (show Below w.heap.size w w3 by have h := hb; repeat (first | exact nbl_step HB.out h | replace h := nbl_new h | replace h := nbl_dr h))
  have j3 : HeapIs w3 (w.heap.size) (.cells #[.int .i64 6, .string ⟨#[97]⟩, .string ⟨#[97]⟩, .string ⟨#[116, 101, 97]⟩, .int .i64 0, .slice none 0 0] 29 (0, 0)) := j2.below hb
  have j3r0 := j3.cell (j := 0) (v := .int .i64 6) rfl
  have j3s0 := j3.frozen 0
  have j3a0 : ∀ o, (w3.alloc o).cell? ⟨w.heap.size, 0, none⟩ = some (.int .i64 6) := fun o => (HeapIs.al j3 (o' := o)).cell (j := 0) (v := .int .i64 6) rfl
  have j3t0 := j3.set (j := 0) (v := .int .i64 6) rfl
  have j3r1 := j3.cell (j := 1) (v := .string ⟨#[97]⟩) rfl
  have j3s1 := j3.frozen 1
  have j3a1 : ∀ o, (w3.alloc o).cell? ⟨w.heap.size, 1, none⟩ = some (.string ⟨#[97]⟩) := fun o => (HeapIs.al j3 (o' := o)).cell (j := 1) (v := .string ⟨#[97]⟩) rfl
  have j3t1 := j3.set (j := 1) (v := .string ⟨#[97]⟩) rfl
  have j3r2 := j3.cell (j := 2) (v := .string ⟨#[97]⟩) rfl
  have j3s2 := j3.frozen 2
  have j3a2 : ∀ o, (w3.alloc o).cell? ⟨w.heap.size, 2, none⟩ = some (.string ⟨#[97]⟩) := fun o => (HeapIs.al j3 (o' := o)).cell (j := 2) (v := .string ⟨#[97]⟩) rfl
  have j3t2 := j3.set (j := 2) (v := .string ⟨#[97]⟩) rfl
  have j3r3 := j3.cell (j := 3) (v := .string ⟨#[116, 101, 97]⟩) rfl
  have j3s3 := j3.frozen 3
  have j3a3 : ∀ o, (w3.alloc o).cell? ⟨w.heap.size, 3, none⟩ = some (.string ⟨#[116, 101, 97]⟩) := fun o => (HeapIs.al j3 (o' := o)).cell (j := 3) (v := .string ⟨#[116, 101, 97]⟩) rfl
  have j3t3 := j3.set (j := 3) (v := .string ⟨#[116, 101, 97]⟩) rfl
  have j3r4 := j3.cell (j := 4) (v := .int .i64 0) rfl
  have j3s4 := j3.frozen 4
  have j3a4 : ∀ o, (w3.alloc o).cell? ⟨w.heap.size, 4, none⟩ = some (.int .i64 0) := fun o => (HeapIs.al j3 (o' := o)).cell (j := 4) (v := .int .i64 0) rfl
  have j3t4 := j3.set (j := 4) (v := .int .i64 0) rfl
  have j3r5 := j3.cell (j := 5) (v := .slice none 0 0) rfl
  have j3s5 := j3.frozen 5
  have j3a5 : ∀ o, (w3.alloc o).cell? ⟨w.heap.size, 5, none⟩ = some (.slice none 0 0) := fun o => (HeapIs.al j3 (o' := o)).cell (j := 5) (v := .slice none 0 0) rfl
  have j3t5 := j3.set (j := 5) (v := .slice none 0 0) rfl
  clear hb
  go_wp2_with fail
  refine (needs_6 _ _ _ _ _ _ false (by decide) _ (HE.out.later HB.out)).mono ?_
  rintro e w4 ⟨rfl, hb⟩
  replace HB := Lib.hid (show Below w.heap.size w w4 by have h := hb; repeat (first | exact nbl_step HB.out h | replace h := nbl_new h | replace h := nbl_dr h))
  have j4 : HeapIs w4 (w.heap.size) (.cells #[.int .i64 6, .string ⟨#[97]⟩, .string ⟨#[97]⟩, .string ⟨#[116, 101, 97]⟩, .int .i64 0, .slice none 0 0] 29 (0, 0)) := j3.below hb
  have j4r0 := j4.cell (j := 0) (v := .int .i64 6) rfl
  have j4s0 := j4.frozen 0
  have j4a0 : ∀ o, (w4.alloc o).cell? ⟨w.heap.size, 0, none⟩ = some (.int .i64 6) := fun o => (HeapIs.al j4 (o' := o)).cell (j := 0) (v := .int .i64 6) rfl
  have j4t0 := j4.set (j := 0) (v := .int .i64 6) rfl
  have j4r1 := j4.cell (j := 1) (v := .string ⟨#[97]⟩) rfl
  have j4s1 := j4.frozen 1
  have j4a1 : ∀ o, (w4.alloc o).cell? ⟨w.heap.size, 1, none⟩ = some (.string ⟨#[97]⟩) := fun o => (HeapIs.al j4 (o' := o)).cell (j := 1) (v := .string ⟨#[97]⟩) rfl
  have j4t1 := j4.set (j := 1) (v := .string ⟨#[97]⟩) rfl
  have j4r2 := j4.cell (j := 2) (v := .string ⟨#[97]⟩) rfl
  have j4s2 := j4.frozen 2
  have j4a2 : ∀ o, (w4.alloc o).cell? ⟨w.heap.size, 2, none⟩ = some (.string ⟨#[97]⟩) := fun o => (HeapIs.al j4 (o' := o)).cell (j := 2) (v := .string ⟨#[97]⟩) rfl
  have j4t2 := j4.set (j := 2) (v := .string ⟨#[97]⟩) rfl
  have j4r3 := j4.cell (j := 3) (v := .string ⟨#[116, 101, 97]⟩) rfl
  have j4s3 := j4.frozen 3
  have j4a3 : ∀ o, (w4.alloc o).cell? ⟨w.heap.size, 3, none⟩ = some (.string ⟨#[116, 101, 97]⟩) := fun o => (HeapIs.al j4 (o' := o)).cell (j := 3) (v := .string ⟨#[116, 101, 97]⟩) rfl
  have j4t3 := j4.set (j := 3) (v := .string ⟨#[116, 101, 97]⟩) rfl
  have j4r4 := j4.cell (j := 4) (v := .int .i64 0) rfl
  have j4s4 := j4.frozen 4
  have j4a4 : ∀ o, (w4.alloc o).cell? ⟨w.heap.size, 4, none⟩ = some (.int .i64 0) := fun o => (HeapIs.al j4 (o' := o)).cell (j := 4) (v := .int .i64 0) rfl
  have j4t4 := j4.set (j := 4) (v := .int .i64 0) rfl
  have j4r5 := j4.cell (j := 5) (v := .slice none 0 0) rfl
  have j4s5 := j4.frozen 5
  have j4a5 : ∀ o, (w4.alloc o).cell? ⟨w.heap.size, 5, none⟩ = some (.slice none 0 0) := fun o => (HeapIs.al j4 (o' := o)).cell (j := 5) (v := .slice none 0 0) rfl
  have j4t5 := j4.set (j := 5) (v := .slice none 0 0) rfl
  clear hb
  go_wp2_with fail
  refine (needs_6 _ _ _ _ _ _ false (by decide) _ (HE.out.later HB.out)).mono ?_
  rintro e w5 ⟨rfl, hb⟩
  replace HB := Lib.hid (show Below w.heap.size w w5 by have h := hb; repeat (first | exact nbl_step HB.out h | replace h := nbl_new h | replace h := nbl_dr h))
  have j5 : HeapIs w5 (w.heap.size) (.cells #[.int .i64 6, .string ⟨#[97]⟩, .string ⟨#[97]⟩, .string ⟨#[116, 101, 97]⟩, .int .i64 0, .slice none 0 0] 29 (0, 0)) := j4.below hb
  have j5r0 := j5.cell (j := 0) (v := .int .i64 6) rfl
  have j5s0 := j5.frozen 0
  have j5a0 : ∀ o, (w5.alloc o).cell? ⟨w.heap.size, 0, none⟩ = some (.int .i64 6) := fun o => (HeapIs.al j5 (o' := o)).cell (j := 0) (v := .int .i64 6) rfl
  have j5t0 := j5.set (j := 0) (v := .int .i64 6) rfl
  have j5r1 := j5.cell (j := 1) (v := .string ⟨#[97]⟩) rfl
  have j5s1 := j5.frozen 1
  have j5a1 : ∀ o, (w5.alloc o).cell? ⟨w.heap.size, 1, none⟩ = some (.string ⟨#[97]⟩) := fun o => (HeapIs.al j5 (o' := o)).cell (j := 1) (v := .string ⟨#[97]⟩) rfl
  have j5t1 := j5.set (j := 1) (v := .string ⟨#[97]⟩) rfl
  have j5r2 := j5.cell (j := 2) (v := .string ⟨#[97]⟩) rfl
  have j5s2 := j5.frozen 2
  have j5a2 : ∀ o, (w5.alloc o).cell? ⟨w.heap.size, 2, none⟩ = some (.string ⟨#[97]⟩) := fun o => (HeapIs.al j5 (o' := o)).cell (j := 2) (v := .string ⟨#[97]⟩) rfl
  have j5t2 := j5.set (j := 2) (v := .string ⟨#[97]⟩) rfl
  have j5r3 := j5.cell (j := 3) (v := .string ⟨#[116, 101, 97]⟩) rfl
  have j5s3 := j5.frozen 3
  have j5a3 : ∀ o, (w5.alloc o).cell? ⟨w.heap.size, 3, none⟩ = some (.string ⟨#[116, 101, 97]⟩) := fun o => (HeapIs.al j5 (o' := o)).cell (j := 3) (v := .string ⟨#[116, 101, 97]⟩) rfl
  have j5t3 := j5.set (j := 3) (v := .string ⟨#[116, 101, 97]⟩) rfl
  have j5r4 := j5.cell (j := 4) (v := .int .i64 0) rfl
  have j5s4 := j5.frozen 4
  have j5a4 : ∀ o, (w5.alloc o).cell? ⟨w.heap.size, 4, none⟩ = some (.int .i64 0) := fun o => (HeapIs.al j5 (o' := o)).cell (j := 4) (v := .int .i64 0) rfl
  have j5t4 := j5.set (j := 4) (v := .int .i64 0) rfl
  have j5r5 := j5.cell (j := 5) (v := .slice none 0 0) rfl
  have j5s5 := j5.frozen 5
  have j5a5 : ∀ o, (w5.alloc o).cell? ⟨w.heap.size, 5, none⟩ = some (.slice none 0 0) := fun o => (HeapIs.al j5 (o' := o)).cell (j := 5) (v := .slice none 0 0) rfl
  have j5t5 := j5.set (j := 5) (v := .slice none 0 0) rfl
  clear hb
  go_wp2
  go_ret
  exact ⟨rfl, by repeat (first | exact HB.out | apply nbl_al | apply nbl_drw | refine Below.setCell ?_ (Nat.le_refl _) _ | refine nbl_set ?_ (by first | exact Nat.le_refl _ | (simp; omega) | (simp; done) | omega) )⟩

set_option maxRecDepth 100000 in
set_option maxHeartbeats 1000000 in
theorem formed_wishba  (w : World) (hE : Env w) :
    Calls Tryz.prog 22 #[.agg #[.int .i64 6, .string ⟨#[98]⟩, .string ⟨#[97]⟩, .string ⟨#[120]⟩, .int .i64 0, .slice none 0 0]] w fun e w' => e = .returned (.bool true) ∧ Below w.heap.size w w' := by
  have HB := Lib.hid (Below.refl w.heap.size w)
  go_enter Tryz.func22, Tryz.ntmps22
  have HE := Lib.hid hE
  replace HB := Lib.hid (nbl_al HB.out (o := .cells #[.int .i64 6, .string ⟨#[98]⟩, .string ⟨#[97]⟩, .string ⟨#[120]⟩, .int .i64 0, .slice none 0 0] 29))
  clear hE
  go_wp2_with fail
  refine (needs_6 _ _ _ _ _ _ true (by decide) _ (HE.out.later HB.out)).mono ?_
  rintro e w1 ⟨rfl, hb⟩
  replace HB := Lib.hid (show Below w.heap.size w w1 by have h := hb; repeat (first | exact nbl_step HB.out h | replace h := nbl_new h | replace h := nbl_dr h))
  have j1 : HeapIs w1 (w.heap.size) (.cells #[.int .i64 6, .string ⟨#[98]⟩, .string ⟨#[97]⟩, .string ⟨#[120]⟩, .int .i64 0, .slice none 0 0] 29 (0, 0)) := (HeapIs.new _ _).below hb
  have j1r0 := j1.cell (j := 0) (v := .int .i64 6) rfl
  have j1s0 := j1.frozen 0
  have j1a0 : ∀ o, (w1.alloc o).cell? ⟨w.heap.size, 0, none⟩ = some (.int .i64 6) := fun o => (HeapIs.al j1 (o' := o)).cell (j := 0) (v := .int .i64 6) rfl
  have j1t0 := j1.set (j := 0) (v := .int .i64 6) rfl
  have j1r1 := j1.cell (j := 1) (v := .string ⟨#[98]⟩) rfl
  have j1s1 := j1.frozen 1
  have j1a1 : ∀ o, (w1.alloc o).cell? ⟨w.heap.size, 1, none⟩ = some (.string ⟨#[98]⟩) := fun o => (HeapIs.al j1 (o' := o)).cell (j := 1) (v := .string ⟨#[98]⟩) rfl
  have j1t1 := j1.set (j := 1) (v := .string ⟨#[98]⟩) rfl
  have j1r2 := j1.cell (j := 2) (v := .string ⟨#[97]⟩) rfl
  have j1s2 := j1.frozen 2
  have j1a2 : ∀ o, (w1.alloc o).cell? ⟨w.heap.size, 2, none⟩ = some (.string ⟨#[97]⟩) := fun o => (HeapIs.al j1 (o' := o)).cell (j := 2) (v := .string ⟨#[97]⟩) rfl
  have j1t2 := j1.set (j := 2) (v := .string ⟨#[97]⟩) rfl
  have j1r3 := j1.cell (j := 3) (v := .string ⟨#[120]⟩) rfl
  have j1s3 := j1.frozen 3
  have j1a3 : ∀ o, (w1.alloc o).cell? ⟨w.heap.size, 3, none⟩ = some (.string ⟨#[120]⟩) := fun o => (HeapIs.al j1 (o' := o)).cell (j := 3) (v := .string ⟨#[120]⟩) rfl
  have j1t3 := j1.set (j := 3) (v := .string ⟨#[120]⟩) rfl
  have j1r4 := j1.cell (j := 4) (v := .int .i64 0) rfl
  have j1s4 := j1.frozen 4
  have j1a4 : ∀ o, (w1.alloc o).cell? ⟨w.heap.size, 4, none⟩ = some (.int .i64 0) := fun o => (HeapIs.al j1 (o' := o)).cell (j := 4) (v := .int .i64 0) rfl
  have j1t4 := j1.set (j := 4) (v := .int .i64 0) rfl
  have j1r5 := j1.cell (j := 5) (v := .slice none 0 0) rfl
  have j1s5 := j1.frozen 5
  have j1a5 : ∀ o, (w1.alloc o).cell? ⟨w.heap.size, 5, none⟩ = some (.slice none 0 0) := fun o => (HeapIs.al j1 (o' := o)).cell (j := 5) (v := .slice none 0 0) rfl
  have j1t5 := j1.set (j := 5) (v := .slice none 0 0) rfl
  clear hb
  go_wp2_with fail
  refine (needs_6 _ _ _ _ _ _ true (by decide) _ (HE.out.later HB.out)).mono ?_
  rintro e w2 ⟨rfl, hb⟩
  replace HB := Lib.hid (show Below w.heap.size w w2 by have h := hb; repeat (first | exact nbl_step HB.out h | replace h := nbl_new h | replace h := nbl_dr h))
  have j2 : HeapIs w2 (w.heap.size) (.cells #[.int .i64 6, .string ⟨#[98]⟩, .string ⟨#[97]⟩, .string ⟨#[120]⟩, .int .i64 0, .slice none 0 0] 29 (0, 0)) := j1.below hb
  have j2r0 := j2.cell (j := 0) (v := .int .i64 6) rfl
  have j2s0 := j2.frozen 0
  have j2a0 : ∀ o, (w2.alloc o).cell? ⟨w.heap.size, 0, none⟩ = some (.int .i64 6) := fun o => (HeapIs.al j2 (o' := o)).cell (j := 0) (v := .int .i64 6) rfl
  have j2t0 := j2.set (j := 0) (v := .int .i64 6) rfl
  have j2r1 := j2.cell (j := 1) (v := .string ⟨#[98]⟩) rfl
  have j2s1 := j2.frozen 1
  have j2a1 : ∀ o, (w2.alloc o).cell? ⟨w.heap.size, 1, none⟩ = some (.string ⟨#[98]⟩) := fun o => (HeapIs.al j2 (o' := o)).cell (j := 1) (v := .string ⟨#[98]⟩) rfl
  have j2t1 := j2.set (j := 1) (v := .string ⟨#[98]⟩) rfl
  have j2r2 := j2.cell (j := 2) (v := .string ⟨#[97]⟩) rfl
  have j2s2 := j2.frozen 2
  have j2a2 : ∀ o, (w2.alloc o).cell? ⟨w.heap.size, 2, none⟩ = some (.string ⟨#[97]⟩) := fun o => (HeapIs.al j2 (o' := o)).cell (j := 2) (v := .string ⟨#[97]⟩) rfl
  have j2t2 := j2.set (j := 2) (v := .string ⟨#[97]⟩) rfl
  have j2r3 := j2.cell (j := 3) (v := .string ⟨#[120]⟩) rfl
  have j2s3 := j2.frozen 3
  have j2a3 : ∀ o, (w2.alloc o).cell? ⟨w.heap.size, 3, none⟩ = some (.string ⟨#[120]⟩) := fun o => (HeapIs.al j2 (o' := o)).cell (j := 3) (v := .string ⟨#[120]⟩) rfl
  have j2t3 := j2.set (j := 3) (v := .string ⟨#[120]⟩) rfl
  have j2r4 := j2.cell (j := 4) (v := .int .i64 0) rfl
  have j2s4 := j2.frozen 4
  have j2a4 : ∀ o, (w2.alloc o).cell? ⟨w.heap.size, 4, none⟩ = some (.int .i64 0) := fun o => (HeapIs.al j2 (o' := o)).cell (j := 4) (v := .int .i64 0) rfl
  have j2t4 := j2.set (j := 4) (v := .int .i64 0) rfl
  have j2r5 := j2.cell (j := 5) (v := .slice none 0 0) rfl
  have j2s5 := j2.frozen 5
  have j2a5 : ∀ o, (w2.alloc o).cell? ⟨w.heap.size, 5, none⟩ = some (.slice none 0 0) := fun o => (HeapIs.al j2 (o' := o)).cell (j := 5) (v := .slice none 0 0) rfl
  have j2t5 := j2.set (j := 5) (v := .slice none 0 0) rfl
  clear hb
  go_wp2_with fail
  refine (needs_6 _ _ _ _ _ _ true (by decide) _ (HE.out.later HB.out)).mono ?_
  rintro e w3 ⟨rfl, hb⟩
  replace HB := Lib.hid (show Below w.heap.size w w3 by have h := hb; repeat (first | exact nbl_step HB.out h | replace h := nbl_new h | replace h := nbl_dr h))
  have j3 : HeapIs w3 (w.heap.size) (.cells #[.int .i64 6, .string ⟨#[98]⟩, .string ⟨#[97]⟩, .string ⟨#[120]⟩, .int .i64 0, .slice none 0 0] 29 (0, 0)) := j2.below hb
  have j3r0 := j3.cell (j := 0) (v := .int .i64 6) rfl
  have j3s0 := j3.frozen 0
  have j3a0 : ∀ o, (w3.alloc o).cell? ⟨w.heap.size, 0, none⟩ = some (.int .i64 6) := fun o => (HeapIs.al j3 (o' := o)).cell (j := 0) (v := .int .i64 6) rfl
  have j3t0 := j3.set (j := 0) (v := .int .i64 6) rfl
  have j3r1 := j3.cell (j := 1) (v := .string ⟨#[98]⟩) rfl
  have j3s1 := j3.frozen 1
  have j3a1 : ∀ o, (w3.alloc o).cell? ⟨w.heap.size, 1, none⟩ = some (.string ⟨#[98]⟩) := fun o => (HeapIs.al j3 (o' := o)).cell (j := 1) (v := .string ⟨#[98]⟩) rfl
  have j3t1 := j3.set (j := 1) (v := .string ⟨#[98]⟩) rfl
  have j3r2 := j3.cell (j := 2) (v := .string ⟨#[97]⟩) rfl
  have j3s2 := j3.frozen 2
  have j3a2 : ∀ o, (w3.alloc o).cell? ⟨w.heap.size, 2, none⟩ = some (.string ⟨#[97]⟩) := fun o => (HeapIs.al j3 (o' := o)).cell (j := 2) (v := .string ⟨#[97]⟩) rfl
  have j3t2 := j3.set (j := 2) (v := .string ⟨#[97]⟩) rfl
  have j3r3 := j3.cell (j := 3) (v := .string ⟨#[120]⟩) rfl
  have j3s3 := j3.frozen 3
  have j3a3 : ∀ o, (w3.alloc o).cell? ⟨w.heap.size, 3, none⟩ = some (.string ⟨#[120]⟩) := fun o => (HeapIs.al j3 (o' := o)).cell (j := 3) (v := .string ⟨#[120]⟩) rfl
  have j3t3 := j3.set (j := 3) (v := .string ⟨#[120]⟩) rfl
  have j3r4 := j3.cell (j := 4) (v := .int .i64 0) rfl
  have j3s4 := j3.frozen 4
  have j3a4 : ∀ o, (w3.alloc o).cell? ⟨w.heap.size, 4, none⟩ = some (.int .i64 0) := fun o => (HeapIs.al j3 (o' := o)).cell (j := 4) (v := .int .i64 0) rfl
  have j3t4 := j3.set (j := 4) (v := .int .i64 0) rfl
  have j3r5 := j3.cell (j := 5) (v := .slice none 0 0) rfl
  have j3s5 := j3.frozen 5
  have j3a5 : ∀ o, (w3.alloc o).cell? ⟨w.heap.size, 5, none⟩ = some (.slice none 0 0) := fun o => (HeapIs.al j3 (o' := o)).cell (j := 5) (v := .slice none 0 0) rfl
  have j3t5 := j3.set (j := 5) (v := .slice none 0 0) rfl
  clear hb
  go_wp2_with fail
  refine (needs_6 _ _ _ _ _ _ false (by decide) _ (HE.out.later HB.out)).mono ?_
  rintro e w4 ⟨rfl, hb⟩
  replace HB := Lib.hid (show Below w.heap.size w w4 by have h := hb; repeat (first | exact nbl_step HB.out h | replace h := nbl_new h | replace h := nbl_dr h))
  have j4 : HeapIs w4 (w.heap.size) (.cells #[.int .i64 6, .string ⟨#[98]⟩, .string ⟨#[97]⟩, .string ⟨#[120]⟩, .int .i64 0, .slice none 0 0] 29 (0, 0)) := j3.below hb
  have j4r0 := j4.cell (j := 0) (v := .int .i64 6) rfl
  have j4s0 := j4.frozen 0
  have j4a0 : ∀ o, (w4.alloc o).cell? ⟨w.heap.size, 0, none⟩ = some (.int .i64 6) := fun o => (HeapIs.al j4 (o' := o)).cell (j := 0) (v := .int .i64 6) rfl
  have j4t0 := j4.set (j := 0) (v := .int .i64 6) rfl
  have j4r1 := j4.cell (j := 1) (v := .string ⟨#[98]⟩) rfl
  have j4s1 := j4.frozen 1
  have j4a1 : ∀ o, (w4.alloc o).cell? ⟨w.heap.size, 1, none⟩ = some (.string ⟨#[98]⟩) := fun o => (HeapIs.al j4 (o' := o)).cell (j := 1) (v := .string ⟨#[98]⟩) rfl
  have j4t1 := j4.set (j := 1) (v := .string ⟨#[98]⟩) rfl
  have j4r2 := j4.cell (j := 2) (v := .string ⟨#[97]⟩) rfl
  have j4s2 := j4.frozen 2
  have j4a2 : ∀ o, (w4.alloc o).cell? ⟨w.heap.size, 2, none⟩ = some (.string ⟨#[97]⟩) := fun o => (HeapIs.al j4 (o' := o)).cell (j := 2) (v := .string ⟨#[97]⟩) rfl
  have j4t2 := j4.set (j := 2) (v := .string ⟨#[97]⟩) rfl
  have j4r3 := j4.cell (j := 3) (v := .string ⟨#[120]⟩) rfl
  have j4s3 := j4.frozen 3
  have j4a3 : ∀ o, (w4.alloc o).cell? ⟨w.heap.size, 3, none⟩ = some (.string ⟨#[120]⟩) := fun o => (HeapIs.al j4 (o' := o)).cell (j := 3) (v := .string ⟨#[120]⟩) rfl
  have j4t3 := j4.set (j := 3) (v := .string ⟨#[120]⟩) rfl
  have j4r4 := j4.cell (j := 4) (v := .int .i64 0) rfl
  have j4s4 := j4.frozen 4
  have j4a4 : ∀ o, (w4.alloc o).cell? ⟨w.heap.size, 4, none⟩ = some (.int .i64 0) := fun o => (HeapIs.al j4 (o' := o)).cell (j := 4) (v := .int .i64 0) rfl
  have j4t4 := j4.set (j := 4) (v := .int .i64 0) rfl
  have j4r5 := j4.cell (j := 5) (v := .slice none 0 0) rfl
  have j4s5 := j4.frozen 5
  have j4a5 : ∀ o, (w4.alloc o).cell? ⟨w.heap.size, 5, none⟩ = some (.slice none 0 0) := fun o => (HeapIs.al j4 (o' := o)).cell (j := 5) (v := .slice none 0 0) rfl
  have j4t5 := j4.set (j := 5) (v := .slice none 0 0) rfl
  clear hb
  go_wp2_with fail
  refine (needs_6 _ _ _ _ _ _ false (by decide) _ (HE.out.later HB.out)).mono ?_
  rintro e w5 ⟨rfl, hb⟩
  replace HB := Lib.hid (show Below w.heap.size w w5 by have h := hb; repeat (first | exact nbl_step HB.out h | replace h := nbl_new h | replace h := nbl_dr h))
  have j5 : HeapIs w5 (w.heap.size) (.cells #[.int .i64 6, .string ⟨#[98]⟩, .string ⟨#[97]⟩, .string ⟨#[120]⟩, .int .i64 0, .slice none 0 0] 29 (0, 0)) := j4.below hb
  have j5r0 := j5.cell (j := 0) (v := .int .i64 6) rfl
  have j5s0 := j5.frozen 0
  have j5a0 : ∀ o, (w5.alloc o).cell? ⟨w.heap.size, 0, none⟩ = some (.int .i64 6) := fun o => (HeapIs.al j5 (o' := o)).cell (j := 0) (v := .int .i64 6) rfl
  have j5t0 := j5.set (j := 0) (v := .int .i64 6) rfl
  have j5r1 := j5.cell (j := 1) (v := .string ⟨#[98]⟩) rfl
  have j5s1 := j5.frozen 1
  have j5a1 : ∀ o, (w5.alloc o).cell? ⟨w.heap.size, 1, none⟩ = some (.string ⟨#[98]⟩) := fun o => (HeapIs.al j5 (o' := o)).cell (j := 1) (v := .string ⟨#[98]⟩) rfl
  have j5t1 := j5.set (j := 1) (v := .string ⟨#[98]⟩) rfl
  have j5r2 := j5.cell (j := 2) (v := .string ⟨#[97]⟩) rfl
  have j5s2 := j5.frozen 2
  have j5a2 : ∀ o, (w5.alloc o).cell? ⟨w.heap.size, 2, none⟩ = some (.string ⟨#[97]⟩) := fun o => (HeapIs.al j5 (o' := o)).cell (j := 2) (v := .string ⟨#[97]⟩) rfl
  have j5t2 := j5.set (j := 2) (v := .string ⟨#[97]⟩) rfl
  have j5r3 := j5.cell (j := 3) (v := .string ⟨#[120]⟩) rfl
  have j5s3 := j5.frozen 3
  have j5a3 : ∀ o, (w5.alloc o).cell? ⟨w.heap.size, 3, none⟩ = some (.string ⟨#[120]⟩) := fun o => (HeapIs.al j5 (o' := o)).cell (j := 3) (v := .string ⟨#[120]⟩) rfl
  have j5t3 := j5.set (j := 3) (v := .string ⟨#[120]⟩) rfl
  have j5r4 := j5.cell (j := 4) (v := .int .i64 0) rfl
  have j5s4 := j5.frozen 4
  have j5a4 : ∀ o, (w5.alloc o).cell? ⟨w.heap.size, 4, none⟩ = some (.int .i64 0) := fun o => (HeapIs.al j5 (o' := o)).cell (j := 4) (v := .int .i64 0) rfl
  have j5t4 := j5.set (j := 4) (v := .int .i64 0) rfl
  have j5r5 := j5.cell (j := 5) (v := .slice none 0 0) rfl
  have j5s5 := j5.frozen 5
  have j5a5 : ∀ o, (w5.alloc o).cell? ⟨w.heap.size, 5, none⟩ = some (.slice none 0 0) := fun o => (HeapIs.al j5 (o' := o)).cell (j := 5) (v := .slice none 0 0) rfl
  have j5t5 := j5.set (j := 5) (v := .slice none 0 0) rfl
  clear hb
  go_wp2
  go_ret
  exact ⟨rfl, by repeat (first | exact HB.out | apply nbl_al | apply nbl_drw | refine Below.setCell ?_ (Nat.le_refl _) _ | refine nbl_set ?_ (by first | exact Nat.le_refl _ | (simp; omega) | (simp; done) | omega) )⟩

set_option maxRecDepth 100000 in
set_option maxHeartbeats 1000000 in
theorem formed_login  (w : World) (hE : Env w) :
    Calls Tryz.prog 22 #[.agg #[.int .i64 7, .string ⟨#[97]⟩, .string ⟨#[65]⟩, .string ⟨#[]⟩, .int .i64 0, .slice none 0 0]] w fun e w' => e = .returned (.bool true) ∧ Below w.heap.size w w' := by
  have HB := Lib.hid (Below.refl w.heap.size w)
  go_enter Tryz.func22, Tryz.ntmps22
  have HE := Lib.hid hE
  replace HB := Lib.hid (nbl_al HB.out (o := .cells #[.int .i64 7, .string ⟨#[97]⟩, .string ⟨#[65]⟩, .string ⟨#[]⟩, .int .i64 0, .slice none 0 0] 29))
  clear hE
  go_wp2_with fail
  refine (needs_7 _ _ _ _ _ _ true (by decide) _ (HE.out.later HB.out)).mono ?_
  rintro e w1 ⟨rfl, hb⟩
  replace HB := Lib.hid (show Below w.heap.size w w1 by have h := hb; repeat (first | exact nbl_step HB.out h | replace h := nbl_new h | replace h := nbl_dr h))
  have j1 : HeapIs w1 (w.heap.size) (.cells #[.int .i64 7, .string ⟨#[97]⟩, .string ⟨#[65]⟩, .string ⟨#[]⟩, .int .i64 0, .slice none 0 0] 29 (0, 0)) := (HeapIs.new _ _).below hb
  have j1r0 := j1.cell (j := 0) (v := .int .i64 7) rfl
  have j1s0 := j1.frozen 0
  have j1a0 : ∀ o, (w1.alloc o).cell? ⟨w.heap.size, 0, none⟩ = some (.int .i64 7) := fun o => (HeapIs.al j1 (o' := o)).cell (j := 0) (v := .int .i64 7) rfl
  have j1t0 := j1.set (j := 0) (v := .int .i64 7) rfl
  have j1r1 := j1.cell (j := 1) (v := .string ⟨#[97]⟩) rfl
  have j1s1 := j1.frozen 1
  have j1a1 : ∀ o, (w1.alloc o).cell? ⟨w.heap.size, 1, none⟩ = some (.string ⟨#[97]⟩) := fun o => (HeapIs.al j1 (o' := o)).cell (j := 1) (v := .string ⟨#[97]⟩) rfl
  have j1t1 := j1.set (j := 1) (v := .string ⟨#[97]⟩) rfl
  have j1r2 := j1.cell (j := 2) (v := .string ⟨#[65]⟩) rfl
  have j1s2 := j1.frozen 2
  have j1a2 : ∀ o, (w1.alloc o).cell? ⟨w.heap.size, 2, none⟩ = some (.string ⟨#[65]⟩) := fun o => (HeapIs.al j1 (o' := o)).cell (j := 2) (v := .string ⟨#[65]⟩) rfl
  have j1t2 := j1.set (j := 2) (v := .string ⟨#[65]⟩) rfl
  have j1r3 := j1.cell (j := 3) (v := .string ⟨#[]⟩) rfl
  have j1s3 := j1.frozen 3
  have j1a3 : ∀ o, (w1.alloc o).cell? ⟨w.heap.size, 3, none⟩ = some (.string ⟨#[]⟩) := fun o => (HeapIs.al j1 (o' := o)).cell (j := 3) (v := .string ⟨#[]⟩) rfl
  have j1t3 := j1.set (j := 3) (v := .string ⟨#[]⟩) rfl
  have j1r4 := j1.cell (j := 4) (v := .int .i64 0) rfl
  have j1s4 := j1.frozen 4
  have j1a4 : ∀ o, (w1.alloc o).cell? ⟨w.heap.size, 4, none⟩ = some (.int .i64 0) := fun o => (HeapIs.al j1 (o' := o)).cell (j := 4) (v := .int .i64 0) rfl
  have j1t4 := j1.set (j := 4) (v := .int .i64 0) rfl
  have j1r5 := j1.cell (j := 5) (v := .slice none 0 0) rfl
  have j1s5 := j1.frozen 5
  have j1a5 : ∀ o, (w1.alloc o).cell? ⟨w.heap.size, 5, none⟩ = some (.slice none 0 0) := fun o => (HeapIs.al j1 (o' := o)).cell (j := 5) (v := .slice none 0 0) rfl
  have j1t5 := j1.set (j := 5) (v := .slice none 0 0) rfl
  clear hb
  go_wp2_with fail
  refine (needs_7 _ _ _ _ _ _ true (by decide) _ (HE.out.later HB.out)).mono ?_
  rintro e w2 ⟨rfl, hb⟩
  replace HB := Lib.hid (show Below w.heap.size w w2 by have h := hb; repeat (first | exact nbl_step HB.out h | replace h := nbl_new h | replace h := nbl_dr h))
  have j2 : HeapIs w2 (w.heap.size) (.cells #[.int .i64 7, .string ⟨#[97]⟩, .string ⟨#[65]⟩, .string ⟨#[]⟩, .int .i64 0, .slice none 0 0] 29 (0, 0)) := j1.below hb
  have j2r0 := j2.cell (j := 0) (v := .int .i64 7) rfl
  have j2s0 := j2.frozen 0
  have j2a0 : ∀ o, (w2.alloc o).cell? ⟨w.heap.size, 0, none⟩ = some (.int .i64 7) := fun o => (HeapIs.al j2 (o' := o)).cell (j := 0) (v := .int .i64 7) rfl
  have j2t0 := j2.set (j := 0) (v := .int .i64 7) rfl
  have j2r1 := j2.cell (j := 1) (v := .string ⟨#[97]⟩) rfl
  have j2s1 := j2.frozen 1
  have j2a1 : ∀ o, (w2.alloc o).cell? ⟨w.heap.size, 1, none⟩ = some (.string ⟨#[97]⟩) := fun o => (HeapIs.al j2 (o' := o)).cell (j := 1) (v := .string ⟨#[97]⟩) rfl
  have j2t1 := j2.set (j := 1) (v := .string ⟨#[97]⟩) rfl
  have j2r2 := j2.cell (j := 2) (v := .string ⟨#[65]⟩) rfl
  have j2s2 := j2.frozen 2
  have j2a2 : ∀ o, (w2.alloc o).cell? ⟨w.heap.size, 2, none⟩ = some (.string ⟨#[65]⟩) := fun o => (HeapIs.al j2 (o' := o)).cell (j := 2) (v := .string ⟨#[65]⟩) rfl
  have j2t2 := j2.set (j := 2) (v := .string ⟨#[65]⟩) rfl
  have j2r3 := j2.cell (j := 3) (v := .string ⟨#[]⟩) rfl
  have j2s3 := j2.frozen 3
  have j2a3 : ∀ o, (w2.alloc o).cell? ⟨w.heap.size, 3, none⟩ = some (.string ⟨#[]⟩) := fun o => (HeapIs.al j2 (o' := o)).cell (j := 3) (v := .string ⟨#[]⟩) rfl
  have j2t3 := j2.set (j := 3) (v := .string ⟨#[]⟩) rfl
  have j2r4 := j2.cell (j := 4) (v := .int .i64 0) rfl
  have j2s4 := j2.frozen 4
  have j2a4 : ∀ o, (w2.alloc o).cell? ⟨w.heap.size, 4, none⟩ = some (.int .i64 0) := fun o => (HeapIs.al j2 (o' := o)).cell (j := 4) (v := .int .i64 0) rfl
  have j2t4 := j2.set (j := 4) (v := .int .i64 0) rfl
  have j2r5 := j2.cell (j := 5) (v := .slice none 0 0) rfl
  have j2s5 := j2.frozen 5
  have j2a5 : ∀ o, (w2.alloc o).cell? ⟨w.heap.size, 5, none⟩ = some (.slice none 0 0) := fun o => (HeapIs.al j2 (o' := o)).cell (j := 5) (v := .slice none 0 0) rfl
  have j2t5 := j2.set (j := 5) (v := .slice none 0 0) rfl
  clear hb
  go_wp2_with fail
  refine (needs_7 _ _ _ _ _ _ false (by decide) _ (HE.out.later HB.out)).mono ?_
  rintro e w3 ⟨rfl, hb⟩
  replace HB := Lib.hid (show Below w.heap.size w w3 by have h := hb; repeat (first | exact nbl_step HB.out h | replace h := nbl_new h | replace h := nbl_dr h))
  have j3 : HeapIs w3 (w.heap.size) (.cells #[.int .i64 7, .string ⟨#[97]⟩, .string ⟨#[65]⟩, .string ⟨#[]⟩, .int .i64 0, .slice none 0 0] 29 (0, 0)) := j2.below hb
  have j3r0 := j3.cell (j := 0) (v := .int .i64 7) rfl
  have j3s0 := j3.frozen 0
  have j3a0 : ∀ o, (w3.alloc o).cell? ⟨w.heap.size, 0, none⟩ = some (.int .i64 7) := fun o => (HeapIs.al j3 (o' := o)).cell (j := 0) (v := .int .i64 7) rfl
  have j3t0 := j3.set (j := 0) (v := .int .i64 7) rfl
  have j3r1 := j3.cell (j := 1) (v := .string ⟨#[97]⟩) rfl
  have j3s1 := j3.frozen 1
  have j3a1 : ∀ o, (w3.alloc o).cell? ⟨w.heap.size, 1, none⟩ = some (.string ⟨#[97]⟩) := fun o => (HeapIs.al j3 (o' := o)).cell (j := 1) (v := .string ⟨#[97]⟩) rfl
  have j3t1 := j3.set (j := 1) (v := .string ⟨#[97]⟩) rfl
  have j3r2 := j3.cell (j := 2) (v := .string ⟨#[65]⟩) rfl
  have j3s2 := j3.frozen 2
  have j3a2 : ∀ o, (w3.alloc o).cell? ⟨w.heap.size, 2, none⟩ = some (.string ⟨#[65]⟩) := fun o => (HeapIs.al j3 (o' := o)).cell (j := 2) (v := .string ⟨#[65]⟩) rfl
  have j3t2 := j3.set (j := 2) (v := .string ⟨#[65]⟩) rfl
  have j3r3 := j3.cell (j := 3) (v := .string ⟨#[]⟩) rfl
  have j3s3 := j3.frozen 3
  have j3a3 : ∀ o, (w3.alloc o).cell? ⟨w.heap.size, 3, none⟩ = some (.string ⟨#[]⟩) := fun o => (HeapIs.al j3 (o' := o)).cell (j := 3) (v := .string ⟨#[]⟩) rfl
  have j3t3 := j3.set (j := 3) (v := .string ⟨#[]⟩) rfl
  have j3r4 := j3.cell (j := 4) (v := .int .i64 0) rfl
  have j3s4 := j3.frozen 4
  have j3a4 : ∀ o, (w3.alloc o).cell? ⟨w.heap.size, 4, none⟩ = some (.int .i64 0) := fun o => (HeapIs.al j3 (o' := o)).cell (j := 4) (v := .int .i64 0) rfl
  have j3t4 := j3.set (j := 4) (v := .int .i64 0) rfl
  have j3r5 := j3.cell (j := 5) (v := .slice none 0 0) rfl
  have j3s5 := j3.frozen 5
  have j3a5 : ∀ o, (w3.alloc o).cell? ⟨w.heap.size, 5, none⟩ = some (.slice none 0 0) := fun o => (HeapIs.al j3 (o' := o)).cell (j := 5) (v := .slice none 0 0) rfl
  have j3t5 := j3.set (j := 5) (v := .slice none 0 0) rfl
  clear hb
  go_wp2_with fail
  refine (needs_7 _ _ _ _ _ _ false (by decide) _ (HE.out.later HB.out)).mono ?_
  rintro e w4 ⟨rfl, hb⟩
  replace HB := Lib.hid (show Below w.heap.size w w4 by have h := hb; repeat (first | exact nbl_step HB.out h | replace h := nbl_new h | replace h := nbl_dr h))
  have j4 : HeapIs w4 (w.heap.size) (.cells #[.int .i64 7, .string ⟨#[97]⟩, .string ⟨#[65]⟩, .string ⟨#[]⟩, .int .i64 0, .slice none 0 0] 29 (0, 0)) := j3.below hb
  have j4r0 := j4.cell (j := 0) (v := .int .i64 7) rfl
  have j4s0 := j4.frozen 0
  have j4a0 : ∀ o, (w4.alloc o).cell? ⟨w.heap.size, 0, none⟩ = some (.int .i64 7) := fun o => (HeapIs.al j4 (o' := o)).cell (j := 0) (v := .int .i64 7) rfl
  have j4t0 := j4.set (j := 0) (v := .int .i64 7) rfl
  have j4r1 := j4.cell (j := 1) (v := .string ⟨#[97]⟩) rfl
  have j4s1 := j4.frozen 1
  have j4a1 : ∀ o, (w4.alloc o).cell? ⟨w.heap.size, 1, none⟩ = some (.string ⟨#[97]⟩) := fun o => (HeapIs.al j4 (o' := o)).cell (j := 1) (v := .string ⟨#[97]⟩) rfl
  have j4t1 := j4.set (j := 1) (v := .string ⟨#[97]⟩) rfl
  have j4r2 := j4.cell (j := 2) (v := .string ⟨#[65]⟩) rfl
  have j4s2 := j4.frozen 2
  have j4a2 : ∀ o, (w4.alloc o).cell? ⟨w.heap.size, 2, none⟩ = some (.string ⟨#[65]⟩) := fun o => (HeapIs.al j4 (o' := o)).cell (j := 2) (v := .string ⟨#[65]⟩) rfl
  have j4t2 := j4.set (j := 2) (v := .string ⟨#[65]⟩) rfl
  have j4r3 := j4.cell (j := 3) (v := .string ⟨#[]⟩) rfl
  have j4s3 := j4.frozen 3
  have j4a3 : ∀ o, (w4.alloc o).cell? ⟨w.heap.size, 3, none⟩ = some (.string ⟨#[]⟩) := fun o => (HeapIs.al j4 (o' := o)).cell (j := 3) (v := .string ⟨#[]⟩) rfl
  have j4t3 := j4.set (j := 3) (v := .string ⟨#[]⟩) rfl
  have j4r4 := j4.cell (j := 4) (v := .int .i64 0) rfl
  have j4s4 := j4.frozen 4
  have j4a4 : ∀ o, (w4.alloc o).cell? ⟨w.heap.size, 4, none⟩ = some (.int .i64 0) := fun o => (HeapIs.al j4 (o' := o)).cell (j := 4) (v := .int .i64 0) rfl
  have j4t4 := j4.set (j := 4) (v := .int .i64 0) rfl
  have j4r5 := j4.cell (j := 5) (v := .slice none 0 0) rfl
  have j4s5 := j4.frozen 5
  have j4a5 : ∀ o, (w4.alloc o).cell? ⟨w.heap.size, 5, none⟩ = some (.slice none 0 0) := fun o => (HeapIs.al j4 (o' := o)).cell (j := 5) (v := .slice none 0 0) rfl
  have j4t5 := j4.set (j := 5) (v := .slice none 0 0) rfl
  clear hb
  go_wp2_with fail
  refine (needs_7 _ _ _ _ _ _ false (by decide) _ (HE.out.later HB.out)).mono ?_
  rintro e w5 ⟨rfl, hb⟩
  replace HB := Lib.hid (show Below w.heap.size w w5 by have h := hb; repeat (first | exact nbl_step HB.out h | replace h := nbl_new h | replace h := nbl_dr h))
  have j5 : HeapIs w5 (w.heap.size) (.cells #[.int .i64 7, .string ⟨#[97]⟩, .string ⟨#[65]⟩, .string ⟨#[]⟩, .int .i64 0, .slice none 0 0] 29 (0, 0)) := j4.below hb
  have j5r0 := j5.cell (j := 0) (v := .int .i64 7) rfl
  have j5s0 := j5.frozen 0
  have j5a0 : ∀ o, (w5.alloc o).cell? ⟨w.heap.size, 0, none⟩ = some (.int .i64 7) := fun o => (HeapIs.al j5 (o' := o)).cell (j := 0) (v := .int .i64 7) rfl
  have j5t0 := j5.set (j := 0) (v := .int .i64 7) rfl
  have j5r1 := j5.cell (j := 1) (v := .string ⟨#[97]⟩) rfl
  have j5s1 := j5.frozen 1
  have j5a1 : ∀ o, (w5.alloc o).cell? ⟨w.heap.size, 1, none⟩ = some (.string ⟨#[97]⟩) := fun o => (HeapIs.al j5 (o' := o)).cell (j := 1) (v := .string ⟨#[97]⟩) rfl
  have j5t1 := j5.set (j := 1) (v := .string ⟨#[97]⟩) rfl
  have j5r2 := j5.cell (j := 2) (v := .string ⟨#[65]⟩) rfl
  have j5s2 := j5.frozen 2
  have j5a2 : ∀ o, (w5.alloc o).cell? ⟨w.heap.size, 2, none⟩ = some (.string ⟨#[65]⟩) := fun o => (HeapIs.al j5 (o' := o)).cell (j := 2) (v := .string ⟨#[65]⟩) rfl
  have j5t2 := j5.set (j := 2) (v := .string ⟨#[65]⟩) rfl
  have j5r3 := j5.cell (j := 3) (v := .string ⟨#[]⟩) rfl
  have j5s3 := j5.frozen 3
  have j5a3 : ∀ o, (w5.alloc o).cell? ⟨w.heap.size, 3, none⟩ = some (.string ⟨#[]⟩) := fun o => (HeapIs.al j5 (o' := o)).cell (j := 3) (v := .string ⟨#[]⟩) rfl
  have j5t3 := j5.set (j := 3) (v := .string ⟨#[]⟩) rfl
  have j5r4 := j5.cell (j := 4) (v := .int .i64 0) rfl
  have j5s4 := j5.frozen 4
  have j5a4 : ∀ o, (w5.alloc o).cell? ⟨w.heap.size, 4, none⟩ = some (.int .i64 0) := fun o => (HeapIs.al j5 (o' := o)).cell (j := 4) (v := .int .i64 0) rfl
  have j5t4 := j5.set (j := 4) (v := .int .i64 0) rfl
  have j5r5 := j5.cell (j := 5) (v := .slice none 0 0) rfl
  have j5s5 := j5.frozen 5
  have j5a5 : ∀ o, (w5.alloc o).cell? ⟨w.heap.size, 5, none⟩ = some (.slice none 0 0) := fun o => (HeapIs.al j5 (o' := o)).cell (j := 5) (v := .slice none 0 0) rfl
  have j5t5 := j5.set (j := 5) (v := .slice none 0 0) rfl
  clear hb
  go_wp2
  go_ret
  exact ⟨rfl, by repeat (first | exact HB.out | apply nbl_al | apply nbl_drw | refine Below.setCell ?_ (Nat.le_refl _) _ | refine nbl_set ?_ (by first | exact Nat.le_refl _ | (simp; omega) | (simp; done) | omega) )⟩

end Go.Proofs.YtmocoiamhphhnaaGreatDoor

