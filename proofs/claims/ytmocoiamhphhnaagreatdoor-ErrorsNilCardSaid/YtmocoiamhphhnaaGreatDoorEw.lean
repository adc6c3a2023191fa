/- The laws of chapter 24: words, nil nodes (printed by wip/genEw.py). -/
import Derived.Test.YtmocoiamhphhnaaGreatDoorEv
namespace Go.Proofs.YtmocoiamhphhnaaGreatDoor
set_option linter.unusedVariables false
set_option linter.unusedSimpArgs false
open Go.RowKit Go.MapKept

def ShortOut (e : Ending) : Prop := ∃ b : Bool, e = .returned (.bool b)
set_option maxRecDepth 100000 in
set_option maxHeartbeats 1000000 in
theorem short_any (o q : Int) (k t j : ByteArray) (A : Option Addr) (n c : Nat) (w : World) : Calls Tryz.prog 8 #[.agg #[.int .i64 o, .string k, .string t, .string j, .int .i64 q, .slice A n c]] w fun e w' => ShortOut e ∧ Below w.heap.size w w' := by
  have HB := Lib.hid (Below.refl w.heap.size w)
  obtain ⟨kn, hkn⟩ : ∃ kn, k.size = kn := ⟨_, rfl⟩
  obtain ⟨tn, htn⟩ : ∃ tn, t.size = tn := ⟨_, rfl⟩
  obtain ⟨jn, hjn⟩ : ∃ jn, j.size = jn := ⟨_, rfl⟩
  go_enter Tryz.func8, Tryz.ntmps8
  by_cases h1 : (kn : Int) ≤ 120
  · have d1 : decide ((kn : Int) ≤ 120) = true := decide_eq_true h1
    by_cases h2 : (tn : Int) ≤ 120
    · have d2 : decide ((tn : Int) ≤ 120) = true := decide_eq_true h2
      by_cases h3 : (jn : Int) ≤ 120
      · have d3 : decide ((jn : Int) ≤ 120) = true := decide_eq_true h3
        go_wp2
        go_ret
        exact ⟨⟨_, rfl⟩, nbl_al HB.out⟩
      · have d3 : decide ((jn : Int) ≤ 120) = false := decide_eq_false h3
        go_wp2
        go_ret
        exact ⟨⟨_, rfl⟩, nbl_al HB.out⟩
    · have d2 : decide ((tn : Int) ≤ 120) = false := decide_eq_false h2
      go_wp2
      go_ret
      exact ⟨⟨_, rfl⟩, nbl_al HB.out⟩
  · have d1 : decide ((kn : Int) ≤ 120) = false := decide_eq_false h1
    go_wp2
    go_ret
    exact ⟨⟨_, rfl⟩, nbl_al HB.out⟩

set_option maxRecDepth 100000 in
set_option maxHeartbeats 1000000 in
theorem node_none_nil  (w : World)  :
    Calls Tryz.prog 48 #[.pointer none] w fun e w' => e = .returned (.bool true) ∧ Below w.heap.size w w' := by
  have HB := Lib.hid (Below.refl w.heap.size w)
  go_enter Tryz.func48, Tryz.ntmps48
  go_wp2
  go_ret
  exact ⟨rfl, by repeat (first | exact HB.out | apply nbl_al | apply nbl_drw | apply nbl_drewN | refine Below.setCell ?_ (Nat.le_refl _) _ | refine nbl_set ?_ (by first | exact Nat.le_refl _ | (simp; omega) | (simp; done) | omega) )⟩

set_option maxRecDepth 100000 in
set_option maxHeartbeats 1000000 in
theorem node_none_zero (p : Nat) (w : World) (hp : HeapIs w p (.cells #[.int .i64 0, .int .i64 0, .int .i64 0, .int .i64 0, .pointer none, .pointer none, .pointer none, .pointer none, .bool false] 40 (0, 0))) :
    Calls Tryz.prog 48 #[.pointer (some ⟨p, 0, none⟩)] w fun e w' => e = .returned (.bool true) ∧ Below w.heap.size w w' := by
  have a0 := hp.cell (j := 4) (v := .pointer none) rfl
  have HB := Lib.hid (Below.refl w.heap.size w)
  go_enter Tryz.func48, Tryz.ntmps48
  go_wp2
  go_ret
  exact ⟨rfl, by repeat (first | exact HB.out | apply nbl_al | apply nbl_drw | apply nbl_drewN | refine Below.setCell ?_ (Nat.le_refl _) _ | refine nbl_set ?_ (by first | exact Nat.le_refl _ | (simp; omega) | (simp; done) | omega) )⟩

set_option maxRecDepth 100000 in
set_option maxHeartbeats 1000000 in
theorem node_config_nil  (w : World)  :
    Calls Tryz.prog 36 #[.pointer none] w fun e w' => e = .returned (.agg #[.int .i64 0, .int .i64 0, .int .i64 0, .int .i64 0]) ∧ Below w.heap.size w w' := by
  have HB := Lib.hid (Below.refl w.heap.size w)
  go_enter Tryz.func36, Tryz.ntmps36
  go_wp2_with fail
  refine (node_none_nil _).mono ?_
  rintro e w1 ⟨rfl, hb⟩
  replace HB := Lib.hid (show Below w.heap.size w w1 by have h := hb; repeat (first | exact nbl_step HB.out h | replace h := nbl_new h | replace h := nbl_dr h))
  have j1 : HeapIs w1 (w.heap.size) (.cells #[.int .i64 0, .int .i64 0, .int .i64 0, .int .i64 0] 34 (0, 0)) := (HeapIs.new _ _).below hb
  have j1r0 := j1.cell (j := 0) (v := .int .i64 0) rfl
  have j1s0 := j1.frozen 0
  have j1a0 : ∀ o, (w1.alloc o).cell? ⟨w.heap.size, 0, none⟩ = some (.int .i64 0) := fun o => (HeapIs.al j1 (o' := o)).cell (j := 0) (v := .int .i64 0) rfl
  have j1t0 := j1.set (j := 0) (v := .int .i64 0) rfl
  have j1r1 := j1.cell (j := 1) (v := .int .i64 0) rfl
  have j1s1 := j1.frozen 1
  have j1a1 : ∀ o, (w1.alloc o).cell? ⟨w.heap.size, 1, none⟩ = some (.int .i64 0) := fun o => (HeapIs.al j1 (o' := o)).cell (j := 1) (v := .int .i64 0) rfl
  have j1t1 := j1.set (j := 1) (v := .int .i64 0) rfl
  have j1r2 := j1.cell (j := 2) (v := .int .i64 0) rfl
  have j1s2 := j1.frozen 2
  have j1a2 : ∀ o, (w1.alloc o).cell? ⟨w.heap.size, 2, none⟩ = some (.int .i64 0) := fun o => (HeapIs.al j1 (o' := o)).cell (j := 2) (v := .int .i64 0) rfl
  have j1t2 := j1.set (j := 2) (v := .int .i64 0) rfl
  have j1r3 := j1.cell (j := 3) (v := .int .i64 0) rfl
  have j1s3 := j1.frozen 3
  have j1a3 : ∀ o, (w1.alloc o).cell? ⟨w.heap.size, 3, none⟩ = some (.int .i64 0) := fun o => (HeapIs.al j1 (o' := o)).cell (j := 3) (v := .int .i64 0) rfl
  have j1t3 := j1.set (j := 3) (v := .int .i64 0) rfl
  clear hb
  go_wp2
  refine bodyPost_ret (by simp [results, Tryz.results36, go_sem, j1r0, j1r1, j1r2, j1r3]; try rfl) rfl ?_
  exact ⟨rfl, by repeat (first | exact HB.out | apply nbl_al | apply nbl_drw | apply nbl_drewN | refine Below.setCell ?_ (Nat.le_refl _) _ | refine nbl_set ?_ (by first | exact Nat.le_refl _ | (simp; omega) | (simp; done) | omega) )⟩

set_option maxRecDepth 100000 in
set_option maxHeartbeats 1000000 in
theorem of_nilnode (o q : Int) (k t j : ByteArray) (A : Option Addr) (n c : Nat) (w : World)  :
    Calls Tryz.prog 15 #[.pointer none, .agg #[.int .i64 o, .string k, .string t, .string j, .int .i64 q, .slice A n c]] w fun e w' => e = .returned (.tuple #[.int .i64 0, .int .i64 1]) ∧ Below w.heap.size w w' := by
  have heq := cfg_eq
  have HB := Lib.hid (Below.refl w.heap.size w)
  go_enter Tryz.func15, Tryz.ntmps15
  go_wp2_with fail
  refine (node_config_nil _).mono ?_
  rintro e w1 ⟨rfl, hb⟩
  replace HB := Lib.hid (show Below w.heap.size w w1 by have h := hb; repeat (first | exact nbl_step HB.out h | replace h := nbl_new h | replace h := nbl_dr h))
  clear hb
  go_wp2
  go_ret2
  exact ⟨rfl, by repeat (first | exact HB.out | apply nbl_al | apply nbl_drw | apply nbl_drewN | refine Below.setCell ?_ (Nat.le_refl _) _ | refine nbl_set ?_ (by first | exact Nat.le_refl _ | (simp; omega) | (simp; done) | omega) )⟩

set_option maxRecDepth 100000 in
set_option maxHeartbeats 1000000 in
theorem ofs_nilnode (o q : Int) (k t j : ByteArray) (A : Option Addr) (n c : Nat) (w : World)  :
    Calls Tryz.prog 9 #[.pointer none, .agg #[.int .i64 o, .string k, .string t, .string j, .int .i64 q, .slice A n c], .int .i64 0, .int .i64 1] w fun e w' => e = .returned (.bool true) ∧ Below w.heap.size w w' := by
  have HB := Lib.hid (Below.refl w.heap.size w)
  go_enter Tryz.func9, Tryz.ntmps9
  go_wp2_with fail
  refine (of_nilnode o q k t j A n c _).mono ?_
  rintro e w1 ⟨rfl, hb⟩
  replace HB := Lib.hid (show Below w.heap.size w w1 by have h := hb; repeat (first | exact nbl_step HB.out h | replace h := nbl_new h | replace h := nbl_dr h))
  clear hb
  go_wp2
  go_ret
  exact ⟨rfl, by repeat (first | exact HB.out | apply nbl_al | apply nbl_drw | apply nbl_drewN | refine Below.setCell ?_ (Nat.le_refl _) _ | refine nbl_set ?_ (by first | exact Nat.le_refl _ | (simp; omega) | (simp; done) | omega) )⟩

set_option maxRecDepth 100000 in
set_option maxHeartbeats 1000000 in
theorem node_config_zero (p : Nat) (w : World) (hp : HeapIs w p (.cells #[.int .i64 0, .int .i64 0, .int .i64 0, .int .i64 0, .pointer none, .pointer none, .pointer none, .pointer none, .bool false] 40 (0, 0))) :
    Calls Tryz.prog 36 #[.pointer (some ⟨p, 0, none⟩)] w fun e w' => e = .returned (.agg #[.int .i64 0, .int .i64 0, .int .i64 0, .int .i64 0]) ∧ Below w.heap.size w w' := by
  have HB := Lib.hid (Below.refl w.heap.size w)
  go_enter Tryz.func36, Tryz.ntmps36
  go_wp2_with fail
  refine (node_none_zero p _ hp.al).mono ?_
  rintro e w1 ⟨rfl, hb⟩
  replace HB := Lib.hid (show Below w.heap.size w w1 by have h := hb; repeat (first | exact nbl_step HB.out h | replace h := nbl_new h | replace h := nbl_dr h))
  have j1 : HeapIs w1 (w.heap.size) (.cells #[.int .i64 0, .int .i64 0, .int .i64 0, .int .i64 0] 34 (0, 0)) := (HeapIs.new _ _).below hb
  have j1r0 := j1.cell (j := 0) (v := .int .i64 0) rfl
  have j1s0 := j1.frozen 0
  have j1a0 : ∀ o, (w1.alloc o).cell? ⟨w.heap.size, 0, none⟩ = some (.int .i64 0) := fun o => (HeapIs.al j1 (o' := o)).cell (j := 0) (v := .int .i64 0) rfl
  have j1t0 := j1.set (j := 0) (v := .int .i64 0) rfl
  have j1r1 := j1.cell (j := 1) (v := .int .i64 0) rfl
  have j1s1 := j1.frozen 1
  have j1a1 : ∀ o, (w1.alloc o).cell? ⟨w.heap.size, 1, none⟩ = some (.int .i64 0) := fun o => (HeapIs.al j1 (o' := o)).cell (j := 1) (v := .int .i64 0) rfl
  have j1t1 := j1.set (j := 1) (v := .int .i64 0) rfl
  have j1r2 := j1.cell (j := 2) (v := .int .i64 0) rfl
  have j1s2 := j1.frozen 2
  have j1a2 : ∀ o, (w1.alloc o).cell? ⟨w.heap.size, 2, none⟩ = some (.int .i64 0) := fun o => (HeapIs.al j1 (o' := o)).cell (j := 2) (v := .int .i64 0) rfl
  have j1t2 := j1.set (j := 2) (v := .int .i64 0) rfl
  have j1r3 := j1.cell (j := 3) (v := .int .i64 0) rfl
  have j1s3 := j1.frozen 3
  have j1a3 : ∀ o, (w1.alloc o).cell? ⟨w.heap.size, 3, none⟩ = some (.int .i64 0) := fun o => (HeapIs.al j1 (o' := o)).cell (j := 3) (v := .int .i64 0) rfl
  have j1t3 := j1.set (j := 3) (v := .int .i64 0) rfl
  clear hb
  go_wp2
  refine bodyPost_ret (by simp [results, Tryz.results36, go_sem, j1r0, j1r1, j1r2, j1r3]; try rfl) rfl ?_
  exact ⟨rfl, by repeat (first | exact HB.out | apply nbl_al | apply nbl_drw | apply nbl_drewN | refine Below.setCell ?_ (Nat.le_refl _) _ | refine nbl_set ?_ (by first | exact Nat.le_refl _ | (simp; omega) | (simp; done) | omega) )⟩

set_option maxRecDepth 100000 in
set_option maxHeartbeats 1000000 in
theorem of_zeronode (p : Nat) (o q : Int) (k t j : ByteArray) (A : Option Addr) (n c : Nat) (w : World) (hp : HeapIs w p (.cells #[.int .i64 0, .int .i64 0, .int .i64 0, .int .i64 0, .pointer none, .pointer none, .pointer none, .pointer none, .bool false] 40 (0, 0))) :
    Calls Tryz.prog 15 #[.pointer (some ⟨p, 0, none⟩), .agg #[.int .i64 o, .string k, .string t, .string j, .int .i64 q, .slice A n c]] w fun e w' => e = .returned (.tuple #[.int .i64 0, .int .i64 1]) ∧ Below w.heap.size w w' := by
  have heq := cfg_eq
  have HB := Lib.hid (Below.refl w.heap.size w)
  go_enter Tryz.func15, Tryz.ntmps15
  go_wp2_with fail
  refine (node_config_zero p _ hp.al).mono ?_
  rintro e w1 ⟨rfl, hb⟩
  replace HB := Lib.hid (show Below w.heap.size w w1 by have h := hb; repeat (first | exact nbl_step HB.out h | replace h := nbl_new h | replace h := nbl_dr h))
  clear hb
  go_wp2
  go_ret2
  exact ⟨rfl, by repeat (first | exact HB.out | apply nbl_al | apply nbl_drw | apply nbl_drewN | refine Below.setCell ?_ (Nat.le_refl _) _ | refine nbl_set ?_ (by first | exact Nat.le_refl _ | (simp; omega) | (simp; done) | omega) )⟩

set_option maxRecDepth 100000 in
set_option maxHeartbeats 1000000 in
theorem ofs_zeronode (p : Nat) (o q : Int) (k t j : ByteArray) (A : Option Addr) (n c : Nat) (w : World) (hp : HeapIs w p (.cells #[.int .i64 0, .int .i64 0, .int .i64 0, .int .i64 0, .pointer none, .pointer none, .pointer none, .pointer none, .bool false] 40 (0, 0))) :
    Calls Tryz.prog 9 #[.pointer (some ⟨p, 0, none⟩), .agg #[.int .i64 o, .string k, .string t, .string j, .int .i64 q, .slice A n c], .int .i64 0, .int .i64 1] w fun e w' => e = .returned (.bool true) ∧ Below w.heap.size w w' := by
  have HB := Lib.hid (Below.refl w.heap.size w)
  go_enter Tryz.func9, Tryz.ntmps9
  go_wp2_with fail
  refine (of_zeronode p o q k t j A n c _ hp.al).mono ?_
  rintro e w1 ⟨rfl, hb⟩
  replace HB := Lib.hid (show Below w.heap.size w w1 by have h := hb; repeat (first | exact nbl_step HB.out h | replace h := nbl_new h | replace h := nbl_dr h))
  clear hb
  go_wp2
  go_ret
  exact ⟨rfl, by repeat (first | exact HB.out | apply nbl_al | apply nbl_drw | apply nbl_drewN | refine Below.setCell ?_ (Nat.le_refl _) _ | refine nbl_set ?_ (by first | exact Nat.le_refl _ | (simp; omega) | (simp; done) | omega) )⟩

set_option maxRecDepth 100000 in
set_option maxHeartbeats 1000000 in
theorem errorsWords_any (n : Int) (w : World) (hE : Env w) (hW : WordsAt w) : Calls Tryz.prog 3 #[.int .i64 n] w fun e w' => e = .returned (.bool true) ∧ Below w.heap.size w w' := by
  have HE := Lib.hid hE
  have HW := Lib.hid hW
  clear hE hW
  have HB := Lib.hid (Below.refl w.heap.size w)
  go_enter Tryz.func3, Tryz.ntmps3
  go_wp2_with fail
  refine (word_any n _ HW.out).mono ?_
  rintro e w1 ⟨rfl, hb⟩
  replace HB := Lib.hid (nbl_step HB.out hb)
  clear hb
  go_wp2_with fail
  refine (refword_any n _).mono ?_
  rintro e w2 ⟨rfl, hb⟩
  replace HB := Lib.hid (nbl_step HB.out hb)
  clear hb
  generalize wordOf n = s
  go_wp2_with fail
  refine (known_yes _ (HE.out.later HB.out) (HW.out.later HB.out)).mono ?_
  rintro e w3 ⟨rfl, hb⟩
  replace HB := Lib.hid (nbl_step HB.out hb)
  clear hb
  go_wp2
  go_ret
  exact ⟨rfl, HB.out⟩

set_option maxRecDepth 100000 in
set_option maxHeartbeats 1000000 in
theorem errorsNil_any (o q : Int) (k t j : ByteArray) (A : Option Addr) (n c : Nat) (w : World) (hE : Env w) (hW : WordsAt w) : Calls Tryz.prog 4 #[.agg #[.int .i64 o, .string k, .string t, .string j, .int .i64 q, .slice A n c]] w fun e w' => e = .returned (.bool true) ∧ Below w.heap.size w w' := by
  have HE := Lib.hid hE
  have HW := Lib.hid hW
  clear hE hW
  have HB := Lib.hid (Below.refl w.heap.size w)
  go_enter Tryz.func4, Tryz.ntmps4
  go_wp2_with fail
  refine (short_any o q k t j A n c _).mono ?_
  rintro e w1 ⟨⟨b, rfl⟩, hb⟩
  replace HB := Lib.hid (nbl_step HB.out (nbl_new hb))
  have j1 : HeapIs w1 w.heap.size (.cells #[.int .i64 o, .string k, .string t, .string j, .int .i64 q, .slice A n c] 29 (0, 0)) := (HeapIs.new _ _).below hb
  have j1r0 := j1.cell (j := 0) (v := .int .i64 o) rfl
  have j1a0 : ∀ o', (w1.alloc o').cell? ⟨w.heap.size, 0, none⟩ = some (.int .i64 o) := fun o' => (HeapIs.al j1 (o' := o')).cell (j := 0) rfl
  have j1r1 := j1.cell (j := 1) (v := .string k) rfl
  have j1a1 : ∀ o', (w1.alloc o').cell? ⟨w.heap.size, 1, none⟩ = some (.string k) := fun o' => (HeapIs.al j1 (o' := o')).cell (j := 1) rfl
  have j1r2 := j1.cell (j := 2) (v := .string t) rfl
  have j1a2 : ∀ o', (w1.alloc o').cell? ⟨w.heap.size, 2, none⟩ = some (.string t) := fun o' => (HeapIs.al j1 (o' := o')).cell (j := 2) rfl
  have j1r3 := j1.cell (j := 3) (v := .string j) rfl
  have j1a3 : ∀ o', (w1.alloc o').cell? ⟨w.heap.size, 3, none⟩ = some (.string j) := fun o' => (HeapIs.al j1 (o' := o')).cell (j := 3) rfl
  have j1r4 := j1.cell (j := 4) (v := .int .i64 q) rfl
  have j1a4 : ∀ o', (w1.alloc o').cell? ⟨w.heap.size, 4, none⟩ = some (.int .i64 q) := fun o' => (HeapIs.al j1 (o' := o')).cell (j := 4) rfl
  have j1r5 := j1.cell (j := 5) (v := .slice A n c) rfl
  have j1a5 : ∀ o', (w1.alloc o').cell? ⟨w.heap.size, 5, none⟩ = some (.slice A n c) := fun o' => (HeapIs.al j1 (o' := o')).cell (j := 5) rfl
  clear hb
  rcases b with _ | _
  · go_wp2_with fail
    refine (known_yes _ (HE.out.later HB.out) (HW.out.later HB.out)).mono ?_
    rintro e w2 ⟨rfl, hb⟩
    replace HB := Lib.hid (nbl_step HB.out hb)
    clear hb
    go_wp2
    go_ret
    exact ⟨rfl, HB.out⟩
  · go_wp2_with fail
    refine (ofs_nilnode o q k t j A n c _).mono ?_
    rintro e w2 ⟨rfl, hb⟩
    replace HB := Lib.hid (nbl_step HB.out hb)
    have j2 := j1.below hb
    have j2r0 := j2.cell (j := 0) (v := .int .i64 o) rfl
    have j2a0 : ∀ o', (w2.alloc o').cell? ⟨w.heap.size, 0, none⟩ = some (.int .i64 o) := fun o' => (HeapIs.al j2 (o' := o')).cell (j := 0) rfl
    have j2r1 := j2.cell (j := 1) (v := .string k) rfl
    have j2a1 : ∀ o', (w2.alloc o').cell? ⟨w.heap.size, 1, none⟩ = some (.string k) := fun o' => (HeapIs.al j2 (o' := o')).cell (j := 1) rfl
    have j2r2 := j2.cell (j := 2) (v := .string t) rfl
    have j2a2 : ∀ o', (w2.alloc o').cell? ⟨w.heap.size, 2, none⟩ = some (.string t) := fun o' => (HeapIs.al j2 (o' := o')).cell (j := 2) rfl
    have j2r3 := j2.cell (j := 3) (v := .string j) rfl
    have j2a3 : ∀ o', (w2.alloc o').cell? ⟨w.heap.size, 3, none⟩ = some (.string j) := fun o' => (HeapIs.al j2 (o' := o')).cell (j := 3) rfl
    have j2r4 := j2.cell (j := 4) (v := .int .i64 q) rfl
    have j2a4 : ∀ o', (w2.alloc o').cell? ⟨w.heap.size, 4, none⟩ = some (.int .i64 q) := fun o' => (HeapIs.al j2 (o' := o')).cell (j := 4) rfl
    have j2r5 := j2.cell (j := 5) (v := .slice A n c) rfl
    have j2a5 : ∀ o', (w2.alloc o').cell? ⟨w.heap.size, 5, none⟩ = some (.slice A n c) := fun o' => (HeapIs.al j2 (o' := o')).cell (j := 5) rfl
    clear hb
    go_wp2_with fail
    refine (ofs_zeronode _ o q k t j A n c _ (HeapIs.new _ _)).mono ?_
    rintro e w3 ⟨rfl, hb⟩
    replace HB := Lib.hid (nbl_step HB.out (nbl_new hb))
    clear hb
    go_wp2_with fail
    refine (known_yes _ (HE.out.later HB.out) (HW.out.later HB.out)).mono ?_
    rintro e w4 ⟨rfl, hb⟩
    replace HB := Lib.hid (nbl_step HB.out hb)
    clear hb
    go_wp2
    go_ret
    exact ⟨rfl, HB.out⟩

end Go.Proofs.YtmocoiamhphhnaaGreatDoor

