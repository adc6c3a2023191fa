/- Reading carts of an empty node (printed by wip/genEi.py). -/
import Derived.Test.YtmocoiamhphhnaaGreatDoorEh
namespace Go.Proofs.YtmocoiamhphhnaaGreatDoor
set_option linter.unusedVariables false
set_option linter.unusedSimpArgs false
open Go.RowKit Go.MapKept

set_option maxRecDepth 100000 in
set_option maxHeartbeats 1000000 in
theorem table_get_true (s : ByteArray) (hs : s.size ≤ 100000) (hk : keyL s.data.toList = true) (pt ps bm : Nat) (w : World) (hT : TabE w pt ps bm) (hE : Env w) :
    Calls Tryz.prog 89 #[.pointer (some ⟨pt, 0, none⟩), .string s] w fun e w' => e = .returned (.tuple #[.agg #[.int .i64 0, .slice none 0 0, .slice none 0 0, .slice none 0 0], .int .i64 0]) ∧ Below w.heap.size w w' := by
  have HB := Lib.hid (Below.refl w.heap.size w)
  go_enter Tryz.func89, Tryz.ntmps89
  have HE := Lib.hid (hE.later (show Below w.heap.size w (w.alloc (.cells #[.int .i64 0, .slice none 0 0, .slice none 0 0, .slice none 0 0] 105)) from (Below.refl _ _).alloc (Nat.le_refl _) _))
  have TA := hT.al (.cells #[.int .i64 0, .slice none 0 0, .slice none 0 0, .slice none 0 0] 105)
  clear hE
  go_wp2_with fail
  refine (table_stripe_true s hs hk pt ps bm _ TA HE.out).mono ?_
  rintro e w1 ⟨rfl, hb⟩
  replace HB := Lib.hid (show Below w.heap.size w w1 by have h := hb; repeat (first | exact nbl_step HB.out h | replace h := nbl_new h | replace h := nbl_dr h))
  have j : HeapIs w1 (w.heap.size) (.cells #[.int .i64 0, .slice none 0 0, .slice none 0 0, .slice none 0 0] 105 (0, 0)) := (HeapIs.new _ _).below hb
  have jr0 := j.cell (j := 0) (v := .int .i64 0) rfl
  have js0 := j.frozen 0
  have ja0 : ∀ o, (w1.alloc o).cell? ⟨w.heap.size, 0, none⟩ = some (.int .i64 0) := fun o => (HeapIs.al j (o' := o)).cell (j := 0) (v := .int .i64 0) rfl
  have jt0 := j.set (j := 0) (v := .int .i64 0) rfl
  have jr1 := j.cell (j := 1) (v := .slice none 0 0) rfl
  have js1 := j.frozen 1
  have ja1 : ∀ o, (w1.alloc o).cell? ⟨w.heap.size, 1, none⟩ = some (.slice none 0 0) := fun o => (HeapIs.al j (o' := o)).cell (j := 1) (v := .slice none 0 0) rfl
  have jt1 := j.set (j := 1) (v := .slice none 0 0) rfl
  have jr2 := j.cell (j := 2) (v := .slice none 0 0) rfl
  have js2 := j.frozen 2
  have ja2 : ∀ o, (w1.alloc o).cell? ⟨w.heap.size, 2, none⟩ = some (.slice none 0 0) := fun o => (HeapIs.al j (o' := o)).cell (j := 2) (v := .slice none 0 0) rfl
  have jt2 := j.set (j := 2) (v := .slice none 0 0) rfl
  have jr3 := j.cell (j := 3) (v := .slice none 0 0) rfl
  have js3 := j.frozen 3
  have ja3 : ∀ o, (w1.alloc o).cell? ⟨w.heap.size, 3, none⟩ = some (.slice none 0 0) := fun o => (HeapIs.al j (o' := o)).cell (j := 3) (v := .slice none 0 0) rfl
  have jt3 := j.set (j := 3) (v := .slice none 0 0) rfl
  have btb : HeapIs w1 (pt) (.cells #[.slice (some ⟨ps, 0, none⟩) 1 1, .int .i64 0] 73 (0, 0)) := (TA.later hb).tab
  have btbr0 := btb.cell (j := 0) (v := .slice (some ⟨ps, 0, none⟩) 1 1) rfl
  have btbr1 := btb.cell (j := 1) (v := .int .i64 0) rfl
  have bsb : HeapIs w1 (ps) (.cells #[.map (some bm)] 74 (0, 0)) := (TA.later hb).row
  have bsbr0 := bsb.cell (j := 0) (v := .map (some bm)) rfl
  have lk := look_none s w1 bm (TA.later hb).map
  clear hk
  clear hb
  go_wp2_with fail
  refine (cart_copy _).mono ?_
  rintro e w2 ⟨rfl, hb⟩
  replace HB := Lib.hid (show Below w.heap.size w w2 by have h := hb; repeat (first | exact nbl_step HB.out h | replace h := nbl_new h | replace h := nbl_dr h))
  have k : HeapIs w2 (w1.heap.size) (.cells #[.int .i64 0, .slice none 0 0, .slice none 0 0, .slice none 0 0] 105 (0, 0)) := (HeapIs.new _ _).below hb
  have kr0 := k.cell (j := 0) (v := .int .i64 0) rfl
  have ks0 := k.frozen 0
  have ka0 : ∀ o, (w2.alloc o).cell? ⟨w1.heap.size, 0, none⟩ = some (.int .i64 0) := fun o => (HeapIs.al k (o' := o)).cell (j := 0) (v := .int .i64 0) rfl
  have kt0 := k.set (j := 0) (v := .int .i64 0) rfl
  have kr1 := k.cell (j := 1) (v := .slice none 0 0) rfl
  have ks1 := k.frozen 1
  have ka1 : ∀ o, (w2.alloc o).cell? ⟨w1.heap.size, 1, none⟩ = some (.slice none 0 0) := fun o => (HeapIs.al k (o' := o)).cell (j := 1) (v := .slice none 0 0) rfl
  have kt1 := k.set (j := 1) (v := .slice none 0 0) rfl
  have kr2 := k.cell (j := 2) (v := .slice none 0 0) rfl
  have ks2 := k.frozen 2
  have ka2 : ∀ o, (w2.alloc o).cell? ⟨w1.heap.size, 2, none⟩ = some (.slice none 0 0) := fun o => (HeapIs.al k (o' := o)).cell (j := 2) (v := .slice none 0 0) rfl
  have kt2 := k.set (j := 2) (v := .slice none 0 0) rfl
  have kr3 := k.cell (j := 3) (v := .slice none 0 0) rfl
  have ks3 := k.frozen 3
  have ka3 : ∀ o, (w2.alloc o).cell? ⟨w1.heap.size, 3, none⟩ = some (.slice none 0 0) := fun o => (HeapIs.al k (o' := o)).cell (j := 3) (v := .slice none 0 0) rfl
  have kt3 := k.set (j := 3) (v := .slice none 0 0) rfl
  have l : HeapIs w2 (w.heap.size) (.cells #[.int .i64 0, .slice none 0 0, .slice none 0 0, .slice none 0 0] 105 (0, 0)) := j.al.below hb
  have lr0 := l.cell (j := 0) (v := .int .i64 0) rfl
  have ls0 := l.frozen 0
  have la0 : ∀ o, (w2.alloc o).cell? ⟨w.heap.size, 0, none⟩ = some (.int .i64 0) := fun o => (HeapIs.al l (o' := o)).cell (j := 0) (v := .int .i64 0) rfl
  have lt0 := l.set (j := 0) (v := .int .i64 0) rfl
  have lr1 := l.cell (j := 1) (v := .slice none 0 0) rfl
  have ls1 := l.frozen 1
  have la1 : ∀ o, (w2.alloc o).cell? ⟨w.heap.size, 1, none⟩ = some (.slice none 0 0) := fun o => (HeapIs.al l (o' := o)).cell (j := 1) (v := .slice none 0 0) rfl
  have lt1 := l.set (j := 1) (v := .slice none 0 0) rfl
  have lr2 := l.cell (j := 2) (v := .slice none 0 0) rfl
  have ls2 := l.frozen 2
  have la2 : ∀ o, (w2.alloc o).cell? ⟨w.heap.size, 2, none⟩ = some (.slice none 0 0) := fun o => (HeapIs.al l (o' := o)).cell (j := 2) (v := .slice none 0 0) rfl
  have lt2 := l.set (j := 2) (v := .slice none 0 0) rfl
  have lr3 := l.cell (j := 3) (v := .slice none 0 0) rfl
  have ls3 := l.frozen 3
  have la3 : ∀ o, (w2.alloc o).cell? ⟨w.heap.size, 3, none⟩ = some (.slice none 0 0) := fun o => (HeapIs.al l (o' := o)).cell (j := 3) (v := .slice none 0 0) rfl
  have lt3 := l.set (j := 3) (v := .slice none 0 0) rfl
  clear hb
  go_wp2
  refine bodyPost_ret (by simp [results, Tryz.results89, go_sem, lr0, lr1, lr2, lr3]; try rfl) rfl ?_
  exact ⟨rfl, by repeat (first | exact HB.out | apply nbl_al | apply nbl_drw | refine Below.setCell ?_ (Nat.le_refl _) _ | refine nbl_set ?_ (by first | exact Nat.le_refl _ | (simp; omega) | (simp; done) | omega) )⟩

set_option maxRecDepth 100000 in
set_option maxHeartbeats 1000000 in
theorem table_get_false (s : ByteArray) (hs : s.size ≤ 100000) (hk : keyL s.data.toList = false) (pt ps bm : Nat) (w : World) (hT : TabE w pt ps bm) (hE : Env w) :
    Calls Tryz.prog 89 #[.pointer (some ⟨pt, 0, none⟩), .string s] w fun e w' => e = .returned (.tuple #[.agg #[.int .i64 0, .slice none 0 0, .slice none 0 0, .slice none 0 0], .int .i64 2]) ∧ Below w.heap.size w w' := by
  have HB := Lib.hid (Below.refl w.heap.size w)
  go_enter Tryz.func89, Tryz.ntmps89
  have HE := Lib.hid (hE.later (show Below w.heap.size w (w.alloc (.cells #[.int .i64 0, .slice none 0 0, .slice none 0 0, .slice none 0 0] 105)) from (Below.refl _ _).alloc (Nat.le_refl _) _))
  have TA := hT.al (.cells #[.int .i64 0, .slice none 0 0, .slice none 0 0, .slice none 0 0] 105)
  clear hE
  go_wp2_with fail
  refine (table_stripe_false s hs hk pt ps bm _ TA HE.out).mono ?_
  rintro e w1 ⟨rfl, hb⟩
  replace HB := Lib.hid (show Below w.heap.size w w1 by have h := hb; repeat (first | exact nbl_step HB.out h | replace h := nbl_new h | replace h := nbl_dr h))
  have j : HeapIs w1 (w.heap.size) (.cells #[.int .i64 0, .slice none 0 0, .slice none 0 0, .slice none 0 0] 105 (0, 0)) := (HeapIs.new _ _).below hb
  have jr0 := j.cell (j := 0) (v := .int .i64 0) rfl
  have js0 := j.frozen 0
  have ja0 : ∀ o, (w1.alloc o).cell? ⟨w.heap.size, 0, none⟩ = some (.int .i64 0) := fun o => (HeapIs.al j (o' := o)).cell (j := 0) (v := .int .i64 0) rfl
  have jt0 := j.set (j := 0) (v := .int .i64 0) rfl
  have jr1 := j.cell (j := 1) (v := .slice none 0 0) rfl
  have js1 := j.frozen 1
  have ja1 : ∀ o, (w1.alloc o).cell? ⟨w.heap.size, 1, none⟩ = some (.slice none 0 0) := fun o => (HeapIs.al j (o' := o)).cell (j := 1) (v := .slice none 0 0) rfl
  have jt1 := j.set (j := 1) (v := .slice none 0 0) rfl
  have jr2 := j.cell (j := 2) (v := .slice none 0 0) rfl
  have js2 := j.frozen 2
  have ja2 : ∀ o, (w1.alloc o).cell? ⟨w.heap.size, 2, none⟩ = some (.slice none 0 0) := fun o => (HeapIs.al j (o' := o)).cell (j := 2) (v := .slice none 0 0) rfl
  have jt2 := j.set (j := 2) (v := .slice none 0 0) rfl
  have jr3 := j.cell (j := 3) (v := .slice none 0 0) rfl
  have js3 := j.frozen 3
  have ja3 : ∀ o, (w1.alloc o).cell? ⟨w.heap.size, 3, none⟩ = some (.slice none 0 0) := fun o => (HeapIs.al j (o' := o)).cell (j := 3) (v := .slice none 0 0) rfl
  have jt3 := j.set (j := 3) (v := .slice none 0 0) rfl
  have btb : HeapIs w1 (pt) (.cells #[.slice (some ⟨ps, 0, none⟩) 1 1, .int .i64 0] 73 (0, 0)) := (TA.later hb).tab
  have btbr0 := btb.cell (j := 0) (v := .slice (some ⟨ps, 0, none⟩) 1 1) rfl
  have btbr1 := btb.cell (j := 1) (v := .int .i64 0) rfl
  have bsb : HeapIs w1 (ps) (.cells #[.map (some bm)] 74 (0, 0)) := (TA.later hb).row
  have bsbr0 := bsb.cell (j := 0) (v := .map (some bm)) rfl
  have lk := look_none s w1 bm (TA.later hb).map
  clear hk
  clear hb
  go_wp2
  refine bodyPost_ret (by simp [results, Tryz.results89, go_sem, jr0, jr1, jr2, jr3]; try rfl) rfl ?_
  exact ⟨rfl, by repeat (first | exact HB.out | apply nbl_al | apply nbl_drw | refine Below.setCell ?_ (Nat.le_refl _) _ | refine nbl_set ?_ (by first | exact Nat.le_refl _ | (simp; omega) | (simp; done) | omega) )⟩

set_option maxRecDepth 100000 in
set_option maxHeartbeats 1000000 in
theorem node_get_true (s : ByteArray) (hs : s.size ≤ 100000) (hk : keyL s.data.toList = true) (pn pt pd pi po ps bm : Nat) (w : World) (hN : NodeE w pn pt pd pi po ps bm) (hE : Env w) :
    Calls Tryz.prog 49 #[.pointer (some ⟨pn, 0, none⟩), .string s] w fun e w' => e = .returned (.tuple #[.agg #[.int .i64 0, .slice none 0 0, .slice none 0 0, .slice none 0 0], .int .i64 0]) ∧ Below w.heap.size w w' := by
  have HB := Lib.hid (Below.refl w.heap.size w)
  go_enter Tryz.func49, Tryz.ntmps49
  have NA := hN.al (.cells #[.int .i64 0, .slice none 0 0, .slice none 0 0, .slice none 0 0] 105)
  have HE := Lib.hid hE
  clear hE
  go_wp2_with fail
  refine (node_none pn pt pd pi po ps bm _ NA).mono ?_
  rintro e w1 ⟨rfl, hb⟩
  replace HB := Lib.hid (show Below w.heap.size w w1 by have h := hb; repeat (first | exact nbl_step HB.out h | replace h := nbl_new h | replace h := nbl_dr h))
  have bnb : HeapIs w1 (pn) (.cells #[.int .i64 1, .int .i64 1, .int .i64 1, .int .i64 1, .pointer (some ⟨pt, 0, none⟩), .pointer (some ⟨pd, 0, none⟩), .pointer (some ⟨pi, 0, none⟩), .pointer (some ⟨po, 0, none⟩), .bool false] 40 (0, 0)) := (NA.later hb).node
  have bnbr0 := bnb.cell (j := 0) (v := .int .i64 1) rfl
  have bnbr1 := bnb.cell (j := 1) (v := .int .i64 1) rfl
  have bnbr2 := bnb.cell (j := 2) (v := .int .i64 1) rfl
  have bnbr3 := bnb.cell (j := 3) (v := .int .i64 1) rfl
  have bnbr4 := bnb.cell (j := 4) (v := .pointer (some ⟨pt, 0, none⟩)) rfl
  have bnbr5 := bnb.cell (j := 5) (v := .pointer (some ⟨pd, 0, none⟩)) rfl
  have bnbr6 := bnb.cell (j := 6) (v := .pointer (some ⟨pi, 0, none⟩)) rfl
  have bnbr7 := bnb.cell (j := 7) (v := .pointer (some ⟨po, 0, none⟩)) rfl
  have bnbr8 := bnb.cell (j := 8) (v := .bool false) rfl
  have NB := Lib.hid (NA.later hb)
  have j : HeapIs w1 (w.heap.size) (.cells #[.int .i64 0, .slice none 0 0, .slice none 0 0, .slice none 0 0] 105 (0, 0)) := (HeapIs.new _ _).below hb
  have jr0 := j.cell (j := 0) (v := .int .i64 0) rfl
  have js0 := j.frozen 0
  have ja0 : ∀ o, (w1.alloc o).cell? ⟨w.heap.size, 0, none⟩ = some (.int .i64 0) := fun o => (HeapIs.al j (o' := o)).cell (j := 0) (v := .int .i64 0) rfl
  have jt0 := j.set (j := 0) (v := .int .i64 0) rfl
  have jr1 := j.cell (j := 1) (v := .slice none 0 0) rfl
  have js1 := j.frozen 1
  have ja1 : ∀ o, (w1.alloc o).cell? ⟨w.heap.size, 1, none⟩ = some (.slice none 0 0) := fun o => (HeapIs.al j (o' := o)).cell (j := 1) (v := .slice none 0 0) rfl
  have jt1 := j.set (j := 1) (v := .slice none 0 0) rfl
  have jr2 := j.cell (j := 2) (v := .slice none 0 0) rfl
  have js2 := j.frozen 2
  have ja2 : ∀ o, (w1.alloc o).cell? ⟨w.heap.size, 2, none⟩ = some (.slice none 0 0) := fun o => (HeapIs.al j (o' := o)).cell (j := 2) (v := .slice none 0 0) rfl
  have jt2 := j.set (j := 2) (v := .slice none 0 0) rfl
  have jr3 := j.cell (j := 3) (v := .slice none 0 0) rfl
  have js3 := j.frozen 3
  have ja3 : ∀ o, (w1.alloc o).cell? ⟨w.heap.size, 3, none⟩ = some (.slice none 0 0) := fun o => (HeapIs.al j (o' := o)).cell (j := 3) (v := .slice none 0 0) rfl
  have jt3 := j.set (j := 3) (v := .slice none 0 0) rfl
  clear hb
  go_wp2_with fail
  refine (table_get_true s hs hk pt ps bm _ NB.out.tabs (HE.out.later HB.out)).mono ?_
  rintro e w2 ⟨rfl, hb⟩
  replace HB := Lib.hid (show Below w.heap.size w w2 by have h := hb; repeat (first | exact nbl_step HB.out h | replace h := nbl_new h | replace h := nbl_dr h))
  have l : HeapIs w2 (w.heap.size) (.cells #[.int .i64 0, .slice none 0 0, .slice none 0 0, .slice none 0 0] 105 (0, 0)) := j.below hb
  have lr0 := l.cell (j := 0) (v := .int .i64 0) rfl
  have ls0 := l.frozen 0
  have la0 : ∀ o, (w2.alloc o).cell? ⟨w.heap.size, 0, none⟩ = some (.int .i64 0) := fun o => (HeapIs.al l (o' := o)).cell (j := 0) (v := .int .i64 0) rfl
  have lt0 := l.set (j := 0) (v := .int .i64 0) rfl
  have lr1 := l.cell (j := 1) (v := .slice none 0 0) rfl
  have ls1 := l.frozen 1
  have la1 : ∀ o, (w2.alloc o).cell? ⟨w.heap.size, 1, none⟩ = some (.slice none 0 0) := fun o => (HeapIs.al l (o' := o)).cell (j := 1) (v := .slice none 0 0) rfl
  have lt1 := l.set (j := 1) (v := .slice none 0 0) rfl
  have lr2 := l.cell (j := 2) (v := .slice none 0 0) rfl
  have ls2 := l.frozen 2
  have la2 : ∀ o, (w2.alloc o).cell? ⟨w.heap.size, 2, none⟩ = some (.slice none 0 0) := fun o => (HeapIs.al l (o' := o)).cell (j := 2) (v := .slice none 0 0) rfl
  have lt2 := l.set (j := 2) (v := .slice none 0 0) rfl
  have lr3 := l.cell (j := 3) (v := .slice none 0 0) rfl
  have ls3 := l.frozen 3
  have la3 : ∀ o, (w2.alloc o).cell? ⟨w.heap.size, 3, none⟩ = some (.slice none 0 0) := fun o => (HeapIs.al l (o' := o)).cell (j := 3) (v := .slice none 0 0) rfl
  have lt3 := l.set (j := 3) (v := .slice none 0 0) rfl
  clear hk
  clear hb
  go_wp2
  refine bodyPost_ret (by simp [results, Tryz.results49, go_sem, lr0, lr1, lr2, lr3]; try rfl) rfl ?_
  exact ⟨rfl, by repeat (first | exact HB.out | apply nbl_al | apply nbl_drw | refine Below.setCell ?_ (Nat.le_refl _) _ | refine nbl_set ?_ (by first | exact Nat.le_refl _ | (simp; omega) | (simp; done) | omega) )⟩

set_option maxRecDepth 100000 in
set_option maxHeartbeats 1000000 in
theorem node_get_false (s : ByteArray) (hs : s.size ≤ 100000) (hk : keyL s.data.toList = false) (pn pt pd pi po ps bm : Nat) (w : World) (hN : NodeE w pn pt pd pi po ps bm) (hE : Env w) :
    Calls Tryz.prog 49 #[.pointer (some ⟨pn, 0, none⟩), .string s] w fun e w' => e = .returned (.tuple #[.agg #[.int .i64 0, .slice none 0 0, .slice none 0 0, .slice none 0 0], .int .i64 2]) ∧ Below w.heap.size w w' := by
  have HB := Lib.hid (Below.refl w.heap.size w)
  go_enter Tryz.func49, Tryz.ntmps49
  have NA := hN.al (.cells #[.int .i64 0, .slice none 0 0, .slice none 0 0, .slice none 0 0] 105)
  have HE := Lib.hid hE
  clear hE
  go_wp2_with fail
  refine (node_none pn pt pd pi po ps bm _ NA).mono ?_
  rintro e w1 ⟨rfl, hb⟩
  replace HB := Lib.hid (show Below w.heap.size w w1 by have h := hb; repeat (first | exact nbl_step HB.out h | replace h := nbl_new h | replace h := nbl_dr h))
  have bnb : HeapIs w1 (pn) (.cells #[.int .i64 1, .int .i64 1, .int .i64 1, .int .i64 1, .pointer (some ⟨pt, 0, none⟩), .pointer (some ⟨pd, 0, none⟩), .pointer (some ⟨pi, 0, none⟩), .pointer (some ⟨po, 0, none⟩), .bool false] 40 (0, 0)) := (NA.later hb).node
  have bnbr0 := bnb.cell (j := 0) (v := .int .i64 1) rfl
  have bnbr1 := bnb.cell (j := 1) (v := .int .i64 1) rfl
  have bnbr2 := bnb.cell (j := 2) (v := .int .i64 1) rfl
  have bnbr3 := bnb.cell (j := 3) (v := .int .i64 1) rfl
  have bnbr4 := bnb.cell (j := 4) (v := .pointer (some ⟨pt, 0, none⟩)) rfl
  have bnbr5 := bnb.cell (j := 5) (v := .pointer (some ⟨pd, 0, none⟩)) rfl
  have bnbr6 := bnb.cell (j := 6) (v := .pointer (some ⟨pi, 0, none⟩)) rfl
  have bnbr7 := bnb.cell (j := 7) (v := .pointer (some ⟨po, 0, none⟩)) rfl
  have bnbr8 := bnb.cell (j := 8) (v := .bool false) rfl
  have NB := Lib.hid (NA.later hb)
  have j : HeapIs w1 (w.heap.size) (.cells #[.int .i64 0, .slice none 0 0, .slice none 0 0, .slice none 0 0] 105 (0, 0)) := (HeapIs.new _ _).below hb
  have jr0 := j.cell (j := 0) (v := .int .i64 0) rfl
  have js0 := j.frozen 0
  have ja0 : ∀ o, (w1.alloc o).cell? ⟨w.heap.size, 0, none⟩ = some (.int .i64 0) := fun o => (HeapIs.al j (o' := o)).cell (j := 0) (v := .int .i64 0) rfl
  have jt0 := j.set (j := 0) (v := .int .i64 0) rfl
  have jr1 := j.cell (j := 1) (v := .slice none 0 0) rfl
  have js1 := j.frozen 1
  have ja1 : ∀ o, (w1.alloc o).cell? ⟨w.heap.size, 1, none⟩ = some (.slice none 0 0) := fun o => (HeapIs.al j (o' := o)).cell (j := 1) (v := .slice none 0 0) rfl
  have jt1 := j.set (j := 1) (v := .slice none 0 0) rfl
  have jr2 := j.cell (j := 2) (v := .slice none 0 0) rfl
  have js2 := j.frozen 2
  have ja2 : ∀ o, (w1.alloc o).cell? ⟨w.heap.size, 2, none⟩ = some (.slice none 0 0) := fun o => (HeapIs.al j (o' := o)).cell (j := 2) (v := .slice none 0 0) rfl
  have jt2 := j.set (j := 2) (v := .slice none 0 0) rfl
  have jr3 := j.cell (j := 3) (v := .slice none 0 0) rfl
  have js3 := j.frozen 3
  have ja3 : ∀ o, (w1.alloc o).cell? ⟨w.heap.size, 3, none⟩ = some (.slice none 0 0) := fun o => (HeapIs.al j (o' := o)).cell (j := 3) (v := .slice none 0 0) rfl
  have jt3 := j.set (j := 3) (v := .slice none 0 0) rfl
  clear hb
  go_wp2_with fail
  refine (table_get_false s hs hk pt ps bm _ NB.out.tabs (HE.out.later HB.out)).mono ?_
  rintro e w2 ⟨rfl, hb⟩
  replace HB := Lib.hid (show Below w.heap.size w w2 by have h := hb; repeat (first | exact nbl_step HB.out h | replace h := nbl_new h | replace h := nbl_dr h))
  have l : HeapIs w2 (w.heap.size) (.cells #[.int .i64 0, .slice none 0 0, .slice none 0 0, .slice none 0 0] 105 (0, 0)) := j.below hb
  have lr0 := l.cell (j := 0) (v := .int .i64 0) rfl
  have ls0 := l.frozen 0
  have la0 : ∀ o, (w2.alloc o).cell? ⟨w.heap.size, 0, none⟩ = some (.int .i64 0) := fun o => (HeapIs.al l (o' := o)).cell (j := 0) (v := .int .i64 0) rfl
  have lt0 := l.set (j := 0) (v := .int .i64 0) rfl
  have lr1 := l.cell (j := 1) (v := .slice none 0 0) rfl
  have ls1 := l.frozen 1
  have la1 : ∀ o, (w2.alloc o).cell? ⟨w.heap.size, 1, none⟩ = some (.slice none 0 0) := fun o => (HeapIs.al l (o' := o)).cell (j := 1) (v := .slice none 0 0) rfl
  have lt1 := l.set (j := 1) (v := .slice none 0 0) rfl
  have lr2 := l.cell (j := 2) (v := .slice none 0 0) rfl
  have ls2 := l.frozen 2
  have la2 : ∀ o, (w2.alloc o).cell? ⟨w.heap.size, 2, none⟩ = some (.slice none 0 0) := fun o => (HeapIs.al l (o' := o)).cell (j := 2) (v := .slice none 0 0) rfl
  have lt2 := l.set (j := 2) (v := .slice none 0 0) rfl
  have lr3 := l.cell (j := 3) (v := .slice none 0 0) rfl
  have ls3 := l.frozen 3
  have la3 : ∀ o, (w2.alloc o).cell? ⟨w.heap.size, 3, none⟩ = some (.slice none 0 0) := fun o => (HeapIs.al l (o' := o)).cell (j := 3) (v := .slice none 0 0) rfl
  have lt3 := l.set (j := 3) (v := .slice none 0 0) rfl
  clear hk
  clear hb
  go_wp2
  refine bodyPost_ret (by simp [results, Tryz.results49, go_sem, lr0, lr1, lr2, lr3]; try rfl) rfl ?_
  exact ⟨rfl, by repeat (first | exact HB.out | apply nbl_al | apply nbl_drw | refine Below.setCell ?_ (Nat.le_refl _) _ | refine nbl_set ?_ (by first | exact Nat.le_refl _ | (simp; omega) | (simp; done) | omega) )⟩

end Go.Proofs.YtmocoiamhphhnaaGreatDoor

