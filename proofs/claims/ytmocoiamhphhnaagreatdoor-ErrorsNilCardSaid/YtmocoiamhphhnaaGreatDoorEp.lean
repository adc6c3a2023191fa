/- What state answers at calls (printed by wip/genEp.py). -/
import Derived.Test.YtmocoiamhphhnaaGreatDoorEo
namespace Go.Proofs.YtmocoiamhphhnaaGreatDoor
set_option linter.unusedVariables false
set_option linter.unusedSimpArgs false
open Go.RowKit Go.MapKept

theorem HeapIs.new1 (W : World) (a b : Obj) : HeapIs ((W.alloc a).alloc b) (W.heap.size + 1) b := by
  have h := HeapIs.new (W.alloc a) b
  rw [show (W.alloc a).heap.size = W.heap.size + 1 by simp] at h
  exact h
theorem HeapIs.new2 (W : World) (a b c : Obj) : HeapIs (((W.alloc a).alloc b).alloc c) (W.heap.size + 2) c := by
  have h := HeapIs.new ((W.alloc a).alloc b) c
  rw [show ((W.alloc a).alloc b).heap.size = W.heap.size + 2 by simp] at h
  exact h
theorem HeapIs.new3 (W : World) (a b c d : Obj) : HeapIs ((((W.alloc a).alloc b).alloc c).alloc d) (W.heap.size + 3) d := by
  have h := HeapIs.new (((W.alloc a).alloc b).alloc c) d
  rw [show (((W.alloc a).alloc b).alloc c).heap.size = W.heap.size + 3 by simp] at h
  exact h
theorem setCell_size (W : World) (p : Nat) (v : Value) : (W.setCell ⟨p, 0, none⟩ v).heap.size = W.heap.size := by
  unfold World.setCell
  simp
theorem HeapIs.newS (W : World) (p : Nat) (v : Value) (o : Obj) : HeapIs ((W.setCell ⟨p, 0, none⟩ v).alloc o) W.heap.size o := by
  have h := HeapIs.new (W.setCell ⟨p, 0, none⟩ v) o
  rw [setCell_size] at h
  exact h
theorem HeapIs.apart {W : World} {p g : Nat} {o : Obj} (h : HeapIs W p o) (hne : p ≠ g) (v : Value) : HeapIs (W.setCell ⟨g, 0, none⟩ v) p o := by
  unfold HeapIs World.setCell at *
  rw [Array.getElem?_modify, if_neg (Ne.symm hne)]
  exact h
theorem HeapIs.here {W : World} {p : Nat} {u v : Value} {t : TypeId} (h : HeapIs W p (.cells #[u] t (0, 0))) : HeapIs (W.setCell ⟨p, 0, none⟩ v) p (.cells #[v] t (0, 0)) := by
  unfold HeapIs World.setCell at *
  rw [Array.getElem?_modify, if_pos rfl, h]
  rfl
theorem NodeE.set2 {W : World} {pn pt pd pi po ps bm g : Nat} {v : Value} (h : NodeE W pn pt pd pi po ps bm) (hg : pn ≠ g ∧ pt ≠ g ∧ ps ≠ g ∧ bm ≠ g ∧ pd ≠ g) (o : Obj) : NodeE ((W.setCell ⟨g, 0, none⟩ v).alloc o) pn pt pd pi po ps bm :=
  ⟨(h.node.apart hg.1 v).al, ⟨(h.tabs.tab.apart hg.2.1 v).al, (h.tabs.row.apart hg.2.2.1 v).al, (h.tabs.map.apart hg.2.2.2.1 v).al⟩, (HeapIs.apart h.dots hg.2.2.2.2 v).al⟩
theorem NodeE.lt {W : World} {pn pt pd pi po ps bm g : Nat} (h : NodeE W pn pt pd pi po ps bm) (hg : W.heap.size ≤ g) : pn ≠ g ∧ pt ≠ g ∧ ps ≠ g ∧ bm ≠ g ∧ pd ≠ g := by
  have a := (Array.getElem?_eq_some_iff.1 h.node.raw).1
  have b := (Array.getElem?_eq_some_iff.1 h.tabs.tab.raw).1
  have c := (Array.getElem?_eq_some_iff.1 h.tabs.row.raw).1
  have d := (Array.getElem?_eq_some_iff.1 h.tabs.map.raw).1
  have e := (Array.getElem?_eq_some_iff.1 (HeapIs.raw h.dots)).1
  omega
theorem nbl_setS {w a b : World} {p : Nat} {v : Value} (k : Below (a.setCell ⟨p, 0, none⟩ v).heap.size (a.setCell ⟨p, 0, none⟩ v) b) (h : Below w.heap.size w a) (hp : w.heap.size ≤ p) : Below w.heap.size w b :=
  (nbl_set h hp).trans (k.mono (by rw [setCell_size]; exact h.size))

set_option maxRecDepth 100000 in
set_option maxHeartbeats 1000000 in
theorem state_set1 (pn pt pd pi po ps bm : Nat) (w : World) (hN : NodeE w pn pt pd pi po ps bm) (hE : Env w) :
    Calls Tryz.prog 38 #[.pointer (some ⟨pn, 0, none⟩), .agg #[.int .i64 2, .string ⟨#[97]⟩, .string ⟨#[]⟩, .string ⟨#[116, 101, 97]⟩, .int .i64 1, .slice none 0 0]] w fun e w' => e = .returned (.int .i64 9) ∧ Below w.heap.size w w' := by
  have HE := Lib.hid hE
  have HN := Lib.hid hN
  clear hE hN
  have hmf : ∀ (fn : Fn) (first cap : Array Value) (w : World), (Instr.makeFunc fn first cap).run Tryz.prog w = .ok (.func fn first cap) w := fun _ _ _ _ => rfl
  have HB := Lib.hid (Below.refl w.heap.size w)
  go_enter Tryz.func38, Tryz.ntmps38
  go_wp2_with fail
  refine (node_get_true ⟨#[97]⟩ (by decide) (by decide) pn pt pd pi po ps bm _ ((HN.out.al _).al _) (HE.out.later (nbl_al (nbl_al HB.out)))).mono ?_
  rintro e w1 ⟨rfl, hb⟩
  replace HB := Lib.hid (show Below w.heap.size w w1 by have h := hb; repeat (first | exact nbl_step HB.out h | replace h := nbl_new h | replace h := nbl_dr h))
  have n1 : HeapIs w1 (w.heap.size) (.cells #[.pointer (some ⟨pn, 0, none⟩)] 32 (0, 0)) := (HeapIs.new w _).al.below hb
  have n1r0 := n1.cell (j := 0) (v := .pointer (some ⟨pn, 0, none⟩)) rfl
  have n1a0_1 : ∀ o1, (w1.alloc o1).cell? ⟨w.heap.size, 0, none⟩ = some (.pointer (some ⟨pn, 0, none⟩)) := fun o1 => HeapIs.cell (HeapIs.al n1 (o' := o1)) (j := 0) (v := .pointer (some ⟨pn, 0, none⟩)) rfl
  have c1 : HeapIs w1 (w.heap.size + 1) (.cells #[.int .i64 2, .string ⟨#[97]⟩, .string ⟨#[]⟩, .string ⟨#[116, 101, 97]⟩, .int .i64 1, .slice none 0 0] 29 (0, 0)) := (HeapIs.new1 w _ _).below hb
  have c1r0 := c1.cell (j := 0) (v := .int .i64 2) rfl
  have c1a0_1 : ∀ o1, (w1.alloc o1).cell? ⟨w.heap.size + 1, 0, none⟩ = some (.int .i64 2) := fun o1 => HeapIs.cell (HeapIs.al c1 (o' := o1)) (j := 0) (v := .int .i64 2) rfl
  have c1r1 := c1.cell (j := 1) (v := .string ⟨#[97]⟩) rfl
  have c1a1_1 : ∀ o1, (w1.alloc o1).cell? ⟨w.heap.size + 1, 1, none⟩ = some (.string ⟨#[97]⟩) := fun o1 => HeapIs.cell (HeapIs.al c1 (o' := o1)) (j := 1) (v := .string ⟨#[97]⟩) rfl
  have c1r2 := c1.cell (j := 2) (v := .string ⟨#[]⟩) rfl
  have c1a2_1 : ∀ o1, (w1.alloc o1).cell? ⟨w.heap.size + 1, 2, none⟩ = some (.string ⟨#[]⟩) := fun o1 => HeapIs.cell (HeapIs.al c1 (o' := o1)) (j := 2) (v := .string ⟨#[]⟩) rfl
  have c1r3 := c1.cell (j := 3) (v := .string ⟨#[116, 101, 97]⟩) rfl
  have c1a3_1 : ∀ o1, (w1.alloc o1).cell? ⟨w.heap.size + 1, 3, none⟩ = some (.string ⟨#[116, 101, 97]⟩) := fun o1 => HeapIs.cell (HeapIs.al c1 (o' := o1)) (j := 3) (v := .string ⟨#[116, 101, 97]⟩) rfl
  have c1r4 := c1.cell (j := 4) (v := .int .i64 1) rfl
  have c1a4_1 : ∀ o1, (w1.alloc o1).cell? ⟨w.heap.size + 1, 4, none⟩ = some (.int .i64 1) := fun o1 => HeapIs.cell (HeapIs.al c1 (o' := o1)) (j := 4) (v := .int .i64 1) rfl
  have c1r5 := c1.cell (j := 5) (v := .slice none 0 0) rfl
  have c1a5_1 : ∀ o1, (w1.alloc o1).cell? ⟨w.heap.size + 1, 5, none⟩ = some (.slice none 0 0) := fun o1 => HeapIs.cell (HeapIs.al c1 (o' := o1)) (j := 5) (v := .slice none 0 0) rfl
  have HN1 := Lib.hid (HN.out.later HB.out)
  clear hb
  go_wp2_with fail
  refine (node_get_true ⟨#[97]⟩ (by decide) (by decide) pn pt pd pi po ps bm _ (HN1.out.al _) (HE.out.later (nbl_al HB.out))).mono ?_
  rintro e w2 ⟨rfl, hb⟩
  replace HB := Lib.hid (show Below w.heap.size w w2 by have h := hb; repeat (first | exact nbl_step HB.out h | replace h := nbl_new h | replace h := nbl_dr h))
  have n2 : HeapIs w2 (w.heap.size) (.cells #[.pointer (some ⟨pn, 0, none⟩)] 32 (0, 0)) := n1.al.below hb
  have n2r0 := n2.cell (j := 0) (v := .pointer (some ⟨pn, 0, none⟩)) rfl
  have n2a0_1 : ∀ o1, (w2.alloc o1).cell? ⟨w.heap.size, 0, none⟩ = some (.pointer (some ⟨pn, 0, none⟩)) := fun o1 => HeapIs.cell (HeapIs.al n2 (o' := o1)) (j := 0) (v := .pointer (some ⟨pn, 0, none⟩)) rfl
  have c2 : HeapIs w2 (w.heap.size + 1) (.cells #[.int .i64 2, .string ⟨#[97]⟩, .string ⟨#[]⟩, .string ⟨#[116, 101, 97]⟩, .int .i64 1, .slice none 0 0] 29 (0, 0)) := c1.al.below hb
  have c2r0 := c2.cell (j := 0) (v := .int .i64 2) rfl
  have c2a0_1 : ∀ o1, (w2.alloc o1).cell? ⟨w.heap.size + 1, 0, none⟩ = some (.int .i64 2) := fun o1 => HeapIs.cell (HeapIs.al c2 (o' := o1)) (j := 0) (v := .int .i64 2) rfl
  have c2r1 := c2.cell (j := 1) (v := .string ⟨#[97]⟩) rfl
  have c2a1_1 : ∀ o1, (w2.alloc o1).cell? ⟨w.heap.size + 1, 1, none⟩ = some (.string ⟨#[97]⟩) := fun o1 => HeapIs.cell (HeapIs.al c2 (o' := o1)) (j := 1) (v := .string ⟨#[97]⟩) rfl
  have c2r2 := c2.cell (j := 2) (v := .string ⟨#[]⟩) rfl
  have c2a2_1 : ∀ o1, (w2.alloc o1).cell? ⟨w.heap.size + 1, 2, none⟩ = some (.string ⟨#[]⟩) := fun o1 => HeapIs.cell (HeapIs.al c2 (o' := o1)) (j := 2) (v := .string ⟨#[]⟩) rfl
  have c2r3 := c2.cell (j := 3) (v := .string ⟨#[116, 101, 97]⟩) rfl
  have c2a3_1 : ∀ o1, (w2.alloc o1).cell? ⟨w.heap.size + 1, 3, none⟩ = some (.string ⟨#[116, 101, 97]⟩) := fun o1 => HeapIs.cell (HeapIs.al c2 (o' := o1)) (j := 3) (v := .string ⟨#[116, 101, 97]⟩) rfl
  have c2r4 := c2.cell (j := 4) (v := .int .i64 1) rfl
  have c2a4_1 : ∀ o1, (w2.alloc o1).cell? ⟨w.heap.size + 1, 4, none⟩ = some (.int .i64 1) := fun o1 => HeapIs.cell (HeapIs.al c2 (o' := o1)) (j := 4) (v := .int .i64 1) rfl
  have c2r5 := c2.cell (j := 5) (v := .slice none 0 0) rfl
  have c2a5_1 : ∀ o1, (w2.alloc o1).cell? ⟨w.heap.size + 1, 5, none⟩ = some (.slice none 0 0) := fun o1 => HeapIs.cell (HeapIs.al c2 (o' := o1)) (j := 5) (v := .slice none 0 0) rfl
  have s2 : HeapIs w2 (w1.heap.size) (.cells #[.int .i64 0, .slice none 0 0, .slice none 0 0, .slice none 0 0] 105 (0, 0)) := (HeapIs.new w1 _).below hb
  have s2r0 := s2.cell (j := 0) (v := .int .i64 0) rfl
  have s2a0_1 : ∀ o1, (w2.alloc o1).cell? ⟨w1.heap.size, 0, none⟩ = some (.int .i64 0) := fun o1 => HeapIs.cell (HeapIs.al s2 (o' := o1)) (j := 0) (v := .int .i64 0) rfl
  have s2r1 := s2.cell (j := 1) (v := .slice none 0 0) rfl
  have s2a1_1 : ∀ o1, (w2.alloc o1).cell? ⟨w1.heap.size, 1, none⟩ = some (.slice none 0 0) := fun o1 => HeapIs.cell (HeapIs.al s2 (o' := o1)) (j := 1) (v := .slice none 0 0) rfl
  have s2r2 := s2.cell (j := 2) (v := .slice none 0 0) rfl
  have s2a2_1 : ∀ o1, (w2.alloc o1).cell? ⟨w1.heap.size, 2, none⟩ = some (.slice none 0 0) := fun o1 => HeapIs.cell (HeapIs.al s2 (o' := o1)) (j := 2) (v := .slice none 0 0) rfl
  have s2r3 := s2.cell (j := 3) (v := .slice none 0 0) rfl
  have s2a3_1 : ∀ o1, (w2.alloc o1).cell? ⟨w1.heap.size, 3, none⟩ = some (.slice none 0 0) := fun o1 => HeapIs.cell (HeapIs.al s2 (o' := o1)) (j := 3) (v := .slice none 0 0) rfl
  have HN2 := Lib.hid (HN1.out.al (.cells #[.int .i64 0, .slice none 0 0, .slice none 0 0, .slice none 0 0] 105) |>.later hb)
  clear hb
  go_wp2_with fail
  refine (coming_set1 _).mono ?_
  rintro e w3 ⟨rfl, hb⟩
  replace HB := Lib.hid (show Below w.heap.size w w3 by have h := hb; repeat (first | exact nbl_step HB.out h | replace h := nbl_new h | replace h := nbl_dr h))
  have n3 : HeapIs w3 (w.heap.size) (.cells #[.pointer (some ⟨pn, 0, none⟩)] 32 (0, 0)) := n2.al.below hb
  have n3r0 := n3.cell (j := 0) (v := .pointer (some ⟨pn, 0, none⟩)) rfl
  have n3a0_1 : ∀ o1, (w3.alloc o1).cell? ⟨w.heap.size, 0, none⟩ = some (.pointer (some ⟨pn, 0, none⟩)) := fun o1 => HeapIs.cell (HeapIs.al n3 (o' := o1)) (j := 0) (v := .pointer (some ⟨pn, 0, none⟩)) rfl
  have n3a0_2 : ∀ o1 o2, ((w3.alloc o1).alloc o2).cell? ⟨w.heap.size, 0, none⟩ = some (.pointer (some ⟨pn, 0, none⟩)) := fun o1 o2 => HeapIs.cell (HeapIs.al (HeapIs.al n3 (o' := o1)) (o' := o2)) (j := 0) (v := .pointer (some ⟨pn, 0, none⟩)) rfl
  have n3a0_3 : ∀ o1 o2 o3, (((w3.alloc o1).alloc o2).alloc o3).cell? ⟨w.heap.size, 0, none⟩ = some (.pointer (some ⟨pn, 0, none⟩)) := fun o1 o2 o3 => HeapIs.cell (HeapIs.al (HeapIs.al (HeapIs.al n3 (o' := o1)) (o' := o2)) (o' := o3)) (j := 0) (v := .pointer (some ⟨pn, 0, none⟩)) rfl
  have n3a0_4 : ∀ o1 o2 o3 o4, ((((w3.alloc o1).alloc o2).alloc o3).alloc o4).cell? ⟨w.heap.size, 0, none⟩ = some (.pointer (some ⟨pn, 0, none⟩)) := fun o1 o2 o3 o4 => HeapIs.cell (HeapIs.al (HeapIs.al (HeapIs.al (HeapIs.al n3 (o' := o1)) (o' := o2)) (o' := o3)) (o' := o4)) (j := 0) (v := .pointer (some ⟨pn, 0, none⟩)) rfl
  have c3 : HeapIs w3 (w.heap.size + 1) (.cells #[.int .i64 2, .string ⟨#[97]⟩, .string ⟨#[]⟩, .string ⟨#[116, 101, 97]⟩, .int .i64 1, .slice none 0 0] 29 (0, 0)) := c2.al.below hb
  have c3r0 := c3.cell (j := 0) (v := .int .i64 2) rfl
  have c3a0_1 : ∀ o1, (w3.alloc o1).cell? ⟨w.heap.size + 1, 0, none⟩ = some (.int .i64 2) := fun o1 => HeapIs.cell (HeapIs.al c3 (o' := o1)) (j := 0) (v := .int .i64 2) rfl
  have c3a0_2 : ∀ o1 o2, ((w3.alloc o1).alloc o2).cell? ⟨w.heap.size + 1, 0, none⟩ = some (.int .i64 2) := fun o1 o2 => HeapIs.cell (HeapIs.al (HeapIs.al c3 (o' := o1)) (o' := o2)) (j := 0) (v := .int .i64 2) rfl
  have c3a0_3 : ∀ o1 o2 o3, (((w3.alloc o1).alloc o2).alloc o3).cell? ⟨w.heap.size + 1, 0, none⟩ = some (.int .i64 2) := fun o1 o2 o3 => HeapIs.cell (HeapIs.al (HeapIs.al (HeapIs.al c3 (o' := o1)) (o' := o2)) (o' := o3)) (j := 0) (v := .int .i64 2) rfl
  have c3a0_4 : ∀ o1 o2 o3 o4, ((((w3.alloc o1).alloc o2).alloc o3).alloc o4).cell? ⟨w.heap.size + 1, 0, none⟩ = some (.int .i64 2) := fun o1 o2 o3 o4 => HeapIs.cell (HeapIs.al (HeapIs.al (HeapIs.al (HeapIs.al c3 (o' := o1)) (o' := o2)) (o' := o3)) (o' := o4)) (j := 0) (v := .int .i64 2) rfl
  have c3r1 := c3.cell (j := 1) (v := .string ⟨#[97]⟩) rfl
  have c3a1_1 : ∀ o1, (w3.alloc o1).cell? ⟨w.heap.size + 1, 1, none⟩ = some (.string ⟨#[97]⟩) := fun o1 => HeapIs.cell (HeapIs.al c3 (o' := o1)) (j := 1) (v := .string ⟨#[97]⟩) rfl
  have c3a1_2 : ∀ o1 o2, ((w3.alloc o1).alloc o2).cell? ⟨w.heap.size + 1, 1, none⟩ = some (.string ⟨#[97]⟩) := fun o1 o2 => HeapIs.cell (HeapIs.al (HeapIs.al c3 (o' := o1)) (o' := o2)) (j := 1) (v := .string ⟨#[97]⟩) rfl
  have c3a1_3 : ∀ o1 o2 o3, (((w3.alloc o1).alloc o2).alloc o3).cell? ⟨w.heap.size + 1, 1, none⟩ = some (.string ⟨#[97]⟩) := fun o1 o2 o3 => HeapIs.cell (HeapIs.al (HeapIs.al (HeapIs.al c3 (o' := o1)) (o' := o2)) (o' := o3)) (j := 1) (v := .string ⟨#[97]⟩) rfl
  have c3a1_4 : ∀ o1 o2 o3 o4, ((((w3.alloc o1).alloc o2).alloc o3).alloc o4).cell? ⟨w.heap.size + 1, 1, none⟩ = some (.string ⟨#[97]⟩) := fun o1 o2 o3 o4 => HeapIs.cell (HeapIs.al (HeapIs.al (HeapIs.al (HeapIs.al c3 (o' := o1)) (o' := o2)) (o' := o3)) (o' := o4)) (j := 1) (v := .string ⟨#[97]⟩) rfl
  have c3r2 := c3.cell (j := 2) (v := .string ⟨#[]⟩) rfl
  have c3a2_1 : ∀ o1, (w3.alloc o1).cell? ⟨w.heap.size + 1, 2, none⟩ = some (.string ⟨#[]⟩) := fun o1 => HeapIs.cell (HeapIs.al c3 (o' := o1)) (j := 2) (v := .string ⟨#[]⟩) rfl
  have c3a2_2 : ∀ o1 o2, ((w3.alloc o1).alloc o2).cell? ⟨w.heap.size + 1, 2, none⟩ = some (.string ⟨#[]⟩) := fun o1 o2 => HeapIs.cell (HeapIs.al (HeapIs.al c3 (o' := o1)) (o' := o2)) (j := 2) (v := .string ⟨#[]⟩) rfl
  have c3a2_3 : ∀ o1 o2 o3, (((w3.alloc o1).alloc o2).alloc o3).cell? ⟨w.heap.size + 1, 2, none⟩ = some (.string ⟨#[]⟩) := fun o1 o2 o3 => HeapIs.cell (HeapIs.al (HeapIs.al (HeapIs.al c3 (o' := o1)) (o' := o2)) (o' := o3)) (j := 2) (v := .string ⟨#[]⟩) rfl
  have c3a2_4 : ∀ o1 o2 o3 o4, ((((w3.alloc o1).alloc o2).alloc o3).alloc o4).cell? ⟨w.heap.size + 1, 2, none⟩ = some (.string ⟨#[]⟩) := fun o1 o2 o3 o4 => HeapIs.cell (HeapIs.al (HeapIs.al (HeapIs.al (HeapIs.al c3 (o' := o1)) (o' := o2)) (o' := o3)) (o' := o4)) (j := 2) (v := .string ⟨#[]⟩) rfl
  have c3r3 := c3.cell (j := 3) (v := .string ⟨#[116, 101, 97]⟩) rfl
  have c3a3_1 : ∀ o1, (w3.alloc o1).cell? ⟨w.heap.size + 1, 3, none⟩ = some (.string ⟨#[116, 101, 97]⟩) := fun o1 => HeapIs.cell (HeapIs.al c3 (o' := o1)) (j := 3) (v := .string ⟨#[116, 101, 97]⟩) rfl
  have c3a3_2 : ∀ o1 o2, ((w3.alloc o1).alloc o2).cell? ⟨w.heap.size + 1, 3, none⟩ = some (.string ⟨#[116, 101, 97]⟩) := fun o1 o2 => HeapIs.cell (HeapIs.al (HeapIs.al c3 (o' := o1)) (o' := o2)) (j := 3) (v := .string ⟨#[116, 101, 97]⟩) rfl
  have c3a3_3 : ∀ o1 o2 o3, (((w3.alloc o1).alloc o2).alloc o3).cell? ⟨w.heap.size + 1, 3, none⟩ = some (.string ⟨#[116, 101, 97]⟩) := fun o1 o2 o3 => HeapIs.cell (HeapIs.al (HeapIs.al (HeapIs.al c3 (o' := o1)) (o' := o2)) (o' := o3)) (j := 3) (v := .string ⟨#[116, 101, 97]⟩) rfl
  have c3a3_4 : ∀ o1 o2 o3 o4, ((((w3.alloc o1).alloc o2).alloc o3).alloc o4).cell? ⟨w.heap.size + 1, 3, none⟩ = some (.string ⟨#[116, 101, 97]⟩) := fun o1 o2 o3 o4 => HeapIs.cell (HeapIs.al (HeapIs.al (HeapIs.al (HeapIs.al c3 (o' := o1)) (o' := o2)) (o' := o3)) (o' := o4)) (j := 3) (v := .string ⟨#[116, 101, 97]⟩) rfl
  have c3r4 := c3.cell (j := 4) (v := .int .i64 1) rfl
  have c3a4_1 : ∀ o1, (w3.alloc o1).cell? ⟨w.heap.size + 1, 4, none⟩ = some (.int .i64 1) := fun o1 => HeapIs.cell (HeapIs.al c3 (o' := o1)) (j := 4) (v := .int .i64 1) rfl
  have c3a4_2 : ∀ o1 o2, ((w3.alloc o1).alloc o2).cell? ⟨w.heap.size + 1, 4, none⟩ = some (.int .i64 1) := fun o1 o2 => HeapIs.cell (HeapIs.al (HeapIs.al c3 (o' := o1)) (o' := o2)) (j := 4) (v := .int .i64 1) rfl
  have c3a4_3 : ∀ o1 o2 o3, (((w3.alloc o1).alloc o2).alloc o3).cell? ⟨w.heap.size + 1, 4, none⟩ = some (.int .i64 1) := fun o1 o2 o3 => HeapIs.cell (HeapIs.al (HeapIs.al (HeapIs.al c3 (o' := o1)) (o' := o2)) (o' := o3)) (j := 4) (v := .int .i64 1) rfl
  have c3a4_4 : ∀ o1 o2 o3 o4, ((((w3.alloc o1).alloc o2).alloc o3).alloc o4).cell? ⟨w.heap.size + 1, 4, none⟩ = some (.int .i64 1) := fun o1 o2 o3 o4 => HeapIs.cell (HeapIs.al (HeapIs.al (HeapIs.al (HeapIs.al c3 (o' := o1)) (o' := o2)) (o' := o3)) (o' := o4)) (j := 4) (v := .int .i64 1) rfl
  have c3r5 := c3.cell (j := 5) (v := .slice none 0 0) rfl
  have c3a5_1 : ∀ o1, (w3.alloc o1).cell? ⟨w.heap.size + 1, 5, none⟩ = some (.slice none 0 0) := fun o1 => HeapIs.cell (HeapIs.al c3 (o' := o1)) (j := 5) (v := .slice none 0 0) rfl
  have c3a5_2 : ∀ o1 o2, ((w3.alloc o1).alloc o2).cell? ⟨w.heap.size + 1, 5, none⟩ = some (.slice none 0 0) := fun o1 o2 => HeapIs.cell (HeapIs.al (HeapIs.al c3 (o' := o1)) (o' := o2)) (j := 5) (v := .slice none 0 0) rfl
  have c3a5_3 : ∀ o1 o2 o3, (((w3.alloc o1).alloc o2).alloc o3).cell? ⟨w.heap.size + 1, 5, none⟩ = some (.slice none 0 0) := fun o1 o2 o3 => HeapIs.cell (HeapIs.al (HeapIs.al (HeapIs.al c3 (o' := o1)) (o' := o2)) (o' := o3)) (j := 5) (v := .slice none 0 0) rfl
  have c3a5_4 : ∀ o1 o2 o3 o4, ((((w3.alloc o1).alloc o2).alloc o3).alloc o4).cell? ⟨w.heap.size + 1, 5, none⟩ = some (.slice none 0 0) := fun o1 o2 o3 o4 => HeapIs.cell (HeapIs.al (HeapIs.al (HeapIs.al (HeapIs.al c3 (o' := o1)) (o' := o2)) (o' := o3)) (o' := o4)) (j := 5) (v := .slice none 0 0) rfl
  have s3 : HeapIs w3 (w1.heap.size) (.cells #[.int .i64 0, .slice none 0 0, .slice none 0 0, .slice none 0 0] 105 (0, 0)) := s2.al.below hb
  have s3r0 := s3.cell (j := 0) (v := .int .i64 0) rfl
  have s3a0_1 : ∀ o1, (w3.alloc o1).cell? ⟨w1.heap.size, 0, none⟩ = some (.int .i64 0) := fun o1 => HeapIs.cell (HeapIs.al s3 (o' := o1)) (j := 0) (v := .int .i64 0) rfl
  have s3a0_2 : ∀ o1 o2, ((w3.alloc o1).alloc o2).cell? ⟨w1.heap.size, 0, none⟩ = some (.int .i64 0) := fun o1 o2 => HeapIs.cell (HeapIs.al (HeapIs.al s3 (o' := o1)) (o' := o2)) (j := 0) (v := .int .i64 0) rfl
  have s3a0_3 : ∀ o1 o2 o3, (((w3.alloc o1).alloc o2).alloc o3).cell? ⟨w1.heap.size, 0, none⟩ = some (.int .i64 0) := fun o1 o2 o3 => HeapIs.cell (HeapIs.al (HeapIs.al (HeapIs.al s3 (o' := o1)) (o' := o2)) (o' := o3)) (j := 0) (v := .int .i64 0) rfl
  have s3a0_4 : ∀ o1 o2 o3 o4, ((((w3.alloc o1).alloc o2).alloc o3).alloc o4).cell? ⟨w1.heap.size, 0, none⟩ = some (.int .i64 0) := fun o1 o2 o3 o4 => HeapIs.cell (HeapIs.al (HeapIs.al (HeapIs.al (HeapIs.al s3 (o' := o1)) (o' := o2)) (o' := o3)) (o' := o4)) (j := 0) (v := .int .i64 0) rfl
  have s3r1 := s3.cell (j := 1) (v := .slice none 0 0) rfl
  have s3a1_1 : ∀ o1, (w3.alloc o1).cell? ⟨w1.heap.size, 1, none⟩ = some (.slice none 0 0) := fun o1 => HeapIs.cell (HeapIs.al s3 (o' := o1)) (j := 1) (v := .slice none 0 0) rfl
  have s3a1_2 : ∀ o1 o2, ((w3.alloc o1).alloc o2).cell? ⟨w1.heap.size, 1, none⟩ = some (.slice none 0 0) := fun o1 o2 => HeapIs.cell (HeapIs.al (HeapIs.al s3 (o' := o1)) (o' := o2)) (j := 1) (v := .slice none 0 0) rfl
  have s3a1_3 : ∀ o1 o2 o3, (((w3.alloc o1).alloc o2).alloc o3).cell? ⟨w1.heap.size, 1, none⟩ = some (.slice none 0 0) := fun o1 o2 o3 => HeapIs.cell (HeapIs.al (HeapIs.al (HeapIs.al s3 (o' := o1)) (o' := o2)) (o' := o3)) (j := 1) (v := .slice none 0 0) rfl
  have s3a1_4 : ∀ o1 o2 o3 o4, ((((w3.alloc o1).alloc o2).alloc o3).alloc o4).cell? ⟨w1.heap.size, 1, none⟩ = some (.slice none 0 0) := fun o1 o2 o3 o4 => HeapIs.cell (HeapIs.al (HeapIs.al (HeapIs.al (HeapIs.al s3 (o' := o1)) (o' := o2)) (o' := o3)) (o' := o4)) (j := 1) (v := .slice none 0 0) rfl
  have s3r2 := s3.cell (j := 2) (v := .slice none 0 0) rfl
  have s3a2_1 : ∀ o1, (w3.alloc o1).cell? ⟨w1.heap.size, 2, none⟩ = some (.slice none 0 0) := fun o1 => HeapIs.cell (HeapIs.al s3 (o' := o1)) (j := 2) (v := .slice none 0 0) rfl
  have s3a2_2 : ∀ o1 o2, ((w3.alloc o1).alloc o2).cell? ⟨w1.heap.size, 2, none⟩ = some (.slice none 0 0) := fun o1 o2 => HeapIs.cell (HeapIs.al (HeapIs.al s3 (o' := o1)) (o' := o2)) (j := 2) (v := .slice none 0 0) rfl
  have s3a2_3 : ∀ o1 o2 o3, (((w3.alloc o1).alloc o2).alloc o3).cell? ⟨w1.heap.size, 2, none⟩ = some (.slice none 0 0) := fun o1 o2 o3 => HeapIs.cell (HeapIs.al (HeapIs.al (HeapIs.al s3 (o' := o1)) (o' := o2)) (o' := o3)) (j := 2) (v := .slice none 0 0) rfl
  have s3a2_4 : ∀ o1 o2 o3 o4, ((((w3.alloc o1).alloc o2).alloc o3).alloc o4).cell? ⟨w1.heap.size, 2, none⟩ = some (.slice none 0 0) := fun o1 o2 o3 o4 => HeapIs.cell (HeapIs.al (HeapIs.al (HeapIs.al (HeapIs.al s3 (o' := o1)) (o' := o2)) (o' := o3)) (o' := o4)) (j := 2) (v := .slice none 0 0) rfl
  have s3r3 := s3.cell (j := 3) (v := .slice none 0 0) rfl
  have s3a3_1 : ∀ o1, (w3.alloc o1).cell? ⟨w1.heap.size, 3, none⟩ = some (.slice none 0 0) := fun o1 => HeapIs.cell (HeapIs.al s3 (o' := o1)) (j := 3) (v := .slice none 0 0) rfl
  have s3a3_2 : ∀ o1 o2, ((w3.alloc o1).alloc o2).cell? ⟨w1.heap.size, 3, none⟩ = some (.slice none 0 0) := fun o1 o2 => HeapIs.cell (HeapIs.al (HeapIs.al s3 (o' := o1)) (o' := o2)) (j := 3) (v := .slice none 0 0) rfl
  have s3a3_3 : ∀ o1 o2 o3, (((w3.alloc o1).alloc o2).alloc o3).cell? ⟨w1.heap.size, 3, none⟩ = some (.slice none 0 0) := fun o1 o2 o3 => HeapIs.cell (HeapIs.al (HeapIs.al (HeapIs.al s3 (o' := o1)) (o' := o2)) (o' := o3)) (j := 3) (v := .slice none 0 0) rfl
  have s3a3_4 : ∀ o1 o2 o3 o4, ((((w3.alloc o1).alloc o2).alloc o3).alloc o4).cell? ⟨w1.heap.size, 3, none⟩ = some (.slice none 0 0) := fun o1 o2 o3 o4 => HeapIs.cell (HeapIs.al (HeapIs.al (HeapIs.al (HeapIs.al s3 (o' := o1)) (o' := o2)) (o' := o3)) (o' := o4)) (j := 3) (v := .slice none 0 0) rfl
  have t3 : HeapIs w3 (w2.heap.size) (.cells #[.int .i64 0, .slice none 0 0, .slice none 0 0, .slice none 0 0] 105 (0, 0)) := (HeapIs.new w2 _).below hb
  have t3r0 := t3.cell (j := 0) (v := .int .i64 0) rfl
  have t3a0_1 : ∀ o1, (w3.alloc o1).cell? ⟨w2.heap.size, 0, none⟩ = some (.int .i64 0) := fun o1 => HeapIs.cell (HeapIs.al t3 (o' := o1)) (j := 0) (v := .int .i64 0) rfl
  have t3a0_2 : ∀ o1 o2, ((w3.alloc o1).alloc o2).cell? ⟨w2.heap.size, 0, none⟩ = some (.int .i64 0) := fun o1 o2 => HeapIs.cell (HeapIs.al (HeapIs.al t3 (o' := o1)) (o' := o2)) (j := 0) (v := .int .i64 0) rfl
  have t3a0_3 : ∀ o1 o2 o3, (((w3.alloc o1).alloc o2).alloc o3).cell? ⟨w2.heap.size, 0, none⟩ = some (.int .i64 0) := fun o1 o2 o3 => HeapIs.cell (HeapIs.al (HeapIs.al (HeapIs.al t3 (o' := o1)) (o' := o2)) (o' := o3)) (j := 0) (v := .int .i64 0) rfl
  have t3a0_4 : ∀ o1 o2 o3 o4, ((((w3.alloc o1).alloc o2).alloc o3).alloc o4).cell? ⟨w2.heap.size, 0, none⟩ = some (.int .i64 0) := fun o1 o2 o3 o4 => HeapIs.cell (HeapIs.al (HeapIs.al (HeapIs.al (HeapIs.al t3 (o' := o1)) (o' := o2)) (o' := o3)) (o' := o4)) (j := 0) (v := .int .i64 0) rfl
  have t3r1 := t3.cell (j := 1) (v := .slice none 0 0) rfl
  have t3a1_1 : ∀ o1, (w3.alloc o1).cell? ⟨w2.heap.size, 1, none⟩ = some (.slice none 0 0) := fun o1 => HeapIs.cell (HeapIs.al t3 (o' := o1)) (j := 1) (v := .slice none 0 0) rfl
  have t3a1_2 : ∀ o1 o2, ((w3.alloc o1).alloc o2).cell? ⟨w2.heap.size, 1, none⟩ = some (.slice none 0 0) := fun o1 o2 => HeapIs.cell (HeapIs.al (HeapIs.al t3 (o' := o1)) (o' := o2)) (j := 1) (v := .slice none 0 0) rfl
  have t3a1_3 : ∀ o1 o2 o3, (((w3.alloc o1).alloc o2).alloc o3).cell? ⟨w2.heap.size, 1, none⟩ = some (.slice none 0 0) := fun o1 o2 o3 => HeapIs.cell (HeapIs.al (HeapIs.al (HeapIs.al t3 (o' := o1)) (o' := o2)) (o' := o3)) (j := 1) (v := .slice none 0 0) rfl
  have t3a1_4 : ∀ o1 o2 o3 o4, ((((w3.alloc o1).alloc o2).alloc o3).alloc o4).cell? ⟨w2.heap.size, 1, none⟩ = some (.slice none 0 0) := fun o1 o2 o3 o4 => HeapIs.cell (HeapIs.al (HeapIs.al (HeapIs.al (HeapIs.al t3 (o' := o1)) (o' := o2)) (o' := o3)) (o' := o4)) (j := 1) (v := .slice none 0 0) rfl
  have t3r2 := t3.cell (j := 2) (v := .slice none 0 0) rfl
  have t3a2_1 : ∀ o1, (w3.alloc o1).cell? ⟨w2.heap.size, 2, none⟩ = some (.slice none 0 0) := fun o1 => HeapIs.cell (HeapIs.al t3 (o' := o1)) (j := 2) (v := .slice none 0 0) rfl
  have t3a2_2 : ∀ o1 o2, ((w3.alloc o1).alloc o2).cell? ⟨w2.heap.size, 2, none⟩ = some (.slice none 0 0) := fun o1 o2 => HeapIs.cell (HeapIs.al (HeapIs.al t3 (o' := o1)) (o' := o2)) (j := 2) (v := .slice none 0 0) rfl
  have t3a2_3 : ∀ o1 o2 o3, (((w3.alloc o1).alloc o2).alloc o3).cell? ⟨w2.heap.size, 2, none⟩ = some (.slice none 0 0) := fun o1 o2 o3 => HeapIs.cell (HeapIs.al (HeapIs.al (HeapIs.al t3 (o' := o1)) (o' := o2)) (o' := o3)) (j := 2) (v := .slice none 0 0) rfl
  have t3a2_4 : ∀ o1 o2 o3 o4, ((((w3.alloc o1).alloc o2).alloc o3).alloc o4).cell? ⟨w2.heap.size, 2, none⟩ = some (.slice none 0 0) := fun o1 o2 o3 o4 => HeapIs.cell (HeapIs.al (HeapIs.al (HeapIs.al (HeapIs.al t3 (o' := o1)) (o' := o2)) (o' := o3)) (o' := o4)) (j := 2) (v := .slice none 0 0) rfl
  have t3r3 := t3.cell (j := 3) (v := .slice none 0 0) rfl
  have t3a3_1 : ∀ o1, (w3.alloc o1).cell? ⟨w2.heap.size, 3, none⟩ = some (.slice none 0 0) := fun o1 => HeapIs.cell (HeapIs.al t3 (o' := o1)) (j := 3) (v := .slice none 0 0) rfl
  have t3a3_2 : ∀ o1 o2, ((w3.alloc o1).alloc o2).cell? ⟨w2.heap.size, 3, none⟩ = some (.slice none 0 0) := fun o1 o2 => HeapIs.cell (HeapIs.al (HeapIs.al t3 (o' := o1)) (o' := o2)) (j := 3) (v := .slice none 0 0) rfl
  have t3a3_3 : ∀ o1 o2 o3, (((w3.alloc o1).alloc o2).alloc o3).cell? ⟨w2.heap.size, 3, none⟩ = some (.slice none 0 0) := fun o1 o2 o3 => HeapIs.cell (HeapIs.al (HeapIs.al (HeapIs.al t3 (o' := o1)) (o' := o2)) (o' := o3)) (j := 3) (v := .slice none 0 0) rfl
  have t3a3_4 : ∀ o1 o2 o3 o4, ((((w3.alloc o1).alloc o2).alloc o3).alloc o4).cell? ⟨w2.heap.size, 3, none⟩ = some (.slice none 0 0) := fun o1 o2 o3 o4 => HeapIs.cell (HeapIs.al (HeapIs.al (HeapIs.al (HeapIs.al t3 (o' := o1)) (o' := o2)) (o' := o3)) (o' := o4)) (j := 3) (v := .slice none 0 0) rfl
  have HN3 := Lib.hid (HN2.out.al (.cells #[.int .i64 0, .slice none 0 0, .slice none 0 0, .slice none 0 0] 105) |>.later hb)
  have HB3 := HB
  clear hb
  go_wp2_with fail
  refine wp_loop_rounds 1 ?_
  rw [rounds_succ]
  have k_n : HeapIs ((((w3.alloc (.cells #[.slice none 0 0] 108)).alloc (.cells #[.int .i64 1] 3)).alloc (.cells #[.int .i64 0] 3)).alloc (.cells #[.int .i64 9, .func (.func 52) #[] #[.pointer (some ⟨w1.heap.size, 0, none⟩), .pointer (some ⟨w.heap.size + 1, 0, none⟩)], .int .i64 14, .func (.func 53) #[] #[.pointer (some ⟨w3.heap.size, 0, none⟩), .pointer (some ⟨w2.heap.size, 0, none⟩)], .int .i64 13, .func (.func 57) #[] #[.pointer (some ⟨w3.heap.size + 2, 0, none⟩), .pointer (some ⟨w2.heap.size, 0, none⟩)], .int .i64 7, .func (.func 58) #[] #[.pointer (some ⟨w3.heap.size, 0, none⟩), .pointer (some ⟨w2.heap.size, 0, none⟩), .pointer (some ⟨w.heap.size, 0, none⟩)], .int .i64 15, .func (.func 60) #[] #[.pointer (some ⟨w2.heap.size, 0, none⟩), .pointer (some ⟨w3.heap.size + 1, 0, none⟩), .pointer (some ⟨w.heap.size, 0, none⟩)], .int .i64 11, .func (.func 63) #[] #[.pointer (some ⟨w.heap.size + 1, 0, none⟩), .pointer (some ⟨w.heap.size, 0, none⟩)], .int .i64 5, .func (.func 65) #[] #[.pointer (some ⟨w.heap.size + 1, 0, none⟩), .pointer (some ⟨w.heap.size, 0, none⟩)]] 60)) _ _ := n3.al.al.al.al
  have k_c : HeapIs ((((w3.alloc (.cells #[.slice none 0 0] 108)).alloc (.cells #[.int .i64 1] 3)).alloc (.cells #[.int .i64 0] 3)).alloc (.cells #[.int .i64 9, .func (.func 52) #[] #[.pointer (some ⟨w1.heap.size, 0, none⟩), .pointer (some ⟨w.heap.size + 1, 0, none⟩)], .int .i64 14, .func (.func 53) #[] #[.pointer (some ⟨w3.heap.size, 0, none⟩), .pointer (some ⟨w2.heap.size, 0, none⟩)], .int .i64 13, .func (.func 57) #[] #[.pointer (some ⟨w3.heap.size + 2, 0, none⟩), .pointer (some ⟨w2.heap.size, 0, none⟩)], .int .i64 7, .func (.func 58) #[] #[.pointer (some ⟨w3.heap.size, 0, none⟩), .pointer (some ⟨w2.heap.size, 0, none⟩), .pointer (some ⟨w.heap.size, 0, none⟩)], .int .i64 15, .func (.func 60) #[] #[.pointer (some ⟨w2.heap.size, 0, none⟩), .pointer (some ⟨w3.heap.size + 1, 0, none⟩), .pointer (some ⟨w.heap.size, 0, none⟩)], .int .i64 11, .func (.func 63) #[] #[.pointer (some ⟨w.heap.size + 1, 0, none⟩), .pointer (some ⟨w.heap.size, 0, none⟩)], .int .i64 5, .func (.func 65) #[] #[.pointer (some ⟨w.heap.size + 1, 0, none⟩), .pointer (some ⟨w.heap.size, 0, none⟩)]] 60)) _ _ := c3.al.al.al.al
  have k_s1 : HeapIs ((((w3.alloc (.cells #[.slice none 0 0] 108)).alloc (.cells #[.int .i64 1] 3)).alloc (.cells #[.int .i64 0] 3)).alloc (.cells #[.int .i64 9, .func (.func 52) #[] #[.pointer (some ⟨w1.heap.size, 0, none⟩), .pointer (some ⟨w.heap.size + 1, 0, none⟩)], .int .i64 14, .func (.func 53) #[] #[.pointer (some ⟨w3.heap.size, 0, none⟩), .pointer (some ⟨w2.heap.size, 0, none⟩)], .int .i64 13, .func (.func 57) #[] #[.pointer (some ⟨w3.heap.size + 2, 0, none⟩), .pointer (some ⟨w2.heap.size, 0, none⟩)], .int .i64 7, .func (.func 58) #[] #[.pointer (some ⟨w3.heap.size, 0, none⟩), .pointer (some ⟨w2.heap.size, 0, none⟩), .pointer (some ⟨w.heap.size, 0, none⟩)], .int .i64 15, .func (.func 60) #[] #[.pointer (some ⟨w2.heap.size, 0, none⟩), .pointer (some ⟨w3.heap.size + 1, 0, none⟩), .pointer (some ⟨w.heap.size, 0, none⟩)], .int .i64 11, .func (.func 63) #[] #[.pointer (some ⟨w.heap.size + 1, 0, none⟩), .pointer (some ⟨w.heap.size, 0, none⟩)], .int .i64 5, .func (.func 65) #[] #[.pointer (some ⟨w.heap.size + 1, 0, none⟩), .pointer (some ⟨w.heap.size, 0, none⟩)]] 60)) _ _ := s3.al.al.al.al
  have k_s2 : HeapIs ((((w3.alloc (.cells #[.slice none 0 0] 108)).alloc (.cells #[.int .i64 1] 3)).alloc (.cells #[.int .i64 0] 3)).alloc (.cells #[.int .i64 9, .func (.func 52) #[] #[.pointer (some ⟨w1.heap.size, 0, none⟩), .pointer (some ⟨w.heap.size + 1, 0, none⟩)], .int .i64 14, .func (.func 53) #[] #[.pointer (some ⟨w3.heap.size, 0, none⟩), .pointer (some ⟨w2.heap.size, 0, none⟩)], .int .i64 13, .func (.func 57) #[] #[.pointer (some ⟨w3.heap.size + 2, 0, none⟩), .pointer (some ⟨w2.heap.size, 0, none⟩)], .int .i64 7, .func (.func 58) #[] #[.pointer (some ⟨w3.heap.size, 0, none⟩), .pointer (some ⟨w2.heap.size, 0, none⟩), .pointer (some ⟨w.heap.size, 0, none⟩)], .int .i64 15, .func (.func 60) #[] #[.pointer (some ⟨w2.heap.size, 0, none⟩), .pointer (some ⟨w3.heap.size + 1, 0, none⟩), .pointer (some ⟨w.heap.size, 0, none⟩)], .int .i64 11, .func (.func 63) #[] #[.pointer (some ⟨w.heap.size + 1, 0, none⟩), .pointer (some ⟨w.heap.size, 0, none⟩)], .int .i64 5, .func (.func 65) #[] #[.pointer (some ⟨w.heap.size + 1, 0, none⟩), .pointer (some ⟨w.heap.size, 0, none⟩)]] 60)) _ _ := t3.al.al.al.al
  have k_l : HeapIs ((((w3.alloc (.cells #[.slice none 0 0] 108)).alloc (.cells #[.int .i64 1] 3)).alloc (.cells #[.int .i64 0] 3)).alloc (.cells #[.int .i64 9, .func (.func 52) #[] #[.pointer (some ⟨w1.heap.size, 0, none⟩), .pointer (some ⟨w.heap.size + 1, 0, none⟩)], .int .i64 14, .func (.func 53) #[] #[.pointer (some ⟨w3.heap.size, 0, none⟩), .pointer (some ⟨w2.heap.size, 0, none⟩)], .int .i64 13, .func (.func 57) #[] #[.pointer (some ⟨w3.heap.size + 2, 0, none⟩), .pointer (some ⟨w2.heap.size, 0, none⟩)], .int .i64 7, .func (.func 58) #[] #[.pointer (some ⟨w3.heap.size, 0, none⟩), .pointer (some ⟨w2.heap.size, 0, none⟩), .pointer (some ⟨w.heap.size, 0, none⟩)], .int .i64 15, .func (.func 60) #[] #[.pointer (some ⟨w2.heap.size, 0, none⟩), .pointer (some ⟨w3.heap.size + 1, 0, none⟩), .pointer (some ⟨w.heap.size, 0, none⟩)], .int .i64 11, .func (.func 63) #[] #[.pointer (some ⟨w.heap.size + 1, 0, none⟩), .pointer (some ⟨w.heap.size, 0, none⟩)], .int .i64 5, .func (.func 65) #[] #[.pointer (some ⟨w.heap.size + 1, 0, none⟩), .pointer (some ⟨w.heap.size, 0, none⟩)]] 60)) w3.heap.size _ := (HeapIs.new w3 _).al.al.al
  have k_y : HeapIs ((((w3.alloc (.cells #[.slice none 0 0] 108)).alloc (.cells #[.int .i64 1] 3)).alloc (.cells #[.int .i64 0] 3)).alloc (.cells #[.int .i64 9, .func (.func 52) #[] #[.pointer (some ⟨w1.heap.size, 0, none⟩), .pointer (some ⟨w.heap.size + 1, 0, none⟩)], .int .i64 14, .func (.func 53) #[] #[.pointer (some ⟨w3.heap.size, 0, none⟩), .pointer (some ⟨w2.heap.size, 0, none⟩)], .int .i64 13, .func (.func 57) #[] #[.pointer (some ⟨w3.heap.size + 2, 0, none⟩), .pointer (some ⟨w2.heap.size, 0, none⟩)], .int .i64 7, .func (.func 58) #[] #[.pointer (some ⟨w3.heap.size, 0, none⟩), .pointer (some ⟨w2.heap.size, 0, none⟩), .pointer (some ⟨w.heap.size, 0, none⟩)], .int .i64 15, .func (.func 60) #[] #[.pointer (some ⟨w2.heap.size, 0, none⟩), .pointer (some ⟨w3.heap.size + 1, 0, none⟩), .pointer (some ⟨w.heap.size, 0, none⟩)], .int .i64 11, .func (.func 63) #[] #[.pointer (some ⟨w.heap.size + 1, 0, none⟩), .pointer (some ⟨w.heap.size, 0, none⟩)], .int .i64 5, .func (.func 65) #[] #[.pointer (some ⟨w.heap.size + 1, 0, none⟩), .pointer (some ⟨w.heap.size, 0, none⟩)]] 60)) (w3.heap.size + 1) _ := (HeapIs.new1 w3 _ _).al.al
  have k_x : HeapIs ((((w3.alloc (.cells #[.slice none 0 0] 108)).alloc (.cells #[.int .i64 1] 3)).alloc (.cells #[.int .i64 0] 3)).alloc (.cells #[.int .i64 9, .func (.func 52) #[] #[.pointer (some ⟨w1.heap.size, 0, none⟩), .pointer (some ⟨w.heap.size + 1, 0, none⟩)], .int .i64 14, .func (.func 53) #[] #[.pointer (some ⟨w3.heap.size, 0, none⟩), .pointer (some ⟨w2.heap.size, 0, none⟩)], .int .i64 13, .func (.func 57) #[] #[.pointer (some ⟨w3.heap.size + 2, 0, none⟩), .pointer (some ⟨w2.heap.size, 0, none⟩)], .int .i64 7, .func (.func 58) #[] #[.pointer (some ⟨w3.heap.size, 0, none⟩), .pointer (some ⟨w2.heap.size, 0, none⟩), .pointer (some ⟨w.heap.size, 0, none⟩)], .int .i64 15, .func (.func 60) #[] #[.pointer (some ⟨w2.heap.size, 0, none⟩), .pointer (some ⟨w3.heap.size + 1, 0, none⟩), .pointer (some ⟨w.heap.size, 0, none⟩)], .int .i64 11, .func (.func 63) #[] #[.pointer (some ⟨w.heap.size + 1, 0, none⟩), .pointer (some ⟨w.heap.size, 0, none⟩)], .int .i64 5, .func (.func 65) #[] #[.pointer (some ⟨w.heap.size + 1, 0, none⟩), .pointer (some ⟨w.heap.size, 0, none⟩)]] 60)) (w3.heap.size + 2) _ := (HeapIs.new2 w3 _ _ _).al
  have k_r : HeapIs ((((w3.alloc (.cells #[.slice none 0 0] 108)).alloc (.cells #[.int .i64 1] 3)).alloc (.cells #[.int .i64 0] 3)).alloc (.cells #[.int .i64 9, .func (.func 52) #[] #[.pointer (some ⟨w1.heap.size, 0, none⟩), .pointer (some ⟨w.heap.size + 1, 0, none⟩)], .int .i64 14, .func (.func 53) #[] #[.pointer (some ⟨w3.heap.size, 0, none⟩), .pointer (some ⟨w2.heap.size, 0, none⟩)], .int .i64 13, .func (.func 57) #[] #[.pointer (some ⟨w3.heap.size + 2, 0, none⟩), .pointer (some ⟨w2.heap.size, 0, none⟩)], .int .i64 7, .func (.func 58) #[] #[.pointer (some ⟨w3.heap.size, 0, none⟩), .pointer (some ⟨w2.heap.size, 0, none⟩), .pointer (some ⟨w.heap.size, 0, none⟩)], .int .i64 15, .func (.func 60) #[] #[.pointer (some ⟨w2.heap.size, 0, none⟩), .pointer (some ⟨w3.heap.size + 1, 0, none⟩), .pointer (some ⟨w.heap.size, 0, none⟩)], .int .i64 11, .func (.func 63) #[] #[.pointer (some ⟨w.heap.size + 1, 0, none⟩), .pointer (some ⟨w.heap.size, 0, none⟩)], .int .i64 5, .func (.func 65) #[] #[.pointer (some ⟨w.heap.size + 1, 0, none⟩), .pointer (some ⟨w.heap.size, 0, none⟩)]] 60)) (w3.heap.size + 3) _ := HeapIs.new3 w3 _ _ _ _
  have HNt := Lib.hid (show NodeE ((((w3.alloc (.cells #[.slice none 0 0] 108)).alloc (.cells #[.int .i64 1] 3)).alloc (.cells #[.int .i64 0] 3)).alloc (.cells #[.int .i64 9, .func (.func 52) #[] #[.pointer (some ⟨w1.heap.size, 0, none⟩), .pointer (some ⟨w.heap.size + 1, 0, none⟩)], .int .i64 14, .func (.func 53) #[] #[.pointer (some ⟨w3.heap.size, 0, none⟩), .pointer (some ⟨w2.heap.size, 0, none⟩)], .int .i64 13, .func (.func 57) #[] #[.pointer (some ⟨w3.heap.size + 2, 0, none⟩), .pointer (some ⟨w2.heap.size, 0, none⟩)], .int .i64 7, .func (.func 58) #[] #[.pointer (some ⟨w3.heap.size, 0, none⟩), .pointer (some ⟨w2.heap.size, 0, none⟩), .pointer (some ⟨w.heap.size, 0, none⟩)], .int .i64 15, .func (.func 60) #[] #[.pointer (some ⟨w2.heap.size, 0, none⟩), .pointer (some ⟨w3.heap.size + 1, 0, none⟩), .pointer (some ⟨w.heap.size, 0, none⟩)], .int .i64 11, .func (.func 63) #[] #[.pointer (some ⟨w.heap.size + 1, 0, none⟩), .pointer (some ⟨w.heap.size, 0, none⟩)], .int .i64 5, .func (.func 65) #[] #[.pointer (some ⟨w.heap.size + 1, 0, none⟩), .pointer (some ⟨w.heap.size, 0, none⟩)]] 60)) pn pt pd pi po ps bm from (((HN3.out.al _).al _).al _).al _)
  have HEt := Lib.hid (HE.out.later (show Below w.heap.size w ((((w3.alloc (.cells #[.slice none 0 0] 108)).alloc (.cells #[.int .i64 1] 3)).alloc (.cells #[.int .i64 0] 3)).alloc (.cells #[.int .i64 9, .func (.func 52) #[] #[.pointer (some ⟨w1.heap.size, 0, none⟩), .pointer (some ⟨w.heap.size + 1, 0, none⟩)], .int .i64 14, .func (.func 53) #[] #[.pointer (some ⟨w3.heap.size, 0, none⟩), .pointer (some ⟨w2.heap.size, 0, none⟩)], .int .i64 13, .func (.func 57) #[] #[.pointer (some ⟨w3.heap.size + 2, 0, none⟩), .pointer (some ⟨w2.heap.size, 0, none⟩)], .int .i64 7, .func (.func 58) #[] #[.pointer (some ⟨w3.heap.size, 0, none⟩), .pointer (some ⟨w2.heap.size, 0, none⟩), .pointer (some ⟨w.heap.size, 0, none⟩)], .int .i64 15, .func (.func 60) #[] #[.pointer (some ⟨w2.heap.size, 0, none⟩), .pointer (some ⟨w3.heap.size + 1, 0, none⟩), .pointer (some ⟨w.heap.size, 0, none⟩)], .int .i64 11, .func (.func 63) #[] #[.pointer (some ⟨w.heap.size + 1, 0, none⟩), .pointer (some ⟨w.heap.size, 0, none⟩)], .int .i64 5, .func (.func 65) #[] #[.pointer (some ⟨w.heap.size + 1, 0, none⟩), .pointer (some ⟨w.heap.size, 0, none⟩)]] 60)) from nbl_al (nbl_al (nbl_al (nbl_al HB.out)))))
  have HK := Lib.hid (take_state_0 (w3.heap.size + 3) (w.heap.size + 1) (w.heap.size) (w1.heap.size) (w2.heap.size) (w3.heap.size) (w3.heap.size + 2) (w3.heap.size + 1) ((((w3.alloc (.cells #[.slice none 0 0] 108)).alloc (.cells #[.int .i64 1] 3)).alloc (.cells #[.int .i64 0] 3)).alloc (.cells #[.int .i64 9, .func (.func 52) #[] #[.pointer (some ⟨w1.heap.size, 0, none⟩), .pointer (some ⟨w.heap.size + 1, 0, none⟩)], .int .i64 14, .func (.func 53) #[] #[.pointer (some ⟨w3.heap.size, 0, none⟩), .pointer (some ⟨w2.heap.size, 0, none⟩)], .int .i64 13, .func (.func 57) #[] #[.pointer (some ⟨w3.heap.size + 2, 0, none⟩), .pointer (some ⟨w2.heap.size, 0, none⟩)], .int .i64 7, .func (.func 58) #[] #[.pointer (some ⟨w3.heap.size, 0, none⟩), .pointer (some ⟨w2.heap.size, 0, none⟩), .pointer (some ⟨w.heap.size, 0, none⟩)], .int .i64 15, .func (.func 60) #[] #[.pointer (some ⟨w2.heap.size, 0, none⟩), .pointer (some ⟨w3.heap.size + 1, 0, none⟩), .pointer (some ⟨w.heap.size, 0, none⟩)], .int .i64 11, .func (.func 63) #[] #[.pointer (some ⟨w.heap.size + 1, 0, none⟩), .pointer (some ⟨w.heap.size, 0, none⟩)], .int .i64 5, .func (.func 65) #[] #[.pointer (some ⟨w.heap.size + 1, 0, none⟩), .pointer (some ⟨w.heap.size, 0, none⟩)]] 60)) k_r (fun W hb => state1_set1 _ _ W (k_s1.below hb) (k_c.below hb)))
  clear k_n k_c k_s1 k_s2 k_l k_y k_x k_r
  go_wp2_with fail
  refine (HK.out).mono ?_
  rintro e w4 ⟨rfl, hb⟩
  replace HB := Lib.hid (show Below w.heap.size w w4 by have h := hb; repeat (first | exact nbl_step HB.out h | replace h := nbl_new h | replace h := nbl_dr h))
  clear hb
  go_wp2
  go_ret
  exact ⟨rfl, by repeat (first | exact HB.out | apply nbl_al | apply nbl_drw | apply nbl_drewN | refine Below.setCell ?_ (Nat.le_refl _) _ | refine nbl_set ?_ (by first | exact Nat.le_refl _ | (simp; omega) | (simp; done) | omega) )⟩

set_option maxRecDepth 100000 in
set_option maxHeartbeats 1000000 in
theorem state_merge (pn pt pd pi po ps bm : Nat) (w : World) (hN : NodeE w pn pt pd pi po ps bm) (hE : Env w) :
    Calls Tryz.prog 38 #[.pointer (some ⟨pn, 0, none⟩), .agg #[.int .i64 9, .string ⟨#[]⟩, .string ⟨#[]⟩, .string ⟨#[]⟩, .int .i64 0, .slice none 0 0]] w fun e w' => e = .returned (.int .i64 0) ∧ Below w.heap.size w w' := by
  have HE := Lib.hid hE
  have HN := Lib.hid hN
  clear hE hN
  have hmf : ∀ (fn : Fn) (first cap : Array Value) (w : World), (Instr.makeFunc fn first cap).run Tryz.prog w = .ok (.func fn first cap) w := fun _ _ _ _ => rfl
  have HB := Lib.hid (Below.refl w.heap.size w)
  go_enter Tryz.func38, Tryz.ntmps38
  go_wp2_with fail
  refine (node_get_false ⟨#[]⟩ (by decide) (by decide) pn pt pd pi po ps bm _ ((HN.out.al _).al _) (HE.out.later (nbl_al (nbl_al HB.out)))).mono ?_
  rintro e w1 ⟨rfl, hb⟩
  replace HB := Lib.hid (show Below w.heap.size w w1 by have h := hb; repeat (first | exact nbl_step HB.out h | replace h := nbl_new h | replace h := nbl_dr h))
  have n1 : HeapIs w1 (w.heap.size) (.cells #[.pointer (some ⟨pn, 0, none⟩)] 32 (0, 0)) := (HeapIs.new w _).al.below hb
  have n1r0 := n1.cell (j := 0) (v := .pointer (some ⟨pn, 0, none⟩)) rfl
  have n1a0_1 : ∀ o1, (w1.alloc o1).cell? ⟨w.heap.size, 0, none⟩ = some (.pointer (some ⟨pn, 0, none⟩)) := fun o1 => HeapIs.cell (HeapIs.al n1 (o' := o1)) (j := 0) (v := .pointer (some ⟨pn, 0, none⟩)) rfl
  have c1 : HeapIs w1 (w.heap.size + 1) (.cells #[.int .i64 9, .string ⟨#[]⟩, .string ⟨#[]⟩, .string ⟨#[]⟩, .int .i64 0, .slice none 0 0] 29 (0, 0)) := (HeapIs.new1 w _ _).below hb
  have c1r0 := c1.cell (j := 0) (v := .int .i64 9) rfl
  have c1a0_1 : ∀ o1, (w1.alloc o1).cell? ⟨w.heap.size + 1, 0, none⟩ = some (.int .i64 9) := fun o1 => HeapIs.cell (HeapIs.al c1 (o' := o1)) (j := 0) (v := .int .i64 9) rfl
  have c1r1 := c1.cell (j := 1) (v := .string ⟨#[]⟩) rfl
  have c1a1_1 : ∀ o1, (w1.alloc o1).cell? ⟨w.heap.size + 1, 1, none⟩ = some (.string ⟨#[]⟩) := fun o1 => HeapIs.cell (HeapIs.al c1 (o' := o1)) (j := 1) (v := .string ⟨#[]⟩) rfl
  have c1r2 := c1.cell (j := 2) (v := .string ⟨#[]⟩) rfl
  have c1a2_1 : ∀ o1, (w1.alloc o1).cell? ⟨w.heap.size + 1, 2, none⟩ = some (.string ⟨#[]⟩) := fun o1 => HeapIs.cell (HeapIs.al c1 (o' := o1)) (j := 2) (v := .string ⟨#[]⟩) rfl
  have c1r3 := c1.cell (j := 3) (v := .string ⟨#[]⟩) rfl
  have c1a3_1 : ∀ o1, (w1.alloc o1).cell? ⟨w.heap.size + 1, 3, none⟩ = some (.string ⟨#[]⟩) := fun o1 => HeapIs.cell (HeapIs.al c1 (o' := o1)) (j := 3) (v := .string ⟨#[]⟩) rfl
  have c1r4 := c1.cell (j := 4) (v := .int .i64 0) rfl
  have c1a4_1 : ∀ o1, (w1.alloc o1).cell? ⟨w.heap.size + 1, 4, none⟩ = some (.int .i64 0) := fun o1 => HeapIs.cell (HeapIs.al c1 (o' := o1)) (j := 4) (v := .int .i64 0) rfl
  have c1r5 := c1.cell (j := 5) (v := .slice none 0 0) rfl
  have c1a5_1 : ∀ o1, (w1.alloc o1).cell? ⟨w.heap.size + 1, 5, none⟩ = some (.slice none 0 0) := fun o1 => HeapIs.cell (HeapIs.al c1 (o' := o1)) (j := 5) (v := .slice none 0 0) rfl
  have HN1 := Lib.hid (HN.out.later HB.out)
  clear hb
  go_wp2_with fail
  refine (node_get_false ⟨#[]⟩ (by decide) (by decide) pn pt pd pi po ps bm _ (HN1.out.al _) (HE.out.later (nbl_al HB.out))).mono ?_
  rintro e w2 ⟨rfl, hb⟩
  replace HB := Lib.hid (show Below w.heap.size w w2 by have h := hb; repeat (first | exact nbl_step HB.out h | replace h := nbl_new h | replace h := nbl_dr h))
  have n2 : HeapIs w2 (w.heap.size) (.cells #[.pointer (some ⟨pn, 0, none⟩)] 32 (0, 0)) := n1.al.below hb
  have n2r0 := n2.cell (j := 0) (v := .pointer (some ⟨pn, 0, none⟩)) rfl
  have n2a0_1 : ∀ o1, (w2.alloc o1).cell? ⟨w.heap.size, 0, none⟩ = some (.pointer (some ⟨pn, 0, none⟩)) := fun o1 => HeapIs.cell (HeapIs.al n2 (o' := o1)) (j := 0) (v := .pointer (some ⟨pn, 0, none⟩)) rfl
  have c2 : HeapIs w2 (w.heap.size + 1) (.cells #[.int .i64 9, .string ⟨#[]⟩, .string ⟨#[]⟩, .string ⟨#[]⟩, .int .i64 0, .slice none 0 0] 29 (0, 0)) := c1.al.below hb
  have c2r0 := c2.cell (j := 0) (v := .int .i64 9) rfl
  have c2a0_1 : ∀ o1, (w2.alloc o1).cell? ⟨w.heap.size + 1, 0, none⟩ = some (.int .i64 9) := fun o1 => HeapIs.cell (HeapIs.al c2 (o' := o1)) (j := 0) (v := .int .i64 9) rfl
  have c2r1 := c2.cell (j := 1) (v := .string ⟨#[]⟩) rfl
  have c2a1_1 : ∀ o1, (w2.alloc o1).cell? ⟨w.heap.size + 1, 1, none⟩ = some (.string ⟨#[]⟩) := fun o1 => HeapIs.cell (HeapIs.al c2 (o' := o1)) (j := 1) (v := .string ⟨#[]⟩) rfl
  have c2r2 := c2.cell (j := 2) (v := .string ⟨#[]⟩) rfl
  have c2a2_1 : ∀ o1, (w2.alloc o1).cell? ⟨w.heap.size + 1, 2, none⟩ = some (.string ⟨#[]⟩) := fun o1 => HeapIs.cell (HeapIs.al c2 (o' := o1)) (j := 2) (v := .string ⟨#[]⟩) rfl
  have c2r3 := c2.cell (j := 3) (v := .string ⟨#[]⟩) rfl
  have c2a3_1 : ∀ o1, (w2.alloc o1).cell? ⟨w.heap.size + 1, 3, none⟩ = some (.string ⟨#[]⟩) := fun o1 => HeapIs.cell (HeapIs.al c2 (o' := o1)) (j := 3) (v := .string ⟨#[]⟩) rfl
  have c2r4 := c2.cell (j := 4) (v := .int .i64 0) rfl
  have c2a4_1 : ∀ o1, (w2.alloc o1).cell? ⟨w.heap.size + 1, 4, none⟩ = some (.int .i64 0) := fun o1 => HeapIs.cell (HeapIs.al c2 (o' := o1)) (j := 4) (v := .int .i64 0) rfl
  have c2r5 := c2.cell (j := 5) (v := .slice none 0 0) rfl
  have c2a5_1 : ∀ o1, (w2.alloc o1).cell? ⟨w.heap.size + 1, 5, none⟩ = some (.slice none 0 0) := fun o1 => HeapIs.cell (HeapIs.al c2 (o' := o1)) (j := 5) (v := .slice none 0 0) rfl
  have s2 : HeapIs w2 (w1.heap.size) (.cells #[.int .i64 0, .slice none 0 0, .slice none 0 0, .slice none 0 0] 105 (0, 0)) := (HeapIs.new w1 _).below hb
  have s2r0 := s2.cell (j := 0) (v := .int .i64 0) rfl
  have s2a0_1 : ∀ o1, (w2.alloc o1).cell? ⟨w1.heap.size, 0, none⟩ = some (.int .i64 0) := fun o1 => HeapIs.cell (HeapIs.al s2 (o' := o1)) (j := 0) (v := .int .i64 0) rfl
  have s2r1 := s2.cell (j := 1) (v := .slice none 0 0) rfl
  have s2a1_1 : ∀ o1, (w2.alloc o1).cell? ⟨w1.heap.size, 1, none⟩ = some (.slice none 0 0) := fun o1 => HeapIs.cell (HeapIs.al s2 (o' := o1)) (j := 1) (v := .slice none 0 0) rfl
  have s2r2 := s2.cell (j := 2) (v := .slice none 0 0) rfl
  have s2a2_1 : ∀ o1, (w2.alloc o1).cell? ⟨w1.heap.size, 2, none⟩ = some (.slice none 0 0) := fun o1 => HeapIs.cell (HeapIs.al s2 (o' := o1)) (j := 2) (v := .slice none 0 0) rfl
  have s2r3 := s2.cell (j := 3) (v := .slice none 0 0) rfl
  have s2a3_1 : ∀ o1, (w2.alloc o1).cell? ⟨w1.heap.size, 3, none⟩ = some (.slice none 0 0) := fun o1 => HeapIs.cell (HeapIs.al s2 (o' := o1)) (j := 3) (v := .slice none 0 0) rfl
  have HN2 := Lib.hid (HN1.out.al (.cells #[.int .i64 0, .slice none 0 0, .slice none 0 0, .slice none 0 0] 105) |>.later hb)
  clear hb
  go_wp2_with fail
  refine (coming_merge _).mono ?_
  rintro e w3 ⟨rfl, hb⟩
  replace HB := Lib.hid (show Below w.heap.size w w3 by have h := hb; repeat (first | exact nbl_step HB.out h | replace h := nbl_new h | replace h := nbl_dr h))
  have n3 : HeapIs w3 (w.heap.size) (.cells #[.pointer (some ⟨pn, 0, none⟩)] 32 (0, 0)) := n2.al.below hb
  have n3r0 := n3.cell (j := 0) (v := .pointer (some ⟨pn, 0, none⟩)) rfl
  have n3a0_1 : ∀ o1, (w3.alloc o1).cell? ⟨w.heap.size, 0, none⟩ = some (.pointer (some ⟨pn, 0, none⟩)) := fun o1 => HeapIs.cell (HeapIs.al n3 (o' := o1)) (j := 0) (v := .pointer (some ⟨pn, 0, none⟩)) rfl
  have n3a0_2 : ∀ o1 o2, ((w3.alloc o1).alloc o2).cell? ⟨w.heap.size, 0, none⟩ = some (.pointer (some ⟨pn, 0, none⟩)) := fun o1 o2 => HeapIs.cell (HeapIs.al (HeapIs.al n3 (o' := o1)) (o' := o2)) (j := 0) (v := .pointer (some ⟨pn, 0, none⟩)) rfl
  have n3a0_3 : ∀ o1 o2 o3, (((w3.alloc o1).alloc o2).alloc o3).cell? ⟨w.heap.size, 0, none⟩ = some (.pointer (some ⟨pn, 0, none⟩)) := fun o1 o2 o3 => HeapIs.cell (HeapIs.al (HeapIs.al (HeapIs.al n3 (o' := o1)) (o' := o2)) (o' := o3)) (j := 0) (v := .pointer (some ⟨pn, 0, none⟩)) rfl
  have n3a0_4 : ∀ o1 o2 o3 o4, ((((w3.alloc o1).alloc o2).alloc o3).alloc o4).cell? ⟨w.heap.size, 0, none⟩ = some (.pointer (some ⟨pn, 0, none⟩)) := fun o1 o2 o3 o4 => HeapIs.cell (HeapIs.al (HeapIs.al (HeapIs.al (HeapIs.al n3 (o' := o1)) (o' := o2)) (o' := o3)) (o' := o4)) (j := 0) (v := .pointer (some ⟨pn, 0, none⟩)) rfl
  have c3 : HeapIs w3 (w.heap.size + 1) (.cells #[.int .i64 9, .string ⟨#[]⟩, .string ⟨#[]⟩, .string ⟨#[]⟩, .int .i64 0, .slice none 0 0] 29 (0, 0)) := c2.al.below hb
  have c3r0 := c3.cell (j := 0) (v := .int .i64 9) rfl
  have c3a0_1 : ∀ o1, (w3.alloc o1).cell? ⟨w.heap.size + 1, 0, none⟩ = some (.int .i64 9) := fun o1 => HeapIs.cell (HeapIs.al c3 (o' := o1)) (j := 0) (v := .int .i64 9) rfl
  have c3a0_2 : ∀ o1 o2, ((w3.alloc o1).alloc o2).cell? ⟨w.heap.size + 1, 0, none⟩ = some (.int .i64 9) := fun o1 o2 => HeapIs.cell (HeapIs.al (HeapIs.al c3 (o' := o1)) (o' := o2)) (j := 0) (v := .int .i64 9) rfl
  have c3a0_3 : ∀ o1 o2 o3, (((w3.alloc o1).alloc o2).alloc o3).cell? ⟨w.heap.size + 1, 0, none⟩ = some (.int .i64 9) := fun o1 o2 o3 => HeapIs.cell (HeapIs.al (HeapIs.al (HeapIs.al c3 (o' := o1)) (o' := o2)) (o' := o3)) (j := 0) (v := .int .i64 9) rfl
  have c3a0_4 : ∀ o1 o2 o3 o4, ((((w3.alloc o1).alloc o2).alloc o3).alloc o4).cell? ⟨w.heap.size + 1, 0, none⟩ = some (.int .i64 9) := fun o1 o2 o3 o4 => HeapIs.cell (HeapIs.al (HeapIs.al (HeapIs.al (HeapIs.al c3 (o' := o1)) (o' := o2)) (o' := o3)) (o' := o4)) (j := 0) (v := .int .i64 9) rfl
  have c3r1 := c3.cell (j := 1) (v := .string ⟨#[]⟩) rfl
  have c3a1_1 : ∀ o1, (w3.alloc o1).cell? ⟨w.heap.size + 1, 1, none⟩ = some (.string ⟨#[]⟩) := fun o1 => HeapIs.cell (HeapIs.al c3 (o' := o1)) (j := 1) (v := .string ⟨#[]⟩) rfl
  have c3a1_2 : ∀ o1 o2, ((w3.alloc o1).alloc o2).cell? ⟨w.heap.size + 1, 1, none⟩ = some (.string ⟨#[]⟩) := fun o1 o2 => HeapIs.cell (HeapIs.al (HeapIs.al c3 (o' := o1)) (o' := o2)) (j := 1) (v := .string ⟨#[]⟩) rfl
  have c3a1_3 : ∀ o1 o2 o3, (((w3.alloc o1).alloc o2).alloc o3).cell? ⟨w.heap.size + 1, 1, none⟩ = some (.string ⟨#[]⟩) := fun o1 o2 o3 => HeapIs.cell (HeapIs.al (HeapIs.al (HeapIs.al c3 (o' := o1)) (o' := o2)) (o' := o3)) (j := 1) (v := .string ⟨#[]⟩) rfl
  have c3a1_4 : ∀ o1 o2 o3 o4, ((((w3.alloc o1).alloc o2).alloc o3).alloc o4).cell? ⟨w.heap.size + 1, 1, none⟩ = some (.string ⟨#[]⟩) := fun o1 o2 o3 o4 => HeapIs.cell (HeapIs.al (HeapIs.al (HeapIs.al (HeapIs.al c3 (o' := o1)) (o' := o2)) (o' := o3)) (o' := o4)) (j := 1) (v := .string ⟨#[]⟩) rfl
  have c3r2 := c3.cell (j := 2) (v := .string ⟨#[]⟩) rfl
  have c3a2_1 : ∀ o1, (w3.alloc o1).cell? ⟨w.heap.size + 1, 2, none⟩ = some (.string ⟨#[]⟩) := fun o1 => HeapIs.cell (HeapIs.al c3 (o' := o1)) (j := 2) (v := .string ⟨#[]⟩) rfl
  have c3a2_2 : ∀ o1 o2, ((w3.alloc o1).alloc o2).cell? ⟨w.heap.size + 1, 2, none⟩ = some (.string ⟨#[]⟩) := fun o1 o2 => HeapIs.cell (HeapIs.al (HeapIs.al c3 (o' := o1)) (o' := o2)) (j := 2) (v := .string ⟨#[]⟩) rfl
  have c3a2_3 : ∀ o1 o2 o3, (((w3.alloc o1).alloc o2).alloc o3).cell? ⟨w.heap.size + 1, 2, none⟩ = some (.string ⟨#[]⟩) := fun o1 o2 o3 => HeapIs.cell (HeapIs.al (HeapIs.al (HeapIs.al c3 (o' := o1)) (o' := o2)) (o' := o3)) (j := 2) (v := .string ⟨#[]⟩) rfl
  have c3a2_4 : ∀ o1 o2 o3 o4, ((((w3.alloc o1).alloc o2).alloc o3).alloc o4).cell? ⟨w.heap.size + 1, 2, none⟩ = some (.string ⟨#[]⟩) := fun o1 o2 o3 o4 => HeapIs.cell (HeapIs.al (HeapIs.al (HeapIs.al (HeapIs.al c3 (o' := o1)) (o' := o2)) (o' := o3)) (o' := o4)) (j := 2) (v := .string ⟨#[]⟩) rfl
  have c3r3 := c3.cell (j := 3) (v := .string ⟨#[]⟩) rfl
  have c3a3_1 : ∀ o1, (w3.alloc o1).cell? ⟨w.heap.size + 1, 3, none⟩ = some (.string ⟨#[]⟩) := fun o1 => HeapIs.cell (HeapIs.al c3 (o' := o1)) (j := 3) (v := .string ⟨#[]⟩) rfl
  have c3a3_2 : ∀ o1 o2, ((w3.alloc o1).alloc o2).cell? ⟨w.heap.size + 1, 3, none⟩ = some (.string ⟨#[]⟩) := fun o1 o2 => HeapIs.cell (HeapIs.al (HeapIs.al c3 (o' := o1)) (o' := o2)) (j := 3) (v := .string ⟨#[]⟩) rfl
  have c3a3_3 : ∀ o1 o2 o3, (((w3.alloc o1).alloc o2).alloc o3).cell? ⟨w.heap.size + 1, 3, none⟩ = some (.string ⟨#[]⟩) := fun o1 o2 o3 => HeapIs.cell (HeapIs.al (HeapIs.al (HeapIs.al c3 (o' := o1)) (o' := o2)) (o' := o3)) (j := 3) (v := .string ⟨#[]⟩) rfl
  have c3a3_4 : ∀ o1 o2 o3 o4, ((((w3.alloc o1).alloc o2).alloc o3).alloc o4).cell? ⟨w.heap.size + 1, 3, none⟩ = some (.string ⟨#[]⟩) := fun o1 o2 o3 o4 => HeapIs.cell (HeapIs.al (HeapIs.al (HeapIs.al (HeapIs.al c3 (o' := o1)) (o' := o2)) (o' := o3)) (o' := o4)) (j := 3) (v := .string ⟨#[]⟩) rfl
  have c3r4 := c3.cell (j := 4) (v := .int .i64 0) rfl
  have c3a4_1 : ∀ o1, (w3.alloc o1).cell? ⟨w.heap.size + 1, 4, none⟩ = some (.int .i64 0) := fun o1 => HeapIs.cell (HeapIs.al c3 (o' := o1)) (j := 4) (v := .int .i64 0) rfl
  have c3a4_2 : ∀ o1 o2, ((w3.alloc o1).alloc o2).cell? ⟨w.heap.size + 1, 4, none⟩ = some (.int .i64 0) := fun o1 o2 => HeapIs.cell (HeapIs.al (HeapIs.al c3 (o' := o1)) (o' := o2)) (j := 4) (v := .int .i64 0) rfl
  have c3a4_3 : ∀ o1 o2 o3, (((w3.alloc o1).alloc o2).alloc o3).cell? ⟨w.heap.size + 1, 4, none⟩ = some (.int .i64 0) := fun o1 o2 o3 => HeapIs.cell (HeapIs.al (HeapIs.al (HeapIs.al c3 (o' := o1)) (o' := o2)) (o' := o3)) (j := 4) (v := .int .i64 0) rfl
  have c3a4_4 : ∀ o1 o2 o3 o4, ((((w3.alloc o1).alloc o2).alloc o3).alloc o4).cell? ⟨w.heap.size + 1, 4, none⟩ = some (.int .i64 0) := fun o1 o2 o3 o4 => HeapIs.cell (HeapIs.al (HeapIs.al (HeapIs.al (HeapIs.al c3 (o' := o1)) (o' := o2)) (o' := o3)) (o' := o4)) (j := 4) (v := .int .i64 0) rfl
  have c3r5 := c3.cell (j := 5) (v := .slice none 0 0) rfl
  have c3a5_1 : ∀ o1, (w3.alloc o1).cell? ⟨w.heap.size + 1, 5, none⟩ = some (.slice none 0 0) := fun o1 => HeapIs.cell (HeapIs.al c3 (o' := o1)) (j := 5) (v := .slice none 0 0) rfl
  have c3a5_2 : ∀ o1 o2, ((w3.alloc o1).alloc o2).cell? ⟨w.heap.size + 1, 5, none⟩ = some (.slice none 0 0) := fun o1 o2 => HeapIs.cell (HeapIs.al (HeapIs.al c3 (o' := o1)) (o' := o2)) (j := 5) (v := .slice none 0 0) rfl
  have c3a5_3 : ∀ o1 o2 o3, (((w3.alloc o1).alloc o2).alloc o3).cell? ⟨w.heap.size + 1, 5, none⟩ = some (.slice none 0 0) := fun o1 o2 o3 => HeapIs.cell (HeapIs.al (HeapIs.al (HeapIs.al c3 (o' := o1)) (o' := o2)) (o' := o3)) (j := 5) (v := .slice none 0 0) rfl
  have c3a5_4 : ∀ o1 o2 o3 o4, ((((w3.alloc o1).alloc o2).alloc o3).alloc o4).cell? ⟨w.heap.size + 1, 5, none⟩ = some (.slice none 0 0) := fun o1 o2 o3 o4 => HeapIs.cell (HeapIs.al (HeapIs.al (HeapIs.al (HeapIs.al c3 (o' := o1)) (o' := o2)) (o' := o3)) (o' := o4)) (j := 5) (v := .slice none 0 0) rfl
  have s3 : HeapIs w3 (w1.heap.size) (.cells #[.int .i64 0, .slice none 0 0, .slice none 0 0, .slice none 0 0] 105 (0, 0)) := s2.al.below hb
  have s3r0 := s3.cell (j := 0) (v := .int .i64 0) rfl
  have s3a0_1 : ∀ o1, (w3.alloc o1).cell? ⟨w1.heap.size, 0, none⟩ = some (.int .i64 0) := fun o1 => HeapIs.cell (HeapIs.al s3 (o' := o1)) (j := 0) (v := .int .i64 0) rfl
  have s3a0_2 : ∀ o1 o2, ((w3.alloc o1).alloc o2).cell? ⟨w1.heap.size, 0, none⟩ = some (.int .i64 0) := fun o1 o2 => HeapIs.cell (HeapIs.al (HeapIs.al s3 (o' := o1)) (o' := o2)) (j := 0) (v := .int .i64 0) rfl
  have s3a0_3 : ∀ o1 o2 o3, (((w3.alloc o1).alloc o2).alloc o3).cell? ⟨w1.heap.size, 0, none⟩ = some (.int .i64 0) := fun o1 o2 o3 => HeapIs.cell (HeapIs.al (HeapIs.al (HeapIs.al s3 (o' := o1)) (o' := o2)) (o' := o3)) (j := 0) (v := .int .i64 0) rfl
  have s3a0_4 : ∀ o1 o2 o3 o4, ((((w3.alloc o1).alloc o2).alloc o3).alloc o4).cell? ⟨w1.heap.size, 0, none⟩ = some (.int .i64 0) := fun o1 o2 o3 o4 => HeapIs.cell (HeapIs.al (HeapIs.al (HeapIs.al (HeapIs.al s3 (o' := o1)) (o' := o2)) (o' := o3)) (o' := o4)) (j := 0) (v := .int .i64 0) rfl
  have s3r1 := s3.cell (j := 1) (v := .slice none 0 0) rfl
  have s3a1_1 : ∀ o1, (w3.alloc o1).cell? ⟨w1.heap.size, 1, none⟩ = some (.slice none 0 0) := fun o1 => HeapIs.cell (HeapIs.al s3 (o' := o1)) (j := 1) (v := .slice none 0 0) rfl
  have s3a1_2 : ∀ o1 o2, ((w3.alloc o1).alloc o2).cell? ⟨w1.heap.size, 1, none⟩ = some (.slice none 0 0) := fun o1 o2 => HeapIs.cell (HeapIs.al (HeapIs.al s3 (o' := o1)) (o' := o2)) (j := 1) (v := .slice none 0 0) rfl
  have s3a1_3 : ∀ o1 o2 o3, (((w3.alloc o1).alloc o2).alloc o3).cell? ⟨w1.heap.size, 1, none⟩ = some (.slice none 0 0) := fun o1 o2 o3 => HeapIs.cell (HeapIs.al (HeapIs.al (HeapIs.al s3 (o' := o1)) (o' := o2)) (o' := o3)) (j := 1) (v := .slice none 0 0) rfl
  have s3a1_4 : ∀ o1 o2 o3 o4, ((((w3.alloc o1).alloc o2).alloc o3).alloc o4).cell? ⟨w1.heap.size, 1, none⟩ = some (.slice none 0 0) := fun o1 o2 o3 o4 => HeapIs.cell (HeapIs.al (HeapIs.al (HeapIs.al (HeapIs.al s3 (o' := o1)) (o' := o2)) (o' := o3)) (o' := o4)) (j := 1) (v := .slice none 0 0) rfl
  have s3r2 := s3.cell (j := 2) (v := .slice none 0 0) rfl
  have s3a2_1 : ∀ o1, (w3.alloc o1).cell? ⟨w1.heap.size, 2, none⟩ = some (.slice none 0 0) := fun o1 => HeapIs.cell (HeapIs.al s3 (o' := o1)) (j := 2) (v := .slice none 0 0) rfl
  have s3a2_2 : ∀ o1 o2, ((w3.alloc o1).alloc o2).cell? ⟨w1.heap.size, 2, none⟩ = some (.slice none 0 0) := fun o1 o2 => HeapIs.cell (HeapIs.al (HeapIs.al s3 (o' := o1)) (o' := o2)) (j := 2) (v := .slice none 0 0) rfl
  have s3a2_3 : ∀ o1 o2 o3, (((w3.alloc o1).alloc o2).alloc o3).cell? ⟨w1.heap.size, 2, none⟩ = some (.slice none 0 0) := fun o1 o2 o3 => HeapIs.cell (HeapIs.al (HeapIs.al (HeapIs.al s3 (o' := o1)) (o' := o2)) (o' := o3)) (j := 2) (v := .slice none 0 0) rfl
  have s3a2_4 : ∀ o1 o2 o3 o4, ((((w3.alloc o1).alloc o2).alloc o3).alloc o4).cell? ⟨w1.heap.size, 2, none⟩ = some (.slice none 0 0) := fun o1 o2 o3 o4 => HeapIs.cell (HeapIs.al (HeapIs.al (HeapIs.al (HeapIs.al s3 (o' := o1)) (o' := o2)) (o' := o3)) (o' := o4)) (j := 2) (v := .slice none 0 0) rfl
  have s3r3 := s3.cell (j := 3) (v := .slice none 0 0) rfl
  have s3a3_1 : ∀ o1, (w3.alloc o1).cell? ⟨w1.heap.size, 3, none⟩ = some (.slice none 0 0) := fun o1 => HeapIs.cell (HeapIs.al s3 (o' := o1)) (j := 3) (v := .slice none 0 0) rfl
  have s3a3_2 : ∀ o1 o2, ((w3.alloc o1).alloc o2).cell? ⟨w1.heap.size, 3, none⟩ = some (.slice none 0 0) := fun o1 o2 => HeapIs.cell (HeapIs.al (HeapIs.al s3 (o' := o1)) (o' := o2)) (j := 3) (v := .slice none 0 0) rfl
  have s3a3_3 : ∀ o1 o2 o3, (((w3.alloc o1).alloc o2).alloc o3).cell? ⟨w1.heap.size, 3, none⟩ = some (.slice none 0 0) := fun o1 o2 o3 => HeapIs.cell (HeapIs.al (HeapIs.al (HeapIs.al s3 (o' := o1)) (o' := o2)) (o' := o3)) (j := 3) (v := .slice none 0 0) rfl
  have s3a3_4 : ∀ o1 o2 o3 o4, ((((w3.alloc o1).alloc o2).alloc o3).alloc o4).cell? ⟨w1.heap.size, 3, none⟩ = some (.slice none 0 0) := fun o1 o2 o3 o4 => HeapIs.cell (HeapIs.al (HeapIs.al (HeapIs.al (HeapIs.al s3 (o' := o1)) (o' := o2)) (o' := o3)) (o' := o4)) (j := 3) (v := .slice none 0 0) rfl
  have t3 : HeapIs w3 (w2.heap.size) (.cells #[.int .i64 0, .slice none 0 0, .slice none 0 0, .slice none 0 0] 105 (0, 0)) := (HeapIs.new w2 _).below hb
  have t3r0 := t3.cell (j := 0) (v := .int .i64 0) rfl
  have t3a0_1 : ∀ o1, (w3.alloc o1).cell? ⟨w2.heap.size, 0, none⟩ = some (.int .i64 0) := fun o1 => HeapIs.cell (HeapIs.al t3 (o' := o1)) (j := 0) (v := .int .i64 0) rfl
  have t3a0_2 : ∀ o1 o2, ((w3.alloc o1).alloc o2).cell? ⟨w2.heap.size, 0, none⟩ = some (.int .i64 0) := fun o1 o2 => HeapIs.cell (HeapIs.al (HeapIs.al t3 (o' := o1)) (o' := o2)) (j := 0) (v := .int .i64 0) rfl
  have t3a0_3 : ∀ o1 o2 o3, (((w3.alloc o1).alloc o2).alloc o3).cell? ⟨w2.heap.size, 0, none⟩ = some (.int .i64 0) := fun o1 o2 o3 => HeapIs.cell (HeapIs.al (HeapIs.al (HeapIs.al t3 (o' := o1)) (o' := o2)) (o' := o3)) (j := 0) (v := .int .i64 0) rfl
  have t3a0_4 : ∀ o1 o2 o3 o4, ((((w3.alloc o1).alloc o2).alloc o3).alloc o4).cell? ⟨w2.heap.size, 0, none⟩ = some (.int .i64 0) := fun o1 o2 o3 o4 => HeapIs.cell (HeapIs.al (HeapIs.al (HeapIs.al (HeapIs.al t3 (o' := o1)) (o' := o2)) (o' := o3)) (o' := o4)) (j := 0) (v := .int .i64 0) rfl
  have t3r1 := t3.cell (j := 1) (v := .slice none 0 0) rfl
  have t3a1_1 : ∀ o1, (w3.alloc o1).cell? ⟨w2.heap.size, 1, none⟩ = some (.slice none 0 0) := fun o1 => HeapIs.cell (HeapIs.al t3 (o' := o1)) (j := 1) (v := .slice none 0 0) rfl
  have t3a1_2 : ∀ o1 o2, ((w3.alloc o1).alloc o2).cell? ⟨w2.heap.size, 1, none⟩ = some (.slice none 0 0) := fun o1 o2 => HeapIs.cell (HeapIs.al (HeapIs.al t3 (o' := o1)) (o' := o2)) (j := 1) (v := .slice none 0 0) rfl
  have t3a1_3 : ∀ o1 o2 o3, (((w3.alloc o1).alloc o2).alloc o3).cell? ⟨w2.heap.size, 1, none⟩ = some (.slice none 0 0) := fun o1 o2 o3 => HeapIs.cell (HeapIs.al (HeapIs.al (HeapIs.al t3 (o' := o1)) (o' := o2)) (o' := o3)) (j := 1) (v := .slice none 0 0) rfl
  have t3a1_4 : ∀ o1 o2 o3 o4, ((((w3.alloc o1).alloc o2).alloc o3).alloc o4).cell? ⟨w2.heap.size, 1, none⟩ = some (.slice none 0 0) := fun o1 o2 o3 o4 => HeapIs.cell (HeapIs.al (HeapIs.al (HeapIs.al (HeapIs.al t3 (o' := o1)) (o' := o2)) (o' := o3)) (o' := o4)) (j := 1) (v := .slice none 0 0) rfl
  have t3r2 := t3.cell (j := 2) (v := .slice none 0 0) rfl
  have t3a2_1 : ∀ o1, (w3.alloc o1).cell? ⟨w2.heap.size, 2, none⟩ = some (.slice none 0 0) := fun o1 => HeapIs.cell (HeapIs.al t3 (o' := o1)) (j := 2) (v := .slice none 0 0) rfl
  have t3a2_2 : ∀ o1 o2, ((w3.alloc o1).alloc o2).cell? ⟨w2.heap.size, 2, none⟩ = some (.slice none 0 0) := fun o1 o2 => HeapIs.cell (HeapIs.al (HeapIs.al t3 (o' := o1)) (o' := o2)) (j := 2) (v := .slice none 0 0) rfl
  have t3a2_3 : ∀ o1 o2 o3, (((w3.alloc o1).alloc o2).alloc o3).cell? ⟨w2.heap.size, 2, none⟩ = some (.slice none 0 0) := fun o1 o2 o3 => HeapIs.cell (HeapIs.al (HeapIs.al (HeapIs.al t3 (o' := o1)) (o' := o2)) (o' := o3)) (j := 2) (v := .slice none 0 0) rfl
  have t3a2_4 : ∀ o1 o2 o3 o4, ((((w3.alloc o1).alloc o2).alloc o3).alloc o4).cell? ⟨w2.heap.size, 2, none⟩ = some (.slice none 0 0) := fun o1 o2 o3 o4 => HeapIs.cell (HeapIs.al (HeapIs.al (HeapIs.al (HeapIs.al t3 (o' := o1)) (o' := o2)) (o' := o3)) (o' := o4)) (j := 2) (v := .slice none 0 0) rfl
  have t3r3 := t3.cell (j := 3) (v := .slice none 0 0) rfl
  have t3a3_1 : ∀ o1, (w3.alloc o1).cell? ⟨w2.heap.size, 3, none⟩ = some (.slice none 0 0) := fun o1 => HeapIs.cell (HeapIs.al t3 (o' := o1)) (j := 3) (v := .slice none 0 0) rfl
  have t3a3_2 : ∀ o1 o2, ((w3.alloc o1).alloc o2).cell? ⟨w2.heap.size, 3, none⟩ = some (.slice none 0 0) := fun o1 o2 => HeapIs.cell (HeapIs.al (HeapIs.al t3 (o' := o1)) (o' := o2)) (j := 3) (v := .slice none 0 0) rfl
  have t3a3_3 : ∀ o1 o2 o3, (((w3.alloc o1).alloc o2).alloc o3).cell? ⟨w2.heap.size, 3, none⟩ = some (.slice none 0 0) := fun o1 o2 o3 => HeapIs.cell (HeapIs.al (HeapIs.al (HeapIs.al t3 (o' := o1)) (o' := o2)) (o' := o3)) (j := 3) (v := .slice none 0 0) rfl
  have t3a3_4 : ∀ o1 o2 o3 o4, ((((w3.alloc o1).alloc o2).alloc o3).alloc o4).cell? ⟨w2.heap.size, 3, none⟩ = some (.slice none 0 0) := fun o1 o2 o3 o4 => HeapIs.cell (HeapIs.al (HeapIs.al (HeapIs.al (HeapIs.al t3 (o' := o1)) (o' := o2)) (o' := o3)) (o' := o4)) (j := 3) (v := .slice none 0 0) rfl
  have HN3 := Lib.hid (HN2.out.al (.cells #[.int .i64 0, .slice none 0 0, .slice none 0 0, .slice none 0 0] 105) |>.later hb)
  have HB3 := HB
  clear hb
  go_wp2_with fail
  refine wp_loop_rounds 1 ?_
  rw [rounds_succ]
  have k_n : HeapIs ((((w3.alloc (.cells #[.slice none 0 0] 108)).alloc (.cells #[.int .i64 0] 3)).alloc (.cells #[.int .i64 0] 3)).alloc (.cells #[.int .i64 9, .func (.func 52) #[] #[.pointer (some ⟨w1.heap.size, 0, none⟩), .pointer (some ⟨w.heap.size + 1, 0, none⟩)], .int .i64 14, .func (.func 53) #[] #[.pointer (some ⟨w3.heap.size, 0, none⟩), .pointer (some ⟨w2.heap.size, 0, none⟩)], .int .i64 13, .func (.func 57) #[] #[.pointer (some ⟨w3.heap.size + 2, 0, none⟩), .pointer (some ⟨w2.heap.size, 0, none⟩)], .int .i64 7, .func (.func 58) #[] #[.pointer (some ⟨w3.heap.size, 0, none⟩), .pointer (some ⟨w2.heap.size, 0, none⟩), .pointer (some ⟨w.heap.size, 0, none⟩)], .int .i64 15, .func (.func 60) #[] #[.pointer (some ⟨w2.heap.size, 0, none⟩), .pointer (some ⟨w3.heap.size + 1, 0, none⟩), .pointer (some ⟨w.heap.size, 0, none⟩)], .int .i64 11, .func (.func 63) #[] #[.pointer (some ⟨w.heap.size + 1, 0, none⟩), .pointer (some ⟨w.heap.size, 0, none⟩)], .int .i64 5, .func (.func 65) #[] #[.pointer (some ⟨w.heap.size + 1, 0, none⟩), .pointer (some ⟨w.heap.size, 0, none⟩)]] 60)) _ _ := n3.al.al.al.al
  have k_c : HeapIs ((((w3.alloc (.cells #[.slice none 0 0] 108)).alloc (.cells #[.int .i64 0] 3)).alloc (.cells #[.int .i64 0] 3)).alloc (.cells #[.int .i64 9, .func (.func 52) #[] #[.pointer (some ⟨w1.heap.size, 0, none⟩), .pointer (some ⟨w.heap.size + 1, 0, none⟩)], .int .i64 14, .func (.func 53) #[] #[.pointer (some ⟨w3.heap.size, 0, none⟩), .pointer (some ⟨w2.heap.size, 0, none⟩)], .int .i64 13, .func (.func 57) #[] #[.pointer (some ⟨w3.heap.size + 2, 0, none⟩), .pointer (some ⟨w2.heap.size, 0, none⟩)], .int .i64 7, .func (.func 58) #[] #[.pointer (some ⟨w3.heap.size, 0, none⟩), .pointer (some ⟨w2.heap.size, 0, none⟩), .pointer (some ⟨w.heap.size, 0, none⟩)], .int .i64 15, .func (.func 60) #[] #[.pointer (some ⟨w2.heap.size, 0, none⟩), .pointer (some ⟨w3.heap.size + 1, 0, none⟩), .pointer (some ⟨w.heap.size, 0, none⟩)], .int .i64 11, .func (.func 63) #[] #[.pointer (some ⟨w.heap.size + 1, 0, none⟩), .pointer (some ⟨w.heap.size, 0, none⟩)], .int .i64 5, .func (.func 65) #[] #[.pointer (some ⟨w.heap.size + 1, 0, none⟩), .pointer (some ⟨w.heap.size, 0, none⟩)]] 60)) _ _ := c3.al.al.al.al
  have k_s1 : HeapIs ((((w3.alloc (.cells #[.slice none 0 0] 108)).alloc (.cells #[.int .i64 0] 3)).alloc (.cells #[.int .i64 0] 3)).alloc (.cells #[.int .i64 9, .func (.func 52) #[] #[.pointer (some ⟨w1.heap.size, 0, none⟩), .pointer (some ⟨w.heap.size + 1, 0, none⟩)], .int .i64 14, .func (.func 53) #[] #[.pointer (some ⟨w3.heap.size, 0, none⟩), .pointer (some ⟨w2.heap.size, 0, none⟩)], .int .i64 13, .func (.func 57) #[] #[.pointer (some ⟨w3.heap.size + 2, 0, none⟩), .pointer (some ⟨w2.heap.size, 0, none⟩)], .int .i64 7, .func (.func 58) #[] #[.pointer (some ⟨w3.heap.size, 0, none⟩), .pointer (some ⟨w2.heap.size, 0, none⟩), .pointer (some ⟨w.heap.size, 0, none⟩)], .int .i64 15, .func (.func 60) #[] #[.pointer (some ⟨w2.heap.size, 0, none⟩), .pointer (some ⟨w3.heap.size + 1, 0, none⟩), .pointer (some ⟨w.heap.size, 0, none⟩)], .int .i64 11, .func (.func 63) #[] #[.pointer (some ⟨w.heap.size + 1, 0, none⟩), .pointer (some ⟨w.heap.size, 0, none⟩)], .int .i64 5, .func (.func 65) #[] #[.pointer (some ⟨w.heap.size + 1, 0, none⟩), .pointer (some ⟨w.heap.size, 0, none⟩)]] 60)) _ _ := s3.al.al.al.al
  have k_s2 : HeapIs ((((w3.alloc (.cells #[.slice none 0 0] 108)).alloc (.cells #[.int .i64 0] 3)).alloc (.cells #[.int .i64 0] 3)).alloc (.cells #[.int .i64 9, .func (.func 52) #[] #[.pointer (some ⟨w1.heap.size, 0, none⟩), .pointer (some ⟨w.heap.size + 1, 0, none⟩)], .int .i64 14, .func (.func 53) #[] #[.pointer (some ⟨w3.heap.size, 0, none⟩), .pointer (some ⟨w2.heap.size, 0, none⟩)], .int .i64 13, .func (.func 57) #[] #[.pointer (some ⟨w3.heap.size + 2, 0, none⟩), .pointer (some ⟨w2.heap.size, 0, none⟩)], .int .i64 7, .func (.func 58) #[] #[.pointer (some ⟨w3.heap.size, 0, none⟩), .pointer (some ⟨w2.heap.size, 0, none⟩), .pointer (some ⟨w.heap.size, 0, none⟩)], .int .i64 15, .func (.func 60) #[] #[.pointer (some ⟨w2.heap.size, 0, none⟩), .pointer (some ⟨w3.heap.size + 1, 0, none⟩), .pointer (some ⟨w.heap.size, 0, none⟩)], .int .i64 11, .func (.func 63) #[] #[.pointer (some ⟨w.heap.size + 1, 0, none⟩), .pointer (some ⟨w.heap.size, 0, none⟩)], .int .i64 5, .func (.func 65) #[] #[.pointer (some ⟨w.heap.size + 1, 0, none⟩), .pointer (some ⟨w.heap.size, 0, none⟩)]] 60)) _ _ := t3.al.al.al.al
  have k_l : HeapIs ((((w3.alloc (.cells #[.slice none 0 0] 108)).alloc (.cells #[.int .i64 0] 3)).alloc (.cells #[.int .i64 0] 3)).alloc (.cells #[.int .i64 9, .func (.func 52) #[] #[.pointer (some ⟨w1.heap.size, 0, none⟩), .pointer (some ⟨w.heap.size + 1, 0, none⟩)], .int .i64 14, .func (.func 53) #[] #[.pointer (some ⟨w3.heap.size, 0, none⟩), .pointer (some ⟨w2.heap.size, 0, none⟩)], .int .i64 13, .func (.func 57) #[] #[.pointer (some ⟨w3.heap.size + 2, 0, none⟩), .pointer (some ⟨w2.heap.size, 0, none⟩)], .int .i64 7, .func (.func 58) #[] #[.pointer (some ⟨w3.heap.size, 0, none⟩), .pointer (some ⟨w2.heap.size, 0, none⟩), .pointer (some ⟨w.heap.size, 0, none⟩)], .int .i64 15, .func (.func 60) #[] #[.pointer (some ⟨w2.heap.size, 0, none⟩), .pointer (some ⟨w3.heap.size + 1, 0, none⟩), .pointer (some ⟨w.heap.size, 0, none⟩)], .int .i64 11, .func (.func 63) #[] #[.pointer (some ⟨w.heap.size + 1, 0, none⟩), .pointer (some ⟨w.heap.size, 0, none⟩)], .int .i64 5, .func (.func 65) #[] #[.pointer (some ⟨w.heap.size + 1, 0, none⟩), .pointer (some ⟨w.heap.size, 0, none⟩)]] 60)) w3.heap.size _ := (HeapIs.new w3 _).al.al.al
  have k_y : HeapIs ((((w3.alloc (.cells #[.slice none 0 0] 108)).alloc (.cells #[.int .i64 0] 3)).alloc (.cells #[.int .i64 0] 3)).alloc (.cells #[.int .i64 9, .func (.func 52) #[] #[.pointer (some ⟨w1.heap.size, 0, none⟩), .pointer (some ⟨w.heap.size + 1, 0, none⟩)], .int .i64 14, .func (.func 53) #[] #[.pointer (some ⟨w3.heap.size, 0, none⟩), .pointer (some ⟨w2.heap.size, 0, none⟩)], .int .i64 13, .func (.func 57) #[] #[.pointer (some ⟨w3.heap.size + 2, 0, none⟩), .pointer (some ⟨w2.heap.size, 0, none⟩)], .int .i64 7, .func (.func 58) #[] #[.pointer (some ⟨w3.heap.size, 0, none⟩), .pointer (some ⟨w2.heap.size, 0, none⟩), .pointer (some ⟨w.heap.size, 0, none⟩)], .int .i64 15, .func (.func 60) #[] #[.pointer (some ⟨w2.heap.size, 0, none⟩), .pointer (some ⟨w3.heap.size + 1, 0, none⟩), .pointer (some ⟨w.heap.size, 0, none⟩)], .int .i64 11, .func (.func 63) #[] #[.pointer (some ⟨w.heap.size + 1, 0, none⟩), .pointer (some ⟨w.heap.size, 0, none⟩)], .int .i64 5, .func (.func 65) #[] #[.pointer (some ⟨w.heap.size + 1, 0, none⟩), .pointer (some ⟨w.heap.size, 0, none⟩)]] 60)) (w3.heap.size + 1) _ := (HeapIs.new1 w3 _ _).al.al
  have k_x : HeapIs ((((w3.alloc (.cells #[.slice none 0 0] 108)).alloc (.cells #[.int .i64 0] 3)).alloc (.cells #[.int .i64 0] 3)).alloc (.cells #[.int .i64 9, .func (.func 52) #[] #[.pointer (some ⟨w1.heap.size, 0, none⟩), .pointer (some ⟨w.heap.size + 1, 0, none⟩)], .int .i64 14, .func (.func 53) #[] #[.pointer (some ⟨w3.heap.size, 0, none⟩), .pointer (some ⟨w2.heap.size, 0, none⟩)], .int .i64 13, .func (.func 57) #[] #[.pointer (some ⟨w3.heap.size + 2, 0, none⟩), .pointer (some ⟨w2.heap.size, 0, none⟩)], .int .i64 7, .func (.func 58) #[] #[.pointer (some ⟨w3.heap.size, 0, none⟩), .pointer (some ⟨w2.heap.size, 0, none⟩), .pointer (some ⟨w.heap.size, 0, none⟩)], .int .i64 15, .func (.func 60) #[] #[.pointer (some ⟨w2.heap.size, 0, none⟩), .pointer (some ⟨w3.heap.size + 1, 0, none⟩), .pointer (some ⟨w.heap.size, 0, none⟩)], .int .i64 11, .func (.func 63) #[] #[.pointer (some ⟨w.heap.size + 1, 0, none⟩), .pointer (some ⟨w.heap.size, 0, none⟩)], .int .i64 5, .func (.func 65) #[] #[.pointer (some ⟨w.heap.size + 1, 0, none⟩), .pointer (some ⟨w.heap.size, 0, none⟩)]] 60)) (w3.heap.size + 2) _ := (HeapIs.new2 w3 _ _ _).al
  have k_r : HeapIs ((((w3.alloc (.cells #[.slice none 0 0] 108)).alloc (.cells #[.int .i64 0] 3)).alloc (.cells #[.int .i64 0] 3)).alloc (.cells #[.int .i64 9, .func (.func 52) #[] #[.pointer (some ⟨w1.heap.size, 0, none⟩), .pointer (some ⟨w.heap.size + 1, 0, none⟩)], .int .i64 14, .func (.func 53) #[] #[.pointer (some ⟨w3.heap.size, 0, none⟩), .pointer (some ⟨w2.heap.size, 0, none⟩)], .int .i64 13, .func (.func 57) #[] #[.pointer (some ⟨w3.heap.size + 2, 0, none⟩), .pointer (some ⟨w2.heap.size, 0, none⟩)], .int .i64 7, .func (.func 58) #[] #[.pointer (some ⟨w3.heap.size, 0, none⟩), .pointer (some ⟨w2.heap.size, 0, none⟩), .pointer (some ⟨w.heap.size, 0, none⟩)], .int .i64 15, .func (.func 60) #[] #[.pointer (some ⟨w2.heap.size, 0, none⟩), .pointer (some ⟨w3.heap.size + 1, 0, none⟩), .pointer (some ⟨w.heap.size, 0, none⟩)], .int .i64 11, .func (.func 63) #[] #[.pointer (some ⟨w.heap.size + 1, 0, none⟩), .pointer (some ⟨w.heap.size, 0, none⟩)], .int .i64 5, .func (.func 65) #[] #[.pointer (some ⟨w.heap.size + 1, 0, none⟩), .pointer (some ⟨w.heap.size, 0, none⟩)]] 60)) (w3.heap.size + 3) _ := HeapIs.new3 w3 _ _ _ _
  have HNt := Lib.hid (show NodeE ((((w3.alloc (.cells #[.slice none 0 0] 108)).alloc (.cells #[.int .i64 0] 3)).alloc (.cells #[.int .i64 0] 3)).alloc (.cells #[.int .i64 9, .func (.func 52) #[] #[.pointer (some ⟨w1.heap.size, 0, none⟩), .pointer (some ⟨w.heap.size + 1, 0, none⟩)], .int .i64 14, .func (.func 53) #[] #[.pointer (some ⟨w3.heap.size, 0, none⟩), .pointer (some ⟨w2.heap.size, 0, none⟩)], .int .i64 13, .func (.func 57) #[] #[.pointer (some ⟨w3.heap.size + 2, 0, none⟩), .pointer (some ⟨w2.heap.size, 0, none⟩)], .int .i64 7, .func (.func 58) #[] #[.pointer (some ⟨w3.heap.size, 0, none⟩), .pointer (some ⟨w2.heap.size, 0, none⟩), .pointer (some ⟨w.heap.size, 0, none⟩)], .int .i64 15, .func (.func 60) #[] #[.pointer (some ⟨w2.heap.size, 0, none⟩), .pointer (some ⟨w3.heap.size + 1, 0, none⟩), .pointer (some ⟨w.heap.size, 0, none⟩)], .int .i64 11, .func (.func 63) #[] #[.pointer (some ⟨w.heap.size + 1, 0, none⟩), .pointer (some ⟨w.heap.size, 0, none⟩)], .int .i64 5, .func (.func 65) #[] #[.pointer (some ⟨w.heap.size + 1, 0, none⟩), .pointer (some ⟨w.heap.size, 0, none⟩)]] 60)) pn pt pd pi po ps bm from (((HN3.out.al _).al _).al _).al _)
  have HEt := Lib.hid (HE.out.later (show Below w.heap.size w ((((w3.alloc (.cells #[.slice none 0 0] 108)).alloc (.cells #[.int .i64 0] 3)).alloc (.cells #[.int .i64 0] 3)).alloc (.cells #[.int .i64 9, .func (.func 52) #[] #[.pointer (some ⟨w1.heap.size, 0, none⟩), .pointer (some ⟨w.heap.size + 1, 0, none⟩)], .int .i64 14, .func (.func 53) #[] #[.pointer (some ⟨w3.heap.size, 0, none⟩), .pointer (some ⟨w2.heap.size, 0, none⟩)], .int .i64 13, .func (.func 57) #[] #[.pointer (some ⟨w3.heap.size + 2, 0, none⟩), .pointer (some ⟨w2.heap.size, 0, none⟩)], .int .i64 7, .func (.func 58) #[] #[.pointer (some ⟨w3.heap.size, 0, none⟩), .pointer (some ⟨w2.heap.size, 0, none⟩), .pointer (some ⟨w.heap.size, 0, none⟩)], .int .i64 15, .func (.func 60) #[] #[.pointer (some ⟨w2.heap.size, 0, none⟩), .pointer (some ⟨w3.heap.size + 1, 0, none⟩), .pointer (some ⟨w.heap.size, 0, none⟩)], .int .i64 11, .func (.func 63) #[] #[.pointer (some ⟨w.heap.size + 1, 0, none⟩), .pointer (some ⟨w.heap.size, 0, none⟩)], .int .i64 5, .func (.func 65) #[] #[.pointer (some ⟨w.heap.size + 1, 0, none⟩), .pointer (some ⟨w.heap.size, 0, none⟩)]] 60)) from nbl_al (nbl_al (nbl_al (nbl_al HB.out)))))
  have HK := Lib.hid (take_state_7 (w3.heap.size + 3) (w.heap.size + 1) (w.heap.size) (w1.heap.size) (w2.heap.size) (w3.heap.size) (w3.heap.size + 2) (w3.heap.size + 1) ((((w3.alloc (.cells #[.slice none 0 0] 108)).alloc (.cells #[.int .i64 0] 3)).alloc (.cells #[.int .i64 0] 3)).alloc (.cells #[.int .i64 9, .func (.func 52) #[] #[.pointer (some ⟨w1.heap.size, 0, none⟩), .pointer (some ⟨w.heap.size + 1, 0, none⟩)], .int .i64 14, .func (.func 53) #[] #[.pointer (some ⟨w3.heap.size, 0, none⟩), .pointer (some ⟨w2.heap.size, 0, none⟩)], .int .i64 13, .func (.func 57) #[] #[.pointer (some ⟨w3.heap.size + 2, 0, none⟩), .pointer (some ⟨w2.heap.size, 0, none⟩)], .int .i64 7, .func (.func 58) #[] #[.pointer (some ⟨w3.heap.size, 0, none⟩), .pointer (some ⟨w2.heap.size, 0, none⟩), .pointer (some ⟨w.heap.size, 0, none⟩)], .int .i64 15, .func (.func 60) #[] #[.pointer (some ⟨w2.heap.size, 0, none⟩), .pointer (some ⟨w3.heap.size + 1, 0, none⟩), .pointer (some ⟨w.heap.size, 0, none⟩)], .int .i64 11, .func (.func 63) #[] #[.pointer (some ⟨w.heap.size + 1, 0, none⟩), .pointer (some ⟨w.heap.size, 0, none⟩)], .int .i64 5, .func (.func 65) #[] #[.pointer (some ⟨w.heap.size + 1, 0, none⟩), .pointer (some ⟨w.heap.size, 0, none⟩)]] 60)) k_r (fun W hb => state1_merge _ _ W (k_s1.below hb) (k_c.below hb)) (fun W hb => state2_nil _ _ W (k_l.below hb)) (fun W hb => state3_0 _ _ W (k_x.below hb) (k_s2.below hb)) (fun W hb => state4_nil _ _ _ W (k_l.below hb)) (fun W hb => state5_0 _ _ _ pn pt pd pi po ps bm W (k_s2.below hb) (k_y.below hb) (k_n.below hb) (HNt.out.later hb)) (fun W hb => state6_merge _ _ W (k_c.below hb)) (fun W hb => state7_merge _ _ W (k_c.below hb)))
  clear k_n k_c k_s1 k_s2 k_l k_y k_x k_r
  go_wp2_with fail
  refine (HK.out).mono ?_
  rintro e w4 ⟨rfl, hb⟩
  replace HB := Lib.hid (show Below w.heap.size w w4 by have h := hb; repeat (first | exact nbl_step HB.out h | replace h := nbl_new h | replace h := nbl_dr h))
  clear hb
  go_wp2
  go_ret
  exact ⟨rfl, by repeat (first | exact HB.out | apply nbl_al | apply nbl_drw | apply nbl_drewN | refine Below.setCell ?_ (Nat.le_refl _) _ | refine nbl_set ?_ (by first | exact Nat.le_refl _ | (simp; omega) | (simp; done) | omega) )⟩

set_option maxRecDepth 100000 in
set_option maxHeartbeats 1000000 in
theorem state_add1 (pn pt pd pi po ps bm : Nat) (w : World) (hN : NodeE w pn pt pd pi po ps bm) (hE : Env w) :
    Calls Tryz.prog 38 #[.pointer (some ⟨pn, 0, none⟩), .agg #[.int .i64 1, .string ⟨#[97]⟩, .string ⟨#[]⟩, .string ⟨#[116, 101, 97]⟩, .int .i64 1, .slice none 0 0]] w fun e w' => e = .returned (.int .i64 0) ∧ Below w.heap.size w w' := by
  have HE := Lib.hid hE
  have HN := Lib.hid hN
  clear hE hN
  have hmf : ∀ (fn : Fn) (first cap : Array Value) (w : World), (Instr.makeFunc fn first cap).run Tryz.prog w = .ok (.func fn first cap) w := fun _ _ _ _ => rfl
  have HB := Lib.hid (Below.refl w.heap.size w)
  go_enter Tryz.func38, Tryz.ntmps38
  go_wp2_with fail
  refine (node_get_true ⟨#[97]⟩ (by decide) (by decide) pn pt pd pi po ps bm _ ((HN.out.al _).al _) (HE.out.later (nbl_al (nbl_al HB.out)))).mono ?_
  rintro e w1 ⟨rfl, hb⟩
  replace HB := Lib.hid (show Below w.heap.size w w1 by have h := hb; repeat (first | exact nbl_step HB.out h | replace h := nbl_new h | replace h := nbl_dr h))
  have n1 : HeapIs w1 (w.heap.size) (.cells #[.pointer (some ⟨pn, 0, none⟩)] 32 (0, 0)) := (HeapIs.new w _).al.below hb
  have n1r0 := n1.cell (j := 0) (v := .pointer (some ⟨pn, 0, none⟩)) rfl
  have n1a0_1 : ∀ o1, (w1.alloc o1).cell? ⟨w.heap.size, 0, none⟩ = some (.pointer (some ⟨pn, 0, none⟩)) := fun o1 => HeapIs.cell (HeapIs.al n1 (o' := o1)) (j := 0) (v := .pointer (some ⟨pn, 0, none⟩)) rfl
  have c1 : HeapIs w1 (w.heap.size + 1) (.cells #[.int .i64 1, .string ⟨#[97]⟩, .string ⟨#[]⟩, .string ⟨#[116, 101, 97]⟩, .int .i64 1, .slice none 0 0] 29 (0, 0)) := (HeapIs.new1 w _ _).below hb
  have c1r0 := c1.cell (j := 0) (v := .int .i64 1) rfl
  have c1a0_1 : ∀ o1, (w1.alloc o1).cell? ⟨w.heap.size + 1, 0, none⟩ = some (.int .i64 1) := fun o1 => HeapIs.cell (HeapIs.al c1 (o' := o1)) (j := 0) (v := .int .i64 1) rfl
  have c1r1 := c1.cell (j := 1) (v := .string ⟨#[97]⟩) rfl
  have c1a1_1 : ∀ o1, (w1.alloc o1).cell? ⟨w.heap.size + 1, 1, none⟩ = some (.string ⟨#[97]⟩) := fun o1 => HeapIs.cell (HeapIs.al c1 (o' := o1)) (j := 1) (v := .string ⟨#[97]⟩) rfl
  have c1r2 := c1.cell (j := 2) (v := .string ⟨#[]⟩) rfl
  have c1a2_1 : ∀ o1, (w1.alloc o1).cell? ⟨w.heap.size + 1, 2, none⟩ = some (.string ⟨#[]⟩) := fun o1 => HeapIs.cell (HeapIs.al c1 (o' := o1)) (j := 2) (v := .string ⟨#[]⟩) rfl
  have c1r3 := c1.cell (j := 3) (v := .string ⟨#[116, 101, 97]⟩) rfl
  have c1a3_1 : ∀ o1, (w1.alloc o1).cell? ⟨w.heap.size + 1, 3, none⟩ = some (.string ⟨#[116, 101, 97]⟩) := fun o1 => HeapIs.cell (HeapIs.al c1 (o' := o1)) (j := 3) (v := .string ⟨#[116, 101, 97]⟩) rfl
  have c1r4 := c1.cell (j := 4) (v := .int .i64 1) rfl
  have c1a4_1 : ∀ o1, (w1.alloc o1).cell? ⟨w.heap.size + 1, 4, none⟩ = some (.int .i64 1) := fun o1 => HeapIs.cell (HeapIs.al c1 (o' := o1)) (j := 4) (v := .int .i64 1) rfl
  have c1r5 := c1.cell (j := 5) (v := .slice none 0 0) rfl
  have c1a5_1 : ∀ o1, (w1.alloc o1).cell? ⟨w.heap.size + 1, 5, none⟩ = some (.slice none 0 0) := fun o1 => HeapIs.cell (HeapIs.al c1 (o' := o1)) (j := 5) (v := .slice none 0 0) rfl
  have HN1 := Lib.hid (HN.out.later HB.out)
  clear hb
  go_wp2_with fail
  refine (node_get_true ⟨#[97]⟩ (by decide) (by decide) pn pt pd pi po ps bm _ (HN1.out.al _) (HE.out.later (nbl_al HB.out))).mono ?_
  rintro e w2 ⟨rfl, hb⟩
  replace HB := Lib.hid (show Below w.heap.size w w2 by have h := hb; repeat (first | exact nbl_step HB.out h | replace h := nbl_new h | replace h := nbl_dr h))
  have n2 : HeapIs w2 (w.heap.size) (.cells #[.pointer (some ⟨pn, 0, none⟩)] 32 (0, 0)) := n1.al.below hb
  have n2r0 := n2.cell (j := 0) (v := .pointer (some ⟨pn, 0, none⟩)) rfl
  have n2a0_1 : ∀ o1, (w2.alloc o1).cell? ⟨w.heap.size, 0, none⟩ = some (.pointer (some ⟨pn, 0, none⟩)) := fun o1 => HeapIs.cell (HeapIs.al n2 (o' := o1)) (j := 0) (v := .pointer (some ⟨pn, 0, none⟩)) rfl
  have c2 : HeapIs w2 (w.heap.size + 1) (.cells #[.int .i64 1, .string ⟨#[97]⟩, .string ⟨#[]⟩, .string ⟨#[116, 101, 97]⟩, .int .i64 1, .slice none 0 0] 29 (0, 0)) := c1.al.below hb
  have c2r0 := c2.cell (j := 0) (v := .int .i64 1) rfl
  have c2a0_1 : ∀ o1, (w2.alloc o1).cell? ⟨w.heap.size + 1, 0, none⟩ = some (.int .i64 1) := fun o1 => HeapIs.cell (HeapIs.al c2 (o' := o1)) (j := 0) (v := .int .i64 1) rfl
  have c2r1 := c2.cell (j := 1) (v := .string ⟨#[97]⟩) rfl
  have c2a1_1 : ∀ o1, (w2.alloc o1).cell? ⟨w.heap.size + 1, 1, none⟩ = some (.string ⟨#[97]⟩) := fun o1 => HeapIs.cell (HeapIs.al c2 (o' := o1)) (j := 1) (v := .string ⟨#[97]⟩) rfl
  have c2r2 := c2.cell (j := 2) (v := .string ⟨#[]⟩) rfl
  have c2a2_1 : ∀ o1, (w2.alloc o1).cell? ⟨w.heap.size + 1, 2, none⟩ = some (.string ⟨#[]⟩) := fun o1 => HeapIs.cell (HeapIs.al c2 (o' := o1)) (j := 2) (v := .string ⟨#[]⟩) rfl
  have c2r3 := c2.cell (j := 3) (v := .string ⟨#[116, 101, 97]⟩) rfl
  have c2a3_1 : ∀ o1, (w2.alloc o1).cell? ⟨w.heap.size + 1, 3, none⟩ = some (.string ⟨#[116, 101, 97]⟩) := fun o1 => HeapIs.cell (HeapIs.al c2 (o' := o1)) (j := 3) (v := .string ⟨#[116, 101, 97]⟩) rfl
  have c2r4 := c2.cell (j := 4) (v := .int .i64 1) rfl
  have c2a4_1 : ∀ o1, (w2.alloc o1).cell? ⟨w.heap.size + 1, 4, none⟩ = some (.int .i64 1) := fun o1 => HeapIs.cell (HeapIs.al c2 (o' := o1)) (j := 4) (v := .int .i64 1) rfl
  have c2r5 := c2.cell (j := 5) (v := .slice none 0 0) rfl
  have c2a5_1 : ∀ o1, (w2.alloc o1).cell? ⟨w.heap.size + 1, 5, none⟩ = some (.slice none 0 0) := fun o1 => HeapIs.cell (HeapIs.al c2 (o' := o1)) (j := 5) (v := .slice none 0 0) rfl
  have s2 : HeapIs w2 (w1.heap.size) (.cells #[.int .i64 0, .slice none 0 0, .slice none 0 0, .slice none 0 0] 105 (0, 0)) := (HeapIs.new w1 _).below hb
  have s2r0 := s2.cell (j := 0) (v := .int .i64 0) rfl
  have s2a0_1 : ∀ o1, (w2.alloc o1).cell? ⟨w1.heap.size, 0, none⟩ = some (.int .i64 0) := fun o1 => HeapIs.cell (HeapIs.al s2 (o' := o1)) (j := 0) (v := .int .i64 0) rfl
  have s2r1 := s2.cell (j := 1) (v := .slice none 0 0) rfl
  have s2a1_1 : ∀ o1, (w2.alloc o1).cell? ⟨w1.heap.size, 1, none⟩ = some (.slice none 0 0) := fun o1 => HeapIs.cell (HeapIs.al s2 (o' := o1)) (j := 1) (v := .slice none 0 0) rfl
  have s2r2 := s2.cell (j := 2) (v := .slice none 0 0) rfl
  have s2a2_1 : ∀ o1, (w2.alloc o1).cell? ⟨w1.heap.size, 2, none⟩ = some (.slice none 0 0) := fun o1 => HeapIs.cell (HeapIs.al s2 (o' := o1)) (j := 2) (v := .slice none 0 0) rfl
  have s2r3 := s2.cell (j := 3) (v := .slice none 0 0) rfl
  have s2a3_1 : ∀ o1, (w2.alloc o1).cell? ⟨w1.heap.size, 3, none⟩ = some (.slice none 0 0) := fun o1 => HeapIs.cell (HeapIs.al s2 (o' := o1)) (j := 3) (v := .slice none 0 0) rfl
  have HN2 := Lib.hid (HN1.out.al (.cells #[.int .i64 0, .slice none 0 0, .slice none 0 0, .slice none 0 0] 105) |>.later hb)
  clear hb
  go_wp2_with fail
  refine (coming_add1 _).mono ?_
  rintro e w3 ⟨pl, rfl, hp, hb⟩
  replace HB := Lib.hid (show Below w.heap.size w w3 by have h := hb; repeat (first | exact nbl_step HB.out h | replace h := nbl_new h | replace h := nbl_dr h))
  have n3 : HeapIs w3 (w.heap.size) (.cells #[.pointer (some ⟨pn, 0, none⟩)] 32 (0, 0)) := n2.al.below hb
  have n3r0 := n3.cell (j := 0) (v := .pointer (some ⟨pn, 0, none⟩)) rfl
  have n3a0_1 : ∀ o1, (w3.alloc o1).cell? ⟨w.heap.size, 0, none⟩ = some (.pointer (some ⟨pn, 0, none⟩)) := fun o1 => HeapIs.cell (HeapIs.al n3 (o' := o1)) (j := 0) (v := .pointer (some ⟨pn, 0, none⟩)) rfl
  have n3a0_2 : ∀ o1 o2, ((w3.alloc o1).alloc o2).cell? ⟨w.heap.size, 0, none⟩ = some (.pointer (some ⟨pn, 0, none⟩)) := fun o1 o2 => HeapIs.cell (HeapIs.al (HeapIs.al n3 (o' := o1)) (o' := o2)) (j := 0) (v := .pointer (some ⟨pn, 0, none⟩)) rfl
  have n3a0_3 : ∀ o1 o2 o3, (((w3.alloc o1).alloc o2).alloc o3).cell? ⟨w.heap.size, 0, none⟩ = some (.pointer (some ⟨pn, 0, none⟩)) := fun o1 o2 o3 => HeapIs.cell (HeapIs.al (HeapIs.al (HeapIs.al n3 (o' := o1)) (o' := o2)) (o' := o3)) (j := 0) (v := .pointer (some ⟨pn, 0, none⟩)) rfl
  have n3a0_4 : ∀ o1 o2 o3 o4, ((((w3.alloc o1).alloc o2).alloc o3).alloc o4).cell? ⟨w.heap.size, 0, none⟩ = some (.pointer (some ⟨pn, 0, none⟩)) := fun o1 o2 o3 o4 => HeapIs.cell (HeapIs.al (HeapIs.al (HeapIs.al (HeapIs.al n3 (o' := o1)) (o' := o2)) (o' := o3)) (o' := o4)) (j := 0) (v := .pointer (some ⟨pn, 0, none⟩)) rfl
  have c3 : HeapIs w3 (w.heap.size + 1) (.cells #[.int .i64 1, .string ⟨#[97]⟩, .string ⟨#[]⟩, .string ⟨#[116, 101, 97]⟩, .int .i64 1, .slice none 0 0] 29 (0, 0)) := c2.al.below hb
  have c3r0 := c3.cell (j := 0) (v := .int .i64 1) rfl
  have c3a0_1 : ∀ o1, (w3.alloc o1).cell? ⟨w.heap.size + 1, 0, none⟩ = some (.int .i64 1) := fun o1 => HeapIs.cell (HeapIs.al c3 (o' := o1)) (j := 0) (v := .int .i64 1) rfl
  have c3a0_2 : ∀ o1 o2, ((w3.alloc o1).alloc o2).cell? ⟨w.heap.size + 1, 0, none⟩ = some (.int .i64 1) := fun o1 o2 => HeapIs.cell (HeapIs.al (HeapIs.al c3 (o' := o1)) (o' := o2)) (j := 0) (v := .int .i64 1) rfl
  have c3a0_3 : ∀ o1 o2 o3, (((w3.alloc o1).alloc o2).alloc o3).cell? ⟨w.heap.size + 1, 0, none⟩ = some (.int .i64 1) := fun o1 o2 o3 => HeapIs.cell (HeapIs.al (HeapIs.al (HeapIs.al c3 (o' := o1)) (o' := o2)) (o' := o3)) (j := 0) (v := .int .i64 1) rfl
  have c3a0_4 : ∀ o1 o2 o3 o4, ((((w3.alloc o1).alloc o2).alloc o3).alloc o4).cell? ⟨w.heap.size + 1, 0, none⟩ = some (.int .i64 1) := fun o1 o2 o3 o4 => HeapIs.cell (HeapIs.al (HeapIs.al (HeapIs.al (HeapIs.al c3 (o' := o1)) (o' := o2)) (o' := o3)) (o' := o4)) (j := 0) (v := .int .i64 1) rfl
  have c3r1 := c3.cell (j := 1) (v := .string ⟨#[97]⟩) rfl
  have c3a1_1 : ∀ o1, (w3.alloc o1).cell? ⟨w.heap.size + 1, 1, none⟩ = some (.string ⟨#[97]⟩) := fun o1 => HeapIs.cell (HeapIs.al c3 (o' := o1)) (j := 1) (v := .string ⟨#[97]⟩) rfl
  have c3a1_2 : ∀ o1 o2, ((w3.alloc o1).alloc o2).cell? ⟨w.heap.size + 1, 1, none⟩ = some (.string ⟨#[97]⟩) := fun o1 o2 => HeapIs.cell (HeapIs.al (HeapIs.al c3 (o' := o1)) (o' := o2)) (j := 1) (v := .string ⟨#[97]⟩) rfl
  have c3a1_3 : ∀ o1 o2 o3, (((w3.alloc o1).alloc o2).alloc o3).cell? ⟨w.heap.size + 1, 1, none⟩ = some (.string ⟨#[97]⟩) := fun o1 o2 o3 => HeapIs.cell (HeapIs.al (HeapIs.al (HeapIs.al c3 (o' := o1)) (o' := o2)) (o' := o3)) (j := 1) (v := .string ⟨#[97]⟩) rfl
  have c3a1_4 : ∀ o1 o2 o3 o4, ((((w3.alloc o1).alloc o2).alloc o3).alloc o4).cell? ⟨w.heap.size + 1, 1, none⟩ = some (.string ⟨#[97]⟩) := fun o1 o2 o3 o4 => HeapIs.cell (HeapIs.al (HeapIs.al (HeapIs.al (HeapIs.al c3 (o' := o1)) (o' := o2)) (o' := o3)) (o' := o4)) (j := 1) (v := .string ⟨#[97]⟩) rfl
  have c3r2 := c3.cell (j := 2) (v := .string ⟨#[]⟩) rfl
  have c3a2_1 : ∀ o1, (w3.alloc o1).cell? ⟨w.heap.size + 1, 2, none⟩ = some (.string ⟨#[]⟩) := fun o1 => HeapIs.cell (HeapIs.al c3 (o' := o1)) (j := 2) (v := .string ⟨#[]⟩) rfl
  have c3a2_2 : ∀ o1 o2, ((w3.alloc o1).alloc o2).cell? ⟨w.heap.size + 1, 2, none⟩ = some (.string ⟨#[]⟩) := fun o1 o2 => HeapIs.cell (HeapIs.al (HeapIs.al c3 (o' := o1)) (o' := o2)) (j := 2) (v := .string ⟨#[]⟩) rfl
  have c3a2_3 : ∀ o1 o2 o3, (((w3.alloc o1).alloc o2).alloc o3).cell? ⟨w.heap.size + 1, 2, none⟩ = some (.string ⟨#[]⟩) := fun o1 o2 o3 => HeapIs.cell (HeapIs.al (HeapIs.al (HeapIs.al c3 (o' := o1)) (o' := o2)) (o' := o3)) (j := 2) (v := .string ⟨#[]⟩) rfl
  have c3a2_4 : ∀ o1 o2 o3 o4, ((((w3.alloc o1).alloc o2).alloc o3).alloc o4).cell? ⟨w.heap.size + 1, 2, none⟩ = some (.string ⟨#[]⟩) := fun o1 o2 o3 o4 => HeapIs.cell (HeapIs.al (HeapIs.al (HeapIs.al (HeapIs.al c3 (o' := o1)) (o' := o2)) (o' := o3)) (o' := o4)) (j := 2) (v := .string ⟨#[]⟩) rfl
  have c3r3 := c3.cell (j := 3) (v := .string ⟨#[116, 101, 97]⟩) rfl
  have c3a3_1 : ∀ o1, (w3.alloc o1).cell? ⟨w.heap.size + 1, 3, none⟩ = some (.string ⟨#[116, 101, 97]⟩) := fun o1 => HeapIs.cell (HeapIs.al c3 (o' := o1)) (j := 3) (v := .string ⟨#[116, 101, 97]⟩) rfl
  have c3a3_2 : ∀ o1 o2, ((w3.alloc o1).alloc o2).cell? ⟨w.heap.size + 1, 3, none⟩ = some (.string ⟨#[116, 101, 97]⟩) := fun o1 o2 => HeapIs.cell (HeapIs.al (HeapIs.al c3 (o' := o1)) (o' := o2)) (j := 3) (v := .string ⟨#[116, 101, 97]⟩) rfl
  have c3a3_3 : ∀ o1 o2 o3, (((w3.alloc o1).alloc o2).alloc o3).cell? ⟨w.heap.size + 1, 3, none⟩ = some (.string ⟨#[116, 101, 97]⟩) := fun o1 o2 o3 => HeapIs.cell (HeapIs.al (HeapIs.al (HeapIs.al c3 (o' := o1)) (o' := o2)) (o' := o3)) (j := 3) (v := .string ⟨#[116, 101, 97]⟩) rfl
  have c3a3_4 : ∀ o1 o2 o3 o4, ((((w3.alloc o1).alloc o2).alloc o3).alloc o4).cell? ⟨w.heap.size + 1, 3, none⟩ = some (.string ⟨#[116, 101, 97]⟩) := fun o1 o2 o3 o4 => HeapIs.cell (HeapIs.al (HeapIs.al (HeapIs.al (HeapIs.al c3 (o' := o1)) (o' := o2)) (o' := o3)) (o' := o4)) (j := 3) (v := .string ⟨#[116, 101, 97]⟩) rfl
  have c3r4 := c3.cell (j := 4) (v := .int .i64 1) rfl
  have c3a4_1 : ∀ o1, (w3.alloc o1).cell? ⟨w.heap.size + 1, 4, none⟩ = some (.int .i64 1) := fun o1 => HeapIs.cell (HeapIs.al c3 (o' := o1)) (j := 4) (v := .int .i64 1) rfl
  have c3a4_2 : ∀ o1 o2, ((w3.alloc o1).alloc o2).cell? ⟨w.heap.size + 1, 4, none⟩ = some (.int .i64 1) := fun o1 o2 => HeapIs.cell (HeapIs.al (HeapIs.al c3 (o' := o1)) (o' := o2)) (j := 4) (v := .int .i64 1) rfl
  have c3a4_3 : ∀ o1 o2 o3, (((w3.alloc o1).alloc o2).alloc o3).cell? ⟨w.heap.size + 1, 4, none⟩ = some (.int .i64 1) := fun o1 o2 o3 => HeapIs.cell (HeapIs.al (HeapIs.al (HeapIs.al c3 (o' := o1)) (o' := o2)) (o' := o3)) (j := 4) (v := .int .i64 1) rfl
  have c3a4_4 : ∀ o1 o2 o3 o4, ((((w3.alloc o1).alloc o2).alloc o3).alloc o4).cell? ⟨w.heap.size + 1, 4, none⟩ = some (.int .i64 1) := fun o1 o2 o3 o4 => HeapIs.cell (HeapIs.al (HeapIs.al (HeapIs.al (HeapIs.al c3 (o' := o1)) (o' := o2)) (o' := o3)) (o' := o4)) (j := 4) (v := .int .i64 1) rfl
  have c3r5 := c3.cell (j := 5) (v := .slice none 0 0) rfl
  have c3a5_1 : ∀ o1, (w3.alloc o1).cell? ⟨w.heap.size + 1, 5, none⟩ = some (.slice none 0 0) := fun o1 => HeapIs.cell (HeapIs.al c3 (o' := o1)) (j := 5) (v := .slice none 0 0) rfl
  have c3a5_2 : ∀ o1 o2, ((w3.alloc o1).alloc o2).cell? ⟨w.heap.size + 1, 5, none⟩ = some (.slice none 0 0) := fun o1 o2 => HeapIs.cell (HeapIs.al (HeapIs.al c3 (o' := o1)) (o' := o2)) (j := 5) (v := .slice none 0 0) rfl
  have c3a5_3 : ∀ o1 o2 o3, (((w3.alloc o1).alloc o2).alloc o3).cell? ⟨w.heap.size + 1, 5, none⟩ = some (.slice none 0 0) := fun o1 o2 o3 => HeapIs.cell (HeapIs.al (HeapIs.al (HeapIs.al c3 (o' := o1)) (o' := o2)) (o' := o3)) (j := 5) (v := .slice none 0 0) rfl
  have c3a5_4 : ∀ o1 o2 o3 o4, ((((w3.alloc o1).alloc o2).alloc o3).alloc o4).cell? ⟨w.heap.size + 1, 5, none⟩ = some (.slice none 0 0) := fun o1 o2 o3 o4 => HeapIs.cell (HeapIs.al (HeapIs.al (HeapIs.al (HeapIs.al c3 (o' := o1)) (o' := o2)) (o' := o3)) (o' := o4)) (j := 5) (v := .slice none 0 0) rfl
  have s3 : HeapIs w3 (w1.heap.size) (.cells #[.int .i64 0, .slice none 0 0, .slice none 0 0, .slice none 0 0] 105 (0, 0)) := s2.al.below hb
  have s3r0 := s3.cell (j := 0) (v := .int .i64 0) rfl
  have s3a0_1 : ∀ o1, (w3.alloc o1).cell? ⟨w1.heap.size, 0, none⟩ = some (.int .i64 0) := fun o1 => HeapIs.cell (HeapIs.al s3 (o' := o1)) (j := 0) (v := .int .i64 0) rfl
  have s3a0_2 : ∀ o1 o2, ((w3.alloc o1).alloc o2).cell? ⟨w1.heap.size, 0, none⟩ = some (.int .i64 0) := fun o1 o2 => HeapIs.cell (HeapIs.al (HeapIs.al s3 (o' := o1)) (o' := o2)) (j := 0) (v := .int .i64 0) rfl
  have s3a0_3 : ∀ o1 o2 o3, (((w3.alloc o1).alloc o2).alloc o3).cell? ⟨w1.heap.size, 0, none⟩ = some (.int .i64 0) := fun o1 o2 o3 => HeapIs.cell (HeapIs.al (HeapIs.al (HeapIs.al s3 (o' := o1)) (o' := o2)) (o' := o3)) (j := 0) (v := .int .i64 0) rfl
  have s3a0_4 : ∀ o1 o2 o3 o4, ((((w3.alloc o1).alloc o2).alloc o3).alloc o4).cell? ⟨w1.heap.size, 0, none⟩ = some (.int .i64 0) := fun o1 o2 o3 o4 => HeapIs.cell (HeapIs.al (HeapIs.al (HeapIs.al (HeapIs.al s3 (o' := o1)) (o' := o2)) (o' := o3)) (o' := o4)) (j := 0) (v := .int .i64 0) rfl
  have s3r1 := s3.cell (j := 1) (v := .slice none 0 0) rfl
  have s3a1_1 : ∀ o1, (w3.alloc o1).cell? ⟨w1.heap.size, 1, none⟩ = some (.slice none 0 0) := fun o1 => HeapIs.cell (HeapIs.al s3 (o' := o1)) (j := 1) (v := .slice none 0 0) rfl
  have s3a1_2 : ∀ o1 o2, ((w3.alloc o1).alloc o2).cell? ⟨w1.heap.size, 1, none⟩ = some (.slice none 0 0) := fun o1 o2 => HeapIs.cell (HeapIs.al (HeapIs.al s3 (o' := o1)) (o' := o2)) (j := 1) (v := .slice none 0 0) rfl
  have s3a1_3 : ∀ o1 o2 o3, (((w3.alloc o1).alloc o2).alloc o3).cell? ⟨w1.heap.size, 1, none⟩ = some (.slice none 0 0) := fun o1 o2 o3 => HeapIs.cell (HeapIs.al (HeapIs.al (HeapIs.al s3 (o' := o1)) (o' := o2)) (o' := o3)) (j := 1) (v := .slice none 0 0) rfl
  have s3a1_4 : ∀ o1 o2 o3 o4, ((((w3.alloc o1).alloc o2).alloc o3).alloc o4).cell? ⟨w1.heap.size, 1, none⟩ = some (.slice none 0 0) := fun o1 o2 o3 o4 => HeapIs.cell (HeapIs.al (HeapIs.al (HeapIs.al (HeapIs.al s3 (o' := o1)) (o' := o2)) (o' := o3)) (o' := o4)) (j := 1) (v := .slice none 0 0) rfl
  have s3r2 := s3.cell (j := 2) (v := .slice none 0 0) rfl
  have s3a2_1 : ∀ o1, (w3.alloc o1).cell? ⟨w1.heap.size, 2, none⟩ = some (.slice none 0 0) := fun o1 => HeapIs.cell (HeapIs.al s3 (o' := o1)) (j := 2) (v := .slice none 0 0) rfl
  have s3a2_2 : ∀ o1 o2, ((w3.alloc o1).alloc o2).cell? ⟨w1.heap.size, 2, none⟩ = some (.slice none 0 0) := fun o1 o2 => HeapIs.cell (HeapIs.al (HeapIs.al s3 (o' := o1)) (o' := o2)) (j := 2) (v := .slice none 0 0) rfl
  have s3a2_3 : ∀ o1 o2 o3, (((w3.alloc o1).alloc o2).alloc o3).cell? ⟨w1.heap.size, 2, none⟩ = some (.slice none 0 0) := fun o1 o2 o3 => HeapIs.cell (HeapIs.al (HeapIs.al (HeapIs.al s3 (o' := o1)) (o' := o2)) (o' := o3)) (j := 2) (v := .slice none 0 0) rfl
  have s3a2_4 : ∀ o1 o2 o3 o4, ((((w3.alloc o1).alloc o2).alloc o3).alloc o4).cell? ⟨w1.heap.size, 2, none⟩ = some (.slice none 0 0) := fun o1 o2 o3 o4 => HeapIs.cell (HeapIs.al (HeapIs.al (HeapIs.al (HeapIs.al s3 (o' := o1)) (o' := o2)) (o' := o3)) (o' := o4)) (j := 2) (v := .slice none 0 0) rfl
  have s3r3 := s3.cell (j := 3) (v := .slice none 0 0) rfl
  have s3a3_1 : ∀ o1, (w3.alloc o1).cell? ⟨w1.heap.size, 3, none⟩ = some (.slice none 0 0) := fun o1 => HeapIs.cell (HeapIs.al s3 (o' := o1)) (j := 3) (v := .slice none 0 0) rfl
  have s3a3_2 : ∀ o1 o2, ((w3.alloc o1).alloc o2).cell? ⟨w1.heap.size, 3, none⟩ = some (.slice none 0 0) := fun o1 o2 => HeapIs.cell (HeapIs.al (HeapIs.al s3 (o' := o1)) (o' := o2)) (j := 3) (v := .slice none 0 0) rfl
  have s3a3_3 : ∀ o1 o2 o3, (((w3.alloc o1).alloc o2).alloc o3).cell? ⟨w1.heap.size, 3, none⟩ = some (.slice none 0 0) := fun o1 o2 o3 => HeapIs.cell (HeapIs.al (HeapIs.al (HeapIs.al s3 (o' := o1)) (o' := o2)) (o' := o3)) (j := 3) (v := .slice none 0 0) rfl
  have s3a3_4 : ∀ o1 o2 o3 o4, ((((w3.alloc o1).alloc o2).alloc o3).alloc o4).cell? ⟨w1.heap.size, 3, none⟩ = some (.slice none 0 0) := fun o1 o2 o3 o4 => HeapIs.cell (HeapIs.al (HeapIs.al (HeapIs.al (HeapIs.al s3 (o' := o1)) (o' := o2)) (o' := o3)) (o' := o4)) (j := 3) (v := .slice none 0 0) rfl
  have t3 : HeapIs w3 (w2.heap.size) (.cells #[.int .i64 0, .slice none 0 0, .slice none 0 0, .slice none 0 0] 105 (0, 0)) := (HeapIs.new w2 _).below hb
  have t3r0 := t3.cell (j := 0) (v := .int .i64 0) rfl
  have t3a0_1 : ∀ o1, (w3.alloc o1).cell? ⟨w2.heap.size, 0, none⟩ = some (.int .i64 0) := fun o1 => HeapIs.cell (HeapIs.al t3 (o' := o1)) (j := 0) (v := .int .i64 0) rfl
  have t3a0_2 : ∀ o1 o2, ((w3.alloc o1).alloc o2).cell? ⟨w2.heap.size, 0, none⟩ = some (.int .i64 0) := fun o1 o2 => HeapIs.cell (HeapIs.al (HeapIs.al t3 (o' := o1)) (o' := o2)) (j := 0) (v := .int .i64 0) rfl
  have t3a0_3 : ∀ o1 o2 o3, (((w3.alloc o1).alloc o2).alloc o3).cell? ⟨w2.heap.size, 0, none⟩ = some (.int .i64 0) := fun o1 o2 o3 => HeapIs.cell (HeapIs.al (HeapIs.al (HeapIs.al t3 (o' := o1)) (o' := o2)) (o' := o3)) (j := 0) (v := .int .i64 0) rfl
  have t3a0_4 : ∀ o1 o2 o3 o4, ((((w3.alloc o1).alloc o2).alloc o3).alloc o4).cell? ⟨w2.heap.size, 0, none⟩ = some (.int .i64 0) := fun o1 o2 o3 o4 => HeapIs.cell (HeapIs.al (HeapIs.al (HeapIs.al (HeapIs.al t3 (o' := o1)) (o' := o2)) (o' := o3)) (o' := o4)) (j := 0) (v := .int .i64 0) rfl
  have t3r1 := t3.cell (j := 1) (v := .slice none 0 0) rfl
  have t3a1_1 : ∀ o1, (w3.alloc o1).cell? ⟨w2.heap.size, 1, none⟩ = some (.slice none 0 0) := fun o1 => HeapIs.cell (HeapIs.al t3 (o' := o1)) (j := 1) (v := .slice none 0 0) rfl
  have t3a1_2 : ∀ o1 o2, ((w3.alloc o1).alloc o2).cell? ⟨w2.heap.size, 1, none⟩ = some (.slice none 0 0) := fun o1 o2 => HeapIs.cell (HeapIs.al (HeapIs.al t3 (o' := o1)) (o' := o2)) (j := 1) (v := .slice none 0 0) rfl
  have t3a1_3 : ∀ o1 o2 o3, (((w3.alloc o1).alloc o2).alloc o3).cell? ⟨w2.heap.size, 1, none⟩ = some (.slice none 0 0) := fun o1 o2 o3 => HeapIs.cell (HeapIs.al (HeapIs.al (HeapIs.al t3 (o' := o1)) (o' := o2)) (o' := o3)) (j := 1) (v := .slice none 0 0) rfl
  have t3a1_4 : ∀ o1 o2 o3 o4, ((((w3.alloc o1).alloc o2).alloc o3).alloc o4).cell? ⟨w2.heap.size, 1, none⟩ = some (.slice none 0 0) := fun o1 o2 o3 o4 => HeapIs.cell (HeapIs.al (HeapIs.al (HeapIs.al (HeapIs.al t3 (o' := o1)) (o' := o2)) (o' := o3)) (o' := o4)) (j := 1) (v := .slice none 0 0) rfl
  have t3r2 := t3.cell (j := 2) (v := .slice none 0 0) rfl
  have t3a2_1 : ∀ o1, (w3.alloc o1).cell? ⟨w2.heap.size, 2, none⟩ = some (.slice none 0 0) := fun o1 => HeapIs.cell (HeapIs.al t3 (o' := o1)) (j := 2) (v := .slice none 0 0) rfl
  have t3a2_2 : ∀ o1 o2, ((w3.alloc o1).alloc o2).cell? ⟨w2.heap.size, 2, none⟩ = some (.slice none 0 0) := fun o1 o2 => HeapIs.cell (HeapIs.al (HeapIs.al t3 (o' := o1)) (o' := o2)) (j := 2) (v := .slice none 0 0) rfl
  have t3a2_3 : ∀ o1 o2 o3, (((w3.alloc o1).alloc o2).alloc o3).cell? ⟨w2.heap.size, 2, none⟩ = some (.slice none 0 0) := fun o1 o2 o3 => HeapIs.cell (HeapIs.al (HeapIs.al (HeapIs.al t3 (o' := o1)) (o' := o2)) (o' := o3)) (j := 2) (v := .slice none 0 0) rfl
  have t3a2_4 : ∀ o1 o2 o3 o4, ((((w3.alloc o1).alloc o2).alloc o3).alloc o4).cell? ⟨w2.heap.size, 2, none⟩ = some (.slice none 0 0) := fun o1 o2 o3 o4 => HeapIs.cell (HeapIs.al (HeapIs.al (HeapIs.al (HeapIs.al t3 (o' := o1)) (o' := o2)) (o' := o3)) (o' := o4)) (j := 2) (v := .slice none 0 0) rfl
  have t3r3 := t3.cell (j := 3) (v := .slice none 0 0) rfl
  have t3a3_1 : ∀ o1, (w3.alloc o1).cell? ⟨w2.heap.size, 3, none⟩ = some (.slice none 0 0) := fun o1 => HeapIs.cell (HeapIs.al t3 (o' := o1)) (j := 3) (v := .slice none 0 0) rfl
  have t3a3_2 : ∀ o1 o2, ((w3.alloc o1).alloc o2).cell? ⟨w2.heap.size, 3, none⟩ = some (.slice none 0 0) := fun o1 o2 => HeapIs.cell (HeapIs.al (HeapIs.al t3 (o' := o1)) (o' := o2)) (j := 3) (v := .slice none 0 0) rfl
  have t3a3_3 : ∀ o1 o2 o3, (((w3.alloc o1).alloc o2).alloc o3).cell? ⟨w2.heap.size, 3, none⟩ = some (.slice none 0 0) := fun o1 o2 o3 => HeapIs.cell (HeapIs.al (HeapIs.al (HeapIs.al t3 (o' := o1)) (o' := o2)) (o' := o3)) (j := 3) (v := .slice none 0 0) rfl
  have t3a3_4 : ∀ o1 o2 o3 o4, ((((w3.alloc o1).alloc o2).alloc o3).alloc o4).cell? ⟨w2.heap.size, 3, none⟩ = some (.slice none 0 0) := fun o1 o2 o3 o4 => HeapIs.cell (HeapIs.al (HeapIs.al (HeapIs.al (HeapIs.al t3 (o' := o1)) (o' := o2)) (o' := o3)) (o' := o4)) (j := 3) (v := .slice none 0 0) rfl
  have HN3 := Lib.hid (HN2.out.al (.cells #[.int .i64 0, .slice none 0 0, .slice none 0 0, .slice none 0 0] 105) |>.later hb)
  have HB3 := HB
  have l3 : HeapIs w3 (pl) (.cells #[.string ⟨#[116, 101, 97]⟩, .int .i64 1] 112 (0, 0)) := hp
  have l3r0 := l3.cell (j := 0) (v := .string ⟨#[116, 101, 97]⟩) rfl
  have l3a0_1 : ∀ o1, (w3.alloc o1).cell? ⟨pl, 0, none⟩ = some (.string ⟨#[116, 101, 97]⟩) := fun o1 => HeapIs.cell (HeapIs.al l3 (o' := o1)) (j := 0) (v := .string ⟨#[116, 101, 97]⟩) rfl
  have l3a0_2 : ∀ o1 o2, ((w3.alloc o1).alloc o2).cell? ⟨pl, 0, none⟩ = some (.string ⟨#[116, 101, 97]⟩) := fun o1 o2 => HeapIs.cell (HeapIs.al (HeapIs.al l3 (o' := o1)) (o' := o2)) (j := 0) (v := .string ⟨#[116, 101, 97]⟩) rfl
  have l3a0_3 : ∀ o1 o2 o3, (((w3.alloc o1).alloc o2).alloc o3).cell? ⟨pl, 0, none⟩ = some (.string ⟨#[116, 101, 97]⟩) := fun o1 o2 o3 => HeapIs.cell (HeapIs.al (HeapIs.al (HeapIs.al l3 (o' := o1)) (o' := o2)) (o' := o3)) (j := 0) (v := .string ⟨#[116, 101, 97]⟩) rfl
  have l3a0_4 : ∀ o1 o2 o3 o4, ((((w3.alloc o1).alloc o2).alloc o3).alloc o4).cell? ⟨pl, 0, none⟩ = some (.string ⟨#[116, 101, 97]⟩) := fun o1 o2 o3 o4 => HeapIs.cell (HeapIs.al (HeapIs.al (HeapIs.al (HeapIs.al l3 (o' := o1)) (o' := o2)) (o' := o3)) (o' := o4)) (j := 0) (v := .string ⟨#[116, 101, 97]⟩) rfl
  have l3r1 := l3.cell (j := 1) (v := .int .i64 1) rfl
  have l3a1_1 : ∀ o1, (w3.alloc o1).cell? ⟨pl, 1, none⟩ = some (.int .i64 1) := fun o1 => HeapIs.cell (HeapIs.al l3 (o' := o1)) (j := 1) (v := .int .i64 1) rfl
  have l3a1_2 : ∀ o1 o2, ((w3.alloc o1).alloc o2).cell? ⟨pl, 1, none⟩ = some (.int .i64 1) := fun o1 o2 => HeapIs.cell (HeapIs.al (HeapIs.al l3 (o' := o1)) (o' := o2)) (j := 1) (v := .int .i64 1) rfl
  have l3a1_3 : ∀ o1 o2 o3, (((w3.alloc o1).alloc o2).alloc o3).cell? ⟨pl, 1, none⟩ = some (.int .i64 1) := fun o1 o2 o3 => HeapIs.cell (HeapIs.al (HeapIs.al (HeapIs.al l3 (o' := o1)) (o' := o2)) (o' := o3)) (j := 1) (v := .int .i64 1) rfl
  have l3a1_4 : ∀ o1 o2 o3 o4, ((((w3.alloc o1).alloc o2).alloc o3).alloc o4).cell? ⟨pl, 1, none⟩ = some (.int .i64 1) := fun o1 o2 o3 o4 => HeapIs.cell (HeapIs.al (HeapIs.al (HeapIs.al (HeapIs.al l3 (o' := o1)) (o' := o2)) (o' := o3)) (o' := o4)) (j := 1) (v := .int .i64 1) rfl
  clear hb
  go_wp2_with fail
  refine wp_loop_rounds 2 ?_
  rw [rounds_succ]
  go_wp2_with fail
  refine (cart_qty _ _).mono ?_
  rintro e w4 ⟨rfl, hb⟩
  replace HB := Lib.hid (show Below w.heap.size w w4 by have h := hb; repeat (first | exact nbl_step HB.out h | replace h := nbl_new h | replace h := nbl_dr h))
  have n4 : HeapIs w4 _ _ := n3.al.al.al.al.below hb
  have c4 : HeapIs w4 _ _ := c3.al.al.al.al.below hb
  have s4 : HeapIs w4 _ _ := s3.al.al.al.al.below hb
  have t4 : HeapIs w4 _ _ := t3.al.al.al.al.below hb
  have p4 : HeapIs w4 _ _ := hp.al.al.al.al.below hb
  have l4 : HeapIs w4 w3.heap.size (.cells #[.slice (some ⟨pl, 0, none⟩) 1 1] 108 (0, 0)) := (HeapIs.new w3 _).al.al.al.below hb
  have y4 : HeapIs w4 (w3.heap.size + 1) (.cells #[.int .i64 1] 3 (0, 0)) := (HeapIs.new1 w3 _ _).al.al.below hb
  have x4 : HeapIs w4 (w3.heap.size + 2) (.cells #[.int .i64 0] 3 (0, 0)) := (HeapIs.new2 w3 _ _ _).al.below hb
  have x4r := x4.cell (j := 0) (v := .int .i64 0) rfl
  have x4f := x4.frozen 0
  have HN4 := Lib.hid ((((HN3.out.al (.cells #[.slice (some ⟨pl, 0, none⟩) 1 1] 108)).al (.cells #[.int .i64 1] 3)).al (.cells #[.int .i64 0] 3)).al (.cells #[.string ⟨#[116, 101, 97]⟩, .int .i64 1] 112) |>.later hb)
  clear hb
  go_wp2_with fail
  rw [rounds_succ]
  have q3 := HB3.out.size
  have z1 := (Array.getElem?_eq_some_iff.1 c1).1
  have z2 := (Array.getElem?_eq_some_iff.1 s2).1
  have z3 := (Array.getElem?_eq_some_iff.1 t3).1
  have z4 := (Array.getElem?_eq_some_iff.1 l3).1
  have k_n : HeapIs ((w4.setCell ⟨w3.heap.size + 2, 0, none⟩ (.int .i64 1)).alloc (.cells #[.int .i64 9, .func (.func 52) #[] #[.pointer (some ⟨w1.heap.size, 0, none⟩), .pointer (some ⟨w.heap.size + 1, 0, none⟩)], .int .i64 14, .func (.func 53) #[] #[.pointer (some ⟨w3.heap.size, 0, none⟩), .pointer (some ⟨w2.heap.size, 0, none⟩)], .int .i64 13, .func (.func 57) #[] #[.pointer (some ⟨w3.heap.size + 2, 0, none⟩), .pointer (some ⟨w2.heap.size, 0, none⟩)], .int .i64 7, .func (.func 58) #[] #[.pointer (some ⟨w3.heap.size, 0, none⟩), .pointer (some ⟨w2.heap.size, 0, none⟩), .pointer (some ⟨w.heap.size, 0, none⟩)], .int .i64 15, .func (.func 60) #[] #[.pointer (some ⟨w2.heap.size, 0, none⟩), .pointer (some ⟨w3.heap.size + 1, 0, none⟩), .pointer (some ⟨w.heap.size, 0, none⟩)], .int .i64 11, .func (.func 63) #[] #[.pointer (some ⟨w.heap.size + 1, 0, none⟩), .pointer (some ⟨w.heap.size, 0, none⟩)], .int .i64 5, .func (.func 65) #[] #[.pointer (some ⟨w.heap.size + 1, 0, none⟩), .pointer (some ⟨w.heap.size, 0, none⟩)]] 60)) _ _ := (n4.apart (g := w3.heap.size + 2) (by omega) (.int .i64 1)).al
  have k_c : HeapIs ((w4.setCell ⟨w3.heap.size + 2, 0, none⟩ (.int .i64 1)).alloc (.cells #[.int .i64 9, .func (.func 52) #[] #[.pointer (some ⟨w1.heap.size, 0, none⟩), .pointer (some ⟨w.heap.size + 1, 0, none⟩)], .int .i64 14, .func (.func 53) #[] #[.pointer (some ⟨w3.heap.size, 0, none⟩), .pointer (some ⟨w2.heap.size, 0, none⟩)], .int .i64 13, .func (.func 57) #[] #[.pointer (some ⟨w3.heap.size + 2, 0, none⟩), .pointer (some ⟨w2.heap.size, 0, none⟩)], .int .i64 7, .func (.func 58) #[] #[.pointer (some ⟨w3.heap.size, 0, none⟩), .pointer (some ⟨w2.heap.size, 0, none⟩), .pointer (some ⟨w.heap.size, 0, none⟩)], .int .i64 15, .func (.func 60) #[] #[.pointer (some ⟨w2.heap.size, 0, none⟩), .pointer (some ⟨w3.heap.size + 1, 0, none⟩), .pointer (some ⟨w.heap.size, 0, none⟩)], .int .i64 11, .func (.func 63) #[] #[.pointer (some ⟨w.heap.size + 1, 0, none⟩), .pointer (some ⟨w.heap.size, 0, none⟩)], .int .i64 5, .func (.func 65) #[] #[.pointer (some ⟨w.heap.size + 1, 0, none⟩), .pointer (some ⟨w.heap.size, 0, none⟩)]] 60)) _ _ := (c4.apart (g := w3.heap.size + 2) (by omega) (.int .i64 1)).al
  have k_s1 : HeapIs ((w4.setCell ⟨w3.heap.size + 2, 0, none⟩ (.int .i64 1)).alloc (.cells #[.int .i64 9, .func (.func 52) #[] #[.pointer (some ⟨w1.heap.size, 0, none⟩), .pointer (some ⟨w.heap.size + 1, 0, none⟩)], .int .i64 14, .func (.func 53) #[] #[.pointer (some ⟨w3.heap.size, 0, none⟩), .pointer (some ⟨w2.heap.size, 0, none⟩)], .int .i64 13, .func (.func 57) #[] #[.pointer (some ⟨w3.heap.size + 2, 0, none⟩), .pointer (some ⟨w2.heap.size, 0, none⟩)], .int .i64 7, .func (.func 58) #[] #[.pointer (some ⟨w3.heap.size, 0, none⟩), .pointer (some ⟨w2.heap.size, 0, none⟩), .pointer (some ⟨w.heap.size, 0, none⟩)], .int .i64 15, .func (.func 60) #[] #[.pointer (some ⟨w2.heap.size, 0, none⟩), .pointer (some ⟨w3.heap.size + 1, 0, none⟩), .pointer (some ⟨w.heap.size, 0, none⟩)], .int .i64 11, .func (.func 63) #[] #[.pointer (some ⟨w.heap.size + 1, 0, none⟩), .pointer (some ⟨w.heap.size, 0, none⟩)], .int .i64 5, .func (.func 65) #[] #[.pointer (some ⟨w.heap.size + 1, 0, none⟩), .pointer (some ⟨w.heap.size, 0, none⟩)]] 60)) _ _ := (s4.apart (g := w3.heap.size + 2) (by omega) (.int .i64 1)).al
  have k_s2 : HeapIs ((w4.setCell ⟨w3.heap.size + 2, 0, none⟩ (.int .i64 1)).alloc (.cells #[.int .i64 9, .func (.func 52) #[] #[.pointer (some ⟨w1.heap.size, 0, none⟩), .pointer (some ⟨w.heap.size + 1, 0, none⟩)], .int .i64 14, .func (.func 53) #[] #[.pointer (some ⟨w3.heap.size, 0, none⟩), .pointer (some ⟨w2.heap.size, 0, none⟩)], .int .i64 13, .func (.func 57) #[] #[.pointer (some ⟨w3.heap.size + 2, 0, none⟩), .pointer (some ⟨w2.heap.size, 0, none⟩)], .int .i64 7, .func (.func 58) #[] #[.pointer (some ⟨w3.heap.size, 0, none⟩), .pointer (some ⟨w2.heap.size, 0, none⟩), .pointer (some ⟨w.heap.size, 0, none⟩)], .int .i64 15, .func (.func 60) #[] #[.pointer (some ⟨w2.heap.size, 0, none⟩), .pointer (some ⟨w3.heap.size + 1, 0, none⟩), .pointer (some ⟨w.heap.size, 0, none⟩)], .int .i64 11, .func (.func 63) #[] #[.pointer (some ⟨w.heap.size + 1, 0, none⟩), .pointer (some ⟨w.heap.size, 0, none⟩)], .int .i64 5, .func (.func 65) #[] #[.pointer (some ⟨w.heap.size + 1, 0, none⟩), .pointer (some ⟨w.heap.size, 0, none⟩)]] 60)) _ _ := (t4.apart (g := w3.heap.size + 2) (by omega) (.int .i64 1)).al
  have k_p : HeapIs ((w4.setCell ⟨w3.heap.size + 2, 0, none⟩ (.int .i64 1)).alloc (.cells #[.int .i64 9, .func (.func 52) #[] #[.pointer (some ⟨w1.heap.size, 0, none⟩), .pointer (some ⟨w.heap.size + 1, 0, none⟩)], .int .i64 14, .func (.func 53) #[] #[.pointer (some ⟨w3.heap.size, 0, none⟩), .pointer (some ⟨w2.heap.size, 0, none⟩)], .int .i64 13, .func (.func 57) #[] #[.pointer (some ⟨w3.heap.size + 2, 0, none⟩), .pointer (some ⟨w2.heap.size, 0, none⟩)], .int .i64 7, .func (.func 58) #[] #[.pointer (some ⟨w3.heap.size, 0, none⟩), .pointer (some ⟨w2.heap.size, 0, none⟩), .pointer (some ⟨w.heap.size, 0, none⟩)], .int .i64 15, .func (.func 60) #[] #[.pointer (some ⟨w2.heap.size, 0, none⟩), .pointer (some ⟨w3.heap.size + 1, 0, none⟩), .pointer (some ⟨w.heap.size, 0, none⟩)], .int .i64 11, .func (.func 63) #[] #[.pointer (some ⟨w.heap.size + 1, 0, none⟩), .pointer (some ⟨w.heap.size, 0, none⟩)], .int .i64 5, .func (.func 65) #[] #[.pointer (some ⟨w.heap.size + 1, 0, none⟩), .pointer (some ⟨w.heap.size, 0, none⟩)]] 60)) _ _ := (p4.apart (g := w3.heap.size + 2) (by omega) (.int .i64 1)).al
  have k_l : HeapIs ((w4.setCell ⟨w3.heap.size + 2, 0, none⟩ (.int .i64 1)).alloc (.cells #[.int .i64 9, .func (.func 52) #[] #[.pointer (some ⟨w1.heap.size, 0, none⟩), .pointer (some ⟨w.heap.size + 1, 0, none⟩)], .int .i64 14, .func (.func 53) #[] #[.pointer (some ⟨w3.heap.size, 0, none⟩), .pointer (some ⟨w2.heap.size, 0, none⟩)], .int .i64 13, .func (.func 57) #[] #[.pointer (some ⟨w3.heap.size + 2, 0, none⟩), .pointer (some ⟨w2.heap.size, 0, none⟩)], .int .i64 7, .func (.func 58) #[] #[.pointer (some ⟨w3.heap.size, 0, none⟩), .pointer (some ⟨w2.heap.size, 0, none⟩), .pointer (some ⟨w.heap.size, 0, none⟩)], .int .i64 15, .func (.func 60) #[] #[.pointer (some ⟨w2.heap.size, 0, none⟩), .pointer (some ⟨w3.heap.size + 1, 0, none⟩), .pointer (some ⟨w.heap.size, 0, none⟩)], .int .i64 11, .func (.func 63) #[] #[.pointer (some ⟨w.heap.size + 1, 0, none⟩), .pointer (some ⟨w.heap.size, 0, none⟩)], .int .i64 5, .func (.func 65) #[] #[.pointer (some ⟨w.heap.size + 1, 0, none⟩), .pointer (some ⟨w.heap.size, 0, none⟩)]] 60)) _ _ := (l4.apart (g := w3.heap.size + 2) (by omega) (.int .i64 1)).al
  have k_y : HeapIs ((w4.setCell ⟨w3.heap.size + 2, 0, none⟩ (.int .i64 1)).alloc (.cells #[.int .i64 9, .func (.func 52) #[] #[.pointer (some ⟨w1.heap.size, 0, none⟩), .pointer (some ⟨w.heap.size + 1, 0, none⟩)], .int .i64 14, .func (.func 53) #[] #[.pointer (some ⟨w3.heap.size, 0, none⟩), .pointer (some ⟨w2.heap.size, 0, none⟩)], .int .i64 13, .func (.func 57) #[] #[.pointer (some ⟨w3.heap.size + 2, 0, none⟩), .pointer (some ⟨w2.heap.size, 0, none⟩)], .int .i64 7, .func (.func 58) #[] #[.pointer (some ⟨w3.heap.size, 0, none⟩), .pointer (some ⟨w2.heap.size, 0, none⟩), .pointer (some ⟨w.heap.size, 0, none⟩)], .int .i64 15, .func (.func 60) #[] #[.pointer (some ⟨w2.heap.size, 0, none⟩), .pointer (some ⟨w3.heap.size + 1, 0, none⟩), .pointer (some ⟨w.heap.size, 0, none⟩)], .int .i64 11, .func (.func 63) #[] #[.pointer (some ⟨w.heap.size + 1, 0, none⟩), .pointer (some ⟨w.heap.size, 0, none⟩)], .int .i64 5, .func (.func 65) #[] #[.pointer (some ⟨w.heap.size + 1, 0, none⟩), .pointer (some ⟨w.heap.size, 0, none⟩)]] 60)) _ _ := (y4.apart (g := w3.heap.size + 2) (by omega) (.int .i64 1)).al
  have k_x : HeapIs ((w4.setCell ⟨w3.heap.size + 2, 0, none⟩ (.int .i64 1)).alloc (.cells #[.int .i64 9, .func (.func 52) #[] #[.pointer (some ⟨w1.heap.size, 0, none⟩), .pointer (some ⟨w.heap.size + 1, 0, none⟩)], .int .i64 14, .func (.func 53) #[] #[.pointer (some ⟨w3.heap.size, 0, none⟩), .pointer (some ⟨w2.heap.size, 0, none⟩)], .int .i64 13, .func (.func 57) #[] #[.pointer (some ⟨w3.heap.size + 2, 0, none⟩), .pointer (some ⟨w2.heap.size, 0, none⟩)], .int .i64 7, .func (.func 58) #[] #[.pointer (some ⟨w3.heap.size, 0, none⟩), .pointer (some ⟨w2.heap.size, 0, none⟩), .pointer (some ⟨w.heap.size, 0, none⟩)], .int .i64 15, .func (.func 60) #[] #[.pointer (some ⟨w2.heap.size, 0, none⟩), .pointer (some ⟨w3.heap.size + 1, 0, none⟩), .pointer (some ⟨w.heap.size, 0, none⟩)], .int .i64 11, .func (.func 63) #[] #[.pointer (some ⟨w.heap.size + 1, 0, none⟩), .pointer (some ⟨w.heap.size, 0, none⟩)], .int .i64 5, .func (.func 65) #[] #[.pointer (some ⟨w.heap.size + 1, 0, none⟩), .pointer (some ⟨w.heap.size, 0, none⟩)]] 60)) _ _ := (HeapIs.here x4 (v := .int .i64 1)).al
  have k_r : HeapIs ((w4.setCell ⟨w3.heap.size + 2, 0, none⟩ (.int .i64 1)).alloc (.cells #[.int .i64 9, .func (.func 52) #[] #[.pointer (some ⟨w1.heap.size, 0, none⟩), .pointer (some ⟨w.heap.size + 1, 0, none⟩)], .int .i64 14, .func (.func 53) #[] #[.pointer (some ⟨w3.heap.size, 0, none⟩), .pointer (some ⟨w2.heap.size, 0, none⟩)], .int .i64 13, .func (.func 57) #[] #[.pointer (some ⟨w3.heap.size + 2, 0, none⟩), .pointer (some ⟨w2.heap.size, 0, none⟩)], .int .i64 7, .func (.func 58) #[] #[.pointer (some ⟨w3.heap.size, 0, none⟩), .pointer (some ⟨w2.heap.size, 0, none⟩), .pointer (some ⟨w.heap.size, 0, none⟩)], .int .i64 15, .func (.func 60) #[] #[.pointer (some ⟨w2.heap.size, 0, none⟩), .pointer (some ⟨w3.heap.size + 1, 0, none⟩), .pointer (some ⟨w.heap.size, 0, none⟩)], .int .i64 11, .func (.func 63) #[] #[.pointer (some ⟨w.heap.size + 1, 0, none⟩), .pointer (some ⟨w.heap.size, 0, none⟩)], .int .i64 5, .func (.func 65) #[] #[.pointer (some ⟨w.heap.size + 1, 0, none⟩), .pointer (some ⟨w.heap.size, 0, none⟩)]] 60)) w4.heap.size _ := HeapIs.newS w4 _ _ _
  have HSB : Hid (Below w.heap.size w (w4.setCell ⟨w3.heap.size + 2, 0, none⟩ (.int .i64 1))) := Lib.hid (nbl_set HB.out (by show w.heap.size ≤ w3.heap.size + 2; omega))
  have HNt := Lib.hid (HN4.out.set2 (g := w3.heap.size + 2) (v := .int .i64 1) (HN.out.lt (by omega)) (.cells #[.int .i64 9, .func (.func 52) #[] #[.pointer (some ⟨w1.heap.size, 0, none⟩), .pointer (some ⟨w.heap.size + 1, 0, none⟩)], .int .i64 14, .func (.func 53) #[] #[.pointer (some ⟨w3.heap.size, 0, none⟩), .pointer (some ⟨w2.heap.size, 0, none⟩)], .int .i64 13, .func (.func 57) #[] #[.pointer (some ⟨w3.heap.size + 2, 0, none⟩), .pointer (some ⟨w2.heap.size, 0, none⟩)], .int .i64 7, .func (.func 58) #[] #[.pointer (some ⟨w3.heap.size, 0, none⟩), .pointer (some ⟨w2.heap.size, 0, none⟩), .pointer (some ⟨w.heap.size, 0, none⟩)], .int .i64 15, .func (.func 60) #[] #[.pointer (some ⟨w2.heap.size, 0, none⟩), .pointer (some ⟨w3.heap.size + 1, 0, none⟩), .pointer (some ⟨w.heap.size, 0, none⟩)], .int .i64 11, .func (.func 63) #[] #[.pointer (some ⟨w.heap.size + 1, 0, none⟩), .pointer (some ⟨w.heap.size, 0, none⟩)], .int .i64 5, .func (.func 65) #[] #[.pointer (some ⟨w.heap.size + 1, 0, none⟩), .pointer (some ⟨w.heap.size, 0, none⟩)]] 60))
  have HEt := Lib.hid (HE.out.later (nbl_al (o := .cells #[.int .i64 9, .func (.func 52) #[] #[.pointer (some ⟨w1.heap.size, 0, none⟩), .pointer (some ⟨w.heap.size + 1, 0, none⟩)], .int .i64 14, .func (.func 53) #[] #[.pointer (some ⟨w3.heap.size, 0, none⟩), .pointer (some ⟨w2.heap.size, 0, none⟩)], .int .i64 13, .func (.func 57) #[] #[.pointer (some ⟨w3.heap.size + 2, 0, none⟩), .pointer (some ⟨w2.heap.size, 0, none⟩)], .int .i64 7, .func (.func 58) #[] #[.pointer (some ⟨w3.heap.size, 0, none⟩), .pointer (some ⟨w2.heap.size, 0, none⟩), .pointer (some ⟨w.heap.size, 0, none⟩)], .int .i64 15, .func (.func 60) #[] #[.pointer (some ⟨w2.heap.size, 0, none⟩), .pointer (some ⟨w3.heap.size + 1, 0, none⟩), .pointer (some ⟨w.heap.size, 0, none⟩)], .int .i64 11, .func (.func 63) #[] #[.pointer (some ⟨w.heap.size + 1, 0, none⟩), .pointer (some ⟨w.heap.size, 0, none⟩)], .int .i64 5, .func (.func 65) #[] #[.pointer (some ⟨w.heap.size + 1, 0, none⟩), .pointer (some ⟨w.heap.size, 0, none⟩)]] 60) HSB.out))
  have HK := Lib.hid (take_state_7 (w4.heap.size) (w.heap.size + 1) (w.heap.size) (w1.heap.size) (w2.heap.size) (w3.heap.size) (w3.heap.size + 2) (w3.heap.size + 1) ((w4.setCell ⟨w3.heap.size + 2, 0, none⟩ (.int .i64 1)).alloc (.cells #[.int .i64 9, .func (.func 52) #[] #[.pointer (some ⟨w1.heap.size, 0, none⟩), .pointer (some ⟨w.heap.size + 1, 0, none⟩)], .int .i64 14, .func (.func 53) #[] #[.pointer (some ⟨w3.heap.size, 0, none⟩), .pointer (some ⟨w2.heap.size, 0, none⟩)], .int .i64 13, .func (.func 57) #[] #[.pointer (some ⟨w3.heap.size + 2, 0, none⟩), .pointer (some ⟨w2.heap.size, 0, none⟩)], .int .i64 7, .func (.func 58) #[] #[.pointer (some ⟨w3.heap.size, 0, none⟩), .pointer (some ⟨w2.heap.size, 0, none⟩), .pointer (some ⟨w.heap.size, 0, none⟩)], .int .i64 15, .func (.func 60) #[] #[.pointer (some ⟨w2.heap.size, 0, none⟩), .pointer (some ⟨w3.heap.size + 1, 0, none⟩), .pointer (some ⟨w.heap.size, 0, none⟩)], .int .i64 11, .func (.func 63) #[] #[.pointer (some ⟨w.heap.size + 1, 0, none⟩), .pointer (some ⟨w.heap.size, 0, none⟩)], .int .i64 5, .func (.func 65) #[] #[.pointer (some ⟨w.heap.size + 1, 0, none⟩), .pointer (some ⟨w.heap.size, 0, none⟩)]] 60)) k_r (fun W hb => state1_add1 _ _ W (k_s1.below hb) (k_c.below hb)) (fun W hb => state2_tea _ _ pl W (k_l.below hb) (k_p.below hb) (k_s2.below hb) (HEt.out.later hb)) (fun W hb => state3_1 _ _ W (k_x.below hb) (k_s2.below hb)) (fun W hb => state4_tea _ _ _ pl pn pt pd pi po ps bm W (k_l.below hb) (k_s2.below hb) (k_n.below hb) (HNt.out.later hb)) (fun W hb => state5_1 _ _ _ pn pt pd pi po ps bm W (k_s2.below hb) (k_y.below hb) (k_n.below hb) (HNt.out.later hb)) (fun W hb => state6_add1 _ _ W (k_c.below hb)) (fun W hb => state7_add1 _ _ W (k_c.below hb)))
  clear k_n k_c k_s1 k_s2 k_l k_y k_x k_r k_p
  go_wp2_with fail
  refine HK.out.mono ?_
  rintro e w5 ⟨rfl, hb⟩
  replace HB := Lib.hid (show Below w.heap.size w w5 from nbl_step (nbl_al HSB.out) hb)
  clear hb
  go_wp2
  go_ret
  exact ⟨rfl, by repeat (first | exact HB.out | apply nbl_al | apply nbl_drw | apply nbl_drewN | refine Below.setCell ?_ (Nat.le_refl _) _ | refine nbl_set ?_ (by first | exact Nat.le_refl _ | (simp; omega) | (simp; done) | omega) )⟩

end Go.Proofs.YtmocoiamhphhnaaGreatDoor

