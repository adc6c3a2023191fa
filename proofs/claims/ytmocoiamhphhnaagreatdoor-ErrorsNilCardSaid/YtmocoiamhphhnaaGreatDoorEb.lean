/- What functions give at empty carts (printed by wip/genE2.py). -/
import Derived.Test.YtmocoiamhphhnaaGreatDoorEa
import Derived.Deep.RegionHeld3
import Derived.Deep.RegionLaw
import Derived.Deep.RegionWith
import Derived.Laws.Tables
namespace Go.Proofs.YtmocoiamhphhnaaGreatDoor
set_option linter.unusedVariables false
set_option linter.unusedSimpArgs false
open Go.RowKit Go.MapKept

theorem ncell_below {w w' : World} (hb : Below w.heap.size w w') {a : Addr} {v : Value} (h : w.cell? a = some v) : w'.cell? a = some v :=
  (hb.cell (World.block_lt_of_cell? w a h)).trans h
/-- What stands in a block. -/
def HeapIs (W : World) (p : Nat) (o : Obj) : Prop := W.heap[p]? = some o
theorem HeapIs.raw {W : World} {p : Nat} {o : Obj} (h : HeapIs W p o) : W.heap[p]? = some o := h
theorem HeapIs.below {W W' : World} {p : Nat} {o : Obj} (h : HeapIs W p o) (hb : Below W.heap.size W W') : HeapIs W' p o := (hb.block p (Array.getElem?_eq_some_iff.1 h).1).trans h
theorem HeapIs.drew {W : World} {p : Nat} {o : Obj} (h : HeapIs W p o) : HeapIs W.drew p o := h
theorem HeapIs.new (W : World) (o : Obj) : HeapIs (W.alloc o) W.heap.size o := heap_alloc_new W o
theorem HeapIs.al {W : World} {p : Nat} {o o' : Obj} (h : HeapIs W p o) : HeapIs (W.alloc o') p o := h.below ((Below.refl _ _).alloc (Nat.le_refl _) _)
theorem HeapIs.cell {W : World} {p : Nat} {cs : Array Value} {t : TypeId} {fr : Nat × Nat} (h : HeapIs W p (.cells cs t fr)) {j : Nat} {v : Value} (hv : cs[j]? = some v) : W.cell? ⟨p, j, none⟩ = some v := by
  have h' : W.heap[p]? = some (.cells cs t fr) := h
  unfold World.cell?
  dsimp only
  rw [h']
  exact hv
theorem HeapIs.frozen {W : World} {p : Nat} {cs : Array Value} {t : TypeId} (h : HeapIs W p (.cells cs t (0, 0))) (j : Nat) : W.frozen? ⟨p, j, none⟩ = false := by
  have h' : W.heap[p]? = some (.cells cs t (0, 0)) := h
  unfold World.frozen?
  dsimp only
  rw [h']
  simp
theorem modify_same {A : Array Obj} {g : Nat} (hlt : g < A.size) (f : Obj → Obj) (hf : f A[g] = A[g]) : A.modify g f = A := by
  apply Array.ext
  · simp
  · intro i h1 h2
    rw [Array.getElem_modify]
    split
    · rename_i h
      subst h
      exact hf
    · rfl
theorem HeapIs.set {W : World} {p : Nat} {cs : Array Value} {t : TypeId} {fr : Nat × Nat} (h : HeapIs W p (.cells cs t fr)) {j : Nat} {v : Value} (hv : cs[j]? = some v) : W.setCell ⟨p, j, none⟩ v = W := by
  have h' : W.heap[p]? = some (.cells cs t fr) := h
  have hlt : p < W.heap.size := (Array.getElem?_eq_some_iff.1 h').1
  have hgv : W.heap[p] = .cells cs t fr := (Array.getElem?_eq_some_iff.1 h').2
  have hj : j < cs.size := (Array.getElem?_eq_some_iff.1 hv).1
  have hjv : cs[j] = v := (Array.getElem?_eq_some_iff.1 hv).2
  unfold World.setCell
  dsimp only
  rw [modify_same hlt _ (by
    rw [hgv]
    have e : cs.setIfInBounds j v = cs := by
      apply Array.ext
      · simp
      · intro i h1 h2
        rw [Array.getElem_setIfInBounds]
        split
        · rename_i h
          subst h
          exact hjv.symm
        · rfl
    simp [e])]
theorem setRow_same {w : World} {g : Nat} {cs : Array Value} {t : TypeId} {fr : Nat × Nat} (hg : w.heap[g]? = some (.cells cs t fr)) : w.setRow g cs = w := by
  have hlt : g < w.heap.size := (Array.getElem?_eq_some_iff.1 hg).1
  have hv : w.heap[g] = .cells cs t fr := (Array.getElem?_eq_some_iff.1 hg).2
  unfold World.setRow
  have e : ∀ f : Obj → Obj, f w.heap[g] = w.heap[g] → w.heap.modify g f = w.heap := by
    intro f hf
    apply Array.ext
    · simp
    · intro i h1 h2
      rw [Array.getElem_modify]
      split
      · rename_i h
        subst h
        exact hf
      · rfl
  rw [e _ (by rw [hv])]
/-- A store of what stands there already: at a step of a region that draws its order. -/
theorem step_store_same {P : Program} {w : World} {ops : Array Oper} {o : Oper} {a : Act} {K : Act → World → Prop} {Q : Exit → Act → World → Prop} {E : Prop} (hgd : o.guard = none) (ty : TypeId) (x y : Operand) (ho : o.op = .store ty x y)
    (g : Nat) (cells : Array Value) (t : TypeId) (hg : HeapIs w g (.cells cells t (0, 0))) (hx : a.eval x = .pointer (some ⟨g, 0, none⟩)) (hy : a.eval y = .agg cells)
    (hi : (P.info? ty).map (·.size) = some cells.size) (h1 : cells.all (·.oneCell') = true)
    (h : K (a.put o.dst undef) w) : if Region.wanted o (yielded ops a.tmps) = true then Oper.wp P o a w K Q else E := by
  have hw : Region.wanted o (yielded ops a.tmps) = true := by simp [Region.wanted, hgd]
  rw [if_pos hw]
  refine wp_store_row ty x y ho g cells hx hy t cells hg.raw hi rfl h1 ?_
  rw [setRow_same hg.raw]
  exact h
theorem len_zero (w : World) : Calls Tryz.prog 88 #[.int .u64 0] w fun e w' => e = .returned (.int .i64 0) ∧ Below w.heap.size w w' := by
  refine (Tryz.bits_Len 0 w (by omega) (by omega)).mono ?_
  rintro e w' ⟨rfl, hw⟩
  exact ⟨rfl, hw ▸ Below.refl _ _⟩

set_option maxRecDepth 100000 in
set_option maxHeartbeats 1000000 in
theorem pdq_dot (fv : Value) (w : World)  :
    Calls Tryz.prog 305 #[.slice none 0 0, .int .i64 0, .int .i64 0, .int .i64 0, fv] w fun e w' => e = .returned (.tuple #[]) ∧ Below w.heap.size w w' := by
  have HB := Lib.hid (Below.refl w.heap.size w)
  go_enter Tryz.func305, Tryz.ntmps305
  go_wp2_with fail
  refine wp_loop_rounds 1 ?_
  rw [rounds_succ]
  go_wp2_with fail
  refine (insertion_dot _ _).mono ?_
  rintro e w1 ⟨rfl, hb⟩
  replace HB := Lib.hid (show Below w.heap.size w w1 by have h := hb; repeat (first | exact nbl_step HB.out h | replace h := nbl_new h | replace h := nbl_dr h))
  clear hb
  go_wp2
  refine bodyPost_ret (results_none rfl _ _ _) rfl ?_
  exact ⟨rfl, by repeat (first | exact HB.out | apply nbl_al | apply nbl_drw)⟩

set_option maxRecDepth 100000 in
set_option maxHeartbeats 1000000 in
theorem sort_dot (fv : Value) (w : World)  :
    Calls Tryz.prog 272 #[.slice none 0 0, fv] w fun e w' => e = .returned (.tuple #[]) ∧ Below w.heap.size w w' := by
  have HB := Lib.hid (Below.refl w.heap.size w)
  go_enter Tryz.func272, Tryz.ntmps272
  go_wp2_with fail
  refine (len_zero _).mono ?_
  rintro e w1 ⟨rfl, hb⟩
  replace HB := Lib.hid (show Below w.heap.size w w1 by have h := hb; repeat (first | exact nbl_step HB.out h | replace h := nbl_new h | replace h := nbl_dr h))
  clear hb
  go_wp2_with fail
  refine (pdq_dot _ _).mono ?_
  rintro e w2 ⟨rfl, hb⟩
  replace HB := Lib.hid (show Below w.heap.size w w2 by have h := hb; repeat (first | exact nbl_step HB.out h | replace h := nbl_new h | replace h := nbl_dr h))
  clear hb
  go_wp2
  go_end0
  exact ⟨rfl, by repeat (first | exact HB.out | apply nbl_al | apply nbl_drw)⟩

set_option maxRecDepth 100000 in
set_option maxHeartbeats 1000000 in
theorem set_nil  (w : World)  :
    Calls Tryz.prog 219 #[.slice none 0 0] w fun e w' => e = .returned (.slice none 0 0) ∧ Below w.heap.size w w' := by
  have HB := Lib.hid (Below.refl w.heap.size w)
  go_enter Tryz.func219, Tryz.ntmps219
  go_wp2_with fail
  refine (clone_dot _).mono ?_
  rintro e w1 ⟨rfl, hb⟩
  replace HB := Lib.hid (show Below w.heap.size w w1 by have h := hb; repeat (first | exact nbl_step HB.out h | replace h := nbl_new h | replace h := nbl_dr h))
  clear hb
  go_wp2_with fail
  refine (sort_dot _ _).mono ?_
  rintro e w2 ⟨rfl, hb⟩
  replace HB := Lib.hid (show Below w.heap.size w w2 by have h := hb; repeat (first | exact nbl_step HB.out h | replace h := nbl_new h | replace h := nbl_dr h))
  clear hb
  go_wp2_with fail
  refine (compact_dot _).mono ?_
  rintro e w3 ⟨rfl, hb⟩
  replace HB := Lib.hid (show Below w.heap.size w w3 by have h := hb; repeat (first | exact nbl_step HB.out h | replace h := nbl_new h | replace h := nbl_dr h))
  clear hb
  go_wp2
  go_ret
  exact ⟨rfl, by repeat (first | exact HB.out | apply nbl_al | apply nbl_drw)⟩

set_option maxRecDepth 100000 in
set_option maxHeartbeats 1000000 in
theorem ctx_valid  (w : World)  :
    Calls Tryz.prog 216 #[.agg #[.slice none 0 0, .slice none 0 0]] w fun e w' => e = .returned (.bool true) ∧ Below w.heap.size w w' := by
  have HB := Lib.hid (Below.refl w.heap.size w)
  go_enter Tryz.func216, Tryz.ntmps216
  go_wp2_with fail
  refine (valid_vec _).mono ?_
  rintro e w1 ⟨rfl, hb⟩
  replace HB := Lib.hid (show Below w.heap.size w w1 by have h := hb; repeat (first | exact nbl_step HB.out h | replace h := nbl_new h | replace h := nbl_dr h))
  have c1_0 : w1.cell? ⟨w.heap.size, 0, none⟩ = some (.slice none 0 0) := ncell_below hb (by first | assumption | simp)
  have c1_1 : w1.cell? ⟨w.heap.size, 1, none⟩ = some (.slice none 0 0) := ncell_below hb (by first | assumption | simp)
  clear hb
  go_wp2_with fail
  refine (isSet_nil _).mono ?_
  rintro e w2 ⟨rfl, hb⟩
  replace HB := Lib.hid (show Below w.heap.size w w2 by have h := hb; repeat (first | exact nbl_step HB.out h | replace h := nbl_new h | replace h := nbl_dr h))
  have c2_0 : w2.cell? ⟨w.heap.size, 0, none⟩ = some (.slice none 0 0) := ncell_below hb (by first | assumption | simp)
  have c2_1 : w2.cell? ⟨w.heap.size, 1, none⟩ = some (.slice none 0 0) := ncell_below hb (by first | assumption | simp)
  clear hb
  go_wp2_with fail
  refine (valid_dots _).mono ?_
  rintro e w3 ⟨rfl, hb⟩
  replace HB := Lib.hid (show Below w.heap.size w w3 by have h := hb; repeat (first | exact nbl_step HB.out h | replace h := nbl_new h | replace h := nbl_dr h))
  have c3_0 : w3.cell? ⟨w.heap.size, 0, none⟩ = some (.slice none 0 0) := ncell_below hb (by first | assumption | simp)
  have c3_1 : w3.cell? ⟨w.heap.size, 1, none⟩ = some (.slice none 0 0) := ncell_below hb (by first | assumption | simp)
  clear hb
  go_wp2
  go_ret
  exact ⟨rfl, by repeat (first | exact HB.out | apply nbl_al | apply nbl_drw)⟩

set_option maxRecDepth 100000 in
set_option maxHeartbeats 1000000 in
theorem ctx_compact  (w : World)  :
    Calls Tryz.prog 153 #[.agg #[.slice none 0 0, .slice none 0 0]] w fun e w' => e = .returned (.bool true) ∧ Below w.heap.size w w' := by
  have HB := Lib.hid (Below.refl w.heap.size w)
  go_enter Tryz.func153, Tryz.ntmps153
  go_wp2_with fail
  refine (ctx_valid _).mono ?_
  rintro e w1 ⟨rfl, hb⟩
  replace HB := Lib.hid (show Below w.heap.size w w1 by have h := hb; repeat (first | exact nbl_step HB.out h | replace h := nbl_new h | replace h := nbl_dr h))
  have c1_0 : w1.cell? ⟨w.heap.size, 0, none⟩ = some (.slice none 0 0) := ncell_below hb (by first | assumption | simp)
  have c1_1 : w1.cell? ⟨w.heap.size, 1, none⟩ = some (.slice none 0 0) := ncell_below hb (by first | assumption | simp)
  clear hb
  go_wp2_with fail
  refine (containsFunc_dot _ _).mono ?_
  rintro e w2 ⟨rfl, hb⟩
  replace HB := Lib.hid (show Below w.heap.size w w2 by have h := hb; repeat (first | exact nbl_step HB.out h | replace h := nbl_new h | replace h := nbl_dr h))
  have c2_0 : w2.cell? ⟨w.heap.size, 0, none⟩ = some (.slice none 0 0) := ncell_below hb (by first | assumption | simp)
  have c2_1 : w2.cell? ⟨w.heap.size, 1, none⟩ = some (.slice none 0 0) := ncell_below hb (by first | assumption | simp)
  clear hb
  go_wp2
  go_ret
  exact ⟨rfl, by repeat (first | exact HB.out | apply nbl_al | apply nbl_drw)⟩

set_option maxRecDepth 100000 in
set_option maxHeartbeats 1000000 in
theorem ctx_missing  (w : World)  :
    Calls Tryz.prog 155 #[.agg #[.slice none 0 0, .slice none 0 0], .slice none 0 0] w fun e w' => e = .returned (.slice none 0 0) ∧ Below w.heap.size w w' := by
  have HB := Lib.hid (Below.refl w.heap.size w)
  go_enter Tryz.func155, Tryz.ntmps155
  go_wp2_with fail
  refine (set_nil _).mono ?_
  rintro e w1 ⟨rfl, hb⟩
  replace HB := Lib.hid (show Below w.heap.size w w1 by have h := hb; repeat (first | exact nbl_step HB.out h | replace h := nbl_new h | replace h := nbl_dr h))
  clear hb
  go_wp2_with fail
  refine (deleteFunc_dot _ _).mono ?_
  rintro e w2 ⟨rfl, hb⟩
  replace HB := Lib.hid (show Below w.heap.size w w2 by have h := hb; repeat (first | exact nbl_step HB.out h | replace h := nbl_new h | replace h := nbl_dr h))
  clear hb
  go_wp2
  go_ret
  exact ⟨rfl, by repeat (first | exact HB.out | apply nbl_al | apply nbl_drw)⟩

set_option maxRecDepth 100000 in
set_option maxHeartbeats 1000000 in
theorem items_dots  (w : World)  :
    Calls Tryz.prog 156 #[.slice none 0 0] w fun e w' => e = .returned (.slice none 0 0) ∧ Below w.heap.size w w' := by
  have HB := Lib.hid (Below.refl w.heap.size w)
  go_enter Tryz.func156, Tryz.ntmps156
  go_wp2_with fail
  refine wp_loop_rounds 1 ?_
  rw [rounds_succ]
  go_wp2_with fail
  refine (set_nil _).mono ?_
  rintro e w1 ⟨rfl, hb⟩
  replace HB := Lib.hid (show Below w.heap.size w w1 by have h := hb; repeat (first | exact nbl_step HB.out h | replace h := nbl_new h | replace h := nbl_dr h))
  clear hb
  go_wp2
  go_ret
  exact ⟨rfl, by repeat (first | exact HB.out | apply nbl_al | apply nbl_drw)⟩

set_option maxRecDepth 100000 in
set_option maxHeartbeats 1000000 in
theorem items_valid  (w : World)  :
    Calls Tryz.prog 154 #[.slice none 0 0] w fun e w' => e = .returned (.bool true) ∧ Below w.heap.size w w' := by
  have HB := Lib.hid (Below.refl w.heap.size w)
  go_enter Tryz.func154, Tryz.ntmps154
  go_wp2_with fail
  refine wp_loop_rounds 1 ?_
  rw [rounds_succ]
  go_wp2_with fail
  refine (items_dots _).mono ?_
  rintro e w1 ⟨rfl, hb⟩
  replace HB := Lib.hid (show Below w.heap.size w w1 by have h := hb; repeat (first | exact nbl_step HB.out h | replace h := nbl_new h | replace h := nbl_dr h))
  clear hb
  go_wp2
  go_ret
  exact ⟨rfl, by repeat (first | exact HB.out | apply nbl_al | apply nbl_drw)⟩

set_option maxRecDepth 100000 in
set_option maxHeartbeats 1000000 in
theorem items_index (n : ByteArray) (w : World)  :
    Calls Tryz.prog 157 #[.slice none 0 0, .string n] w fun e w' => e = .returned (.int .i64 (-1)) ∧ Below w.heap.size w w' := by
  have HB := Lib.hid (Below.refl w.heap.size w)
  go_enter Tryz.func157, Tryz.ntmps157
  go_wp2_with fail
  refine (indexFunc_item _ _).mono ?_
  rintro e w1 ⟨rfl, hb⟩
  replace HB := Lib.hid (show Below w.heap.size w w1 by have h := hb; repeat (first | exact nbl_step HB.out h | replace h := nbl_new h | replace h := nbl_dr h))
  clear hb
  go_wp2
  go_ret
  exact ⟨rfl, by repeat (first | exact HB.out | apply nbl_al | apply nbl_drw)⟩

end Go.Proofs.YtmocoiamhphhnaaGreatDoor

