/- A node's parts, new. -/
import Derived.Test.YthfleaogajbpfaaGreatDoorProg
import Derived.Deep.MidRow
import Derived.Deep.LoopGhost
import Derived.Deep.RegionHeld3
import Derived.Deep.QuietTactic
import Derived.WalkSpells
import Derived.WalkLawsBesides
import Derived.BigQuiet
import Derived.OwnWalk
import Derived.Carry
import Derived.Lib.Hide
import Derived.Laws.ResultCell
import Derived.Laws.MakeOwn
set_option linter.unusedVariables false
set_option linter.unusedSimpArgs false
namespace Go.Proofs.YthfleaogajbpfaaGreatDoor
open Go.RowKit Go.MapKept
theorem nbl_step {w a b : World} (h : Below w.heap.size w a) (k : Below a.heap.size a b) : Below w.heap.size w b := h.trans (k.mono h.size)
theorem nbl_drewN {w a : World} {n : Nat} (h : Below w.heap.size w a) : Below w.heap.size w (a.drewN n) := ⟨h.os, h.tape, h.output, h.size, h.block⟩
theorem below_alloc (w : World) (o : Obj) : Below w.heap.size w (w.alloc o) := (Below.refl _ w).alloc (Nat.le_refl _) o
theorem nbl_al {w a : World} {o : Obj} (h : Below w.heap.size w a) : Below w.heap.size w (a.alloc o) := nbl_step h (below_alloc _ _)
theorem new_cells (w : World) (cs : Array Value) (ty : TypeId) (i : Nat) : (w.alloc (.cells cs ty)).cell? ⟨w.heap.size, i, none⟩ = cs[i]? := by
  have hh : (w.alloc (.cells cs ty)).heap[w.heap.size]? = some (.cells cs ty (0, 0)) := by
    show (w.heap.push _)[w.heap.size]? = _
    simp
  unfold World.cell?
  dsimp only
  rw [hh]
  rfl
theorem cell_below {w w' : World} (hb : Below w.heap.size w w') {a : Addr} {v : Value} (h : w.cell? a = some v) : w'.cell? a = some v :=
  (hb.cell (World.block_lt_of_cell? w _ h)).trans h
theorem inbox_good (w : World) (n : Int) (h1 : 1 ≤ n) (h2 : n ≤ 4096) : Calls Tryz.prog 16 #[.int .i64 n] w fun e w' => e = .returned (.tuple #[.pointer (some ⟨w.heap.size, 0, none⟩), .int .i64 0]) ∧ w' = w.alloc (.cells #[.int .i64 n, .slice none 0 0, .int .i64 0, .int .i64 0] 134) := by
  have d1 : decide (n < 1) = false := decide_eq_false (by omega)
  have d2 : decide (4096 < n) = false := decide_eq_false (by omega)
  go_enter Tryz.func16, Tryz.ntmps16
  go_wp2
  go_ret2
  exact ⟨rfl, rfl⟩
theorem inbox_bad (w : World) (n : Int) (h : n < 1 ∨ 4096 < n) : Calls Tryz.prog 16 #[.int .i64 n] w fun e w' => e = .returned (.tuple #[.pointer none, .int .i64 2]) ∧ w' = w := by
  by_cases c : n < 1
  · have d1 : decide (n < 1) = true := decide_eq_true c
    clear h
    go_enter Tryz.func16, Tryz.ntmps16
    go_wp2
    go_ret2
    exact ⟨rfl, rfl⟩
  · have d1 : decide (n < 1) = false := decide_eq_false c
    have d2 : decide (4096 < n) = true := decide_eq_true (by omega)
    clear h
    go_enter Tryz.func16, Tryz.ntmps16
    go_wp2
    go_ret2
    exact ⟨rfl, rfl⟩
theorem outbox_good (w : World) (n : Int) (h1 : 1 ≤ n) (h2 : n ≤ 256) : Calls Tryz.prog 17 #[.int .i64 n] w fun e w' => e = .returned (.tuple #[.pointer (some ⟨w.heap.size, 0, none⟩), .int .i64 0]) ∧ w' = w.alloc (.cells #[.int .i64 n, .slice none 0 0, .slice none 0 0] 136) := by
  have d1 : decide (n < 1) = false := decide_eq_false (by omega)
  have d2 : decide (256 < n) = false := decide_eq_false (by omega)
  go_enter Tryz.func17, Tryz.ntmps17
  go_wp2
  go_ret2
  exact ⟨rfl, rfl⟩
theorem outbox_bad (w : World) (n : Int) (h : n < 1 ∨ 256 < n) : Calls Tryz.prog 17 #[.int .i64 n] w fun e w' => e = .returned (.tuple #[.pointer none, .int .i64 2]) ∧ w' = w := by
  by_cases c : n < 1
  · have d1 : decide (n < 1) = true := decide_eq_true c
    clear h
    go_enter Tryz.func17, Tryz.ntmps17
    go_wp2
    go_ret2
    exact ⟨rfl, rfl⟩
  · have d1 : decide (n < 1) = false := decide_eq_false c
    have d2 : decide (256 < n) = true := decide_eq_true (by omega)
    clear h
    go_enter Tryz.func17, Tryz.ntmps17
    go_wp2
    go_ret2
    exact ⟨rfl, rfl⟩
def okR (r : Int) : Bool := decide (1 ≤ r) && decide (r ≤ 65535)
theorem dotvalid_one (w : World) (r : Int) : Calls Tryz.prog 55 #[.agg #[.int .i64 r, .int .i64 1]] w fun e w' => e = .returned (.bool (okR r)) ∧ Below w.heap.size w w' := by
  have HO : Hid (okR r = (decide (1 ≤ r) && decide (r ≤ 65535))) := Lib.hid rfl
  generalize okR r = b at *
  cases h1 : decide (1 ≤ r) <;> cases h2 : decide (r ≤ 65535)
  all_goals
    rw [h1, h2] at HO
    go_enter Tryz.func55, Tryz.ntmps55
    go_wp2
    go_ret
    exact ⟨by rw [HO.out]; rfl, below_alloc _ _⟩
theorem counter_good (w : World) (r : Int) (h : okR r = true) : Calls Tryz.prog 15 #[.int .i64 r, .int .i64 0] w fun e w' => (∃ p, e = .returned (.tuple #[.pointer (some ⟨p, 0, none⟩), .int .i64 0]) ∧ w.heap.size ≤ p ∧ w'.cell? ⟨p, 0, none⟩ = some (.int .i64 r) ∧ w'.cell? ⟨p, 1, none⟩ = some (.int .i64 0)) ∧ Below w.heap.size w w' := by
  have HV := Lib.hid (dotvalid_one w r)
  rw [h] at HV
  clear h
  go_enter Tryz.func15, Tryz.ntmps15
  go_wp2_with (first | (go_at_call 55; refine HV.out.mono ?_; rintro e w2 ⟨rfl, hb⟩; have HB := Lib.hid hb; clear hb))
  go_ret2
  exact ⟨⟨_, rfl, HB.out.size, new_cells _ _ _ 0, new_cells _ _ _ 1⟩, nbl_al HB.out⟩
theorem counter_bad (w : World) (r : Int) (h : okR r = false) : Calls Tryz.prog 15 #[.int .i64 r, .int .i64 0] w fun e w' => e = .returned (.tuple #[.pointer none, .int .i64 2]) ∧ Below w.heap.size w w' := by
  have HV := Lib.hid (dotvalid_one w r)
  rw [h] at HV
  clear h
  go_enter Tryz.func15, Tryz.ntmps15
  go_wp2_with (first | (go_at_call 55; refine HV.out.mono ?_; rintro e w2 ⟨rfl, hb⟩; have HB := Lib.hid hb; clear hb))
  go_ret2
  exact ⟨rfl, HB.out⟩
theorem table_bad (w : World) (n : Int) (h : n < 1 ∨ 1024 < n) : Calls Tryz.prog 14 #[.int .i64 n] w fun e w' => e = .returned (.tuple #[.pointer none, .int .i64 2]) ∧ w' = w := by
  by_cases c : n < 1
  · have d1 : decide (n < 1) = true := decide_eq_true c
    clear h
    go_enter Tryz.func14, Tryz.ntmps14
    go_wp2_with fail
    go_ret2
    exact ⟨rfl, rfl⟩
  · have d1 : decide (n < 1) = false := decide_eq_false c
    have d2 : decide (1024 < n) = true := decide_eq_true (by omega)
    clear h
    go_enter Tryz.func14, Tryz.ntmps14
    go_wp2_with fail
    go_ret2
    exact ⟨rfl, rfl⟩
/-- k of S stripes are there, all empty. -/
structure Stripes (w : World) (g S k : Nat) : Prop where
  there : w.there g 0 S
  lt : g < w.heap.size
  full : ∀ i, i < k → ∃ b, w.cell? ⟨g, i, none⟩ = some (.map (some b)) ∧ w.heap[b]? = some (.map #[] 0)
  above : ∀ i b, i < k → w.cell? ⟨g, i, none⟩ = some (.map (some b)) → g < b
theorem Stripes.below {w w' : World} {g S k : Nat} (h : Stripes w g S k) (hb : Below w.heap.size w w') : Stripes w' g S k :=
  ⟨fun j hj => by rw [hb.cell (p := ⟨g, 0 + j, none⟩) h.lt, hb.frozen (p := ⟨g, 0 + j, none⟩) h.lt]; exact h.there j hj, Nat.lt_of_lt_of_le h.lt hb.size, fun i hi => by
    obtain ⟨b, h1, h2⟩ := h.full i hi
    exact ⟨b, (hb.cell (p := ⟨g, i, none⟩) h.lt).trans h1, (hb.block b (Array.getElem?_eq_some_iff.1 h2).1).trans h2⟩, fun i b hi hc => h.above i b hi ((hb.cell (p := ⟨g, i, none⟩) h.lt).symm.trans hc)⟩
theorem Stripes.step {w : World} {g S k : Nat} (h : Stripes w g S k) (hk : k < S) {b : Nat} (hb : w.heap[b]? = some (.map #[] 0)) (hgb : g < b) : Stripes (w.setCell ⟨g, k, none⟩ (.map (some b))) g S (k + 1) := by
  have e : w.setCell ⟨g, k, none⟩ (.map (some b)) = w.setCells g k [.map (some b)] := rfl
  have hne : b ≠ g := by omega
  have ht := h.there k hk
  rw [Nat.zero_add] at ht
  obtain ⟨u, hu⟩ := Option.isSome_iff_exists.1 ht.1
  refine ⟨by rw [e]; exact World.there_setCells h.there _ _ _, by rw [World.size_setCell]; exact h.lt, fun i hi => ?_, fun i b2 hi hc => ?_⟩
  rotate_left
  · by_cases hik : i = k
    · subst hik
      rw [World.cell?_setCell_same _ _ _ hu] at hc
      injection hc with hc
      injection hc with hc
      injection hc with hc
      omega
    · exact h.above i b2 (by omega) ((World.cell?_setCell_other _ _ _ _ (fun e => by injection e with _ e2; omega)).symm.trans hc)
  by_cases hik : i = k
  · subst hik
    exact ⟨b, World.cell?_setCell_same _ _ _ hu, (Below.heap_setCell _ _ _ _ hne).trans hb⟩
  · obtain ⟨b2, h1, h2⟩ := h.full i (by omega)
    have hb2 : b2 ≠ g := fun e2 => by
      rw [e2] at h2
      have := ht.1
      simp [World.cell?, h2] at this
    exact ⟨b2, (World.cell?_setCell_other _ _ _ _ (fun e => by injection e with _ e2; omega)).trans h1, (Below.heap_setCell _ _ _ _ hb2).trans h2⟩
theorem info_map : (Tryz.prog.info? 127).map (fun i => (i.zero, i.size, i.bytes)) = some (some (.map none), 1, 8) := by kernel_rfl
theorem make_maps (M : Nat) (hM : M ≤ 1000000) (w : World) : (Instr.makeSlice 124 (.int .i64 (M : Int)) (.int .i64 (M : Int))).run Tryz.prog w = .ok (.slice (some ⟨w.heap.size, 0, none⟩) M M) (w.alloc (.cells (madeCells #[.map none] M) 127)) := by
  obtain ⟨ib, hi0, hi1, hi2, hi3⟩ := info_parts info_map
  have := run_make (P := Tryz.prog) w 124 _ ib _ Tryz.underlying124 hi0 hi1 .i64 .i64 M M (by omega) (by omega) (by rw [hi3]; omega) (by omega)
  simpa [hi2, Value.cells] using this
end Go.Proofs.YthfleaogajbpfaaGreatDoor
