/- The reference's new node. -/
import Derived.Test.YthfleaogajbpfaaGreatDoorRnd
set_option linter.unusedVariables false
set_option linter.unusedSimpArgs false
namespace Go.Proofs.YthfleaogajbpfaaGreatDoor
open Go.RowKit Go.MapKept
theorem right_cases (r s i o : Int) : (decide (1 ≤ r) = false) ∨ (decide (1 ≤ r) = true ∧ decide (r ≤ 65535) = false) ∨ (decide (1 ≤ r) = true ∧ decide (r ≤ 65535) = true ∧ decide (1 ≤ s) = false) ∨ (decide (1 ≤ r) = true ∧ decide (r ≤ 65535) = true ∧ decide (1 ≤ s) = true ∧ decide (s ≤ 1024) = false) ∨ (decide (1 ≤ r) = true ∧ decide (r ≤ 65535) = true ∧ decide (1 ≤ s) = true ∧ decide (s ≤ 1024) = true ∧ decide (1 ≤ i) = false) ∨ (decide (1 ≤ r) = true ∧ decide (r ≤ 65535) = true ∧ decide (1 ≤ s) = true ∧ decide (s ≤ 1024) = true ∧ decide (1 ≤ i) = true ∧ decide (i ≤ 4096) = false) ∨ (decide (1 ≤ r) = true ∧ decide (r ≤ 65535) = true ∧ decide (1 ≤ s) = true ∧ decide (s ≤ 1024) = true ∧ decide (1 ≤ i) = true ∧ decide (i ≤ 4096) = true ∧ decide (1 ≤ o) = false) ∨ (decide (1 ≤ r) = true ∧ decide (r ≤ 65535) = true ∧ decide (1 ≤ s) = true ∧ decide (s ≤ 1024) = true ∧ decide (1 ≤ i) = true ∧ decide (i ≤ 4096) = true ∧ decide (1 ≤ o) = true ∧ decide (o ≤ 256) = false) ∨ (decide (1 ≤ r) = true ∧ decide (r ≤ 65535) = true ∧ decide (1 ≤ s) = true ∧ decide (s ≤ 1024) = true ∧ decide (1 ≤ i) = true ∧ decide (i ≤ 4096) = true ∧ decide (1 ≤ o) = true ∧ decide (o ≤ 256) = true) := by
  cases decide (1 ≤ r) <;> cases decide (r ≤ 65535) <;> cases decide (1 ≤ s) <;> cases decide (s ≤ 1024) <;> cases decide (1 ≤ i) <;> cases decide (i ≤ 4096) <;> cases decide (1 ≤ o) <;> cases decide (o ≤ 256) <;> decide
set_option maxRecDepth 100000 in
set_option maxHeartbeats 2000000 in
theorem right_any (w : World) (r s i o : Int) : Calls Tryz.prog 6 #[.agg #[.int .i64 r, .int .i64 s, .int .i64 i, .int .i64 o]] w fun e w' => e = .returned (.bool (okN r s i o)) ∧ Below w.heap.size w w' := by
  rcases right_cases r s i o with h0 | ⟨h0, h1⟩ | ⟨h0, h1, h2⟩ | ⟨h0, h1, h2, h3⟩ | ⟨h0, h1, h2, h3, h4⟩ | ⟨h0, h1, h2, h3, h4, h5⟩ | ⟨h0, h1, h2, h3, h4, h5, h6⟩ | ⟨h0, h1, h2, h3, h4, h5, h6, h7⟩ | ⟨h0, h1, h2, h3, h4, h5, h6, h7⟩
  · have hN : okN r s i o = false := by simp only [okN, okT, okR, okI, okO, h0, Bool.and_false, Bool.false_and, Bool.and_true, Bool.true_and, Bool.and_self]
    rw [hN]
    clear hN
    go_enter Tryz.func6, Tryz.ntmps6
    go_wp2_with fail
    go_ret
    exact ⟨rfl, below_alloc _ _⟩
  · have hN : okN r s i o = false := by simp only [okN, okT, okR, okI, okO, h0, h1, Bool.and_false, Bool.false_and, Bool.and_true, Bool.true_and, Bool.and_self]
    rw [hN]
    clear hN
    go_enter Tryz.func6, Tryz.ntmps6
    go_wp2_with fail
    go_ret
    exact ⟨rfl, below_alloc _ _⟩
  · have hN : okN r s i o = false := by simp only [okN, okT, okR, okI, okO, h0, h1, h2, Bool.and_false, Bool.false_and, Bool.and_true, Bool.true_and, Bool.and_self]
    rw [hN]
    clear hN
    go_enter Tryz.func6, Tryz.ntmps6
    go_wp2_with fail
    go_ret
    exact ⟨rfl, below_alloc _ _⟩
  · have hN : okN r s i o = false := by simp only [okN, okT, okR, okI, okO, h0, h1, h2, h3, Bool.and_false, Bool.false_and, Bool.and_true, Bool.true_and, Bool.and_self]
    rw [hN]
    clear hN
    go_enter Tryz.func6, Tryz.ntmps6
    go_wp2_with fail
    go_ret
    exact ⟨rfl, below_alloc _ _⟩
  · have hN : okN r s i o = false := by simp only [okN, okT, okR, okI, okO, h0, h1, h2, h3, h4, Bool.and_false, Bool.false_and, Bool.and_true, Bool.true_and, Bool.and_self]
    rw [hN]
    clear hN
    go_enter Tryz.func6, Tryz.ntmps6
    go_wp2_with fail
    go_ret
    exact ⟨rfl, below_alloc _ _⟩
  · have hN : okN r s i o = false := by simp only [okN, okT, okR, okI, okO, h0, h1, h2, h3, h4, h5, Bool.and_false, Bool.false_and, Bool.and_true, Bool.true_and, Bool.and_self]
    rw [hN]
    clear hN
    go_enter Tryz.func6, Tryz.ntmps6
    go_wp2_with fail
    go_ret
    exact ⟨rfl, below_alloc _ _⟩
  · have hN : okN r s i o = false := by simp only [okN, okT, okR, okI, okO, h0, h1, h2, h3, h4, h5, h6, Bool.and_false, Bool.false_and, Bool.and_true, Bool.true_and, Bool.and_self]
    rw [hN]
    clear hN
    go_enter Tryz.func6, Tryz.ntmps6
    go_wp2_with fail
    go_ret
    exact ⟨rfl, below_alloc _ _⟩
  · have hN : okN r s i o = false := by simp only [okN, okT, okR, okI, okO, h0, h1, h2, h3, h4, h5, h6, h7, Bool.and_false, Bool.false_and, Bool.and_true, Bool.true_and, Bool.and_self]
    rw [hN]
    clear hN
    go_enter Tryz.func6, Tryz.ntmps6
    go_wp2_with fail
    go_ret
    exact ⟨rfl, below_alloc _ _⟩
  · have hN : okN r s i o = true := by simp only [okN, okT, okR, okI, okO, h0, h1, h2, h3, h4, h5, h6, h7, Bool.and_false, Bool.false_and, Bool.and_true, Bool.true_and, Bool.and_self]
    rw [hN]
    clear hN
    go_enter Tryz.func6, Tryz.ntmps6
    go_wp2_with fail
    go_ret
    exact ⟨rfl, below_alloc _ _⟩
/-- A new node of the reference at m: its table at tt, its outbox at u. -/
structure RefNew (w : World) (m tt u : Nat) (r : Int) (S : Nat) (i o : Int) : Prop where
  c0 : w.cell? ⟨m, 0, none⟩ = some (.int .i64 r)
  c1 : w.cell? ⟨m, 1, none⟩ = some (.int .i64 (S : Int))
  c2 : w.cell? ⟨m, 2, none⟩ = some (.int .i64 i)
  c3 : w.cell? ⟨m, 3, none⟩ = some (.int .i64 o)
  c4 : w.cell? ⟨m, 4, none⟩ = some (.pointer (some ⟨tt, 0, none⟩))
  c5 : w.cell? ⟨m, 5, none⟩ = some (.int .i64 0)
  c6 : w.cell? ⟨m, 6, none⟩ = some (.slice none 0 0)
  c7 : w.cell? ⟨m, 7, none⟩ = some (.pointer (some ⟨u, 0, none⟩))
  c8 : w.cell? ⟨m, 8, none⟩ = some (.bool false)
  t0 : w.cell? ⟨tt, 0, none⟩ = some (.slice none 0 0)
  u1 : w.cell? ⟨u, 1, none⟩ = some (.slice none 0 0)
  u2 : w.cell? ⟨u, 2, none⟩ = some (.slice none 0 0)
  ord : tt < u ∧ u < m
theorem RefNew.below {w w' : World} {m tt u : Nat} {r : Int} {S : Nat} {i o : Int} (h : RefNew w m tt u r S i o) (hb : Below w.heap.size w w') : RefNew w' m tt u r S i o :=
  ⟨cell_below hb h.c0, cell_below hb h.c1, cell_below hb h.c2, cell_below hb h.c3, cell_below hb h.c4, cell_below hb h.c5, cell_below hb h.c6, cell_below hb h.c7, cell_below hb h.c8, cell_below hb h.t0, cell_below hb h.u1, cell_below hb h.u2, h.ord⟩
theorem size_allocN (w : World) (x : Obj) : (w.alloc x).heap.size = w.heap.size + 1 := Array.size_push _
theorem RefNew.mk3 (w1 : World) (t1 t2 t3 : TypeId) (r : Int) (S : Nat) (i o : Int) : RefNew (((w1.alloc (.cells #[.slice none 0 0, .slice none 0 0, .slice none 0 0] t1)).alloc (.cells #[.int .i64 o, .slice none 0 0, .slice none 0 0] t2)).alloc (.cells #[.int .i64 r, .int .i64 (S : Int), .int .i64 i, .int .i64 o, .pointer (some ⟨w1.heap.size, 0, none⟩), .int .i64 0, .slice none 0 0, .pointer (some ⟨w1.heap.size + 1, 0, none⟩), .bool false] t3)) (w1.heap.size + 1 + 1) w1.heap.size (w1.heap.size + 1) r S i o := by
  have ba := below_alloc w1 (.cells #[.slice none 0 0, .slice none 0 0, .slice none 0 0] t1)
  have n1 : ∀ k, (w1.alloc (.cells #[.slice none 0 0, .slice none 0 0, .slice none 0 0] t1)).cell? ⟨w1.heap.size, k, none⟩ = #[Value.slice none 0 0, .slice none 0 0, .slice none 0 0][k]? := fun k => new_cells _ _ _ k
  have sa := size_allocN w1 (.cells #[.slice none 0 0, .slice none 0 0, .slice none 0 0] t1)
  rw [← sa]
  generalize (w1.alloc (.cells #[.slice none 0 0, .slice none 0 0, .slice none 0 0] t1)) = a at *
  have bb := below_alloc a (.cells #[.int .i64 o, .slice none 0 0, .slice none 0 0] t2)
  have n2 : ∀ k, (a.alloc (.cells #[.int .i64 o, .slice none 0 0, .slice none 0 0] t2)).cell? ⟨a.heap.size, k, none⟩ = #[Value.int .i64 o, .slice none 0 0, .slice none 0 0][k]? := fun k => new_cells _ _ _ k
  have sb := size_allocN a (.cells #[.int .i64 o, .slice none 0 0, .slice none 0 0] t2)
  rw [← sb]
  generalize (a.alloc (.cells #[.int .i64 o, .slice none 0 0, .slice none 0 0] t2)) = b at *
  have bc := below_alloc b (.cells #[.int .i64 r, .int .i64 (S : Int), .int .i64 i, .int .i64 o, .pointer (some ⟨w1.heap.size, 0, none⟩), .int .i64 0, .slice none 0 0, .pointer (some ⟨a.heap.size, 0, none⟩), .bool false] t3)
  have n3 : ∀ k, (b.alloc (.cells #[.int .i64 r, .int .i64 (S : Int), .int .i64 i, .int .i64 o, .pointer (some ⟨w1.heap.size, 0, none⟩), .int .i64 0, .slice none 0 0, .pointer (some ⟨a.heap.size, 0, none⟩), .bool false] t3)).cell? ⟨b.heap.size, k, none⟩ = #[Value.int .i64 r, .int .i64 (S : Int), .int .i64 i, .int .i64 o, .pointer (some ⟨w1.heap.size, 0, none⟩), .int .i64 0, .slice none 0 0, .pointer (some ⟨a.heap.size, 0, none⟩), .bool false][k]? := fun k => new_cells _ _ _ k
  exact ⟨n3 0, n3 1, n3 2, n3 3, n3 4, n3 5, n3 6, n3 7, n3 8, cell_below bc (cell_below bb (n1 0)), cell_below bc (n2 1), cell_below bc (n2 2), by omega, by omega⟩
set_option maxRecDepth 100000 in
set_option maxHeartbeats 2000000 in
theorem refnew_good (w : World) (r : Int) (S : Nat) (i o : Int) (h : okN r S i o = true) : Calls Tryz.prog 38 #[.agg #[.int .i64 r, .int .i64 (S : Int), .int .i64 i, .int .i64 o]] w fun e w' => (∃ m tt u, e = .returned (.tuple #[.pointer (some ⟨m, 0, none⟩), .int .i64 0]) ∧ RefNew w' m tt u r S i o ∧ w.heap.size ≤ tt) ∧ Below w.heap.size w w' := by
  have HR := Lib.hid (fun W => right_any W r S i o)
  rw [h] at HR
  clear h
  go_enter Tryz.func38, Tryz.ntmps38
  go_wp2_with (first | (go_at_call 6; refine (HR.out _).mono ?_; rintro e w1 ⟨rfl, hb⟩; have HB1 := Lib.hid (nbl_step (below_alloc _ _) hb); have q0 : w1.cell? ⟨w.heap.size, 0, none⟩ = some (.int .i64 r) := cell_below hb (new_cells w _ _ 0); have q1 : w1.cell? ⟨w.heap.size, 1, none⟩ = some (.int .i64 (S : Int)) := cell_below hb (new_cells w _ _ 1); have q2 : w1.cell? ⟨w.heap.size, 2, none⟩ = some (.int .i64 i) := cell_below hb (new_cells w _ _ 2); have q3 : w1.cell? ⟨w.heap.size, 3, none⟩ = some (.int .i64 o) := cell_below hb (new_cells w _ _ 3); have p3 : (w1.alloc (.cells #[.slice none 0 0, .slice none 0 0, .slice none 0 0] 81)).cell? ⟨w.heap.size, 3, none⟩ = some (.int .i64 o) := cell_below (below_alloc _ _) q3; clear hb))
  go_ret2
  exact ⟨⟨_, _, _, rfl, RefNew.mk3 w1 _ _ _ r S i o, HB1.out.size⟩, nbl_al (nbl_al (nbl_al HB1.out))⟩
set_option maxRecDepth 100000 in
theorem fresh_good (w : World) (r : Int) (S : Nat) (i o : Int) (h : okN r S i o = true) : Calls Tryz.prog 9 #[.agg #[.int .i64 r, .int .i64 (S : Int), .int .i64 i, .int .i64 o]] w fun e w' => (∃ m tt u, e = .returned (.pointer (some ⟨m, 0, none⟩)) ∧ RefNew w' m tt u r S i o) ∧ Below w.heap.size w w' := by
  have HR := Lib.hid (fun W => refnew_good W r S i o h)
  clear h
  go_enter Tryz.func9, Tryz.ntmps9
  go_wp2_with (first | (go_at_call 38; refine (HR.out _).mono ?_; rintro e w1 ⟨⟨m, tt, u, rfl, hm, _⟩, hb⟩; have HB1 := Lib.hid (nbl_step (below_alloc _ _) hb); have HM := Lib.hid hm; clear hb hm))
  go_ret
  exact ⟨⟨_, _, _, rfl, HM.out⟩, HB1.out⟩
end Go.Proofs.YthfleaogajbpfaaGreatDoor
