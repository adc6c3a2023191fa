/- The walks of a source's short methods. -/
import Derived.Test.YtecnchmcdbcofaaGreatDoorMka
import Derived.Test.YtecnchmcdbcofaaGreatDoorUh
set_option linter.unusedVariables false
set_option linter.unusedSimpArgs false
namespace Go.Proofs.YtecnchmcdbcofaaGreatDoor
open Go.RowKit Go.MapKept
/-- A source in the heap: its configuration and its state. -/
structure SrcAt (w : World) (p : Nat) (c : LC) (s : Int) : Prop where
  lt : p < w.heap.size
  c0 : w.cell? ⟨p, 0, none⟩ = some (.int .u64 c.seed)
  c1 : w.cell? ⟨p, 1, none⟩ = some (.int .i64 c.keys)
  c2 : w.cell? ⟨p, 2, none⟩ = some (.int .i64 c.items)
  c3 : w.cell? ⟨p, 3, none⟩ = some (.int .i64 c.reads)
  c4 : w.cell? ⟨p, 4, none⟩ = some (.int .u64 s)
  fz : w.frozen? ⟨p, 4, none⟩ = false
theorem SrcAt.below {w w' : World} {p : Nat} {c : LC} {s : Int} (h : SrcAt w p c s) (hb : Below w.heap.size w w') : SrcAt w' p c s :=
  ⟨Nat.lt_of_lt_of_le h.lt hb.size, (hb.cell h.lt).trans h.c0, (hb.cell h.lt).trans h.c1, (hb.cell h.lt).trans h.c2, (hb.cell h.lt).trans h.c3, (hb.cell h.lt).trans h.c4, (hb.frozen (p := ⟨p, 4, none⟩) h.lt).trans h.fz⟩
theorem SrcAt.set {w : World} {p : Nat} {c : LC} {s : Int} (h : SrcAt w p c s) (s' : Int) : SrcAt (w.setCell ⟨p, 4, none⟩ (.int .u64 s')) p c s' := by
  have ne : ∀ i, i ≠ 4 → ((⟨p, 4, none⟩ : Addr) ≠ ⟨p, i, none⟩) := fun i hi e => by
    injection e with e1 e2
    exact hi e2.symm
  refine ⟨by rw [World.size_setCell]; exact h.lt, ?_, ?_, ?_, ?_, World.cell?_setCell_same _ _ _ h.c4, ?_⟩
  · rw [World.cell?_setCell_other _ _ _ _ (ne 0 (by omega))]; exact h.c0
  · rw [World.cell?_setCell_other _ _ _ _ (ne 1 (by omega))]; exact h.c1
  · rw [World.cell?_setCell_other _ _ _ _ (ne 2 (by omega))]; exact h.c2
  · rw [World.cell?_setCell_other _ _ _ _ (ne 3 (by omega))]; exact h.c3
  · exact (World.frozen?_setCells p [.int .u64 s'] 4 w ⟨p, 4, none⟩).trans h.fz
theorem SrcAt.new (w : World) (c : LC) (s : Int) (t : TypeId) : SrcAt (w.alloc (.cells #[.int .u64 c.seed, .int .i64 c.keys, .int .i64 c.items, .int .i64 c.reads, .int .u64 s] t)) w.heap.size c s := by
  refine ⟨?_, new_cells _ _ _ 0, new_cells _ _ _ 1, new_cells _ _ _ 2, new_cells _ _ _ 3, new_cells _ _ _ 4, ?_⟩
  · show w.heap.size < (w.heap.push _).size
    rw [Array.size_push]
    omega
  · have hh : (w.alloc (.cells #[.int .u64 c.seed, .int .i64 c.keys, .int .i64 c.items, .int .i64 c.reads, .int .u64 s] t)).heap[w.heap.size]? = some (.cells #[.int .u64 c.seed, .int .i64 c.keys, .int .i64 c.items, .int .i64 c.reads, .int .u64 s] t (0, 0)) := by
      show (w.heap.push _)[w.heap.size]? = _
      simp
    simp only [World.frozen?]
    rw [hh]
    simp
theorem srcnone_any (w : World) (p : Nat) (c : LC) (s : Int) (hc : c.Ok) (h : SrcAt w p c s) : Calls Tryz.prog 53 #[.pointer (some ⟨p, 0, none⟩)] w fun e w' => e = .returned (.bool false) ∧ w' = w := by
  have k1 := h.c1
  have n1 : ¬ c.keys = 0 := by have := hc.k1; omega
  have d1 : decide (c.keys = 0) = false := decide_eq_false n1
  clear h hc
  generalize c.keys = k at *
  have N1 := Lib.hid n1
  go_enter Tryz.func53, Tryz.ntmps53
  go_wp2
  go_ret
  refine ⟨?_, rfl⟩
  show Ending.returned (.bool (k == 0)) = _
  rw [show (k == 0) = false from beq_eq_false_iff_ne.2 N1.out]
set_option maxRecDepth 100000 in
theorem number_any (w : World) (p : Nat) (c : LC) (s : Int) (h : SrcAt w p c s) : Calls Tryz.prog 54 #[.pointer (some ⟨p, 0, none⟩)] w fun e w' => e = .returned (.int .i64 (lcg s / 8589934592)) ∧ w' = w.setCell ⟨p, 4, none⟩ (.int .u64 (lcg s)) := by
  have k4 := h.c4
  have z4 := h.fz
  clear h
  go_enter Tryz.func54, Tryz.ntmps54
  go_wp2
  go_ret
  have e : IntKind.u64.wrap (IntKind.u64.wrap (s * 6364136223846793005) + 1442695040888963407) = lcg s := by
    simp only [IntKind.wrap_u64]
    unfold lcg
    omega
  rw [e]
  refine ⟨?_, rfl⟩
  show Ending.returned (.int .i64 (wrap64 (lcg s / 8589934592))) = _
  have hb := lcg_bound s
  rw [Go.IntWalk.wrap64_in _ ⟨by omega, by omega⟩]
/-- Is a configuration one of a source? -/
def okB4 (c : LC) : Bool := decide (1 ≤ c.keys) && decide (c.keys ≤ 1000) && decide (1 ≤ c.items) && decide (c.items ≤ 100) && decide (0 ≤ c.reads) && decide (c.reads ≤ 1000)
theorem okB4_ok {c : LC} (h : okB4 c = true) : c.Ok := by
  simp only [okB4, Bool.and_eq_true, decide_eq_true_eq] at h
  obtain ⟨⟨⟨⟨⟨h1, h2⟩, h3⟩, h4⟩, h5⟩, h6⟩ := h
  exact ⟨h1, h2, h3, h4, h5, h6⟩
set_option maxHeartbeats 4000000 in
theorem lvalid_any (w : World) (c : LC) : Calls Tryz.prog 19 #[.agg c.arr] w fun e w' => e = .returned (.bool (okB4 c)) ∧ Below w.heap.size w w' := by
  have HO : Hid (okB4 c = (decide (1 ≤ c.keys) && decide (c.keys ≤ 1000) && decide (1 ≤ c.items) && decide (c.items ≤ 100) && decide (0 ≤ c.reads) && decide (c.reads ≤ 1000))) := Lib.hid rfl
  generalize okB4 c = b at *
  obtain ⟨s, k, t, r⟩ := c
  dsimp only at HO
  have HB : Hid (∀ o, Below w.heap.size w (w.alloc o)) := Lib.hid fun o => below_alloc w o
  unfold LC.arr
  dsimp only
  cases h1 : decide (1 ≤ k) <;> cases h2 : decide (k ≤ 1000) <;> cases h3 : decide (1 ≤ t) <;> cases h4 : decide (t ≤ 100) <;> cases h5 : decide (0 ≤ r) <;> cases h6 : decide (r ≤ 1000)
  all_goals
    have HF := HO
    rw [h1, h2, h3, h4, h5, h6] at HF
    clear HO
    go_enter Tryz.func19, Tryz.ntmps19
    go_wp2
    go_ret
    exact ⟨by rw [HF.out]; rfl, HB.out _⟩
theorem lnew_any (w : World) (c : LC) (hc : c.Ok) : Calls Tryz.prog 20 #[.agg c.arr] w fun e w' => (∃ p, e = .returned (.tuple #[.pointer (some ⟨p, 0, none⟩), .int .i64 0]) ∧ w.heap.size ≤ p ∧ SrcAt w' p c c.seed) ∧ Below w.heap.size w w' := by
  obtain ⟨k1, k2, i1, i2, r1, r2⟩ := hc
  have hn : ∀ wa : World, SrcAt (wa.alloc (.cells #[.int .u64 c.seed, .int .i64 c.keys, .int .i64 c.items, .int .i64 c.reads, .int .u64 c.seed] 125)) wa.heap.size c c.seed := fun wa => SrcAt.new wa c c.seed _
  have HN := Lib.hid hn
  clear hn
  obtain ⟨s, k, t, r⟩ := c
  dsimp only at k1 k2 i1 i2 r1 r2 HN
  have d1 : decide (k < 1) = false := decide_eq_false (by omega)
  have d2 : decide (1000 < k) = false := decide_eq_false (by omega)
  have d3 : decide (t < 1) = false := decide_eq_false (by omega)
  have d4 : decide (100 < t) = false := decide_eq_false (by omega)
  have d5 : decide (r < 0) = false := decide_eq_false (by omega)
  have d6 : decide (1000 < r) = false := decide_eq_false (by omega)
  unfold LC.arr
  dsimp only
  go_enter Tryz.func20, Tryz.ntmps20
  go_wp2
  go_ret2
  have hS := HN.out (w.alloc (.cells #[.int .u64 s, .int .i64 k, .int .i64 t, .int .i64 r] 57))
  rw [show (w.alloc (.cells #[.int .u64 s, .int .i64 k, .int .i64 t, .int .i64 r] 57)).heap.size = w.heap.size + 1 from Array.size_push _] at hS
  exact ⟨⟨_, rfl, Nat.le_succ _, hS⟩, nbl_al (below_alloc _ _)⟩
set_option maxRecDepth 100000 in
theorem copy_any (w : World) (p : Nat) (c : LC) (s : Int) (hc : c.Ok) (h : SrcAt w p c s) : Calls Tryz.prog 28 #[.pointer (some ⟨p, 0, none⟩)] w fun e w' => (∃ q, e = .returned (.pointer (some ⟨q, 0, none⟩)) ∧ w.heap.size ≤ q ∧ SrcAt w' q c s) ∧ Below w.heap.size w w' := by
  have HN := Lib.hid (srcnone_any w p c s hc h)
  have HS : Hid (∀ wa : World, SrcAt (wa.alloc (.cells #[.int .u64 c.seed, .int .i64 c.keys, .int .i64 c.items, .int .i64 c.reads, .int .u64 s] 125)) wa.heap.size c s) := Lib.hid fun wa => SrcAt.new wa c s _
  have k0 := h.c0
  have k1 := h.c1
  have k2 := h.c2
  have k3 := h.c3
  have k4 := h.c4
  clear h hc
  go_enter Tryz.func28, Tryz.ntmps28
  go_wp2_with (first | (go_at_call 53; refine HN.out.mono ?_; rintro e w' ⟨rfl, rfl⟩))
  go_region_held3 (fun w' => w'.cell? ⟨p, 0, none⟩ = some (.int .u64 c.seed) ∧ w'.cell? ⟨p, 1, none⟩ = some (.int .i64 c.keys) ∧ w'.cell? ⟨p, 2, none⟩ = some (.int .i64 c.items) ∧ w'.cell? ⟨p, 3, none⟩ = some (.int .i64 c.reads) ∧ w'.cell? ⟨p, 4, none⟩ = some (.int .u64 s)) (go_keep) (fail)
  go_wp2_with fail
  go_ret
  have hS := HS.out w'
  have hb : Below (w'.alloc (.cells #[.int .u64 c.seed, .int .i64 c.keys, .int .i64 c.items, .int .i64 c.reads, .int .u64 s] 125)).heap.size (w'.alloc (.cells #[.int .u64 c.seed, .int .i64 c.keys, .int .i64 c.items, .int .i64 c.reads, .int .u64 s] 125)) (w'.alloc (.cells #[.int .u64 c.seed, .int .i64 c.keys, .int .i64 c.items, .int .i64 c.reads, .int .u64 s] 125)).drew := (Below.refl _ _).drew
  exact ⟨⟨_, rfl, Nat.le_refl _, hS.below hb⟩, (below_alloc _ _).drew⟩
end Go.Proofs.YtecnchmcdbcofaaGreatDoor
