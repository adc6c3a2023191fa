/- A node's parts, new. table.New and replica.New. replica.New. -/
import Derived.Test.YtgjbnebmcmoilaaGreatDoorProg
import Derived.Deep.MidRow
import Derived.Deep.LoopGhost
import Derived.Deep.RegionHeld3
import Derived.Deep.QuietTactic
import Derived.WalkSpells
import Derived.WalkLawsBesides
import Derived.BigQuiet
import Derived.OwnWalk
import Derived.Carry
import Derived.Lib.Hide
import Derived.Laws.ResultCell
import Derived.Laws.MakeOwn
set_option linter.unusedVariables false
set_option linter.unusedSimpArgs false
namespace Go.Proofs.YtgjbnebmcmoilaaGreatDoor
open Go.RowKit Go.MapKept
theorem nbl_step {w a b : World} (h : Below w.heap.size w a) (k : Below a.heap.size a b) : Below w.heap.size w b := h.trans (k.mono h.size)
theorem nbl_drewN {w a : World} {n : Nat} (h : Below w.heap.size w a) : Below w.heap.size w (a.drewN n) := ⟨h.os, h.tape, h.output, h.size, h.block⟩
theorem below_alloc (w : World) (o : Obj) : Below w.heap.size w (w.alloc o) := (Below.refl _ w).alloc (Nat.le_refl _) o
theorem nbl_al {w a : World} {o : Obj} (h : Below w.heap.size w a) : Below w.heap.size w (a.alloc o) := nbl_step h (below_alloc _ _)
theorem new_cells (w : World) (cs : Array Value) (ty : TypeId) (i : Nat) : (w.alloc (.cells cs ty)).cell? ⟨w.heap.size, i, none⟩ = cs[i]? := by
  have hh : (w.alloc (.cells cs ty)).heap[w.heap.size]? = some (.cells cs ty (0, 0)) := by
    show (w.heap.push _)[w.heap.size]? = _
    simp
  unfold World.cell?
  dsimp only
  rw [hh]
  rfl
theorem cell_below {w w' : World} (hb : Below w.heap.size w w') {a : Addr} {v : Value} (h : w.cell? a = some v) : w'.cell? a = some v :=
  (hb.cell (World.block_lt_of_cell? w _ h)).trans h
theorem inbox_good (w : World) (n : Int) (h1 : 1 ≤ n) (h2 : n ≤ 4096) : Calls Tryz.prog 48 #[.int .i64 n] w fun e w' => e = .returned (.tuple #[.pointer (some ⟨w.heap.size, 0, none⟩), .int .i64 0]) ∧ w' = w.alloc (.cells #[.int .i64 n, .slice none 0 0, .int .i64 0, .int .i64 0] 175) := by
  have d1 : decide (n < 1) = false := decide_eq_false (by omega)
  have d2 : decide (4096 < n) = false := decide_eq_false (by omega)
  go_enter Tryz.func48, Tryz.ntmps48
  go_wp2
  go_ret2
  exact ⟨rfl, rfl⟩
theorem inbox_bad (w : World) (n : Int) (h : n < 1 ∨ 4096 < n) : Calls Tryz.prog 48 #[.int .i64 n] w fun e w' => e = .returned (.tuple #[.pointer none, .int .i64 2]) ∧ w' = w := by
  by_cases c : n < 1
  · have d1 : decide (n < 1) = true := decide_eq_true c
    clear h
    go_enter Tryz.func48, Tryz.ntmps48
    go_wp2
    go_ret2
    exact ⟨rfl, rfl⟩
  · have d1 : decide (n < 1) = false := decide_eq_false c
    have d2 : decide (4096 < n) = true := decide_eq_true (by omega)
    clear h
    go_enter Tryz.func48, Tryz.ntmps48
    go_wp2
    go_ret2
    exact ⟨rfl, rfl⟩
theorem outbox_good (w : World) (n : Int) (h1 : 1 ≤ n) (h2 : n ≤ 256) : Calls Tryz.prog 49 #[.int .i64 n] w fun e w' => e = .returned (.tuple #[.pointer (some ⟨w.heap.size, 0, none⟩), .int .i64 0]) ∧ w' = w.alloc (.cells #[.int .i64 n, .slice none 0 0, .slice none 0 0] 178) := by
  have d1 : decide (n < 1) = false := decide_eq_false (by omega)
  have d2 : decide (256 < n) = false := decide_eq_false (by omega)
  go_enter Tryz.func49, Tryz.ntmps49
  go_wp2
  go_ret2
  exact ⟨rfl, rfl⟩
theorem outbox_bad (w : World) (n : Int) (h : n < 1 ∨ 256 < n) : Calls Tryz.prog 49 #[.int .i64 n] w fun e w' => e = .returned (.tuple #[.pointer none, .int .i64 2]) ∧ w' = w := by
  by_cases c : n < 1
  · have d1 : decide (n < 1) = true := decide_eq_true c
    clear h
    go_enter Tryz.func49, Tryz.ntmps49
    go_wp2
    go_ret2
    exact ⟨rfl, rfl⟩
  · have d1 : decide (n < 1) = false := decide_eq_false c
    have d2 : decide (256 < n) = true := decide_eq_true (by omega)
    clear h
    go_enter Tryz.func49, Tryz.ntmps49
    go_wp2
    go_ret2
    exact ⟨rfl, rfl⟩
def okR (r : Int) : Bool := decide (1 ≤ r) && decide (r ≤ 65535)
theorem dotvalid_one (w : World) (r : Int) : Calls Tryz.prog 84 #[.agg #[.int .i64 r, .int .i64 1]] w fun e w' => e = .returned (.bool (okR r)) ∧ Below w.heap.size w w' := by
  have HO : Hid (okR r = (decide (1 ≤ r) && decide (r ≤ 65535))) := Lib.hid rfl
  generalize okR r = b at *
  cases h1 : decide (1 ≤ r) <;> cases h2 : decide (r ≤ 65535)
  all_goals
    rw [h1, h2] at HO
    go_enter Tryz.func84, Tryz.ntmps84
    go_wp2
    go_ret
    exact ⟨by rw [HO.out]; rfl, below_alloc _ _⟩
theorem counter_good (w : World) (r : Int) (h : okR r = true) : Calls Tryz.prog 47 #[.int .i64 r, .int .i64 0] w fun e w' => (∃ p, e = .returned (.tuple #[.pointer (some ⟨p, 0, none⟩), .int .i64 0]) ∧ w.heap.size ≤ p ∧ w'.cell? ⟨p, 0, none⟩ = some (.int .i64 r) ∧ w'.cell? ⟨p, 1, none⟩ = some (.int .i64 0)) ∧ Below w.heap.size w w' := by
  have HV := Lib.hid (dotvalid_one w r)
  rw [h] at HV
  clear h
  go_enter Tryz.func47, Tryz.ntmps47
  go_wp2_with (first | (go_at_call 84; refine HV.out.mono ?_; rintro e w2 ⟨rfl, hb⟩; have HB := Lib.hid hb; clear hb))
  go_ret2
  exact ⟨⟨_, rfl, HB.out.size, new_cells _ _ _ 0, new_cells _ _ _ 1⟩, nbl_al HB.out⟩
theorem counter_bad (w : World) (r : Int) (h : okR r = false) : Calls Tryz.prog 47 #[.int .i64 r, .int .i64 0] w fun e w' => e = .returned (.tuple #[.pointer none, .int .i64 2]) ∧ Below w.heap.size w w' := by
  have HV := Lib.hid (dotvalid_one w r)
  rw [h] at HV
  clear h
  go_enter Tryz.func47, Tryz.ntmps47
  go_wp2_with (first | (go_at_call 84; refine HV.out.mono ?_; rintro e w2 ⟨rfl, hb⟩; have HB := Lib.hid hb; clear hb))
  go_ret2
  exact ⟨rfl, HB.out⟩
theorem table_bad (w : World) (n : Int) (h : n < 1 ∨ 1024 < n) : Calls Tryz.prog 46 #[.int .i64 n] w fun e w' => e = .returned (.tuple #[.pointer none, .int .i64 2]) ∧ w' = w := by
  by_cases c : n < 1
  · have d1 : decide (n < 1) = true := decide_eq_true c
    clear h
    go_enter Tryz.func46, Tryz.ntmps46
    go_wp2_with fail
    go_ret2
    exact ⟨rfl, rfl⟩
  · have d1 : decide (n < 1) = false := decide_eq_false c
    have d2 : decide (1024 < n) = true := decide_eq_true (by omega)
    clear h
    go_enter Tryz.func46, Tryz.ntmps46
    go_wp2_with fail
    go_ret2
    exact ⟨rfl, rfl⟩
/-- k of S stripes are there, all empty. -/
structure Stripes (w : World) (g S k : Nat) : Prop where
  there : w.there g 0 S
  lt : g < w.heap.size
  full : ∀ i, i < k → ∃ b, w.cell? ⟨g, i, none⟩ = some (.map (some b)) ∧ w.heap[b]? = some (.map #[] 0)
  above : ∀ i b, i < k → w.cell? ⟨g, i, none⟩ = some (.map (some b)) → g < b
theorem Stripes.below {w w' : World} {g S k : Nat} (h : Stripes w g S k) (hb : Below w.heap.size w w') : Stripes w' g S k :=
  ⟨fun j hj => by rw [hb.cell (p := ⟨g, 0 + j, none⟩) h.lt, hb.frozen (p := ⟨g, 0 + j, none⟩) h.lt]; exact h.there j hj, Nat.lt_of_lt_of_le h.lt hb.size, fun i hi => by
    obtain ⟨b, h1, h2⟩ := h.full i hi
    exact ⟨b, (hb.cell (p := ⟨g, i, none⟩) h.lt).trans h1, (hb.block b (Array.getElem?_eq_some_iff.1 h2).1).trans h2⟩, fun i b hi hc => h.above i b hi ((hb.cell (p := ⟨g, i, none⟩) h.lt).symm.trans hc)⟩
theorem Stripes.step {w : World} {g S k : Nat} (h : Stripes w g S k) (hk : k < S) {b : Nat} (hb : w.heap[b]? = some (.map #[] 0)) (hgb : g < b) : Stripes (w.setCell ⟨g, k, none⟩ (.map (some b))) g S (k + 1) := by
  have e : w.setCell ⟨g, k, none⟩ (.map (some b)) = w.setCells g k [.map (some b)] := rfl
  have hne : b ≠ g := by omega
  have ht := h.there k hk
  rw [Nat.zero_add] at ht
  obtain ⟨u, hu⟩ := Option.isSome_iff_exists.1 ht.1
  refine ⟨by rw [e]; exact World.there_setCells h.there _ _ _, by rw [World.size_setCell]; exact h.lt, fun i hi => ?_, fun i b2 hi hc => ?_⟩
  rotate_left
  · by_cases hik : i = k
    · subst hik
      rw [World.cell?_setCell_same _ _ _ hu] at hc
      injection hc with hc
      injection hc with hc
      injection hc with hc
      omega
    · exact h.above i b2 (by omega) ((World.cell?_setCell_other _ _ _ _ (fun e => by injection e with _ e2; omega)).symm.trans hc)
  by_cases hik : i = k
  · subst hik
    exact ⟨b, World.cell?_setCell_same _ _ _ hu, (Below.heap_setCell _ _ _ _ hne).trans hb⟩
  · obtain ⟨b2, h1, h2⟩ := h.full i (by omega)
    have hb2 : b2 ≠ g := fun e2 => by
      rw [e2] at h2
      have := ht.1
      simp [World.cell?, h2] at this
    exact ⟨b2, (World.cell?_setCell_other _ _ _ _ (fun e => by injection e with _ e2; omega)).trans h1, (Below.heap_setCell _ _ _ _ hb2).trans h2⟩
theorem info_map : (Tryz.prog.info? 170).map (fun i => (i.zero, i.size, i.bytes)) = some (some (.map none), 1, 8) := by kernel_rfl
theorem make_maps (M : Nat) (hM : M ≤ 1000000) (w : World) : (Instr.makeSlice 167 (.int .i64 (M : Int)) (.int .i64 (M : Int))).run Tryz.prog w = .ok (.slice (some ⟨w.heap.size, 0, none⟩) M M) (w.alloc (.cells (madeCells #[.map none] M) 170)) := by
  obtain ⟨ib, hi0, hi1, hi2, hi3⟩ := info_parts info_map
  have := run_make (P := Tryz.prog) w 167 _ ib _ Tryz.underlying167 hi0 hi1 .i64 .i64 M M (by omega) (by omega) (by rw [hi3]; omega) (by omega)
  simpa [hi2, Value.cells] using this
end Go.Proofs.YtgjbnebmcmoilaaGreatDoor
set_option linter.unusedVariables false
set_option linter.unusedSimpArgs false
namespace Go.Proofs.YtgjbnebmcmoilaaGreatDoor
open Go.RowKit Go.MapKept
theorem there_newN {W : World} {R : Nat} {cs : Array Value} {t : TypeId} (h : W.heap[R]? = some (.cells cs t (0, 0))) (n : Nat) (hn : n ≤ cs.size) : W.there R 0 n := fun j hj => by
  have hc : W.cell? ⟨R, 0 + j, none⟩ = cs[0 + j]? := by
    simp [World.cell?, h]
  refine ⟨?_, ?_⟩
  · rw [hc, Array.getElem?_eq_getElem (by omega)]
    rfl
  · simp only [World.frozen?, h]
    simp
theorem below_set {a w : World} {n : Nat} (h : Below n a w) {p : Addr} (hp : n ≤ p.block) (v : Value) : Below n a (w.setCell p v) :=
  ⟨h.os, h.tape, h.output, by rw [World.size_setCell]; exact h.size, fun k hk => (Below.heap_setCell _ _ _ _ (show k ≠ p.block by omega)).trans (h.block k hk)⟩
theorem Stripes.froz {w : World} {g S k : Nat} (h : Stripes w g S k) {i : Nat} (hi : i < S) : w.frozen? ⟨g, i, none⟩ = false := by
  have := (h.there i hi).2
  rwa [Nat.zero_add] at this
theorem Stripes.old {w : World} {g S k : Nat} (h : Stripes w g S k) {i : Nat} (hi : i < S) : ∃ v, w.cell? ⟨g, i, none⟩ = some v := by
  have := (h.there i hi).1
  rw [Nat.zero_add] at this
  exact Option.isSome_iff_exists.1 this
set_option maxRecDepth 100000 in
set_option maxHeartbeats 1000000 in
theorem table_good (w : World) (S : Nat) (h1 : 1 ≤ S) (h2 : S ≤ 1024) : Calls Tryz.prog 46 #[.int .i64 (S : Int)] w fun e w' => e = .returned (.tuple #[.pointer (some ⟨w.heap.size + 1, 0, none⟩), .int .i64 0]) ∧ w'.heap[w.heap.size + 1]? = some (.cells #[.slice (some ⟨w.heap.size, 0, none⟩) S S, .int .i64 0] 169 (0, 0)) ∧ Stripes w' w.heap.size S S ∧ Below w.heap.size w w' := by
  have d1 : decide ((S : Int) < 1) = false := decide_eq_false (by omega)
  have d2 : decide (1024 < (S : Int)) = false := decide_eq_false (by omega)
  have hmk := make_maps S (by omega) w
  have HL := Lib.hid h2
  clear h1 h2
  go_enter Tryz.func46, Tryz.ntmps46
  go_wp2_with fail
  obtain ⟨wa, hwa⟩ : ∃ wa, wa = w.alloc (.cells (madeCells #[.map none] S) 170) := ⟨_, rfl⟩
  have hsz : wa.heap.size = w.heap.size + 1 := by rw [hwa]; exact Array.size_push _
  have hst0 : wa.there w.heap.size 0 S := there_newN (cs := madeCells #[.map none] S) (t := 170) (by rw [hwa]; exact heap_alloc_new w _) S (by rw [size_madeCells]; exact Nat.le_refl _)
  have hba : Below w.heap.size w wa := by rw [hwa]; exact below_alloc _ _
  rw [← hwa, ← hsz]
  clear hwa hmk d1 d2
  have hb0 : Below w.heap.size w (wa.alloc (.cells #[.slice (some ⟨w.heap.size, 0, none⟩) S S, .int .i64 0] 169)) := nbl_al hba
  have hs0 : Stripes (wa.alloc (.cells #[.slice (some ⟨w.heap.size, 0, none⟩) S S, .int .i64 0] 169)) w.heap.size S 0 := by
    have : Stripes wa w.heap.size S 0 := ⟨hst0, by omega, fun i hi => absurd hi (Nat.not_lt_zero i), fun i b hi => absurd hi (Nat.not_lt_zero i)⟩
    exact this.below (below_alloc _ _)
  have ht0 : (wa.alloc (.cells #[.slice (some ⟨w.heap.size, 0, none⟩) S S, .int .i64 0] 169)).heap[wa.heap.size]? = some (.cells #[.slice (some ⟨w.heap.size, 0, none⟩) S S, .int .i64 0] 169 (0, 0)) := heap_alloc_new wa _
  have HG : Hid (wa.heap.size = w.heap.size + 1) := Lib.hid hsz
  clear hsz hst0 hba
  generalize (wa.alloc (.cells #[.slice (some ⟨w.heap.size, 0, none⟩) S S, .int .i64 0] 169)) = w4 at *
  generalize wa.heap.size = T at *
  have hmm := @run_makeMap Tryz.prog
  go_loopg [21] S (fun gf u wx => ∃ i : Nat, u = .int .i64 (i : Int) ∧ i + gf = S ∧ Stripes wx w.heap.size S i ∧ wx.heap[T]? = some (.cells #[.slice (some ⟨w.heap.size, 0, none⟩) S S, .int .i64 0] 169 (0, 0)) ∧ Below w.heap.size w wx)
  case atStart => exact ⟨0, rfl, by omega, hs0, ht0, hb0⟩
  case round =>
    clear hs0 ht0 hb0
    obtain ⟨i, rfl, hi, hs, ht, hb⟩ := hrel
    have HS := Lib.hid hs
    have HT := Lib.hid ht
    have HB := Lib.hid hb
    have r0 : wr.cell? ⟨T, 0, none⟩ = some (.slice (some ⟨w.heap.size, 0, none⟩) S S) := by simp [World.cell?, ht]
    clear hs ht hb
    by_cases hlt : i < S
    · obtain ⟨g', rfl⟩ : ∃ g', gk = g' + 1 := ⟨gk - 1, by omega⟩
      have hi3 : i < 1024 := by have := HL.out; omega
      have HS2 : Hid (Stripes (wr.alloc (.map #[] 0)) w.heap.size S i) := Lib.hid (HS.out.below (below_alloc _ _))
      obtain ⟨old, r5⟩ := HS2.out.old hlt
      have z5 := HS2.out.froz hlt
      go_wp2_with fail
      go_roundg g'
      case measure => omega
      case rel =>
        refine ⟨i + 1, by first | rfl | go_num, by omega, HS2.out.step hlt (heap_alloc_new wr _) (by have := HS.out.lt; omega), ?_, below_set (nbl_al HB.out) (Nat.le_refl _) _⟩
        rw [Below.heap_setCell _ _ _ _ (show T ≠ w.heap.size by have := HG.out; omega)]
        exact ((below_alloc wr _).block T (Array.getElem?_eq_some_iff.1 HT.out).1).trans HT.out
    · have e : i = S := by omega
      subst e
      go_wp2_with fail
      go_ret2
      rw [← HG.out]
      exact ⟨rfl, HT.out, HS.out, HB.out⟩
end Go.Proofs.YtgjbnebmcmoilaaGreatDoor
set_option linter.unusedVariables false
set_option linter.unusedSimpArgs false
namespace Go.Proofs.YtgjbnebmcmoilaaGreatDoor
open Go.RowKit Go.MapKept
/-- A new node at p: its table at t (stripes at g), its counter at d, its inbox at n, its outbox at u. -/
structure NodeNew (w : World) (p t g d n u : Nat) (r : Int) (S : Nat) (i o : Int) : Prop where
  c0 : w.cell? ⟨p, 0, none⟩ = some (.int .i64 r)
  c1 : w.cell? ⟨p, 1, none⟩ = some (.int .i64 (S : Int))
  c2 : w.cell? ⟨p, 2, none⟩ = some (.int .i64 i)
  c3 : w.cell? ⟨p, 3, none⟩ = some (.int .i64 o)
  c4 : w.cell? ⟨p, 4, none⟩ = some (.pointer (some ⟨t, 0, none⟩))
  c5 : w.cell? ⟨p, 5, none⟩ = some (.pointer (some ⟨d, 0, none⟩))
  c6 : w.cell? ⟨p, 6, none⟩ = some (.pointer (some ⟨n, 0, none⟩))
  c7 : w.cell? ⟨p, 7, none⟩ = some (.pointer (some ⟨u, 0, none⟩))
  c8 : w.cell? ⟨p, 8, none⟩ = some (.bool false)
  t0 : w.cell? ⟨t, 0, none⟩ = some (.slice (some ⟨g, 0, none⟩) S S)
  t1 : w.cell? ⟨t, 1, none⟩ = some (.int .i64 0)
  d0 : w.cell? ⟨d, 0, none⟩ = some (.int .i64 r)
  d1 : w.cell? ⟨d, 1, none⟩ = some (.int .i64 0)
  n0 : w.cell? ⟨n, 0, none⟩ = some (.int .i64 i)
  n1 : w.cell? ⟨n, 1, none⟩ = some (.slice none 0 0)
  n2 : w.cell? ⟨n, 2, none⟩ = some (.int .i64 0)
  n3 : w.cell? ⟨n, 3, none⟩ = some (.int .i64 0)
  u0 : w.cell? ⟨u, 0, none⟩ = some (.int .i64 o)
  u1 : w.cell? ⟨u, 1, none⟩ = some (.slice none 0 0)
  u2 : w.cell? ⟨u, 2, none⟩ = some (.slice none 0 0)
  st : Stripes w g S S
theorem NodeNew.below {w w' : World} {p t g d n u : Nat} {r : Int} {S : Nat} {i o : Int} (h : NodeNew w p t g d n u r S i o) (hb : Below w.heap.size w w') : NodeNew w' p t g d n u r S i o :=
  ⟨cell_below hb h.c0, cell_below hb h.c1, cell_below hb h.c2, cell_below hb h.c3, cell_below hb h.c4, cell_below hb h.c5, cell_below hb h.c6, cell_below hb h.c7, cell_below hb h.c8, cell_below hb h.t0, cell_below hb h.t1, cell_below hb h.d0, cell_below hb h.d1, cell_below hb h.n0, cell_below hb h.n1, cell_below hb h.n2, cell_below hb h.n3, cell_below hb h.u0, cell_below hb h.u1, cell_below hb h.u2, h.st.below hb⟩
def okT (s : Int) : Bool := decide (1 ≤ s) && decide (s ≤ 1024)
def okI (s : Int) : Bool := decide (1 ≤ s) && decide (s ≤ 4096)
def okO (s : Int) : Bool := decide (1 ≤ s) && decide (s ≤ 256)
theorem okT_true {s : Int} (h : okT s = true) : 1 ≤ s ∧ s ≤ 1024 := by simpa [okT] using h
theorem okI_true {s : Int} (h : okI s = true) : 1 ≤ s ∧ s ≤ 4096 := by simpa [okI] using h
theorem okO_true {s : Int} (h : okO s = true) : 1 ≤ s ∧ s ≤ 256 := by simpa [okO] using h
theorem okT_false {s : Int} (h : okT s = false) : s < 1 ∨ 1024 < s := by simp [okT] at h; omega
theorem okI_false {s : Int} (h : okI s = false) : s < 1 ∨ 4096 < s := by simp [okI] at h; omega
theorem okO_false {s : Int} (h : okO s = false) : s < 1 ∨ 256 < s := by simp [okO] at h; omega
def errF (b : Bool) : Int := if b then 0 else 2
theorem table_good2 (w : World) (S : Nat) (h1 : 1 ≤ S) (h2 : S ≤ 1024) : Calls Tryz.prog 46 #[.int .i64 (S : Int)] w fun e w' => (∃ T G, e = .returned (.tuple #[.pointer (some ⟨T, 0, none⟩), .int .i64 0]) ∧ w'.heap[T]? = some (.cells #[.slice (some ⟨G, 0, none⟩) S S, .int .i64 0] 169 (0, 0)) ∧ Stripes w' G S S ∧ G < T ∧ T < w'.heap.size ∧ w.heap.size ≤ G) ∧ Below w.heap.size w w' :=
  (table_good w S h1 h2).mono fun e w' ⟨h3, h4, h5, h6⟩ => ⟨⟨_, _, h3, h4, h5, Nat.lt_succ_self _, (Array.getElem?_eq_some_iff.1 h4).1, Nat.le_refl _⟩, h6⟩
theorem table_any (w : World) (s : Int) : Calls Tryz.prog 46 #[.int .i64 s] w fun e w' => (∃ v, e = .returned (.tuple #[v, .int .i64 (errF (okT s))])) ∧ Below w.heap.size w w' := by
  cases h : okT s
  · exact (table_bad w s (okT_false h)).mono (by rintro e w' ⟨rfl, rfl⟩; exact ⟨⟨_, rfl⟩, Below.refl _ _⟩)
  · obtain ⟨h1, h2⟩ := okT_true h
    obtain ⟨S, rfl⟩ : ∃ S : Nat, s = (S : Int) := ⟨s.toNat, by omega⟩
    exact (table_good w S (by omega) (by omega)).mono (by rintro e w' ⟨rfl, h3, h4, h5⟩; exact ⟨⟨_, rfl⟩, h5⟩)
theorem counter_any (w : World) (r : Int) : Calls Tryz.prog 47 #[.int .i64 r, .int .i64 0] w fun e w' => (∃ v, e = .returned (.tuple #[v, .int .i64 (errF (okR r))])) ∧ Below w.heap.size w w' := by
  cases h : okR r
  · exact (counter_bad w r h).mono (by rintro e w' ⟨rfl, hb⟩; exact ⟨⟨_, rfl⟩, hb⟩)
  · exact (counter_good w r h).mono (by rintro e w' ⟨⟨p, rfl, _⟩, hb⟩; exact ⟨⟨_, rfl⟩, hb⟩)
theorem inbox_any (w : World) (s : Int) : Calls Tryz.prog 48 #[.int .i64 s] w fun e w' => (∃ v, e = .returned (.tuple #[v, .int .i64 (errF (okI s))])) ∧ Below w.heap.size w w' := by
  cases h : okI s
  · exact (inbox_bad w s (okI_false h)).mono (by rintro e w' ⟨rfl, rfl⟩; exact ⟨⟨_, rfl⟩, Below.refl _ _⟩)
  · exact (inbox_good w s (okI_true h).1 (okI_true h).2).mono (by rintro e w' ⟨rfl, rfl⟩; exact ⟨⟨_, rfl⟩, below_alloc _ _⟩)
theorem outbox_any (w : World) (s : Int) : Calls Tryz.prog 49 #[.int .i64 s] w fun e w' => (∃ v, e = .returned (.tuple #[v, .int .i64 (errF (okO s))])) ∧ Below w.heap.size w w' := by
  cases h : okO s
  · exact (outbox_bad w s (okO_false h)).mono (by rintro e w' ⟨rfl, rfl⟩; exact ⟨⟨_, rfl⟩, Below.refl _ _⟩)
  · exact (outbox_good w s (okO_true h).1 (okO_true h).2).mono (by rintro e w' ⟨rfl, rfl⟩; exact ⟨⟨_, rfl⟩, below_alloc _ _⟩)
def okN (r s i o : Int) : Bool := okT s && (okR r && (okI i && okO o))
set_option maxRecDepth 100000 in
set_option maxHeartbeats 2000000 in
theorem new_bad (w : World) (r s i o : Int) (h : okN r s i o = false) : Calls Tryz.prog 26 #[.agg #[.int .i64 r, .int .i64 s, .int .i64 i, .int .i64 o]] w fun e w' => e = .returned (.tuple #[.pointer none, .int .i64 2]) ∧ Below w.heap.size w w' := by
  have HT := Lib.hid (fun W => table_any W s)
  have HC := Lib.hid (fun W => counter_any W r)
  have HI := Lib.hid (fun W => inbox_any W i)
  have HO := Lib.hid (fun W => outbox_any W o)
  unfold okN at h
  generalize okT s = bt at *
  generalize okR r = br at *
  generalize okI i = bi at *
  generalize okO o = bo at *
  have hcs : (bt = false) ∨ (bt = true ∧ br = false) ∨ (bt = true ∧ br = true ∧ bi = false) ∨ (bt = true ∧ br = true ∧ bi = true ∧ bo = false) := by
    cases bt <;> cases br <;> cases bi <;> cases bo <;> simp_all
  clear h
  have e0 : errF true = 0 := rfl
  have e2 : errF false = 2 := rfl
  rcases hcs with rfl | ⟨rfl, rfl⟩ | ⟨rfl, rfl, rfl⟩ | ⟨rfl, rfl, rfl, rfl⟩
  all_goals
    simp only [e0, e2] at HT HC HI HO
    go_enter Tryz.func26, Tryz.ntmps26
    go_wp2_with (first | (go_at_call 46; refine (HT.out _).mono ?_; rintro e w1 ⟨⟨v1, rfl⟩, hb⟩; have HB1 := Lib.hid (nbl_step (below_alloc _ _) hb); have q0 : w1.cell? ⟨w.heap.size, 0, none⟩ = some (.int .i64 r) := cell_below hb (new_cells w _ _ 0); have q2 : w1.cell? ⟨w.heap.size, 2, none⟩ = some (.int .i64 i) := cell_below hb (new_cells w _ _ 2); have q3 : w1.cell? ⟨w.heap.size, 3, none⟩ = some (.int .i64 o) := cell_below hb (new_cells w _ _ 3); clear hb) | (go_at_call 47; refine (HC.out _).mono ?_; rintro e w2 ⟨⟨v2, rfl⟩, hb⟩; have HB2 := Lib.hid (nbl_step HB1.out hb); have q22 := cell_below hb q2; have q23 := cell_below hb q3; clear hb q0 q2 q3) | (go_at_call 48; refine (HI.out _).mono ?_; rintro e w3 ⟨⟨v3, rfl⟩, hb⟩; have HB3 := Lib.hid (nbl_step HB2.out hb); have q33 := cell_below hb q23; clear hb q22 q23) | (go_at_call 49; refine (HO.out _).mono ?_; rintro e w4 ⟨⟨v4, rfl⟩, hb⟩; have HB4 := Lib.hid (nbl_step HB3.out hb); clear hb q33))
    go_ret2
    exact ⟨rfl, HB4.out⟩
theorem NodeNew.mk4 {w1 w2 w3 w4 : World} {T G d : Nat} {r : Int} {S : Nat} {i o : Int} (hT : w1.heap[T]? = some (.cells #[.slice (some ⟨G, 0, none⟩) S S, .int .i64 0] 169 (0, 0))) (hS : Stripes w1 G S S) (hGT : G < T) (hTs : T < w1.heap.size) (hds : w1.heap.size ≤ d) (hb2 : Below w1.heap.size w1 w2) (hd0 : w2.cell? ⟨d, 0, none⟩ = some (.int .i64 r)) (hd1 : w2.cell? ⟨d, 1, none⟩ = some (.int .i64 0)) (h3 : w3 = w2.alloc (.cells #[.int .i64 i, .slice none 0 0, .int .i64 0, .int .i64 0] 175)) (h4 : w4 = w3.alloc (.cells #[.int .i64 o, .slice none 0 0, .slice none 0 0] 178)) (ty : TypeId) :
    NodeNew (w4.alloc (.cells #[.int .i64 r, .int .i64 (S : Int), .int .i64 i, .int .i64 o, .pointer (some ⟨T, 0, none⟩), .pointer (some ⟨d, 0, none⟩), .pointer (some ⟨w2.heap.size, 0, none⟩), .pointer (some ⟨w3.heap.size, 0, none⟩), .bool false] ty)) w4.heap.size T G d w2.heap.size w3.heap.size r S i o ∧ G < T ∧ T < d ∧ d < w2.heap.size ∧ w2.heap.size < w3.heap.size ∧ w3.heap.size < w4.heap.size := by
  have b3 : Below w2.heap.size w2 w3 := by rw [h3]; exact below_alloc _ _
  have b4 : Below w3.heap.size w3 w4 := by rw [h4]; exact below_alloc _ _
  have b5 := below_alloc w4 (.cells #[.int .i64 r, .int .i64 (S : Int), .int .i64 i, .int .i64 o, .pointer (some ⟨T, 0, none⟩), .pointer (some ⟨d, 0, none⟩), .pointer (some ⟨w2.heap.size, 0, none⟩), .pointer (some ⟨w3.heap.size, 0, none⟩), .bool false] ty)
  have b25 := nbl_step b3 (nbl_step b4 b5)
  have b35 := nbl_step b4 b5
  have b15 := nbl_step hb2 b25
  have t0 : w1.cell? ⟨T, 0, none⟩ = some (.slice (some ⟨G, 0, none⟩) S S) := by simp [World.cell?, hT]
  have t1 : w1.cell? ⟨T, 1, none⟩ = some (.int .i64 0) := by simp [World.cell?, hT]
  have i0 : w3.cell? ⟨w2.heap.size, 0, none⟩ = some (.int .i64 i) := by rw [h3]; exact new_cells _ _ _ 0
  have i1 : w3.cell? ⟨w2.heap.size, 1, none⟩ = some (.slice none 0 0) := by rw [h3]; exact new_cells _ _ _ 1
  have i2 : w3.cell? ⟨w2.heap.size, 2, none⟩ = some (.int .i64 0) := by rw [h3]; exact new_cells _ _ _ 2
  have i3 : w3.cell? ⟨w2.heap.size, 3, none⟩ = some (.int .i64 0) := by rw [h3]; exact new_cells _ _ _ 3
  have o0 : w4.cell? ⟨w3.heap.size, 0, none⟩ = some (.int .i64 o) := by rw [h4]; exact new_cells _ _ _ 0
  have o1 : w4.cell? ⟨w3.heap.size, 1, none⟩ = some (.slice none 0 0) := by rw [h4]; exact new_cells _ _ _ 1
  have o2 : w4.cell? ⟨w3.heap.size, 2, none⟩ = some (.slice none 0 0) := by rw [h4]; exact new_cells _ _ _ 2
  exact ⟨⟨new_cells _ _ _ 0, new_cells _ _ _ 1, new_cells _ _ _ 2, new_cells _ _ _ 3, new_cells _ _ _ 4, new_cells _ _ _ 5, new_cells _ _ _ 6, new_cells _ _ _ 7, new_cells _ _ _ 8, cell_below b15 t0, cell_below b15 t1, cell_below b25 hd0, cell_below b25 hd1, cell_below b35 i0, cell_below b35 i1, cell_below b35 i2, cell_below b35 i3, cell_below b5 o0, cell_below b5 o1, cell_below b5 o2, hS.below b15⟩, hGT, by omega, World.block_lt_of_cell? w2 _ hd0, by rw [h3]; show _ < (w2.heap.push _).size; rw [Array.size_push]; omega, by rw [h4]; show _ < (w3.heap.push _).size; rw [Array.size_push]; omega⟩
set_option maxRecDepth 100000 in
set_option maxHeartbeats 2000000 in
theorem new_good (w : World) (r : Int) (S : Nat) (i o : Int) (h : okN r S i o = true) : Calls Tryz.prog 26 #[.agg #[.int .i64 r, .int .i64 (S : Int), .int .i64 i, .int .i64 o]] w fun e w' => (∃ p t g d n u, e = .returned (.tuple #[.pointer (some ⟨p, 0, none⟩), .int .i64 0]) ∧ NodeNew w' p t g d n u r S i o ∧ w.heap.size ≤ g ∧ g < t ∧ t < d ∧ d < n ∧ n < u ∧ u < p) ∧ Below w.heap.size w w' := by
  have h' : okT S = true ∧ okR r = true ∧ okI i = true ∧ okO o = true := by
    unfold okN at h
    simpa using h
  obtain ⟨hT, hR, hI, hO⟩ := h'
  clear h
  have HT := Lib.hid (fun W => table_good2 W S (by have := (okT_true hT).1; omega) (by have := (okT_true hT).2; omega))
  have HC := Lib.hid (fun W => counter_good W r hR)
  have HI := Lib.hid (fun W => inbox_good W i (okI_true hI).1 (okI_true hI).2)
  have HO := Lib.hid (fun W => outbox_good W o (okO_true hO).1 (okO_true hO).2)
  clear hT hR hI hO
  go_enter Tryz.func26, Tryz.ntmps26
  go_wp2_with (first | (go_at_call 46; refine (HT.out _).mono ?_; rintro e w1 ⟨⟨T, G, rfl, ht, hs, hgt, hts, hg0⟩, hb⟩; have HGT := Lib.hid hgt; have HTS := Lib.hid hts; have HG0 : Hid (w.heap.size ≤ G) := Lib.hid (by rw [show (w.alloc _).heap.size = w.heap.size + 1 from Array.size_push _] at hg0; omega); clear hgt hts hg0; have HTT := Lib.hid ht; have HSS := Lib.hid hs; have HB1 := Lib.hid (nbl_step (below_alloc _ _) hb); have q0 : w1.cell? ⟨w.heap.size, 0, none⟩ = some (.int .i64 r) := cell_below hb (new_cells w _ _ 0); have q1 : w1.cell? ⟨w.heap.size, 1, none⟩ = some (.int .i64 (S : Int)) := cell_below hb (new_cells w _ _ 1); have q2 : w1.cell? ⟨w.heap.size, 2, none⟩ = some (.int .i64 i) := cell_below hb (new_cells w _ _ 2); have q3 : w1.cell? ⟨w.heap.size, 3, none⟩ = some (.int .i64 o) := cell_below hb (new_cells w _ _ 3); clear hb ht hs) | (go_at_call 47; refine (HC.out _).mono ?_; rintro e w2 ⟨⟨d, rfl, hd, hd0, hd1⟩, hb⟩; have HDS := Lib.hid hd; have HD0 := Lib.hid hd0; have HD1 := Lib.hid hd1; have HB12 := Lib.hid hb; have HB2 := Lib.hid (nbl_step HB1.out hb); have q20 := cell_below hb q0; have q21 := cell_below hb q1; have q22 := cell_below hb q2; have q23 := cell_below hb q3; clear hb q0 q1 q2 q3 hd hd0 hd1) | (go_at_call 48; refine (HI.out _).mono ?_; rintro e w3 ⟨rfl, hw3⟩; have HW3 := Lib.hid hw3; have hb : Below w2.heap.size w2 w3 := (by rw [hw3]; exact below_alloc _ _); have HB3 := Lib.hid (nbl_step HB2.out hb); have q30 := cell_below hb q20; have q31 := cell_below hb q21; have q32 := cell_below hb q22; have q33 := cell_below hb q23; clear hb hw3 q20 q21 q22 q23) | (go_at_call 49; refine (HO.out _).mono ?_; rintro e w4 ⟨rfl, hw4⟩; have HW4 := Lib.hid hw4; have hb : Below w3.heap.size w3 w4 := (by rw [hw4]; exact below_alloc _ _); have HB4 := Lib.hid (nbl_step HB3.out hb); have q40 := cell_below hb q30; have q41 := cell_below hb q31; have q42 := cell_below hb q32; have q43 := cell_below hb q33; clear hb hw4 q30 q31 q32 q33))
  go_ret2
  have HM := fun ty => NodeNew.mk4 HTT.out HSS.out HGT.out HTS.out HDS.out HB12.out HD0.out HD1.out HW3.out HW4.out ty
  exact ⟨⟨_, _, _, _, _, _, rfl, (HM _).1, HG0.out, (HM 0).2⟩, nbl_al HB4.out⟩
end Go.Proofs.YtgjbnebmcmoilaaGreatDoor
