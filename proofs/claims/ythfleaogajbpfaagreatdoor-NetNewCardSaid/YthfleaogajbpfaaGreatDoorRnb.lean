/- table.New and replica.New. -/
import Derived.Test.YthfleaogajbpfaaGreatDoorRna
set_option linter.unusedVariables false
set_option linter.unusedSimpArgs false
namespace Go.Proofs.YthfleaogajbpfaaGreatDoor
open Go.RowKit Go.MapKept
theorem there_newN {W : World} {R : Nat} {cs : Array Value} {t : TypeId} (h : W.heap[R]? = some (.cells cs t (0, 0))) (n : Nat) (hn : n ≤ cs.size) : W.there R 0 n := fun j hj => by
  have hc : W.cell? ⟨R, 0 + j, none⟩ = cs[0 + j]? := by
    simp [World.cell?, h]
  refine ⟨?_, ?_⟩
  · rw [hc, Array.getElem?_eq_getElem (by omega)]
    rfl
  · simp only [World.frozen?, h]
    simp
theorem below_set {a w : World} {n : Nat} (h : Below n a w) {p : Addr} (hp : n ≤ p.block) (v : Value) : Below n a (w.setCell p v) :=
  ⟨h.os, h.tape, h.output, by rw [World.size_setCell]; exact h.size, fun k hk => (Below.heap_setCell _ _ _ _ (show k ≠ p.block by omega)).trans (h.block k hk)⟩
theorem Stripes.froz {w : World} {g S k : Nat} (h : Stripes w g S k) {i : Nat} (hi : i < S) : w.frozen? ⟨g, i, none⟩ = false := by
  have := (h.there i hi).2
  rwa [Nat.zero_add] at this
theorem Stripes.old {w : World} {g S k : Nat} (h : Stripes w g S k) {i : Nat} (hi : i < S) : ∃ v, w.cell? ⟨g, i, none⟩ = some v := by
  have := (h.there i hi).1
  rw [Nat.zero_add] at this
  exact Option.isSome_iff_exists.1 this
set_option maxRecDepth 100000 in
set_option maxHeartbeats 1000000 in
theorem table_good (w : World) (S : Nat) (h1 : 1 ≤ S) (h2 : S ≤ 1024) : Calls Tryz.prog 14 #[.int .i64 (S : Int)] w fun e w' => e = .returned (.tuple #[.pointer (some ⟨w.heap.size + 1, 0, none⟩), .int .i64 0]) ∧ w'.heap[w.heap.size + 1]? = some (.cells #[.slice (some ⟨w.heap.size, 0, none⟩) S S, .int .i64 0] 126 (0, 0)) ∧ Stripes w' w.heap.size S S ∧ Below w.heap.size w w' := by
  have d1 : decide ((S : Int) < 1) = false := decide_eq_false (by omega)
  have d2 : decide (1024 < (S : Int)) = false := decide_eq_false (by omega)
  have hmk := make_maps S (by omega) w
  have HL := Lib.hid h2
  clear h1 h2
  go_enter Tryz.func14, Tryz.ntmps14
  go_wp2_with fail
  obtain ⟨wa, hwa⟩ : ∃ wa, wa = w.alloc (.cells (madeCells #[.map none] S) 127) := ⟨_, rfl⟩
  have hsz : wa.heap.size = w.heap.size + 1 := by rw [hwa]; exact Array.size_push _
  have hst0 : wa.there w.heap.size 0 S := there_newN (cs := madeCells #[.map none] S) (t := 127) (by rw [hwa]; exact heap_alloc_new w _) S (by rw [size_madeCells]; exact Nat.le_refl _)
  have hba : Below w.heap.size w wa := by rw [hwa]; exact below_alloc _ _
  rw [← hwa, ← hsz]
  clear hwa hmk d1 d2
  have hb0 : Below w.heap.size w (wa.alloc (.cells #[.slice (some ⟨w.heap.size, 0, none⟩) S S, .int .i64 0] 126)) := nbl_al hba
  have hs0 : Stripes (wa.alloc (.cells #[.slice (some ⟨w.heap.size, 0, none⟩) S S, .int .i64 0] 126)) w.heap.size S 0 := by
    have : Stripes wa w.heap.size S 0 := ⟨hst0, by omega, fun i hi => absurd hi (Nat.not_lt_zero i), fun i b hi => absurd hi (Nat.not_lt_zero i)⟩
    exact this.below (below_alloc _ _)
  have ht0 : (wa.alloc (.cells #[.slice (some ⟨w.heap.size, 0, none⟩) S S, .int .i64 0] 126)).heap[wa.heap.size]? = some (.cells #[.slice (some ⟨w.heap.size, 0, none⟩) S S, .int .i64 0] 126 (0, 0)) := heap_alloc_new wa _
  have HG : Hid (wa.heap.size = w.heap.size + 1) := Lib.hid hsz
  clear hsz hst0 hba
  generalize (wa.alloc (.cells #[.slice (some ⟨w.heap.size, 0, none⟩) S S, .int .i64 0] 126)) = w4 at *
  generalize wa.heap.size = T at *
  have hmm := @run_makeMap Tryz.prog
  go_loopg [21] S (fun gf u wx => ∃ i : Nat, u = .int .i64 (i : Int) ∧ i + gf = S ∧ Stripes wx w.heap.size S i ∧ wx.heap[T]? = some (.cells #[.slice (some ⟨w.heap.size, 0, none⟩) S S, .int .i64 0] 126 (0, 0)) ∧ Below w.heap.size w wx)
  case atStart => exact ⟨0, rfl, by omega, hs0, ht0, hb0⟩
  case round =>
    clear hs0 ht0 hb0
    obtain ⟨i, rfl, hi, hs, ht, hb⟩ := hrel
    have HS := Lib.hid hs
    have HT := Lib.hid ht
    have HB := Lib.hid hb
    have r0 : wr.cell? ⟨T, 0, none⟩ = some (.slice (some ⟨w.heap.size, 0, none⟩) S S) := by simp [World.cell?, ht]
    clear hs ht hb
    by_cases hlt : i < S
    · obtain ⟨g', rfl⟩ : ∃ g', gk = g' + 1 := ⟨gk - 1, by omega⟩
      have hi3 : i < 1024 := by have := HL.out; omega
      have HS2 : Hid (Stripes (wr.alloc (.map #[] 0)) w.heap.size S i) := Lib.hid (HS.out.below (below_alloc _ _))
      obtain ⟨old, r5⟩ := HS2.out.old hlt
      have z5 := HS2.out.froz hlt
      go_wp2_with fail
      go_roundg g'
      case measure => omega
      case rel =>
        refine ⟨i + 1, by first | rfl | go_num, by omega, HS2.out.step hlt (heap_alloc_new wr _) (by have := HS.out.lt; omega), ?_, below_set (nbl_al HB.out) (Nat.le_refl _) _⟩
        rw [Below.heap_setCell _ _ _ _ (show T ≠ w.heap.size by have := HG.out; omega)]
        exact ((below_alloc wr _).block T (Array.getElem?_eq_some_iff.1 HT.out).1).trans HT.out
    · have e : i = S := by omega
      subst e
      go_wp2_with fail
      go_ret2
      rw [← HG.out]
      exact ⟨rfl, HT.out, HS.out, HB.out⟩
end Go.Proofs.YthfleaogajbpfaaGreatDoor
