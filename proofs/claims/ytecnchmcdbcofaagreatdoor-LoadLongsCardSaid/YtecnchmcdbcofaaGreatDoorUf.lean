/- load.Use: how stripes are used (pure), and a row of numbers in the heap. -/
import Derived.Test.YtecnchmcdbcofaaGreatDoorUe
import Derived.Deep.MidRow
import Derived.Laws.MakeOwn
import Derived.Laws.OwnMore
set_option linter.unusedVariables false
set_option linter.unusedSimpArgs false
namespace Go.Proofs.YtecnchmcdbcofaaGreatDoor
open Go.RowKit Go.MapKept
structure IRow (w : World) (g n : Nat) (f : Nat → Int) : Prop where
  there : w.there g 0 n
  cell : ∀ i, i < n → w.cell? ⟨g, i, none⟩ = some (.int .i64 (f i))
theorem IRow.below {w w' : World} {g n : Nat} {f : Nat → Int} (h : IRow w g n f) (hb : Below w.heap.size w w') (hg : g < w.heap.size) : IRow w' g n f :=
  ⟨fun j hj => by rw [hb.cell (p := ⟨g, 0 + j, none⟩) hg, hb.frozen (p := ⟨g, 0 + j, none⟩) hg]; exact h.there j hj, fun i hi => by rw [hb.cell (p := ⟨g, i, none⟩) hg]; exact h.cell i hi⟩
theorem IRow.froz {w : World} {g n : Nat} {f : Nat → Int} (h : IRow w g n f) {i : Nat} (hi : i < n) : w.frozen? ⟨g, i, none⟩ = false := by
  have := (h.there i hi).2
  rwa [Nat.zero_add] at this
theorem IRow.make (w : World) (c : Array Value) (t : TypeId) (n : Nat) (hc : c.size = n) (h0 : ∀ i, i < n → c[i]? = some (.int .i64 0)) : IRow (w.alloc (.cells c t)) w.heap.size n (fun _ => 0) :=
  ⟨fun j hj => by
    refine ⟨?_, ?_⟩
    · rw [new_cells, Nat.zero_add, h0 j hj]
      rfl
    · have hh : (w.alloc (.cells c t)).heap[w.heap.size]? = some (.cells c t (0, 0)) := by
        show (w.heap.push _)[w.heap.size]? = _
        simp
      simp only [World.frozen?]
      rw [hh]
      simp, fun i hi => by rw [new_cells]; exact h0 i hi⟩
def bump (f : Nat → Int) (p : Nat) : Nat → Int := fun i => if i = p then f i + 1 else f i
theorem IRow.put {w : World} {g n : Nat} {f : Nat → Int} (h : IRow w g n f) {p : Nat} (hp : p < n) : IRow (w.setCell ⟨g, p, none⟩ (.int .i64 (f p + 1))) g n (bump f p) := by
  have e : w.setCell ⟨g, p, none⟩ (.int .i64 (f p + 1)) = w.setCells g p [.int .i64 (f p + 1)] := rfl
  rw [e]
  refine ⟨World.there_setCells h.there _ _ _, fun i hi => ?_⟩
  unfold bump
  by_cases hk : i = p
  · subst hk
    rw [if_pos rfl]
    exact World.rangeAt_setCells_same w g i [.int .i64 (f i + 1)] (fun j hj => by
      have hj0 : j = 0 := by simpa using hj
      subst hj0
      have := h.there i hi
      rwa [Nat.zero_add] at this) 0 _ rfl
  · rw [if_neg hk, World.cell?_setCells_out g _ _ _ _ (fun _ _ => by simp only [List.length_singleton]; omega)]
    exact h.cell i hi
theorem IRow.drew {w : World} {g n : Nat} {f : Nat → Int} (h : IRow w g n f) (hg : g < w.heap.size) : IRow w.drew g n f := h.below (Below.refl _ w).drew hg
/-- One key of a call. -/
def stepU (m : Int) (st : (Nat → Int) × Int) (s : ByteArray) : (Nat → Int) × Int :=
  if s.toList.isEmpty then st else (if stripeF s m = st.2 then st.1 else bump st.1 (stripeF s m).toNat, stripeF s m)
def usedF (m : Int) (l : List CallV) : Nat → Nat → Int
  | 0 => fun _ => 0
  | i + 1 => match l[i]? with
    | some x => ([x.k, x.t].foldl (stepU m) (usedF m l i, -1)).1
    | none => usedF m l i
theorem usedF_succ {m : Int} {l : List CallV} {i : Nat} {x : CallV} (h : l[i]? = some x) : usedF m l (i + 1) = ([x.k, x.t].foldl (stepU m) (usedF m l i, -1)).1 := by
  show (match l[i]? with | some x => _ | none => _) = _
  rw [h]
def BoundU (f : Nat → Int) (b : Int) : Prop := ∀ i, 0 ≤ f i ∧ f i ≤ b
theorem BoundU.step {m : Int} {st : (Nat → Int) × Int} {b : Int} (h : BoundU st.1 b) (s : ByteArray) : BoundU (stepU m st s).1 (b + 1) := by
  intro i
  have := h i
  unfold stepU
  split
  · omega
  · dsimp only
    split
    · omega
    · unfold bump
      split <;> omega
theorem usedF_bound (m : Int) (l : List CallV) : ∀ i, BoundU (usedF m l i) (2 * i)
  | 0 => fun _ => ⟨Int.le_refl _, Int.le_refl _⟩
  | i + 1 => by
    have ih := usedF_bound m l i
    intro k
    cases hx : l[i]? with
    | some x =>
      rw [usedF_succ hx]
      have h1 := (BoundU.step (m := m) (st := (usedF m l i, -1)) ih x.k).step (m := m) x.t k
      simp only [List.foldl]
      exact ⟨h1.1, by have := h1.2; omega⟩
    | none =>
      have e : usedF m l (i + 1) = usedF m l i := by simp [usedF, hx]
      rw [e]
      have := ih k
      omega
/-- Does a call use a stripe? -/
def hitU (m : Int) (x : CallV) (k : Nat) : Bool := (decide (stripeF x.k m = (k : Int)) && !x.k.toList.isEmpty) || (decide (stripeF x.t m = (k : Int)) && !x.t.toList.isEmpty)
theorem used_hit {m : Int} (hm : 1 ≤ m) {l : List CallV} {i : Nat} {x : CallV} (h : l[i]? = some x) (k : Nat) : usedF m l (i + 1) k = usedF m l i k + if hitU m x k then 1 else 0 := by
  rw [usedF_succ h]
  have n1 : 0 ≤ stripeF x.k m := Int.emod_nonneg _ (by omega)
  have n2 : 0 ≤ stripeF x.t m := Int.emod_nonneg _ (by omega)
  generalize usedF m l i = f
  unfold hitU
  simp only [List.foldl]
  unfold stepU
  generalize stripeF x.k m = a at *
  generalize stripeF x.t m = b at *
  obtain ⟨a, rfl⟩ := Int.eq_ofNat_of_zero_le n1
  obtain ⟨b, rfl⟩ := Int.eq_ofNat_of_zero_le n2
  have hm1 : ∀ n : Nat, ¬ ((n : Int) = -1) := fun n => by omega
  cases x.k.toList.isEmpty <;> cases x.t.toList.isEmpty <;> by_cases e1 : a = k <;> by_cases e2 : b = k <;> by_cases e3 : b = a <;> simp only [Int.ofNat_eq_natCast, Int.natCast_inj, Int.toNat_natCast, hm1, e1, e2, e3, if_true, if_false, bump, Bool.not_true, Bool.not_false, Bool.and_true, Bool.and_false, Bool.or_false, Bool.false_or, decide_true, decide_false, Bool.or_true, Bool.true_or, Bool.false_eq_true, reduceIte] <;> first | omega | (simp_all [bump]; done) | (simp_all [bump]; omega)
theorem info_int : (Tryz.prog.info? 3).map (fun i => (i.zero, i.size, i.bytes)) = some (some (.int .i64 0), 1, 8) := by kernel_rfl
set_option maxRecDepth 100000 in
theorem make_ints (M : Nat) (hM : M ≤ 1000000) (w : World) : (Instr.makeSlice 27 (.int .i64 (M : Int)) (.int .i64 (M : Int))).run Tryz.prog w = .ok (.slice (some ⟨w.heap.size, 0, none⟩) M M) (w.alloc (.cells (madeCells #[.int .i64 0] M) 3)) := by
  cases hi : Tryz.prog.info? 3 with
  | none => have h := info_int; rw [hi] at h; cases h
  | some i =>
    have h := info_int
    rw [hi] at h
    injection h with h
    injection h with h1 h2
    injection h2 with h2 h3
    have := run_make (P := Tryz.prog) w 27 _ i _ Tryz.underlying27 hi h1 .i64 .i64 M M (by omega) (by omega) (by rw [h3]; omega) (by omega)
    simpa [h2, Value.cells] using this
theorem irow_made (M : Nat) (w : World) : IRow (w.alloc (.cells (madeCells #[.int .i64 0] M) 3)) w.heap.size M (fun _ => 0) := by
  refine IRow.make _ _ _ _ (size_madeCells _ _) fun i hi => ?_
  rw [← Array.getElem?_toList, toList_madeCells_one]
  simp [hi]
end Go.Proofs.YtecnchmcdbcofaaGreatDoor
