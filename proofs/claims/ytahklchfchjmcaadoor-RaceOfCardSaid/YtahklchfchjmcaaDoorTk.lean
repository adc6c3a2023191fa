/- The teller's lock. -/
import Derived.Test.YtahklchfchjmcaaDoorTs
namespace Go.Proofs.YtahklchfchjmcaaDoor
set_option linter.unusedVariables false
set_option linter.unusedSimpArgs false
open Go.RowKit Go.MapKept

def Dd.cells (d : Dd) : List Value := [.int .i64 d.task, .int .i64 d.step, .int .i64 d.stripe, .bool d.waits, .int .i64 d.next, d.r0, d.r1, d.r2, d.r3, d.r4, d.r5, d.r6, d.r7, d.r8, d.r9, d.r10, d.r11, d.r12]
def Dd.arr (d : Dd) : Array Value := #[.int .i64 d.task, .int .i64 d.step, .int .i64 d.stripe, .bool d.waits, .int .i64 d.next, d.r0, d.r1, d.r2, d.r3, d.r4, d.r5, d.r6, d.r7, d.r8, d.r9, d.r10, d.r11, d.r12]

theorem flat_int (l : List Int) : l.flatMap intCells = l.map (Value.int .i64) := by
  induction l with
  | nil => rfl
  | cons a l ih => simp [List.flatMap_cons, ih, intCells]

/-- slices.Contains of ints. -/
theorem contains_any (w : World) (v : Value) (l : List Int) (h : SlAt 1 intCells w v l) (x : Int) :
    Calls Tryd.prog 102 #[v, .int .i64 x] w fun e w' => e = .returned (.bool (l.contains x)) ∧ w' = w := by
  obtain ⟨A, cap, rfl, hcap, hcm, hc⟩ := h
  rcases Nat.eq_zero_or_pos l.length with h0 | h0
  · have : l = [] := List.eq_nil_of_length_eq_zero h0
    subst this
    exact Tryd.slices_Contains_int_empty A cap x w
  · obtain ⟨b, off, rfl, h1⟩ := hc h0
    refine (Tryd.slices_Contains_int b off l.length cap l x w (Nat.le_refl _) (by omega) fun j hj => ?_).mono ?_
    · have := h1 j hj 0 _ rfl
      rw [Nat.add_zero, Nat.mul_one] at this
      rw [this]
      simp [List.getD, hj]
    · rintro e w' ⟨rfl, rfl⟩
      rw [List.take_length]
      exact ⟨rfl, rfl⟩

/-- slices.Index of ints. -/
theorem index_any (w : World) (v : Value) (l : List Int) (h : SlAt 1 intCells w v l) (x : Int) :
    Calls Tryd.prog 104 #[v, .int .i64 x] w fun e w' => e = .returned (.int .i64 (Lib.idxOf l x)) ∧ w' = w := by
  obtain ⟨A, cap, rfl, hcap, hcm, hc⟩ := h
  rcases Nat.eq_zero_or_pos l.length with h0 | h0
  · have : l = [] := List.eq_nil_of_length_eq_zero h0
    subst this
    exact Tryd.slices_Index_int_empty A cap x w
  · obtain ⟨b, off, rfl, h1⟩ := hc h0
    refine (Tryd.slices_Index_int b off l.length cap l x w (Nat.le_refl _) (by omega) fun j hj => ?_).mono ?_
    · have := h1 j hj 0 _ rfl
      rw [Nat.add_zero, Nat.mul_one] at this
      rw [this]
      simp [List.getD, hj]
    · rintro e w' ⟨rfl, rfl⟩
      rw [List.take_length]
      exact ⟨rfl, rfl⟩

section
variable {w w' W : World} {B p bh : Nat} {S : Int → Option Value} {H : Int → List Int} {stripes : Int} {vo : Value} {out : List Acc}

/-- A task's stripes are other ones. -/
theorem Tell.put (h : Tell w B p bh S H stripes vo out) {x : Int} {l : List Int} {v' : Value} {w0 w1 : World} {row : Option Nat} (hw0 : Below w.heap.size w w0) (hrow : row = Option.none ∨ row = ((S x).getD (.slice .none 0 0)).ownBlock)
    (hg : w0.grownBy w1 row) (ho : w1.ownsRow B 3 1 v' l.length (l.flatMap intCells)) (hat : ∀ g, v'.ownBlock = some g → ((S x).getD (.slice .none 0 0)).ownBlock = some g ∨ w0.heap.size ≤ g)
    (hm : MapAt ienc w' bh (upd S x v')) (hg2 : w1.grownBy w' (some bh)) :
    Tell w' B p bh (upd S x v') (fun y => if y = x then l else H y) stripes vo out ∧ Below B w w' ∧ ∀ (X : Nat) (cs : Array Value) (t : Nat), w0.heap[X]? = some (Obj.cells cs t (0, 0)) → t ≠ 3 → w1.heap[X]? = some (Obj.cells cs t (0, 0)) ∧ w'.heap[X]? = some (Obj.cells cs t (0, 0)) := by
  have h0 := h.below hw0
  obtain ⟨g1, hfr, _⟩ := h0.gm.put hrow hg ho hat hm hg2
  have hkeep : ∀ (X : Nat) (cs : Array Value) (t : Nat), w0.heap[X]? = some (Obj.cells cs t (0, 0)) → t ≠ 3 → w1.heap[X]? = some (Obj.cells cs t (0, 0)) ∧ w'.heap[X]? = some (Obj.cells cs t (0, 0)) := by
    intro X cs t hX ht
    have hlt : X < w0.heap.size := (Array.getElem?_eq_some_iff.1 hX).1
    have h1 : w1.heap[X]? = some (Obj.cells cs t (0, 0)) := (hg.block X hlt (fun e => by
      rcases hrow with hr | hr
      · rw [hr] at e; cases e
      · rw [hr] at e
        obtain ⟨cur, hc⟩ := (own_block (h0.gm.own x) e.symm).2.2
        exact cells_ne hX hc ht rfl)).trans hX
    refine ⟨h1, (hg2.block X (Array.getElem?_eq_some_iff.1 h1).1 fun e => ?_).trans h1⟩
    injection e with e
    subst e
    obtain ⟨es, c, h2, _⟩ := h0.gm.map
    rw [hX] at h2; cases h2
  refine ⟨⟨(hkeep p _ _ h0.blk (by decide)).2, GM.congr g1 fun y => by by_cases e : y = x <;> simp [e], own_keep h0.own fun g hg' => ?_, h.ge⟩, (hw0.mono h.hB).trans (hfr.to_below h0.hB fun k hk => (h0.gm.lt hk).1), hkeep⟩
  obtain ⟨cur, hc⟩ := (own_block h0.own hg').2.2
  rw [(hkeep g _ _ hc (by decide)).2, hc]

theorem hold_all (h : Tell W B p bh S H stripes vo out) {x s : Int} {X : Nat} {d : Dd} {gg cap : Nat} {w1 : World} (hX : W.heap[X]? = some (.cells d.arr 52 (0, 0)))
    (ho : w1.ownsRow B 3 1 (.slice (some ⟨gg, 0, none⟩) ((H x).length + 1) cap) ((H x).length + 1) ((H x).flatMap intCells ++ [.int .i64 s]))
    (hg : (W.alloc (.cells #[.int .i64 s] 3)).drew.grownBy w1 (((S x).getD (.slice none 0 0)).ownBlock))
    (hat : ((S x).getD (.slice none 0 0)).ownBlock = some gg ∨ gg = W.heap.size + 1) :
    ∃ w', (Instr.mapUpdate 119 (.map (some bh)) (.int .i64 x) (.slice (some ⟨gg, 0, none⟩) ((H x).length + 1) cap)).run Tryd.prog w1 = .ok () w' ∧
      Hid (Tell w' B p bh (upd S x (.slice (some ⟨gg, 0, none⟩) ((H x).length + 1) cap)) (fun y => if y = x then H x ++ [s] else H y) stripes vo out ∧ Below B W w') ∧
      w1.cell? ⟨p, 1, none⟩ = some (.map (some bh)) ∧ w1.cell? ⟨X, 0, none⟩ = some (.int .i64 d.task) ∧ w1.cell? ⟨X, 2, none⟩ = some (.int .i64 d.stripe) ∧ w'.cell? ⟨p, 1, none⟩ = some (.map (some bh)) ∧ w'.cell? ⟨X, 0, none⟩ = some (.int .i64 d.task) ∧ w'.cell? ⟨X, 2, none⟩ = some (.int .i64 d.stripe) ∧ w'.cell? ⟨X, 3, none⟩ = some (.bool d.waits) := by
  have hb5 : Below W.heap.size W (W.alloc (.cells #[.int .i64 s] 3)).drew := ((Below.refl _ _).alloc (Nat.le_refl _) _).drew
  have h5 := h.below hb5
  have hm1 : MapAt ienc w1 bh S := h5.gm.map.grown hg fun e => by
    have e := e.symm
    obtain ⟨cur, hc⟩ := (own_block (h5.gm.own x) e).2.2
    obtain ⟨es, clk, hbm, _⟩ := h5.gm.map
    rw [hbm] at hc; cases hc
  obtain ⟨w', hrun, hm, hg2, _⟩ := hm1.update ikey mapTy_held x (.slice (some ⟨gg, 0, none⟩) ((H x).length + 1) cap)
  have ho' : w1.ownsRow B 3 1 (.slice (some ⟨gg, 0, none⟩) ((H x).length + 1) cap) (H x ++ [s]).length ((H x ++ [s]).flatMap intCells) := by
    simpa [List.flatMap_append, intCells] using ho
  obtain ⟨h1, h2, h3⟩ := h.put (x := x) (l := H x ++ [s]) hb5 (.inr rfl) hg ho' (fun g hg' => by
    have e : g = gg := by simpa [Value.ownBlock] using hg'.symm
    subst e
    rcases hat with e | e
    · exact .inl e
    · exact .inr (by simp; omega)) hm hg2
  have hX5 := (hb5.block X (Array.getElem?_eq_some_iff.1 hX).1).trans hX
  obtain ⟨k1, k2⟩ := h3 X _ _ hX5 (by decide)
  obtain ⟨k3, k4⟩ := h3 p _ _ h5.blk (by decide)
  refine ⟨w', hrun, ⟨h1, h2⟩, by simp [World.cell?, k3], by simp [World.cell?, k1, Dd.arr], by simp [World.cell?, k1, Dd.arr], by simp [World.cell?, k4], by simp [World.cell?, k2, Dd.arr], by simp [World.cell?, k2, Dd.arr], by simp [World.cell?, k2, Dd.arr]⟩
end
end Go.Proofs.YtahklchfchjmcaaDoor
