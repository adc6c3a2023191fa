/- A row of structs that is filled one by one. -/
import Derived.Test.YtahklchfchjmcaaDoorKo
import Derived.Deep.MidRow
namespace Go.Proofs.YtahklchfchjmcaaDoor
set_option linter.unusedVariables false
open Go.RowKit

theorem below_setCells {B : Nat} {a : World} {g : Nat} (hg : B ≤ g) : ∀ (vs : List Value) (o : Nat) (w : World), Below B a w → Below B a (w.setCells g o vs)
  | [], o, w, h => h
  | v :: vs, o, w, h => below_setCells hg vs (o + 1) _ (h.setCell (p := ⟨g, o, none⟩) hg v)
theorem size_setCells (g : Nat) : ∀ (vs : List Value) (o : Nat) (w : World), (w.setCells g o vs).heap.size = w.heap.size
  | [], o, w => rfl
  | v :: vs, o, w => (size_setCells g vs (o + 1) _).trans (by simp [World.setCell])

/-- k of n elements are filled, f says with what; all may be written. -/
structure FillAt {α : Type} (cells : α → List Value) (sz : Nat) (w : World) (g n k : Nat) (f : Nat → α) : Prop where
  there : w.there g 0 (n * sz)
  full : ∀ i, i < k → w.rangeAt g (i * sz) (cells (f i))

section
variable {α : Type} {cells : α → List Value} {sz : Nat} {w w' : World} {g n k : Nat} {f : Nat → α}
theorem FillAt.make (cells : α → List Value) (sz : Nat) (w : World) (c : Array Value) (t : TypeId) (n : Nat) (f : Nat → α) (hc : c.size = n * sz) : FillAt cells sz (w.alloc (.cells c t)) w.heap.size n 0 f :=
  ⟨fun j hj => by
    refine ⟨?_, ?_⟩
    · rw [World.cell?_alloc_new, Nat.zero_add, Option.isSome_iff_exists]
      exact ⟨_, Array.getElem?_eq_getElem (by omega)⟩
    · have h1 := heap_alloc_new w (.cells c t)
      simp only [World.frozen?]
      rw [h1]
      simp, fun i hi => absurd hi (by omega)⟩
theorem FillAt.below (h : FillAt cells sz w g n k f) (hb : Below w.heap.size w w') (hg : g < w.heap.size) : FillAt cells sz w' g n k f :=
  ⟨fun j hj => by rw [hb.cell (p := ⟨g, 0 + j, none⟩) hg, hb.frozen (p := ⟨g, 0 + j, none⟩) hg]; exact h.there j hj, fun i hi j v hv => by rw [hb.cell (p := ⟨g, i * sz + j, none⟩) hg]; exact h.full i hi j v hv⟩
theorem mul_lt_step {k n sz j : Nat} (hk : k < n) (hj : j < sz) : k * sz + j < n * sz := by
  have h1 : (k + 1) * sz ≤ n * sz := Nat.mul_le_mul_right _ hk
  rw [Nat.add_mul, Nat.one_mul] at h1
  omega
theorem FillAt.at_ (h : FillAt cells sz w g n k f) {i : Nat} (hi : i < n) : w.there g (i * sz) sz := fun j hj => by
  have := h.there (i * sz + j) (mul_lt_step hi hj)
  rwa [Nat.zero_add] at this
theorem FillAt.step (hsz : ∀ x, (cells x).length = sz) (h : FillAt cells sz w g n k f) (hk : k < n) : FillAt cells sz (w.setCells g (k * sz) (cells (f k))) g n (k + 1) f :=
  ⟨World.there_setCells h.there _ _ _, fun i hi => by
    by_cases e : i = k
    · subst e
      exact World.rangeAt_setCells_same _ _ _ _ (by rw [hsz]; exact h.at_ hk)
    · refine World.rangeAt_setCells_apart (h.full i (by omega)) _ _ _ (.inr (.inl ?_))
      rw [hsz]
      have h1 : (i + 1) * sz ≤ k * sz := Nat.mul_le_mul_right _ (by omega)
      rw [Nat.add_mul, Nat.one_mul] at h1
      exact h1⟩
/-- One element of a full row is written anew. -/
theorem FillAt.put (hsz : ∀ x, (cells x).length = sz) (h : FillAt cells sz w g n n f) {p : Nat} (hp : p < n) (x : α) : FillAt cells sz (w.setCells g (p * sz) (cells x)) g n n (fun i => if i = p then x else f i) :=
  ⟨World.there_setCells h.there _ _ _, fun i hi => by
    by_cases e : i = p
    · subst e
      rw [if_pos rfl]
      exact World.rangeAt_setCells_same _ _ _ _ (by rw [hsz]; exact h.at_ hp)
    · rw [if_neg e]
      refine World.rangeAt_setCells_apart (h.full i hi) _ _ _ (.inr ?_)
      rw [hsz, hsz]
      rcases Nat.lt_or_gt_of_ne e with h1 | h1
      · left
        have h2 : (i + 1) * sz ≤ p * sz := Nat.mul_le_mul_right _ (by omega)
        rw [Nat.add_mul, Nat.one_mul] at h2
        exact h2
      · right
        have h2 : (p + 1) * sz ≤ i * sz := Nat.mul_le_mul_right _ (by omega)
        rw [Nat.add_mul, Nat.one_mul] at h2
        exact h2⟩
theorem FillAt.sl (h : FillAt cells sz w g n n f) (hn : n ≤ 9223372036854775807) : SlAt sz cells w (.slice (some ⟨g, 0, none⟩) n n) ((List.range n).map f) := by
  refine ⟨_, n, by simp, by simp, hn, fun h0 => ⟨g, 0, rfl, fun i hi j u hu => ?_⟩⟩
  have hi' : i < n := by simpa using hi
  have e : ((List.range n).map f)[i] = f i := by simp
  rw [e] at hu
  rw [Nat.zero_add]
  exact h.full i hi' j u hu
end

theorem FillAt.congr {α : Type} {cells : α → List Value} {sz : Nat} {w : World} {g n k : Nat} {f f' : Nat → α} (h : FillAt cells sz w g n k f) (e : ∀ i, i < k → f i = f' i) : FillAt cells sz w g n k f' :=
  ⟨h.there, fun i hi => by rw [← e i hi]; exact h.full i hi⟩

/-- The task of one access is written anew. -/
theorem FillAt.task {w : World} {g n p : Nat} {f : Nat → Acc} (h : FillAt Acc.cells 3 w g n n f) (hp : p < n) (t : Int) : FillAt Acc.cells 3 (w.setCell ⟨g, p * 3, none⟩ (.int .i64 t)) g n n (fun i => if i = p then ⟨t, (f p).kind, (f p).var⟩ else f i) := by
  have e : w.setCell ⟨g, p * 3, none⟩ (.int .i64 t) = w.setCells g (p * 3) [.int .i64 t] := rfl
  rw [e]
  refine ⟨World.there_setCells h.there _ _ _, fun i hi => ?_⟩
  by_cases e : i = p
  · subst e
    rw [if_pos rfl]
    intro j v hv
    have hf := h.full i hi j
    match j, hv with
    | 0, hv =>
      cases hv
      exact World.rangeAt_setCells_same w g (i * 3) [.int .i64 t] (fun j hj => h.at_ hi j (by simp at hj; omega)) 0 _ rfl
    | 1, hv =>
      cases hv
      rw [World.cell?_setCells_out g _ _ _ _ (fun _ _ => .inr (by simp))]
      exact hf _ rfl
    | 2, hv =>
      cases hv
      rw [World.cell?_setCells_out g _ _ _ _ (fun _ _ => .inr (by simp))]
      exact hf _ rfl
  · rw [if_neg e]
    exact World.rangeAt_setCells_apart (h.full i hi) _ _ _ (.inr (by simp [Acc.cells]; omega))

theorem run_store_dids (w : World) (g o : Nat) (d : Dd) (ho : d.One) (ht : w.there g o 18) :
    (Instr.storeAt 52 (.pointer (some ⟨g, o, none⟩)) (.agg d.arr)).run Tryd.prog w = .ok () (w.setCells g o d.cells) := by
  refine run_storeAt_mid w g o 52 d.arr ht (by kernel_rfl) ?_
  simp only [Dd.One, List.forall_mem_cons] at ho
  obtain ⟨o0, o1, o2, o3, o4, o5, o6, o7, o8, o9, o10, o11, o12, _⟩ := ho
  simp [Dd.arr, o0, o1, o2, o3, o4, o5, o6, o7, o8, o9, o10, o11, o12]
  simp [Value.oneCell']
theorem run_store_accs (w : World) (g o : Nat) (x : Acc) (ht : w.there g o 3) :
    (Instr.storeAt 55 (.pointer (some ⟨g, o, none⟩)) (.agg #[.int .i64 x.task, .int .i64 x.kind, .string x.var])).run Tryd.prog w = .ok () (w.setCells g o x.cells) := by
  refine run_storeAt_mid w g o 55 _ ht (by kernel_rfl) ?_
  simp [Value.oneCell']
end Go.Proofs.YtahklchfchjmcaaDoor
