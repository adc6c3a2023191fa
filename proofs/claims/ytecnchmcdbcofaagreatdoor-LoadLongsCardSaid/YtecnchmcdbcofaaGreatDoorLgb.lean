/- A list of calls that is filled one by one with merges. -/
import Derived.Test.YtecnchmcdbcofaaGreatDoorUh
import Derived.Test.YtecnchmcdbcofaaGreatDoorLga
import Derived.Test.YtecnchmcdbcofaaGreatDoorMkw
set_option linter.unusedVariables false
set_option linter.unusedSimpArgs false
namespace Go.Proofs.YtecnchmcdbcofaaGreatDoor
open Go.RowKit Go.MapKept
theorem below_setCells {B : Nat} {a : World} {g : Nat} (hg : B ≤ g) : ∀ (vs : List Value) (o : Nat) (w : World), Below B a w → Below B a (w.setCells g o vs)
  | [], o, w, h => h
  | v :: vs, o, w, h => below_setCells hg vs (o + 1) _ (h.setCell (p := ⟨g, o, none⟩) hg v)
/-- k of n elements are filled, f says with what; all may be written. -/
structure FillAt {α : Type} (cells : α → List Value) (sz : Nat) (w : World) (g n k : Nat) (f : Nat → α) : Prop where
  there : w.there g 0 (n * sz)
  full : ∀ i, i < k → w.rangeAt g (i * sz) (cells (f i))

section
variable {α : Type} {cells : α → List Value} {sz : Nat} {w w' : World} {g n k : Nat} {f : Nat → α}
theorem FillAt.make (cells : α → List Value) (sz : Nat) (w : World) (c : Array Value) (t : TypeId) (n : Nat) (f : Nat → α) (hc : c.size = n * sz) : FillAt cells sz (w.alloc (.cells c t)) w.heap.size n 0 f :=
  ⟨fun j hj => by
    refine ⟨?_, ?_⟩
    · rw [World.cell?_alloc_new, Nat.zero_add, Option.isSome_iff_exists]
      exact ⟨_, Array.getElem?_eq_getElem (by omega)⟩
    · have h1 := heap_alloc_new w (.cells c t)
      simp only [World.frozen?]
      rw [h1]
      simp, fun i hi => absurd hi (by omega)⟩
theorem FillAt.below (h : FillAt cells sz w g n k f) (hb : Below w.heap.size w w') (hg : g < w.heap.size) : FillAt cells sz w' g n k f :=
  ⟨fun j hj => by rw [hb.cell (p := ⟨g, 0 + j, none⟩) hg, hb.frozen (p := ⟨g, 0 + j, none⟩) hg]; exact h.there j hj, fun i hi j v hv => by rw [hb.cell (p := ⟨g, i * sz + j, none⟩) hg]; exact h.full i hi j v hv⟩
theorem mul_lt_step {k n sz j : Nat} (hk : k < n) (hj : j < sz) : k * sz + j < n * sz := by
  have h1 : (k + 1) * sz ≤ n * sz := Nat.mul_le_mul_right _ hk
  rw [Nat.add_mul, Nat.one_mul] at h1
  omega
theorem FillAt.at_ (h : FillAt cells sz w g n k f) {i : Nat} (hi : i < n) : w.there g (i * sz) sz := fun j hj => by
  have := h.there (i * sz + j) (mul_lt_step hi hj)
  rwa [Nat.zero_add] at this
theorem FillAt.step (hsz : ∀ x, (cells x).length = sz) (h : FillAt cells sz w g n k f) (hk : k < n) : FillAt cells sz (w.setCells g (k * sz) (cells (f k))) g n (k + 1) f :=
  ⟨World.there_setCells h.there _ _ _, fun i hi => by
    by_cases e : i = k
    · subst e
      exact World.rangeAt_setCells_same _ _ _ _ (by rw [hsz]; exact h.at_ hk)
    · refine World.rangeAt_setCells_apart (h.full i (by omega)) _ _ _ (.inr (.inl ?_))
      rw [hsz]
      have h1 : (i + 1) * sz ≤ k * sz := Nat.mul_le_mul_right _ (by omega)
      rw [Nat.add_mul, Nat.one_mul] at h1
      exact h1⟩
theorem FillAt.sl (h : FillAt cells sz w g n n f) (hn : n ≤ 9223372036854775807) : SlAt sz cells w (.slice (some ⟨g, 0, none⟩) n n) ((List.range n).map f) := by
  refine ⟨_, n, by simp, by simp, hn, fun h0 => ⟨g, 0, rfl, fun i hi j u hu => ?_⟩⟩
  have hi' : i < n := by simpa using hi
  have e : ((List.range n).map f)[i] = f i := by simp
  rw [e] at hu
  rw [Nat.zero_add]
  exact h.full i hi' j u hu
end

def mgV : CallV := ⟨9, ⟨#[]⟩, ⟨#[]⟩, ⟨#[]⟩, 0, none, 0, 0⟩
def mgs (n : Nat) : List CallV := (List.range n).map fun _ => mgV
theorem mgs_len (n : Nat) : (mgs n).length = n := by simp [mgs]
theorem mgs_at {n i : Nat} (h : i < n) : (mgs n)[i]? = some mgV := by simp [mgs, h]
theorem mgs_only {n i : Nat} {x : CallV} (h : (mgs n)[i]? = some x) : x = mgV := by
  have hi := (List.getElem?_eq_some_iff.1 h).1
  rw [mgs_len] at hi
  rw [mgs_at hi] at h
  cases h
  rfl
theorem mgs_light (n : Nat) : LightTo (mgs n) (mgs n).length := fun i x hi hx => by
  rw [mgs_only hx]
  exact ⟨by decide, by decide, by decide, by decide⟩
theorem mg_ok : badC mgV = false := by kernel_rfl
theorem mgs_ok (n : Nat) : (mgs n).any badC = false := any_of_okc fun i x hi hx => by rw [mgs_only hx]; exact mg_ok
theorem stepU_nil (m : Int) (st : (Nat → Int) × Int) : stepU m st ⟨#[]⟩ = st := by
  unfold stepU
  rw [if_pos (by first | kernel_rfl | simp)]
theorem mgs_used (m : Int) (n : Nat) : ∀ i, usedF m (mgs n) i = fun _ => 0
  | 0 => rfl
  | i + 1 => by
    cases hx : (mgs n)[i]? with
    | some x =>
      rw [usedF_succ hx, mgs_used m n i, mgs_only hx]
      show (stepU m (stepU m (fun _ => 0, -1) ⟨#[]⟩) ⟨#[]⟩).1 = _
      rw [stepU_nil, stepU_nil]
    | none =>
      show (match (mgs n)[i]? with | some x => _ | none => _) = _
      rw [hx]
      exact mgs_used m n i
theorem make_calls (n : Nat) (hn : n ≤ 1000000) (w : World) : (Instr.makeSlice 22 (.int .i64 (n : Int)) (.int .i64 (n : Int))).run Tryz.prog w = .ok (.slice (some ⟨w.heap.size, 0, none⟩) n n) (w.alloc (.cells (madeCells zCall (n * 6)) 33)) := by
  obtain ⟨ib, hi0, hi1, hi2, hi3⟩ := info_parts info_call
  have := run_make (P := Tryz.prog) w 22 _ ib _ Tryz.underlying22 hi0 hi1 .i64 .i64 n n (by omega) (by omega) (by rw [hi3]; omega) (by omega)
  simpa [hi2, Value.cells] using this
theorem run_store_mg (w : World) (R o : Nat) (ht : w.there R o 6) : (Instr.storeAt 33 (.pointer (some ⟨R, o, none⟩)) (.agg #[.int .i64 9, .string ⟨#[]⟩, .string ⟨#[]⟩, .string ⟨#[]⟩, .int .i64 0, .slice none 0 0])).run Tryz.prog w = .ok () (w.setCells R o mgV.cells) := by
  refine run_storeAt_mid w R o 33 _ ht (by kernel_rfl) ?_
  simp [Value.oneCell']
end Go.Proofs.YtecnchmcdbcofaaGreatDoor
