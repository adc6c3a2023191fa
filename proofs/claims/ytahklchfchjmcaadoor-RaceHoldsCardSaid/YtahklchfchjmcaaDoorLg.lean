/- Plain law: what stands before the second access of a race has no race; and a matrix of bools in the heap. -/
import Derived.Test.YtahklchfchjmcaaDoorRf
import Derived.Test.YtahklchfchjmcaaDoorKp
import Derived.Deep.MidRow
namespace Go.Proofs.YtahklchfchjmcaaDoor
set_option linter.unusedVariables false
open Go.RowKit

theorem wrong_take {l : List Acc} (h : wrongF l = 0) (n : Nat) : wrongF (l.take n) = 0 := by
  unfold wrongF at h ⊢
  split at h
  · cases h
  · rename_i hl
    split at h
    · rename_i ha
      rw [if_neg (by rw [List.length_take]; omega), if_pos]
      rw [List.all_eq_true] at ha ⊢
      exact fun x hx => ha x (List.mem_of_mem_take hx)
    · cases h

theorem check_take {l : List Acc} {k : Nat} (hk : k ≤ l.length) (h : ∀ i' k', k' < k → ¬ Races l i' k') : CheckIs (l.take k) (-1) (-1) := by
  refine .inl ⟨rfl, rfl, fun i' k' hr => ?_⟩
  obtain ⟨a, b, ha, hb, h1, h2, h3, h4, h5, h6, h7⟩ := hr
  have hk' : k' < k := by
    have := (List.getElem?_eq_some_iff.1 hb).1
    rw [List.length_take] at this
    omega
  refine h i' k' hk' ⟨a, b, ?_, ?_, h1, h2, h3, h4, h5, h6, fun h' => h7 ((hb_take hk').2 h')⟩
  · rw [List.getElem?_take_of_lt (by omega)] at ha; exact ha
  · rw [List.getElem?_take_of_lt (by omega)] at hb; exact hb

/-- Rows of 24 bools: those before (i, k) say what happens before what. -/
structure MatB (w : World) (g : Nat) (l : List Acc) (i k : Nat) : Prop where
  there : w.there g 0 576
  full : ∀ a b, a < 24 → b < l.length → (a < i ∨ (a = i ∧ b < k)) → w.cell? ⟨g, a * 24 + b, none⟩ = some (.bool (hbB l b a))

section
variable {w w' : World} {g : Nat} {l : List Acc} {i k : Nat}
theorem MatB.below (h : MatB w g l i k) (hb : Below w.heap.size w w') (hg : g < w.heap.size) : MatB w' g l i k :=
  ⟨fun j hj => by rw [hb.cell (p := ⟨g, 0 + j, none⟩) hg, hb.frozen (p := ⟨g, 0 + j, none⟩) hg]; exact h.there j hj, fun a b ha hbl hab => by rw [hb.cell (p := ⟨g, a * 24 + b, none⟩) hg]; exact h.full a b ha hbl hab⟩
theorem MatB.make (w : World) (c : Array Value) (t : TypeId) (l : List Acc) (hc : c.size = 576) : MatB (w.alloc (.cells c t)) w.heap.size l 0 0 :=
  ⟨fun j hj => by
    refine ⟨?_, ?_⟩
    · rw [World.cell?_alloc_new, Nat.zero_add, Option.isSome_iff_exists]
      exact ⟨_, Array.getElem?_eq_getElem (by omega)⟩
    · have h1 := heap_alloc_new w (.cells c t)
      simp only [World.frozen?]
      rw [h1]
      simp, fun a b _ _ h => absurd h (by omega)⟩
theorem MatB.cell (h : MatB w g l i k) {a b : Nat} (ha : a < 24) (hb : b < 24) : ∃ v, w.cell? ⟨g, a * 24 + b, none⟩ = some v ∧ w.frozen? ⟨g, a * 24 + b, none⟩ = false := by
  have h1 := h.there (a * 24 + b) (by omega)
  rw [Nat.zero_add] at h1
  obtain ⟨v, hv⟩ := Option.isSome_iff_exists.1 h1.1
  exact ⟨v, hv, h1.2⟩
theorem MatB.put (h : MatB w g l i k) (hi : i < 24) (hk : k < 24) (hl : l.length ≤ 24) : MatB (w.setCell ⟨g, i * 24 + k, none⟩ (.bool (hbB l k i))) g l i (k + 1) := by
  have e : w.setCell ⟨g, i * 24 + k, none⟩ (.bool (hbB l k i)) = w.setCells g (i * 24 + k) [.bool (hbB l k i)] := rfl
  rw [e]
  refine ⟨World.there_setCells h.there _ _ _, fun a b ha hb hab => ?_⟩
  by_cases hk2 : a = i ∧ b = k
  · obtain ⟨rfl, rfl⟩ := hk2
    have h1 := World.rangeAt_setCells_same w g (a * 24 + b) [.bool (hbB l b a)] (fun j hj => by
      have hj0 : j = 0 := by simpa using hj
      subst hj0
      have := h.there (a * 24 + b) (by omega)
      rwa [Nat.zero_add] at this) 0 _ rfl
    exact h1
  · rw [World.cell?_setCells_out g _ _ _ _ (fun _ _ => by
      simp only [List.length_singleton]
      rcases Nat.lt_or_ge a i with h1 | h1
      · left; omega
      · have h2 : a = i := by omega
        subst h2
        omega)]
    exact h.full a b ha hb (by omega)
theorem MatB.next (h : MatB w g l i k) (hk : l.length ≤ k) : MatB w g l (i + 1) 0 :=
  ⟨h.there, fun a b ha hb hab => h.full a b ha hb (by omega)⟩
end
end Go.Proofs.YtahklchfchjmcaaDoor
