/- Source.Next: its six numbers. -/
import Derived.Test.YtecnchmcdbcofaaGreatDoorMkg
import Derived.Deep.RegionHeld3
import Derived.Deep.RegionLaw
set_option linter.unusedVariables false
set_option linter.unusedSimpArgs false
namespace Go.Proofs.YtecnchmcdbcofaaGreatDoor
open Go.RowKit Go.MapKept
theorem IRow.setv {w : World} {g n : Nat} {f : Nat → Int} (h : IRow w g n f) {p : Nat} (hp : p < n) (v : Int) : IRow (w.setCell ⟨g, p, none⟩ (.int .i64 v)) g n (fun i => if i = p then v else f i) := by
  have e : w.setCell ⟨g, p, none⟩ (.int .i64 v) = w.setCells g p [.int .i64 v] := rfl
  rw [e]
  refine ⟨World.there_setCells h.there _ _ _, fun i hi => ?_⟩
  by_cases hk : i = p
  · subst hk
    rw [if_pos rfl]
    exact World.rangeAt_setCells_same w g i [.int .i64 v] (fun j hj => by
      have hj0 : j = 0 := by simpa using hj
      subst hj0
      have := h.there i hi
      rwa [Nat.zero_add] at this) 0 _ rfl
  · rw [if_neg hk, World.cell?_setCells_out g _ _ _ _ (fun _ _ => by simp only [List.length_singleton]; omega)]
    exact h.cell i hi
theorem IRow.kbut {w w' : World} {g n p : Nat} {f : Nat → Int} (h : IRow w g n f) (hk : Kbut p w w') (hg : g < w.heap.size) (hp : g ≠ p) : IRow w' g n f := by
  have hb := hk.block g hg hp
  have hc : ∀ i, w'.cell? ⟨g, i, none⟩ = w.cell? ⟨g, i, none⟩ := fun i => hk.cell hg hp
  refine ⟨fun j hj => ?_, fun i hi => (hc i).trans (h.cell i hi)⟩
  have ht := h.there j hj
  refine ⟨by rw [hc]; exact ht.1, ?_⟩
  have hz := ht.2
  simp only [World.frozen?] at hz ⊢
  rw [hb]
  exact hz
def numsTo (s : Int) (i : Nat) : Nat → Int := fun j => if j < i then numAt s j else 0
theorem numsTo_zero (s : Int) : numsTo s 0 = fun _ => 0 := by
  funext j
  unfold numsTo
  rw [if_neg (by omega)]
theorem numsTo_succ (s : Int) (i : Nat) : (fun j => if j = i then numAt s i else numsTo s i j) = numsTo s (i + 1) := by
  funext j
  unfold numsTo
  by_cases e : j = i
  · subst e
    rw [if_pos rfl, if_pos (by omega)]
  · rw [if_neg e]
    by_cases e2 : j < i
    · rw [if_pos e2, if_pos (by omega)]
    · rw [if_neg e2, if_neg (by omega)]
end Go.Proofs.YtecnchmcdbcofaaGreatDoor
