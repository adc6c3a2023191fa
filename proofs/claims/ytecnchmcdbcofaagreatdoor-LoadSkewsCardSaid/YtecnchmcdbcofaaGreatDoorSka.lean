/- The skew of numbers: plain law. -/
import Derived.Lib.Slices
namespace Go.Proofs.YtecnchmcdbcofaaGreatDoor
set_option linter.unusedVariables false
set_option linter.unusedSimpArgs false

def badN (n : Int) : Bool := decide (n < 0) || decide (1099511627776 < n)
theorem badN_true {n : Int} : badN n = true ↔ n < 0 ∨ 1099511627776 < n := by simp [badN]
theorem badN_false {n : Int} : badN n = false ↔ 0 ≤ n ∧ n ≤ 1099511627776 := by simp [badN]
def sumF (l : List Int) : Nat → Int
  | 0 => 0
  | n + 1 => sumF l n + l.getD n 0
def mostF (l : List Int) : Nat → Int
  | 0 => 0
  | n + 1 => max (mostF l n) (l.getD n 0)
def OkTo (l : List Int) (k : Nat) : Prop := ∀ j, j < k → badN (l.getD j 0) = false
theorem OkTo.zero (l : List Int) : OkTo l 0 := fun j h => absurd h (Nat.not_lt_zero j)
theorem OkTo.succ {l : List Int} {k : Nat} (h : OkTo l k) (hk : badN (l.getD k 0) = false) : OkTo l (k + 1) := by
  intro j hj
  by_cases e : j = k
  · subst e; exact hk
  · exact h j (by omega)
theorem OkTo.sum {l : List Int} : ∀ {k : Nat}, OkTo l k → 0 ≤ sumF l k ∧ sumF l k ≤ k * 1099511627776
  | 0, _ => by simp [sumF]
  | k + 1, h => by
    have ih := OkTo.sum (k := k) (fun j hj => h j (by omega))
    have h1 := badN_false.1 (h k (by omega))
    unfold sumF
    omega
theorem OkTo.most {l : List Int} : ∀ {k : Nat}, OkTo l k → 0 ≤ mostF l k ∧ mostF l k ≤ 1099511627776
  | 0, _ => by simp [mostF]
  | k + 1, h => by
    have ih := OkTo.most (k := k) (fun j hj => h j (by omega))
    have h1 := badN_false.1 (h k (by omega))
    unfold mostF
    omega
theorem OkTo.maxOf {l : List Int} : ∀ {k : Nat}, OkTo l (k + 1) → k + 1 ≤ l.length → Go.Lib.maxOf (l.take (k + 1)) = mostF l (k + 1)
  | 0, h, hl => by
    have h1 := badN_false.1 (h 0 (by omega))
    rw [Go.Lib.maxOf_one]
    simp only [mostF]
    omega
  | k + 1, h, hl => by
    rw [Go.Lib.maxOf_step l (k + 1) (by omega) (by omega), OkTo.maxOf (k := k) (fun j hj => h j (by omega)) (by omega)]
    rfl
theorem getD_at {l : List Int} {i : Nat} (h : i < l.length) : l.getD i 0 = l[i] := by
  rw [List.getD_eq_getElem?_getD, List.getElem?_eq_getElem h]; rfl
theorem any_of_ok {l : List Int} (h : OkTo l l.length) : l.any badN = false := by
  rw [List.any_eq_false]
  intro x hx
  obtain ⟨i, hi, rfl⟩ := List.mem_iff_getElem.1 hx
  have := h i hi
  rw [getD_at hi] at this
  simp [this]
theorem any_of_bad {l : List Int} {k : Nat} (hk : k < l.length) (h : badN (l.getD k 0) = true) : l.any badN = true := by
  rw [List.any_eq_true]
  rw [getD_at hk] at h
  exact ⟨_, List.getElem_mem hk, h⟩

/-- What Skew returns: a number, and an error. -/
def skewF (l : List Int) : Int × Int :=
  if 1024 < l.length then (0, 5)
  else if l.length = 0 then (0, 2)
  else if l.any badN = true then (0, 2)
  else if sumF l l.length = 0 then (0, 0)
  else ((1000 * (l.length : Int) * mostF l l.length).tdiv (sumF l l.length), 0)
theorem skew_long {l : List Int} (h : 1024 < l.length) : skewF l = (0, 5) := by unfold skewF; rw [if_pos h]
theorem skew_none {l : List Int} (h : l.length = 0) : skewF l = (0, 2) := by unfold skewF; rw [if_neg (by omega), if_pos h]
theorem skew_bad {l : List Int} (h1 : ¬ 1024 < l.length) (h2 : l.any badN = true) : skewF l = (0, 2) := by
  unfold skewF
  rw [if_neg h1, if_pos h2, ite_self]
theorem skew_zero {l : List Int} (h1 : ¬ 1024 < l.length) (h2 : ¬ l.length = 0) (h3 : l.any badN = false) (h4 : sumF l l.length = 0) : skewF l = (0, 0) := by
  unfold skewF
  rw [if_neg h1, if_neg h2, if_neg (by simp [h3]), if_pos h4]
theorem skew_val {l : List Int} (h1 : ¬ 1024 < l.length) (h2 : ¬ l.length = 0) (h3 : l.any badN = false) (h4 : ¬ sumF l l.length = 0) : skewF l = ((1000 * (l.length : Int) * mostF l l.length).tdiv (sumF l l.length), 0) := by
  unfold skewF
  rw [if_neg h1, if_neg h2, if_neg (by simp [h3]), if_neg h4]
theorem prod_bound {a : Int} {n : Nat} (ha : 0 ≤ a) (hb : a ≤ 1099511627776) (hn : n ≤ 1024) : 0 ≤ 1000 * (n : Int) * a ∧ 1000 * (n : Int) * a ≤ 1125899906842624000 := by
  have h1 : (0 : Int) ≤ 1000 * (n : Int) := by omega
  have h2 : 1000 * (n : Int) ≤ 1024000 := by omega
  refine ⟨Int.mul_nonneg h1 ha, ?_⟩
  have := Int.mul_le_mul h2 hb ha (by omega)
  omega
end Go.Proofs.YtecnchmcdbcofaaGreatDoor
