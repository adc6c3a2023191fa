/- The reference of race: what happens before what, row by row. -/
import Derived.Test.YtahklchfchjmcaaDoorCi
namespace Go.Proofs.YtahklchfchjmcaaDoor
set_option linter.unusedVariables false
set_option linter.unusedSimpArgs false
open Go.RowKit Go.MapKept

noncomputable def hbB (l : List Acc) (k i : Nat) : Bool := @decide (HB l i k) (Classical.propDecidable _)
theorem hbB_iff (l : List Acc) (k i : Nat) : hbB l k i = true ↔ HB l i k := by unfold hbB; exact @decide_eq_true_iff _ (Classical.propDecidable _)

def DirectAt (l : List Acc) (m k : Nat) : Prop := ∃ a b, l[m]? = some a ∧ l[k]? = some b ∧ Direct a b
/-- What is known of access k once the accesses above i were looked at. -/
noncomputable def midB (l : List Acc) (k : Nat) (i : Int) (j : Nat) : Bool := @decide (∃ m : Nat, i < (m : Int) ∧ m < k ∧ DirectAt l m k ∧ (j = m ∨ HB l j m)) (Classical.propDecidable _)
theorem midB_iff (l : List Acc) (k : Nat) (i : Int) (j : Nat) : midB l k i j = true ↔ ∃ m : Nat, i < (m : Int) ∧ m < k ∧ DirectAt l m k ∧ (j = m ∨ HB l j m) := by unfold midB; exact @decide_eq_true_iff _ (Classical.propDecidable _)

theorem midB_start (l : List Acc) (k j : Nat) : midB l k ((k : Int) - 1) j = false := by
  rw [Bool.eq_false_iff]
  intro h
  obtain ⟨m, h1, h2, _⟩ := (midB_iff l k _ j).1 h
  omega
theorem midB_end {l : List Acc} {k : Nat} (hk : k < l.length) (j : Nat) : midB l k (-1) j = hbB l k j := by
  have hb : l[k]? = some l[k] := List.getElem?_eq_getElem hk
  rw [Bool.eq_iff_iff, midB_iff, hbB_iff, hb_iff hb]
  constructor
  · rintro ⟨m, _, h2, ⟨a, b, ha, hb', hd⟩, h4⟩
    rw [hb] at hb'; cases hb'
    refine ⟨m, a, ?_, h2, ha, hd, h4⟩
    rcases h4 with rfl | h4
    · exact Nat.le_refl _
    · exact Nat.le_of_lt h4.lt
  · rintro ⟨m, a, _, h2, ha, hd, h4⟩
    exact ⟨m, by omega, h2, ⟨a, _, ha, hb, hd⟩, h4⟩
theorem midB_skip_true {l : List Acc} {k i : Nat} (hi : i < k) (h : midB l k i i = true) (j : Nat) : midB l k ((i : Int) - 1) j = midB l k i j := by
  rw [Bool.eq_iff_iff, midB_iff, midB_iff]
  constructor
  · rintro ⟨m, h1, h2, h3, h4⟩
    by_cases e : m = i
    · subst e
      obtain ⟨m', g1, g2, g3, g4⟩ := (midB_iff l k _ _).1 h
      rcases g4 with g4 | g4
      · omega
      · refine ⟨m', g1, g2, g3, .inr ?_⟩
        rcases h4 with rfl | h4
        · exact g4
        · exact h4.trans g4
    · exact ⟨m, by omega, h2, h3, h4⟩
  · rintro ⟨m, h1, h2, h3, h4⟩
    exact ⟨m, by omega, h2, h3, h4⟩
theorem midB_skip_not {l : List Acc} {k i : Nat} (h : ¬ DirectAt l i k) (j : Nat) : midB l k ((i : Int) - 1) j = midB l k i j := by
  rw [Bool.eq_iff_iff, midB_iff, midB_iff]
  constructor
  · rintro ⟨m, h1, h2, h3, h4⟩
    by_cases e : m = i
    · subst e; exact absurd h3 h
    · exact ⟨m, by omega, h2, h3, h4⟩
  · rintro ⟨m, h1, h2, h3, h4⟩
    exact ⟨m, by omega, h2, h3, h4⟩
theorem midB_step {l : List Acc} {k i : Nat} (hi : i < k) (h : DirectAt l i k) (j : Nat) : midB l k ((i : Int) - 1) j = (midB l k i j || decide (j = i) || hbB l i j) := by
  rw [Bool.eq_iff_iff]
  simp only [Bool.or_eq_true, decide_eq_true_eq, midB_iff, hbB_iff]
  constructor
  · rintro ⟨m, h1, h2, h3, h4⟩
    by_cases e : m = i
    · subst e
      rcases h4 with h4 | h4
      · exact .inl (.inr h4)
      · exact .inr h4
    · exact .inl (.inl ⟨m, by omega, h2, h3, h4⟩)
  · rintro ((⟨m, h1, h2, h3, h4⟩ | h) | h)
    · exact ⟨m, by omega, h2, h3, h4⟩
    · exact ⟨i, by omega, hi, ‹_›, .inl h⟩
    · exact ⟨i, by omega, hi, ‹_›, .inr h⟩

/-- In the midst of the innermost loop: the accesses below j0 were looked at. -/
noncomputable def innB (l : List Acc) (k i j0 j : Nat) : Bool := if j < j0 ∨ j = i then midB l k ((i : Int) - 1) j else midB l k i j
theorem innB_end {l : List Acc} {k i : Nat} (hi : i < k) (h : DirectAt l i k) (j : Nat) : innB l k i i j = midB l k ((i : Int) - 1) j := by
  unfold innB
  split
  · rfl
  · rename_i hn
    rw [midB_step hi h]
    have h1 : hbB l i j = false := by
      rw [Bool.eq_false_iff]
      intro e
      have := ((hbB_iff l i j).1 e).lt
      omega
    have h2 : decide (j = i) = false := by simp; omega
    rw [h1, h2]; simp

/-- Block g is a row of k bools. -/
def RowB (w : World) (g k : Nat) (f : Nat → Bool) : Prop := ∃ cs, w.heap[g]? = some (.cells cs 4 (0, 0)) ∧ cs.size = k ∧ ∀ j, j < k → cs[j]? = some (.bool (f j))
section
variable {w w' : World} {g k : Nat} {f : Nat → Bool}
theorem RowB.lt (h : RowB w g k f) : g < w.heap.size := by obtain ⟨cs, h1, _⟩ := h; exact (Array.getElem?_eq_some_iff.1 h1).1
theorem RowB.keep (h : RowB w g k f) (hk : w'.heap[g]? = w.heap[g]?) : RowB w' g k f := by obtain ⟨cs, h1, h2⟩ := h; exact ⟨cs, hk.trans h1, h2⟩
theorem RowB.cell (h : RowB w g k f) {j : Nat} (hj : j < k) : w.cell? ⟨g, j, none⟩ = some (.bool (f j)) := by
  obtain ⟨cs, h1, h2, h3⟩ := h
  simp only [World.cell?, h1]
  exact h3 j hj
theorem RowB.frozen (h : RowB w g k f) (j : Nat) : w.frozen? ⟨g, j, none⟩ = false := by
  obtain ⟨cs, h1, h2, h3⟩ := h
  simp [World.frozen?, h1]
theorem RowB.set (h : RowB w g k f) (j : Nat) (b : Bool) : RowB (w.setCell ⟨g, j, none⟩ (.bool b)) g k (fun i => if i = j then b else f i) := by
  obtain ⟨cs, h1, h2, h3⟩ := h
  refine ⟨cs.setIfInBounds j (.bool b), ?_, by simp [h2], fun i hi => ?_⟩
  · simp [World.setCell, Array.getElem?_modify, h1]
  · by_cases e : i = j
    · subst e; simp [h2, hi]
    · rw [Array.getElem?_setIfInBounds_ne (by omega)]
      simp only [if_neg e]
      exact h3 i hi
theorem RowB.congr {f' : Nat → Bool} (h : RowB w g k f) (e : ∀ j, j < k → f j = f' j) : RowB w g k f' := by
  obtain ⟨cs, h1, h2, h3⟩ := h
  exact ⟨cs, h1, h2, fun j hj => by rw [← e j hj]; exact h3 j hj⟩
theorem RowB.make (w : World) (k : Nat) : RowB (w.alloc (.cells (madeCells #[.bool false] k) 4)) w.heap.size k (fun _ => false) := by
  refine ⟨_, heap_alloc_new w _, by simp [madeCells], fun j hj => ?_⟩
  rw [madeCells]
  simp [hj, Nat.mod_one]
end

theorem data_any (a : Acc) (w : World) : Calls Tryd.prog 45 #[.agg a.cells.toArray] w fun e w' => e = .returned (.bool (decide (a.kind = 1 ∨ a.kind = 2))) ∧ Below w.heap.size w w' := by
  obtain ⟨xt, xk, xv⟩ := a
  simp only [Acc.cells]
  by_cases h1 : xk = 1
  · have h1' : (xk == 1) = true := by simp [h1]
    have H := Lib.hid h1
    clear h1
    go_enter Tryd.func45, Tryd.ntmps45
    go_wp2
    go_ret
    exact ⟨by simp [H.out], (Below.refl _ _).alloc (Nat.le_refl _) _⟩
  · have h1' : (xk == 1) = false := by simp [h1]
    have H := Lib.hid h1
    clear h1
    by_cases h2 : xk = 2
    · have h2' : (xk == 2) = true := by simp [h2]
      have H2 := Lib.hid h2
      clear h2
      go_enter Tryd.func45, Tryd.ntmps45
      go_wp2
      go_ret
      exact ⟨by simp [H2.out], (Below.refl _ _).alloc (Nat.le_refl _) _⟩
    · have h2' : (xk == 2) = false := by simp [h2]
      have H2 := Lib.hid h2
      clear h2
      go_enter Tryd.func45, Tryd.ntmps45
      go_wp2
      go_ret
      exact ⟨by simp [H.out, H2.out], (Below.refl _ _).alloc (Nat.le_refl _) _⟩

theorem bytes_beq (a b : ByteArray) : (a.toList == b.toList) = decide (a = b) := by
  rw [Bool.eq_iff_iff, beq_iff_eq, decide_eq_true_eq, ByteArray.toList_eq, ByteArray.toList_eq]
  exact ⟨WideShapes.bytes_inj, fun h => by rw [h]⟩

theorem direct_bool (a b : Acc) : decide (Direct a b) = (a.task == b.task || (a.kind == 4 && b.kind == 3 && (a.var.toList == b.var.toList))) := by
  rw [bytes_beq, Bool.eq_iff_iff, decide_eq_true_iff]
  simp [Direct, and_assoc]

set_option maxRecDepth 100000 in
set_option maxHeartbeats 400000 in
theorem direct_any (a b : Acc) (w : World) : Calls Tryd.prog 46 #[.agg a.cells.toArray, .agg b.cells.toArray] w fun e w' => e = .returned (.bool (decide (Direct a b))) ∧ Below w.heap.size w w' := by
  obtain ⟨xt, xk, xv⟩ := a
  obtain ⟨yt, yk, yv⟩ := b
  simp only [Acc.cells]
  have hbl : ∀ o o', Below w.heap.size w ((w.alloc o).alloc o') := fun o o' => ((Below.refl _ _).alloc (Nat.le_refl _) _).alloc (by simp) _
  have HB := Lib.hid hbl
  clear hbl
  have hD := direct_bool ⟨xt, xk, xv⟩ ⟨yt, yk, yv⟩
  dsimp only at hD
  rw [hD]
  have HD := Lib.hid hD
  clear hD
  generalize hx1 : (xt == yt) = x1 at *
  generalize hx2 : (xk == 4) = x2 at *
  generalize hx3 : (yk == 3) = x3 at *
  generalize hx4 : (xv.toList == yv.toList) = x4 at *
  cases x1 <;> cases x2 <;> cases x3 <;> cases x4
  all_goals
    go_enter Tryd.func46, Tryd.ntmps46
    go_wp2
    go_ret
    exact ⟨rfl, HB.out _ _⟩
end Go.Proofs.YtahklchfchjmcaaDoor
