/- Calls at nil, at a zero struct, with symbols among their arguments: their results by the evaluator. -/
import Derived.Test.YtolfflaenjcpcaaGreatDoorGb
import Derived.Defers
set_option linter.unusedVariables false
set_option linter.unusedSimpArgs false
namespace Go.Proofs.YtolfflaenjcpcaaGreatDoor
open Go.RowKit
theorem closed_eq {E : Ax.Ev} {v v' : Value} (h : Ax.closed v = true) (k : Ax.VR E v v') : v' = v := by
  cases k with
  | agg a a' ha => rw [zclosedL_eq h ha]
  | tup a a' ha => rw [zclosedL_eq h ha]
  | bool b => rfl
  | int k n => rfl
  | str s => rfl
  | nilp => rfl
  | ptr i b n o h' => cases h
  | nils l c => rfl
  | sl i b n o l c h' => cases h
  | sli i b n es o l c c' h' hc hn => cases h
  | nilm => rfl
  | mp i b n h' => cases h
  | nilf => rfl
  | nili => rfl
  | fn f a b a' b' ha hb => cases h
  | sym k v h' h1 => cases h
  | emp p c => cases h
/-- the variables' numbers, symbols, and one block more -/
noncomputable def Ez (w : World) (p n : Nat) (sym : Nat → Option Value) : Ax.Ev :=
  { blk := fun g => if g < gvb.ng then (Ax.E0 w gvb.ng).blk g else if g = 1000 then some (p, n) else none, sym }
theorem Ez_here (w : World) (p n : Nat) (sym : Nat → Option Value) : (Ez w p n sym).blk 1000 = some (p, n) := by
  have : gvb.ng ≤ 1000 := gv_ng1000
  unfold Ez
  simp only [if_true]
  rw [if_neg (by omega)]
theorem Ez_none {w : World} {p n : Nat} {sym : Nat → Option Value} {j : Nat} (hj : 1001 ≤ j) : (Ez w p n sym).blk j = none := by
  have : gvb.ng ≤ 1000 := gv_ng1000
  unfold Ez
  simp only
  rw [if_neg (by omega), if_neg (by omega)]
theorem zero_call {f : FuncId} {args args' : List Value} {v : Value} {cells : List Value} (hv : Ax.closed v = true) (hcl : Ax.closedL cells = true)
    (hrun : (Ax.callB gvb 100000 f args 1001 { h := Ax.Tr.nil.set 1000 (.cells cells false), nx := 1001 }).map (·.1) = some v)
    {w : World} (hs : gvb.ng ≤ w.heap.size) {p : Nat} {arr : Array Value} {ty : TypeId} {fr : Nat × Nat} (hp : w.heap[p]? = some (.cells arr ty fr)) (harr : arr.toList.take cells.length = cells) (hlen : cells.length ≤ arr.size)
    {sym : Nat → Option Value} (ha : Ax.VRs (Ez w p arr.size sym) args args') :
    Calls Tryz.prog f ⟨args'⟩ w fun e w' => e = .returned v ∧ Below w.heap.size w w' := by
  simp only [Option.map_eq_some_iff] at hrun
  obtain ⟨⟨v0, σ'⟩, h1, rfl⟩ := hrun
  have hn : gvb.ng ≤ 1000 := gv_ng1000
  have hI : Ax.Inv (Ez w p arr.size sym) { h := Ax.Tr.nil.set 1000 (.cells cells false), nx := 1001 } gvb.ng w := by
    refine ⟨fun i o hi => ?_, fun i j o o' b n m hi hj _ _ e1 e2 => ?_, fun i hi => Ez_none hi, fun g hg => ?_, fun i b n hb => ?_⟩
    · simp only [Ax.Tr.get_set] at hi
      split at hi
      · rename_i e
        injection hi with hi
        subst e; subst hi
        exact ⟨p, arr.size, arr, ty, fr, Ez_here _ _ _ _, hp, rfl, (fun h => by cases h), hlen, (by rw [harr]; exact Ax.closedL_VRs hcl)⟩
      · simp [Ax.Tr.get_nil] at hi
    · simp only [Ax.Tr.get_set] at hi hj
      split at hi
      · split at hj
        · rename_i e e'; rw [e, e']
        · simp [Ax.Tr.get_nil] at hj
      · simp [Ax.Tr.get_nil] at hi
    · obtain ⟨n, h⟩ := Ax.E0_glob w gvb.ng g hg
      refine ⟨n, ?_⟩
      unfold Ez
      simp only
      rw [if_pos hg]; exact h
    · unfold Ez at hb
      simp only at hb
      split at hb
      · rename_i hg
        unfold Ax.E0 at hb
        simp only [hg, if_true] at hb
        injection hb with hb; injection hb with hb _
        omega
      · split at hb
        · injection hb with hb; injection hb with hb _
          subst hb
          exact (Array.getElem?_eq_some_iff.1 hp).1
        · cases hb
  refine (Ax.callB_sound gz_types gz_funs gz_mixed h1 hI (Nat.le_refl _) ha).mono ?_
  rintro e w' ⟨v', E', rfl, h2, h3, h4, _⟩
  exact ⟨by rw [closed_eq hv h2], h4.below fun j m b hj => by rw [Ez_none hj]; simp⟩
/-- at nil: any block does -/
theorem nil_call {f : FuncId} {args args' : List Value} {v : Value} (hv : Ax.closed v = true)
    (hrun : (Ax.callB gvb 100000 f args 1000 { h := .nil, nx := 1000 }).map (·.1) = some v)
    {w : World} (hs : gvb.ng ≤ w.heap.size) {sym : Nat → Option Value} (ha : Ax.VRs { blk := (Ax.E0 w gvb.ng).blk, sym } args args') :
    Calls Tryz.prog f ⟨args'⟩ w fun e w' => e = .returned v ∧ Below w.heap.size w w' := by
  simp only [Option.map_eq_some_iff] at hrun
  obtain ⟨⟨v0, σ'⟩, h1, rfl⟩ := hrun
  have hn : gvb.ng ≤ 1000 := gv_ng1000
  have hno : ∀ j, 1000 ≤ j → (Ax.E0 w gvb.ng).blk j = none := fun j hj => by
    unfold Ax.E0
    simp only
    rw [if_neg (by omega)]
  have hI : Ax.Inv { blk := (Ax.E0 w gvb.ng).blk, sym } { h := .nil, nx := 1000 } gvb.ng w := by
    refine ⟨fun i o hi => by simp [Ax.Tr.get_nil] at hi, fun i j o o' b n m hi _ _ _ _ _ => by simp [Ax.Tr.get_nil] at hi, fun i hi => hno i hi, Ax.E0_glob w gvb.ng, fun i b n hb => ?_⟩
    unfold Ax.E0 at hb
    simp only at hb
    split at hb
    · injection hb with hb; injection hb with hb _
      omega
    · cases hb
  refine (Ax.callB_sound gz_types gz_funs gz_mixed h1 hI (Nat.le_refl _) ha).mono ?_
  rintro e w' ⟨v', E', rfl, h2, h3, h4, _⟩
  exact ⟨by rw [closed_eq hv h2], h4.below fun j m b hj => by rw [hno j hj]; simp⟩
end Go.Proofs.YtolfflaenjcpcaaGreatDoor
