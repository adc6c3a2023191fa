/- Calls at nil and at a zero struct that yield tuples of structs. -/
import Derived.Test.YtolfflaenjcpcaaGreatDoorNz
set_option linter.unusedVariables false
set_option linter.unusedSimpArgs false
namespace Go.Proofs.YtolfflaenjcpcaaGreatDoor
open Go.RowKit
def closedAll : List Value → Bool
  | [] => true
  | v :: l => Ax.closed v && closedAll l
def closed2 : Value → Bool
  | .tuple ⟨l⟩ => closedAll l
  | v => Ax.closed v
theorem closedAll_eq {E : Ax.Ev} : ∀ {l l' : List Value}, closedAll l = true → Ax.VRs E l l' → l' = l
  | [], _, _, h => by cases h; rfl
  | v :: l, _, hc, h => by
    cases h with
    | cons _ v' _ l' h1 h2 =>
      simp only [closedAll, Bool.and_eq_true] at hc
      rw [closed_eq hc.1 h1, closedAll_eq hc.2 h2]
theorem closed2_eq {E : Ax.Ev} {v v' : Value} (h : closed2 v = true) (k : Ax.VR E v v') : v' = v := by
  cases v with
  | tuple l =>
    cases k with
    | tup a a' ha => rw [closedAll_eq h ha]
  | _ => exact closed_eq h k
theorem zero_call2 {f : FuncId} {args args' : List Value} {v : Value} {cells : List Value} (hv : closed2 v = true) (hcl : Ax.closedL cells = true)
    (hrun : (Ax.callB gvb 100000 f args 1001 { h := Ax.Tr.nil.set 1000 (.cells cells false), nx := 1001 }).map (·.1) = some v)
    {w : World} (hs : gvb.ng ≤ w.heap.size) {p : Nat} {arr : Array Value} {ty : TypeId} {fr : Nat × Nat} (hp : w.heap[p]? = some (.cells arr ty fr)) (harr : arr.toList.take cells.length = cells) (hlen : cells.length ≤ arr.size)
    {sym : Nat → Option Value} (ha : Ax.VRs (Ez w p arr.size sym) args args') :
    Calls Tryz.prog f ⟨args'⟩ w fun e w' => e = .returned v ∧ Below w.heap.size w w' := by
  simp only [Option.map_eq_some_iff] at hrun
  obtain ⟨⟨v0, σ'⟩, h1, rfl⟩ := hrun
  have hn : gvb.ng ≤ 1000 := gv_ng1000
  have hI : Ax.Inv (Ez w p arr.size sym) { h := Ax.Tr.nil.set 1000 (.cells cells false), nx := 1001 } gvb.ng w := by
    refine ⟨fun i o hi => ?_, fun i j o o' b n m hi hj _ _ e1 e2 => ?_, fun i hi => Ez_none hi, fun g hg => ?_, fun i b n hb => ?_⟩
    · simp only [Ax.Tr.get_set] at hi
      split at hi
      · rename_i e
        injection hi with hi
        subst e; subst hi
        exact ⟨p, arr.size, arr, ty, fr, Ez_here _ _ _ _, hp, rfl, (fun h => by cases h), hlen, (by rw [harr]; exact Ax.closedL_VRs hcl)⟩
      · simp [Ax.Tr.get_nil] at hi
    · simp only [Ax.Tr.get_set] at hi hj
      split at hi
      · split at hj
        · rename_i e e'; rw [e, e']
        · simp [Ax.Tr.get_nil] at hj
      · simp [Ax.Tr.get_nil] at hi
    · obtain ⟨n, h⟩ := Ax.E0_glob w gvb.ng g hg
      refine ⟨n, ?_⟩
      unfold Ez
      simp only
      rw [if_pos hg]; exact h
    · unfold Ez at hb
      simp only at hb
      split at hb
      · rename_i hg
        unfold Ax.E0 at hb
        simp only [hg, if_true] at hb
        injection hb with hb; injection hb with hb _
        omega
      · split at hb
        · injection hb with hb; injection hb with hb _
          subst hb
          exact (Array.getElem?_eq_some_iff.1 hp).1
        · cases hb
  refine (Ax.callB_sound gz_types gz_funs gz_mixed h1 hI (Nat.le_refl _) ha).mono ?_
  rintro e w' ⟨v', E', rfl, h2, h3, h4, _⟩
  exact ⟨by rw [closed2_eq hv h2], h4.below fun j m b hj => by rw [Ez_none hj]; simp⟩
/-- at nil: any block does -/
theorem nil_call2 {f : FuncId} {args args' : List Value} {v : Value} (hv : closed2 v = true)
    (hrun : (Ax.callB gvb 100000 f args 1000 { h := .nil, nx := 1000 }).map (·.1) = some v)
    {w : World} (hs : gvb.ng ≤ w.heap.size) {sym : Nat → Option Value} (ha : Ax.VRs { blk := (Ax.E0 w gvb.ng).blk, sym } args args') :
    Calls Tryz.prog f ⟨args'⟩ w fun e w' => e = .returned v ∧ Below w.heap.size w w' := by
  simp only [Option.map_eq_some_iff] at hrun
  obtain ⟨⟨v0, σ'⟩, h1, rfl⟩ := hrun
  have hn : gvb.ng ≤ 1000 := gv_ng1000
  have hno : ∀ j, 1000 ≤ j → (Ax.E0 w gvb.ng).blk j = none := fun j hj => by
    unfold Ax.E0
    simp only
    rw [if_neg (by omega)]
  have hI : Ax.Inv { blk := (Ax.E0 w gvb.ng).blk, sym } { h := .nil, nx := 1000 } gvb.ng w := by
    refine ⟨fun i o hi => by simp [Ax.Tr.get_nil] at hi, fun i j o o' b n m hi _ _ _ _ _ => by simp [Ax.Tr.get_nil] at hi, fun i hi => hno i hi, Ax.E0_glob w gvb.ng, fun i b n hb => ?_⟩
    unfold Ax.E0 at hb
    simp only at hb
    split at hb
    · injection hb with hb; injection hb with hb _
      omega
    · cases hb
  refine (Ax.callB_sound gz_types gz_funs gz_mixed h1 hI (Nat.le_refl _) ha).mono ?_
  rintro e w' ⟨v', E', rfl, h2, h3, h4, _⟩
  exact ⟨by rw [closed2_eq hv h2], h4.below fun j m b hj => by rw [hno j hj]; simp⟩
end Go.Proofs.YtolfflaenjcpcaaGreatDoor
