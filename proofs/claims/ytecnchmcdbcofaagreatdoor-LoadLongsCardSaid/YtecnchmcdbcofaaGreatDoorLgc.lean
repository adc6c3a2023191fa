/- A map of counts with one key at most. -/
import Derived.Test.YtecnchmcdbcofaaGreatDoorLgb
set_option linter.unusedVariables false
set_option linter.unusedSimpArgs false
namespace Go.Proofs.YtecnchmcdbcofaaGreatDoor
open Go.RowKit Go.MapKept
/-- the entries, and the map's clock -/
def oneA (k : Nat) : List Ax.ME := match k with
  | 0 => []
  | k + 1 => [(.int .i64 0, .int .i64 ((k : Int) + 1), 0)]
def oneE (k : Nat) : Array MapEntry := match k with
  | 0 => #[]
  | k + 1 => #[{ key := .int .i64 0, val := .int .i64 ((k : Int) + 1), born := 0 }]
def oneC (k : Nat) : Nat := match k with
  | 0 => 0
  | _ + 1 => 1
def MapOne (w : World) (b k : Nat) : Prop := w.heap[b]? = some (.map (oneE k) (oneC k))
theorem MapOne.lt {w : World} {b k : Nat} (h : MapOne w b k) : b < w.heap.size := (Array.getElem?_eq_some_iff.1 h).1
theorem MapOne.below {w w' : World} {b k : Nat} (h : MapOne w b k) (hb : Below w.heap.size w w') : MapOne w' b k := (hb.block b h.lt).trans h
theorem one_mes (E : Ax.Ev) (k : Nat) : Ax.MEs E (oneA k) (oneE k).toList := by
  cases k with
  | zero => exact .nil
  | succ k => exact .cons _ _ _ _ _ _ _ (.int _ _) (.int _ _) .nil
/-- what is found at a key that may not be there -/
theorem look_zero {w : World} {b : Nat} (h : MapOne w b 0) : (Instr.lookup 133 (.map (some b)) (.int .i64 0) false).run Tryz.prog w = .ok (.int .i64 0) w := by
  have hh : Ax.HR { blk := fun i => if i = 0 then some (b, 0) else none, sym := fun _ => none } (Ax.Tr.nil.set 0 (.map (oneA 0) (oneC 0))) w := by
    intro i o hi
    simp only [Ax.Tr.get_set] at hi
    split at hi
    · rename_i e
      subst e
      injection hi with hi
      subst hi
      exact ⟨b, 0, _, rfl, h, one_mes _ 0⟩
    · simp [Ax.Tr.get] at hi
  obtain ⟨v', h1, h2⟩ := Ax.qlookup_sound gv_types hh (t := 133) (m := .map (some 0)) (m' := .map (some b)) (k := .int .i64 0) (k' := .int .i64 0) (ok := false) (v := .int .i64 0) (.mp 0 b 0 rfl) (.int _ _) (by kernel_rfl)
  rw [h2, uclosed_eq (by kernel_rfl) h1]
theorem look_one {w : World} {b : Nat} (k : Nat) (h : MapOne w b (k + 1)) : (Instr.lookup 133 (.map (some b)) (.int .i64 0) false).run Tryz.prog w = .ok (.int .i64 ((k : Int) + 1)) w := by
  have hh : Ax.HR { blk := fun i => if i = 0 then some (b, 0) else none, sym := fun _ => none } (Ax.Tr.nil.set 0 (.map (oneA (k + 1)) (oneC (k + 1)))) w := by
    intro i o hi
    simp only [Ax.Tr.get_set] at hi
    split at hi
    · rename_i e
      subst e
      injection hi with hi
      subst hi
      exact ⟨b, 0, _, rfl, h, one_mes _ (k + 1)⟩
    · simp [Ax.Tr.get] at hi
  obtain ⟨v', h1, h2⟩ := Ax.qlookup_sound gv_types hh (t := 133) (m := .map (some 0)) (m' := .map (some b)) (k := .int .i64 0) (k' := .int .i64 0) (ok := false) (v := .int .i64 ((k : Int) + 1)) (.mp 0 b 0 rfl) (.int _ _) (by kernel_rfl)
  rw [h2, uclosed_eq (by rfl) h1]
theorem look_any {w : World} {b k : Nat} (h : MapOne w b k) : (Instr.lookup 133 (.map (some b)) (.int .i64 0) false).run Tryz.prog w = .ok (.int .i64 (k : Int)) w := by
  cases k with
  | zero => exact look_zero h
  | succ k => exact look_one k h
set_option maxRecDepth 100000 in
/-- The count is one more. -/
theorem count_any {w : World} {b k : Nat} (hE : Env w) (hb : gv.ng ≤ b) (h : MapOne w b k) :
    ∃ w', (Instr.mapUpdate 133 (.map (some b)) (.int .i64 0) (.int .i64 ((k : Int) + 1))).run Tryz.prog w = .ok () w' ∧ MapOne w' b (k + 1) ∧ Kbut b w w' := by
  obtain ⟨m, hv, hs⟩ := hE
  have hI0 := Ax.Inv0 (nx := 1000) hv vars_lt gv_ng1000 hs
  have hn : ∀ i n, (Ax.E0 w gv.ng).blk i ≠ some (b, n) := fun i n e => by
    unfold Ax.E0 at e
    simp only at e
    split at e
    · injection e with e
      injection e with e1 e2
      omega
    · cases e
  have hX0 : ((Ax.E0 w gv.ng).ext 1000 b 0).blk 1000 = some (b, 0) := Ax.Ev.ext_here _ _ _ _
  have hI : Ax.Inv ((Ax.E0 w gv.ng).ext 1000 b 0) (Ax.put { h := Ax.h0Of (vars m), nx := 1000 } (.map (oneA k) (oneC k))) gv.ng w := hI0.adopt (o := .map (oneA k) (oneC k)) (n := 0) hn h.lt ⟨b, 0, _, hX0, h, one_mes _ k⟩
  have hq0 : (Ax.lmapUpdate gv 1000 (Ax.put { h := Ax.h0Of (vars m), nx := 1000 } (.map (oneA k) (oneC k))) 133 (.map (some 1000)) (.int .i64 0) (.int .i64 ((k : Int) + 1))).map (fun σ' => σ'.h.get 1000) = some (some (.map (oneA (k + 1)) (oneC (k + 1)))) := by
    cases k with
    | zero => kernel_rfl
    | succ k => kernel_rfl
  simp only [Option.map_eq_some_iff] at hq0
  obtain ⟨σ', hq1, hq2⟩ := hq0
  obtain ⟨w', h1, h2, h3, _⟩ := Ax.lmapUpdate_sound gv_types hI (t := 133) (m := .map (some 1000)) (m' := .map (some b)) (.mp 1000 b 0 hX0) (.int _ _) (.int _ _) hq1
  refine ⟨w', h1, ?_, h3.os, h3.tape, h3.output, h3.size, fun x hx hxb => h3.frame x hx fun j n hj e => ?_⟩
  · have ho : Ax.OR ((Ax.E0 w gv.ng).ext 1000 b 0) w' 1000 (.map (oneA (k + 1)) (oneC (k + 1))) := h2.heap 1000 _ hq2
    obtain ⟨b2, n2, es, g1, g2, g3⟩ := ho
    have e1 : (some (b, 0) : Option (Nat × Nat)) = some (b2, n2) := hX0.symm.trans g1
    injection e1 with e1
    injection e1 with e1 e2
    subst e1
    show w'.heap[b]? = some (.map #[{ key := .int .i64 0, val := .int .i64 ((k : Int) + 1), born := 0 }] 1)
    rw [g2]
    have e3 : es.toList = [{ key := .int .i64 0, val := .int .i64 ((k : Int) + 1), born := 0 }] := by
      revert g3
      generalize es.toList = L
      intro g3
      cases g3 with
      | cons k0 v0 k' v' bb l l' hk hv hs =>
        cases hs
        rw [uclosed_eq (by rfl) hk, uclosed_eq (by rfl) hv]
    have e4 : es = #[{ key := .int .i64 0, val := .int .i64 ((k : Int) + 1), born := 0 }] := Array.ext' e3
    rw [e4]
    rfl
  · by_cases hj0 : j = 1000
    · subst hj0
      have e1 : (some (b, 0) : Option (Nat × Nat)) = some (x, n) := hX0.symm.trans e
      injection e1 with e1
      injection e1 with e1 e2
      exact hxb e1.symm
    · have e2 : (Ax.E0 w gv.ng).blk j = some (x, n) := by
        have : ((Ax.E0 w gv.ng).ext 1000 b 0).blk j = (Ax.E0 w gv.ng).blk j := by simp [Ax.Ev.ext, hj0]
        exact this.symm.trans e
      rw [hI0.fresh j (by show 1000 ≤ j; exact hj)] at e2
      cases e2
theorem one_new (w : World) : MapOne (w.alloc (.map #[] 0)) w.heap.size 0 := heap_alloc_new _ _
end Go.Proofs.YtecnchmcdbcofaaGreatDoor
