/- Laws at single operations, for the walk: an operation whose run is known; look-ups, stores, and ranges over maps in the words of the text on maps. -/
import Derived.Test.YtahklchfchjmcaaDoorMp
import Derived.Deep.QuietTactic
import Derived.BigQuiet
import Derived.Lib.Hide
import Derived.WalkSpells
import Derived.WalkLawsBesides
namespace Go.Proofs.YtahklchfchjmcaaDoor
set_option linter.unusedVariables false
set_option linter.unusedSimpArgs false
open Go.RowKit Go.MapKept

section
variable {P : Program} {ops : Array Oper} {Q : Exit → Act → World → Prop} {a : Act} {w : World} {rest : List Oper} {o : Oper}

/-- An operation that yields a value. -/
theorem wpList_value (hw : Region.wanted o (yielded ops a.tmps) = true) {v : Value} {w' : World} (hrun : (execOp a.eval o).run P w = .ok (.value v) w')
    (hK : wpList P ops Q rest (a.put o.dst v) w') : wpList P ops Q (o :: rest) a w := by
  refine wpList_step fun K' hK' => ?_
  rw [if_pos hw]
  unfold Oper.wp
  rw [hrun]
  exact hK' _ _ hK

theorem wpList_skips (hw : Region.wanted o (yielded ops a.tmps) = true) {w' : World} (hrun : (execOp a.eval o).run P w = .ok .skip w')
    (hK : wpList P ops Q rest (a.put o.dst undef) w') : wpList P ops Q (o :: rest) a w := by
  refine wpList_step fun K' hK' => ?_
  rw [if_pos hw]
  unfold Oper.wp
  rw [hrun]
  exact hK' _ _ hK

theorem wpList_lookup_eq (hw : Region.wanted o (yielded ops a.tmps) = true) (x i : Operand) (t : TypeId) (ok : Bool) (hop : o.op = Op.lookup t x i ok) (m k v : Value) (hx : a.eval x = m) (hi : a.eval i = k)
    (hrun : (Instr.lookup t m k ok).run P w = .ok v w) (hK : wpList P ops Q rest (a.put o.dst v) w) : wpList P ops Q (o :: rest) a w := by
  refine wpList_value hw (v := v) (w' := w) ?_ hK
  simp [execOp, hop, hx, hi, hrun, Result.andThen]

theorem wpList_mapUpdate_at {κ : Type} {enc : κ → Value} {d : TypeDesc} {z : Value} (K : KeyEnc d enc) (hw : Region.wanted o (yielded ops a.tmps) = true) (m x v : Operand) (t : TypeId) (hop : o.op = Op.mapUpdate t m x v) (T : MapTy P t d z)
    (b : Nat) (f : κ → Option Value) (k : κ) (u : Value) (hm : a.eval m = .map (some b)) (hx : a.eval x = enc k) (hv : a.eval v = u) (h : MapAt enc w b f)
    (hK : ∀ w', MapAt enc w' b (upd f k u) → w.grownBy w' (some b) → w'.heap.size = w.heap.size → wpList P ops Q rest (a.put o.dst undef) w') : wpList P ops Q (o :: rest) a w := by
  obtain ⟨w', hrun, h1, h2, h3⟩ := h.update K T k u
  refine wpList_skips hw (w' := w') ?_ (hK w' h1 h2 h3)
  simp [execOp, hop, hm, hx, hv, hrun, Result.andThen]

theorem wpList_range_at {κ : Type} {enc : κ → Value} {d : TypeDesc} {z : Value} (hw : Region.wanted o (yielded ops a.tmps) = true) (m : Operand) (t : TypeId) (hop : o.op = Op.range t m) (T : MapTy P t d z)
    (b : Nat) (f : κ → Option Value) (hm : a.eval m = .map (some b)) (h : MapAt enc w b f)
    (hK : ∀ w' n, IterAt enc w' w.heap.size b f (fun k => (f k).isSome) n → w.grownBy w' none → w'.heap.size = w.heap.size + 1 → wpList P ops Q rest (a.put o.dst (.pointer (some ⟨w.heap.size, 0, none⟩))) w') : wpList P ops Q (o :: rest) a w := by
  obtain ⟨hrun, n, h1⟩ := h.range T
  refine wpList_value hw (v := .pointer (some ⟨w.heap.size, 0, none⟩)) ?_ (hK _ n h1 (World.grownBy_alloc w _ none) (by simp))
  simp [execOp, hop, hm, hrun, Result.andThen]

theorem wpList_next_at {κ : Type} {enc : κ → Value} {d : TypeDesc} (K : KeyEnc d enc) (hw : Region.wanted o (yielded ops a.tmps) = true) (it : Operand) (hop : o.op = Op.next it false)
    (r b n : Nat) (f : κ → Option Value) (left : κ → Prop) (hit : a.eval it = .pointer (some ⟨r, 0, none⟩)) (h : IterAt enc w r b f left n)
    (hDone : (∀ k, ¬ left k) → wpList P ops Q rest (a.put o.dst (.tuple #[.bool false])) w)
    (hMore : ∀ k v w' n', left k → f k = some v → IterAt enc w' r b f (fun k' => left k' ∧ k' ≠ k) n' → n' < n → w.grownBy w' (some r) → w'.heap.size = w.heap.size →
      (Instr.entry (.pointer (some ⟨r, 0, none⟩))).run P w' = .ok (.tuple #[enc k, v]) w' → wpList P ops Q rest (a.put o.dst (.tuple #[.bool true, enc k, v])) w') : wpList P ops Q (o :: rest) a w := by
  rcases h.next (P := P) K o.type with ⟨hd, hrun⟩ | ⟨k, v, w', n', h1, h2, hrun, h3, h4, h5, h6, h7⟩
  · refine wpList_value hw (v := .tuple #[.bool false]) (w' := w) ?_ (hDone hd)
    simp [execOp, hop, hit, hrun, Result.andThen]
  · refine wpList_value hw (v := .tuple #[.bool true, enc k, v]) (w' := w') ?_ (hMore k v w' n' h1 h2 h3 h4 h5 h6 h7)
    simp [execOp, hop, hit, hrun, Result.andThen]

/-- A range over a nil map. -/
theorem run_next_none (w : World) (r s c : Nat) (seen : Array Nat) (ty : TypeId) (h : w.heap[r]? = some (.mapIter none s seen c)) : (Instr.next (.pointer (some ⟨r, 0, none⟩)) false ty).run P w = .ok (.tuple #[.bool false]) w := by
  simp [Instr.next, getObj, Sem.run, h, Result.andThen]
end
end Go.Proofs.YtahklchfchjmcaaDoor
