/- A call in the heap: loads and stores; owned lists of numbers and of calls. -/
import Derived.Test.YtecnchmcdbcofaaGreatDoorMkh
import Derived.Deep.WholeRow
import Derived.Deep.QuietTactic
import Derived.WalkSpells
import Derived.WalkLawsBesides
import Derived.BigQuiet
import Derived.Deep.MidRow
import Derived.Deep.AppendLies
import Derived.OwnWalk
set_option linter.unusedVariables false
set_option linter.unusedSimpArgs false
namespace Go.Proofs.YtecnchmcdbcofaaGreatDoor
open Go.RowKit Go.MapKept
section
variable {P : Program} {ops : Array Oper} {Q : Exit → Act → World → Prop} {a : Act} {w : World} {rest : List Oper} {o : Oper}
theorem wpList_value (hw : Region.wanted o (yielded ops a.tmps) = true) {v : Value} {w' : World} (hrun : (execOp a.eval o).run P w = .ok (.value v) w')
    (hK : wpList P ops Q rest (a.put o.dst v) w') : wpList P ops Q (o :: rest) a w := by
  refine wpList_step fun K' hK' => ?_
  rw [if_pos hw]
  unfold Oper.wp
  rw [hrun]
  exact hK' _ _ hK

theorem wpList_skips (hw : Region.wanted o (yielded ops a.tmps) = true) {w' : World} (hrun : (execOp a.eval o).run P w = .ok .skip w')
    (hK : wpList P ops Q rest (a.put o.dst undef) w') : wpList P ops Q (o :: rest) a w := by
  refine wpList_step fun K' hK' => ?_
  rw [if_pos hw]
  unfold Oper.wp
  rw [hrun]
  exact hK' _ _ hK

theorem wpList_lookup_eq (hw : Region.wanted o (yielded ops a.tmps) = true) (x i : Operand) (t : TypeId) (ok : Bool) (hop : o.op = Op.lookup t x i ok) (m k v : Value) (hx : a.eval x = m) (hi : a.eval i = k)
    (hrun : (Instr.lookup t m k ok).run P w = .ok v w) (hK : wpList P ops Q rest (a.put o.dst v) w) : wpList P ops Q (o :: rest) a w := by
  refine wpList_value hw (v := v) (w' := w) ?_ hK
  simp [execOp, hop, hx, hi, hrun, Result.andThen]

theorem wpList_load_eq (hw : Region.wanted o (yielded ops a.tmps) = true) (x : Operand) (t : TypeId) (hop : o.op = Op.load t x) (p v : Value) (hx : a.eval x = p)
    (hrun : (Instr.loadAt t p).run P w = .ok v w) (hK : wpList P ops Q rest (a.put o.dst v) w) : wpList P ops Q (o :: rest) a w := by
  refine wpList_value hw (v := v) (w' := w) ?_ hK
  simp [execOp, hop, hx, hrun, Result.andThen]
theorem wpList_store_eq (hw : Region.wanted o (yielded ops a.tmps) = true) (x y : Operand) (t : TypeId) (hop : o.op = Op.store t x y) (p v : Value) (hx : a.eval x = p) (hy : a.eval y = v) {w' : World}
    (hrun : (Instr.storeAt t p v).run P w = .ok () w') (hK : wpList P ops Q rest (a.put o.dst undef) w') : wpList P ops Q (o :: rest) a w := by
  refine wpList_skips hw (w' := w') ?_ hK
  simp [execOp, hop, hx, hy, hrun, Result.andThen]
end
theorem run_store_cv (w : World) (R o : Nat) (c : CV) (ht : w.there R o 6) : (Instr.storeAt 33 (.pointer (some ⟨R, o, none⟩)) (.agg c.arr)).run Tryz.prog w = .ok () (w.setCells R o c.cells) := by
  refine run_storeAt_mid w R o 33 c.arr ht (by kernel_rfl) ?_
  simp [CV.arr, Value.oneCell']
theorem run_load_cv (w : World) (R o : Nat) (c : CV) (h : w.rangeAt R o c.cells) : (loadVar 33 ⟨R, o, none⟩).run Tryz.prog w = .ok (.agg c.arr) w :=
  run_loadVar_mid w R o 33 c.cells _ h Tryz.underlying33 rfl (by kernel_rfl)
theorem run_loadAt_cv (w : World) (R o : Nat) (c : CV) (h : w.rangeAt R o c.cells) : (Instr.loadAt 33 (.pointer (some ⟨R, o, none⟩))).run Tryz.prog w = .ok (.agg c.arr) w :=
  run_loadAt_mid w R o 33 c.cells _ h Tryz.underlying33 rfl (by kernel_rfl)
theorem size_setCells (g : Nat) : ∀ (vs : List Value) (o : Nat) (w : World), (w.setCells g o vs).heap.size = w.heap.size
  | [], o, w => rfl
  | v :: vs, o, w => (size_setCells g vs (o + 1) _).trans (by simp [World.setCell])
theorem heap_sets_ne {r g : Nat} (h : r ≠ g) : ∀ (vs : List Value) (o : Nat) (w : World), (w.setCells g o vs).heap[r]? = w.heap[r]?
  | [], o, w => rfl
  | v :: vs, o, w => (heap_sets_ne h vs (o + 1) _).trans (Below.heap_setCell _ _ _ _ h)
theorem kbut_sets {p g : Nat} {a : World} (hg : a.heap.size ≤ g) : ∀ (vs : List Value) (o : Nat) (w : World), Kbut p a w → Kbut p a (w.setCells g o vs)
  | [], o, w, h => h
  | v :: vs, o, w, h => kbut_sets hg vs (o + 1) _ ⟨h.os, h.tape, h.output, by rw [World.size_setCell]; exact h.size, fun k hk hp => (Below.heap_setCell _ _ _ _ (show k ≠ g by omega)).trans (h.block k hk hp)⟩
theorem kbut_sets_refl (g : Nat) : ∀ (vs : List Value) (o : Nat) (w : World), Kbut g w (w.setCells g o vs) := fun vs o w => by
  have : ∀ (vs : List Value) (o : Nat) (a b : World), Kbut g a b → Kbut g a (b.setCells g o vs) := by
    intro vs
    induction vs with
    | nil => intro o a b h; exact h
    | cons v vs ih => intro o a b h; exact ih (o + 1) a _ (h.set o v)
  exact this vs o w w (Kbut.refl g w)
/-- An answer is stored in the result's cells. -/
theorem put_answer {w W : World} {p R : Nat} {c : LC} {s : Int} (x : CV) (hk : Kbut p w W) (hS : SrcAt W p c s) (ht : W.there R 0 6) (hR : w.heap.size ≤ R) (hne : p ≠ R) :
    ∃ W2, (Instr.storeAt 33 (.pointer (some ⟨R, 0, none⟩)) (.agg x.arr)).run Tryz.prog W = .ok () W2 ∧ (loadVar 33 ⟨R, 0, none⟩).run Tryz.prog W2 = .ok (.agg x.arr) W2 ∧ Kbut p w W2 ∧ SrcAt W2 p c s :=
  ⟨W.setCells R 0 x.cells, run_store_cv W R 0 x ht, run_load_cv _ R 0 x (World.rangeAt_setCells_same W R 0 x.cells ht), kbut_sets hR _ _ _ hk, hS.kbut (kbut_sets_refl R _ _ W) hne⟩
theorem there_new {W : World} {R : Nat} {cs : Array Value} {t : TypeId} (h : W.heap[R]? = some (.cells cs t (0, 0))) (n : Nat) (hn : n ≤ cs.size) : W.there R 0 n := fun j hj => by
  have hc : W.cell? ⟨R, 0 + j, none⟩ = cs[0 + j]? := by
    simp [World.cell?, h]
  refine ⟨?_, ?_⟩
  · rw [hc, Array.getElem?_eq_getElem (by omega)]
    rfl
  · simp only [World.frozen?, h]
    simp
theorem own_keep {w w' : World} {B e sz n : Nat} {v : Value} {xs : List Value} (h : w.ownsRow B e sz v n xs) (hk : ∀ g, v.ownBlock = some g → w'.heap[g]? = w.heap[g]?) : w'.ownsRow B e sz v n xs := by
  refine ⟨h.1, ?_⟩
  rcases h.2 with h0 | ⟨g, cap, cur, rfl, hg, hb, r⟩
  · exact .inl h0
  · exact .inr ⟨g, cap, cur, rfl, hg, (hk g rfl).trans hb, r⟩
theorem own_block {w : World} {B e sz n : Nat} {v : Value} {xs : List Value} (h : w.ownsRow B e sz v n xs) {g : Nat} (hg : v.ownBlock = some g) : B ≤ g ∧ g < w.heap.size ∧ ∃ cur, w.heap[g]? = some (.cells cur e (0, 0)) := by
  rcases h.2 with ⟨rfl, _⟩ | ⟨g', cap, cur, rfl, hg', hb, r⟩
  · cases hg
  · have : g' = g := by simpa [Value.ownBlock] using hg
    subst this
    exact ⟨hg', (Array.getElem?_eq_some_iff.1 hb).1, cur, hb⟩
theorem flatMap_at {α : Type} (cells : α → List Value) (sz : Nat) (hsz : ∀ x, (cells x).length = sz) : ∀ (l : List α) (i : Nat) (h : i < l.length) (j : Nat), j < sz → (l.flatMap cells)[i * sz + j]? = (cells l[i])[j]?
  | [], i, h, _, _ => by simp at h
  | x :: r, 0, _, j, hj => by
    rw [List.flatMap_cons, List.getElem?_append_left (by rw [hsz]; omega)]
    simp
  | x :: r, i + 1, h, j, hj => by
    have := flatMap_at cells sz hsz r i (by simpa using h) j hj
    rw [List.flatMap_cons, List.getElem?_append_right (by rw [hsz, Nat.add_mul]; omega), hsz]
    have e : (i + 1) * sz + j - sz = i * sz + j := by rw [Nat.add_mul]; omega
    rw [e, this]
    simp

theorem slAt_of_own {α : Type} {cells : α → List Value} {w : World} {B e sz : Nat} {v : Value} {l : List α} (hsz : ∀ x, (cells x).length = sz) (h : w.ownsRow B e sz v l.length (l.flatMap cells)) : SlAt sz cells w v l := by
  rcases h.2 with ⟨rfl, h0⟩ | ⟨g, cap, cur, rfl, _, hb, hc, hm, hs, ht⟩
  · have : l = [] := List.eq_nil_of_length_eq_zero h0
    subst this
    exact SlAt.nil 0 none (by omega)
  · refine ⟨_, cap, rfl, hc, by simpa [maxLen] using hm, fun h0 => ⟨g, 0, rfl, fun i hi j u hu => ?_⟩⟩
    have hj : j < sz := by
      have := (List.getElem?_eq_some_iff.1 hu).1
      rw [hsz] at this
      exact this
    have h1 := flatMap_at cells sz hsz l i hi j hj
    rw [hu, ← ht] at h1
    have h2 : i * sz + j < l.length * sz := by
      have : (i + 1) * sz ≤ l.length * sz := Nat.mul_le_mul_right _ hi
      rw [Nat.add_mul] at this
      omega
    rw [List.getElem?_take_of_lt h2, Array.getElem?_toList] at h1
    simp only [World.cell?, hb, Nat.zero_add]
    simpa using h1
def numCells (x : Int) : List Value := [.int .i64 x]
abbrev OwnN (w : World) (B : Nat) (v : Value) (l : List Int) : Prop := w.ownsRow B 3 1 v l.length (l.flatMap numCells)
theorem OwnN.below {w w' : World} {B : Nat} {v : Value} {l : List Int} (h : OwnN w B v l) (hb : Below w.heap.size w w') : OwnN w' B v l := own_keep h fun g hg => hb.block g (own_block h hg).2.1
theorem OwnN.snoc {w : World} {B : Nat} {v : Value} {l : List Int} {x : Int} (h : w.ownsRow B 3 1 v (l.length + 1) (l.flatMap numCells ++ [.int .i64 x])) : OwnN w B v (l ++ [x]) := by
  have e : (l ++ [x]).flatMap numCells = l.flatMap numCells ++ [.int .i64 x] := by simp [numCells]
  unfold OwnN
  rw [e, List.length_append]
  exact h
theorem OwnN.none (w : World) (B : Nat) : OwnN w B (.slice .none 0 0) [] := ⟨rfl, .inl ⟨rfl, rfl⟩⟩
theorem OwnN.grown {w w1 w6 : World} {v : Value} {l : List Int} {B : Nat} (h : OwnN w1 B v l) (hb : Below B w w1) (hB : B ≤ w1.heap.size) (hg : w1.grownBy w6 v.ownBlock) : Below B w w6 :=
  hb.grown hg hB fun k hk => (own_block h hk).1
theorem OwnN.sl {w : World} {B : Nat} {v : Value} {l : List Int} (h : OwnN w B v l) : SlAt 1 numCells w v l := slAt_of_own (fun _ => rfl) h
abbrev OwnC (w : World) (B : Nat) (v : Value) (l : List CV) : Prop := w.ownsRow B 33 6 v l.length (l.flatMap CV.cells)
theorem OwnC.below {w w' : World} {B : Nat} {v : Value} {l : List CV} (h : OwnC w B v l) (hb : Below w.heap.size w w') : OwnC w' B v l := own_keep h fun g hg => hb.block g (own_block h hg).2.1
theorem OwnC.kbut {w w' : World} {B p : Nat} {v : Value} {l : List CV} (h : OwnC w B v l) (hb : Kbut p w w') (hp : p < B) : OwnC w' B v l := own_keep h fun g hg => hb.block g (own_block h hg).2.1 (by have := (own_block h hg).1; omega)
theorem OwnC.snoc {w : World} {B : Nat} {v : Value} {l : List CV} {x : CV} (h : w.ownsRow B 33 6 v (l.length + 1) (l.flatMap CV.cells ++ x.cells)) : OwnC w B v (l ++ [x]) := by
  have e : (l ++ [x]).flatMap CV.cells = l.flatMap CV.cells ++ x.cells := by simp
  unfold OwnC
  rw [e, List.length_append]
  exact h
theorem OwnC.none (w : World) (B : Nat) : OwnC w B (.slice .none 0 0) [] := ⟨rfl, .inl ⟨rfl, rfl⟩⟩
theorem OwnC.sl {w : World} {B : Nat} {v : Value} {l : List CV} (h : OwnC w B v l) : SlAt 6 CV.cells w v l := slAt_of_own (fun _ => rfl) h
def zCall : Array Value := #[.int .i64 0, .string ⟨#[]⟩, .string ⟨#[]⟩, .string ⟨#[]⟩, .int .i64 0, .slice none 0 0]
theorem info_call : (Tryz.prog.info? 33).map (fun i => (i.zero, i.size, i.bytes)) = some (some (.agg zCall), 6, 88) := by kernel_rfl
end Go.Proofs.YtecnchmcdbcofaaGreatDoor
