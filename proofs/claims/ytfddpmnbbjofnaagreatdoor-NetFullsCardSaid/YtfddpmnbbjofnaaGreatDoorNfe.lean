/- The net's short functions; what a loop of sends keeps. -/
import Derived.Test.YtfddpmnbbjofnaaGreatDoorNfd
import Derived.Deep.WholeRow
import Derived.Deep.MidRow
import Derived.Deep.AppendLies
import Derived.Deep.LoopGhost
import Derived.Deep.RegionHeld3
import Derived.Deep.QuietTactic
import Derived.WalkSpells
import Derived.WalkLawsBesides
import Derived.BigQuiet
import Derived.OwnWalk
import Derived.Lib.Hide
import Derived.Laws.ResultCell
set_option linter.unusedVariables false
set_option linter.unusedSimpArgs false
namespace Go.Proofs.YtfddpmnbbjofnaaGreatDoor
open Go.RowKit Go.MapKept
theorem nbl_step {w a b : World} (h : Below w.heap.size w a) (k : Below a.heap.size a b) : Below w.heap.size w b := h.trans (k.mono h.size)
theorem nbl_drewN {w a : World} {n : Nat} (h : Below w.heap.size w a) : Below w.heap.size w (a.drewN n) := ⟨h.os, h.tape, h.output, h.size, h.block⟩
theorem below_alloc (w : World) (o : Obj) : Below w.heap.size w (w.alloc o) := (Below.refl _ w).alloc (Nat.le_refl _) o
theorem nbl_al {w a : World} {o : Obj} (h : Below w.heap.size w a) : Below w.heap.size w (a.alloc o) := nbl_step h (below_alloc _ _)
theorem new_cells (w : World) (cs : Array Value) (ty : TypeId) (i : Nat) : (w.alloc (.cells cs ty)).cell? ⟨w.heap.size, i, none⟩ = cs[i]? := by
  have hh : (w.alloc (.cells cs ty)).heap[w.heap.size]? = some (.cells cs ty (0, 0)) := by
    show (w.heap.push _)[w.heap.size]? = _
    simp
  unfold World.cell?
  dsimp only
  rw [hh]
  rfl
theorem cell_below {w w' : World} (hb : Below w.heap.size w w') {a : Addr} {v : Value} (h : w.cell? a = some v) : w'.cell? a = some v :=
  (hb.cell (World.block_lt_of_cell? w _ h)).trans h
theorem own_block {w : World} {B e sz n : Nat} {v : Value} {xs : List Value} (h : w.ownsRow B e sz v n xs) {g : Nat} (hg : v.ownBlock = some g) : B ≤ g ∧ g < w.heap.size ∧ ∃ cur, w.heap[g]? = some (.cells cur e (0, 0)) := by
  rcases h.2 with ⟨rfl, _⟩ | ⟨g', cap, cur, rfl, hg', hb, r⟩
  · cases hg
  · have : g' = g := by simpa [Value.ownBlock] using hg
    subst this
    exact ⟨hg', (Array.getElem?_eq_some_iff.1 hb).1, cur, hb⟩
theorem own_keep {w w' : World} {B e sz n : Nat} {v : Value} {xs : List Value} (h : w.ownsRow B e sz v n xs) (hk : ∀ g, v.ownBlock = some g → w'.heap[g]? = w.heap[g]?) : w'.ownsRow B e sz v n xs := by
  refine ⟨h.1, ?_⟩
  rcases h.2 with h0 | ⟨g, cap, cur, rfl, hg, hb, r⟩
  · exact .inl h0
  · exact .inr ⟨g, cap, cur, rfl, hg, (hk g rfl).trans hb, r⟩
theorem own_slice {w : World} {B e sz n : Nat} {v : Value} {xs : List Value} (h : w.ownsRow B e sz v n xs) : ∃ A cap, v = .slice A n cap := by
  rcases h.2 with ⟨rfl, rfl⟩ | ⟨g', cap, cur, rfl, hg', hb, r⟩
  · exact ⟨none, 0, rfl⟩
  · exact ⟨_, cap, rfl⟩
/-- All below B is kept but the net's two blocks. -/
structure KeepPQ (P Q B : Nat) (a b : World) : Prop where
  os : b.os = a.os
  tape : b.tape = a.tape
  output : b.output = a.output
  size : a.heap.size ≤ b.heap.size
  block : ∀ k, k < B → k ≠ P → k ≠ Q → b.heap[k]? = a.heap[k]?
theorem KeepPQ.refl (P Q B : Nat) (w : World) : KeepPQ P Q B w w := ⟨rfl, rfl, rfl, Nat.le_refl _, fun _ _ _ _ => rfl⟩
theorem KeepPQ.trans {P Q B : Nat} {a b c : World} (h : KeepPQ P Q B a b) (k : KeepPQ P Q B b c) : KeepPQ P Q B a c :=
  ⟨k.os.trans h.os, k.tape.trans h.tape, k.output.trans h.output, Nat.le_trans h.size k.size, fun i hi h1 h2 => (k.block i hi h1 h2).trans (h.block i hi h1 h2)⟩
theorem KeepPQ.of {P Q B C : Nat} {a b : World} (h : Below C a b) (hC : B ≤ C) : KeepPQ P Q B a b := ⟨h.os, h.tape, h.output, h.size, fun k hk _ _ => h.block k (Nat.lt_of_lt_of_le hk hC)⟩
theorem KeepPQ.setP {P Q B : Nat} (w : World) (i : Nat) (v : Value) : KeepPQ P Q B w (w.setCell ⟨P, i, none⟩ v) := ⟨rfl, rfl, rfl, by rw [World.size_setCell]; exact Nat.le_refl _, fun k _ h1 _ => Below.heap_setCell _ _ _ _ h1⟩
theorem KeepPQ.setQ {P Q B : Nat} (w : World) (i : Nat) (v : Value) : KeepPQ P Q B w (w.setCell ⟨Q, i, none⟩ v) := ⟨rfl, rfl, rfl, by rw [World.size_setCell]; exact Nat.le_refl _, fun k _ _ h2 => Below.heap_setCell _ _ _ _ h2⟩
theorem KeepPQ.below {P Q B C : Nat} {a b : World} (h : KeepPQ P Q B a b) (h1 : C ≤ P) (h2 : C ≤ Q) (h3 : C ≤ B) : Below C a b := ⟨h.os, h.tape, h.output, h.size, fun k hk => h.block k (by omega) (by omega) (by omega)⟩
theorem NetC.below {W W' : World} {P Q cq : Nat} {v0 v1 : Value} (h : NetC W P Q cq v0 v1) {C : Nat} (hb : Below C W W') (hP : P < C) (hQ : Q < C) : NetC W' P Q cq v0 v1 :=
  ⟨Nat.lt_of_lt_of_le h.ltP hb.size, Nat.lt_of_lt_of_le h.ltQ hb.size, h.ne, (hb.cell (p := ⟨P, 0, none⟩) hP).trans h.c0, (hb.frozen (p := ⟨P, 1, none⟩) hP).trans h.f1, (hb.cell (p := ⟨Q, 0, none⟩) hQ).trans h.q0, (hb.cell (p := ⟨Q, 1, none⟩) hQ).trans h.q1, (hb.frozen (p := ⟨Q, 0, none⟩) hQ).trans h.g0, (hb.frozen (p := ⟨Q, 1, none⟩) hQ).trans h.g1⟩
/-- The net's state in the loop: k packets, the world w1 is the loop's first. -/
structure LoopS (w1 W : World) (P Q cq : Nat) (v0 v1 : Value) (k : Nat) : Prop where
  keep : KeepPQ P Q w1.heap.size w1 W
  net : NetC W P Q cq v0 v1
  ltP : P < w1.heap.size
  ltQ : Q < w1.heap.size
  nodes : NetK w1 P Q w1.heap.size v0 v1
  pk : ∃ pv xs, W.cell? ⟨P, 1, none⟩ = some pv ∧ W.ownsRow w1.heap.size 72 2 pv k xs
theorem LoopS.below {w1 W W' : World} {P Q cq k : Nat} {v0 v1 : Value} (h : LoopS w1 W P Q cq v0 v1 k) (hb : Below W.heap.size W W') : LoopS w1 W' P Q cq v0 v1 k := by
  obtain ⟨pv, xs, h1, h2⟩ := h.pk
  exact ⟨h.keep.trans (.of hb h.keep.size), h.net.below hb h.net.ltP h.net.ltQ, h.ltP, h.ltQ, h.nodes, pv, xs, cell_below hb h1, own_keep h2 fun g hg => hb.block g (own_block h2 hg).2.1⟩
theorem LoopS.netk {w1 W : World} {P Q cq k : Nat} {v0 v1 : Value} (h : LoopS w1 W P Q cq v0 v1 k) : NetK W P Q w1.heap.size v0 v1 := h.nodes.keep h.keep.size fun b hb h1 h2 => h.keep.block b hb h1 h2
/-- where the net's own blocks lie -/
structure PkLt (W : World) (P Q T : Nat) : Prop where
  p : P < T
  q : Q < T
  le : T ≤ W.heap.size
  pk : ∀ pv g, W.cell? ⟨P, 1, none⟩ = some pv → pv.ownBlock = some g → g < T
theorem PkLt.below {w1 W W' : World} {P Q cq k T : Nat} {v0 v1 : Value} (h : PkLt W P Q T) (hl : LoopS w1 W P Q cq v0 v1 k) (hb : Below W.heap.size W W') : PkLt W' P Q T :=
  ⟨h.p, h.q, Nat.le_trans h.le hb.size, fun pv g hc hg => h.pk pv g ((hb.cell (p := ⟨P, 1, none⟩) hl.net.ltP).symm.trans hc) hg⟩
theorem PkLt.here {w1 W : World} {P Q cq k : Nat} {v0 v1 : Value} (hl : LoopS w1 W P Q cq v0 v1 k) : PkLt W P Q W.heap.size := by
  obtain ⟨pv, xs, h1, h2⟩ := hl.pk
  refine ⟨hl.net.ltP, hl.net.ltQ, Nat.le_refl _, fun pv' g hc hg => ?_⟩
  rw [h1] at hc
  injection hc with hc
  subst hc
  exact (own_block h2 hg).2.1
def KeepFrom (T C : Nat) (W w' : World) : Prop := ∀ b, T ≤ b → b < C → w'.heap[b]? = W.heap[b]?
theorem KeepFrom.of_below {T C : Nat} {W a w' : World} (h : KeepFrom T C a w') (hb : Below C W a) : KeepFrom T C W w' := fun b h1 h2 => (h b h1 h2).trans (hb.block b h2)
theorem KeepFrom.trans {T C : Nat} {W a w' : World} (h : KeepFrom T C W a) (k : KeepFrom T C a w') : KeepFrom T C W w' := fun b h1 h2 => (k b h1 h2).trans (h b h1 h2)
theorem BatchK.below {W W' : World} {P Q B g : Nat} {bv : Value} (h : BatchK W P Q B g bv) (hb : Below W.heap.size W W') : BatchK W' P Q B g bv := h.keep hb.size fun b hl _ _ => hb.block b hl
/-- a node's pointer is stored anew in the first place -/
theorem LoopS.setQ {w1 W : World} {P Q cq k : Nat} {v0 v1 : Value} (h : LoopS w1 W P Q cq v0 v1 k) : LoopS w1 (W.setCell ⟨Q, 0, none⟩ v0) P Q cq v0 v1 k := by
  obtain ⟨pv, xs, h1, h2⟩ := h.pk
  have hP : ∀ i, (W.setCell ⟨Q, 0, none⟩ v0).cell? ⟨P, i, none⟩ = W.cell? ⟨P, i, none⟩ := fun i => World.cell?_setCell_other _ _ _ _ (fun e => by injection e with e1 _; exact h.net.ne e1.symm)
  have hf : ∀ a, (W.setCell ⟨Q, 0, none⟩ v0).frozen? a = W.frozen? a := fun a => World.frozen?_setCells Q [v0] 0 W a
  refine ⟨h.keep.trans (.setQ W 0 v0), ⟨by rw [World.size_setCell]; exact h.net.ltP, by rw [World.size_setCell]; exact h.net.ltQ, h.net.ne, (hP 0).trans h.net.c0, (hf _).trans h.net.f1, World.cell?_setCell_same _ _ _ h.net.q0, (World.cell?_setCell_other _ _ _ _ (fun e => by injection e with _ e2; cases e2)).trans h.net.q1, (hf _).trans h.net.g0, (hf _).trans h.net.g1⟩, h.ltP, h.ltQ, h.nodes, pv, xs, (hP 1).trans h1, own_keep h2 fun g hg => Below.heap_setCell _ _ _ _ (show g ≠ Q by have := (own_block h2 hg).1; have := h.ltQ; omega)⟩
set_option maxRecDepth 100000 in
theorem zero_any {w1 W : World} {P Q cq k : Nat} {v0 v1 : Value} (h : LoopS w1 W P Q cq v0 v1 k) : Calls Tryz.prog 16 #[.pointer (some ⟨P, 0, none⟩)] W fun e w' => e = .returned (.bool false) ∧ w' = W := by
  have c0 := h.net.c0
  clear h
  go_enter Tryz.func16, Tryz.ntmps16
  go_wp2
  go_ret
  exact ⟨rfl, rfl⟩
set_option maxRecDepth 100000 in
theorem packets_any {w1 W : World} {P Q cq k : Nat} {v0 v1 : Value} (h : LoopS w1 W P Q cq v0 v1 k) : Calls Tryz.prog 7 #[.pointer (some ⟨P, 0, none⟩)] W fun e w' => e = .returned (.int .i64 (k : Int)) ∧ w' = W := by
  obtain ⟨pv, xs, c1, hown⟩ := h.pk
  obtain ⟨A, cap, rfl⟩ := own_slice hown
  have HZ := Lib.hid (zero_any h)
  clear hown h
  go_enter Tryz.func7, Tryz.ntmps7
  go_wp2_with (first | (go_at_call 16; refine HZ.out.mono ?_; rintro e w2 ⟨rfl, hw⟩; obtain rfl := hw.symm; clear hw))
  go_ret
  exact ⟨rfl, rfl⟩
end Go.Proofs.YtfddpmnbbjofnaaGreatDoor
