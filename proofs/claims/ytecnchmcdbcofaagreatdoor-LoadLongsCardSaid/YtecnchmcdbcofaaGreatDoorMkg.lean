/- A world in which all is kept but one block: what a source's Next does. -/
import Derived.Test.YtecnchmcdbcofaaGreatDoorMkf
set_option linter.unusedVariables false
set_option linter.unusedSimpArgs false
namespace Go.Proofs.YtecnchmcdbcofaaGreatDoor
open Go.RowKit Go.MapKept
structure Kbut (p : Nat) (w w' : World) : Prop where
  os : w'.os = w.os
  tape : w'.tape = w.tape
  output : w'.output = w.output
  size : w.heap.size ≤ w'.heap.size
  block : ∀ k, k < w.heap.size → k ≠ p → w'.heap[k]? = w.heap[k]?
theorem Kbut.refl (p : Nat) (w : World) : Kbut p w w := ⟨rfl, rfl, rfl, Nat.le_refl _, fun _ _ _ => rfl⟩
theorem Kbut.trans {p : Nat} {a b c : World} (h : Kbut p a b) (k : Kbut p b c) : Kbut p a c :=
  ⟨k.os.trans h.os, k.tape.trans h.tape, k.output.trans h.output, Nat.le_trans h.size k.size, fun i hi hp => (k.block i (Nat.lt_of_lt_of_le hi h.size) hp).trans (h.block i hi hp)⟩
theorem Kbut.of {p : Nat} {a b : World} (h : Below a.heap.size a b) : Kbut p a b := ⟨h.os, h.tape, h.output, h.size, fun k hk _ => h.block k hk⟩
theorem Kbut.step {p : Nat} {a b c : World} (h : Kbut p a b) (k : Below b.heap.size b c) : Kbut p a c := h.trans (.of k)
theorem Kbut.below {p B : Nat} {a b : World} (h : Kbut p a b) (hB : B ≤ p) (hs : B ≤ a.heap.size) : Below B a b := ⟨h.os, h.tape, h.output, h.size, fun k hk => h.block k (by omega) (by omega)⟩
theorem Kbut.set {a w : World} {p : Nat} (h : Kbut p a w) (i : Nat) (v : Value) : Kbut p a (w.setCell ⟨p, i, none⟩ v) :=
  h.trans ⟨rfl, rfl, rfl, by rw [World.size_setCell]; exact Nat.le_refl _, fun k _ hk => Below.heap_setCell _ _ _ _ hk⟩
theorem Kbut.cell {p : Nat} {a b : World} (h : Kbut p a b) {q : Addr} (hq : q.block < a.heap.size) (hp : q.block ≠ p) : b.cell? q = a.cell? q := World.cell?_of_block (w := a) (h.block q.block hq hp)
theorem Kbut.one {p : Nat} {a b : World} (h : Kbut p a b) {q : Nat} (hq : q < a.heap.size) (hp : q ≠ p) : ∃ c, Below a.heap.size a c ∧ b.heap[q]? = c.heap[q]? := ⟨a, Below.refl _ _, h.block q hq hp⟩
theorem SrcAt.kbut {w w' : World} {p q : Nat} {c : LC} {s : Int} (h : SrcAt w q c s) (hk : Kbut p w w') (hp : q ≠ p) : SrcAt w' q c s := by
  have hb := hk.block q h.lt hp
  have hc : ∀ i, w'.cell? ⟨q, i, none⟩ = w.cell? ⟨q, i, none⟩ := fun i => hk.cell h.lt hp
  refine ⟨Nat.lt_of_lt_of_le h.lt hk.size, (hc 0).trans h.c0, (hc 1).trans h.c1, (hc 2).trans h.c2, (hc 3).trans h.c3, (hc 4).trans h.c4, ?_⟩
  have hz := h.fz
  simp only [World.frozen?] at hz ⊢
  rw [hb]
  exact hz
end Go.Proofs.YtecnchmcdbcofaaGreatDoor
