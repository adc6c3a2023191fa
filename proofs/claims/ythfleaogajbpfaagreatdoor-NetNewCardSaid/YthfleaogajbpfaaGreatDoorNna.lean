/- Nodes that are kept while other blocks are written. -/
import Derived.Test.YthfleaogajbpfaaGreatDoorRnf
set_option linter.unusedVariables false
set_option linter.unusedSimpArgs false
namespace Go.Proofs.YthfleaogajbpfaaGreatDoor
open Go.RowKit Go.MapKept
theorem cell_same {w w' : World} {k : Nat} (h : w'.heap[k]? = w.heap[k]?) (j : Nat) : w'.cell? ⟨k, j, none⟩ = w.cell? ⟨k, j, none⟩ := by
  unfold World.cell?
  dsimp only
  rw [h]
theorem frozen_same {w w' : World} {k : Nat} (h : w'.heap[k]? = w.heap[k]?) (j : Nat) : w'.frozen? ⟨k, j, none⟩ = w.frozen? ⟨k, j, none⟩ := by
  unfold World.frozen?
  dsimp only
  rw [h]
theorem Stripes.agree {w w' : World} {g S k : Nat} (h : Stripes w g S k) (hs : w.heap.size ≤ w'.heap.size) (ha : ∀ j, g ≤ j → j < w.heap.size → w'.heap[j]? = w.heap[j]?) : Stripes w' g S k :=
  ⟨fun j hj => by rw [cell_same (ha g (Nat.le_refl _) h.lt), frozen_same (ha g (Nat.le_refl _) h.lt)]; exact h.there j hj, Nat.lt_of_lt_of_le h.lt hs, fun i hi => by
    obtain ⟨b, h1, h2⟩ := h.full i hi
    exact ⟨b, (cell_same (ha g (Nat.le_refl _) h.lt) i).trans h1, (ha b (Nat.le_of_lt (h.above i b hi h1)) (Array.getElem?_eq_some_iff.1 h2).1).trans h2⟩, fun i b hi hc => h.above i b hi ((cell_same (ha g (Nat.le_refl _) h.lt) i).symm.trans hc)⟩
theorem cell_agree {w w' : World} {g : Nat} (ha : ∀ j, g ≤ j → j < w.heap.size → w'.heap[j]? = w.heap[j]?) {k j : Nat} {v : Value} (hk : g ≤ k) (h : w.cell? ⟨k, j, none⟩ = some v) : w'.cell? ⟨k, j, none⟩ = some v :=
  (cell_same (ha k hk (World.block_lt_of_cell? w _ h)) j).trans h
theorem NodeNew.agree {w w' : World} {p t g d n u : Nat} {r : Int} {S : Nat} {i o : Int} (h : NodeNew w p t g d n u r S i o) (oo : g < t ∧ t < d ∧ d < n ∧ n < u ∧ u < p) (hs : w.heap.size ≤ w'.heap.size) (ha : ∀ j, g ≤ j → j < w.heap.size → w'.heap[j]? = w.heap[j]?) : NodeNew w' p t g d n u r S i o := by
  have c := fun {k j : Nat} {v : Value} (hk : g ≤ k) (hc : w.cell? ⟨k, j, none⟩ = some v) => cell_agree (w' := w') ha hk hc
  exact ⟨c (by omega) h.c0, c (by omega) h.c1, c (by omega) h.c2, c (by omega) h.c3, c (by omega) h.c4, c (by omega) h.c5, c (by omega) h.c6, c (by omega) h.c7, c (by omega) h.c8, c (by omega) h.t0, c (by omega) h.t1, c (by omega) h.d0, c (by omega) h.d1, c (by omega) h.n0, c (by omega) h.n1, c (by omega) h.n2, c (by omega) h.n3, c (by omega) h.u0, c (by omega) h.u1, c (by omega) h.u2, h.st.agree hs ha⟩
theorem RefNew.agree {w w' : World} {m tt u : Nat} {r : Int} {S : Nat} {i o : Int} (h : RefNew w m tt u r S i o) (ha : ∀ j, tt ≤ j → j < w.heap.size → w'.heap[j]? = w.heap[j]?) : RefNew w' m tt u r S i o := by
  have o := h.ord
  have c := fun {k j : Nat} {v : Value} (hk : tt ≤ k) (hc : w.cell? ⟨k, j, none⟩ = some v) => cell_agree (w' := w') ha hk hc
  exact ⟨c (by omega) h.c0, c (by omega) h.c1, c (by omega) h.c2, c (by omega) h.c3, c (by omega) h.c4, c (by omega) h.c5, c (by omega) h.c6, c (by omega) h.c7, c (by omega) h.c8, c (by omega) h.t0, c (by omega) h.u1, c (by omega) h.u2, h.ord⟩
/-- A fact of a world that stands on blocks from lo to hi, none of which is v's own or lies below B. -/
def Held (W : World) (v : Value) (B : Nat) (Q : World → Prop) : Prop := ∃ lo hi, B ≤ lo ∧ hi ≤ W.heap.size ∧ (∀ b, v.ownBlock = some b → b < lo ∨ hi ≤ b) ∧ ∀ W' : World, hi ≤ W'.heap.size → (∀ j, lo ≤ j → j < hi → W'.heap[j]? = W.heap[j]?) → Q W'
theorem Held.now {W : World} {v : Value} {B : Nat} {Q : World → Prop} (h : Held W v B Q) : Q W := by
  obtain ⟨lo, hi, _, h2, _, h4⟩ := h
  exact h4 W h2 fun _ _ _ => rfl
theorem Held.step {W W' : World} {v v' : Value} {B : Nat} {Q : World → Prop} (h : Held W v B Q) (hs : W.heap.size ≤ W'.heap.size) (hk : ∀ j, B ≤ j → j < W.heap.size → v.ownBlock ≠ some j → W'.heap[j]? = W.heap[j]?) (hv : ∀ b, v'.ownBlock = some b → v.ownBlock = some b ∨ W.heap.size ≤ b) : Held W' v' B Q := by
  obtain ⟨lo, hi, h1, h2, h3, h4⟩ := h
  refine ⟨lo, hi, h1, Nat.le_trans h2 hs, fun b hb => ?_, fun W2 hs2 ha => h4 W2 hs2 fun j hj1 hj2 => ?_⟩
  · rcases hv b hb with h5 | h5
    · exact h3 b h5
    · exact Or.inr (Nat.le_trans h2 h5)
  · refine (ha j hj1 hj2).trans (hk j (Nat.le_trans h1 hj1) (Nat.lt_of_lt_of_le hj2 h2) fun e => ?_)
    rcases h3 j e with h6 | h6 <;> omega
theorem Held.below {W W' : World} {v : Value} {B : Nat} {Q : World → Prop} (h : Held W v B Q) (hb : Below W.heap.size W W') : Held W' v B Q :=
  h.step hb.size (fun j _ hj _ => hb.block j hj) fun b hb => Or.inl hb
theorem held_node {W0 W : World} {v : Value} {B p t g d n u : Nat} {r : Int} {S : Nat} {i o : Int} (h : NodeNew W p t g d n u r S i o) (ho : g < t ∧ t < d ∧ d < n ∧ n < u ∧ u < p) (hB : B ≤ W0.heap.size) (hg : W0.heap.size ≤ g) (hv : ∀ b, v.ownBlock = some b → b < W0.heap.size) : Held W v B fun W' => ∃ t g d n u, NodeNew W' p t g d n u r S i o :=
  ⟨g, W.heap.size, by omega, Nat.le_refl _, fun b hb => Or.inl (by have := hv b hb; omega), fun W' hs ha => ⟨t, g, d, n, u, h.agree ho hs ha⟩⟩
theorem held_ref {W0 W : World} {v : Value} {B m tt u : Nat} {r : Int} {S : Nat} {i o : Int} (h : RefNew W m tt u r S i o) (hB : B ≤ W0.heap.size) (hg : W0.heap.size ≤ tt) (hv : ∀ b, v.ownBlock = some b → b < W0.heap.size) : Held W v B fun W' => ∃ tt u, RefNew W' m tt u r S i o :=
  ⟨tt, W.heap.size, by omega, Nat.le_refl _, fun b hb => Or.inl (by have := hv b hb; omega), fun W' hs ha => ⟨tt, u, h.agree ha⟩⟩
end Go.Proofs.YthfleaogajbpfaaGreatDoor
