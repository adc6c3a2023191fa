/- Values of an evaluated state in the heap, beside blocks that others write. -/
import Derived.Test.YtfddpmnbbjofnaaGreatDoorAl
set_option linter.unusedVariables false
set_option linter.unusedSimpArgs false
namespace Go.Proofs.YtfddpmnbbjofnaaGreatDoor
open Go.RowKit
/-- These values of the state σ lie in the world; none of its live objects lies at a block of A; what may be written (from lo on) lies from B on. -/
def InS (σ : Ax.St) (lo B : Nat) (A : Nat → Prop) (W : World) (l l' : List Value) : Prop :=
  ∃ E : Ax.Ev, Ax.Inv E σ gv.ng W ∧ Ax.VRs E l l' ∧ lo ≤ σ.nx ∧ B ≤ W.heap.size ∧ (∀ b, A b → b < B) ∧ (∀ i o, σ.h.get i = some o → o.live = true → ∀ b n, E.blk i = some (b, n) → ¬ A b) ∧ (∀ j b n, lo ≤ j → E.blk j = some (b, n) → B ≤ b)
theorem InS.keep {σ : Ax.St} {lo B : Nat} {A : Nat → Prop} {W W' : World} {l l' : List Value} (h : InS σ lo B A W l l') (hs : W.heap.size ≤ W'.heap.size) (hk : ∀ b, b < W.heap.size → ¬ A b → W'.heap[b]? = W.heap[b]?) : InS σ lo B A W' l l' := by
  obtain ⟨E, hI, hv, h1, h2, h3, h4, h5⟩ := h
  refine ⟨E, ⟨fun i o hi => (hI.heap i o hi).congr fun hl b n hb => hk b (hI.blk_lt hi hl hb) (h4 i o hi hl b n hb), hI.inj, hI.fresh, hI.glob, fun i b n hi => Nat.lt_of_lt_of_le (hI.bnd i b n hi) hs⟩, hv, h1, Nat.le_trans h2 hs, h3, h4, h5⟩
theorem InS.below {σ : Ax.St} {lo B : Nat} {A : Nat → Prop} {W W' : World} {l l' : List Value} (h : InS σ lo B A W l l') (hb : Below W.heap.size W W') : InS σ lo B A W' l l' := h.keep hb.size fun b hl _ => hb.block b hl
theorem InS.raise {σ : Ax.St} {lo B : Nat} {A : Nat → Prop} {W : World} {l l' : List Value} (h : InS σ lo B A W l l') : InS σ σ.nx W.heap.size A W l l' := by
  obtain ⟨E, hI, hv, h1, h2, h3, h4, h5⟩ := h
  exact ⟨E, hI, hv, Nat.le_refl _, Nat.le_refl _, fun b hb => Nat.lt_of_lt_of_le (h3 b hb) h2, h4, fun j b n hj e => by rw [hI.fresh j hj] at e; cases e⟩
/-- A call whose run is known. -/
theorem InS.call {σ σ' : Ax.St} {lo B : Nat} {A : Nat → Prop} {W : World} {l l' : List Value} {f : FuncId} {v : Value} (h : InS σ lo B A W l l') {k k' : List Value} (hk : ∀ E, Ax.VRs E l l' → Ax.VRs E k k') (hq : Ax.callB gv 100000 f k lo σ = some (v, σ')) :
    Calls Tryz.prog f ⟨k'⟩ W fun e w' => (∃ v', e = .returned v' ∧ InS σ' lo B A w' (v :: l) (v' :: l')) ∧ Below B W w' := by
  obtain ⟨E, hI, hv, h1, h2, h3, h4, h5⟩ := h
  refine (Ax.callB_sound gv_types gv_funs gv_mixed hq hI h1 (hk E hv)).mono ?_
  rintro e w' ⟨v', E', rfl, g2, g3, g4, g5⟩
  have hnew : ∀ i b n, E'.blk i = some (b, n) → E.blk i = some (b, n) ∨ B ≤ b := fun i b n hb => by
    rcases g4.new i b n hb with g6 | ⟨_, g7 | ⟨j, m, g7, g8⟩⟩
    · exact .inl g6
    · exact .inr (Nat.le_trans h2 g7)
    · exact .inr (h5 j b m g7 g8)
  have hb : Below B W w' := ⟨g4.os, g4.tape, g4.output, g4.size, fun b hb => g4.frame b (Nat.lt_of_lt_of_le hb h2) fun j n hj e => Nat.lt_irrefl b (Nat.lt_of_lt_of_le hb (h5 j b n hj e))⟩
  refine ⟨⟨v', rfl, E', g3, .cons _ _ _ _ g2 (hv.mono g4.le), Nat.le_trans h1 g5.nx, Nat.le_trans h2 hb.size, h3, fun i o hi hl b n hbk ha => ?_, fun j b n hj e => ?_⟩, hb⟩
  · rcases hnew i b n hbk with g6 | g6
    · by_cases hlo : i < lo
      · rw [g5.keep i hlo] at hi
        exact h4 i o hi hl b n g6 ha
      · exact Nat.lt_irrefl b (Nat.lt_of_lt_of_le (h3 b ha) (h5 i b n (Nat.le_of_not_lt hlo) g6))
    · exact Nat.lt_irrefl b (Nat.lt_of_lt_of_le (h3 b ha) g6)
  · rcases hnew j b n e with g6 | g6
    · exact h5 j b n hj g6
    · exact g6
theorem InS.sub {σ : Ax.St} {lo B : Nat} {A : Nat → Prop} {W : World} {l l' k k' : List Value} (h : InS σ lo B A W l l') (hk : ∀ E, Ax.VRs E l l' → Ax.VRs E k k') : InS σ lo B A W k k' := by
  obtain ⟨E, hI, hv, h1⟩ := h
  exact ⟨E, hI, hk E hv, h1⟩
/-- Two objects are given away: others may write their blocks. -/
theorem InS.give {σ : Ax.St} {lo B : Nat} {W : World} {l l' : List Value} {i j : Nat} {oi oj : Ax.AO} (h : InS σ lo B (fun _ => False) W l l') (hi : σ.h.get i = some oi) (hil : oi.live = true) (hj : σ.h.get j = some oj) (hjl : oj.live = true) :
    ∃ P Q, (i ≠ j → P ≠ Q) ∧ P < W.heap.size ∧ Q < W.heap.size ∧ (lo ≤ i → B ≤ P) ∧ (lo ≤ j → B ≤ Q) ∧ ∃ E : Ax.Ev, Ax.VRs E l l' ∧ Ax.OR E W i oi ∧ Ax.OR E W j oj ∧ (∃ n, E.blk i = some (P, n)) ∧ (∃ n, E.blk j = some (Q, n)) ∧
      ∀ k k', Ax.VRs E k k' → InS { σ with h := (σ.h.set i .dead).set j .dead } σ.nx W.heap.size (fun b => b = P ∨ b = Q) W k k' := by
  obtain ⟨E, hI, hv, h1, h2, h3, h4, h5⟩ := h
  obtain ⟨P, n, x, p1, p2⟩ := (hI.heap i oi hi).blk hil
  obtain ⟨Q, n', x', q1, q2⟩ := (hI.heap j oj hj).blk hjl
  have hP : P < W.heap.size := (Array.getElem?_eq_some_iff.1 p2).1
  have hQ : Q < W.heap.size := (Array.getElem?_eq_some_iff.1 q2).1
  refine ⟨P, Q, fun hij e => hij (hI.inj i j oi oj P n n' hi hj hil hjl p1 (by rw [e]; exact q1)), hP, hQ, fun hl => h5 i P n hl p1, fun hl => h5 j Q n' hl q1, E, hv, hI.heap i oi hi, hI.heap j oj hj, ⟨n, p1⟩, ⟨n', q1⟩, fun k k' hkk => ⟨E, ?_, hkk, Nat.le_refl _, Nat.le_refl _, fun b hb => by rcases hb with rfl | rfl <;> assumption, fun k o hk hl b m hbk hb => ?_, fun k b m hk e => by rw [hI.fresh k hk] at e; cases e⟩⟩
  · have k1 := (hI.kill (lo := 0) (Nat.zero_le i)).1
    exact (k1.kill (lo := 0) (Nat.zero_le j)).1
  · have hk' : k ≠ i ∧ k ≠ j ∧ σ.h.get k = some o := by
      have hk0 : ((σ.h.set i .dead).set j .dead).get k = some o := hk
      simp only [Ax.Tr.get_set] at hk0
      split at hk0
      · injection hk0 with hk0; subst hk0; cases hl
      · split at hk0
        · injection hk0 with hk0; subst hk0; cases hl
        · exact ⟨by assumption, by assumption, hk0⟩
    rcases hb with rfl | rfl
    · exact hk'.1 (hI.inj k i o oi b m n hk'.2.2 hi hl hil hbk p1)
    · exact hk'.2.1 (hI.inj k j o oj b m n' hk'.2.2 hj hl hjl hbk q1)
end Go.Proofs.YtfddpmnbbjofnaaGreatDoor
