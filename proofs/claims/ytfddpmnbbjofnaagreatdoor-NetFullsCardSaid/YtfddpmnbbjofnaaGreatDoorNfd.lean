/- The net of the examples: contracts of a node's methods. -/
import Derived.Test.YtfddpmnbbjofnaaGreatDoorNfc
set_option linter.unusedVariables false
set_option linter.unusedSimpArgs false
namespace Go.Proofs.YtfddpmnbbjofnaaGreatDoor
open Go.RowKit
def AtPQ (P Q : Nat) : Nat → Prop := fun b => b = P ∨ b = Q
theorem or_one {E : Ax.Ev} {W : World} {i P n : Nat} {a : Value} (h : Ax.OR E W i (.cells [a] true)) (hP : E.blk i = some (P, n)) : ∃ a', Ax.VR E a a' ∧ W.cell? ⟨P, 0, none⟩ = some a' ∧ P < W.heap.size := by
  obtain ⟨b2, n2, arr, ty, fr, h1, h2, h3, h4, h5, h6⟩ := h
  rw [hP] at h1
  injection h1 with h1
  injection h1 with h1 _
  subst h1
  obtain ⟨a', e, k1⟩ := vr_one h6
  have hl : arr[0]? = some a' := by
    have h0 : (arr.toList.take 1)[0]? = [a'][0]? := by rw [← e]; rfl
    rw [List.getElem?_take_of_lt (by decide)] at h0
    simpa using h0
  refine ⟨a', k1, ?_, (Array.getElem?_eq_some_iff.1 h2).1⟩
  simp only [World.cell?, h2]
  simpa using hl
def CartsK (W : World) (P Q B : Nat) (cv : Value) : Prop := ∃ k k3 k4 k5, splitR (Ax.St.nx k) k3 = some (splitV, k4) ∧ k4.h.get 1854 = some (.cells [batchV] true) ∧ cloneR k.nx k4 = some (cloneV, k5) ∧ InS k3 k.nx B (AtPQ P Q) W [cartsV] [cv]
theorem carts_any (W : World) (P Q B : Nat) (v0 v1 : Value) (h : NetK W P Q B v0 v1) : Calls Tryz.prog 56 #[v0] W fun e w' => (∃ cv, e = .returned cv ∧ CartsK w' P Q W.heap.size cv) ∧ Below W.heap.size W w' := by
  obtain ⟨k, hk, hI⟩ := h
  obtain ⟨k3, k4, k5, h1, h2, h3, h4⟩ := hk.a
  refine (hI.raise.call (fun E hv => vr_head hv) h1).mono ?_
  rintro e w' ⟨⟨v', rfl, hI2⟩, hb⟩
  exact ⟨⟨v', rfl, k, k3, k4, k5, h2, h3, h4, hI2.sub fun E hv => vr_head hv⟩, hb⟩
def BatchK (W : World) (P Q B g : Nat) (bv : Value) : Prop := ∃ k k4 k5, cloneR (Ax.St.nx k) k4 = some (cloneV, k5) ∧ InS k4 k.nx B (AtPQ P Q) W [batchV] [bv] ∧ W.cell? ⟨g, 0, none⟩ = some bv ∧ g < W.heap.size ∧ g ≠ P ∧ g ≠ Q
theorem BatchK.keep {W W' : World} {P Q B g : Nat} {bv : Value} (h : BatchK W P Q B g bv) (hs : W.heap.size ≤ W'.heap.size) (hk : ∀ b, b < W.heap.size → b ≠ P → b ≠ Q → W'.heap[b]? = W.heap[b]?) : BatchK W' P Q B g bv := by
  obtain ⟨k, k4, k5, h1, h2, h3, h4, h5, h6⟩ := h
  exact ⟨k, k4, k5, h1, h2.keep hs fun b hb ha => hk b hb (fun e => ha (.inl e)) (fun e => ha (.inr e)), (show W'.cell? ⟨g, 0, none⟩ = W.cell? ⟨g, 0, none⟩ from World.cell?_of_block (w := W) (hk g h4 h5 h6)).trans h3, Nat.lt_of_lt_of_le h4 hs, h5, h6⟩
theorem split_any (W : World) (P Q B : Nat) (cv : Value) (h : CartsK W P Q B cv) : Calls Tryz.prog 55 #[cv] W fun e w' => (∃ g c bv, e = .returned (.tuple #[.slice (some ⟨g, 0, none⟩) 1 c, .int .i64 0]) ∧ BatchK w' P Q B g bv) ∧ Below B W w' := by
  obtain ⟨k, k3, k4, k5, h2, h3, h4, hI⟩ := h
  refine (hI.call (fun E hv => hv) h2).mono ?_
  rintro e w' ⟨⟨v', rfl, hI2⟩, hb⟩
  refine ⟨?_, hb⟩
  obtain ⟨E, g1, g2, g3, g4, g5, g6, g7⟩ := hI2
  obtain ⟨l', rfl, k6⟩ := vr_tup (vr_hd g2)
  obtain ⟨a, z, rfl, k7, k8⟩ := vr_two k6
  have := vr_int k8
  subst this
  obtain ⟨g, n, c', rfl, k9, _⟩ := vr_sli k7
  obtain ⟨bv, m1, m2, m3⟩ := or_one (g1.heap 1854 _ h3) k9
  have m4 := g6 1854 _ h3 rfl g n k9
  exact ⟨g, c', bv, rfl, k, k4, k5, h4, ⟨E, g1, .cons _ _ _ _ m1 .nil, g3, g4, g5, g6, g7⟩, m2, m3, fun e => m4 (.inl e), fun e => m4 (.inr e)⟩
theorem clone_any (W : World) (P Q B g : Nat) (bv : Value) (h : BatchK W P Q B g bv) : Calls Tryz.prog 26 #[bv] W fun e w' => (∃ a c, e = .returned (.slice (some ⟨a, 0, none⟩) 19 c)) ∧ Below B W w' := by
  obtain ⟨k, k4, k5, h1, hI, _⟩ := h
  refine (hI.call (fun E hv => hv) h1).mono ?_
  rintro e w' ⟨⟨v', rfl, hI2⟩, hb⟩
  refine ⟨?_, hb⟩
  obtain ⟨E, g1, g2, _⟩ := hI2
  obtain ⟨a, n, c, rfl, _⟩ := vr_sli (vr_hd g2)
  exact ⟨a, c, rfl⟩
def Copy0K (W : World) (P Q B p : Nat) : Prop := ∃ k k3 k4 k5, drainR (Ax.St.nx k) k3 = some (drain0V, k4) ∧ deltasR k.nx k3 = some (deltasV, k5) ∧ InS k3 k.nx B (AtPQ P Q) W [copyP] [.pointer (some ⟨p, 0, none⟩)]
theorem Copy0K.keep {W W' : World} {P Q B p : Nat} (h : Copy0K W P Q B p) (hs : W.heap.size ≤ W'.heap.size) (hk : ∀ b, b < W.heap.size → b ≠ P → b ≠ Q → W'.heap[b]? = W.heap[b]?) : Copy0K W' P Q B p := by
  obtain ⟨k, k3, k4, k5, h1, h2, h3⟩ := h
  exact ⟨k, k3, k4, k5, h1, h2, h3.keep hs fun b hb ha => hk b hb (fun e => ha (.inl e)) (fun e => ha (.inr e))⟩
theorem copy0_any (W : World) (P Q B : Nat) (v0 v1 : Value) (h : NetK W P Q B v0 v1) : Calls Tryz.prog 17 #[v0] W fun e w' => (∃ p, e = .returned (.pointer (some ⟨p, 0, none⟩)) ∧ Copy0K w' P Q W.heap.size p) ∧ Below W.heap.size W w' := by
  obtain ⟨k, hk, hI⟩ := h
  obtain ⟨k3, k4, k5, h1, h2, h3⟩ := hk.b
  refine (hI.raise.call (fun E hv => vr_head hv) h1).mono ?_
  rintro e w' ⟨⟨v', rfl, hI2⟩, hb⟩
  refine ⟨?_, hb⟩
  obtain ⟨E, g1, g2, g3⟩ := hI2
  obtain ⟨p, n, rfl, _⟩ := vr_ptr (vr_hd g2)
  exact ⟨p, rfl, k, k3, k4, k5, h2, h3, E, g1, vr_head g2, g3⟩
theorem drain0_any (W : World) (P Q B p : Nat) (h : Copy0K W P Q B p) : Calls Tryz.prog 23 #[.pointer (some ⟨p, 0, none⟩), .agg ⟨drainL⟩] W fun e w' => (∃ a c, e = .returned (.tuple #[.agg #[.int .i64 10, .int .i64 0, .int .i64 1, .slice none 0 0, .slice (some ⟨a, 0, none⟩) 1 c], .int .i64 0])) ∧ Below B W w' := by
  obtain ⟨k, k3, k4, k5, h1, h2, hI⟩ := h
  refine (hI.call (k' := [.pointer (some ⟨p, 0, none⟩), .agg ⟨drainL⟩]) (fun E hv => .cons _ _ _ _ (vr_hd hv) (.cons _ _ _ _ (Ax.closed_VR (by kernel_rfl)) .nil)) h1).mono ?_
  rintro e w' ⟨⟨v', rfl, hI2⟩, hb⟩
  refine ⟨?_, hb⟩
  obtain ⟨E, g1, g2, g3⟩ := hI2
  obtain ⟨l', rfl, k6⟩ := vr_tup (vr_hd g2)
  obtain ⟨a, z, rfl, k7, k8⟩ := vr_two k6
  have := vr_int k8
  subst this
  obtain ⟨l2, rfl, k9⟩ := vr_agg k7
  cases k9 with
  | cons _ x0 _ _ e0 k9 =>
    have := vr_int e0
    subst this
    cases k9 with
    | cons _ x1 _ _ e1 k9 =>
      have := vr_int e1
      subst this
      cases k9 with
      | cons _ x2 _ _ e2 k9 =>
        have := vr_int e2
        subst this
        obtain ⟨x3, x4, rfl, e3, e4⟩ := vr_two k9
        have := vr_nils e3
        subst this
        obtain ⟨b, n, c, rfl, _⟩ := vr_sli e4
        exact ⟨b, c, rfl⟩
theorem deltas_any (W : World) (P Q B p : Nat) (h : Copy0K W P Q B p) : Calls Tryz.prog 9 #[.pointer (some ⟨p, 0, none⟩)] W fun e w' => (∃ a c, e = .returned (.slice (some ⟨a, 0, none⟩) 1 c)) ∧ Below B W w' := by
  obtain ⟨k, k3, k4, k5, h1, h2, hI⟩ := h
  refine (hI.call (fun E hv => hv) h2).mono ?_
  rintro e w' ⟨⟨v', rfl, hI2⟩, hb⟩
  refine ⟨?_, hb⟩
  obtain ⟨E, g1, g2, g3⟩ := hI2
  obtain ⟨a, n, c, rfl, _⟩ := vr_sli (vr_hd g2)
  exact ⟨a, c, rfl⟩
def Copy1K (W : World) (P Q B p : Nat) : Prop := ∃ k k3 k4, drainR (Ax.St.nx k) k3 = some (drain1V, k4) ∧ InS k3 k.nx B (AtPQ P Q) W [copyP] [.pointer (some ⟨p, 0, none⟩)]
theorem copy1_any (W : World) (P Q B : Nat) (v0 v1 : Value) (h : NetK W P Q B v0 v1) : Calls Tryz.prog 17 #[v1] W fun e w' => (∃ p, e = .returned (.pointer (some ⟨p, 0, none⟩)) ∧ Copy1K w' P Q W.heap.size p) ∧ Below W.heap.size W w' := by
  obtain ⟨k, hk, hI⟩ := h
  obtain ⟨k3, k4, h1, h2⟩ := hk.c
  refine (hI.raise.call (k' := [v1]) (fun E hv => by cases hv with | cons _ _ _ _ _ h2 => exact h2) h1).mono ?_
  rintro e w' ⟨⟨v', rfl, hI2⟩, hb⟩
  refine ⟨?_, hb⟩
  obtain ⟨E, g1, g2, g3⟩ := hI2
  obtain ⟨p, n, rfl, _⟩ := vr_ptr (vr_hd g2)
  exact ⟨p, rfl, k, k3, k4, h2, E, g1, vr_head g2, g3⟩
theorem drain1_any (W : World) (P Q B p : Nat) (h : Copy1K W P Q B p) : Calls Tryz.prog 23 #[.pointer (some ⟨p, 0, none⟩), .agg ⟨drainL⟩] W fun e w' => e = .returned (.tuple #[.agg #[.int .i64 10, .int .i64 0, .int .i64 0, .slice none 0 0, .slice none 0 0], .int .i64 0]) ∧ Below B W w' := by
  obtain ⟨k, k3, k4, h1, hI⟩ := h
  refine (hI.call (k' := [.pointer (some ⟨p, 0, none⟩), .agg ⟨drainL⟩]) (fun E hv => .cons _ _ _ _ (vr_hd hv) (.cons _ _ _ _ (Ax.closed_VR (by kernel_rfl)) .nil)) h1).mono ?_
  rintro e w' ⟨⟨v', rfl, hI2⟩, hb⟩
  refine ⟨?_, hb⟩
  obtain ⟨E, g1, g2, g3⟩ := hI2
  obtain ⟨l', rfl, k6⟩ := vr_tup (vr_hd g2)
  obtain ⟨a, z, rfl, k7, k8⟩ := vr_two k6
  have := vr_int k8
  subst this
  obtain ⟨l2, rfl, k9⟩ := vr_agg k7
  have := vr_closed (by kernel_rfl) k9
  subst this
  rfl
end Go.Proofs.YtfddpmnbbjofnaaGreatDoor
