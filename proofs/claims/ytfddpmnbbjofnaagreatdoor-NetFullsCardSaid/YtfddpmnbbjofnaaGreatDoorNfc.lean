/- The net of the examples: contracts. -/
import Derived.Test.YtfddpmnbbjofnaaGreatDoorNfb
set_option linter.unusedVariables false
set_option linter.unusedSimpArgs false
namespace Go.Proofs.YtfddpmnbbjofnaaGreatDoor
open Go.RowKit
theorem vr_one {E : Ax.Ev} {v : Value} {l' : List Value} (h : Ax.VRs E [v] l') : ∃ v', l' = [v'] ∧ Ax.VR E v v' := by
  cases h with
  | cons _ v' _ _ h1 h2 => cases h2; exact ⟨v', rfl, h1⟩
theorem vr_two {E : Ax.Ev} {a b : Value} {l' : List Value} (h : Ax.VRs E [a, b] l') : ∃ a' b', l' = [a', b'] ∧ Ax.VR E a a' ∧ Ax.VR E b b' := by
  cases h with
  | cons _ a' _ _ h1 h2 =>
    obtain ⟨b', rfl, h3⟩ := vr_one h2
    exact ⟨a', b', rfl, h1, h3⟩
theorem vr_head {E : Ax.Ev} {v v' : Value} {l l' : List Value} (h : Ax.VRs E (v :: l) (v' :: l')) : Ax.VRs E [v] [v'] := by
  cases h with
  | cons _ _ _ _ h1 h2 => exact .cons _ _ _ _ h1 .nil
theorem vr_hd {E : Ax.Ev} {v v' : Value} {l l' : List Value} (h : Ax.VRs E (v :: l) (v' :: l')) : Ax.VR E v v' := by
  cases h with
  | cons _ _ _ _ h1 h2 => exact h1
theorem vr_ptr {E : Ax.Ev} {i o : Nat} {v' : Value} (h : Ax.VR E (.pointer (some ⟨i, o, none⟩)) v') : ∃ b n, v' = .pointer (some ⟨b, o, none⟩) ∧ E.blk i = some (b, n) := by
  cases h with
  | ptr _ b n _ hb => exact ⟨b, n, rfl, hb⟩
theorem vr_sli {E : Ax.Ev} {i o es l c : Nat} {v' : Value} (h : Ax.VR E (.slice (some ⟨i, o, some es⟩) l c) v') : ∃ b n c', v' = .slice (some ⟨b, o, none⟩) l c' ∧ E.blk i = some (b, n) ∧ c ≤ c' := by
  cases h with
  | sli _ b n _ _ _ _ c' hb hc hn => exact ⟨b, n, c', rfl, hb, hc⟩
theorem vr_nils {E : Ax.Ev} {l c : Nat} {v' : Value} (h : Ax.VR E (.slice none l c) v') : v' = .slice none l c := by
  cases h; rfl
theorem vr_int {E : Ax.Ev} {k : IntKind} {n : Int} {v' : Value} (h : Ax.VR E (.int k n) v') : v' = .int k n := by
  cases h; rfl
theorem vr_bool {E : Ax.Ev} {b : Bool} {v' : Value} (h : Ax.VR E (.bool b) v') : v' = .bool b := by
  cases h; rfl
theorem vr_tup {E : Ax.Ev} {l : List Value} {v' : Value} (h : Ax.VR E (.tuple ⟨l⟩) v') : ∃ l', v' = .tuple ⟨l'⟩ ∧ Ax.VRs E l l' := by
  cases h with
  | tup _ l' hl => exact ⟨l', rfl, hl⟩
theorem vr_agg {E : Ax.Ev} {l : List Value} {v' : Value} (h : Ax.VR E (.agg ⟨l⟩) v') : ∃ l', v' = .agg ⟨l'⟩ ∧ Ax.VRs E l l' := by
  cases h with
  | agg _ l' hl => exact ⟨l', rfl, hl⟩
theorem vr_closed : ∀ {E : Ax.Ev} {l l' : List Value}, Ax.closedL l = true → Ax.VRs E l l' → l' = l
  | _, [], _, _, h => by cases h; rfl
  | E, v :: l, _, hc, h => by
    cases h with
    | cons _ v' _ l' h1 h2 =>
      simp only [Ax.closedL, Bool.and_eq_true] at hc
      rw [vr_closed hc.2 h2]
      have : v' = v := by
        have hc1 := hc.1
        cases h1 <;> first | rfl | (simp [Ax.closedS] at hc1)
      rw [this]
/-- The given net, before its first call. -/
def GivenS (B : Nat) (W : World) (P : Nat) : Prop := ∃ m s1 s2, dRun s1 = some (.bool true, s2) ∧ s2.h.get 1002 = some netO ∧ s2.h.get 1024 = some nodesO ∧ (s2.nx = 1511 ∧ ∀ x ∈ litsK m, s2.h.get x.1 = some x.2) ∧ InS s1 1000 B (fun _ => False) W [netP] [.pointer (some ⟨P, 0, none⟩)]
theorem given_any (w : World) (hE : Env w) : Calls Tryz.prog 5 #[] w fun e w' => (∃ P, e = .returned (.tuple #[.pointer (some ⟨P, 0, none⟩), .agg ⟨addL⟩]) ∧ GivenS w.heap.size w' P) ∧ Below w.heap.size w w' := by
  obtain ⟨m, hv, hs⟩ := hE
  obtain ⟨s1, s2, h1, h2, h3, h4, h5⟩ := net_known m
  have h0 : InS (st0 m) 1000 w.heap.size (fun _ => False) w [] [] := ⟨Ax.E0 w gv.ng, Ax.Inv0 (nx := 1000) hv vars0_lt gv_ng1000 hs, .nil, Nat.le_refl _, Nat.le_refl _, fun _ h => h.elim, fun _ _ _ _ _ _ _ h => h, fun j b n hj e => by
    unfold Ax.E0 at e
    simp only at e
    split at e
    · have := gv_ng1000
      omega
    · cases e⟩
  refine (h0.call (fun _ h => h) h1).mono ?_
  rintro e w' ⟨⟨v', rfl, hI⟩, hb⟩
  refine ⟨?_, hb⟩
  obtain ⟨E, g1, g2, g3⟩ := id hI
  obtain ⟨l', rfl, g4⟩ := vr_tup (vr_hd g2)
  obtain ⟨a, c, rfl, g5, g6⟩ := vr_two g4
  obtain ⟨P, n, rfl, g7⟩ := vr_ptr g5
  obtain ⟨l2, rfl, g8⟩ := vr_agg g6
  have := vr_closed (by kernel_rfl) g8
  subst this
  exact ⟨P, rfl, m, s1, s2, h2, h3, h4, h5, hI.sub fun E' hv' => by
    obtain ⟨l3, e3, k4⟩ := vr_tup (vr_hd hv')
    injection e3 with e3
    injection e3 with e3
    subst e3
    exact vr_head k4⟩
/-- The net's own two blocks, and what stands in them. -/
structure NetC (W : World) (P Q cq : Nat) (v0 v1 : Value) : Prop where
  ltP : P < W.heap.size
  ltQ : Q < W.heap.size
  ne : P ≠ Q
  c0 : W.cell? ⟨P, 0, none⟩ = some (.slice (some ⟨Q, 0, none⟩) 2 cq)
  f1 : W.frozen? ⟨P, 1, none⟩ = false
  q0 : W.cell? ⟨Q, 0, none⟩ = some v0
  q1 : W.cell? ⟨Q, 1, none⟩ = some v1
  g0 : W.frozen? ⟨Q, 0, none⟩ = false
  g1 : W.frozen? ⟨Q, 1, none⟩ = false
/-- The net's nodes. -/
def NetK (W : World) (P Q B : Nat) (v0 v1 : Value) : Prop := ∃ k, KState k ∧ InS k k.nx B (fun b => b = P ∨ b = Q) W [nodeP0, nodeP1] [v0, v1]
theorem NetK.keep {W W' : World} {P Q B : Nat} {v0 v1 : Value} (h : NetK W P Q B v0 v1) (hs : W.heap.size ≤ W'.heap.size) (hk : ∀ b, b < W.heap.size → b ≠ P → b ≠ Q → W'.heap[b]? = W.heap[b]?) : NetK W' P Q B v0 v1 := by
  obtain ⟨k, h1, h2⟩ := h
  exact ⟨k, h1, h2.keep hs fun b hb ha => hk b hb (fun e => ha (.inl e)) (fun e => ha (.inr e))⟩
theorem or_two {E : Ax.Ev} {W : World} {i P n : Nat} {a b : Value} (h : Ax.OR E W i (.cells [a, b] true)) (hP : E.blk i = some (P, n)) : ∃ a' b', Ax.VR E a a' ∧ Ax.VR E b b' ∧ W.cell? ⟨P, 0, none⟩ = some a' ∧ W.cell? ⟨P, 1, none⟩ = some b' ∧ W.frozen? ⟨P, 0, none⟩ = false ∧ W.frozen? ⟨P, 1, none⟩ = false := by
  obtain ⟨b2, n2, arr, ty, fr, h1, h2, h3, h4, h5, h6⟩ := h
  rw [hP] at h1
  injection h1 with h1
  injection h1 with h1 _
  subst h1
  obtain ⟨a', b', e, k1, k2⟩ := vr_two h6
  have hfr := h4 rfl
  subst hfr
  have hl : ∀ j, j < 2 → arr[j]? = [a', b'][j]? := fun j hj => by
    rw [← e, List.getElem?_take_of_lt (by simpa using hj)]
    simp
  refine ⟨a', b', k1, k2, ?_, ?_, ?_, ?_⟩
  · have := hl 0 (by omega)
    simp only [World.cell?, h2]
    simpa using this
  · have := hl 1 (by omega)
    simp only [World.cell?, h2]
    simpa using this
  · simp only [World.frozen?, h2]
    simp
  · simp only [World.frozen?, h2]
    simp
theorem does_first (W : World) (B P : Nat) (h : GivenS B W P) : Calls Tryz.prog 6 #[.pointer (some ⟨P, 0, none⟩), .agg ⟨opAddL⟩, .int .i64 2, .int .i64 0, .int .i64 0] W fun e w' =>
    (e = .returned (.bool true) ∧ ∃ Q cq b0 b1, NetC w' P Q cq (.pointer (some ⟨b0, 0, none⟩)) (.pointer (some ⟨b1, 0, none⟩)) ∧ w'.cell? ⟨P, 1, none⟩ = some (.slice none 0 0) ∧ NetK w' P Q w'.heap.size (.pointer (some ⟨b0, 0, none⟩)) (.pointer (some ⟨b1, 0, none⟩)) ∧ B ≤ P ∧ B ≤ Q) ∧ Below B W w' := by
  obtain ⟨m, s1, s2, h1, h2, h3, ⟨hn, hl⟩, h5⟩ := h
  refine (h5.call (k := [netP, .agg ⟨opAddL⟩, .int .i64 2, .int .i64 0, .int .i64 0]) (k' := [.pointer (some ⟨P, 0, none⟩), .agg ⟨opAddL⟩, .int .i64 2, .int .i64 0, .int .i64 0]) (fun E hv => .cons _ _ _ _ (vr_hd hv) (.cons _ _ _ _ (Ax.closed_VR (by kernel_rfl)) (.cons _ _ _ _ (.int _ _) (.cons _ _ _ _ (.int _ _) (.cons _ _ _ _ (.int _ _) .nil))))) h1).mono ?_
  rintro e w' ⟨⟨v', rfl, hI⟩, hb⟩
  refine ⟨?_, hb⟩
  have hI2 : InS s2 1000 B (fun _ => False) w' [.bool true, netP] [v', .pointer (some ⟨P, 0, none⟩)] := hI
  obtain ⟨P2, Q, hne, hP, hQ, hBP, hBQ, E, k1, k2, k3, ⟨n1, k4⟩, ⟨n2, k5⟩, hI3⟩ := hI2.give h2 rfl h3 rfl
  obtain ⟨va, vb, e1, k6, k7⟩ := vr_two k1
  injection e1 with e1 e2
  injection e2 with e2 _
  subst e1; subst e2
  have hv := vr_bool k6
  subst hv
  obtain ⟨b, n, e3, k8⟩ := vr_ptr k7
  rw [k4] at k8
  injection k8 with k8
  injection k8 with k8 _
  subst k8
  injection e3 with e3
  injection e3 with e3
  injection e3 with e3 _
  subst e3
  obtain ⟨x0, x1, m1, m2, m3, m4, m5, m6⟩ := or_two k2 k4
  obtain ⟨y0, y1, r1, r2, r3, r4, r5, r6⟩ := or_two k3 k5
  obtain ⟨bq, nq, cq, rfl, m7, _⟩ := vr_sli m1
  rw [k5] at m7
  injection m7 with m7
  injection m7 with m7 _
  subst m7
  have := vr_nils m2
  subst this
  obtain ⟨b0, j0, rfl, r7⟩ := vr_ptr r1
  obtain ⟨b1, j1, rfl, r8⟩ := vr_ptr r2
  have hlk : ∀ x ∈ litsK m, (((s2.h.set 1002 .dead).set 1024 .dead)).get x.1 = some x.2 := fun x hx => by
    have hid := List.all_eq_true.1 (lits_ids m) x hx
    simp only [Bool.and_eq_true, Bool.not_eq_true', beq_eq_false_iff_ne] at hid
    rw [Ax.Tr.get_set, if_neg hid.2, Ax.Tr.get_set, if_neg hid.1]
    exact hl x hx
  have hk : InS (kS m) (kS m).nx w'.heap.size (fun b => b = P ∨ b = Q) w' [nodeP0, nodeP1] [.pointer (some ⟨b0, 0, none⟩), .pointer (some ⟨b1, 0, none⟩)] := by
    have h0 := (hI3 _ _ (.cons _ _ _ _ r1 (.cons _ _ _ _ r2 .nil))).lits (m := m) hn hlk
    rw [hn] at h0
    exact h0
  refine ⟨rfl, Q, cq, b0, b1, ⟨hP, hQ, hne (by decide), m3, m6, r3, r4, r5, r6⟩, m4, ⟨_, kstate m, hk⟩, hBP (by decide), hBQ (by decide)⟩
end Go.Proofs.YtfddpmnbbjofnaaGreatDoor
