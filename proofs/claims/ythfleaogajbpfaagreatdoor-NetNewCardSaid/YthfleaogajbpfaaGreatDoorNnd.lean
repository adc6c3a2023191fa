/- The methods of new nets. -/
import Derived.Test.YthfleaogajbpfaaGreatDoorNnc
import Derived.Test.YthfleaogajbpfaaGreatDoorRng
set_option linter.unusedVariables false
set_option linter.unusedSimpArgs false
namespace Go.Proofs.YthfleaogajbpfaaGreatDoor
open Go.RowKit Go.MapKept
/-- A new net at N: its nodes' list at g. -/
structure NA (W : World) (N g cap K : Nat) (ps : List Nat) (S : Nat) (i o : Int) : Prop where
  n0 : W.cell? ⟨N, 0, none⟩ = some (.slice (some ⟨g, 0, none⟩) K cap)
  n1 : W.cell? ⟨N, 1, none⟩ = some (.slice none 0 0)
  len : ps.length = K
  at_ : ∀ (j p : Nat), ps[j]? = some p → W.cell? ⟨g, j, none⟩ = some (.pointer (some ⟨p, 0, none⟩))
  nd : ∀ (j p : Nat), ps[j]? = some p → ∃ t g d n u, NodeNew W p t g d n u ((j : Int) + 1) S i o
theorem NA.below {W W' : World} {N g cap K : Nat} {ps : List Nat} {S : Nat} {i o : Int} (h : NA W N g cap K ps S i o) (hb : Below W.heap.size W W') : NA W' N g cap K ps S i o :=
  ⟨cell_below hb h.n0, cell_below hb h.n1, h.len, fun j p hj => cell_below hb (h.at_ j p hj), fun j p hj => by
    obtain ⟨t, g, d, n, u, hn⟩ := h.nd j p hj
    exact ⟨t, g, d, n, u, hn.below hb⟩⟩
/-- A new net of the reference at R: its nodes' list at g. -/
structure RA (W : World) (R g cap K : Nat) (ms : List Nat) (S : Nat) (i o : Int) : Prop where
  n0 : W.cell? ⟨R, 0, none⟩ = some (.slice (some ⟨g, 0, none⟩) K cap)
  n1 : W.cell? ⟨R, 1, none⟩ = some (.slice none 0 0)
  n2 : W.cell? ⟨R, 2, none⟩ = some (.slice none 0 0)
  len : ms.length = K
  at_ : ∀ (j p : Nat), ms[j]? = some p → W.cell? ⟨g, j, none⟩ = some (.pointer (some ⟨p, 0, none⟩))
  nd : ∀ (j p : Nat), ms[j]? = some p → ∃ tt u, RefNew W p tt u ((j : Int) + 1) S i o
theorem RA.below {W W' : World} {R g cap K : Nat} {ms : List Nat} {S : Nat} {i o : Int} (h : RA W R g cap K ms S i o) (hb : Below W.heap.size W W') : RA W' R g cap K ms S i o :=
  ⟨cell_below hb h.n0, cell_below hb h.n1, cell_below hb h.n2, h.len, fun j p hj => cell_below hb (h.at_ j p hj), fun j p hj => by
    obtain ⟨tt, u, hn⟩ := h.nd j p hj
    exact ⟨tt, u, hn.below hb⟩⟩
theorem own_cells {W : World} {B e K : Nat} {v : Value} {ps : List Nat} (hK : 1 ≤ K) (hl : ps.length = K) (h : W.ownsRow B e 1 v ps.length (ps.map ptrV)) : ∃ g cap, v = .slice (some ⟨g, 0, none⟩) K cap ∧ ∀ (j p : Nat), ps[j]? = some p → W.cell? ⟨g, j, none⟩ = some (.pointer (some ⟨p, 0, none⟩)) := by
  rcases h.2 with ⟨_, h0⟩ | ⟨g, cap, cur, rfl, _, hb, _, _, _, ht⟩
  · omega
  · refine ⟨g, cap, by rw [hl], fun j p hj => ?_⟩
    have hlt := (List.getElem?_eq_some_iff.1 hj).1
    have h1 : (ps.map ptrV)[j]? = some (ptrV p) := by rw [List.getElem?_map, hj]; rfl
    rw [← ht, List.getElem?_take_of_lt (by omega), Array.getElem?_toList] at h1
    exact (cell_at hb).trans h1
theorem NA.of {W : World} {B N K : Nat} {v : Value} {ps : List Nat} {S : Nat} {i o : Int} (hK : 1 ≤ K) (hl : ps.length = K) (h : NetI (nodeQ S i o) W B 24 v ps) (hN : W.heap[N]? = some (.cells #[v, .slice none 0 0] 104 (0, 0))) : ∃ g cap, NA W N g cap K ps S i o := by
  obtain ⟨g, cap, rfl, hc⟩ := own_cells hK hl h.own
  exact ⟨g, cap, cell_at hN, cell_at hN, hl, hc, fun j p hj => (h.held j p hj).now⟩
theorem RA.of {W : World} {B N K : Nat} {v : Value} {ps : List Nat} {S : Nat} {i o : Int} (hK : 1 ≤ K) (hl : ps.length = K) (h : NetI (refQ S i o) W B 31 v ps) (hN : W.heap[N]? = some (.cells #[v, .slice none 0 0, .slice none 0 0] 107 (0, 0))) : ∃ g cap, RA W N g cap K ps S i o := by
  obtain ⟨g, cap, rfl, hc⟩ := own_cells hK hl h.own
  exact ⟨g, cap, cell_at hN, cell_at hN, cell_at hN, hl, hc, fun j p hj => (h.held j p hj).now⟩
set_option maxRecDepth 100000 in
set_option maxHeartbeats 1000000 in
theorem zero_na {W : World} {N g cap K : Nat} {ps : List Nat} {S : Nat} {i o : Int} (hK : 1 ≤ K) (hK2 : K ≤ 16) (h : NA W N g cap K ps S i o) : Calls Tryz.prog 85 #[.pointer (some ⟨N, 0, none⟩)] W fun e w' => e = .returned (.bool false) ∧ w' = W := by
  have n0 := h.n0
  have n1 := h.n1
  have k1 : ((K : Int) == 0) = false := by simpa using (show ¬ (K : Int) = 0 by omega)
  have k2 : decide ((K : Int) = 0) = false := decide_eq_false (by omega)
  clear h
  go_enter Tryz.func85, Tryz.ntmps85
  go_wp2_with fail
  go_ret
  exact ⟨rfl, rfl⟩
set_option maxRecDepth 100000 in
set_option maxHeartbeats 1000000 in
theorem has_na {W : World} {N g cap K : Nat} {ps : List Nat} {S : Nat} {i o : Int} (hK : 1 ≤ K) (hK2 : K ≤ 16) (h : NA W N g cap K ps S i o) (q : Int) : Calls Tryz.prog 87 #[.pointer (some ⟨N, 0, none⟩), .int .i64 q] W fun e w' => e = .returned (.bool false) ∧ w' = W := by
  have n1 := h.n1
  clear h
  by_cases hq : 0 ≤ q
  · have d1 : decide (0 ≤ q) = true := decide_eq_true hq
    have d2 : decide (q < 0) = false := decide_eq_false (by omega)
    go_enter Tryz.func87, Tryz.ntmps87
    go_wp2_with fail
    go_ret
    exact ⟨rfl, rfl⟩
  · have d1 : decide (0 ≤ q) = false := decide_eq_false hq
    go_enter Tryz.func87, Tryz.ntmps87
    go_wp2_with fail
    go_ret
    exact ⟨rfl, rfl⟩
set_option maxRecDepth 100000 in
set_option maxHeartbeats 1000000 in
theorem wrong_na {W : World} {N g cap K : Nat} {ps : List Nat} {S : Nat} {i o : Int} (hK : 1 ≤ K) (hK2 : K ≤ 16) (h : NA W N g cap K ps S i o) (q : Int) : Calls Tryz.prog 86 #[.pointer (some ⟨N, 0, none⟩), .int .i64 q] W fun e w' => e = .returned (.int .i64 3) ∧ w' = W := by
  have HZ := Lib.hid (zero_na hK hK2 h)
  have HA := Lib.hid (has_na hK hK2 h q)
  have n0 := h.n0
  have n1 := h.n1
  have k1 : ((K : Int) == 0) = false := by simpa using (show ¬ (K : Int) = 0 by omega)
  have k2 : decide ((K : Int) = 0) = false := decide_eq_false (by omega)
  clear h
  go_enter Tryz.func86, Tryz.ntmps86
  go_wp2_with (first | (go_at_call 85; refine HZ.out.mono ?_; rintro e w0 ⟨rfl, hw0⟩; subst w0) | (go_at_call 87; refine HA.out.mono ?_; rintro e w0 ⟨rfl, hw0⟩; subst w0))
  go_ret
  exact ⟨rfl, rfl⟩
set_option maxRecDepth 100000 in
set_option maxHeartbeats 1000000 in
theorem packets_na {W : World} {N g cap K : Nat} {ps : List Nat} {S : Nat} {i o : Int} (hK : 1 ≤ K) (hK2 : K ≤ 16) (h : NA W N g cap K ps S i o) : Calls Tryz.prog 44 #[.pointer (some ⟨N, 0, none⟩)] W fun e w' => e = .returned (.int .i64 0) ∧ w' = W := by
  have HZ := Lib.hid (zero_na hK hK2 h)
  have n0 := h.n0
  have n1 := h.n1
  have k1 : ((K : Int) == 0) = false := by simpa using (show ¬ (K : Int) = 0 by omega)
  have k2 : decide ((K : Int) = 0) = false := decide_eq_false (by omega)
  clear h
  go_enter Tryz.func44, Tryz.ntmps44
  go_wp2_with (first | (go_at_call 85; refine HZ.out.mono ?_; rintro e w0 ⟨rfl, hw0⟩; subst w0))
  go_ret
  exact ⟨rfl, rfl⟩
set_option maxRecDepth 100000 in
set_option maxHeartbeats 1000000 in
theorem nodes_na {W : World} {N g cap K : Nat} {ps : List Nat} {S : Nat} {i o : Int} (hK : 1 ≤ K) (hK2 : K ≤ 16) (h : NA W N g cap K ps S i o) : Calls Tryz.prog 47 #[.pointer (some ⟨N, 0, none⟩)] W fun e w' => e = .returned (.int .i64 (K : Int)) ∧ w' = W := by
  have HZ := Lib.hid (zero_na hK hK2 h)
  have n0 := h.n0
  have n1 := h.n1
  have k1 : ((K : Int) == 0) = false := by simpa using (show ¬ (K : Int) = 0 by omega)
  have k2 : decide ((K : Int) = 0) = false := decide_eq_false (by omega)
  clear h
  go_enter Tryz.func47, Tryz.ntmps47
  go_wp2_with (first | (go_at_call 85; refine HZ.out.mono ?_; rintro e w0 ⟨rfl, hw0⟩; subst w0))
  go_ret
  exact ⟨rfl, rfl⟩
set_option maxRecDepth 100000 in
set_option maxHeartbeats 1000000 in
theorem packet_na {W : World} {N g cap K : Nat} {ps : List Nat} {S : Nat} {i o : Int} (hK : 1 ≤ K) (hK2 : K ≤ 16) (h : NA W N g cap K ps S i o) (q : Int) : Calls Tryz.prog 49 #[.pointer (some ⟨N, 0, none⟩), .int .i64 q] W fun e w' => e = .returned (.tuple #[.slice none 0 0, .int .i64 3]) ∧ w' = W := by
  have HW := Lib.hid (wrong_na hK hK2 h q)
  have n0 := h.n0
  have n1 := h.n1
  have k1 : ((K : Int) == 0) = false := by simpa using (show ¬ (K : Int) = 0 by omega)
  have k2 : decide ((K : Int) = 0) = false := decide_eq_false (by omega)
  clear h
  go_enter Tryz.func49, Tryz.ntmps49
  go_wp2_with (first | (go_at_call 86; refine HW.out.mono ?_; rintro e w0 ⟨rfl, hw0⟩; subst w0))
  go_ret2
  exact ⟨rfl, rfl⟩
set_option maxRecDepth 100000 in
set_option maxHeartbeats 1000000 in
theorem from_na {W : World} {N g cap K : Nat} {ps : List Nat} {S : Nat} {i o : Int} (hK : 1 ≤ K) (hK2 : K ≤ 16) (h : NA W N g cap K ps S i o) (q : Int) : Calls Tryz.prog 45 #[.pointer (some ⟨N, 0, none⟩), .int .i64 q] W fun e w' => e = .returned (.tuple #[.int .i64 0, .int .i64 3]) ∧ w' = W := by
  have HW := Lib.hid (wrong_na hK hK2 h q)
  have n0 := h.n0
  have n1 := h.n1
  have k1 : ((K : Int) == 0) = false := by simpa using (show ¬ (K : Int) = 0 by omega)
  have k2 : decide ((K : Int) = 0) = false := decide_eq_false (by omega)
  clear h
  go_enter Tryz.func45, Tryz.ntmps45
  go_wp2_with (first | (go_at_call 86; refine HW.out.mono ?_; rintro e w0 ⟨rfl, hw0⟩; subst w0))
  go_ret2
  exact ⟨rfl, rfl⟩
set_option maxRecDepth 100000 in
set_option maxHeartbeats 1000000 in
theorem node_none {W : World} {N g cap K : Nat} {ps : List Nat} {S : Nat} {i o : Int} (hK : 1 ≤ K) (hK2 : K ≤ 16) (h : NA W N g cap K ps S i o) (q : Int) (hq : q < 0 ∨ (K : Int) ≤ q) : Calls Tryz.prog 48 #[.pointer (some ⟨N, 0, none⟩), .int .i64 q] W fun e w' => e = .returned (.pointer none) ∧ Below W.heap.size W w' := by
  have HZ := Lib.hid (fun V (hb : Below W.heap.size W V) => zero_na hK hK2 (h.below hb))
  have n0 := h.n0
  clear h
  by_cases hq0 : q < 0
  · have d1 : decide (q < 0) = true := decide_eq_true hq0
    clear hq
    go_enter Tryz.func48, Tryz.ntmps48
    go_wp2_with (first | (go_at_call 85; refine (HZ.out _ (Below.refl _ _)).mono ?_; rintro e w0 ⟨rfl, hw0⟩; subst w0))
    go_ret
    exact ⟨rfl, Below.refl _ _⟩
  · have d1 : decide (q < 0) = false := decide_eq_false hq0
    have d2 : decide ((K : Int) ≤ q) = true := decide_eq_true (by omega)
    clear hq
    go_enter Tryz.func48, Tryz.ntmps48
    go_wp2_with (first | (go_at_call 85; refine (HZ.out _ (Below.refl _ _)).mono ?_; rintro e w0 ⟨rfl, hw0⟩; subst w0))
    go_ret
    exact ⟨rfl, Below.refl _ _⟩
set_option maxRecDepth 100000 in
set_option maxHeartbeats 1000000 in
theorem node_some {W : World} {N g cap K : Nat} {ps : List Nat} {S : Nat} {i o : Int} (hK : 1 ≤ K) (hK2 : K ≤ 16) (h : NA W N g cap K ps S i o) (hP : okP S i o = true) (q : Nat) (hq : q < K) : Calls Tryz.prog 48 #[.pointer (some ⟨N, 0, none⟩), .int .i64 (q : Int)] W fun e w' => (∃ X t g d n u, e = .returned (.pointer (some ⟨X, 0, none⟩)) ∧ NodeNew w' X t g d n u ((q : Int) + 1) S i o) ∧ Below W.heap.size W w' := by
  have HZ := Lib.hid (fun V (hb : Below W.heap.size W V) => zero_na hK hK2 (h.below hb))
  obtain ⟨p, hp⟩ : ∃ p, ps[q]? = some p := ⟨_, List.getElem?_eq_getElem (by rw [h.len]; exact hq)⟩
  have HC : Hid (∀ V, Below W.heap.size W V → Calls Tryz.prog 92 #[.pointer (some ⟨p, 0, none⟩)] V fun e w' => (∃ X t g d n u, e = .returned (.pointer (some ⟨X, 0, none⟩)) ∧ NodeNew w' X t g d n u ((q : Int) + 1) S i o) ∧ Below V.heap.size V w') := Lib.hid fun V hb => by
    obtain ⟨t, g, d, n, u, hn⟩ := h.nd q p hp
    exact ncopy_new (hn.below hb) (okN_at hP (by omega))
  have n0 := h.n0
  have np := h.at_ q p hp
  have d1 : decide ((q : Int) < 0) = false := decide_eq_false (by omega)
  have d2 : decide ((K : Int) ≤ (q : Int)) = false := decide_eq_false (by omega)
  have b1 : (0 : Int) ≤ (q : Int) := by omega
  have b2 : (q : Int) < (K : Int) := by omega
  clear h hp
  go_enter Tryz.func48, Tryz.ntmps48
  go_wp2_with (first | (go_at_call 85; refine (HZ.out _ (Below.refl _ _)).mono ?_; rintro e w0 ⟨rfl, hw0⟩; subst w0) | (go_at_call 92; refine (HC.out _ (Below.refl _ _)).mono ?_; rintro e w1 ⟨⟨X, t, g', d, n, u, rfl, hn⟩, hb⟩; have HX := Lib.hid hn; have HB := Lib.hid hb; clear hn hb))
  go_ret
  exact ⟨⟨_, _, _, _, _, _, rfl, HX.out⟩, HB.out⟩
theorem rconf_load {w : World} {m tt u : Nat} {r : Int} {S : Nat} {i o : Int} (h : RefNew w m tt u r S i o) : (Instr.loadAt 23 (.pointer (some ⟨m, 0, none⟩))).run Tryz.prog w = .ok (.agg #[.int .i64 r, .int .i64 (S : Int), .int .i64 i, .int .i64 o]) w :=
  run_loadAt_mid w m 0 23 [.int .i64 r, .int .i64 (S : Int), .int .i64 i, .int .i64 o] _ (fun j v hj => by
    match j with
    | 0 => injection hj with hj; subst hj; exact h.c0
    | 1 => injection hj with hj; subst hj; exact h.c1
    | 2 => injection hj with hj; subst hj; exact h.c2
    | 3 => injection hj with hj; subst hj; exact h.c3
    | k + 4 => simp at hj) Tryz.underlying23 rfl (by kernel_rfl)
set_option maxRecDepth 100000 in
set_option maxHeartbeats 1000000 in
theorem rconfig_new {w : World} {m tt u : Nat} {r : Int} {S : Nat} {i o : Int} (h : RefNew w m tt u r S i o) : Calls Tryz.prog 50 #[.pointer (some ⟨m, 0, none⟩)] w fun e w' => e = .returned (.agg #[.int .i64 r, .int .i64 (S : Int), .int .i64 i, .int .i64 o]) ∧ Below w.heap.size w w' := by
  have q0 := cell_below (below_alloc w (.cells #[.int .i64 0, .int .i64 0, .int .i64 0, .int .i64 0] 23)) h.c0
  have q1 := cell_below (below_alloc w (.cells #[.int .i64 0, .int .i64 0, .int .i64 0, .int .i64 0] 23)) h.c1
  have q2 := cell_below (below_alloc w (.cells #[.int .i64 0, .int .i64 0, .int .i64 0, .int .i64 0] 23)) h.c2
  have q3 := cell_below (below_alloc w (.cells #[.int .i64 0, .int .i64 0, .int .i64 0, .int .i64 0] 23)) h.c3
  have c0 := h.c0
  have c1 := h.c1
  have c2 := h.c2
  have c3 := h.c3
  clear h
  go_enter Tryz.func50, Tryz.ntmps50
  go_wp2_with fail
  refine bodyPost_ret (v := .agg #[.int .i64 r, .int .i64 (S : Int), .int .i64 i, .int .i64 o]) ?_ rfl ⟨rfl, ?_⟩
  · rw [results_cell1 rfl]
    simp [go_sem]
  · exact nbl_al (Below.refl _ _)
set_option maxRecDepth 100000 in
theorem rcarts_new {w : World} {m tt u : Nat} {r : Int} {S : Nat} {i o : Int} (h : RefNew w m tt u r S i o) : Calls Tryz.prog 51 #[.pointer (some ⟨m, 0, none⟩)] w fun e w' => e = .returned (.slice none 0 0) ∧ w' = w := by
  have c4 := h.c4
  have HT := Lib.hid (tallr_nil w tt h.t0)
  clear h
  go_enter Tryz.func51, Tryz.ntmps51
  go_wp2_with (first | (go_at_call 33; refine HT.out.mono ?_; rintro e w0 ⟨rfl, hw0⟩; subst w0))
  go_ret
  exact ⟨rfl, rfl⟩
set_option maxRecDepth 100000 in
theorem rinbox_new {w : World} {m tt u : Nat} {r : Int} {S : Nat} {i o : Int} (h : RefNew w m tt u r S i o) : Calls Tryz.prog 52 #[.pointer (some ⟨m, 0, none⟩)] w fun e w' => e = .returned (.slice none 0 0) ∧ w' = w := by
  have c6 := h.c6
  clear h
  go_enter Tryz.func52, Tryz.ntmps52
  go_wp2_with fail
  go_ret
  exact ⟨rfl, rfl⟩
set_option maxRecDepth 100000 in
theorem rlast_new {w : World} {m tt u : Nat} {r : Int} {S : Nat} {i o : Int} (h : RefNew w m tt u r S i o) : Calls Tryz.prog 53 #[.pointer (some ⟨m, 0, none⟩)] w fun e w' => e = .returned (.int .i64 0) ∧ w' = w := by
  have c5 := h.c5
  clear h
  go_enter Tryz.func53, Tryz.ntmps53
  go_wp2_with fail
  go_ret
  exact ⟨rfl, rfl⟩
set_option maxRecDepth 100000 in
theorem rclosed_new {w : World} {m tt u : Nat} {r : Int} {S : Nat} {i o : Int} (h : RefNew w m tt u r S i o) : Calls Tryz.prog 54 #[.pointer (some ⟨m, 0, none⟩)] w fun e w' => e = .returned (.bool false) ∧ w' = w := by
  have c8 := h.c8
  clear h
  go_enter Tryz.func54, Tryz.ntmps54
  go_wp2_with fail
  go_ret
  exact ⟨rfl, rfl⟩
end Go.Proofs.YthfleaogajbpfaaGreatDoor
