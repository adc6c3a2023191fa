/- NetNew. -/
import Derived.Test.YthfleaogajbpfaaGreatDoorNne
import Derived.Test.YthfleaogajbpfaaGreatDoorKb
set_option linter.unusedVariables false
set_option linter.unusedSimpArgs false
namespace Go.Proofs.YthfleaogajbpfaaGreatDoor
open Go.RowKit Go.MapKept
set_option maxRecDepth 100000 in
set_option maxHeartbeats 2000000 in
theorem refnew_bad (w : World) (r s i o : Int) (h : okN r s i o = false) : Calls Tryz.prog 38 #[.agg #[.int .i64 r, .int .i64 s, .int .i64 i, .int .i64 o]] w fun e w' => e = .returned (.tuple #[.pointer none, .int .i64 2]) ∧ Below w.heap.size w w' := by
  have HR := Lib.hid (fun W => right_any W r s i o)
  rw [h] at HR
  clear h
  go_enter Tryz.func38, Tryz.ntmps38
  go_wp2_with (first | (go_at_call 6; refine (HR.out _).mono ?_; rintro e w1 ⟨rfl, hb⟩; have HB1 := Lib.hid (nbl_step (below_alloc _ _) hb); clear hb))
  go_ret2
  exact ⟨rfl, HB1.out⟩
set_option maxRecDepth 100000 in
set_option maxHeartbeats 2000000 in
theorem netNew_out (w : World) (k : Int) (hk : k < 1 ∨ 16 < k) (r s i o : Int) : Calls Tryz.prog 10 #[.int .i64 k, .agg #[.int .i64 r, .int .i64 s, .int .i64 i, .int .i64 o]] w fun e w' => e = .returned (.tuple #[.pointer none, .int .i64 2]) ∧ Below w.heap.size w w' := by
  by_cases c : k < 1
  · have d1 : decide (k < 1) = true := decide_eq_true c
    clear hk
    go_enter Tryz.func10, Tryz.ntmps10
    go_wp2_with fail
    go_ret2
    exact ⟨rfl, below_alloc _ _⟩
  · have d1 : decide (k < 1) = false := decide_eq_false c
    have d2 : decide (16 < k) = true := decide_eq_true (by omega)
    clear hk
    go_enter Tryz.func10, Tryz.ntmps10
    go_wp2_with fail
    go_ret2
    exact ⟨rfl, below_alloc _ _⟩
set_option maxRecDepth 100000 in
set_option maxHeartbeats 2000000 in
theorem netNew_conf (w : World) (k : Int) (hk1 : 1 ≤ k) (hk2 : k ≤ 16) (r s i o : Int) (h : okP s i o = false) : Calls Tryz.prog 10 #[.int .i64 k, .agg #[.int .i64 r, .int .i64 s, .int .i64 i, .int .i64 o]] w fun e w' => e = .returned (.tuple #[.pointer none, .int .i64 2]) ∧ Below w.heap.size w w' := by
  have d1 : decide (k < 1) = false := decide_eq_false (by omega)
  have d2 : decide (16 < k) = false := decide_eq_false (by omega)
  have d3 : decide (0 < k) = true := decide_eq_true (by omega)
  have HN := Lib.hid (fun W r => new_bad W r s i o (okN_not h r))
  clear h
  go_enter Tryz.func10, Tryz.ntmps10
  go_wp2_with fail
  refine wp_loop_rounds 1 ?_
  rw [rounds_succ]
  go_wp2_with (first | (go_at_call 5; refine (HN.out _ _).mono ?_; rintro e w1 ⟨rfl, hb⟩; have HB1 := Lib.hid (nbl_step (nbl_al (below_alloc w _)) hb); clear hb))
  go_ret2
  exact ⟨rfl, HB1.out⟩
set_option maxRecDepth 100000 in
set_option maxHeartbeats 2000000 in
theorem refNet_out (w : World) (k : Int) (hk : k < 1 ∨ 16 < k) (r s i o : Int) : Calls Tryz.prog 11 #[.int .i64 k, .agg #[.int .i64 r, .int .i64 s, .int .i64 i, .int .i64 o]] w fun e w' => e = .returned (.tuple #[.pointer none, .int .i64 2]) ∧ Below w.heap.size w w' := by
  by_cases c : k < 1
  · have d1 : decide (k < 1) = true := decide_eq_true c
    clear hk
    go_enter Tryz.func11, Tryz.ntmps11
    go_wp2_with fail
    go_ret2
    exact ⟨rfl, below_alloc _ _⟩
  · have d1 : decide (k < 1) = false := decide_eq_false c
    have d2 : decide (16 < k) = true := decide_eq_true (by omega)
    clear hk
    go_enter Tryz.func11, Tryz.ntmps11
    go_wp2_with fail
    go_ret2
    exact ⟨rfl, below_alloc _ _⟩
set_option maxRecDepth 100000 in
set_option maxHeartbeats 2000000 in
theorem refNet_conf (w : World) (k : Int) (hk1 : 1 ≤ k) (hk2 : k ≤ 16) (r s i o : Int) (h : okP s i o = false) : Calls Tryz.prog 11 #[.int .i64 k, .agg #[.int .i64 r, .int .i64 s, .int .i64 i, .int .i64 o]] w fun e w' => e = .returned (.tuple #[.pointer none, .int .i64 2]) ∧ Below w.heap.size w w' := by
  have d1 : decide (k < 1) = false := decide_eq_false (by omega)
  have d2 : decide (16 < k) = false := decide_eq_false (by omega)
  have d3 : decide (0 < k) = true := decide_eq_true (by omega)
  have HN := Lib.hid (fun W r => refnew_bad W r s i o (okN_not h r))
  clear h
  go_enter Tryz.func11, Tryz.ntmps11
  go_wp2_with fail
  refine wp_loop_rounds 1 ?_
  rw [rounds_succ]
  go_wp2_with (first | (go_at_call 38; refine (HN.out _ _).mono ?_; rintro e w1 ⟨rfl, hb⟩; have HB1 := Lib.hid (nbl_step (nbl_al (below_alloc w _)) hb); clear hb))
  go_ret2
  exact ⟨rfl, HB1.out⟩
set_option maxRecDepth 100000 in
set_option maxHeartbeats 2000000 in
theorem netNew_lawbad (w : World) (hE : Env w) (k r s i o : Int) (h : (k < 1 ∨ 16 < k) ∨ ((1 ≤ k ∧ k ≤ 16) ∧ okP s i o = false)) : Calls Tryz.prog 4 #[.int .i64 k, .agg #[.int .i64 r, .int .i64 s, .int .i64 i, .int .i64 o]] w fun e w' => e = .returned (.bool true) ∧ Below w.heap.size w w' := by
  have HN := Lib.hid (fun W => show Calls Tryz.prog 10 #[.int .i64 k, .agg #[.int .i64 r, .int .i64 s, .int .i64 i, .int .i64 o]] W fun e w' => e = .returned (.tuple #[.pointer none, .int .i64 2]) ∧ Below W.heap.size W w' from h.elim (fun h1 => netNew_out W k h1 r s i o) (fun h1 => netNew_conf W k h1.1.1 h1.1.2 r s i o h1.2))
  have HR := Lib.hid (fun W => show Calls Tryz.prog 11 #[.int .i64 k, .agg #[.int .i64 r, .int .i64 s, .int .i64 i, .int .i64 o]] W fun e w' => e = .returned (.tuple #[.pointer none, .int .i64 2]) ∧ Below W.heap.size W w' from h.elim (fun h1 => refNet_out W k h1 r s i o) (fun h1 => refNet_conf W k h1.1.1 h1.1.2 r s i o h1.2))
  have HK := Lib.hid known37_yes
  have HE := Lib.hid hE
  clear h hE
  go_enter Tryz.func4, Tryz.ntmps4
  go_wp2_with (first | (go_at_call 10; refine (HN.out _).mono ?_; rintro e w1 ⟨rfl, hb⟩; have HB1 := Lib.hid (nbl_step (below_alloc _ _) hb); have q0 : w1.cell? ⟨w.heap.size, 0, none⟩ = some (.int .i64 r) := cell_below hb (new_cells w _ _ 0); have q1 : w1.cell? ⟨w.heap.size, 1, none⟩ = some (.int .i64 s) := cell_below hb (new_cells w _ _ 1); have q2 : w1.cell? ⟨w.heap.size, 2, none⟩ = some (.int .i64 i) := cell_below hb (new_cells w _ _ 2); have q3 : w1.cell? ⟨w.heap.size, 3, none⟩ = some (.int .i64 o) := cell_below hb (new_cells w _ _ 3); clear hb) | (go_at_call 11; refine (HR.out _).mono ?_; rintro e w2 ⟨rfl, hb⟩; have HB2 := Lib.hid (nbl_step HB1.out hb); clear hb q0 q1 q2 q3) | (go_at_call 12; refine (HK.out _ (HE.out.below HB2.out)).mono ?_; rintro e w3 ⟨rfl, hb⟩; have HB3 := Lib.hid (nbl_step HB2.out hb); clear hb))
  go_ret
  exact ⟨rfl, HB3.out⟩
set_option maxRecDepth 100000 in
set_option maxHeartbeats 4000000 in
theorem netNew_lawgood (w : World) (hE : Env w) (K : Nat) (hK1 : 1 ≤ K) (hK2 : K ≤ 16) (r : Int) (S : Nat) (i o : Int) (h : okP S i o = true) : Calls Tryz.prog 4 #[.int .i64 (K : Int), .agg #[.int .i64 r, .int .i64 (S : Int), .int .i64 i, .int .i64 o]] w fun e w' => e = .returned (.bool true) ∧ Below w.heap.size w w' := by
  have HN : Hid (∀ W, Calls Tryz.prog 10 #[.int .i64 (K : Int), .agg #[.int .i64 r, .int .i64 (S : Int), .int .i64 i, .int .i64 o]] W fun e w' => (∃ N, e = .returned (.tuple #[.pointer (some ⟨N, 0, none⟩), .int .i64 0]) ∧ ∃ g cap ps, NA w' N g cap K ps S i o) ∧ Below W.heap.size W w') := Lib.hid fun W => (netNew_good W K hK1 hK2 r S i o h).mono fun e w' ⟨⟨N, v, ps, he, hl, hI, hN⟩, hb⟩ => ⟨⟨N, he, by
    obtain ⟨g, cap, ha⟩ := NA.of hK1 hl hI hN
    exact ⟨g, cap, ps, ha⟩⟩, hb⟩
  have HR : Hid (∀ W, Calls Tryz.prog 11 #[.int .i64 (K : Int), .agg #[.int .i64 r, .int .i64 (S : Int), .int .i64 i, .int .i64 o]] W fun e w' => (∃ N, e = .returned (.tuple #[.pointer (some ⟨N, 0, none⟩), .int .i64 0]) ∧ ∃ g cap ps, RA w' N g cap K ps S i o) ∧ Below W.heap.size W w') := Lib.hid fun W => (refNet_good W K hK1 hK2 r S i o h).mono fun e w' ⟨⟨N, v, ps, he, hl, hI, hN⟩, hb⟩ => ⟨⟨N, he, by
    obtain ⟨g, cap, ha⟩ := RA.of hK1 hl hI hN
    exact ⟨g, cap, ps, ha⟩⟩, hb⟩
  have HS := Lib.hid (fun W N g cap R gr capr ps ms => same_new W W (N := N) (g := g) (cap := cap) (R := R) (gr := gr) (capr := capr) (K := K) (ps := ps) (ms := ms) (S := S) (i := i) (o := o) hK1 hK2 h)
  have HK := Lib.hid known37_yes
  have HE := Lib.hid hE
  clear h hE
  go_enter Tryz.func4, Tryz.ntmps4
  go_wp2_with (first | (go_at_call 10; refine (HN.out _).mono ?_; rintro e w1 ⟨⟨N, rfl, hna⟩, hb⟩; have HNA := Lib.hid hna; have HB1 := Lib.hid (nbl_step (below_alloc _ _) hb); have q0 : w1.cell? ⟨w.heap.size, 0, none⟩ = some (.int .i64 r) := cell_below hb (new_cells w _ _ 0); have q1 : w1.cell? ⟨w.heap.size, 1, none⟩ = some (.int .i64 (S : Int)) := cell_below hb (new_cells w _ _ 1); have q2 : w1.cell? ⟨w.heap.size, 2, none⟩ = some (.int .i64 i) := cell_below hb (new_cells w _ _ 2); have q3 : w1.cell? ⟨w.heap.size, 3, none⟩ = some (.int .i64 o) := cell_below hb (new_cells w _ _ 3); clear hb hna) | (go_at_call 11; refine (HR.out _).mono ?_; rintro e w2 ⟨⟨R, rfl, hra⟩, hb⟩; have HRA := Lib.hid hra; have HB12 := Lib.hid hb; have HB2 := Lib.hid (nbl_step HB1.out hb); clear hb hra q0 q1 q2 q3) | (go_at_call 13; obtain ⟨g, cap, ps, hna⟩ := HNA.out; obtain ⟨gr, capr, ms, hra⟩ := HRA.out; refine (HS.out _ _ _ _ _ _ _ _ _ ⟨Below.refl _ _, hna.below HB12.out, hra, HE.out.below HB2.out⟩).mono ?_; rintro e w3 ⟨rfl, hb⟩; have HB3 := Lib.hid (nbl_step HB2.out hb); clear hb hna hra) | (go_at_call 12; refine (HK.out _ (HE.out.below HB3.out)).mono ?_; rintro e w4 ⟨rfl, hb⟩; have HB4 := Lib.hid (nbl_step HB3.out hb); clear hb))
  go_ret
  exact ⟨rfl, HB4.out⟩
theorem netNew_any (k r s i o : Int) (w : World) (hE : Env w) : Calls Tryz.prog 4 #[.int .i64 k, .agg #[.int .i64 r, .int .i64 s, .int .i64 i, .int .i64 o]] w fun e w' => e = .returned (.bool true) ∧ Below w.heap.size w w' := by
  by_cases hk : 1 ≤ k ∧ k ≤ 16
  · cases h : okP s i o
    · exact netNew_lawbad w hE k r s i o (Or.inr ⟨hk, h⟩)
    · have hs : 1 ≤ s := by
        have h' : okT s = true := by (unfold okP at h; revert h; cases okT s <;> simp)
        exact (okT_true h').1
      obtain ⟨S, rfl⟩ : ∃ S : Nat, s = (S : Int) := ⟨s.toNat, by omega⟩
      obtain ⟨K, rfl⟩ : ∃ K : Nat, k = (K : Int) := ⟨k.toNat, by omega⟩
      exact netNew_lawgood w hE K (by omega) (by omega) r S i o h
  · exact netNew_lawbad w hE k r s i o (Or.inl (by omega))
end Go.Proofs.YthfleaogajbpfaaGreatDoor
