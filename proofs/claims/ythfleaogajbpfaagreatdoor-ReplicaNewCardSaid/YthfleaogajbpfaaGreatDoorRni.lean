/- ReplicaNew. -/
import Derived.Test.YthfleaogajbpfaaGreatDoorRnh
import Derived.Test.YthfleaogajbpfaaGreatDoorKc
set_option linter.unusedVariables false
set_option linter.unusedSimpArgs false
namespace Go.Proofs.YthfleaogajbpfaaGreatDoor
open Go.RowKit Go.MapKept
set_option maxRecDepth 100000 in
set_option maxHeartbeats 2000000 in
theorem replicaNew_bad (w : World) (hE : Env w) (r s i o : Int) (h : okN r s i o = false) : Calls Tryz.prog 3 #[.agg #[.int .i64 r, .int .i64 s, .int .i64 i, .int .i64 o]] w fun e w' => e = .returned (.bool true) ∧ Below w.heap.size w w' := by
  have HN := Lib.hid (fun W => new_bad W r s i o h)
  have HR := Lib.hid (fun W => right_any W r s i o)
  have HK := Lib.hid known23_yes
  have HE := Lib.hid hE
  rw [h] at HR
  clear h hE
  go_enter Tryz.func3, Tryz.ntmps3
  go_wp2_with (first | (go_at_call 5; refine (HN.out _).mono ?_; rintro e w1 ⟨rfl, hb⟩; have HB1 := Lib.hid (nbl_step (below_alloc _ _) hb); have q0 : w1.cell? ⟨w.heap.size, 0, none⟩ = some (.int .i64 r) := cell_below hb (new_cells w _ _ 0); have q1 : w1.cell? ⟨w.heap.size, 1, none⟩ = some (.int .i64 s) := cell_below hb (new_cells w _ _ 1); have q2 : w1.cell? ⟨w.heap.size, 2, none⟩ = some (.int .i64 i) := cell_below hb (new_cells w _ _ 2); have q3 : w1.cell? ⟨w.heap.size, 3, none⟩ = some (.int .i64 o) := cell_below hb (new_cells w _ _ 3); clear hb) | (go_at_call 6; refine (HR.out _).mono ?_; rintro e w2 ⟨rfl, hb⟩; have HB2 := Lib.hid (nbl_step HB1.out hb); clear hb q0 q1 q2 q3) | (go_at_call 7; refine (HK.out _ (HE.out.below HB2.out)).mono ?_; rintro e w3 ⟨rfl, hb⟩; have HB3 := Lib.hid (nbl_step HB2.out hb); clear hb))
  go_ret
  exact ⟨rfl, HB3.out⟩
set_option maxRecDepth 100000 in
set_option maxHeartbeats 2000000 in
theorem replicaNew_good (w : World) (hE : Env w) (r : Int) (S : Nat) (i o : Int) (h : okN r S i o = true) : Calls Tryz.prog 3 #[.agg #[.int .i64 r, .int .i64 (S : Int), .int .i64 i, .int .i64 o]] w fun e w' => e = .returned (.bool true) ∧ Below w.heap.size w w' := by
  have HN := Lib.hid (fun W => new_good W r S i o h)
  have HR := Lib.hid (fun W => right_any W r S i o)
  have HF := Lib.hid (fun W => fresh_good W r S i o h)
  have HA := Lib.hid (fun W p t g d n u m tt uu => alike_new W W (p := p) (t := t) (g := g) (d := d) (n := n) (u := u) (m := m) (tt := tt) (uu := uu) (r := r) (S := S) (i := i) (o := o) h)
  have HK := Lib.hid known23_yes
  have HE := Lib.hid hE
  rw [h] at HR
  clear h hE
  go_enter Tryz.func3, Tryz.ntmps3
  go_wp2_with (first | (go_at_call 5; refine (HN.out _).mono ?_; rintro e w1 ⟨⟨p, t, g, d, n, u, rfl, hn, _⟩, hb⟩; have HNN := Lib.hid hn; have HB1 := Lib.hid (nbl_step (below_alloc _ _) hb); have q0 : w1.cell? ⟨w.heap.size, 0, none⟩ = some (.int .i64 r) := cell_below hb (new_cells w _ _ 0); have q1 : w1.cell? ⟨w.heap.size, 1, none⟩ = some (.int .i64 (S : Int)) := cell_below hb (new_cells w _ _ 1); have q2 : w1.cell? ⟨w.heap.size, 2, none⟩ = some (.int .i64 i) := cell_below hb (new_cells w _ _ 2); have q3 : w1.cell? ⟨w.heap.size, 3, none⟩ = some (.int .i64 o) := cell_below hb (new_cells w _ _ 3); clear hb hn) | (go_at_call 6; refine (HR.out _).mono ?_; rintro e w2 ⟨rfl, hb⟩; have HB2 := Lib.hid (nbl_step HB1.out hb); have HNN2 := Lib.hid (HNN.out.below hb); have q20 := cell_below hb q0; have q21 := cell_below hb q1; have q22 := cell_below hb q2; have q23 := cell_below hb q3; clear hb q0 q1 q2 q3) | (go_at_call 9; refine (HF.out _).mono ?_; rintro e w3 ⟨⟨m, tt, uu, rfl, hm⟩, hb⟩; have HMM := Lib.hid hm; have HB3 := Lib.hid (nbl_step HB2.out hb); have HNN3 := Lib.hid (HNN2.out.below hb); clear hb hm q20 q21 q22 q23) | (go_at_call 8; refine (HA.out _ _ _ _ _ _ _ _ _ _ ⟨Below.refl _ _, HNN3.out, HMM.out, HE.out.below HB3.out⟩).mono ?_; rintro e w4 ⟨rfl, hb⟩; have HB4 := Lib.hid (nbl_step HB3.out hb); clear hb) | (go_at_call 7; refine (HK.out _ (HE.out.below HB4.out)).mono ?_; rintro e w5 ⟨rfl, hb⟩; have HB5 := Lib.hid (nbl_step HB4.out hb); clear hb))
  go_ret
  exact ⟨rfl, HB5.out⟩
theorem replicaNew_any (r s i o : Int) (w : World) (hE : Env w) : Calls Tryz.prog 3 #[.agg #[.int .i64 r, .int .i64 s, .int .i64 i, .int .i64 o]] w fun e w' => e = .returned (.bool true) ∧ Below w.heap.size w w' := by
  cases h : okN r s i o
  · exact replicaNew_bad w hE r s i o h
  · have hs : 1 ≤ s := by
      have h' : okT s = true := by (unfold okN at h; revert h; cases okT s <;> simp)
      exact (okT_true h').1
    obtain ⟨S, rfl⟩ : ∃ S : Nat, s = (S : Int) := ⟨s.toNat, by omega⟩
    exact replicaNew_good w hE r S i o h
end Go.Proofs.YthfleaogajbpfaaGreatDoor
