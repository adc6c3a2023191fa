/- LoadMakes: the law. -/
import Derived.Test.YtecnchmcdbcofaaGreatDoorMkt
import Derived.Test.YtecnchmcdbcofaaGreatDoorMkl
set_option linter.unusedVariables false
set_option linter.unusedSimpArgs false
namespace Go.Proofs.YtecnchmcdbcofaaGreatDoor
open Go.RowKit Go.MapKept
set_option maxRecDepth 100000 in
set_option maxHeartbeats 1000000 in
/-- There is no source. -/
theorem loadMakes_bad (w : World) (c : LC) (few many : Int) (hE : Env w) (hq : ¬ 100 < few) (hm : ¬ (200 < many ∧ many ≤ 20000)) (hb : okB4 c = false) :
    Calls Tryz.prog 8 #[.agg c.arr, .int .u8 few, .int .i64 many] w fun e w' => e = .returned (.bool true) ∧ Below w.heap.size w w' := by
  have HNW : Hid (∀ W, Calls Tryz.prog 20 #[.agg c.arr] W fun e w' => e = .returned (.tuple #[.pointer none, .int .i64 2]) ∧ Below W.heap.size W w') := Lib.hid fun W => lnew_bad W c hb
  have HLV : Hid (∀ W, Calls Tryz.prog 19 #[.agg c.arr] W fun e w' => e = .returned (.bool false) ∧ Below W.heap.size W w') := Lib.hid fun W => by rw [← hb]; exact lvalid_any W c
  have HE := Lib.hid hE
  clear hE hb
  obtain ⟨sd, k, t, r⟩ := c
  unfold LC.arr at HNW HLV ⊢
  dsimp only at HNW HLV ⊢
  have d1 : decide ((100 : Int) < few) = false := decide_eq_false hq
  by_cases h2 : 200 < many
  · have h3 : ¬ many ≤ 20000 := fun h => hm ⟨h2, h⟩
    have d2 : decide ((200 : Int) < many) = true := decide_eq_true h2
    have d3 : decide (many ≤ 20000) = false := decide_eq_false h3
    clear hm
    go_enter Tryz.func8, Tryz.ntmps8
    go_wp2_with (first | (go_at_call 20; refine (HNW.out _).mono ?_; rintro e w1 ⟨rfl, hb1⟩; have HB1 := Lib.hid hb1; have hcf := (ConfAt.new w ⟨sd, k, t, r⟩ 57).below hb1 (by simp); have q0 := hcf.c0; have q1 := hcf.c1; have q2 := hcf.c2; have q3 := hcf.c3; dsimp only at q0 q1 q2 q3; clear hcf hb1) | (go_at_call 19; refine (HLV.out _).mono ?_; rintro e w2 ⟨rfl, hb2⟩; have HB2 := Lib.hid hb2; clear hb2) | (go_at_call 10; refine (known_yes _ (HE.out.later (nbl_step (nbl_step (below_alloc _ _) HB1.out) HB2.out))).mono ?_; rintro e w3 ⟨rfl, hb3⟩; have HB3 := Lib.hid hb3; clear hb3))
    go_ret
    exact ⟨rfl, nbl_step (nbl_step (nbl_step (below_alloc _ _) HB1.out) HB2.out) HB3.out⟩
  · have d2 : decide ((200 : Int) < many) = false := decide_eq_false h2
    clear hm
    go_enter Tryz.func8, Tryz.ntmps8
    go_wp2_with (first | (go_at_call 20; refine (HNW.out _).mono ?_; rintro e w1 ⟨rfl, hb1⟩; have HB1 := Lib.hid hb1; have hcf := (ConfAt.new w ⟨sd, k, t, r⟩ 57).below hb1 (by simp); have q0 := hcf.c0; have q1 := hcf.c1; have q2 := hcf.c2; have q3 := hcf.c3; dsimp only at q0 q1 q2 q3; clear hcf hb1) | (go_at_call 19; refine (HLV.out _).mono ?_; rintro e w2 ⟨rfl, hb2⟩; have HB2 := Lib.hid hb2; clear hb2) | (go_at_call 10; refine (known_yes _ (HE.out.later (nbl_step (nbl_step (below_alloc _ _) HB1.out) HB2.out))).mono ?_; rintro e w3 ⟨rfl, hb3⟩; have HB3 := Lib.hid hb3; clear hb3))
    go_ret
    exact ⟨rfl, nbl_step (nbl_step (nbl_step (below_alloc _ _) HB1.out) HB2.out) HB3.out⟩
end Go.Proofs.YtecnchmcdbcofaaGreatDoor
