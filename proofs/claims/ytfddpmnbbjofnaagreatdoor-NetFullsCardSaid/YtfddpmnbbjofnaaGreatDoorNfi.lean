/- drain of the node that has nothing; the copy of a node. -/
import Derived.Test.YtfddpmnbbjofnaaGreatDoorNfg
set_option linter.unusedVariables false
set_option linter.unusedSimpArgs false
namespace Go.Proofs.YtfddpmnbbjofnaaGreatDoor
open Go.RowKit Go.MapKept
set_option maxRecDepth 100000 in
theorem send_zero {w1 W : World} {P Q cq k : Nat} {v0 v1 : Value} (h : LoopS w1 W P Q cq v0 v1 k) (hk : k ≤ 10000) (n : Nat) :
    Calls Tryz.prog 54 #[.pointer (some ⟨P, 0, none⟩), .int .i64 1, .pointer (some ⟨n, 0, none⟩), .slice none 0 0] W fun e w' => e = .returned (.tuple #[.int .i64 0, .int .i64 0]) ∧ w' = W.setCell ⟨Q, 1, none⟩ (.pointer (some ⟨n, 0, none⟩)) := by
  obtain ⟨pv, xs, c1, hown⟩ := h.pk
  obtain ⟨A1, cap1, rfl⟩ := own_slice hown
  have d1 : decide ((10000 : Int) < (k : Int)) = false := decide_eq_false (by omega)
  have c0 := h.net.c0
  have q1 := h.net.q1
  have g1 := h.net.g1
  clear hown h
  go_enter Tryz.func54, Tryz.ntmps54
  go_wp2_with fail
  generalize hW2 : W.setCell ⟨Q, 1, none⟩ (.pointer (some ⟨n, 0, none⟩)) = W2 at *
  go_loopg [30] 0 (fun gf u wx => u = .int .i64 0 ∧ wx = W2)
  case atStart => exact ⟨rfl, rfl⟩
  case round =>
    obtain ⟨rfl, hw⟩ := hrel
    subst hw
    go_wp2_with fail
    go_ret2
    exact ⟨rfl, hW2.symm⟩
set_option maxRecDepth 100000 in
theorem drain_one {w1 W : World} {P Q cq b0 b1 k : Nat} (h : LoopS w1 W P Q cq (.pointer (some ⟨b0, 0, none⟩)) (.pointer (some ⟨b1, 0, none⟩)) k) (hk : k ≤ 10000) :
    Calls Tryz.prog 24 #[.pointer (some ⟨P, 0, none⟩), .int .i64 1] W fun e w' => e = .returned (.tuple #[.int .i64 0, .int .i64 0]) ∧ ∃ a v, Below W.heap.size W a ∧ w' = a.setCell ⟨Q, 1, none⟩ v := by
  have c0 := h.net.c0
  have q1 := h.net.q1
  have HL := Lib.hid h
  have HK := Lib.hid hk
  have HCA := Lib.hid (copy1_any W P Q w1.heap.size _ _ h.netk)
  have HDR : Hid (∀ (V : World) (p : Nat), Copy1K V P Q W.heap.size p → Calls Tryz.prog 23 #[.pointer (some ⟨p, 0, none⟩), .agg #[.int .i64 10, .string ⟨#[]⟩, .string ⟨#[]⟩, .string ⟨#[]⟩, .int .i64 0, .slice none 0 0]] V fun e w' => e = .returned (.tuple #[.agg #[.int .i64 10, .int .i64 0, .int .i64 0, .slice none 0 0, .slice none 0 0], .int .i64 0]) ∧ Below W.heap.size V w') := Lib.hid fun V p hp => drain1_any V P Q W.heap.size p hp
  clear h hk
  go_enter Tryz.func24, Tryz.ntmps24
  go_wp2_with (first | (go_at_call 17; refine HCA.out.mono ?_; rintro e wa ⟨⟨p, rfl, hp⟩, hb⟩; have HA := Lib.hid hb; have HP := Lib.hid hp; clear hb hp) | (go_at_call 23; refine (HDR.out wa p HP.out).mono ?_; rintro e wb ⟨rfl, hb⟩; have HBB := Lib.hid (nbl_step (HA.out.trans hb) (below_alloc wb (.cells #[.int .i64 10, .int .i64 0, .int .i64 0, .slice none 0 0, .slice none 0 0] 49))); have HLB := Lib.hid (HL.out.below HBB.out); clear hb) | (go_at_call 54; refine (send_zero HLB.out HK.out p).mono ?_; rintro e wc ⟨rfl, hw⟩; have HWC := Lib.hid hw; clear hw))
  go_ret2
  exact ⟨rfl, _, _, HBB.out, HWC.out⟩
set_option maxRecDepth 100000 in
theorem node_zero {w1 W : World} {P Q cq b0 b1 k : Nat} (h : LoopS w1 W P Q cq (.pointer (some ⟨b0, 0, none⟩)) (.pointer (some ⟨b1, 0, none⟩)) k) :
    Calls Tryz.prog 8 #[.pointer (some ⟨P, 0, none⟩), .int .i64 0] W fun e w' => (∃ p, e = .returned (.pointer (some ⟨p, 0, none⟩)) ∧ Copy0K w' P Q W.heap.size p) ∧ Below W.heap.size W w' := by
  have c0 := h.net.c0
  have q0 := h.net.q0
  have HZ := Lib.hid (zero_any h)
  have HCA := Lib.hid (copy0_any W P Q w1.heap.size _ _ h.netk)
  clear h
  go_enter Tryz.func8, Tryz.ntmps8
  go_wp2_with (first | (go_at_call 16; refine HZ.out.mono ?_; rintro e w2 ⟨rfl, hw⟩; obtain rfl := hw.symm; clear hw) | (go_at_call 17; refine HCA.out.mono ?_; rintro e wa ⟨⟨p, rfl, hp⟩, hb⟩; have HA := Lib.hid hb; have HP := Lib.hid hp; clear hb hp))
  go_ret
  exact ⟨⟨_, rfl, HP.out⟩, HA.out⟩
end Go.Proofs.YtfddpmnbbjofnaaGreatDoor
