/- state and drain. -/
import Derived.Test.YtfddpmnbbjofnaaGreatDoorNff
set_option linter.unusedVariables false
set_option linter.unusedSimpArgs false
namespace Go.Proofs.YtfddpmnbbjofnaaGreatDoor
open Go.RowKit Go.MapKept
set_option maxRecDepth 100000 in
theorem state_ok {w1 W : World} {P Q cq b0 b1 : Nat} {k : Nat} (h : LoopS w1 W P Q cq (.pointer (some ⟨b0, 0, none⟩)) (.pointer (some ⟨b1, 0, none⟩)) k) (hk : k < 10000) {T : Nat} (hT : PkLt W P Q T) :
    Calls Tryz.prog 25 #[.pointer (some ⟨P, 0, none⟩), .int .i64 0] W fun e w' => e = .returned (.tuple #[.int .i64 1, .int .i64 0]) ∧ LoopS w1 w' P Q cq (.pointer (some ⟨b0, 0, none⟩)) (.pointer (some ⟨b1, 0, none⟩)) (k + 1) ∧ KeepFrom T W.heap.size W w' := by
  have c0 := h.net.c0
  have q0 := h.net.q0
  have HL := Lib.hid h
  have HCA := Lib.hid (carts_any W P Q w1.heap.size _ _ h.netk)
  have HK := Lib.hid hk
  have HT := Lib.hid hT
  clear h hk hT
  go_enter Tryz.func25, Tryz.ntmps25
  go_wp2_with (first | (go_at_call 56; refine HCA.out.mono ?_; rintro e wa ⟨⟨cv, rfl, hcv⟩, hb⟩; have HA := Lib.hid hb; have HCV := Lib.hid hcv; clear hb hcv) | (go_at_call 55; refine (split_any wa P Q W.heap.size cv HCV.out).mono ?_; rintro e wb ⟨⟨g, c, bv, rfl, hbk⟩, hb⟩; have HBK := Lib.hid hbk; have HLB := Lib.hid (HL.out.below (HA.out.trans hb)); have c0b := HLB.out.net.c0; have q0b := HLB.out.net.q0; have HBB := Lib.hid (HA.out.trans hb); clear hb hbk) | (go_at_call 54; refine (send_one HLB.out HL.out.keep.size HBK.out c HK.out (HT.out.below HL.out HBB.out) HT.out.le).mono ?_; rintro e wc ⟨rfl, hl, hf⟩; have HLC := Lib.hid hl; have HFC := Lib.hid hf; clear hl hf))
  go_ret2
  exact ⟨rfl, HLC.out, HFC.out.of_below HBB.out⟩
set_option maxRecDepth 100000 in
theorem state_full {w1 W : World} {P Q cq b0 b1 : Nat} (h : LoopS w1 W P Q cq (.pointer (some ⟨b0, 0, none⟩)) (.pointer (some ⟨b1, 0, none⟩)) 10000) :
    Calls Tryz.prog 25 #[.pointer (some ⟨P, 0, none⟩), .int .i64 0] W fun e w' => e = .returned (.tuple #[.int .i64 0, .int .i64 7]) ∧ Below W.heap.size W w' := by
  have c0 := h.net.c0
  have q0 := h.net.q0
  have HL := Lib.hid h
  have HCA := Lib.hid (carts_any W P Q w1.heap.size _ _ h.netk)
  clear h
  go_enter Tryz.func25, Tryz.ntmps25
  go_wp2_with (first | (go_at_call 56; refine HCA.out.mono ?_; rintro e wa ⟨⟨cv, rfl, hcv⟩, hb⟩; have HA := Lib.hid hb; have HCV := Lib.hid hcv; clear hb hcv) | (go_at_call 55; refine (split_any wa P Q W.heap.size cv HCV.out).mono ?_; rintro e wb ⟨⟨g, c, bv, rfl, hbk⟩, hb⟩; have HLB := Lib.hid (HL.out.below (HA.out.trans hb)); have c0b := HLB.out.net.c0; have q0b := HLB.out.net.q0; have HBB := Lib.hid (HA.out.trans hb); clear hb hbk) | (go_at_call 54; refine (send_full HLB.out _ _ _ 1 c (by omega) (by omega) (by omega)).mono ?_; rintro e wc ⟨rfl, hw⟩; obtain rfl := hw.symm; clear hw))
  go_ret2
  exact ⟨rfl, HBB.out⟩
set_option maxRecDepth 100000 in
theorem drain_full {w1 W : World} {P Q cq b0 b1 : Nat} (h : LoopS w1 W P Q cq (.pointer (some ⟨b0, 0, none⟩)) (.pointer (some ⟨b1, 0, none⟩)) 10000) :
    Calls Tryz.prog 24 #[.pointer (some ⟨P, 0, none⟩), .int .i64 0] W fun e w' => e = .returned (.tuple #[.int .i64 0, .int .i64 7]) ∧ Below W.heap.size W w' := by
  have c0 := h.net.c0
  have q0 := h.net.q0
  have HL := Lib.hid h
  have HCA := Lib.hid (copy0_any W P Q w1.heap.size _ _ h.netk)
  have HDR : Hid (∀ (V : World) (p : Nat), Copy0K V P Q W.heap.size p → Calls Tryz.prog 23 #[.pointer (some ⟨p, 0, none⟩), .agg #[.int .i64 10, .string ⟨#[]⟩, .string ⟨#[]⟩, .string ⟨#[]⟩, .int .i64 0, .slice none 0 0]] V fun e w' => (∃ a c, e = .returned (.tuple #[.agg #[.int .i64 10, .int .i64 0, .int .i64 1, .slice none 0 0, .slice (some ⟨a, 0, none⟩) 1 c], .int .i64 0])) ∧ Below W.heap.size V w') := Lib.hid fun V p hp => drain0_any V P Q W.heap.size p hp
  clear h
  go_enter Tryz.func24, Tryz.ntmps24
  go_wp2_with (first | (go_at_call 17; refine HCA.out.mono ?_; rintro e wa ⟨⟨p, rfl, hp⟩, hb⟩; have HA := Lib.hid hb; have HP := Lib.hid hp; clear hb hp) | (go_at_call 23; refine (HDR.out wa p HP.out).mono ?_; rintro e wb ⟨⟨a, c, rfl⟩, hb⟩; have HLB := Lib.hid ((HL.out.below (HA.out.trans hb)).below (below_alloc wb (.cells #[.int .i64 10, .int .i64 0, .int .i64 1, .slice none 0 0, .slice (some ⟨a, 0, none⟩) 1 c] 49))); have HBB := Lib.hid (nbl_step (HA.out.trans hb) (below_alloc wb (.cells #[.int .i64 10, .int .i64 0, .int .i64 1, .slice none 0 0, .slice (some ⟨a, 0, none⟩) 1 c] 49))); clear hb) | (go_at_call 54; refine (send_full HLB.out _ _ _ 1 c (by omega) (by omega) (by omega)).mono ?_; rintro e wc ⟨rfl, hw⟩; obtain rfl := hw.symm; clear hw))
  go_ret2
  exact ⟨rfl, HBB.out⟩
end Go.Proofs.YtfddpmnbbjofnaaGreatDoor
