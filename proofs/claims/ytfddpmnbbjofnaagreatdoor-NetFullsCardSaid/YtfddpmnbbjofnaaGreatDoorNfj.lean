/- NetFulls: the walk. -/
import Derived.Test.YtfddpmnbbjofnaaGreatDoorNfh
import Derived.Test.YtfddpmnbbjofnaaGreatDoorKb
set_option linter.unusedVariables false
set_option linter.unusedSimpArgs false
namespace Go.Proofs.YtfddpmnbbjofnaaGreatDoor
open Go.RowKit Go.MapKept
theorem Env.below {w w' : World} (h : Env w) (hb : Below w.heap.size w w') : Env w' := by
  obtain ⟨m, hv, hs⟩ := h
  refine ⟨m, fun p hp => ?_, Nat.le_trans hs hb.size⟩
  obtain ⟨h1, arr, ty, fr, rest, h2, h3⟩ := hv p hp
  exact ⟨h1, arr, ty, fr, rest, (hb.block p.1 (Array.getElem?_eq_some_iff.1 h2).1).trans h2, h3⟩
theorem GivenS.below {B : Nat} {W W' : World} {P : Nat} (h : GivenS B W P) (hb : Below W.heap.size W W') : GivenS B W' P := by
  obtain ⟨m, s1, s2, h1, h2, h3, h4, h5⟩ := h
  exact ⟨m, s1, s2, h1, h2, h3, h4, h5.below hb⟩
theorem Copy0K.below {W W' : World} {P Q B p : Nat} (h : Copy0K W P Q B p) (hb : Below W.heap.size W W') : Copy0K W' P Q B p := h.keep hb.size fun b hl _ _ => hb.block b hl
theorem KeepPQ.mono {P Q B C : Nat} {a b : World} (h : KeepPQ P Q C a b) (hB : B ≤ C) : KeepPQ P Q B a b := ⟨h.os, h.tape, h.output, h.size, fun k hk => h.block k (Nat.lt_of_lt_of_le hk hB)⟩
set_option maxRecDepth 100000 in
set_option maxHeartbeats 1000000 in
theorem does_gen (W : World) (P : Nat) (kd nd n e : Int) (Post : World → Prop)
    (hD : Calls Tryz.prog 14 #[.pointer (some ⟨P, 0, none⟩), .agg #[.int .i64 kd, .int .i64 nd, .int .i64 0, .int .i64 0, .string ⟨#[]⟩, .string ⟨#[]⟩, .string ⟨#[]⟩, .int .i64 0, .slice none 0 0]] (W.alloc (.cells #[.int .i64 kd, .int .i64 nd, .int .i64 0, .int .i64 0, .string ⟨#[]⟩, .string ⟨#[]⟩, .string ⟨#[]⟩, .int .i64 0, .slice none 0 0] 33)) fun r w' => r = .returned (.tuple #[.agg #[.int .i64 0, .int .i64 0, .int .i64 0, .slice none 0 0, .slice none 0 0], .int .i64 n, .int .i64 e]) ∧ Post w') :
    Calls Tryz.prog 6 #[.pointer (some ⟨P, 0, none⟩), .agg #[.int .i64 kd, .int .i64 nd, .int .i64 0, .int .i64 0, .string ⟨#[]⟩, .string ⟨#[]⟩, .string ⟨#[]⟩, .int .i64 0, .slice none 0 0], .int .i64 0, .int .i64 n, .int .i64 e] W fun r w' => r = .returned (.bool true) ∧ ∃ a, Post a ∧ Below a.heap.size a w' := by
  have HD := Lib.hid hD
  clear hD
  go_enter Tryz.func6, Tryz.ntmps6
  go_wp2_with (first | (go_at_call 14; refine HD.out.mono ?_; rintro r wa ⟨rfl, hp⟩; have HP := Lib.hid hp; clear hp))
  go_ret
  exact ⟨rfl, wa, HP.out, below_alloc _ _⟩
set_option maxRecDepth 100000 in
set_option maxHeartbeats 4000000 in
theorem netFulls_any (m : Int) (w : World) (hE : Env w) : Calls Tryz.prog 3 #[.int .i64 m] w fun e w' => e = .returned (.bool true) ∧ Below w.heap.size w w' := by
  have HE := Lib.hid hE
  by_cases h1 : m < 9998
  · clear hE
    have d1 : decide (m < 9998) = true := decide_eq_true h1
    go_enter Tryz.func3, Tryz.ntmps3
    go_wp2_with (first | (go_at_call 4; refine (known37_yes _ HE.out).mono ?_; rintro e w3 ⟨rfl, hb3⟩; have HB3 := Lib.hid hb3; clear hb3))
    go_ret
    exact ⟨rfl, HB3.out⟩
  by_cases h2 : 10002 < m
  · clear hE
    have d1 : decide (m < 9998) = false := decide_eq_false h1
    have d2 : decide (10002 < m) = true := decide_eq_true h2
    go_enter Tryz.func3, Tryz.ntmps3
    go_wp2_with (first | (go_at_call 4; refine (known37_yes _ HE.out).mono ?_; rintro e w3 ⟨rfl, hb3⟩; have HB3 := Lib.hid hb3; clear hb3))
    go_ret
    exact ⟨rfl, HB3.out⟩
  obtain ⟨N, rfl⟩ : ∃ N : Nat, m = N := ⟨m.toNat, by omega⟩
  have hN1 : 9998 ≤ N := by omega
  have hN2 : N ≤ 10002 := by omega
  have d1 : decide ((N : Int) < 9998) = false := decide_eq_false h1
  have d2 : decide ((10002 : Int) < N) = false := decide_eq_false h2
  have HGV := Lib.hid (given_any w hE)
  clear h1 h2 hE
  have HDF : Hid (∀ (W : World) (P : Nat), GivenS w.heap.size W P → Calls Tryz.prog 6 #[.pointer (some ⟨P, 0, none⟩), .agg #[.int .i64 1, .int .i64 0, .int .i64 0, .int .i64 1, .string ⟨#[97]⟩, .string ⟨#[]⟩, .string ⟨#[120]⟩, .int .i64 2, .slice none 0 0], .int .i64 2, .int .i64 0, .int .i64 0] W fun e w' =>
    (e = .returned (.bool true) ∧ ∃ Q cq b0 b1, NetC w' P Q cq (.pointer (some ⟨b0, 0, none⟩)) (.pointer (some ⟨b1, 0, none⟩)) ∧ w'.cell? ⟨P, 1, none⟩ = some (.slice none 0 0) ∧ NetK w' P Q w'.heap.size (.pointer (some ⟨b0, 0, none⟩)) (.pointer (some ⟨b1, 0, none⟩)) ∧ w.heap.size ≤ P ∧ w.heap.size ≤ Q) ∧ Below w.heap.size W w') := Lib.hid fun W P h => does_first W w.heap.size P h
  unfold addL at HGV
  go_enter Tryz.func3, Tryz.ntmps3
  go_wp2_with (first | (go_at_call 5; refine HGV.out.mono ?_; rintro e wg ⟨⟨P, rfl, hg⟩, hb⟩; have HG := Lib.hid hg; have HBG := Lib.hid hb; clear hg hb) | (go_at_call 6; refine (HDF.out _ P (HG.out.below (below_alloc _ _))).mono ?_; rintro e w1 ⟨⟨rfl, Q, cq, b0, b1, hn, hc1, hk, hP, hQ⟩, hb⟩; have HN := Lib.hid hn; have HC1 := Lib.hid hc1; have HK := Lib.hid hk; have HPQ : Hid (w.heap.size ≤ P ∧ w.heap.size ≤ Q) := Lib.hid ⟨hP, hQ⟩; have HB1 := Lib.hid ((nbl_step HBG.out (below_alloc _ _)).trans hb); clear hn hc1 hk hP hQ hb))
  have hl0 : LoopS w1 w1 P Q cq (.pointer (some ⟨b0, 0, none⟩)) (.pointer (some ⟨b1, 0, none⟩)) 0 := ⟨.refl _ _ _ _, HN.out, HN.out.ltP, HN.out.ltQ, HK.out, _, [], HC1.out, ⟨rfl, .inl ⟨rfl, rfl⟩⟩⟩
  have HL0 := Lib.hid hl0
  clear hl0 HDF HGV HG HBG
  have HWW : Hid (∀ wx, KeepPQ P Q w1.heap.size w1 wx → Below w.heap.size w wx) := Lib.hid fun wx hk => HB1.out.trans (hk.below HPQ.out.1 HPQ.out.2 HB1.out.size)
  go_loopg [5] N (fun gf u wx => ∃ i : Nat, u = .int .i64 (i : Int) ∧ i + gf = N ∧ LoopS w1 wx P Q cq (.pointer (some ⟨b0, 0, none⟩)) (.pointer (some ⟨b1, 0, none⟩)) (min i 10000))
  case atStart => exact ⟨0, rfl, by omega, HL0.out⟩
  case round =>
    obtain ⟨i, rfl, hi, hl⟩ := hrel
    have HL := Lib.hid hl
    clear hl
    by_cases hlt : i < N
    · obtain ⟨g', rfl⟩ : ∃ g', gk = g' + 1 := ⟨gk - 1, by omega⟩
      have hib : i < 10002 := by omega
      by_cases h10 : i < 10000
      · have d3 : decide ((10000 : Int) ≤ (i : Int)) = false := decide_eq_false (by omega)
        have hl2 := HL.out
        rw [Nat.min_eq_left (Nat.le_of_lt h10)] at hl2
        have HDO := Lib.hid (does_gen wr P 3 0 1 0 (fun w' => LoopS w1 w' P Q cq (.pointer (some ⟨b0, 0, none⟩)) (.pointer (some ⟨b1, 0, none⟩)) (i + 1)) (do_state_ok (hl2.below (below_alloc _ _)) h10))
        clear hl2
        go_wp2_with (first | (go_at_call 6; refine HDO.out.mono ?_; rintro e wa ⟨rfl, a, hpost, hb⟩; have HLA : Hid (LoopS w1 wa P Q cq (.pointer (some ⟨b0, 0, none⟩)) (.pointer (some ⟨b1, 0, none⟩)) (i + 1)) := Lib.hid (hpost.below hb); clear hpost hb))
        go_roundg g'
        case measure => omega
        case rel => exact ⟨i + 1, by first | rfl | go_num, by omega, by rw [Nat.min_eq_left (show i + 1 ≤ 10000 by omega)]; exact HLA.out⟩
      · have d3 : decide ((10000 : Int) ≤ (i : Int)) = true := decide_eq_true (by omega)
        have hl2 := HL.out
        rw [Nat.min_eq_right (Nat.le_of_not_lt h10)] at hl2
        have HDO := Lib.hid (does_gen wr P 3 0 0 7 (fun w' => Below (wr.alloc (.cells #[.int .i64 3, .int .i64 0, .int .i64 0, .int .i64 0, .string ⟨#[]⟩, .string ⟨#[]⟩, .string ⟨#[]⟩, .int .i64 0, .slice none 0 0] 33)).heap.size (wr.alloc (.cells #[.int .i64 3, .int .i64 0, .int .i64 0, .int .i64 0, .string ⟨#[]⟩, .string ⟨#[]⟩, .string ⟨#[]⟩, .int .i64 0, .slice none 0 0] 33)) w') (do_state_full (hl2.below (below_alloc _ _))))
        have HL2 := Lib.hid hl2
        clear hl2
        go_wp2_with (first | (go_at_call 6; refine HDO.out.mono ?_; rintro e wa ⟨rfl, a, hpost, hb⟩; have HLA : Hid (LoopS w1 wa P Q cq (.pointer (some ⟨b0, 0, none⟩)) (.pointer (some ⟨b1, 0, none⟩)) 10000) := Lib.hid (HL2.out.below (nbl_step (nbl_step (below_alloc _ _) hpost) hb)); clear hpost hb))
        go_roundg g'
        case measure => omega
        case rel => exact ⟨i + 1, by first | rfl | go_num, by omega, by rw [Nat.min_eq_right (show 10000 ≤ i + 1 by omega)]; exact HLA.out⟩
    · have e : i = N := by omega
      subst e
      by_cases h10 : i < 10000
      · have d3 : decide ((i : Int) < 10000) = true := decide_eq_true (by omega)
        have hl2 := HL.out
        rw [Nat.min_eq_left (Nat.le_of_lt h10)] at hl2
        have HPA := Lib.hid (packets_any hl2)
        have HBW := Lib.hid (HWW.out _ hl2.keep)
        clear hl2
        go_wp2_with (first | (go_at_call 7; refine HPA.out.mono ?_; rintro e w2 ⟨rfl, hw⟩; obtain rfl := hw.symm; clear hw) | (go_at_call 4; refine (known37_yes _ (HE.out.below HBW.out)).mono ?_; rintro e w3 ⟨rfl, hb3⟩; have HB3 := Lib.hid hb3; clear hb3))
        go_ret
        exact ⟨rfl, nbl_step HBW.out HB3.out⟩
      · have d3 : decide ((i : Int) < 10000) = false := decide_eq_false (by omega)
        have hl2 := HL.out
        rw [Nat.min_eq_right (Nat.le_of_not_lt h10)] at hl2
        have HNZ := Lib.hid (node_zero hl2)
        have HL2 := Lib.hid hl2
        clear hl2
        go_wp2_with (first | (go_at_call 8; refine HNZ.out.mono ?_; rintro e wn ⟨⟨p, rfl, hp⟩, hb⟩; have HP := Lib.hid hp; have HBN := Lib.hid hb; have HLN : Hid (LoopS w1 wn P Q cq (.pointer (some ⟨b0, 0, none⟩)) (.pointer (some ⟨b1, 0, none⟩)) 10000) := Lib.hid (HL2.out.below hb); clear hp hb) | (go_at_call 7; refine (packets_any HLN.out).mono ?_; rintro e w2 ⟨rfl, hw⟩; obtain rfl := hw.symm; clear hw))
        refine (does_gen wn P 2 0 0 7 (fun w' => Below (wn.alloc (.cells #[.int .i64 2, .int .i64 0, .int .i64 0, .int .i64 0, .string ⟨#[]⟩, .string ⟨#[]⟩, .string ⟨#[]⟩, .int .i64 0, .slice none 0 0] 33)).heap.size (wn.alloc (.cells #[.int .i64 2, .int .i64 0, .int .i64 0, .int .i64 0, .string ⟨#[]⟩, .string ⟨#[]⟩, .string ⟨#[]⟩, .int .i64 0, .slice none 0 0] 33)) w') (do_drain_full (HLN.out.below (below_alloc _ _)))).mono ?_
        rintro e wa ⟨rfl, a, hpost, hb⟩
        have HBA : Hid (Below wn.heap.size wn wa) := Lib.hid (nbl_step (nbl_step (below_alloc _ _) hpost) hb)
        have HPA := Lib.hid (HP.out.below HBA.out)
        clear hpost hb
        go_wp2_with (first | (go_at_call 9; refine (deltas_any wa P Q wr.heap.size p HPA.out).mono ?_; rintro e wd ⟨⟨a2, c2, rfl⟩, hb⟩; have HBD : Hid (Below wr.heap.size wr wd) := Lib.hid ((nbl_step HBN.out HBA.out).trans hb); have HLD : Hid (LoopS w1 wd P Q cq (.pointer (some ⟨b0, 0, none⟩)) (.pointer (some ⟨b1, 0, none⟩)) 10000) := Lib.hid (HL2.out.below HBD.out); clear hb))
        refine (does_gen wd P 2 1 0 0 (fun w' => KeepPQ P Q (wd.alloc (.cells #[.int .i64 2, .int .i64 1, .int .i64 0, .int .i64 0, .string ⟨#[]⟩, .string ⟨#[]⟩, .string ⟨#[]⟩, .int .i64 0, .slice none 0 0] 33)).heap.size (wd.alloc (.cells #[.int .i64 2, .int .i64 1, .int .i64 0, .int .i64 0, .string ⟨#[]⟩, .string ⟨#[]⟩, .string ⟨#[]⟩, .int .i64 0, .slice none 0 0] 33)) w') (do_drain_one (HLD.out.below (below_alloc _ _)) (by omega))).mono ?_
        rintro e wz ⟨rfl, a3, hpost, hb⟩
        have HBZ : Hid (Below w.heap.size w wz) := Lib.hid (HWW.out wz (((HLD.out.keep.trans (.of (below_alloc _ _) HLD.out.keep.size)).trans (hpost.mono (Nat.le_trans HLD.out.keep.size (below_alloc _ _).size))).trans (.of hb (Nat.le_trans HLD.out.keep.size (Nat.le_trans (below_alloc _ _).size hpost.size)))))
        clear hpost hb
        go_wp2_with (first | (go_at_call 4; refine (known37_yes _ (HE.out.below HBZ.out)).mono ?_; rintro e w3 ⟨rfl, hb3⟩; have HB3 := Lib.hid hb3; clear hb3))
        go_ret
        exact ⟨rfl, nbl_step HBZ.out HB3.out⟩
end Go.Proofs.YtfddpmnbbjofnaaGreatDoor
