/- NetNone: the walk. -/
import Derived.Test.YtolfflaenjcpcaaGreatDoorNm
import Derived.Test.YtolfflaenjcpcaaGreatDoorNl
import Derived.Deep.LoopGhost
namespace Go.Proofs.YtolfflaenjcpcaaGreatDoor
set_option linter.unusedVariables false
set_option linter.unusedSimpArgs false
open Go.ChangeShapes Go.WideShapes Go.ChangeAt Go.RowKit Go.Deep
structure BoxnetNone (W : World) (p : Nat) (kd nd N o q : Int) (k t j : ByteArray) (A : Option Addr) (n c : Nat) : Prop where
  c0 : W.cell? ⟨p, 0, none⟩ = some (.int .i64 kd)
  c1 : W.cell? ⟨p, 1, none⟩ = some (.int .i64 nd)
  c2 : W.cell? ⟨p, 2, none⟩ = some (.int .i64 N)
  c3 : W.cell? ⟨p, 3, none⟩ = some (.int .i64 o)
  c4 : W.cell? ⟨p, 4, none⟩ = some (.string k)
  c5 : W.cell? ⟨p, 5, none⟩ = some (.string t)
  c6 : W.cell? ⟨p, 6, none⟩ = some (.string j)
  c7 : W.cell? ⟨p, 7, none⟩ = some (.int .i64 q)
  c8 : W.cell? ⟨p, 8, none⟩ = some (.slice A n c)
theorem BoxnetNone.below {W W' : World} {p : Nat} {kd nd N o q : Int} {k t j : ByteArray} {A : Option Addr} {n c : Nat} (h : BoxnetNone W p kd nd N o q k t j A n c) (hb : Below W.heap.size W W') : BoxnetNone W' p kd nd N o q k t j A n c :=
  ⟨cell_below hb h.c0, cell_below hb h.c1, cell_below hb h.c2, cell_below hb h.c3, cell_below hb h.c4, cell_below hb h.c5, cell_below hb h.c6, cell_below hb h.c7, cell_below hb h.c8⟩
set_option maxRecDepth 100000 in
set_option maxHeartbeats 8000000 in
theorem netNone_of (kd nd N o q : Int) (k t j : ByteArray) (A : Option Addr) (n c : Nat) (x : Int) (w : World) (hs : gvb.ng ≤ w.heap.size)
    (hK : ∀ W, Below w.heap.size w W → Calls Tryz.prog 23 #[] W fun e w' => e = .returned (.bool true) ∧ Below W.heap.size W w') :
    Calls Tryz.prog 4 #[.agg #[.int .i64 kd, .int .i64 nd, .int .i64 N, .int .i64 o, .string k, .string t, .string j, .int .i64 q, .slice A n c], .int .i64 x] w fun e w' => e = .returned (.bool true) ∧ Below w.heap.size w w' := by
  have HS0 := Lib.hid hs
  have HK := Lib.hid hK
  clear hs hK
  go_enter Tryz.func4, Tryz.ntmps4
  go_wp2_with fail
  obtain ⟨w1, hw1⟩ : ∃ w1, w1 = w.alloc (.cells #[.int .i64 kd, .int .i64 nd, .int .i64 N, .int .i64 o, .string k, .string t, .string j, .int .i64 q, .slice A n c] 67) := ⟨_, rfl⟩
  have hx1 : BoxnetNone w1 w.heap.size kd nd N o q k t j A n c := by
    rw [hw1]
    exact ⟨new_cells _ _ _ 0, new_cells _ _ _ 1, new_cells _ _ _ 2, new_cells _ _ _ 3, new_cells _ _ _ 4, new_cells _ _ _ 5, new_cells _ _ _ 6, new_cells _ _ _ 7, new_cells _ _ _ 8⟩
  have hb1 : Below w.heap.size w w1 := by rw [hw1]; exact below_alloc _ _
  have hz1 : w.heap.size + 1 = w1.heap.size := by rw [hw1]; show _ = (w.heap.push _).size; simp
  rw [← hw1, hz1]
  clear hw1
  have hb2 : Below w.heap.size w (w1.alloc (.cells #[.int .i64 kd, .int .i64 nd, .int .i64 N, .int .i64 o, .string k, .string t, .string j, .int .i64 q, .slice A n c] 67)) := nbl_step hb1 (below_alloc _ _)
  have hx2 := hx1.below (below_alloc w1 (.cells #[.int .i64 kd, .int .i64 nd, .int .i64 N, .int .i64 o, .string k, .string t, .string j, .int .i64 q, .slice A n c] 67))
  refine (few_one w1.heap.size 1 kd nd N o q k t j A n c _ (new_cells _ _ _ 0) (new_cells _ _ _ 2) (new_cells _ _ _ 3) (new_cells _ _ _ 4) (new_cells _ _ _ 5) (new_cells _ _ _ 6) (new_cells _ _ _ 7) (new_cells _ _ _ 8)).mono ?_
  rintro e w2 ⟨⟨b, rfl⟩, hbc⟩
  have HB2 := Lib.hid (nbl_step hb2 hbc)
  have HX2 := Lib.hid (hx2.below hbc)
  clear hb1 hx1 hz1 hb2 hx2 hbc
  cases b with
  | false =>
    go_wp2_with (first | (go_at_call 23; refine (HK.out _ HB2.out).mono ?_; rintro e w' ⟨rfl, hb⟩; have HB := Lib.hid (nbl_step HB2.out hb); clear hb))
    go_ret
    exact ⟨rfl, HB.out⟩
  | true =>
    go_wp2_with fail
    obtain ⟨w3, hw3⟩ : ∃ w3, w3 = w2.alloc (.cells #[.slice none 0 0, .slice none 0 0] 73) := ⟨_, rfl⟩
    have hb3 : Below w.heap.size w w3 := by rw [hw3]; exact nbl_step HB2.out (below_alloc _ _)
    have hx3 : BoxnetNone w3 w.heap.size kd nd N o q k t j A n c := by rw [hw3]; exact HX2.out.below (below_alloc _ _)
    have hz3 : w3.heap[w2.heap.size]? = some (.cells #[.slice none 0 0, .slice none 0 0] 73) := by rw [hw3]; exact new_block _ _
    have hs3 : w2.heap.size + 1 = w3.heap.size := by rw [hw3]; show _ = (w2.heap.push _).size; simp
    rw [← hw3, hs3]
    clear hw3
    obtain ⟨w4, hw4⟩ : ∃ w4, w4 = w3.alloc (.cells #[.pointer none, .pointer (some ⟨w2.heap.size, 0, none⟩)] 70) := ⟨_, rfl⟩
    have hb4 : Below w.heap.size w w4 := by rw [hw4]; exact nbl_step hb3 (below_alloc _ _)
    have HX4 : Hid (BoxnetNone w4 w.heap.size kd nd N o q k t j A n c) := Lib.hid (by rw [hw4]; exact hx3.below (below_alloc _ _))
    have HZ4 := Lib.hid (block_below hz3 (show Below w3.heap.size w3 w4 by rw [hw4]; exact below_alloc _ _))
    have HP0 : Hid (w4.cell? ⟨w3.heap.size, 0, none⟩ = some (.pointer none)) := Lib.hid (by rw [hw4]; exact new_cells _ _ _ 0)
    have HP1 : Hid (w4.cell? ⟨w3.heap.size, 1, none⟩ = some (.pointer (some ⟨w2.heap.size, 0, none⟩))) := Lib.hid (by rw [hw4]; exact new_cells _ _ _ 1)
    have HB4 := Lib.hid hb4
    have HS : Hid (gvb.ng ≤ w4.heap.size) := Lib.hid (Nat.le_trans HS0.out hb4.size)
    rw [← hw4]
    clear hw4 hb3 hx3 hz3 hs3 hb4
    generalize w3.heap.size = p3 at *
    generalize w2.heap.size = p2 at *
    go_loopg [22] 2 (fun gf u wx => ∃ i : Nat, u = .int .i64 (i : Int) ∧ i + gf = 2 ∧ Below w4.heap.size w4 wx)
    case atStart => exact ⟨0, rfl, by omega, Below.refl _ _⟩
    case round =>
      obtain ⟨i, rfl, hi, hbw⟩ := hrel
      rename_i W
      have HB := Lib.hid hbw
      have p0 := cell_below hbw HP0.out
      have p1 := cell_below hbw HP1.out
      have HZ := HZ4
      have HX := HX4
      clear hbw
      rcases (show i = 0 ∨ i = 1 ∨ i = 2 by omega) with rfl | rfl | rfl
      · obtain ⟨g', rfl⟩ : ∃ g', gk = g' + 1 := ⟨gk - 1, by omega⟩
        go_wp2_with (first | (go_at_call 24; refine (npacket_nil x _ (Nat.le_trans HS.out HB.out.size)).mono ?_; rintro e w' ⟨rfl, hb⟩; replace HB := Lib.hid (nbl_step HB.out hb); clear hb) | (go_at_call 25; refine (nfrom_nil x _ (Nat.le_trans HS.out HB.out.size)).mono ?_; rintro e w' ⟨rfl, hb⟩; replace HB := Lib.hid (nbl_step HB.out hb); have hk := HX.out.below HB.out; have k0 := hk.c0; have k1 := hk.c1; have k2 := hk.c2; have k3 := hk.c3; have k4 := hk.c4; have k5 := hk.c5; have k6 := hk.c6; have k7 := hk.c7; have k8 := hk.c8; clear hk; clear hb) | (go_at_call 26; refine (ndoes_nil kd nd N o q k t j A n c _ (Nat.le_trans HS.out HB.out.size)).mono ?_; rintro e w' ⟨rfl, hb⟩; replace HB := Lib.hid (nbl_step HB.out hb); clear k0 k1 k2 k3 k4 k5 k6 k7 k8; clear hb) | (go_at_call 27; refine (npackets_nil _ (Nat.le_trans HS.out HB.out.size)).mono ?_; rintro e w' ⟨rfl, hb⟩; replace HB := Lib.hid (nbl_step HB.out hb); clear hb) | (go_at_call 28; refine (nnode_nil x _ (Nat.le_trans HS.out HB.out.size)).mono ?_; rintro e w' ⟨rfl, hb⟩; replace HB := Lib.hid (nbl_step HB.out hb); clear hb) | (go_at_call 29; refine (nnodes_nil _ (Nat.le_trans HS.out HB.out.size)).mono ?_; rintro e w' ⟨rfl, hb⟩; replace HB := Lib.hid (nbl_step HB.out hb); clear hb) | (go_at_call 30; refine (ncopy_nil _ (Nat.le_trans HS.out HB.out.size)).mono ?_; rintro e w' ⟨rfl, hb⟩; replace HB := Lib.hid (nbl_step HB.out hb); clear hb))
        go_roundg g'
        case measure => omega
        case rel => exact ⟨1, rfl, by omega, HB.out⟩
      · obtain ⟨g', rfl⟩ : ∃ g', gk = g' + 1 := ⟨gk - 1, by omega⟩
        go_wp2_with (first | (go_at_call 24; refine (npacket_zero x _ (Nat.le_trans HS.out HB.out.size) (block_below HZ.out HB.out) rfl).mono ?_; rintro e w' ⟨rfl, hb⟩; replace HB := Lib.hid (nbl_step HB.out hb); clear hb) | (go_at_call 25; refine (nfrom_zero x _ (Nat.le_trans HS.out HB.out.size) (block_below HZ.out HB.out) rfl).mono ?_; rintro e w' ⟨rfl, hb⟩; replace HB := Lib.hid (nbl_step HB.out hb); have hk := HX.out.below HB.out; have k0 := hk.c0; have k1 := hk.c1; have k2 := hk.c2; have k3 := hk.c3; have k4 := hk.c4; have k5 := hk.c5; have k6 := hk.c6; have k7 := hk.c7; have k8 := hk.c8; clear hk; clear hb) | (go_at_call 26; refine (ndoes_zero kd nd N o q k t j A n c _ (Nat.le_trans HS.out HB.out.size) (block_below HZ.out HB.out) rfl).mono ?_; rintro e w' ⟨rfl, hb⟩; replace HB := Lib.hid (nbl_step HB.out hb); clear k0 k1 k2 k3 k4 k5 k6 k7 k8; clear hb) | (go_at_call 27; refine (npackets_zero _ (Nat.le_trans HS.out HB.out.size) (block_below HZ.out HB.out) rfl).mono ?_; rintro e w' ⟨rfl, hb⟩; replace HB := Lib.hid (nbl_step HB.out hb); clear hb) | (go_at_call 28; refine (nnode_zero x _ (Nat.le_trans HS.out HB.out.size) (block_below HZ.out HB.out) rfl).mono ?_; rintro e w' ⟨rfl, hb⟩; replace HB := Lib.hid (nbl_step HB.out hb); clear hb) | (go_at_call 29; refine (nnodes_zero _ (Nat.le_trans HS.out HB.out.size) (block_below HZ.out HB.out) rfl).mono ?_; rintro e w' ⟨rfl, hb⟩; replace HB := Lib.hid (nbl_step HB.out hb); clear hb) | (go_at_call 30; refine (ncopy_zero _ (Nat.le_trans HS.out HB.out.size) (block_below HZ.out HB.out) rfl).mono ?_; rintro e w' ⟨rfl, hb⟩; replace HB := Lib.hid (nbl_step HB.out hb); clear hb))
        go_roundg g'
        case measure => omega
        case rel => exact ⟨2, rfl, by omega, HB.out⟩
      · go_wp2_with (first | (go_at_call 23; refine (HK.out _ (nbl_step HB4.out HB.out)).mono ?_; rintro e w' ⟨rfl, hb⟩; have HB9 := Lib.hid (nbl_step (nbl_step HB4.out HB.out) hb); clear hb))
        go_ret
        exact ⟨rfl, HB9.out⟩
end Go.Proofs.YtolfflaenjcpcaaGreatDoor
