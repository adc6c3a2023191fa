/- ReplicaNil: the walk. -/
import Derived.Test.YtolfflaenjcpcaaGreatDoorRm
import Derived.Test.YtolfflaenjcpcaaGreatDoorRs
import Derived.Deep.LoopGhost
namespace Go.Proofs.YtolfflaenjcpcaaGreatDoor
set_option linter.unusedVariables false
set_option linter.unusedSimpArgs false
open Go.ChangeShapes Go.WideShapes Go.ChangeAt Go.RowKit Go.Deep
structure BoxreplicaNil (W : World) (p : Nat) (o q : Int) (k t j : ByteArray) (A : Option Addr) (n c : Nat) : Prop where
  c0 : W.cell? ⟨p, 0, none⟩ = some (.int .i64 o)
  c1 : W.cell? ⟨p, 1, none⟩ = some (.string k)
  c2 : W.cell? ⟨p, 2, none⟩ = some (.string t)
  c3 : W.cell? ⟨p, 3, none⟩ = some (.string j)
  c4 : W.cell? ⟨p, 4, none⟩ = some (.int .i64 q)
  c5 : W.cell? ⟨p, 5, none⟩ = some (.slice A n c)
theorem BoxreplicaNil.below {W W' : World} {p : Nat} {o q : Int} {k t j : ByteArray} {A : Option Addr} {n c : Nat} (h : BoxreplicaNil W p o q k t j A n c) (hb : Below W.heap.size W W') : BoxreplicaNil W' p o q k t j A n c :=
  ⟨cell_below hb h.c0, cell_below hb h.c1, cell_below hb h.c2, cell_below hb h.c3, cell_below hb h.c4, cell_below hb h.c5⟩
set_option maxRecDepth 100000 in
set_option maxHeartbeats 8000000 in
theorem replicaNil_of (o q : Int) (k t j : ByteArray) (A : Option Addr) (n c : Nat) (x : Int) (w : World) (hs : gvb.ng ≤ w.heap.size)
    (hK : ∀ W, Below w.heap.size w W → Calls Tryz.prog 8 #[] W fun e w' => e = .returned (.bool true) ∧ Below W.heap.size W w') :
    Calls Tryz.prog 3 #[.agg #[.int .i64 o, .string k, .string t, .string j, .int .i64 q, .slice A n c], .int .i64 x] w fun e w' => e = .returned (.bool true) ∧ Below w.heap.size w w' := by
  have HS0 := Lib.hid hs
  have HK := Lib.hid hK
  clear hs hK
  go_enter Tryz.func3, Tryz.ntmps3
  go_wp2_with fail
  obtain ⟨w1, hw1⟩ : ∃ w1, w1 = w.alloc (.cells #[.int .i64 o, .string k, .string t, .string j, .int .i64 q, .slice A n c] 25) := ⟨_, rfl⟩
  have hx1 : BoxreplicaNil w1 w.heap.size o q k t j A n c := by
    rw [hw1]
    exact ⟨new_cells _ _ _ 0, new_cells _ _ _ 1, new_cells _ _ _ 2, new_cells _ _ _ 3, new_cells _ _ _ 4, new_cells _ _ _ 5⟩
  have hb1 : Below w.heap.size w w1 := by rw [hw1]; exact below_alloc _ _
  have hz1 : w.heap.size + 1 = w1.heap.size := by rw [hw1]; show _ = (w.heap.push _).size; simp
  rw [← hw1]
  clear hw1 hz1
  refine (short_any o q k t j A n c _).mono ?_
  rintro e w2 ⟨⟨b, rfl⟩, hbc⟩
  have HB2 := Lib.hid (nbl_step hb1 hbc)
  have HX2 := Lib.hid (hx1.below hbc)
  clear hb1 hx1 hbc
  cases b with
  | false =>
    go_wp2_with (first | (go_at_call 8; refine (HK.out _ HB2.out).mono ?_; rintro e w' ⟨rfl, hb⟩; have HB := Lib.hid (nbl_step HB2.out hb); clear hb))
    go_ret
    exact ⟨rfl, HB.out⟩
  | true =>
    go_wp2_with fail
    obtain ⟨w3, hw3⟩ : ∃ w3, w3 = w2.alloc (.cells #[.int .i64 0, .int .i64 0, .int .i64 0, .int .i64 0, .pointer none, .pointer none, .pointer none, .pointer none, .bool false] 36) := ⟨_, rfl⟩
    have hb3 : Below w.heap.size w w3 := by rw [hw3]; exact nbl_step HB2.out (below_alloc _ _)
    have hx3 : BoxreplicaNil w3 w.heap.size o q k t j A n c := by rw [hw3]; exact HX2.out.below (below_alloc _ _)
    have hz3 : w3.heap[w2.heap.size]? = some (.cells #[.int .i64 0, .int .i64 0, .int .i64 0, .int .i64 0, .pointer none, .pointer none, .pointer none, .pointer none, .bool false] 36) := by rw [hw3]; exact new_block _ _
    have hs3 : w2.heap.size + 1 = w3.heap.size := by rw [hw3]; show _ = (w2.heap.push _).size; simp
    rw [← hw3, hs3]
    clear hw3
    obtain ⟨w4, hw4⟩ : ∃ w4, w4 = w3.alloc (.cells #[.pointer none, .pointer (some ⟨w2.heap.size, 0, none⟩)] 28) := ⟨_, rfl⟩
    have hb4 : Below w.heap.size w w4 := by rw [hw4]; exact nbl_step hb3 (below_alloc _ _)
    have HX4 : Hid (BoxreplicaNil w4 w.heap.size o q k t j A n c) := Lib.hid (by rw [hw4]; exact hx3.below (below_alloc _ _))
    have HZ4 := Lib.hid (block_below hz3 (show Below w3.heap.size w3 w4 by rw [hw4]; exact below_alloc _ _))
    have HP0 : Hid (w4.cell? ⟨w3.heap.size, 0, none⟩ = some (.pointer none)) := Lib.hid (by rw [hw4]; exact new_cells _ _ _ 0)
    have HP1 : Hid (w4.cell? ⟨w3.heap.size, 1, none⟩ = some (.pointer (some ⟨w2.heap.size, 0, none⟩))) := Lib.hid (by rw [hw4]; exact new_cells _ _ _ 1)
    have HB4 := Lib.hid hb4
    have HS : Hid (gvb.ng ≤ w4.heap.size) := Lib.hid (Nat.le_trans HS0.out hb4.size)
    rw [← hw4]
    clear hw4 hb3 hx3 hz3 hs3 hb4
    generalize w3.heap.size = p3 at *
    generalize w2.heap.size = p2 at *
    go_loopg [17] 2 (fun gf u wx => ∃ i : Nat, u = .int .i64 (i : Int) ∧ i + gf = 2 ∧ Below w4.heap.size w4 wx)
    case atStart => exact ⟨0, rfl, by omega, Below.refl _ _⟩
    case round =>
      obtain ⟨i, rfl, hi, hbw⟩ := hrel
      rename_i W
      have HB := Lib.hid hbw
      have p0 := cell_below hbw HP0.out
      have p1 := cell_below hbw HP1.out
      have HZ := HZ4
      have HX := HX4
      have b1 := cell_below hbw HX4.out.c1
      clear hbw
      rcases (show i = 0 ∨ i = 1 ∨ i = 2 by omega) with rfl | rfl | rfl
      · obtain ⟨g', rfl⟩ : ∃ g', gk = g' + 1 := ⟨gk - 1, by omega⟩
        go_wp2_with (first | (go_at_call 9; refine (rget_nil k _ (Nat.le_trans HS.out (HB.out).size)).mono ?_; rintro e w' ⟨rfl, hb⟩; replace HB := Lib.hid (nbl_step HB.out hb); have hk := HX.out.below HB.out; have k0 := hk.c0; have k1 := hk.c1; have k2 := hk.c2; have k3 := hk.c3; have k4 := hk.c4; have k5 := hk.c5; have a0 := fun o' => cell_below (below_alloc _ o') k0; have a1 := fun o' => cell_below (below_alloc _ o') k1; have a2 := fun o' => cell_below (below_alloc _ o') k2; have a3 := fun o' => cell_below (below_alloc _ o') k3; have a4 := fun o' => cell_below (below_alloc _ o') k4; have a5 := fun o' => cell_below (below_alloc _ o') k5; clear hk hb) | (go_at_call 10; refine (rans_nil o q k t j A n c _ (Nat.le_trans HS.out (nbl_al2 HB.out).size)).mono ?_; rintro e w' ⟨rfl, hb⟩; have s0 := cell_below hb (new_cells _ _ _ 0); have s1 := cell_below hb (new_cells _ _ _ 1); have s2 := cell_below hb (new_cells _ _ _ 2); have s3 := cell_below hb (new_cells _ _ _ 3); replace HB := Lib.hid (nbl_step (nbl_al2 HB.out) hb); clear hb k0 k1 k2 k3 k4 k5 a0 a1 a2 a3 a4 a5) | (go_at_call 11; refine (rsame _ (Nat.le_trans HS.out HB.out.size)).mono ?_; rintro e w' ⟨rfl, hb⟩; replace HB := Lib.hid (nbl_step HB.out hb); clear hb s0 s1 s2 s3) | (go_at_call 12; refine (rcarts_nil _ (Nat.le_trans HS.out HB.out.size)).mono ?_; rintro e w' ⟨rfl, hb⟩; replace HB := Lib.hid (nbl_step HB.out hb); clear hb) | (go_at_call 13; refine (rroom_nil _ (Nat.le_trans HS.out HB.out.size)).mono ?_; rintro e w' ⟨rfl, hb⟩; replace HB := Lib.hid (nbl_step HB.out hb); clear hb) | (go_at_call 14; refine (rlast_nil _ (Nat.le_trans HS.out HB.out.size)).mono ?_; rintro e w' ⟨rfl, hb⟩; replace HB := Lib.hid (nbl_step HB.out hb); clear hb) | (go_at_call 15; refine (rclosed_nil _ (Nat.le_trans HS.out HB.out.size)).mono ?_; rintro e w' ⟨rfl, hb⟩; replace HB := Lib.hid (nbl_step HB.out hb); clear hb) | (go_at_call 16; refine (rinbox_nil _ (Nat.le_trans HS.out HB.out.size)).mono ?_; rintro e w' ⟨rfl, hb⟩; replace HB := Lib.hid (nbl_step HB.out hb); clear hb) | (go_at_call 17; refine (rdeltas_nil _ (Nat.le_trans HS.out HB.out.size)).mono ?_; rintro e w' ⟨rfl, hb⟩; replace HB := Lib.hid (nbl_step HB.out hb); clear hb) | (go_at_call 18; refine (rdirty_nil _ (Nat.le_trans HS.out HB.out.size)).mono ?_; rintro e w' ⟨rfl, hb⟩; replace HB := Lib.hid (nbl_step HB.out hb); clear hb) | (go_at_call 19; refine (rconfig_nil _ (Nat.le_trans HS.out HB.out.size)).mono ?_; rintro e w' ⟨rfl, hb⟩; replace HB := Lib.hid (nbl_step HB.out hb); clear hb) | (go_at_call 20; refine (rskip_nil x _ (Nat.le_trans HS.out HB.out.size)).mono ?_; rintro e w' ⟨rfl, hb⟩; replace HB := Lib.hid (nbl_step HB.out hb); clear hb) | (go_at_call 21; refine (rcopy_nil _ (Nat.le_trans HS.out HB.out.size)).mono ?_; rintro e w' ⟨rfl, hb⟩; replace HB := Lib.hid (nbl_step HB.out hb); clear hb))
        go_roundg g'
        case measure => omega
        case rel => exact ⟨1, rfl, by omega, HB.out⟩
      · obtain ⟨g', rfl⟩ : ∃ g', gk = g' + 1 := ⟨gk - 1, by omega⟩
        go_wp2_with (first | (go_at_call 9; refine (rget_zero k _ (Nat.le_trans HS.out (HB.out).size) (block_below HZ.out (HB.out)) rfl).mono ?_; rintro e w' ⟨rfl, hb⟩; replace HB := Lib.hid (nbl_step HB.out hb); have hk := HX.out.below HB.out; have k0 := hk.c0; have k1 := hk.c1; have k2 := hk.c2; have k3 := hk.c3; have k4 := hk.c4; have k5 := hk.c5; have a0 := fun o' => cell_below (below_alloc _ o') k0; have a1 := fun o' => cell_below (below_alloc _ o') k1; have a2 := fun o' => cell_below (below_alloc _ o') k2; have a3 := fun o' => cell_below (below_alloc _ o') k3; have a4 := fun o' => cell_below (below_alloc _ o') k4; have a5 := fun o' => cell_below (below_alloc _ o') k5; clear hk hb) | (go_at_call 10; refine (rans_zero o q k t j A n c _ (Nat.le_trans HS.out (nbl_al2 HB.out).size) (block_below HZ.out (nbl_al2 HB.out)) rfl).mono ?_; rintro e w' ⟨rfl, hb⟩; have s0 := cell_below hb (new_cells _ _ _ 0); have s1 := cell_below hb (new_cells _ _ _ 1); have s2 := cell_below hb (new_cells _ _ _ 2); have s3 := cell_below hb (new_cells _ _ _ 3); replace HB := Lib.hid (nbl_step (nbl_al2 HB.out) hb); clear hb k0 k1 k2 k3 k4 k5 a0 a1 a2 a3 a4 a5) | (go_at_call 11; refine (rsame _ (Nat.le_trans HS.out HB.out.size)).mono ?_; rintro e w' ⟨rfl, hb⟩; replace HB := Lib.hid (nbl_step HB.out hb); clear hb s0 s1 s2 s3) | (go_at_call 12; refine (rcarts_zero _ (Nat.le_trans HS.out HB.out.size) (block_below HZ.out HB.out) rfl).mono ?_; rintro e w' ⟨rfl, hb⟩; replace HB := Lib.hid (nbl_step HB.out hb); clear hb) | (go_at_call 13; refine (rroom_zero _ (Nat.le_trans HS.out HB.out.size) (block_below HZ.out HB.out) rfl).mono ?_; rintro e w' ⟨rfl, hb⟩; replace HB := Lib.hid (nbl_step HB.out hb); clear hb) | (go_at_call 14; refine (rlast_zero _ (Nat.le_trans HS.out HB.out.size) (block_below HZ.out HB.out) rfl).mono ?_; rintro e w' ⟨rfl, hb⟩; replace HB := Lib.hid (nbl_step HB.out hb); clear hb) | (go_at_call 15; refine (rclosed_zero _ (Nat.le_trans HS.out HB.out.size) (block_below HZ.out HB.out) rfl).mono ?_; rintro e w' ⟨rfl, hb⟩; replace HB := Lib.hid (nbl_step HB.out hb); clear hb) | (go_at_call 16; refine (rinbox_zero _ (Nat.le_trans HS.out HB.out.size) (block_below HZ.out HB.out) rfl).mono ?_; rintro e w' ⟨rfl, hb⟩; replace HB := Lib.hid (nbl_step HB.out hb); clear hb) | (go_at_call 17; refine (rdeltas_zero _ (Nat.le_trans HS.out HB.out.size) (block_below HZ.out HB.out) rfl).mono ?_; rintro e w' ⟨rfl, hb⟩; replace HB := Lib.hid (nbl_step HB.out hb); clear hb) | (go_at_call 18; refine (rdirty_zero _ (Nat.le_trans HS.out HB.out.size) (block_below HZ.out HB.out) rfl).mono ?_; rintro e w' ⟨rfl, hb⟩; replace HB := Lib.hid (nbl_step HB.out hb); clear hb) | (go_at_call 19; refine (rconfig_zero _ (Nat.le_trans HS.out HB.out.size) (block_below HZ.out HB.out) rfl).mono ?_; rintro e w' ⟨rfl, hb⟩; replace HB := Lib.hid (nbl_step HB.out hb); clear hb) | (go_at_call 20; refine (rskip_zero x _ (Nat.le_trans HS.out HB.out.size) (block_below HZ.out HB.out) rfl).mono ?_; rintro e w' ⟨rfl, hb⟩; replace HB := Lib.hid (nbl_step HB.out hb); clear hb) | (go_at_call 21; refine (rcopy_zero _ (Nat.le_trans HS.out HB.out.size) (block_below HZ.out HB.out) rfl).mono ?_; rintro e w' ⟨rfl, hb⟩; replace HB := Lib.hid (nbl_step HB.out hb); clear hb))
        go_roundg g'
        case measure => omega
        case rel => exact ⟨2, rfl, by omega, HB.out⟩
      · go_wp2_with (first | (go_at_call 8; refine (HK.out _ (nbl_step HB4.out HB.out)).mono ?_; rintro e w' ⟨rfl, hb⟩; have HB9 := Lib.hid (nbl_step (nbl_step HB4.out HB.out) hb); clear hb))
        go_ret
        exact ⟨rfl, HB9.out⟩
end Go.Proofs.YtolfflaenjcpcaaGreatDoor
