/- LoadLongs: the walk. -/
import Derived.Test.YtecnchmcdbcofaaGreatDoorLgf
set_option linter.unusedVariables false
set_option linter.unusedSimpArgs false
namespace Go.Proofs.YtecnchmcdbcofaaGreatDoor
open Go.RowKit Go.MapKept
theorem node_any (w : World) (hE : Env w) : Calls Tryz.prog 18 #[] w fun e w' => e = .returned (.agg ⟨cfgL⟩) ∧ Below w.heap.size w w' :=
  env_call (v := .agg ⟨cfgL⟩) (args := []) (by kernel_rfl) (by kernel_rfl) (fun m => by kernel_rfl) hE
set_option maxRecDepth 100000 in
set_option maxHeartbeats 1000000 in
theorem loadLongs_any (m : Int) (w : World) (hE : Env w) : Calls Tryz.prog 6 #[.int .i64 m] w fun e w' => e = .returned (.bool true) ∧ Below w.heap.size w w' := by
  have HE := Lib.hid hE
  clear hE
  by_cases h1 : m < 19998
  · have d1 : decide (m < 19998) = true := decide_eq_true h1
    go_enter Tryz.func6, Tryz.ntmps6
    go_wp2_with (first | (go_at_call 10; refine (known_yes _ HE.out).mono ?_; rintro e w3 ⟨rfl, hb3⟩; have HB3 := Lib.hid hb3; clear hb3))
    go_ret
    exact ⟨rfl, HB3.out⟩
  by_cases h2 : 20002 < m
  · have d1 : decide (m < 19998) = false := decide_eq_false h1
    have d2 : decide (20002 < m) = true := decide_eq_true h2
    go_enter Tryz.func6, Tryz.ntmps6
    go_wp2_with (first | (go_at_call 10; refine (known_yes _ HE.out).mono ?_; rintro e w3 ⟨rfl, hb3⟩; have HB3 := Lib.hid hb3; clear hb3))
    go_ret
    exact ⟨rfl, HB3.out⟩
  obtain ⟨N, rfl⟩ : ∃ N : Nat, m = N := ⟨m.toNat, by omega⟩
  have hN1 : 19998 ≤ N := by omega
  have hN2 : N ≤ 20002 := by omega
  have HN : Hid (19998 ≤ N ∧ N ≤ 20002) := Lib.hid ⟨hN1, hN2⟩
  have d1 : decide ((N : Int) < 19998) = false := decide_eq_false h1
  have d2 : decide ((20002 : Int) < N) = false := decide_eq_false h2
  have hmk := make_calls N (by omega) w
  clear h1 h2
  go_enter Tryz.func6, Tryz.ntmps6
  go_wp2_with fail
  have hF : FillAt CallV.cells 6 (w.alloc (.cells (madeCells zCall (N * 6)) 33)) w.heap.size N 0 (fun _ => mgV) := FillAt.make _ _ _ _ _ _ _ (size_madeCells _ _)
  have hB : Below w.heap.size w (w.alloc (.cells (madeCells zCall (N * 6)) 33)) := below_alloc _ _
  have hg : w.heap.size < (w.alloc (.cells (madeCells zCall (N * 6)) 33)).heap.size := by simp
  generalize w.alloc (.cells (madeCells zCall (N * 6)) 33) = w1 at *
  clear hmk
  go_loopg [4] N (fun gf u wx => ∃ k : Nat, u = .int .i64 (k : Int) ∧ k + gf = N ∧ FillAt CallV.cells 6 wx w.heap.size N k (fun _ => mgV) ∧ Below w.heap.size w wx ∧ w.heap.size < wx.heap.size)
  case atStart => exact ⟨0, rfl, by omega, hF, hB, hg⟩
  case round =>
    clear hF hB hg
    obtain ⟨k, rfl, hk, hf, hb, hgl⟩ := hrel
    have HF := Lib.hid hf
    have HB := Lib.hid hb
    have HG := Lib.hid hgl
    clear hf hb hgl
    by_cases hlt : k < N
    · obtain ⟨g', rfl⟩ : ∃ g', gk = g' + 1 := ⟨gk - 1, by omega⟩
      have hkb : k < 20002 := by omega
      have hst := run_store_mg wr w.heap.size (k * 6) (HF.out.at_ hlt)
      have hf1 : FillAt CallV.cells 6 (wr.setCells w.heap.size (k * 6) mgV.cells) w.heap.size N (k + 1) (fun _ => mgV) := FillAt.step (cells := CallV.cells) (sz := 6) (f := fun _ => mgV) (fun _ => rfl) HF.out hlt
      have hb1 : Below w.heap.size w (wr.setCells w.heap.size (k * 6) mgV.cells) := below_setCells (Nat.le_refl _) _ _ _ HB.out
      have hg1 : w.heap.size < (wr.setCells w.heap.size (k * 6) mgV.cells).heap.size := by rw [size_setCells]; exact HG.out
      generalize wr.setCells w.heap.size (k * 6) mgV.cells = W at *
      have hW := And.intro hf1 (And.intro hb1 hg1)
      clear hf1 hb1 hg1
      have HST := Lib.hid hst
      have HW := Lib.hid hW
      clear hst hW
      go_wp2_with (first | (refine wpList_store_eq (by rfl) (.tmp 22) (.tmp 21) 33 (by rfl) _ _ (by rfl) (by rfl) HST.out ?_))
      go_roundg g'
      case measure => omega
      case rel => exact ⟨k + 1, by go_num, by omega, HW.out.1, HW.out.2.1, HW.out.2.2⟩
    · have e : k = N := by omega
      subst e
      have hCA : CallsAt wr (.slice (some ⟨w.heap.size, 0, none⟩) k k) (mgs k) := FillAt.sl HF.out (by omega)
      have HCA := Lib.hid hCA
      have HND : Hid (∀ W, Below w.heap.size w W → Calls Tryz.prog 18 #[] W fun e w' => e = .returned (.agg ⟨cfgL⟩) ∧ Below W.heap.size W w') := Lib.hid fun W hW => node_any W (HE.out.below hW)
      clear hCA
      by_cases h3 : 20000 < k
      · have d3 : decide ((20000 : Int) < k) = true := decide_eq_true (by omega)
        have HU : Hid (∀ W, Calls Tryz.prog 12 #[.slice (some ⟨w.heap.size, 0, none⟩) k k, .int .i64 1, .slice none 0 0, .int .i64 5] W fun e w' => e = .returned (.bool true) ∧ Below W.heap.size W w') := Lib.hid fun W => uses_long W _ k k 1 h3 hN2
        have HT : Hid (∀ W, Calls Tryz.prog 15 #[.agg ⟨cfgL⟩, .slice (some ⟨w.heap.size, 0, none⟩) k k, .slice none 0 0, .int .i64 5] W fun e w' => e = .returned (.bool true) ∧ Below W.heap.size W w') := Lib.hid fun W => tallies_long W _ k k h3 hN2
        clear h3
        unfold cfgL at HT HND
        go_wp2_with (first | (go_at_call 12; refine (HU.out _).mono ?_; rintro e w2 ⟨rfl, hb2⟩; have HB2 := Lib.hid (nbl_step HB.out hb2); clear hb2) | (go_at_call 18; refine (HND.out _ HB2.out).mono ?_; rintro e w3 ⟨rfl, hb3⟩; have HB3 := Lib.hid (nbl_step HB2.out hb3); clear hb3) | (go_at_call 15; refine (HT.out _).mono ?_; rintro e w4 ⟨rfl, hb4⟩; have HB4 := Lib.hid (nbl_step HB3.out hb4); clear hb4) | (go_at_call 10; refine (known_yes _ (HE.out.below HB4.out)).mono ?_; rintro e w5 ⟨rfl, hb5⟩; have HB5 := Lib.hid (nbl_step HB4.out hb5); clear hb5))
        go_ret
        exact ⟨rfl, HB5.out⟩
      · have d3 : decide ((20000 : Int) < k) = false := decide_eq_false (by omega)
        have HU : Hid (∀ W g2, Below wr.heap.size wr W → g2 < W.heap.size → IRow W g2 1 (fun _ => 0) → Calls Tryz.prog 12 #[.slice (some ⟨w.heap.size, 0, none⟩) k k, .int .i64 1, .slice (some ⟨g2, 0, none⟩) 1 1, .int .i64 0] W fun e w' => e = .returned (.bool true) ∧ Below W.heap.size W w') := Lib.hid fun W g2 hW hg hr =>
          uses_good W _ (mgs k) (SlAt.below HCA.out hW) (by rw [mgs_len]; omega) (mgs_light k) (HE.out.below (nbl_step HB.out hW)) 1 ⟨by omega, by omega⟩ (mgs_ok k) g2 hg (by rw [mgs_used]; exact hr)
        have HT : Hid (∀ W g2, Below wr.heap.size wr W → g2 < W.heap.size → W.cell? ⟨g2, 0, none⟩ = some (.int .i64 0) → W.cell? ⟨g2, 1, none⟩ = some (.int .i64 (k : Int)) → Calls Tryz.prog 15 #[.agg ⟨cfgL⟩, .slice (some ⟨w.heap.size, 0, none⟩) k k, .slice (some ⟨g2, 0, none⟩) 1 1, .int .i64 0] W fun e w' => e = .returned (.bool true) ∧ Below W.heap.size W w') := Lib.hid fun W g2 hW hg k0 k1 =>
          tallies_good W _ k k (SlAt.below HCA.out hW) (by omega) (by omega) (HE.out.below (nbl_step HB.out hW)) g2 hg k0 k1
        clear h3
        unfold cfgL at HT HND
        have hir : IRow (wr.alloc (.cells #[.int .i64 0] 3)) wr.heap.size 1 (fun _ => 0) := IRow.make _ _ _ _ rfl fun i hi => by
          obtain rfl : i = 0 := by omega
          rfl
        have HIR := Lib.hid hir
        clear hir
        go_wp2_with (first | (go_at_call 12; refine (HU.out _ _ (below_alloc _ _) (by simp) HIR.out).mono ?_; rintro e w2 ⟨rfl, hb2⟩; have HB2 := Lib.hid (nbl_step (below_alloc wr (.cells #[.int .i64 0] 3)) hb2); clear hb2) | (go_at_call 18; refine (HND.out _ (nbl_step HB.out HB2.out)).mono ?_; rintro e w3 ⟨rfl, hb3⟩; have HB3 := Lib.hid (nbl_step HB2.out hb3); clear hb3) | (go_at_call 15; refine (HT.out _ _ (nbl_al HB3.out) (by simp) (new_cells _ _ _ 0) (new_cells _ _ _ 1)).mono ?_; rintro e w4 ⟨rfl, hb4⟩; have HB4 := Lib.hid (nbl_step (nbl_al HB3.out) hb4); clear hb4) | (go_at_call 10; refine (known_yes _ (HE.out.below (nbl_step HB.out HB4.out))).mono ?_; rintro e w5 ⟨rfl, hb5⟩; have HB5 := Lib.hid (nbl_step (nbl_step HB.out HB4.out) hb5); clear hb5))
        go_ret
        exact ⟨rfl, HB5.out⟩
end Go.Proofs.YtecnchmcdbcofaaGreatDoor
