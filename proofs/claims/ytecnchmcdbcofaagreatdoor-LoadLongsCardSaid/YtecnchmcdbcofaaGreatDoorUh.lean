/- uses. -/
import Derived.Test.YtecnchmcdbcofaaGreatDoorUg
import Derived.Deep.RegionHeld3
import Derived.Deep.RegionWith
import Derived.Deep.RegionLaw
set_option linter.unusedVariables false
set_option linter.unusedSimpArgs false
namespace Go.Proofs.YtecnchmcdbcofaaGreatDoor
open Go.RowKit Go.MapKept
theorem uses_bad (w : World) (v : Value) (l : List CallV) (h : CallsAt w v l) (h6 : l.length ≤ 20000) (hl : LightTo l l.length) (hE : Env w) (m : Int) (hb : l.any badC = true ∨ m < 1 ∨ 1024 < m) :
    Calls Tryz.prog 12 #[v, .int .i64 m, .slice none 0 0, .int .i64 2] w fun e w' => e = .returned (.bool true) ∧ Below w.heap.size w w' := by
  have HA := Lib.hid (use_bad w v l h h6 hl hE m hb)
  obtain ⟨A, cap, rfl, hcap, hcm, hemp⟩ := id h
  clear h hE hl hemp hb
  generalize hN : l.length = N at *
  go_enter Tryz.func12, Tryz.ntmps12
  go_wp2_with (first | (go_at_call 24; refine HA.out.mono ?_; rintro e w1 ⟨rfl, hb⟩; have HB := Lib.hid hb; clear hb))
  go_loop [11] (fun u => u = .int .i64 0) (fun u => 0)
  case atStart => rfl
  case round =>
    obtain rfl := hrel
    go_wp2_with fail
    go_ret
    exact ⟨rfl, HB.out⟩
set_option maxRecDepth 100000 in
set_option maxHeartbeats 400000 in
theorem uses_good (w : World) (v : Value) (l : List CallV) (h : CallsAt w v l) (h6 : l.length ≤ 20000) (hl : LightTo l l.length) (hE : Env w) (M : Nat) (hM : 1 ≤ M ∧ M ≤ 64) (hb : l.any badC = false) (g2 : Nat) (hg2 : g2 < w.heap.size) (hr : IRow w g2 M (usedF M l l.length)) :
    Calls Tryz.prog 12 #[v, .int .i64 (M : Int), .slice (some ⟨g2, 0, none⟩) M M, .int .i64 0] w fun e w' => e = .returned (.bool true) ∧ Below w.heap.size w w' := by
  have HA := Lib.hid (use_any w v l h h6 hl hE M hM hb)
  have HR2 := Lib.hid hr
  have HG2 := Lib.hid hg2
  obtain ⟨A, cap, rfl, hcap, hcm, hemp⟩ := id h
  clear h hE hl hemp hb hr hg2
  obtain ⟨hM1, hM2⟩ := hM
  obtain ⟨N, hN⟩ : ∃ N, l.length = N := ⟨_, rfl⟩
  have HN := Lib.hid hN
  rw [hN] at hcap h6 HA HR2 ⊢
  clear hN
  generalize usedF (M : Int) l N = f at HA HR2
  go_enter Tryz.func12, Tryz.ntmps12
  go_wp2_with (first | (go_at_call 24; refine HA.out.mono ?_; rintro e w1 ⟨⟨g, rfl, hg1, hg2, hr⟩, hb⟩; have HB := Lib.hid hb; have HG := Lib.hid hg2; have HR := Lib.hid hr; clear hb hg1 hg2 hr))
  go_loopg [11] M (fun gf u wx => ∃ i : Nat, u = .int .i64 (i : Int) ∧ i + gf = M ∧ Below w1.heap.size w1 wx)
  case atStart => exact ⟨0, rfl, by omega, Below.refl _ _⟩
  case round =>
    obtain ⟨i, rfl, hi, hbw⟩ := hrel
    have HW := Lib.hid hbw
    by_cases hlt : i < M
    · obtain ⟨g', rfl⟩ : ∃ g', gk = g' + 1 := ⟨gk - 1, by omega⟩
      have r1 := (HR.out.below hbw HG.out).cell i hlt
      have r2 := ((HR2.out.below HB.out HG2.out).below hbw (Nat.lt_of_lt_of_le HG2.out HB.out.size)).cell i hlt
      clear hbw
      go_wp2_with fail
      go_quiet (fail)
      go_wp2_with fail
      go_roundg g'
      case measure => omega
      case rel => exact ⟨i + 1, by go_num, by omega, nbl_drewN HW.out⟩
    · clear hbw
      go_wp2_with fail
      go_ret
      exact ⟨rfl, nbl_step HB.out HW.out⟩
end Go.Proofs.YtecnchmcdbcofaaGreatDoor
