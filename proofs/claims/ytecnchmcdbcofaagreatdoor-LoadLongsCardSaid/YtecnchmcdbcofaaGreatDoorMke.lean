/- decimal: one digit more. -/
import Derived.Test.YtecnchmcdbcofaaGreatDoorMkd
import Derived.Deep.RegionLaw
import Derived.Laws.BytesArg
import Derived.Laws.IdiomStrings
import Derived.Laws.Concat
set_option linter.unusedVariables false
set_option linter.unusedSimpArgs false
namespace Go.Proofs.YtecnchmcdbcofaaGreatDoor
open Go.RowKit Go.MapKept
set_option maxRecDepth 100000 in
set_option maxHeartbeats 1000000 in
theorem decimal_step (n : Nat) (h10 : 10 ≤ n) (h : n < 1000) (w : World) (hD : ∀ W, Env W → Calls Tryz.prog 63 #[.int .i64 ((n / 10 : Nat) : Int)] W fun e w' => e = .returned (.string (itoaB ((n / 10 : Nat) : Int))) ∧ Below W.heap.size W w') (hE : Env w) : Calls Tryz.prog 63 #[.int .i64 (n : Int)] w fun e w' => e = .returned (.string (itoaB n)) ∧ Below w.heap.size w w' := by
  have HD : Hid (∀ W, Below w.heap.size w W → Calls Tryz.prog 63 #[.int .i64 ((n / 10 : Nat) : Int)] W fun e w' => e = .returned (.string (itoaB ((n / 10 : Nat) : Int))) ∧ Below W.heap.size W w') := Lib.hid fun W hW => hD W (hE.below hW)
  have HBG : Hid (itoaB (n : Int) = itoaB ((n / 10 : Nat) : Int) ++ itoaB ((n % 10 : Nat) : Int)) := Lib.hid (itoaB_big n (by omega))
  have HSZ : Hid ((itoaB ((n / 10 : Nat) : Int)).size ≤ 21) := Lib.hid (itoaB_size _ (by omega) (by omega))
  have HLT : Hid (n % 10 < 10) := Lib.hid (by omega)
  have d1 : decide ((n : Int) < 10) = false := decide_eq_false (by omega)
  have e1 : IntKind.i64.wrap ((n : Int) / 10) = ((n / 10 : Nat) : Int) := by rw [IntKind.wrap_i64]; omega
  have e2 : ((n : Int).tmod 10) = ((n % 10 : Nat) : Int) := by rw [Int.tmod_eq_emod_of_nonneg (by omega)]; omega
  have e3 : IntKind.i64.wrap (48 + ((n % 10 : Nat) : Int)) = 48 + ((n % 10 : Nat) : Int) := by rw [IntKind.wrap_i64]; omega
  have e4 : IntKind.u8.wrap (48 + ((n % 10 : Nat) : Int)) = 48 + ((n % 10 : Nat) : Int) := by simp [IntKind.wrap, IntKind.bits, IntKind.signed]; omega
  have hr : n % 10 < 10 := by omega
  generalize itoaB (n : Int) = R at *
  generalize itoaB ((n / 10 : Nat) : Int) = S at *
  generalize n / 10 = k at *
  generalize n % 10 = r at *
  have hcv : ∀ (W : World) (p : Nat), W.cell? ⟨p, 0, none⟩ = some (.int .u8 (48 + (r : Int))) → (convert 31 9 (.slice (some ⟨p, 0, none⟩) 1 1)).run Tryz.prog W = .ok (.string ⟨#[UInt8.ofNat (48 + r)]⟩) W := fun W p hc => by
    refine run_convert_bytes_back W 31 9 5 ⟨p, 0, none⟩ 1 [UInt8.ofNat (48 + r)] (by kernel_rfl) (by kernel_rfl) (by kernel_rfl) fun j hj => ?_
    have hj0 : j = 0 := by simpa using hj
    subst hj0
    have e : (UInt8.ofNat (48 + r)).toNat = 48 + r := by
      rw [UInt8.toNat_ofNat']
      omega
    show W.cell? ((⟨p, 0, none⟩ : Addr).add 0) = some (.int .u8 ((UInt8.ofNat (48 + r)).toNat : Int))
    rw [e]
    exact hc
  have HCV := Lib.hid hcv
  have hcn : ∀ W : World, (convert 31 9 (.slice (some ⟨W.heap.size, 0, none⟩) 1 1)).run Tryz.prog (W.alloc (.cells #[.int .u8 (48 + (r : Int))] 5)) = .ok (.string ⟨#[UInt8.ofNat (48 + r)]⟩) (W.alloc (.cells #[.int .u8 (48 + (r : Int))] 5)) := fun W => hcv _ _ (new_cells W _ _ 0)
  have hcd : (convert 31 9 (.slice (some ⟨w.heap.size, 0, none⟩) 1 1)).run Tryz.prog (w.alloc (.cells #[.int .u8 (48 + (r : Int))] 5)).drew = .ok (.string ⟨#[UInt8.ofNat (48 + r)]⟩) (w.alloc (.cells #[.int .u8 (48 + (r : Int))] 5)).drew := hcv _ _ (new_cells w _ _ 0)
  have hsz : ¬ (9223372036854775807 < S.size + 1) := by have := HSZ.out; omega
  have HX : Hid (itoaB (r : Int) = ⟨#[UInt8.ofNat (48 + r)]⟩) := Lib.hid (itoaB_small r hr)
  clear hcv
  generalize UInt8.ofNat (48 + r) = x at *
  clear hD hE h10
  go_enter Tryz.func63, Tryz.ntmps63
  go_wp2_with fail
  go_region_law
    ((go_simp; refine (HD.out _ (by first | exact (Below.refl _ w).drew | exact nbl_al (Below.refl _ w).drew | exact (nbl_al (Below.refl _ w)).drew)).mono ?_; rintro e w8 ⟨rfl, hb⟩; have HB8 := Lib.hid hb; (try have hq : (convert 31 9 (.slice (some ⟨w.heap.size, 0, none⟩) 1 1)).run Tryz.prog w8 = .ok (.string ⟨#[x]⟩) w8 := HCV.out _ _ (cell_below hb (new_cells w.drew _ _ 0))); clear hb; dsimp only))
  all_goals
    go_wp2_with fail
    go_ret
    refine ⟨?_, ?_⟩
    · rw [HBG.out, HX.out]
      rfl
    · first
        | exact nbl_al (nbl_step (Below.refl _ w).drew HB8.out)
        | exact nbl_step (nbl_al (Below.refl _ w).drew) HB8.out
        | exact nbl_step (nbl_al (Below.refl _ w)).drew HB8.out
/-- The law's decimal, below 1000. -/
theorem decimal_any (n : Nat) (h : n < 1000) (w : World) (hE : Env w) : Calls Tryz.prog 63 #[.int .i64 (n : Int)] w fun e w' => e = .returned (.string (itoaB n)) ∧ Below w.heap.size w w' := by
  by_cases h1 : n < 10
  · exact decimal_one n h1 w hE
  · refine decimal_step n (by omega) h w (fun W hW => ?_) hE
    by_cases h2 : n / 10 < 10
    · exact decimal_one (n / 10) h2 W hW
    · exact decimal_step (n / 10) (by omega) (by omega) W (fun W2 hW2 => decimal_one (n / 10 / 10) (by omega) W2 hW2) hW
end Go.Proofs.YtecnchmcdbcofaaGreatDoor
