/- The reference's digits: the decimal digits of a number, by recursion. -/
import Derived.Test.YtahklchfchjmcaaDoorRl
import Derived.Test.YtahklchfchjmcaaDoorTs
namespace Go.Proofs.YtahklchfchjmcaaDoor
set_option linter.unusedVariables false
set_option linter.unusedSimpArgs false
open Go.RowKit Go.MapKept

theorem itoaB_small (d : Nat) (h : d < 10) : itoaB d = ⟨#[UInt8.ofNat (48 + d)]⟩ := by
  have : d = 0 ∨ d = 1 ∨ d = 2 ∨ d = 3 ∨ d = 4 ∨ d = 5 ∨ d = 6 ∨ d = 7 ∨ d = 8 ∨ d = 9 := by omega
  rcases this with rfl | rfl | rfl | rfl | rfl | rfl | rfl | rfl | rfl | rfl <;> decide +kernel

set_option maxRecDepth 100000 in
set_option maxHeartbeats 1000000 in
theorem digits_small (w : World) (d : Nat) (h : d < 10) : Calls Tryd.prog 64 #[.int .i64 d] w fun e w' => e = .returned (.string (itoaB d)) ∧ w' = w := by
  have : d = 0 ∨ d = 1 ∨ d = 2 ∨ d = 3 ∨ d = 4 ∨ d = 5 ∨ d = 6 ∨ d = 7 ∨ d = 8 ∨ d = 9 := by omega
  rcases this with rfl | rfl | rfl | rfl | rfl | rfl | rfl | rfl | rfl | rfl
  all_goals
    go_enter Tryd.func64, Tryd.ntmps64
    go_wp2
    go_ret
    exact ⟨congrArg (fun b => Ending.returned (Value.string b)) (by decide +kernel), rfl⟩

theorem itoaB_big (n : Nat) (h : ¬ n < 10) : itoaB n = itoaB ((n / 10 : Nat) : Int) ++ itoaB ((n % 10 : Nat) : Int) := by
  have e : ∀ k : Nat, itoaB (k : Int) = ⟨(Lib.decDigits k).toArray⟩ := fun k => by
    unfold itoaB Lib.itoa
    rw [if_neg (by omega), Int.toNat_natCast]
  rw [e, e, e, Lib.decDigits, dif_neg h, Lib.decDigits_one (i := n % 10) (by omega)]
  apply ByteArray.ext
  simp

set_option maxRecDepth 100000 in
set_option maxHeartbeats 1000000 in
theorem digits_any (n : Nat) (hn : n ≤ 100000) : ∀ w : World, Calls Tryd.prog 64 #[.int .i64 n] w fun e w' => e = .returned (.string (itoaB n)) ∧ w' = w := by
  induction n using Nat.strongRecOn with
  | _ n ih =>
    intro w
    by_cases h : n < 10
    · exact digits_small w n h
    · have ih1 := ih (n / 10) (by omega) (by omega) w
      have ih2 := digits_small w (n % 10) (by omega)
      have hs1 : (itoaB ((n / 10 : Nat) : Int)).size ≤ 21 := itoaB_size _ (by omega) (by omega)
      have hs2 : (itoaB ((n % 10 : Nat) : Int)).size ≤ 21 := itoaB_size _ (by omega) (by omega)
      have hbig := itoaB_big n h
      generalize itoaB ((n / 10 : Nat) : Int) = x at *
      generalize itoaB ((n % 10 : Nat) : Int) = y at *
      have hss : ¬ 9223372036854775807 < x.size + y.size := by omega
      have HB := Lib.hid hbig
      have HI1 := Lib.hid ih1
      have HI2 := Lib.hid ih2
      clear ih ih1 ih2 hbig
      go_enter Tryd.func64, Tryd.ntmps64
      go_wp2_with fail
      rw [show (n : Int) / 10 = ((n / 10 : Nat) : Int) by omega]
      refine HI1.out.mono ?_
      rintro e w1 ⟨rfl, rfl⟩
      go_wp2_with fail
      rw [show (n : Int) % 10 = ((n % 10 : Nat) : Int) by omega]
      refine HI2.out.mono ?_
      rintro e w2 ⟨rfl, rfl⟩
      go_wp2
      go_ret
      exact ⟨by rw [HB.out]; rfl, rfl⟩
end Go.Proofs.YtahklchfchjmcaaDoor
