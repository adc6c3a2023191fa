/- decimal: run by the evaluator at every number below 1000. -/
import Derived.Test.YtecnchmcdbcofaaGreatDoorMkb
set_option linter.unusedVariables false
set_option linter.unusedSimpArgs false
namespace Go.Proofs.YtecnchmcdbcofaaGreatDoor
open Go.RowKit
def digB (n : Nat) : List UInt8 :=
  if n < 10 then [UInt8.ofNat (48 + n)] else if n < 100 then [UInt8.ofNat (48 + n / 10), UInt8.ofNat (48 + n % 10)] else [UInt8.ofNat (48 + n / 100), UInt8.ofNat (48 + n / 10 % 10), UInt8.ofNat (48 + n % 10)]
theorem digB_itoa (n : Nat) (h : n < 1000) : itoaB (n : Int) = ⟨⟨digB n⟩⟩ := by
  unfold digB
  by_cases h1 : n < 10
  · rw [if_pos h1, itoaB_small n h1]
  · rw [if_neg h1, itoaB_big n h1, itoaB_small (n % 10) (by omega)]
    by_cases h2 : n < 100
    · rw [if_pos h2, itoaB_small (n / 10) (by omega)]
      rfl
    · rw [if_neg h2, itoaB_big (n / 10) (by omega), itoaB_small (n / 10 / 10) (by omega), itoaB_small (n / 10 % 10) (by omega), Nat.div_div_eq_div_mul]
      rfl
def eqBytes : List UInt8 → List UInt8 → Bool
  | [], [] => true
  | a :: l, b :: k => Nat.beq a.toNat b.toNat && eqBytes l k
  | _, _ => false
theorem eqBytes_eq : ∀ {l k : List UInt8}, eqBytes l k = true → l = k
  | [], [], _ => rfl
  | a :: l, b :: k, h => by
    simp only [eqBytes, Bool.and_eq_true] at h
    have := Nat.eq_of_beq_eq_true h.1
    rw [UInt8.toNat_inj.1 this, eqBytes_eq h.2]
  | [], _ :: _, h => by cases h
  | _ :: _, [], h => by cases h
noncomputable def decOk (m : Int) (n : Nat) : Bool :=
  match Ax.callB gv 100000 63 [.int .i64 (n : Int)] (st0 m).nx (st0 m) with
  | some (.string ⟨⟨l⟩⟩, _) => eqBytes l (digB n)
  | _ => false
noncomputable def decAll (m : Int) (a : Nat) : Nat → Bool
  | 0 => true
  | k + 1 => decOk m (a + k) && decAll m a k
theorem dec_at {m : Int} {a : Nat} : ∀ {k : Nat}, decAll m a k = true → ∀ n, a ≤ n → n < a + k → decOk m n = true
  | 0, _, n, h1, h2 => absurd h2 (by omega)
  | k + 1, h, n, h1, h2 => by
    rw [decAll, Bool.and_eq_true] at h
    by_cases e : n = a + k
    · subst e; exact h.1
    · exact dec_at h.2 n h1 (by omega)
theorem dec_run {m : Int} {n : Nat} (h : decOk m n = true) : (Ax.callB gv 100000 63 [.int .i64 (n : Int)] (st0 m).nx (st0 m)).map (·.1) = some (.string ⟨⟨digB n⟩⟩) := by
  unfold decOk at h
  generalize Ax.callB gv 100000 63 [.int .i64 (n : Int)] (st0 m).nx (st0 m) = x at *
  match x, h with
  | some (.string ⟨⟨l⟩⟩, σ), h => rw [eqBytes_eq h]; rfl
theorem dec10 (m : Int) : decAll m 0 10 = true := by kernel_rfl
/-- decimal at one digit (at more its region draws the order of a call and a new slice: the evaluator says none). -/
theorem decimal_one (n : Nat) (h : n < 10) (w : World) (hE : Env w) : Calls Tryz.prog 63 #[.int .i64 (n : Int)] w fun e w' => e = .returned (.string (itoaB n)) ∧ Below w.heap.size w w' := by
  rw [digB_itoa n (by omega)]
  exact env_call (by rfl) (by rfl) (fun m => dec_run (dec_at (dec10 m) n (by omega) (by omega))) hE
end Go.Proofs.YtecnchmcdbcofaaGreatDoor
