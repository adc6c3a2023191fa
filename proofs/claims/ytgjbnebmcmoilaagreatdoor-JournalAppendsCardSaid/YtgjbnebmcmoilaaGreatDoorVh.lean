/- JournalAppends: true. -/
import Derived.Test.YtgjbnebmcmoilaaGreatDoorXe
import Derived.Test.YtgjbnebmcmoilaaGreatDoorOd
namespace Go.Proofs.YtgjbnebmcmoilaaGreatDoor
set_option linter.unusedVariables false
set_option linter.unusedSimpArgs false
open Go.RowKit Go.MapKept
theorem okN_nat {r s i o : Int} (h : okN r s i o = true) : ∃ S : Nat, s = (S : Int) := by
  unfold okN at h
  rw [Bool.and_eq_true] at h
  have := okT_true h.1
  exact ⟨s.toNat, by omega⟩
theorem appends_any (r s i o : Int) (v : Value) (l : List JC) (at_ cut : Int) (w : World) (h : JSl w v l) (hA : ∀ x ∈ l, ArgC w x) (hat : (Lit.int .u8 at_).wf = true) (hE : Env1 w) :
    Calls Tryz.prog 5 #[.agg #[.int .i64 r, .int .i64 s, .int .i64 i, .int .i64 o], v, .int .u8 at_, .int .i64 cut] w fun e w' => e = .returned (.bool true) ∧ Below w.heap.size w w' := by
  cases hl : lightB l 30 with
  | false => exact appends_heavy w hE r s i o v l h hl at_ cut
  | true =>
    cases hok : okN r s i o with
    | false => exact appends_bad w hE r s i o v l h hl hok at_ cut
    | true =>
      obtain ⟨S, rfl⟩ := okN_nat hok
      have h8 := wf_u8_of hat
      exact appends_good w hE r S i o v l h hA hl hok at_ h8.1 (by omega) cut
end Go.Proofs.YtgjbnebmcmoilaaGreatDoor
