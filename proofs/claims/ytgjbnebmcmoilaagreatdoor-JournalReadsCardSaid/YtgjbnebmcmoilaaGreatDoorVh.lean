/- Bytes that read as one, with the form of their address. JournalReads: true. -/
import Derived.Test.YtgjbnebmcmoilaaGreatDoorOd
import Derived.Test.YtgjbnebmcmoilaaGreatDoorVk
import Derived.Test.YtgjbnebmcmoilaaGreatDoorZd
namespace Go.Proofs.YtgjbnebmcmoilaaGreatDoor
set_option linter.unusedVariables false
set_option linter.unusedSimpArgs false
open Go.ChangeShapes Go.WideShapes Go.ChangeAt Go.RowKit Go.Deep
def BForm (W : World) (v : Value) (l : Bs) : Prop := ∃ A n c, v = .slice A n c ∧ BAt W (.slice A n c) l ∧ FormB A c
set_option maxRecDepth 100000 in
theorem open_bytesf {H : Type} {enc : TypeId × Value → H} {W : World} {base : Nat} {r : Reach} {v : Value} {d : DataW H} {p : List MemPlace} (hv : Value.okWide Tryz.prog W r base 31 v) (h : DataW.Trod enc Tryz.prog W 0 (fun _ => true) true 31 v d p) : ∃ l : Bs, BForm W v l := by
  obtain ⟨l, hl⟩ := open_bytes hv h
  obtain ⟨A, n, c, rfl⟩ := okWide_slice Tryz.underlying31 hv
  refine ⟨l, A, n, c, rfl, hl, ?_⟩
  simp only [Value.okWide, Tryz.underlying31, Cell.okWide] at hv
  cases A with
  | none =>
    refine Or.inl ⟨rfl, ?_⟩
    unfold Cell.ok at hv
    rw [Tryz.underlying31] at hv
    split at hv <;> simp_all
  | some a =>
    obtain ⟨b, off, sp⟩ := a
    refine Or.inr ⟨b, off, ?_⟩
    unfold Cell.ok at hv
    rw [Tryz.underlying31] at hv
    have h3 := hv.2.2.2.1
    dsimp only at h3
    rw [h3]
theorem wf_u16_of {n : Int} (h : (Lit.int .u16 n).wf = true) : 0 ≤ n ∧ n ≤ 65535 := by
  simp only [Lit.wf, Bool.and_eq_true, decide_eq_true_eq] at h
  have h1 : IntKind.u16.min = 0 := by decide
  have h2 : IntKind.u16.max = 65535 := by decide
  omega
end Go.Proofs.YtgjbnebmcmoilaaGreatDoor
namespace Go.Proofs.YtgjbnebmcmoilaaGreatDoor
set_option linter.unusedVariables false
set_option linter.unusedSimpArgs false
open Go.RowKit Go.MapKept
theorem jreads_any (r s i o : Int) (vb : Value) (b : Bs) (v : Value) (l : List JC) (at_ less : Int) (w : World) (hb : BForm w vb b) (h : JSl w v l) (hA : ∀ x ∈ l, ArgC w x) (hat : (Lit.int .u16 at_).wf = true) (hle : (Lit.int .u16 less).wf = true) (hE : Env1 w) :
    Calls Tryz.prog 4 #[.agg #[.int .i64 r, .int .i64 s, .int .i64 i, .int .i64 o], vb, v, .int .u16 at_, .int .u16 less] w fun e w' => e = .returned (.bool true) ∧ Below w.heap.size w w' := by
  obtain ⟨A, m, c, rfl, hba, hf⟩ := hb
  by_cases hm : 300 < m
  · exact jreads_long w hE r s i o A m c v at_ less hm
  · cases hl : lightB l 20 with
    | false => exact jreads_heavy w hE r s i o A m c v l h hl at_ less (by omega)
    | true =>
      cases hok : okN r s i o with
      | false => exact jreads_bad w hE r s i o A m c v l h hl hok at_ less (by omega)
      | true =>
        obtain ⟨S, rfl⟩ : ∃ S : Nat, s = (S : Int) := by
          have h1 := hok
          unfold okN at h1
          rw [Bool.and_eq_true] at h1
          have := okT_true h1.1
          exact ⟨s.toNat, by omega⟩
        have h8 := wf_u16_of hat
        have h9 := wf_u16_of hle
        obtain ⟨a, rfl⟩ : ∃ a : Nat, at_ = (a : Int) := ⟨at_.toNat, by omega⟩
        obtain ⟨ls, rfl⟩ : ∃ a : Nat, less = (a : Int) := ⟨less.toNat, by omega⟩
        exact jreads_good w hE r S i o A m c b hba hf (by omega) v l h hA hl hok a ls (by omega) (by omega)
end Go.Proofs.YtgjbnebmcmoilaaGreatDoor
