/- JournalNone: true. -/
import Derived.Test.YtolfflaenjcpcaaGreatDoorJn
import Derived.Test.YtolfflaenjcpcaaGreatDoorKa
namespace Go.Proofs.YtolfflaenjcpcaaGreatDoor
set_option linter.unusedVariables false
open Go.RowKit
theorem vars_below {w w' : World} {l : List (Nat × List Value)} (h : Ax.VarsAre w l) (hb : Below w.heap.size w w') : Ax.VarsAre w' l := fun p hp => by
  obtain ⟨h1, arr, ty, fr, rest, h2, h3⟩ := h p hp
  exact ⟨h1, arr, ty, fr, rest, (hb.block p.1 (Array.getElem?_eq_some_iff.1 h2).1).trans h2, h3⟩
theorem Env1.below {w w' : World} (h : Env1 w) (hb : Below w.heap.size w w') : Env1 w' := by
  obtain ⟨m, hv, hs⟩ := h
  exact ⟨m, vars_below hv hb, Nat.le_trans hs hb.size⟩
theorem Env.below {w w' : World} (h : Env w) (hb : Below w.heap.size w w') : Env w' := by
  obtain ⟨m, hv, hs⟩ := h
  exact ⟨m, vars_below hv hb, Nat.le_trans hs hb.size⟩
theorem journalNone_row (o q : Int) (k t j : ByteArray) (A : Option Addr) (n c : Nat) (x : Int) (w : World) (hE : Env1 w) :
    Calls Tryz.prog 5 #[.agg #[.int .i64 o, .string k, .string t, .string j, .int .i64 q, .slice A n c], .int .i64 x] w fun e w' => e = .returned (.bool true) ∧ Below w.heap.size w w' :=
  journalNone_of o q k t j A n c x w (by obtain ⟨_, _, h⟩ := hE; exact h) fun W hb => known41_yes W (hE.below hb)
end Go.Proofs.YtolfflaenjcpcaaGreatDoor
