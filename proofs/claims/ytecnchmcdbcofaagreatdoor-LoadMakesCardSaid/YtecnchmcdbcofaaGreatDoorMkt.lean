/- strconv.Itoa at a row's world; a source's methods at any world of a law. -/
import Derived.Test.YtecnchmcdbcofaaGreatDoorMkj
import Derived.Lib.LaidTab
import Derived.Lib.AppendIntMem
set_option linter.unusedVariables false
set_option linter.unusedSimpArgs false
namespace Go.Proofs.YtecnchmcdbcofaaGreatDoor
open Go.RowKit Go.MapKept
def Tab (w : World) : Prop := Lib.TabIs Tryz.prog w "internal/strconv.uint64pow10" .u64 Lib.pow10Tab
theorem Tab.below {w w' : World} (h : Tab w) (hb : Below w.heap.size w w') : Tab w' := by
  unfold Tab Lib.TabIs World.var? at h ⊢
  cases hg : Tryz.prog.globalNamed "internal/strconv.uint64pow10" with
  | none => rw [hg] at h; cases h
  | some g =>
    rw [hg] at h
    simp only [Option.bind_some] at h ⊢
    have hlt : g < w.heap.size := by
      rcases Nat.lt_or_ge g w.heap.size with h' | h'
      · exact h'
      · rw [Array.getElem?_eq_none h'] at h; cases h
    rw [hb.block g hlt]
    exact h
theorem itoa_any (w : World) (htab : Tab w) (n : Int) (h0 : -9223372036854775808 ≤ n) (h1 : n ≤ 9223372036854775807) :
    Calls Tryz.prog 55 #[.int .i64 n] w fun e w' => e = .returned (.string (itoaB n)) ∧ Below w.heap.size w w' :=
  (Tryz.strconv_Itoa n h0 h1 w htab).mono fun e w' ⟨h, k, os, hw⟩ => ⟨h, hw ▸ Lib.below_grow _ _ (Nat.le_refl _) _ _⟩
/-- what a source's Next does in all worlds behind w -/
def NextAll (w : World) (c : LC) : Prop := ∀ p, w.heap.size ≤ p → NextOk p c fun W => Below w.heap.size w W
theorem next_all (w : World) (c : LC) (hc : c.Ok) (hT : Tab w) : NextAll w c := fun p hp W s hW hS =>
  next_any W p c s hc hS fun n h0 h1 W' hk => itoa_any W' (hT.below (hW.trans (hk.below hp hW.size))) n (by omega) (by omega)
theorem many_all {w : World} {c : LC} (hc : c.Ok) (hN : NextAll w c) {W : World} {p : Nat} {s : Int} (hp : w.heap.size ≤ p) (hW : Below w.heap.size w W) (hS : SrcAt W p c s) (n : Nat) (hn : n ≤ 20000) :
    Calls Tryz.prog 21 #[.pointer (some ⟨p, 0, none⟩), .int .i64 (n : Int)] W fun e w' => (∃ v, e = .returned (.tuple #[v, .int .i64 0]) ∧ OwnC w' W.heap.size v (callsF c s n)) ∧ Kbut p W w' ∧ SrcAt w' p c (statesF s n) :=
  many_any W p c s hc hS (fun W' s' hk hs' => hN p hp W' s' (hW.trans (hk.below hp hW.size)) hs') n hn
theorem many_bad (w : World) (p : Nat) (c : LC) (s : Int) (hc : c.Ok) (h : SrcAt w p c s) (n : Int) (hn : n < 0 ∨ 20000 < n) :
    Calls Tryz.prog 21 #[.pointer (some ⟨p, 0, none⟩), .int .i64 n] w fun e w' => e = .returned (.tuple #[.slice none 0 0, .int .i64 2]) ∧ w' = w := by
  have HN := Lib.hid (srcnone_any w p c s hc h)
  clear h hc
  by_cases h1 : n < 0
  · have d1 : decide (n < 0) = true := decide_eq_true h1
    clear hn
    go_enter Tryz.func21, Tryz.ntmps21
    go_wp2_with (first | (go_at_call 53; refine HN.out.mono ?_; rintro e w2 ⟨rfl, hw⟩; obtain rfl := hw.symm; clear hw))
    go_ret2
    exact ⟨rfl, rfl⟩
  · have d1 : decide (n < 0) = false := decide_eq_false h1
    have h2 : 20000 < n := by omega
    have d2 : decide (20000 < n) = true := decide_eq_true h2
    clear hn
    go_enter Tryz.func21, Tryz.ntmps21
    go_wp2_with (first | (go_at_call 53; refine HN.out.mono ?_; rintro e w2 ⟨rfl, hw⟩; obtain rfl := hw.symm; clear hw))
    go_ret2
    exact ⟨rfl, rfl⟩
end Go.Proofs.YtecnchmcdbcofaaGreatDoor
