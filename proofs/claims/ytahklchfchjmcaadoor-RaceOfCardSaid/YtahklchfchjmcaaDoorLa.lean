/- The law's helpers: of. -/
import Derived.Test.YtahklchfchjmcaaDoorRl
namespace Go.Proofs.YtahklchfchjmcaaDoor
set_option linter.unusedVariables false
set_option linter.unusedSimpArgs false
open Go.RowKit Go.MapKept

def kindOf (k : Int) : Int := if k = 114 then 1 else if k = 119 then 2 else if k = 97 then 3 else 4

set_option maxRecDepth 100000 in
theorem law_of (w : World) (n k : Int) (x : ByteArray) :
    Calls Tryd.prog 23 #[.int .i64 n, .int .u8 k, .string x] w fun e w' => e = .returned (.agg #[.int .i64 n, .int .i64 (kindOf k), .string x]) ∧ Below w.heap.size w w' := by
  by_cases h1 : k = 114
  · subst h1
    go_enter Tryd.func23, Tryd.ntmps23
    go_wp2
    refine bodyPost_ret (results_cell_row rfl _ _ w.heap.size _ _ _ _ rfl (heap_alloc_new w _) Tryd.underlying55 rfl (by kernel_rfl)) rfl ?_
    exact ⟨by simp [kindOf], (Below.refl _ _).alloc (Nat.le_refl _) _⟩
  · by_cases h2 : k = 119
    · subst h2
      go_enter Tryd.func23, Tryd.ntmps23
      go_wp2
      refine bodyPost_ret (results_cell_row rfl _ _ w.heap.size _ _ _ _ rfl (heap_alloc_new w _) Tryd.underlying55 rfl (by kernel_rfl)) rfl ?_
      exact ⟨by simp [kindOf], (Below.refl _ _).alloc (Nat.le_refl _) _⟩
    · by_cases h3 : k = 97
      · subst h3
        go_enter Tryd.func23, Tryd.ntmps23
        go_wp2
        refine bodyPost_ret (results_cell_row rfl _ _ w.heap.size _ _ _ _ rfl (heap_alloc_new w _) Tryd.underlying55 rfl (by kernel_rfl)) rfl ?_
        exact ⟨by simp [kindOf], (Below.refl _ _).alloc (Nat.le_refl _) _⟩
      · have e1 : (k == 114) = false := by simp [h1]
        have e2 : (k == 119) = false := by simp [h2]
        have e3 : (k == 97) = false := by simp [h3]
        have HK := Lib.hid (And.intro h1 (And.intro h2 h3))
        clear h1 h2 h3
        go_enter Tryd.func23, Tryd.ntmps23
        go_wp2
        refine bodyPost_ret (results_cell_row rfl _ _ w.heap.size _ _ _ _ rfl (heap_alloc_new w _) Tryd.underlying55 rfl (by kernel_rfl)) rfl ?_
        exact ⟨by simp [kindOf, HK.out.1, HK.out.2.1, HK.out.2.2], (Below.refl _ _).alloc (Nat.le_refl _) _⟩
end Go.Proofs.YtahklchfchjmcaaDoor
