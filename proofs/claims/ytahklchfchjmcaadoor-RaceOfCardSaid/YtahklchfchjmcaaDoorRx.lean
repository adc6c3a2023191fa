/- What the functions of package race compute, further: what is wrong with accesses; an access happens to the clocks. -/
import Derived.Test.YtahklchfchjmcaaDoorRw
namespace Go.Proofs.YtahklchfchjmcaaDoor
set_option linter.unusedVariables false
set_option linter.unusedSimpArgs false
open Go.RowKit Go.MapKept

def Acc.cells (x : Acc) : List Value := [.int .i64 x.task, .int .i64 x.kind, .string x.var]
abbrev AccAt := SlAt 3 Acc.cells

theorem okAcc_iff (a : Acc) : okAcc a = true ↔ 0 ≤ a.task ∧ a.task ≤ 9999 ∧ 1 ≤ a.kind ∧ a.kind ≤ 4 ∧ 1 ≤ a.var.size ∧ a.var.size ≤ 64 := by
  simp [okAcc, and_assoc]

theorem task_yes (n : Int) (w : World) (h : 0 ≤ n ∧ n ≤ 9999) : Calls Tryd.prog 67 #[.int .i64 n] w fun e w' => e = .returned (.bool true) ∧ w = w' :=
  (task_any n w).mono fun e w' ⟨h1, h2⟩ => ⟨by rw [h1]; simp [h], h2⟩
theorem task_no (n : Int) (w : World) (h : ¬ (0 ≤ n ∧ n ≤ 9999)) : Calls Tryd.prog 67 #[.int .i64 n] w fun e w' => e = .returned (.bool false) ∧ w = w' :=
  (task_any n w).mono fun e w' ⟨h1, h2⟩ => ⟨by rw [h1]; simp only [Ending.returned.injEq, Value.bool.injEq]; rw [← Bool.decide_and]; exact decide_eq_false h, h2⟩

set_option maxRecDepth 100000 in
set_option maxHeartbeats 1000000 in
theorem wrong_any (w : World) (v : Value) (l : List Acc) (hl : AccAt w v l) :
    Calls Tryd.prog 47 #[v] w fun e w' => e = .returned (.int .i64 (wrongF l)) ∧ Below w.heap.size w w' := by
  have hl0 := hl
  obtain ⟨A, cap, rfl, hlen, hmax, hcells⟩ := hl
  by_cases hlong : 20000 < l.length
  · have hw : wrongF l = 5 := by unfold wrongF; rw [if_pos hlong]
    have HW := Lib.hid hw
    clear hw hcells hl0
    go_enter Tryd.func47, Tryd.ntmps47
    go_wp2
    go_ret
    exact ⟨by rw [HW.out]; rfl, Below.refl _ _⟩
  · have hlong' : decide ((20000 : Int) < (l.length : Int)) = false := by simp; omega
    have HL := Lib.hid hlong
    clear hlong
    go_enter Tryd.func47, Tryd.ntmps47
    go_wp2
    go_loopw [10] (fun i wr => ∃ k : Nat, k ≤ l.length ∧ i = .int .i64 k ∧ Below w.heap.size w wr ∧ ∀ j (hj : j < k) (hj' : j < l.length), okAcc l[j] = true) (fun i _ => l.length - (intOf i).toNat)
    case atStart => exact ⟨0, by omega, rfl, Below.refl _ _, fun j hj => absurd hj (by omega)⟩
    case round =>
      obtain ⟨k, hk, rfl, hb, hno⟩ := hrel
      by_cases hlt : k < l.length
      · obtain ⟨bb, off, rfl, hcs⟩ := (hl0.below hb).elem hlt
        have hc0 := hcs 0 _ rfl
        have hc1 := hcs 1 _ rfl
        have hc2 := hcs 2 _ rfl
        rw [Nat.add_zero] at hc0
        have hiff := okAcc_iff l[k]
        have hwr : okAcc l[k] = false → wrongF l = 2 := fun h => by
          unfold wrongF
          rw [if_neg HL.out, if_neg]
          intro h'
          have := List.all_eq_true.1 h' l[k] (List.getElem_mem hlt)
          rw [h] at this
          cases this
        generalize ea : l[k] = x at *
        have HN := Lib.hid hno
        have HE := Lib.hid ea
        have HI := Lib.hid hiff
        have HWr := Lib.hid hwr
        obtain ⟨xt, xk, xv⟩ := x
        dsimp only at hc0 hc1 hc2
        have hvs : xv.size ≤ 9223372036854775807 ∨ 9223372036854775807 < xv.size := by omega
        clear hcs hcells hl0 hno ea hiff hwr
        by_cases ht : 0 ≤ xt ∧ xt ≤ 9999
        · by_cases hk1 : 1 ≤ xk
          · by_cases hk2 : xk ≤ 4
            · by_cases hv1 : 1 ≤ xv.size
              · by_cases hv2 : xv.size ≤ 64
                · go_wp2_with (go_at_call 67; refine (task_yes _ _ ht).mono ?_; rintro e w' ⟨rfl, rfl⟩)
                  go_roundw
                  case rel =>
                    refine ⟨k + 1, by omega, by go_num, hb.alloc hb.size _, fun j hj hj' => ?_⟩
                    by_cases e : j = k
                    · subst e; rw [HE.out]; exact HI.out.2 ⟨ht.1, ht.2, hk1, hk2, hv1, hv2⟩
                    · exact HN.out j (by omega) hj'
                  case measure => simp [intOf]; omega
                · go_wp2_with (go_at_call 67; refine (task_yes _ _ ht).mono ?_; rintro e w' ⟨rfl, rfl⟩)
                  go_ret
                  exact ⟨by rw [HWr.out (by rw [← Bool.not_eq_true, HI.out]; omega)]; rfl, hb.alloc hb.size _⟩
              · go_wp2_with (go_at_call 67; refine (task_yes _ _ ht).mono ?_; rintro e w' ⟨rfl, rfl⟩)
                go_ret
                exact ⟨by rw [HWr.out (by rw [← Bool.not_eq_true, HI.out]; omega)]; rfl, hb.alloc hb.size _⟩
            · go_wp2_with (go_at_call 67; refine (task_yes _ _ ht).mono ?_; rintro e w' ⟨rfl, rfl⟩)
              go_ret
              exact ⟨by rw [HWr.out (by rw [← Bool.not_eq_true, HI.out]; omega)]; rfl, hb.alloc hb.size _⟩
          · go_wp2_with (go_at_call 67; refine (task_yes _ _ ht).mono ?_; rintro e w' ⟨rfl, rfl⟩)
            go_ret
            exact ⟨by rw [HWr.out (by rw [← Bool.not_eq_true, HI.out]; omega)]; rfl, hb.alloc hb.size _⟩
        · go_wp2_with (go_at_call 67; refine (task_no _ _ ht).mono ?_; rintro e w' ⟨rfl, rfl⟩)
          go_ret
          exact ⟨by rw [HWr.out (by rw [← Bool.not_eq_true, HI.out]; omega)]; rfl, hb.alloc hb.size _⟩
      · have HN := Lib.hid hno
        clear hno hl0 hcells
        go_wp2
        go_ret
        refine ⟨?_, hb⟩
        have : wrongF l = 0 := by
          unfold wrongF
          rw [if_neg HL.out, if_pos]
          rw [List.all_eq_true]
          intro x hx
          obtain ⟨j, hj, rfl⟩ := List.getElem_of_mem hx
          exact HN.out j (by omega) hj
        rw [this]; rfl
end Go.Proofs.YtahklchfchjmcaaDoor
