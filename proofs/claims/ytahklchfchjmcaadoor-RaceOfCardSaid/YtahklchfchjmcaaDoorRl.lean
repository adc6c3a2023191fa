/- The small functions of the statements on races. -/
import Derived.Test.YtahklchfchjmcaaDoorRk
import Derived.Test.YtahklchfchjmcaaDoorCh
namespace Go.Proofs.YtahklchfchjmcaaDoor
set_option linter.unusedVariables false
set_option linter.unusedSimpArgs false
open Go.RowKit Go.MapKept

set_option maxRecDepth 100000 in
set_option maxHeartbeats 1000000 in
theorem rwrong_any (w : World) (v : Value) (l : List Acc) (hl : AccAt w v l) :
    Calls Tryd.prog 18 #[v] w fun e w' => e = .returned (.int .i64 (wrongF l)) ∧ Below w.heap.size w w' := by
  have hl0 := hl
  obtain ⟨A, cap, rfl, hlen, hmax, hcells⟩ := hl
  by_cases hlong : 20000 < l.length
  · have hw : wrongF l = 5 := by unfold wrongF; rw [if_pos hlong]
    have HW := Lib.hid hw
    clear hw hcells hl0
    go_enter Tryd.func18, Tryd.ntmps18
    go_wp2
    go_ret
    exact ⟨by rw [HW.out]; rfl, Below.refl _ _⟩
  · have hlong' : decide ((20000 : Int) < (l.length : Int)) = false := by simp; omega
    have HL := Lib.hid hlong
    clear hlong
    go_enter Tryd.func18, Tryd.ntmps18
    go_wp2
    go_loopw [3] (fun i wr => ∃ k : Nat, k ≤ l.length ∧ i = .int .i64 k ∧ Below w.heap.size w wr ∧ ∀ j (hj : j < k) (hj' : j < l.length), okAcc l[j] = true) (fun i _ => l.length - (intOf i).toNat)
    case atStart => exact ⟨0, by omega, rfl, Below.refl _ _, fun j hj => absurd hj (by omega)⟩
    case round =>
      obtain ⟨k, hk, rfl, hb, hno⟩ := hrel
      by_cases hlt : k < l.length
      · obtain ⟨bb, off, rfl, hcs⟩ := (hl0.below hb).elem hlt
        have hc0 := hcs 0 _ rfl
        have hc1 := hcs 1 _ rfl
        have hc2 := hcs 2 _ rfl
        rw [Nat.add_zero] at hc0
        have hiff := okAcc_iff l[k]
        have hwr : okAcc l[k] = false → wrongF l = 2 := fun h => by
          unfold wrongF
          rw [if_neg HL.out, if_neg]
          intro h'
          have := List.all_eq_true.1 h' l[k] (List.getElem_mem hlt)
          rw [h] at this
          cases this
        generalize ea : l[k] = x at *
        have HN := Lib.hid hno
        have HE := Lib.hid ea
        have HI := Lib.hid hiff
        have HWr := Lib.hid hwr
        obtain ⟨xt, xk, xv⟩ := x
        dsimp only at hc0 hc1 hc2
        have hvs : xv.size ≤ 9223372036854775807 ∨ 9223372036854775807 < xv.size := by omega
        clear hcs hcells hl0 hno ea hiff hwr
        by_cases ht : 0 ≤ xt ∧ xt ≤ 9999
        · by_cases hk1 : 1 ≤ xk
          · by_cases hk2 : xk ≤ 4
            · by_cases hv1 : 1 ≤ xv.size
              · by_cases hv2 : xv.size ≤ 64
                · go_wp2_with (go_at_call 44; refine (rtask_yes _ _ ht).mono ?_; rintro e w' ⟨rfl, rfl⟩)
                  go_roundw
                  case rel =>
                    refine ⟨k + 1, by omega, by go_num, hb, fun j hj hj' => ?_⟩
                    by_cases e : j = k
                    · subst e; rw [HE.out]; exact HI.out.2 ⟨ht.1, ht.2, hk1, hk2, hv1, hv2⟩
                    · exact HN.out j (by omega) hj'
                  case measure => simp [intOf]; omega
                · go_wp2_with (go_at_call 44; refine (rtask_yes _ _ ht).mono ?_; rintro e w' ⟨rfl, rfl⟩)
                  go_ret
                  exact ⟨by rw [HWr.out (by rw [← Bool.not_eq_true, HI.out]; omega)]; rfl, hb⟩
              · go_wp2_with (go_at_call 44; refine (rtask_yes _ _ ht).mono ?_; rintro e w' ⟨rfl, rfl⟩)
                go_ret
                exact ⟨by rw [HWr.out (by rw [← Bool.not_eq_true, HI.out]; omega)]; rfl, hb⟩
            · go_wp2_with (go_at_call 44; refine (rtask_yes _ _ ht).mono ?_; rintro e w' ⟨rfl, rfl⟩)
              go_ret
              exact ⟨by rw [HWr.out (by rw [← Bool.not_eq_true, HI.out]; omega)]; rfl, hb⟩
          · go_wp2_with (go_at_call 44; refine (rtask_yes _ _ ht).mono ?_; rintro e w' ⟨rfl, rfl⟩)
            go_ret
            exact ⟨by rw [HWr.out (by rw [← Bool.not_eq_true, HI.out]; omega)]; rfl, hb⟩
        · go_wp2_with (go_at_call 44; refine (rtask_no _ _ ht).mono ?_; rintro e w' ⟨rfl, rfl⟩)
          go_ret
          exact ⟨by rw [HWr.out (by rw [← Bool.not_eq_true, HI.out]; omega)]; rfl, hb⟩
      · have HN := Lib.hid hno
        clear hno hl0 hcells
        go_wp2
        go_ret
        refine ⟨?_, hb⟩
        have : wrongF l = 0 := by
          unfold wrongF
          rw [if_neg HL.out, if_pos]
          rw [List.all_eq_true]
          intro x hx
          obtain ⟨j, hj, rfl⟩ := List.getElem_of_mem hx
          exact HN.out j (by omega) hj
        rw [this]; rfl

def FewOut (w w' : World) (l : List Acc) (most : Int) (e : Ending) : Prop := ∃ b, e = .returned (.bool b) ∧ (b = true → (l.length : Int) ≤ most) ∧ w = w'

set_option maxRecDepth 100000 in
set_option maxHeartbeats 1000000 in
theorem few_any (w : World) (v : Value) (l : List Acc) (most : Int) (h0 : 0 ≤ most) (hm : most ≤ 100000) (hl : AccAt w v l) :
    Calls Tryd.prog 17 #[v, .int .i64 most] w fun e w' => FewOut w w' l most e := by
  have HL := Lib.hid hl
  obtain ⟨A, cap, rfl, hcap, hcm, _⟩ := hl
  go_enter Tryd.func17, Tryd.ntmps17
  go_wp2
  go_loop [5] (fun i => ∃ k : Nat, k ≤ l.length ∧ (k : Int) ≤ most + 1 ∧ i = .int .i64 k) (fun i => l.length - (intOf i).toNat)
  case atStart => exact ⟨0, by omega, by omega, rfl⟩
  case round =>
    obtain ⟨k, hk, hk2, rfl⟩ := hrel
    by_cases hlt : k < l.length
    · by_cases hle : (k : Int) ≤ most
      · obtain ⟨bb, off, rfl, hcs⟩ := HL.out.elem hlt
        have hc2 := hcs 2 _ rfl
        by_cases hv : l[k].var.size ≤ 100
        · go_wp2
          go_round
          case rel => exact ⟨k + 1, by omega, by omega, by go_num⟩
          case measure => simp [intOf]; omega
        · go_wp2
          go_ret
          exact ⟨false, rfl, (fun h => nomatch h), rfl⟩
      · have hd : decide ((k : Int) ≤ most) = false := by simp; omega
        go_wp2
        go_ret
        exact ⟨decide ((l.length : Int) ≤ most), rfl, (fun h => of_decide_eq_true h), rfl⟩
    · go_wp2
      go_ret
      exact ⟨decide ((l.length : Int) ≤ most), rfl, (fun h => of_decide_eq_true h), rfl⟩

set_option maxRecDepth 100000 in
set_option maxHeartbeats 400000 in
/-- races, where the answer is known to be the one asked for. -/
theorem races_yes (w : World) (v : Value) (l : List Acc) (f s no : Int) (hl : AccAt w v l) (h : ∀ f' s' er, (if wrongF l ≠ 0 then f' = 0 ∧ s' = 0 ∧ er = wrongF l else er = 0 ∧ CheckIs l f' s') → f' = f ∧ s' = s ∧ er = no) :
    Calls Tryd.prog 19 #[v, .int .i64 f, .int .i64 s, .int .i64 no] w fun e w' => e = .returned (.bool true) ∧ Below w.heap.size w w' := by
  have HL := Lib.hid hl
  have H := Lib.hid h
  clear h hl
  go_enter Tryd.func19, Tryd.ntmps19
  go_wp2_with fail
  refine (check_any w v l HL.out).mono ?_
  rintro e w1 ⟨f', s', er, rfl, h1, hb⟩
  obtain ⟨rfl, rfl, rfl⟩ := H.out f' s' er h1
  clear h1
  go_wp2
  go_ret
  exact ⟨rfl, hb⟩

set_option maxRecDepth 100000 in
set_option maxHeartbeats 400000 in
theorem ordered_yes (w : World) (v : Value) (l : List Acc) (i k : Int) (want : Bool) (no : Int) (hl : AccAt w v l) (h : ∀ b er, OrdIs l i k b er → b = want ∧ er = no) :
    Calls Tryd.prog 21 #[v, .int .i64 i, .int .i64 k, .bool want, .int .i64 no] w fun e w' => e = .returned (.bool true) ∧ Below w.heap.size w w' := by
  have HL := Lib.hid hl
  have H := Lib.hid h
  clear h hl
  go_enter Tryd.func21, Tryd.ntmps21
  go_wp2_with fail
  refine (ordered_any w v l HL.out i k).mono ?_
  rintro e w1 ⟨b, er, rfl, h1, hb⟩
  obtain ⟨rfl, rfl⟩ := H.out b er h1
  clear h1
  cases b
  all_goals
    go_wp2
    go_ret
    exact ⟨rfl, hb⟩
end Go.Proofs.YtahklchfchjmcaaDoor
