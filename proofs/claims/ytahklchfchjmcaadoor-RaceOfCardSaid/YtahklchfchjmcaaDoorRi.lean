/- The reference's right. -/
import Derived.Test.YtahklchfchjmcaaDoorAl
namespace Go.Proofs.YtahklchfchjmcaaDoor
set_option linter.unusedVariables false
set_option linter.unusedSimpArgs false
open Go.RowKit Go.MapKept

def RightOut (w w' : World) (b : Bool) (e : Ending) : Prop := e = .returned (.bool b) ∧ Below w.heap.size w w'

theorem ok_task {bf : List Dd} {d : Dd} {s : Int} (h : ¬ (0 ≤ d.task ∧ d.task ≤ 9999)) : okStep bf d s = false := by
  unfold okStep taskOk
  have : (decide (0 ≤ d.task) && decide (d.task ≤ 9999)) = false := by
    rw [← Bool.not_eq_true, Bool.and_eq_true, decide_eq_true_eq, decide_eq_true_eq]; exact h
  rw [this]
  simp
theorem ok_step {bf : List Dd} {d : Dd} {s : Int} (h : ¬ (1 ≤ d.step ∧ d.step ≤ 7)) : okStep bf d s = false := by
  unfold okStep
  have : (decide (1 ≤ d.step) && decide (d.step ≤ 7)) = false := by
    rw [← Bool.not_eq_true, Bool.and_eq_true, decide_eq_true_eq, decide_eq_true_eq]; exact h
  rw [Bool.and_assoc (taskOk _), this]
  simp
theorem ok_rest {bf : List Dd} {d : Dd} {s : Int} (h1 : 0 ≤ d.task ∧ d.task ≤ 9999) (h2 : 1 ≤ d.step ∧ d.step ≤ 7) :
    okStep bf d s = if d.step = 2 then decide (0 ≤ d.stripe) && decide (d.stripe < s) && !(heldF bf d.task).contains d.stripe
      else if d.step = 5 then decide (0 ≤ d.stripe) && decide (d.stripe < s) && (heldF bf d.task).contains d.stripe && (d.next == -1 || taskOk d.next)
      else true := by
  unfold okStep
  have e1 : taskOk d.task = true := by unfold taskOk; simp [h1.1, h1.2]
  rw [e1, decide_eq_true h2.1, decide_eq_true h2.2]
  simp only [Bool.true_and]

theorem rtask_ok (w : World) (n : Int) : Calls Tryd.prog 44 #[.int .i64 n] w fun e w' => e = .returned (.bool (taskOk n)) ∧ w' = w :=
  (rtask_any n w).mono fun e w' ⟨h1, h2⟩ => ⟨h1, h2.symm⟩
theorem has_eq {b : Bool} {x : Int} {l : List Int} (h : b = true ↔ x ∈ l) : b = l.contains x := by
  rw [Bool.eq_iff_iff, h, List.contains_iff_mem]

set_option maxRecDepth 100000 in
set_option maxHeartbeats 4000000 in
theorem right_any (w : World) (v : Value) (bf : List Dd) (hl : DdAt w v bf) (hlen : bf.length ≤ 5000) (d : Dd) (stripes : Int) :
    Calls Tryd.prog 40 #[v, .agg d.arr, .int .i64 stripes] w fun e w' => RightOut w w' (okStep bf d stripes) e := by
  have HL := Lib.hid hl
  obtain ⟨A, cap, rfl, hcap, hcm, _⟩ := hl
  obtain ⟨dt, ds, dp, dw, dn, r0, r1, r2, r3, r4, r5, r6, r7, r8, r9, r10, r11, r12⟩ := d
  have hWc : ∀ j u, (Dd.cells ⟨dt, ds, dp, dw, dn, r0, r1, r2, r3, r4, r5, r6, r7, r8, r9, r10, r11, r12⟩)[j]? = some u → (w.alloc (.cells (Dd.arr ⟨dt, ds, dp, dw, dn, r0, r1, r2, r3, r4, r5, r6, r7, r8, r9, r10, r11, r12⟩) 52)).cell? ⟨w.heap.size, j, none⟩ = some u := by
    intro j u hu
    rw [World.cell?_alloc_new]
    simpa [Dd.arr, Dd.cells] using hu
  have HWc := Lib.hid hWc
  clear hWc
  unfold Dd.arr
  by_cases ht : 0 ≤ dt ∧ dt ≤ 9999
  · have hto : taskOk dt = true := by unfold taskOk; simp [ht.1, ht.2]
    by_cases hs1 : 1 ≤ ds
    · by_cases hs2 : ds ≤ 7
      · have hr := ok_rest (bf := bf) (d := ⟨dt, ds, dp, dw, dn, r0, r1, r2, r3, r4, r5, r6, r7, r8, r9, r10, r11, r12⟩) (s := stripes) ht ⟨hs1, hs2⟩
        dsimp only at hr
        by_cases h2 : ds = 2
        · subst h2
          rw [if_pos rfl] at hr
          by_cases hp1 : 0 ≤ dp
          · by_cases hp2 : dp < stripes
            · rw [decide_eq_true hp1, decide_eq_true hp2] at hr
              have HE := Lib.hid hr
              clear hr
              go_enter Tryd.func40, Tryd.ntmps40
              go_wp2_with (go_at_call 44; refine (rtask_ok _ _).mono ?_; rintro e w2 ⟨rfl, rfl⟩)
              refine (held_any _ _ bf (HL.out.below ((Below.refl _ _).alloc (Nat.le_refl _) _)) hlen dt).mono ?_
              rintro e w4 ⟨u7, rfl, hown, hb4⟩
              have c1 := cell_below hb4 (HWc.out 1 _ rfl)
              have c2 := cell_below hb4 (HWc.out 2 _ rfl)
              have c4 := cell_below hb4 (HWc.out 4 _ rfl)
              have hbw := bl_new hb4
              have HO := Lib.hid (And.intro hown hbw)
              clear hown hb4 hbw
              go_wp2_with (go_at_call 63; refine (has_any _ _ _ HO.out.1.sl _).mono ?_; rintro e w5 ⟨b, rfl, hiff, rfl⟩; have HI := Lib.hid (has_eq hiff); clear hiff)
              have HI2 := HI.out
              subst HI2
              go_ret
              exact ⟨by rw [HE.out]; rfl, HO.out.2⟩
            · rw [decide_eq_false hp2] at hr
              have HE := Lib.hid hr
              clear hr
              go_enter Tryd.func40, Tryd.ntmps40
              go_wp2_with (go_at_call 44; refine (rtask_ok _ _).mono ?_; rintro e w2 ⟨rfl, rfl⟩)
              refine (held_any _ _ bf (HL.out.below ((Below.refl _ _).alloc (Nat.le_refl _) _)) hlen dt).mono ?_
              rintro e w4 ⟨u7, rfl, hown, hb4⟩
              have c1 := cell_below hb4 (HWc.out 1 _ rfl)
              have c2 := cell_below hb4 (HWc.out 2 _ rfl)
              have c4 := cell_below hb4 (HWc.out 4 _ rfl)
              have hbw := bl_new hb4
              have HO := Lib.hid (And.intro hown hbw)
              clear hown hb4 hbw
              go_wp2_with fail
              go_ret
              exact ⟨by rw [HE.out]; simp, HO.out.2⟩
          · rw [decide_eq_false hp1] at hr
            have HE := Lib.hid hr
            clear hr
            go_enter Tryd.func40, Tryd.ntmps40
            go_wp2_with (go_at_call 44; refine (rtask_ok _ _).mono ?_; rintro e w2 ⟨rfl, rfl⟩)
            refine (held_any _ _ bf (HL.out.below ((Below.refl _ _).alloc (Nat.le_refl _) _)) hlen dt).mono ?_
            rintro e w4 ⟨u7, rfl, hown, hb4⟩
            have c1 := cell_below hb4 (HWc.out 1 _ rfl)
            have c2 := cell_below hb4 (HWc.out 2 _ rfl)
            have c4 := cell_below hb4 (HWc.out 4 _ rfl)
            have hbw := bl_new hb4
            have HO := Lib.hid (And.intro hown hbw)
            clear hown hb4 hbw
            go_wp2_with fail
            go_ret
            exact ⟨by rw [HE.out]; simp, HO.out.2⟩
        · rw [if_neg h2] at hr
          have h2' : (ds == 2) = false := by simpa using h2
          by_cases h5 : ds = 5
          · subst h5
            rw [if_pos rfl] at hr
            clear h2 h2'
            by_cases hp1 : 0 ≤ dp
            · by_cases hp2 : dp < stripes
              · rw [decide_eq_true hp1, decide_eq_true hp2] at hr
                cases hc : (heldF bf dt).contains dp
                · rw [hc] at hr
                  have HC := Lib.hid hc
                  have HE := Lib.hid hr
                  clear hr hc
                  go_enter Tryd.func40, Tryd.ntmps40
                  go_wp2_with (go_at_call 44; refine (rtask_ok _ _).mono ?_; rintro e w2 ⟨rfl, rfl⟩)
                  refine (held_any _ _ bf (HL.out.below ((Below.refl _ _).alloc (Nat.le_refl _) _)) hlen dt).mono ?_
                  rintro e w4 ⟨u7, rfl, hown, hb4⟩
                  have c1 := cell_below hb4 (HWc.out 1 _ rfl)
                  have c2 := cell_below hb4 (HWc.out 2 _ rfl)
                  have c4 := cell_below hb4 (HWc.out 4 _ rfl)
                  have hbw := bl_new hb4
                  have HO := Lib.hid (And.intro hown hbw)
                  clear hown hb4 hbw
                  go_wp2_with fail
                  refine (has_any _ _ _ HO.out.1.sl _).mono ?_
                  rintro e w5 ⟨b, rfl, hiff, rfl⟩
                  obtain rfl : b = false := (has_eq hiff).trans HC.out
                  clear hiff
                  go_wp2_with fail
                  go_ret
                  exact ⟨by rw [HE.out]; rfl, HO.out.2⟩
                · rw [hc] at hr
                  have HC := Lib.hid hc
                  by_cases hn : dn = -1
                  · subst hn
                    have HE := Lib.hid hr
                    clear hr hc
                    go_enter Tryd.func40, Tryd.ntmps40
                    go_wp2_with (go_at_call 44; refine (rtask_ok _ _).mono ?_; rintro e w2 ⟨rfl, rfl⟩)
                    refine (held_any _ _ bf (HL.out.below ((Below.refl _ _).alloc (Nat.le_refl _) _)) hlen dt).mono ?_
                    rintro e w4 ⟨u7, rfl, hown, hb4⟩
                    have c1 := cell_below hb4 (HWc.out 1 _ rfl)
                    have c2 := cell_below hb4 (HWc.out 2 _ rfl)
                    have c4 := cell_below hb4 (HWc.out 4 _ rfl)
                    have hbw := bl_new hb4
                    have HO := Lib.hid (And.intro hown hbw)
                    clear hown hb4 hbw
                    go_wp2_with fail
                    refine (has_any _ _ _ HO.out.1.sl _).mono ?_
                    rintro e w5 ⟨b, rfl, hiff, rfl⟩
                    obtain rfl : b = true := (has_eq hiff).trans HC.out
                    clear hiff
                    go_wp2_with (go_at_call 44; refine (rtask_ok _ _).mono ?_; rintro e w2 ⟨rfl, rfl⟩)
                    go_ret
                    exact ⟨by rw [HE.out]; rfl, HO.out.2⟩
                  · have hn' : (dn == -1) = false := by simpa using hn
                    rw [hn'] at hr
                    have HE := Lib.hid hr
                    clear hr hc hn
                    go_enter Tryd.func40, Tryd.ntmps40
                    go_wp2_with (go_at_call 44; refine (rtask_ok _ _).mono ?_; rintro e w2 ⟨rfl, rfl⟩)
                    refine (held_any _ _ bf (HL.out.below ((Below.refl _ _).alloc (Nat.le_refl _) _)) hlen dt).mono ?_
                    rintro e w4 ⟨u7, rfl, hown, hb4⟩
                    have c1 := cell_below hb4 (HWc.out 1 _ rfl)
                    have c2 := cell_below hb4 (HWc.out 2 _ rfl)
                    have c4 := cell_below hb4 (HWc.out 4 _ rfl)
                    have hbw := bl_new hb4
                    have HO := Lib.hid (And.intro hown hbw)
                    clear hown hb4 hbw
                    go_wp2_with fail
                    refine (has_any _ _ _ HO.out.1.sl _).mono ?_
                    rintro e w5 ⟨b, rfl, hiff, rfl⟩
                    obtain rfl : b = true := (has_eq hiff).trans HC.out
                    clear hiff
                    go_wp2_with (go_at_call 44; refine (rtask_ok _ _).mono ?_; rintro e w2 ⟨rfl, rfl⟩)
                    go_ret
                    exact ⟨by rw [HE.out]; rfl, HO.out.2⟩
              · rw [decide_eq_false hp2] at hr
                have HE := Lib.hid hr
                clear hr
                go_enter Tryd.func40, Tryd.ntmps40
                go_wp2_with (go_at_call 44; refine (rtask_ok _ _).mono ?_; rintro e w2 ⟨rfl, rfl⟩)
                refine (held_any _ _ bf (HL.out.below ((Below.refl _ _).alloc (Nat.le_refl _) _)) hlen dt).mono ?_
                rintro e w4 ⟨u7, rfl, hown, hb4⟩
                have c1 := cell_below hb4 (HWc.out 1 _ rfl)
                have c2 := cell_below hb4 (HWc.out 2 _ rfl)
                have c4 := cell_below hb4 (HWc.out 4 _ rfl)
                have hbw := bl_new hb4
                have HO := Lib.hid (And.intro hown hbw)
                clear hown hb4 hbw
                go_wp2_with fail
                go_ret
                exact ⟨by rw [HE.out]; simp, HO.out.2⟩
            · rw [decide_eq_false hp1] at hr
              have HE := Lib.hid hr
              clear hr
              go_enter Tryd.func40, Tryd.ntmps40
              go_wp2_with (go_at_call 44; refine (rtask_ok _ _).mono ?_; rintro e w2 ⟨rfl, rfl⟩)
              refine (held_any _ _ bf (HL.out.below ((Below.refl _ _).alloc (Nat.le_refl _) _)) hlen dt).mono ?_
              rintro e w4 ⟨u7, rfl, hown, hb4⟩
              have c1 := cell_below hb4 (HWc.out 1 _ rfl)
              have c2 := cell_below hb4 (HWc.out 2 _ rfl)
              have c4 := cell_below hb4 (HWc.out 4 _ rfl)
              have hbw := bl_new hb4
              have HO := Lib.hid (And.intro hown hbw)
              clear hown hb4 hbw
              go_wp2_with fail
              go_ret
              exact ⟨by rw [HE.out]; simp, HO.out.2⟩
          · have h5' : (ds == 5) = false := by simpa using h5
            rw [if_neg h5] at hr
            have HE := Lib.hid hr
            clear hr h2 h5
            by_cases hp1 : 0 ≤ dp
            · go_enter Tryd.func40, Tryd.ntmps40
              go_wp2_with (go_at_call 44; refine (rtask_ok _ _).mono ?_; rintro e w2 ⟨rfl, rfl⟩)
              refine (held_any _ _ bf (HL.out.below ((Below.refl _ _).alloc (Nat.le_refl _) _)) hlen dt).mono ?_
              rintro e w4 ⟨u7, rfl, hown, hb4⟩
              have c1 := cell_below hb4 (HWc.out 1 _ rfl)
              have c2 := cell_below hb4 (HWc.out 2 _ rfl)
              have c4 := cell_below hb4 (HWc.out 4 _ rfl)
              have hbw := bl_new hb4
              have HO := Lib.hid (And.intro hown hbw)
              clear hown hb4 hbw
              go_wp2_with fail
              go_ret
              exact ⟨by rw [HE.out]; rfl, HO.out.2⟩
            · go_enter Tryd.func40, Tryd.ntmps40
              go_wp2_with (go_at_call 44; refine (rtask_ok _ _).mono ?_; rintro e w2 ⟨rfl, rfl⟩)
              refine (held_any _ _ bf (HL.out.below ((Below.refl _ _).alloc (Nat.le_refl _) _)) hlen dt).mono ?_
              rintro e w4 ⟨u7, rfl, hown, hb4⟩
              have c1 := cell_below hb4 (HWc.out 1 _ rfl)
              have c2 := cell_below hb4 (HWc.out 2 _ rfl)
              have c4 := cell_below hb4 (HWc.out 4 _ rfl)
              have hbw := bl_new hb4
              have HO := Lib.hid (And.intro hown hbw)
              clear hown hb4 hbw
              go_wp2_with fail
              go_ret
              exact ⟨by rw [HE.out]; rfl, HO.out.2⟩
      · have HE := Lib.hid (ok_step (bf := bf) (d := ⟨dt, ds, dp, dw, dn, r0, r1, r2, r3, r4, r5, r6, r7, r8, r9, r10, r11, r12⟩) (s := stripes) (fun h => hs2 h.2))
        go_enter Tryd.func40, Tryd.ntmps40
        go_wp2_with (go_at_call 44; refine (rtask_ok _ _).mono ?_; rintro e w2 ⟨rfl, rfl⟩)
        go_ret
        exact ⟨by rw [HE.out]; rfl, (Below.refl _ _).alloc (Nat.le_refl _) _⟩
    · have HE := Lib.hid (ok_step (bf := bf) (d := ⟨dt, ds, dp, dw, dn, r0, r1, r2, r3, r4, r5, r6, r7, r8, r9, r10, r11, r12⟩) (s := stripes) (fun h => hs1 h.1))
      go_enter Tryd.func40, Tryd.ntmps40
      go_wp2_with (go_at_call 44; refine (rtask_ok _ _).mono ?_; rintro e w2 ⟨rfl, rfl⟩)
      go_ret
      exact ⟨by rw [HE.out]; rfl, (Below.refl _ _).alloc (Nat.le_refl _) _⟩
  · have hto : taskOk dt = false := by
      unfold taskOk
      rw [← Bool.not_eq_true, Bool.and_eq_true, decide_eq_true_eq, decide_eq_true_eq]; exact ht
    have HE := Lib.hid (ok_task (bf := bf) (d := ⟨dt, ds, dp, dw, dn, r0, r1, r2, r3, r4, r5, r6, r7, r8, r9, r10, r11, r12⟩) (s := stripes) ht)
    go_enter Tryd.func40, Tryd.ntmps40
    go_wp2_with (go_at_call 44; refine (rtask_ok _ _).mono ?_; rintro e w2 ⟨rfl, rfl⟩)
    go_ret
    exact ⟨by rw [HE.out]; rfl, (Below.refl _ _).alloc (Nat.le_refl _) _⟩
end Go.Proofs.YtahklchfchjmcaaDoor
