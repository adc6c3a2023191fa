/- load.Skew: the walk. -/
import Derived.Test.YtecnchmcdbcofaaGreatDoorSk
import Derived.Test.YtecnchmcdbcofaaGreatDoorSka
import Derived.Test.YtecnchmcdbcofaaGreatDoorSh
namespace Go.Proofs.YtecnchmcdbcofaaGreatDoor
set_option linter.unusedVariables false
set_option linter.unusedSimpArgs false
open Go.RowKit

theorem bad_any (w : World) (n : Int) : Calls Tryz.prog 59 #[.int .i64 n] w fun e w' => e = .returned (.bool (badN n)) ∧ w' = w := by
  by_cases h1 : n < 0
  · go_enter Tryz.func59, Tryz.ntmps59
    go_wp2
    go_ret
    exact ⟨by rw [badN_true.2 (.inl h1)]; rfl, rfl⟩
  · by_cases h2 : 1099511627776 < n
    · go_enter Tryz.func59, Tryz.ntmps59
      go_wp2
      go_ret
      exact ⟨by rw [badN_true.2 (.inr h2)]; rfl, rfl⟩
    · go_enter Tryz.func59, Tryz.ntmps59
      go_wp2
      go_ret
      exact ⟨by rw [badN_false.2 ⟨by omega, by omega⟩]; rfl, rfl⟩

theorem ok_of_any {l : List Int} (h : l.any badN = false) : OkTo l l.length := by
  intro j hj
  rw [getD_at hj]
  have := List.any_eq_false.1 h _ (List.getElem_mem hj)
  simpa using this

set_option maxRecDepth 100000 in
theorem index_any (w : World) (v : Value) (l : List Int) (h : IntsAt w v l) : Calls Tryz.prog 110 #[v, .func (.func 59) #[] #[]] w
    fun e w' => (∃ k : Int, e = .returned (.int .i64 k) ∧ decide (0 ≤ k) = l.any badN) ∧ w' = w := by
  obtain ⟨A, cap, rfl, hcap, hcm, _⟩ := id h
  have HA := Lib.hid h
  have hlen : l.length ≤ 9223372036854775807 := by omega
  clear h
  go_enter Tryz.func110, Tryz.ntmps110
  go_wp2_with fail
  go_loop [5, 8] (fun _ u => ∃ k : Nat, k ≤ l.length ∧ u = .int .i64 k ∧ Hid (OkTo l k)) (fun _ u => l.length - (intOf u).toNat)
  case atStart => exact ⟨0, Nat.zero_le _, rfl, Lib.hid (OkTo.zero l)⟩
  case round =>
    obtain ⟨k, hk, rfl, hok⟩ := hrel
    by_cases hlt : k < l.length
    · obtain ⟨b, off, rfl, hcs⟩ := HA.out.elem hlt
      have hc0 := hcs 0 _ rfl
      rw [Nat.add_zero, Nat.mul_one] at hc0
      have HG := Lib.hid (getD_at hlt)
      generalize l[k] = n at *
      clear hcs
      cases hbad : badN n with
      | true =>
        have HB := Lib.hid hbad
        clear hbad
        go_wp2_with (first | (go_at_call 59; refine (bad_any _ n).mono ?_; rintro e w' ⟨rfl, rfl⟩; rw [HB.out]))
        go_ret
        refine ⟨⟨k, rfl, ?_⟩, rfl⟩
        rw [any_of_bad hlt (by rw [HG.out]; exact HB.out)]
        simp
      | false =>
        have HB := Lib.hid hbad
        clear hbad
        go_wp2_with (first | (go_at_call 59; refine (bad_any _ n).mono ?_; rintro e w' ⟨rfl, rfl⟩; rw [HB.out]))
        refine ⟨⟨k + 1, by omega, by go_num, Lib.hid (hok.out.succ (by rw [HG.out]; exact HB.out))⟩, by simp [intOf]; omega⟩
    · go_wp2
      go_ret
      refine ⟨⟨-1, rfl, ?_⟩, rfl⟩
      have e : k = l.length := by omega
      subst e
      rw [any_of_ok hok.out]
      rfl

theorem contains_any (w : World) (v : Value) (l : List Int) (h : IntsAt w v l) : Calls Tryz.prog 58 #[v, .func (.func 59) #[] #[]] w
    fun e w' => e = .returned (.bool (l.any badN)) ∧ w' = w := by
  have HA := Lib.hid h
  clear h
  go_enter Tryz.func58, Tryz.ntmps58
  go_wp2_with (first | (go_at_call 110; refine (index_any _ _ l HA.out).mono ?_; rintro e w' ⟨⟨k, rfl, hk⟩, rfl⟩; have HK := Lib.hid hk; clear hk))
  go_ret
  exact ⟨by rw [← HK.out]; rfl, rfl⟩

theorem quot_eq {M S : Int} {n : Nat} (hm : 0 ≤ M ∧ M ≤ 1099511627776) (hp : 0 ≤ 1000 * (n : Int) * M ∧ 1000 * (n : Int) * M ≤ 1125899906842624000) (hs : 0 ≤ S) (hz : ¬ S = 0) :
    wrap64 ((wrap64 (wrap64 (M * 1000) * (n : Int))).tdiv S) = (1000 * (n : Int) * M).tdiv S := by
  rw [Go.IntWalk.wrap64_in (M * 1000) ⟨by omega, by omega⟩]
  have e : M * 1000 * (n : Int) = 1000 * (n : Int) * M := by
    rw [Int.mul_comm M 1000, Int.mul_assoc, Int.mul_comm M, ← Int.mul_assoc]
  rw [e, Go.IntWalk.wrap64_in (1000 * (n : Int) * M) ⟨by omega, by omega⟩]
  generalize 1000 * (n : Int) * M = a at *
  rw [Int.tdiv_eq_ediv_of_nonneg hp.1]
  have h1 := Int.ediv_nonneg hp.1 hs
  have h2 := Int.ediv_le_self S hp.1
  exact Go.IntWalk.wrap64_in _ ⟨by omega, by omega⟩

set_option maxRecDepth 100000 in
theorem skew_any (w : World) (v : Value) (l : List Int) (h : IntsAt w v l) : Calls Tryz.prog 25 #[v] w
    fun e w' => e = .returned (.tuple #[.int .i64 (skewF l).1, .int .i64 (skewF l).2]) ∧ w' = w := by
  obtain ⟨A, cap, rfl, hcap, hcm, _⟩ := id h
  have HA := Lib.hid h
  have hlen : l.length ≤ 9223372036854775807 := by omega
  clear h
  by_cases h1 : 1024 < l.length
  · rw [skew_long h1]
    go_enter Tryz.func25, Tryz.ntmps25
    go_wp2
    go_ret2
    exact ⟨rfl, rfl⟩
  · by_cases h2 : l.length = 0
    · rw [skew_none h2]
      go_enter Tryz.func25, Tryz.ntmps25
      go_wp2
      go_ret2
      exact ⟨rfl, rfl⟩
    · cases hb : l.any badN with
      | true =>
        rw [skew_bad h1 hb]
        have HB := Lib.hid hb
        clear hb
        go_enter Tryz.func25, Tryz.ntmps25
        go_wp2_with (first | (go_at_call 58; refine (contains_any _ _ l HA.out).mono ?_; rintro e w' ⟨rfl, rfl⟩; rw [HB.out]))
        go_ret2
        exact ⟨rfl, rfl⟩
      | false =>
        have HB := Lib.hid hb
        have HOK := Lib.hid (ok_of_any hb)
        have HS := Lib.hid (And.intro h1 (And.intro h2 hb))
        have hs := HOK.out.sum
        have hm := HOK.out.most
        have hp := prod_bound hm.1 hm.2 (show l.length ≤ 1024 by omega)
        have hmax : Lib.maxOf (l.take l.length) = mostF l l.length := by
          obtain ⟨q, hq⟩ : ∃ q, l.length = q + 1 := ⟨l.length - 1, by omega⟩
          rw [hq]
          exact OkTo.maxOf (hq ▸ HOK.out) (by omega)
        obtain ⟨b, off, rfl, hcs⟩ : ∃ b off, A = some ⟨b, off, none⟩ ∧ ∀ j, j < l.length → w.cell? ⟨b, off + j, none⟩ = some (.int .i64 (l.getD j 0)) := by
          obtain ⟨A', cap', e, _, _, hc⟩ := HA.out
          injection e with e1 e2 e3
          subst e1
          obtain ⟨b, off, e, hc⟩ := hc (by omega)
          exact ⟨b, off, e, fun j hj => by rw [getD_at hj]; simpa using hc j hj 0 _ rfl⟩
        have HC := Lib.hid hcs
        have HP := Lib.hid hp
        have HM := Lib.hid hmax
        have HMM := Lib.hid hm
        have HSS := Lib.hid hs
        clear hcs hp hmax hm hs
        clear hb
        go_enter Tryz.func25, Tryz.ntmps25
        go_wp2_with (first | (go_at_call 58; refine (contains_any _ _ l HA.out).mono ?_; rintro e w' ⟨rfl, rfl⟩; rw [HB.out]))
        go_loop [4, 6, 19] (fun u _ i => ∃ k : Nat, k ≤ l.length ∧ u = .int .i64 (sumF l k) ∧ i = .int .i64 k) (fun _ _ i => l.length - (intOf i).toNat)
        case atStart => exact ⟨0, Nat.zero_le _, rfl, rfl⟩
        case round =>
          obtain ⟨k, hk, rfl, rfl⟩ := hrel
          by_cases hlt : k < l.length
          · have hc0 := HC.out k hlt
            have hs := OkTo.sum (l := l) (k := k + 1) (fun j hj => HOK.out j (by omega))
            have he : sumF l (k + 1) = sumF l k + l.getD k 0 := rfl
            generalize l.getD k 0 = n at *
            generalize hS : sumF l k = S at *
            have HE := Lib.hid he
            rw [he] at hs
            clear he
            go_wp2_with fail
            refine ⟨⟨k + 1, by omega, ?_, by go_num⟩, by simp [intOf]; omega⟩
            rw [HE.out]
          · have e : k = l.length := by omega
            subst e
            by_cases hz : sumF l l.length = 0
            · have HZ := Lib.hid (skew_zero HS.out.1 HS.out.2.1 HS.out.2.2 hz)
              rw [hz]
              go_wp2_with fail
              go_ret2
              exact ⟨by rw [HZ.out]; rfl, rfl⟩
            · have HZ := Lib.hid (skew_val HS.out.1 HS.out.2.1 HS.out.2.2 hz)
              generalize sumF l l.length = S at *
              generalize mostF l l.length = M at *
              have hS0 : ¬ S = 0 := hz
              go_wp2_with (first | (go_at_call 60; refine (Tryz.slices_Max_int b off l.length cap l _ (by omega) (Nat.le_refl _) (by omega) HC.out).mono ?_; rintro e w' ⟨rfl, rfl⟩; rw [HM.out]))
              go_ret2
              refine ⟨?_, rfl⟩
              rw [HZ.out, ← quot_eq HMM.out HP.out HSS.out.1 hS0]
              rfl
end Go.Proofs.YtecnchmcdbcofaaGreatDoor
