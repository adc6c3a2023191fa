/- LoadSkews: the walk. -/
import Derived.Test.YtecnchmcdbcofaaGreatDoorSkb
import Derived.Test.YtecnchmcdbcofaaGreatDoorAln
namespace Go.Proofs.YtecnchmcdbcofaaGreatDoor
set_option linter.unusedVariables false
set_option linter.unusedSimpArgs false
open Go.RowKit

theorem skews_true (w : World) (v : Value) (l : List Int) (h : IntsAt w v l) (a b : Int) (hab : skewF l = (a, b)) : Calls Tryz.prog 14 #[v, .int .i64 a, .int .i64 b] w
    fun e w' => e = .returned (.bool true) ∧ w' = w := by
  have HA := Lib.hid h
  have HE := Lib.hid hab
  clear h hab
  go_enter Tryz.func14, Tryz.ntmps14
  go_wp2_with (first | (go_at_call 25; refine (skew_any _ _ l HA.out).mono ?_; rintro e w' ⟨rfl, rfl⟩; rw [HE.out]))
  go_ret
  exact ⟨rfl, rfl⟩

theorem quot_eq2 {M S : Int} {n : Nat} (hm : 0 ≤ M ∧ M ≤ 1099511627776) (hp : 0 ≤ 1000 * (n : Int) * M ∧ 1000 * (n : Int) * M ≤ 1125899906842624000) (hs : 0 ≤ S) (hz : ¬ S = 0) (hn : n ≤ 1024) :
    wrap64 ((wrap64 (1000 * (n : Int) * M)).tdiv S) = (1000 * (n : Int) * M).tdiv S := by
  rw [Go.IntWalk.wrap64_in (1000 * (n : Int) * M) ⟨by omega, by omega⟩]
  generalize 1000 * (n : Int) * M = a at *
  rw [Int.tdiv_eq_ediv_of_nonneg hp.1]
  have h1 := Int.ediv_nonneg hp.1 hs
  have h2 := Int.ediv_le_self S hp.1
  exact Go.IntWalk.wrap64_in _ ⟨by omega, by omega⟩
theorem most_max (a b : Int) : (if b > a then b else a) = max a b := by omega

theorem nbl_drewN {w a : World} {n : Nat} (h : Below w.heap.size w a) : Below w.heap.size w (a.drewN n) := ⟨h.os, h.tape, h.output, h.size, h.block⟩
theorem nbl_step {w a b : World} (h : Below w.heap.size w a) (k : Below a.heap.size a b) : Below w.heap.size w b := h.trans (k.mono h.size)
set_option maxRecDepth 100000 in
set_option maxHeartbeats 2000000 in
theorem loadSkews_any (v : Value) (l : List Int) (w : World) (h : IntsAt w v l) (hE : Env w) : Calls Tryz.prog 4 #[v] w
    fun e w' => e = .returned (.bool true) ∧ Below w.heap.size w w' := by
  obtain ⟨A, cap, rfl, hcap, hcm, _⟩ := id h
  have HA := Lib.hid h
  have HK : Hid (∀ W, Below w.heap.size w W → Calls Tryz.prog 10 #[] W fun e w' => e = .returned (.bool true) ∧ Below W.heap.size W w') := Lib.hid fun W hb => known_yes W (hE.below hb)
  have hlen : l.length ≤ 9223372036854775807 := by omega
  have HS : Hid (∀ W, Below w.heap.size w W → ∀ a b, skewF l = (a, b) → Calls Tryz.prog 14 #[.slice A l.length cap, .int .i64 a, .int .i64 b] W fun e w' => e = .returned (.bool true) ∧ w' = W) := Lib.hid fun W hb a b e => skews_true W _ l (HA.out.below hb) a b e
  have HR : Hid (Below w.heap.size w w) := Lib.hid (Below.refl _ _)
  clear h
  by_cases h0 : 1026 < l.length
  · go_enter Tryz.func4, Tryz.ntmps4
    go_wp2_with (first | (go_at_call 10; refine (HK.out _ HR.out).mono ?_; rintro e w' ⟨rfl, hb⟩; have HB := Lib.hid hb; clear hb))
    go_ret
    exact ⟨rfl, HB.out⟩
  · by_cases h1 : 1024 < l.length
    · go_enter Tryz.func4, Tryz.ntmps4
      go_wp2_with (first | (go_at_call 14; refine (HS.out _ HR.out 0 5 (skew_long h1)).mono ?_; rintro e w' ⟨rfl, rfl⟩) | (go_at_call 10; refine (HK.out _ HR.out).mono ?_; rintro e w' ⟨rfl, hb⟩; have HB := Lib.hid hb; clear hb))
      go_ret
      exact ⟨rfl, HB.out⟩
    · have HC : Hid (∀ j, j < l.length → ∃ b off, A = some ⟨b, off, none⟩ ∧ w.cell? ⟨b, off + j, none⟩ = some (.int .i64 (l.getD j 0))) := by
        intro j hj
        obtain ⟨b, off, rfl, hcs⟩ := HA.out.elem hj
        refine ⟨b, off, rfl, ?_⟩
        have := hcs 0 _ rfl
        rw [Nat.add_zero, Nat.mul_one, ← getD_at hj] at this
        exact this
      obtain ⟨N, hN⟩ : ∃ N, l.length = N := ⟨_, rfl⟩
      have HN := Lib.hid hN
      have HA' := HA
      rw [hN] at h0 h1 hcap hlen HS HC ⊢
      clear hN
      go_enter Tryz.func4, Tryz.ntmps4
      go_wp2_with fail
      go_loopg [3, 4, 5] N (fun gf s m i wx => ∃ k : Nat, k + gf = N ∧ s = .int .i64 (sumF l k) ∧ m = .int .i64 (mostF l k) ∧ i = .int .i64 (k : Int) ∧ OkTo l k ∧ Below w.heap.size w wx)
      case atStart => exact ⟨0, by omega, rfl, rfl, rfl, OkTo.zero l, Below.refl _ _⟩
      case round =>
        obtain ⟨k, hk, rfl, rfl, rfl, hok, hbw⟩ := hrel
        have HW := Lib.hid hbw
        by_cases hlt : k < N
        · obtain ⟨g', rfl⟩ : ∃ g', gk = g' + 1 := ⟨gk - 1, by omega⟩
          obtain ⟨b, off, rfl, hc0⟩ := HC.out k hlt
          have hc0 := cell_below hbw hc0
          clear hbw
          cases hbad : badN (l.getD k 0) with
          | true =>
            have HSK := Lib.hid (skew_bad (l := l) (by rw [HN.out]; exact h1) (any_of_bad (by rw [HN.out]; exact hlt) hbad))
            have hb := badN_true.1 hbad
            have hok' := Lib.hid hok
            clear hok
            generalize l.getD k 0 = n at *
            clear hbad
            by_cases hn : n < 0
            · clear hb
              go_wp2_with (first | (go_at_call 14; refine (HS.out _ HW.out 0 2 HSK.out).mono ?_; rintro e w' ⟨rfl, rfl⟩) | (go_at_call 10; refine (HK.out _ HW.out).mono ?_; rintro e w' ⟨rfl, hb⟩; have HB := Lib.hid (nbl_step HW.out hb); clear hb))
              go_ret
              exact ⟨rfl, HB.out⟩
            · have hn2 : 1099511627776 < n := by omega
              clear hb
              go_wp2_with (first | (go_at_call 14; refine (HS.out _ HW.out 0 2 HSK.out).mono ?_; rintro e w' ⟨rfl, rfl⟩) | (go_at_call 10; refine (HK.out _ HW.out).mono ?_; rintro e w' ⟨rfl, hb⟩; have HB := Lib.hid (nbl_step HW.out hb); clear hb))
              go_ret
              exact ⟨rfl, HB.out⟩
          | false =>
            have HNX := Lib.hid (hok.succ hbad)
            have hb := badN_false.1 hbad
            have hs := hok.sum
            have es : Hid (sumF l (k + 1) = sumF l k + l.getD k 0) := rfl
            have em : Hid (mostF l (k + 1) = max (mostF l k) (l.getD k 0)) := rfl
            have hs2 : 0 ≤ sumF l k + l.getD k 0 ∧ sumF l k + l.getD k 0 ≤ 1125899906842624 + 1099511627776 := by have := hok.sum; omega
            have hmm := hok.most
            clear hok
            generalize l.getD k 0 = n at *
            generalize sumF l k = S at *
            generalize mostF l k = M at *
            have hn1 : ¬ n < 0 := by omega
            have hn2 : ¬ 1099511627776 < n := by omega
            clear hbad
            go_wp2_with (go_quiet (fail))
            go_roundg g'
            case measure => omega
            case rel =>
              refine ⟨k + 1, by omega, ?_, ?_, by go_num, HNX.out, ?_⟩
              · rw [es.out]
              · rw [em.out]
              · exact nbl_drewN HW.out
        · have e : k = N := by omega
          subst e
          have HOK := Lib.hid hok
          have hk0 : k = l.length := HN.out.symm
          clear hbw
          by_cases h2 : k = 0
          · have HSK := Lib.hid (skew_none (l := l) (by rw [HN.out]; exact h2))
            clear hok
            generalize sumF l k = S at *
            generalize mostF l k = M at *
            clear hk0
            subst h2
            go_wp2_with (first | (go_at_call 14; refine (HS.out _ HW.out 0 2 HSK.out).mono ?_; rintro e w' ⟨rfl, rfl⟩) | (go_at_call 10; refine (HK.out _ HW.out).mono ?_; rintro e w' ⟨rfl, hb⟩; have HB := Lib.hid (nbl_step HW.out hb); clear hb))
            go_ret
            exact ⟨rfl, HB.out⟩
          · have HOK' : Hid (OkTo l l.length) := Lib.hid (hk0 ▸ hok)
            clear hok
            by_cases hz : sumF l k = 0
            · have HSK := Lib.hid (skew_zero (l := l) (by rw [← hk0]; exact h1) (by rw [← hk0]; exact h2) (any_of_ok HOK'.out) (by rw [← hk0]; exact hz))
              clear hk0
              rw [hz]
              generalize mostF l k = M at *
              clear hz
              go_wp2_with (first | (go_at_call 14; refine (HS.out _ HW.out 0 0 HSK.out).mono ?_; rintro e w' ⟨rfl, rfl⟩) | (go_at_call 10; refine (HK.out _ HW.out).mono ?_; rintro e w' ⟨rfl, hb⟩; have HB := Lib.hid (nbl_step HW.out hb); clear hb))
              go_ret
              exact ⟨rfl, HB.out⟩
            · have HSK := skew_val (l := l) (by rw [← hk0]; exact h1) (by rw [← hk0]; exact h2) (any_of_ok HOK'.out) (by rw [← hk0]; exact hz)
              have hs := HOK'.out.sum
              have hm := HOK'.out.most
              rw [← hk0] at hs hm HSK
              have hp := prod_bound (n := k) hm.1 hm.2 (by omega)
              have HQ := Lib.hid (quot_eq2 hm hp hs.1 hz (by omega))
              have HSK := Lib.hid HSK
              clear hk0
              have hs0 := hs.1
              generalize sumF l k = S at *
              generalize mostF l k = M at *
              clear hp hm hs
              go_wp2_with (first | (go_at_call 14; rw [HQ.out]; refine (HS.out _ HW.out _ 0 HSK.out).mono ?_; rintro e w' ⟨rfl, rfl⟩) | (go_at_call 10; refine (HK.out _ HW.out).mono ?_; rintro e w' ⟨rfl, hb⟩; have HB := Lib.hid (nbl_step HW.out hb); clear hb))
              go_ret
              exact ⟨rfl, HB.out⟩
end Go.Proofs.YtecnchmcdbcofaaGreatDoor
