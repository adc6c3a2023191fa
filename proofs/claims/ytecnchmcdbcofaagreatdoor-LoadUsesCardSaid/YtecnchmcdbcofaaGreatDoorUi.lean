/- LoadUses: the walk. -/
import Derived.Test.YtecnchmcdbcofaaGreatDoorUh
import Derived.Test.YtecnchmcdbcofaaGreatDoorAln
set_option linter.unusedVariables false
set_option linter.unusedSimpArgs false
namespace Go.Proofs.YtecnchmcdbcofaaGreatDoor
open Go.RowKit Go.MapKept
theorem IRow.congr {w : World} {g n : Nat} {f f' : Nat → Int} (h : IRow w g n f) (he : ∀ i, i < n → f i = f' i) : IRow w g n f' :=
  ⟨h.there, fun i hi => by rw [← he i hi]; exact h.cell i hi⟩
/-- Between two calls: the slots before k are counted. -/
def rowL (m : Int) (l : List CallV) (i k : Nat) : Nat → Int := fun j => if j < k then usedF m l (i + 1) j else usedF m l i j
theorem rowL_hit {m : Int} (hm : 1 ≤ m) {l : List CallV} {i : Nat} {x : CallV} (h : l[i]? = some x) (k : Nat) (hh : hitU m x k = true) : bump (rowL m l i k) k = rowL m l i (k + 1) := by
  funext j
  have := used_hit hm h k
  rw [hh, if_pos rfl] at this
  unfold bump rowL
  by_cases e : j = k
  · subst e
    rw [if_pos rfl, if_neg (by omega), if_pos (by omega)]
    exact this.symm
  · rw [if_neg e]
    by_cases e2 : j < k
    · rw [if_pos e2, if_pos (by omega)]
    · rw [if_neg e2, if_neg (by omega)]
theorem rowL_no {m : Int} (hm : 1 ≤ m) {l : List CallV} {i : Nat} {x : CallV} (h : l[i]? = some x) (k : Nat) (hh : hitU m x k = false) : rowL m l i k = rowL m l i (k + 1) := by
  funext j
  have := used_hit hm h k
  rw [hh] at this
  unfold rowL
  by_cases e : j = k
  · subst e
    rw [if_neg (by omega), if_pos (by omega), this]
    simp
  · by_cases e2 : j < k
    · rw [if_pos e2, if_pos (by omega)]
    · rw [if_neg e2, if_neg (by omega)]
theorem rowL_zero (m : Int) (l : List CallV) (i : Nat) : rowL m l i 0 = usedF m l i := by
  funext j
  unfold rowL
  rw [if_neg (by omega)]
theorem rowL_bound (m : Int) (l : List CallV) (i k : Nat) : BoundU (rowL m l i k) (2 * (i : Int) + 2) := by
  intro j
  have h1 := usedF_bound m l (i + 1) j
  have h2 := usedF_bound m l i j
  unfold rowL
  split <;> omega
/-- What the law asks of a key's stripe, as the walk says it. -/
theorem stripe_tests (s : ByteArray) (M k : Nat) (h1 : 1 ≤ M) (h2 : M ≤ 64) : ∃ (q : Int) (b : Bool), wrap64 ((sumH s.data.toList 2166136261).tmod (M : Int)) = q ∧ Hid (decide (stripeF s M = (k : Int)) = b) ∧ ((q = (k : Int) ∧ b = true) ∨ (¬ q = (k : Int) ∧ decide (q = (k : Int)) = false ∧ b = false)) := by
  have hb := sumH_bound s.data.toList 2166136261 (by omega)
  refine ⟨stripeF s M, decide (stripeF s M = (k : Int)), ?_, Lib.hid rfl, ?_⟩
  · unfold stripeF
    generalize sumH s.data.toList 2166136261 = n at *
    rw [Int.tmod_eq_emod_of_nonneg hb.1]
    have q1 := Int.emod_nonneg n (show (M : Int) ≠ 0 by omega)
    have q2 := Int.emod_lt_of_pos n (show 0 < (M : Int) by omega)
    exact Go.IntWalk.wrap64_in _ ⟨by omega, by omega⟩
  · by_cases e : stripeF s M = (k : Int)
    · exact .inl ⟨e, decide_eq_true e⟩
    · exact .inr ⟨e, decide_eq_false e, decide_eq_false e⟩
set_option maxRecDepth 100000 in
set_option maxHeartbeats 2000000 in
theorem loadUses_any (v : Value) (l : List CallV) (m : Int) (w : World) (h : CallsAt w v l) (hE : Env w) : Calls Tryz.prog 3 #[v, .int .i64 m] w
    fun e w' => e = .returned (.bool true) ∧ Below w.heap.size w w' := by
  have HK : Hid (∀ W, Below w.heap.size w W → Calls Tryz.prog 10 #[] W fun e w' => e = .returned (.bool true) ∧ Below W.heap.size W w') := Lib.hid fun W hb => known_yes W (hE.below hb)
  have HR : Hid (Below w.heap.size w w) := Lib.hid (Below.refl _ _)
  obtain ⟨A, cap, rfl, hcap, hcm, hemp⟩ := id h
  have HLT := Lib.hid (light_any w _ l h)
  have HCA := Lib.hid h
  have HE := Lib.hid hE
  have HBD : Hid (LightTo l l.length → Calls Tryz.prog 11 #[.slice A l.length cap] w fun e w' => e = .returned (.bool (l.any badC)) ∧ Below w.heap.size w w') := Lib.hid fun hl => badl_any w _ l h hl hE
  have HUB : Hid (l.length ≤ 60 → LightTo l l.length → (l.any badC = true ∨ m < 1 ∨ 1024 < m) → ∀ W, Below w.heap.size w W → Calls Tryz.prog 12 #[.slice A l.length cap, .int .i64 m, .slice none 0 0, .int .i64 2] W fun e w' => e = .returned (.bool true) ∧ Below W.heap.size W w') := Lib.hid fun h6 hl hb W hW => uses_bad W _ l (SlAt.below h hW) h6 hl (hE.below hW) m hb
  clear h hE hemp
  obtain ⟨N, hN⟩ : ∃ N, l.length = N := ⟨_, rfl⟩
  have HN := Lib.hid hN
  rw [hN] at hcap HLT HCA HBD HUB ⊢
  clear hN
  by_cases h64 : 64 < m ∧ m ≤ 1024
  · obtain ⟨h1, h2⟩ := h64
    have d1 : decide ((64 : Int) < m) = true := decide_eq_true h1
    have d2 : decide (m ≤ 1024) = true := decide_eq_true h2
    go_enter Tryz.func3, Tryz.ntmps3
    go_wp2_with fail
    refine HLT.out.mono ?_
    rintro e w1 ⟨⟨lb, rfl, hlb⟩, rfl⟩
    clear hlb
    cases lb
    all_goals
      go_wp2_with (first | (go_at_call 10; refine (HK.out _ HR.out).mono ?_; rintro e w' ⟨rfl, hb⟩; have HB := Lib.hid hb; clear hb))
      go_ret
      exact ⟨rfl, HB.out⟩
  rcases (show 1024 < m ∨ m < 1 ∨ (1 ≤ m ∧ m ≤ 64) by omega) with hm | hm | hm
  · have HVV : Hid (l.any badC = true ∨ m < 1 ∨ 1024 < m) := Lib.hid (.inr (.inr hm))
    have d1 : decide ((64 : Int) < m) = true := decide_eq_true (by omega)
    have d2 : decide (m ≤ 1024) = false := decide_eq_false (by omega)
    have d3 : decide (m < 1) = false := decide_eq_false (by omega)
    have d4 : decide ((1024 : Int) < m) = true := decide_eq_true hm
    clear h64 hm
    go_enter Tryz.func3, Tryz.ntmps3
    go_wp2_with fail
    refine HLT.out.mono ?_
    rintro e w1 ⟨⟨lb, rfl, hlb⟩, rfl⟩
    cases lb with
    | false =>
      clear hlb
      go_wp2_with (first | (go_at_call 10; refine (HK.out _ HR.out).mono ?_; rintro e w' ⟨rfl, hb⟩; have HB := Lib.hid hb; clear hb))
      go_ret
      exact ⟨rfl, HB.out⟩
    | true =>
      have hL : Hid (N ≤ 60 ∧ LightTo l N) := Lib.hid (by have := hlb rfl; rw [HN.out] at this; exact this)
      clear hlb
      cases hv : l.any badC
      all_goals
        have HV := Lib.hid hv
        clear hv
        go_wp2_with (first | (go_at_call 11; refine (HBD.out hL.out.2).mono ?_; rintro e w2 ⟨rfl, hb⟩; have HB2 := Lib.hid hb; clear hb; rw [HV.out]) | (go_at_call 12; refine (HUB.out hL.out.1 hL.out.2 HVV.out _ HB2.out).mono ?_; rintro e w3 ⟨rfl, hb⟩; have HB3 := Lib.hid (nbl_step HB2.out hb); clear hb) | (go_at_call 10; refine (HK.out _ HB3.out).mono ?_; rintro e w4 ⟨rfl, hb⟩; have HB4 := Lib.hid (nbl_step HB3.out hb); clear hb))
        go_ret
        exact ⟨rfl, HB4.out⟩
  · have HVV : Hid (l.any badC = true ∨ m < 1 ∨ 1024 < m) := Lib.hid (.inr (.inl hm))
    have d1 : decide ((64 : Int) < m) = false := decide_eq_false (by omega)
    have d3 : decide (m < 1) = true := decide_eq_true hm
    clear h64 hm
    go_enter Tryz.func3, Tryz.ntmps3
    go_wp2_with fail
    refine HLT.out.mono ?_
    rintro e w1 ⟨⟨lb, rfl, hlb⟩, rfl⟩
    cases lb with
    | false =>
      clear hlb
      go_wp2_with (first | (go_at_call 10; refine (HK.out _ HR.out).mono ?_; rintro e w' ⟨rfl, hb⟩; have HB := Lib.hid hb; clear hb))
      go_ret
      exact ⟨rfl, HB.out⟩
    | true =>
      have hL : Hid (N ≤ 60 ∧ LightTo l N) := Lib.hid (by have := hlb rfl; rw [HN.out] at this; exact this)
      clear hlb
      cases hv : l.any badC
      all_goals
        have HV := Lib.hid hv
        clear hv
        go_wp2_with (first | (go_at_call 11; refine (HBD.out hL.out.2).mono ?_; rintro e w2 ⟨rfl, hb⟩; have HB2 := Lib.hid hb; clear hb; rw [HV.out]) | (go_at_call 12; refine (HUB.out hL.out.1 hL.out.2 HVV.out _ HB2.out).mono ?_; rintro e w3 ⟨rfl, hb⟩; have HB3 := Lib.hid (nbl_step HB2.out hb); clear hb) | (go_at_call 10; refine (HK.out _ HB3.out).mono ?_; rintro e w4 ⟨rfl, hb⟩; have HB4 := Lib.hid (nbl_step HB3.out hb); clear hb))
        go_ret
        exact ⟨rfl, HB4.out⟩
  · obtain ⟨M, rfl⟩ : ∃ M : Nat, m = (M : Int) := ⟨m.toNat, by omega⟩
    have d1 : decide ((64 : Int) < (M : Int)) = false := decide_eq_false (by omega)
    have d3 : decide ((M : Int) < 1) = false := decide_eq_false (by omega)
    have d4 : decide ((1024 : Int) < (M : Int)) = false := decide_eq_false (by omega)
    have hM1 : 1 ≤ M := by omega
    have hM2 : M ≤ 64 := by omega
    clear h64 hm
    go_enter Tryz.func3, Tryz.ntmps3
    go_wp2_with fail
    refine HLT.out.mono ?_
    rintro e w1 ⟨⟨lb, rfl, hlb⟩, rfl⟩
    cases lb with
    | false =>
      clear hlb
      go_wp2_with (first | (go_at_call 10; refine (HK.out _ HR.out).mono ?_; rintro e w' ⟨rfl, hb⟩; have HB := Lib.hid hb; clear hb))
      go_ret
      exact ⟨rfl, HB.out⟩
    | true =>
      have hL : Hid (N ≤ 60 ∧ LightTo l N) := Lib.hid (by have := hlb rfl; rw [HN.out] at this; exact this)
      clear hlb
      cases hv : l.any badC with
      | true =>
        have HV := Lib.hid hv
        have HVV : Hid (l.any badC = true ∨ (M : Int) < 1 ∨ (1024 : Int) < M) := Lib.hid (.inl hv)
        clear hv
        go_wp2_with (first | (go_at_call 11; refine (HBD.out hL.out.2).mono ?_; rintro e w2 ⟨rfl, hb⟩; have HB2 := Lib.hid hb; clear hb; rw [HV.out]) | (go_at_call 12; refine (HUB.out hL.out.1 hL.out.2 HVV.out _ HB2.out).mono ?_; rintro e w3 ⟨rfl, hb⟩; have HB3 := Lib.hid (nbl_step HB2.out hb); clear hb) | (go_at_call 10; refine (HK.out _ HB3.out).mono ?_; rintro e w4 ⟨rfl, hb⟩; have HB4 := Lib.hid (nbl_step HB3.out hb); clear hb))
        go_ret
        exact ⟨rfl, HB4.out⟩
      | false =>
        have HV := Lib.hid hv
        clear hv HUB
        have hmk := make_ints M (by omega)
        have HS : Hid (∀ s : ByteArray, s.size ≤ 300 → ∀ W, Env W → Calls Tryz.prog 13 #[.string s] W fun e w' => e = .returned (.int .u32 (sumH s.data.toList 2166136261)) ∧ Below W.heap.size W w') := Lib.hid fun s hs W hW => sum32_any s (by omega) W hW
        have HUG : Hid (∀ W, Below w1.heap.size w1 W → ∀ g2, g2 < W.heap.size → IRow W g2 M (usedF M l N) → Calls Tryz.prog 12 #[.slice A N cap, .int .i64 (M : Int), .slice (some ⟨g2, 0, none⟩) M M, .int .i64 0] W fun e w' => e = .returned (.bool true) ∧ Below W.heap.size W w') := Lib.hid fun W hW g2 hg2 hr => by
          rw [← HN.out] at hr
          exact uses_good W _ l (SlAt.below HCA.out hW) (by rw [HN.out]; exact hL.out.1) (by rw [HN.out]; exact hL.out.2) (HE.out.below hW) M ⟨hM1, hM2⟩ HV.out g2 hg2 hr
        go_wp2_with (first | (go_at_call 11; refine (HBD.out hL.out.2).mono ?_; rintro e w2 ⟨rfl, hb⟩; have HB2 := Lib.hid hb; clear hb; rw [HV.out]))
        have hR0 := irow_made M w2
        have hB0 : Below w1.heap.size w1 (w2.alloc (.cells (madeCells #[.int .i64 0] M) 3)) := nbl_al HB2.out
        have hg0 : w2.heap.size < (w2.alloc (.cells (madeCells #[.int .i64 0] M) 3)).heap.size := by
          show w2.heap.size < (w2.heap.push _).size
          rw [Array.size_push]
          omega
        have HGE : Hid (w1.heap.size ≤ w2.heap.size) := Lib.hid HB2.out.size
        generalize w2.heap.size = g at *
        generalize w2.alloc (.cells (madeCells #[.int .i64 0] M) 3) = w3 at *
        clear HB2 hmk HBD HLT
        go_loopg [6] N (fun gf u wx => ∃ i : Nat, u = .int .i64 (i : Int) ∧ i + gf = N ∧ IRow wx g M (usedF M l i) ∧ g < wx.heap.size ∧ Below w1.heap.size w1 wx)
        case atStart => exact ⟨0, rfl, by omega, hR0, hg0, hB0⟩
        case round =>
          clear hR0 hg0 hB0
          obtain ⟨i, rfl, hi, hR, hg, hbw⟩ := hrel
          have HRR := Lib.hid hR
          have HG := Lib.hid hg
          have HW := Lib.hid hbw
          clear hR hg hbw
          by_cases hlt : i < N
          · obtain ⟨g', rfl⟩ : ∃ g', gk = g' + 1 := ⟨gk - 1, by omega⟩
            have hkl : i < l.length := by rw [HN.out]; exact hlt
            have hx : l[i]? = some l[i] := List.getElem?_eq_getElem hkl
            generalize l[i] = x at hx
            have HX := Lib.hid hx
            have HSM := Lib.hid (hL.out.2 i x hlt hx)
            clear hx
            have HI : Hid (i < 60) := Lib.hid (by have := hL.out.1; omega)
            go_wp2_with fail
            go_loopg [7] M (fun gf u wx => ∃ k : Nat, u = .int .i64 (k : Int) ∧ k + gf = M ∧ IRow wx g M (rowL M l i k) ∧ g < wx.heap.size ∧ Below w1.heap.size w1 wx)
            case atStart => exact ⟨0, rfl, by omega, by rw [rowL_zero]; exact HRR.out, HG.out, HW.out⟩
            case round =>
              clear HRR HG HW
              obtain ⟨k, rfl, hk, hR, hg, hbw⟩ := hrel
              have HRR := Lib.hid hR
              have HG := Lib.hid hg
              have HW := Lib.hid hbw
              by_cases hkM : k < M
              · obtain ⟨g2, rfl⟩ : ∃ g2, gk = g2 + 1 := ⟨gk - 1, by omega⟩
                obtain ⟨b, off, rfl, c0, c1, c2, c3, c4, c5⟩ := CallsAt.row (SlAt.below HCA.out hbw) HX.out
                clear hR hg hbw c0 c3 c4 c5
                have hs1 := HSM.out.k
                have hs2 := HSM.out.t
                have HHT : Hid (hitU M x k = ((decide (stripeF x.k M = (k : Int)) && !x.k.toList.isEmpty) || (decide (stripeF x.t M = (k : Int)) && !x.t.toList.isEmpty))) := Lib.hid rfl
                generalize x.k = s1 at *
                generalize x.t = s2 at *
                obtain ⟨a, ha⟩ : ∃ a, rowL M l i k k = a := ⟨_, rfl⟩
                have HFA := Lib.hid ha
                have hab : 0 ≤ a ∧ a ≤ 200 := by
                  have h1 := rowL_bound M l i k k
                  have h2 := HI.out
                  omega
                clear ha
                obtain ⟨q1, b1, t1, E1, u1⟩ := stripe_tests s1 M k hM1 hM2
                obtain ⟨q2, b2, t2, E2, u2⟩ := stripe_tests s2 M k hM1 hM2
                have T1 := Lib.hid t1
                have T2 := Lib.hid t2
                cases hh : hitU M x k with
                | false =>
                  have HH := Lib.hid hh
                  cases hz1 : s1.toList.isEmpty <;> cases hz2 : s2.toList.isEmpty <;> rcases u1 with ⟨rfl, rfl⟩ | ⟨n1', d1', rfl⟩ <;> rcases u2 with ⟨rfl, rfl⟩ | ⟨n2', d2', rfl⟩
                  all_goals
                    have hx0 := HHT.out
                    rw [hh, E1.out, E2.out, hz1, hz2] at hx0
                  all_goals try exact absurd hx0 (by decide)
                  all_goals clear hx0 hh
                  all_goals
                    go_wp2_with (first | (go_at_call 13; refine (HS.out _ (by assumption) _ (HE.out.later HW.out)).mono ?_; rintro e w5 ⟨rfl, hb⟩; have c1 := cell_below hb c1; have c2 := cell_below hb c2; have HRR := Lib.hid (HRR.out.below hb HG.out); have HG := Lib.hid (Nat.lt_of_lt_of_le HG.out hb.size); have HW := Lib.hid (nbl_step HW.out hb); have r5 := HRR.out.cell k hkM; have z5 := HRR.out.froz hkM; rw [HFA.out] at r5; clear hb))
                  all_goals
                    go_roundg g2
                    case measure => omega
                    case rel => exact ⟨k + 1, by go_num, by omega, by rw [← rowL_no (by omega) HX.out k HH.out]; exact HRR.out, HG.out, HW.out⟩
                | true =>
                  have HH := Lib.hid hh
                  cases hz1 : s1.toList.isEmpty <;> cases hz2 : s2.toList.isEmpty <;> rcases u1 with ⟨rfl, rfl⟩ | ⟨n1', d1', rfl⟩ <;> rcases u2 with ⟨rfl, rfl⟩ | ⟨n2', d2', rfl⟩
                  all_goals
                    have hx0 := HHT.out
                    rw [hh, E1.out, E2.out, hz1, hz2] at hx0
                  all_goals try exact absurd hx0 (by decide)
                  all_goals clear hx0 hh
                  all_goals
                    go_wp2_with (first | (go_at_call 13; refine (HS.out _ (by assumption) _ (HE.out.later HW.out)).mono ?_; rintro e w5 ⟨rfl, hb⟩; have c1 := cell_below hb c1; have c2 := cell_below hb c2; have HRR := Lib.hid (HRR.out.below hb HG.out); have HG := Lib.hid (Nat.lt_of_lt_of_le HG.out hb.size); have HW := Lib.hid (nbl_step HW.out hb); have r5 := HRR.out.cell k hkM; have z5 := HRR.out.froz hkM; rw [HFA.out] at r5; clear hb))
                  all_goals
                    go_roundg g2
                    case measure => omega
                    case rel =>
                      have hput := HRR.out.put hkM
                      rw [HFA.out, rowL_hit (by omega) HX.out k HH.out] at hput
                      exact ⟨k + 1, by go_num, by omega, hput, by rw [World.size_setCell]; exact HG.out, HW.out.setCell (p := ⟨g, k, none⟩) HGE.out _⟩
              · clear hR hg hbw
                have ek : k = M := by omega
                go_wp2_with fail
                go_roundg g'
                case measure => omega
                case rel =>
                  refine ⟨i + 1, by go_num, by omega, HRR.out.congr fun j hj => ?_, HG.out, HW.out⟩
                  unfold rowL
                  rw [if_pos (by omega)]
          · have e : i = N := by omega
            go_wp2_with (first | (go_at_call 12; refine (HUG.out _ HW.out g HG.out (by rw [← e]; exact HRR.out)).mono ?_; rintro e w3 ⟨rfl, hb⟩; have HB3 := Lib.hid (nbl_step HW.out hb); clear hb) | (go_at_call 10; refine (HK.out _ HB3.out).mono ?_; rintro e w4 ⟨rfl, hb⟩; have HB4 := Lib.hid (nbl_step HB3.out hb); clear hb))
            go_ret
            exact ⟨rfl, HB4.out⟩
end Go.Proofs.YtecnchmcdbcofaaGreatDoor
