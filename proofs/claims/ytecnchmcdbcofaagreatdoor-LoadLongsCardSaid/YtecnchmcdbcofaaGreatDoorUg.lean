/- load.Use: the walk. -/
import Derived.Test.YtecnchmcdbcofaaGreatDoorUf
set_option linter.unusedVariables false
set_option linter.unusedSimpArgs false
namespace Go.Proofs.YtecnchmcdbcofaaGreatDoor
open Go.RowKit Go.MapKept
structure KeysAt (w : World) (p : Nat) (x : CallV) : Prop where
  lt : p < w.heap.size
  cell : ∀ i s, [x.k, x.t][i]? = some s → w.cell? ⟨p, i, none⟩ = some (.string s)
theorem KeysAt.below {w w' : World} {p : Nat} {x : CallV} (h : KeysAt w p x) (hb : Below w.heap.size w w') : KeysAt w' p x :=
  ⟨Nat.lt_of_lt_of_le h.lt hb.size, fun i s hs => (hb.cell h.lt).trans (h.cell i s hs)⟩
/-- Use's answer: a new row of the counts. -/
def UseE (w : World) (M : Nat) (f : Nat → Int) (e : Ending) (w' : World) : Prop :=
  ∃ g, e = .returned (.tuple #[.slice (some ⟨g, 0, none⟩) M M, .int .i64 0]) ∧ w.heap.size ≤ g ∧ g < w'.heap.size ∧ IRow w' g M f
/-- Use where it says an error. -/
theorem use_bad (w : World) (v : Value) (l : List CallV) (h : CallsAt w v l) (h6 : l.length ≤ 20000) (hl : LightTo l l.length) (hE : Env w) (m : Int) (hb : l.any badC = true ∨ m < 1 ∨ 1024 < m) :
    Calls Tryz.prog 24 #[v, .int .i64 m] w fun e w' => e = .returned (.tuple #[.slice none 0 0, .int .i64 2]) ∧ Below w.heap.size w w' := by
  have HA := Lib.hid (lcheck_any w v l h h6 hl hE)
  obtain ⟨A, cap, rfl, hcap, hcm, _⟩ := id h
  clear h hE hl
  rename_i hemp
  clear hemp
  generalize hN : l.length = N at *
  cases hbd : l.any badC with
  | true =>
    rw [hbd] at HA
    clear hbd hb
    go_enter Tryz.func24, Tryz.ntmps24
    go_wp2_with (first | (go_at_call 56; refine HA.out.mono ?_; rintro e w' ⟨rfl, hb⟩; have HB := Lib.hid hb; clear hb))
    go_ret2
    exact ⟨rfl, HB.out⟩
  | false =>
    rw [hbd] at HA
    have hm : m < 1 ∨ 1024 < m := by
      rcases hb with hb | hb
      · rw [hbd] at hb; cases hb
      · exact hb
    have HS := Lib.hid (fun W => stripe_bad ⟨#[]⟩ m hm W)
    clear hbd hb hm
    go_enter Tryz.func24, Tryz.ntmps24
    go_wp2_with (first | (go_at_call 56; refine HA.out.mono ?_; rintro e w' ⟨rfl, hb⟩; have HB := Lib.hid hb; clear hb) | (go_at_call 57; refine (HS.out _).mono ?_; rintro e w' ⟨rfl, rfl⟩))
    go_ret2
    exact ⟨rfl, HB.out⟩
set_option maxRecDepth 100000 in
set_option maxHeartbeats 4000000 in
theorem use_any (w : World) (v : Value) (l : List CallV) (h : CallsAt w v l) (h6 : l.length ≤ 20000) (hl : LightTo l l.length) (hE : Env w) (M : Nat) (hM : 1 ≤ M ∧ M ≤ 64) (hb : l.any badC = false) :
    Calls Tryz.prog 24 #[v, .int .i64 (M : Int)] w fun e w' => UseE w M (usedF M l l.length) e w' ∧ Below w.heap.size w w' := by
  have HA : Hid (Calls Tryz.prog 56 #[v] w fun e w' => e = .returned (.int .i64 0) ∧ Below w.heap.size w w') := by
    have := lcheck_any w v l h h6 hl hE
    rw [hb] at this
    exact Lib.hid this
  have HS : Hid (∀ s : ByteArray, s.size ≤ 300 → ∀ W, Env W → Calls Tryz.prog 57 #[.string s, .int .i64 (M : Int)] W fun e w' => e = .returned (.tuple #[.int .i64 (stripeF s M), .int .i64 0]) ∧ Below W.heap.size W w') := Lib.hid fun s hs W hW => stripe_any s (by omega) M (by omega) (by omega) W hW
  obtain ⟨A, cap, rfl, hcap, hcm, _⟩ := id h
  have HCA := Lib.hid h
  have HE := Lib.hid hE
  have HL := Lib.hid hl
  clear h hE hl hb
  obtain ⟨N, hN⟩ : ∃ N, l.length = N := ⟨_, rfl⟩
  have HN := Lib.hid hN
  rw [hN] at hcap h6 HA HCA HL ⊢
  clear hN
  obtain ⟨hM1, hM2⟩ := hM
  have hmk := make_ints M (by omega)
  go_enter Tryz.func24, Tryz.ntmps24
  go_wp2_with (first | (go_at_call 56; refine HA.out.mono ?_; rintro e w1 ⟨rfl, hb⟩; have HB := Lib.hid hb; clear hb) | (go_at_call 57; refine (HS.out ⟨#[]⟩ (by decide) _ (HE.out.later HB.out)).mono ?_; rintro e w2 ⟨rfl, hb⟩; have HB2 := Lib.hid (nbl_step HB.out hb); clear hb))
  have hR0 := irow_made M w2
  have hB0 : Below w.heap.size w (w2.alloc (.cells (madeCells #[.int .i64 0] M) 3)) := nbl_al HB2.out
  have hg0 : w2.heap.size < (w2.alloc (.cells (madeCells #[.int .i64 0] M) 3)).heap.size := by
    show w2.heap.size < (w2.heap.push _).size
    rw [Array.size_push]
    omega
  have HGE : Hid (w.heap.size ≤ w2.heap.size) := Lib.hid HB2.out.size
  generalize w2.heap.size = g at *
  generalize w2.alloc (.cells (madeCells #[.int .i64 0] M) 3) = w3 at *
  clear HB HB2 hmk
  go_loopg [34] N (fun gf u wx => ∃ i : Nat, u = .int .i64 (i : Int) ∧ i + gf = N ∧ IRow wx g M (usedF M l i) ∧ g < wx.heap.size ∧ Below w.heap.size w wx)
  case atStart => exact ⟨0, rfl, by omega, hR0, hg0, hB0⟩
  case round =>
    clear hR0 hg0 hB0
    obtain ⟨i, rfl, hi, hR, hg, hbw⟩ := hrel
    have HR := Lib.hid hR
    have HG := Lib.hid hg
    have HW := Lib.hid hbw
    by_cases hlt : i < N
    · obtain ⟨g', rfl⟩ : ∃ g', gk = g' + 1 := ⟨gk - 1, by omega⟩
      have hkl : i < l.length := by rw [HN.out]; exact hlt
      have hx : l[i]? = some l[i] := List.getElem?_eq_getElem hkl
      generalize l[i] = x at hx
      have HX := Lib.hid hx
      obtain ⟨b, off, rfl, c0, c1, c2, c3, c4, c5⟩ := CallsAt.row (SlAt.below HCA.out hbw) hx
      have HSM := HL.out i x hlt hx
      have HSM' := Lib.hid HSM
      clear hx hbw hR hg HSM
      go_wp2_with fail
      have hK0 : KeysAt ((wr.alloc (.cells #[.int .i64 x.o, .string x.k, .string x.t, .string x.j, .int .i64 x.q, .slice x.A x.n x.c] 33)).alloc (.cells #[.string x.k, .string x.t] 9)) (wr.heap.size + 1) x := by
        have e : (wr.alloc (.cells #[.int .i64 x.o, .string x.k, .string x.t, .string x.j, .int .i64 x.q, .slice x.A x.n x.c] 33)).heap.size = wr.heap.size + 1 := Array.size_push _
        generalize wr.alloc (.cells #[.int .i64 x.o, .string x.k, .string x.t, .string x.j, .int .i64 x.q, .slice x.A x.n x.c] 33) = wa at *
        rw [← e]
        refine ⟨?_, fun j s hj => ?_⟩
        · show wa.heap.size < (wa.heap.push _).size
          rw [Array.size_push]
          omega
        · rw [new_cells]
          match j, hj with
          | 0, hj => cases hj; rfl
          | 1, hj => cases hj; rfl
      have hB1 : Below wr.heap.size wr ((wr.alloc (.cells #[.int .i64 x.o, .string x.k, .string x.t, .string x.j, .int .i64 x.q, .slice x.A x.n x.c] 33)).alloc (.cells #[.string x.k, .string x.t] 9)) := nbl_al (below_alloc _ _)
      have HGP : Hid (g < wr.heap.size + 1) := Lib.hid (by have := HG.out; omega)
      generalize ((wr.alloc (.cells #[.int .i64 x.o, .string x.k, .string x.t, .string x.j, .int .i64 x.q, .slice x.A x.n x.c] 33)).alloc (.cells #[.string x.k, .string x.t] 9)) = w4 at *
      have hR4 := HR.out.below hB1 HG.out
      have hg4 : g < w4.heap.size := Nat.lt_of_lt_of_le HG.out hB1.size
      have hW4 := nbl_step HW.out hB1
      have hU4 : BoundU (usedF M l i) (2 * (i : Int)) := usedF_bound _ _ _
      have HI : Hid (i < 20000) := Lib.hid (by omega)
      obtain ⟨F, hF⟩ : ∃ F, [x.k, x.t].foldl (stepU M) (usedF M l i, -1) = F := ⟨_, rfl⟩
      have HF : Hid (F.1 = usedF M l (i + 1)) := Lib.hid (by rw [← hF, usedF_succ HX.out])
      clear hB1 HR HG HW c0 c1 c2 c3 c4 c5
      obtain ⟨P, hP⟩ : ∃ P, wr.heap.size + 1 = P := ⟨_, rfl⟩
      have hP' : wr.heap.size = P - 1 := by omega
      rw [hP] at hK0 HGP ⊢
      rw [hP']
      clear hP hP'
      go_loopg [12, 44] 2 (fun gf s12 s44 wx => ∃ (j : Nat) (f : Nat → Int) (la : Int), s12 = .int .i64 la ∧ s44 = .int .i64 (j : Int) ∧ j + gf = 2 ∧ IRow wx g M f ∧ BoundU f (2 * (i : Int) + j) ∧ g < wx.heap.size ∧ KeysAt wx P x ∧ Below w.heap.size w wx ∧ ([x.k, x.t].drop j).foldl (stepU M) (f, la) = F)
      case atStart => exact ⟨0, usedF M l i, -1, rfl, rfl, by omega, hR4, by simpa using hU4, hg4, hK0, hW4, hF⟩
      case round =>
        clear hR4 hU4 hg4 hK0 hW4 hF
        obtain ⟨j, f, la, rfl, rfl, hj, hR, hU, hg, hK, hbw, hfo⟩ := hrel
        have HR := Lib.hid hR
        have HU := Lib.hid hU
        have HG := Lib.hid hg
        have HK := Lib.hid hK
        have HW := Lib.hid hbw
        have HFO := Lib.hid hfo
        clear hR hU hg hK hbw hfo
        by_cases hj2 : j < 2
        · obtain ⟨g2, rfl⟩ : ∃ g2, gk = g2 + 1 := ⟨gk - 1, by omega⟩
          obtain ⟨s, hs⟩ : ∃ s, [x.k, x.t][j]? = some s := ⟨_, List.getElem?_eq_getElem (by simpa using hj2)⟩
          have hs300 : s.size ≤ 300 := by
            have h1 := HSM'.out.k
            have h2 := HSM'.out.t
            rcases (show j = 0 ∨ j = 1 by omega) with rfl | rfl <;> (cases hs; assumption)
          have hc := HK.out.cell j s hs
          have HFN : Hid (([x.k, x.t].drop (j + 1)).foldl (stepU M) (stepU M (f, la) s) = F) := Lib.hid (by
            rw [← HFO.out]
            have : [x.k, x.t].drop j = s :: [x.k, x.t].drop (j + 1) := by
              have hjl : j < [x.k, x.t].length := by simpa using hj2
              rw [List.drop_eq_getElem_cons hjl]
              congr 1
              have := (List.getElem?_eq_some_iff.1 hs).2
              exact this
            rw [this]
            rfl)
          have HS' := Lib.hid (HS.out s hs300)
          have HUN : Hid (BoundU (stepU M (f, la) s).1 (2 * (i : Int) + j + 1)) := Lib.hid (HU.out.step (m := M) (st := (f, la)) s)
          have HST : Hid (stepU M (f, la) s = if s.toList.isEmpty then (f, la) else (if stripeF s M = la then f else bump f (stripeF s M).toNat, stripeF s M)) := Lib.hid rfl
          have HSB : Hid (0 ≤ stripeF s M ∧ stripeF s M < M) := Lib.hid ⟨Int.emod_nonneg _ (by omega), Int.emod_lt_of_pos _ (by omega)⟩
          clear hs hs300 HFO
          cases he : s.toList.isEmpty with
          | true =>
            rw [he] at HST
            go_wp2_with fail
            go_roundg g2
            case measure => omega
            case rel =>
              have hst : stepU M (f, la) s = (f, la) := HST.out
              exact ⟨j + 1, f, la, rfl, by go_num, by omega, HR.out, by have := HUN.out; rw [hst] at this; simpa [Int.add_assoc] using this, HG.out, HK.out, HW.out, by have := HFN.out; rw [hst] at this; exact this⟩
          | false =>
            rw [he] at HST
            obtain ⟨q, hq⟩ : ∃ q : Nat, stripeF s M = (q : Int) := ⟨(stripeF s M).toNat, by have := HSB.out; omega⟩
            have hqM : q < M := by have := HSB.out; omega
            have HQ := Lib.hid hq
            rw [hq] at HST
            by_cases e : (q : Int) = la
            · subst e
              go_wp2_with (first | (go_at_call 57; refine (HS'.out _ (HE.out.later HW.out)).mono ?_; rintro e w5 ⟨rfl, hb⟩; have HB5 := Lib.hid hb; clear hb; rw [HQ.out]))
              go_roundg g2
              case measure => omega
              case rel =>
                have hst : stepU M (f, (q : Int)) s = (f, (q : Int)) := by rw [HST.out]; simp
                exact ⟨j + 1, f, (q : Int), rfl, by go_num, by omega, HR.out.below HB5.out HG.out, by have := HUN.out; rw [hst] at this; simpa [Int.add_assoc] using this, Nat.lt_of_lt_of_le HG.out HB5.out.size, HK.out.below HB5.out, nbl_step HW.out HB5.out, by have := HFN.out; rw [hst] at this; exact this⟩
            · have d : decide ((q : Int) = la) = false := decide_eq_false e
              have HD := Lib.hid e
              obtain ⟨a, ha⟩ : ∃ a, f q = a := ⟨_, rfl⟩
              have HFA := Lib.hid ha
              have hab : 0 ≤ a ∧ a ≤ 50000 := by
                have h1 := HU.out q
                have h2 := HI.out
                omega
              clear ha
              go_wp2_with (first | (go_at_call 57; refine (HS'.out _ (HE.out.later HW.out)).mono ?_; rintro e w5 ⟨rfl, hb⟩; have HB5 := Lib.hid hb; have hr5 := (HR.out.below hb HG.out).cell q hqM; have hz5 := (HR.out.below hb HG.out).froz hqM; rw [HFA.out] at hr5; clear hb; rw [HQ.out]))
              go_roundg g2
              case measure => omega
              case rel =>
                have hst : stepU M (f, la) s = (bump f q, (q : Int)) := by rw [HST.out]; simp [HD.out]
                have hput := (HR.out.below HB5.out HG.out).put hqM
                rw [HFA.out] at hput
                have hk5 := HK.out.below HB5.out
                refine ⟨j + 1, bump f q, (q : Int), rfl, by go_num, by omega, hput, by have := HUN.out; rw [hst] at this; simpa [Int.add_assoc] using this, by rw [World.size_setCell]; exact Nat.lt_of_lt_of_le HG.out HB5.out.size, ⟨by rw [World.size_setCell]; exact hk5.lt, fun jj ss hss => ?_⟩, (nbl_step HW.out HB5.out).setCell (p := ⟨g, q, none⟩) HGE.out _, by have := HFN.out; rw [hst] at this; exact this⟩
                rw [World.cell?_setCell_other _ _ _ _ (fun e => by
                  injection e with e
                  have := HGP.out
                  omega)]
                exact hk5.cell jj ss hss
        · have ej : j = 2 := by omega
          subst ej
          go_wp2_with fail
          go_roundg g'
          case measure => omega
          case rel =>
            have : (f, la) = F := HFO.out
            refine ⟨i + 1, by go_num, by omega, ?_, HG.out, HW.out⟩
            rw [← HF.out, ← this]
            exact HR.out
    · have e : i = N := by omega
      subst e
      go_wp2_with fail
      go_ret2
      exact ⟨⟨g, rfl, HGE.out, HG.out, HR.out⟩, HW.out⟩
end Go.Proofs.YtecnchmcdbcofaaGreatDoor
