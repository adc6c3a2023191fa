/- JournalAppends: a configuration with a node. -/
import Derived.Test.YtgjbnebmcmoilaaGreatDoorVg
namespace Go.Proofs.YtgjbnebmcmoilaaGreatDoor
set_option linter.unusedVariables false
set_option linter.unusedSimpArgs false
open Go.RowKit Go.MapKept
theorem LawS.bel {w0 W : World} {p pm : Nat} {r s i o s0 : Int} {ks k2 : List Key} (h : LawS w0 W p pm r s i o s0 ks k2) : Below w0.heap.size w0 W := by
  obtain ⟨dv, cv, dm, cm, lj, lm, h⟩ := h
  exact h.bel
/-- One round's three calls. -/
theorem law_round {W0 : World} (hE : Env1 W0) {pm : Nat} {r s i o s0 : Int} {ks : List Key} (hk : ks.length ≤ 100) (x : JC) (hx : ArgC W0 x) (hs : x.small = true) :
    ∃ (a : Int) (ks1 : List Key), ks1.length ≤ ks.length + 1 ∧
      (∀ W p, LawS W0 W p pm r s i o s0 ks ks → Calls Tryz.prog 10 #[.pointer (some ⟨p, 0, none⟩), .agg x.arr] W fun e w' => e = .returned (.int .i64 a) ∧ LawS W0 w' p pm r s i o s0 ks1 ks) ∧
      (∀ W p, LawS W0 W p pm r s i o s0 ks1 ks → Calls Tryz.prog 18 #[.pointer (some ⟨pm, 0, none⟩), .agg x.arr] W fun e w' => e = .returned (.int .i64 a) ∧ LawS W0 w' p pm r s i o s0 ks1 ks1) ∧
      (∀ W p, LawS W0 W p pm r s i o s0 ks1 ks1 → Calls Tryz.prog 20 #[.pointer (some ⟨p, 0, none⟩), .pointer (some ⟨pm, 0, none⟩)] W fun e w' => e = .returned (.bool true) ∧ LawS W0 w' p pm r s i o s0 ks1 ks1) := by
  have h4 := (JC.small_iff x).1 hs
  cases hv : validB x.o x.q x.k x.t x.j x.n with
  | true =>
    have hko := key_ok hx hs hv
    exact ⟨0, ks ++ [x.key], by simp, fun W p h => law_append h hE x hko (hx.bat.below h.bel) (by omega), fun W p h => law_add h hE x hko (hx.bat.below h.bel) hx.lt (by omega), fun W p h => law_alike h (by simp; omega)⟩
  | false => exact ⟨2, ks, by omega, fun W p h => law_append_no h hE x hv h4.1 h4.2.1 h4.2.2.1, fun W p h => law_add_no h hE x hv h4.1 h4.2.1 h4.2.2.1, fun W p h => law_alike h (by omega)⟩
set_option maxRecDepth 100000 in
set_option maxHeartbeats 8000000 in
theorem appends_good (w : World) (hE : Env1 w) (r : Int) (S : Nat) (i o : Int) (v : Value) (l : List JC) (h : JSl w v l) (hA : ∀ x ∈ l, ArgC w x) (hl : lightB l 30 = true) (hok : okN r S i o = true) (at_ : Int) (ha0 : 0 ≤ at_) (ha1 : at_ < 256) (cut : Int) :
    Calls Tryz.prog 5 #[.agg #[.int .i64 r, .int .i64 (S : Int), .int .i64 i, .int .i64 o], v, .int .u8 at_, .int .i64 cut] w fun e w' => e = .returned (.bool true) ∧ Below w.heap.size w w' := by
  obtain ⟨A, cap, rfl, hcap, hcm, _⟩ := id h
  obtain ⟨N, hN⟩ : ∃ N, l.length = N := ⟨_, rfl⟩
  obtain ⟨hl30, hsm⟩ := light_all hl
  obtain ⟨W0, hW0⟩ : ∃ W0, w.alloc (.cells #[.int .i64 r, .int .i64 (S : Int), .int .i64 i, .int .i64 o] 28) = W0 := ⟨_, rfl⟩
  have hb0 : Below w.heap.size w W0 := by rw [← hW0]; exact below_alloc _ _
  have hbox : W0.heap[w.heap.size]? = some (.cells #[.int .i64 r, .int .i64 (S : Int), .int .i64 i, .int .i64 o] 28 (0, 0)) := by rw [← hW0]; exact heap_alloc_new w _
  have hlt0 : w.heap.size < W0.heap.size := (Array.getElem?_eq_some_iff.1 hbox).1
  have HQ : Hid (∀ W, Below W0.heap.size W0 W → W.cell? ⟨w.heap.size, 0, none⟩ = some (.int .i64 r) ∧ W.cell? ⟨w.heap.size, 1, none⟩ = some (.int .i64 (S : Int)) ∧ W.cell? ⟨w.heap.size, 2, none⟩ = some (.int .i64 i) ∧ W.cell? ⟨w.heap.size, 3, none⟩ = some (.int .i64 o)) := Lib.hid fun W hb => by
    have hx := (hb.block w.heap.size hlt0).trans hbox
    exact ⟨wcell_at hx, wcell_at hx, wcell_at hx, wcell_at hx⟩
  obtain ⟨s0, hs0⟩ : ∃ s0, crcU 0 (firstB r S i o) = s0 := ⟨_, rfl⟩
  have HL : Hid (∀ W, Below w.heap.size w W → Calls Tryz.prog 16 #[.slice A N cap, .int .i64 30] W fun e w' => e = .returned (.bool true) ∧ w' = W) := Lib.hid fun W hb => by
    have := light_any W _ l 30 (by omega) (h.below hb)
    rw [hl, hN] at this
    exact this
  have HNW : Hid (∀ W, Below W0.heap.size W0 W → Calls Tryz.prog 7 #[.agg #[.int .i64 r, .int .i64 (S : Int), .int .i64 i, .int .i64 o]] W fun e w' => (∃ p, e = .returned (.tuple #[.pointer (some ⟨p, 0, none⟩), .int .i64 0]) ∧ JrAt w' W.heap.size p r S i o [] s0 [] (.slice none 0 0) (.slice none 0 0)) ∧ Below W.heap.size W w') := Lib.hid fun W hb => by rw [← hs0]; exact jnew_good W (hE.below (nbl_step hb0 hb)) r S i o hok
  have HHA := Lib.hid (fun W => has_good W r S i o hok)
  have HBG : Hid (∀ W, Below W0.heap.size W0 W → Calls Tryz.prog 9 #[.agg #[.int .i64 r, .int .i64 (S : Int), .int .i64 i, .int .i64 o]] W fun e w' => (∃ p, e = .returned (.pointer (some ⟨p, 0, none⟩)) ∧ MdAt w' W.heap.size p r S i o [] s0 [] (.slice none 0 0) (.slice none 0 0)) ∧ Below W.heap.size W w') := Lib.hid fun W hb => by rw [← hs0]; exact begun_any W (hE.below (nbl_step hb0 hb)) r S i o
  have HE := Lib.hid (hE.below hb0)
  have HA := Lib.hid (h.below hb0)
  have HAC : Hid (∀ x ∈ l, ArgC W0 x) := Lib.hid fun x hx => ⟨(hA x hx).bat.below hb0, fun a ha h0 => Nat.lt_of_lt_of_le ((hA x hx).lt a ha h0) hb0.size⟩
  have HSM := Lib.hid hsm
  have HB0 := Lib.hid hb0
  have HOK := Lib.hid hok
  have HS0 := Lib.hid hs0
  have q0 := (HQ.out W0 (Below.refl _ _)).1
  have q1 := (HQ.out W0 (Below.refl _ _)).2.1
  have q2 := (HQ.out W0 (Below.refl _ _)).2.2.1
  have q3 := (HQ.out W0 (Below.refl _ _)).2.2.2
  rw [hN] at hcap hl30 HA ⊢
  have HN := Lib.hid hN
  have HW0 := Lib.hid hW0
  clear h hA hl hsm hok hE hb0 hbox hlt0 hs0 hN hW0
  go_enter Tryz.func5, Tryz.ntmps5
  go_wp2_with (first | (go_at_call 16; rw [HW0.out]; refine (HL.out _ HB0.out).mono ?_; rintro e w1 ⟨rfl, hw⟩; obtain rfl := hw.symm; clear hw) | (go_at_call 7; refine (HNW.out _ (Below.refl _ _)).mono ?_; rintro e w2 ⟨⟨p0, rfl, hj⟩, hb⟩; have HJ2 := Lib.hid hj; have HB2 := Lib.hid hb; have q20 := (HQ.out _ hb).1; have q21 := (HQ.out _ hb).2.1; have q22 := (HQ.out _ hb).2.2.1; have q23 := (HQ.out _ hb).2.2.2; clear hj hb) | (go_at_call 17; refine (HHA.out _).mono ?_; rintro e w3 ⟨rfl, hb⟩; have HB3x := Lib.hid hb; have HB3 := Lib.hid (nbl_step HB2.out hb); clear hb; have q30 := (HQ.out _ HB3.out).1; have q31 := (HQ.out _ HB3.out).2.1; have q32 := (HQ.out _ HB3.out).2.2.1; have q33 := (HQ.out _ HB3.out).2.2.2) | (go_at_call 9; refine (HBG.out _ HB3.out).mono ?_; rintro e w4 ⟨⟨pm, rfl, hm⟩, hb⟩; have HS4 : Hid (LawS W0 w4 p0 pm r S i o s0 [] []) := Lib.hid (law_start (Below.refl _ W0) HJ2.out HB3x.out w4 hm hb HB2.out); clear hm hb) | (go_at_call 20; refine (law_alike HS4.out (by simp)).mono ?_; rintro e w5 ⟨rfl, hs⟩; have HS5 := Lib.hid hs; clear hs))
  clear HNW HL HHA HJ2 HB2 HB3 HB3x HS4 q0 q1 q2 q3 q20 q21 q22 q23 q30 q31 q32 q33
  go_loopg [9, 14] N (fun gf u9 u14 wx => ∃ (m p : Nat) (ks : List Key), u14 = .int .i64 (m : Int) ∧ u9 = .pointer (some ⟨p, 0, none⟩) ∧ m + gf = N ∧ ks.length ≤ m ∧ LawS W0 wx p pm r S i o s0 ks ks)
  case atStart => exact ⟨0, p0, [], rfl, rfl, by omega, by simp, HS5.out⟩
  case round =>
    clear HS5
    obtain ⟨m, p, ks, rfl, rfl, hm, hks, hS⟩ := hrel
    have HSW := Lib.hid hS
    have HKS := Lib.hid hks
    clear hS hks
    by_cases hlt : m < N
    · obtain ⟨g', rfl⟩ : ∃ g', gk = g' + 1 := ⟨gk - 1, by omega⟩
      have hml : m < l.length := by rw [HN.out]; exact hlt
      obtain ⟨a, ks1, hkl, hra, hrb, hrc⟩ := law_round HE.out (pm := pm) (r := r) (s := S) (i := i) (o := o) (s0 := s0) (ks := ks) (by have := HKS.out; omega) l[m] (HAC.out _ (List.getElem_mem hml)) (HSM.out _ (List.getElem_mem hml))
      obtain ⟨b, off, e1, hcs⟩ := SlAt.elem HA.out hml
      subst e1
      generalize l[m] = x at *
      obtain ⟨xo, xq, xk, xt, xj, xA, xn, xc, xd⟩ := x
      unfold JC.arr at hra hrb
      dsimp only at hra hrb
      have HKL := Lib.hid hkl
      have HRA := Lib.hid hra
      have HRB := Lib.hid hrb
      have HRC := Lib.hid hrc
      have HSX : Hid (∀ W, Below W0.heap.size W0 W → W.cell? ⟨b, off + m * 6, none⟩ = some (.int .i64 xo) ∧ W.cell? ⟨b, off + m * 6 + 1, none⟩ = some (.string xk) ∧ W.cell? ⟨b, off + m * 6 + 2, none⟩ = some (.string xt) ∧ W.cell? ⟨b, off + m * 6 + 3, none⟩ = some (.string xj) ∧ W.cell? ⟨b, off + m * 6 + 4, none⟩ = some (.int .i64 xq) ∧ W.cell? ⟨b, off + m * 6 + 5, none⟩ = some (.slice xA xn xc)) := Lib.hid fun W hb => by
        have h0 := cell_below hb (hcs 0 _ rfl)
        simp only [Nat.add_zero] at h0
        exact ⟨h0, cell_below hb (hcs 1 _ rfl), cell_below hb (hcs 2 _ rfl), cell_below hb (hcs 3 _ rfl), cell_below hb (hcs 4 _ rfl), cell_below hb (hcs 5 _ rfl)⟩
      clear hkl hra hrb hrc hcs hml
      by_cases hat : (m : Int) = at_
      · subst hat
        go_wp2_with (first | (go_at_call 21; refine (law_copy HSW.out HE.out (by have := HKS.out; omega)).mono ?_; rintro e w6 ⟨p', rfl, hs, hold⟩; have HS6 := Lib.hid hs; have HOLD := Lib.hid hold; clear hs hold) | (go_at_call 11; refine (get_any _).mono ?_; rintro e w7 ⟨rfl, hb⟩; have HB7 := Lib.hid hb; clear hb) | (go_at_call 10; refine (HOLD.out w7 getJ HB7.out get_ok (get_bat _)).mono ?_; rintro e w8 ⟨rfl, hs⟩; have HS8 := Lib.hid hs; clear hs))
        go_region_held3 (fun w' => w'.cell? ⟨b, off + m * 6, none⟩ = some (.int .i64 xo) ∧ w'.cell? ⟨b, off + m * 6 + 1, none⟩ = some (.string xk) ∧ w'.cell? ⟨b, off + m * 6 + 2, none⟩ = some (.string xt) ∧ w'.cell? ⟨b, off + m * 6 + 3, none⟩ = some (.string xj) ∧ w'.cell? ⟨b, off + m * 6 + 4, none⟩ = some (.int .i64 xq) ∧ w'.cell? ⟨b, off + m * 6 + 5, none⟩ = some (.slice xA xn xc)) (first | (exact HSX.out _ (LawS.bel (HS8.out.below (Below.refl _ _).drew))) | go_keep | (exact HSX.out _ HSC.out.bel) | (exact HSX.out _ HSB.out.bel) | (exact HSX.out _ HSA.out.bel)) (first | (go_at_call 10; refine (HRA.out _ _ (HS8.out.below (Below.refl _ _).drew)).mono ?_; rintro e wa ⟨rfl, hs⟩; have HSA := Lib.hid hs; clear hs) | (go_at_call 18; refine (HRB.out _ _ HSA.out).mono ?_; rintro e wb ⟨rfl, hs⟩; have HSB := Lib.hid hs; clear hs) | (go_at_call 20; refine (HRC.out _ _ HSB.out).mono ?_; rintro e wc ⟨rfl, hs⟩; have HSC := Lib.hid hs; clear hs) | fail)
        go_wp2_with fail
        go_roundg g'
        case measure => omega
        case rel => exact ⟨m + 1, _, ks1, by first | rfl | (rw [Go.IntWalk.wrap64_in _ ⟨by omega, by omega⟩]; rfl), rfl, by omega, by have h1 := HKL.out; have h2 := HKS.out; omega, HSC.out⟩
      · have hq1 : ((m : Int) == at_) = false := by simpa using hat
        go_wp2_with fail
        go_region_held3 (fun w' => w'.cell? ⟨b, off + m * 6, none⟩ = some (.int .i64 xo) ∧ w'.cell? ⟨b, off + m * 6 + 1, none⟩ = some (.string xk) ∧ w'.cell? ⟨b, off + m * 6 + 2, none⟩ = some (.string xt) ∧ w'.cell? ⟨b, off + m * 6 + 3, none⟩ = some (.string xj) ∧ w'.cell? ⟨b, off + m * 6 + 4, none⟩ = some (.int .i64 xq) ∧ w'.cell? ⟨b, off + m * 6 + 5, none⟩ = some (.slice xA xn xc)) (first | (exact HSX.out _ (LawS.bel (HSW.out.below (Below.refl _ _).drew))) | go_keep | (exact HSX.out _ HSC.out.bel) | (exact HSX.out _ HSB.out.bel) | (exact HSX.out _ HSA.out.bel)) (first | (go_at_call 10; refine (HRA.out _ _ (HSW.out.below (Below.refl _ _).drew)).mono ?_; rintro e wa ⟨rfl, hs⟩; have HSA := Lib.hid hs; clear hs) | (go_at_call 18; refine (HRB.out _ _ HSA.out).mono ?_; rintro e wb ⟨rfl, hs⟩; have HSB := Lib.hid hs; clear hs) | (go_at_call 20; refine (HRC.out _ _ HSB.out).mono ?_; rintro e wc ⟨rfl, hs⟩; have HSC := Lib.hid hs; clear hs) | fail)
        go_wp2_with fail
        go_roundg g'
        case measure => omega
        case rel => exact ⟨m + 1, _, ks1, by first | rfl | (rw [Go.IntWalk.wrap64_in _ ⟨by omega, by omega⟩]; rfl), rfl, by omega, by have h1 := HKL.out; have h2 := HKS.out; omega, HSC.out⟩
    · have e : m = N := by omega
      subst e
      have hs30 : m ≤ 30 := hl30
      have HKNOWN : Hid (∀ W, Below W0.heap.size W0 W → Calls Tryz.prog 6 #[] W fun e w' => e = .returned (.bool true) ∧ Below W.heap.size W w') := Lib.hid fun W hb => known41_yes W (HE.out.below hb)
      obtain ⟨dv, cv, dm, cm, lj, lm, hX⟩ := id HSW.out
      obtain ⟨A7, c7, rfl⟩ := capp_slice hX.m.cls
      have hlj : lj.length = ks.length := by rw [← hX.jk, List.length_map]
      have hlm : lm.length = ks.length := by rw [← hX.mkk, List.length_map]
      have c4 : wr.cell? ⟨pm, 4, none⟩ = some (.slice A7 lm.length c7) := wcell_at hX.m.hp
      have HX := Lib.hid hX
      obtain ⟨K, hK⟩ : ∃ K, ks.length = K := ⟨_, rfl⟩
      rw [hlm, hK] at c4
      have HKK := Lib.hid hK
      by_cases hneg : cut < 0
      · have d1 : decide (cut < 0) = true := decide_eq_true hneg
        have HCUT := Lib.hid (jcut_neg wr _ p r S i o _ _ lj dv cv hX.j cut hneg)
        clear hX hlj hlm c4 hneg hK HSW
        go_wp2_with (first | (go_at_call 22; refine HCUT.out.mono ?_; rintro e w9 ⟨rfl, hw⟩; obtain rfl := hw.symm; clear hw) | (go_at_call 6; refine (HKNOWN.out _ HX.out.bel).mono ?_; rintro e w10 ⟨rfl, hb⟩; have HB10 := Lib.hid (nbl_step HB0.out (nbl_step HX.out.bel hb)); clear hb))
        go_ret
        exact ⟨rfl, HB10.out⟩
      · have d1 : decide (cut < 0) = false := decide_eq_false hneg
        by_cases hbig : (K : Int) < cut
        · have d2 : decide ((K : Int) < cut) = true := decide_eq_true hbig
          have HCUT := Lib.hid (jcut_big wr _ p r S i o _ _ lj dv cv hX.j cut (by rw [hlj, hK]; exact hbig))
          clear hX hlj hlm hneg hK hbig HSW
          go_wp2_with (first | (go_at_call 22; refine HCUT.out.mono ?_; rintro e w9 ⟨rfl, hw⟩; obtain rfl := hw.symm; clear hw) | (go_at_call 6; refine (HKNOWN.out _ HX.out.bel).mono ?_; rintro e w10 ⟨rfl, hb⟩; have HB10 := Lib.hid (nbl_step HB0.out (nbl_step HX.out.bel hb)); clear hb))
          go_ret
          exact ⟨rfl, HB10.out⟩
        · have d2 : decide ((K : Int) < cut) = false := decide_eq_false hbig
          obtain ⟨c, rfl⟩ : ∃ c : Nat, cut = (c : Int) := ⟨cut.toNat, by omega⟩
          have hcK : c ≤ K := by omega
          have hkj : ∀ x ∈ lj, KeyOk x.key := fun x hx => hX.ok1 _ (by rw [← hX.jk]; exact List.mem_map_of_mem hx)
          have hK30 : K ≤ 30 := by have := HKS.out; omega
          have HCUT := Lib.hid (jcut_good wr _ p r S i o _ _ lj dv cv hX.j (HE.out.below hX.bel) HOK.out s0 HS0.out hkj c (by omega) (by omega))
          have HLM : Hid (lm.length = K) := Lib.hid (hlm.trans hK)
          clear hX hlj hlm hneg hK hbig HSW hkj
          go_wp2_with (first | (go_at_call 22; refine HCUT.out.mono ?_; rintro e w9 ⟨⟨p9, lo, dv9, cv9, rfl, hj9, hk9⟩, hb⟩; have HJ9 := Lib.hid hj9; have HK9 := Lib.hid hk9; have HB9x := Lib.hid hb; have HB9 := Lib.hid (nbl_step HX.out.bel hb); have c49 := cell_below hb c4; clear hj9 hk9 hb; have q0 := (HQ.out _ HB9.out).1; have q1 := (HQ.out _ HB9.out).2.1; have q2 := (HQ.out _ HB9.out).2.2.1; have q3 := (HQ.out _ HB9.out).2.2.2) | (go_at_call 9; refine (HBG.out _ HB9.out).mono ?_; rintro e w10 ⟨⟨pn, rfl, hm⟩, hb⟩; have HM10 := Lib.hid hm; have HB10x := Lib.hid hb; have HB10 := Lib.hid (nbl_step HB9.out hb); clear hm hb))
          have HS10 : Hid (LawS W0 w10 p9 pn r S i o s0 (ks.take c) []) := Lib.hid (law_cut HX.out HJ9.out HK9.out HB9x.out HM10.out HB10x.out)
          have HPN : Hid (w9.heap.size ≤ pn) := Lib.hid HM10.out.le
          have hc30 : c ≤ 30 := by omega
          have b0 : (0 : Int) ≤ (c : Int) := by omega
          go_loopg [18] c (fun gf u18 wx => ∃ k : Nat, u18 = .int .i64 (k : Int) ∧ k + gf = c ∧ LawS W0 wx p9 pn r S i o s0 (ks.take c) (ks.take k) ∧ Below w9.heap.size w9 wx)
          case atStart => exact ⟨0, rfl, by omega, by simpa using HS10.out, HB10x.out⟩
          case round =>
            obtain ⟨k, rfl, hk, hS, hbx⟩ := hrel
            have HSK := Lib.hid hS
            have HBX := Lib.hid hbx
            clear hS hbx
            have HXW := Lib.hid ((HX.out.below HB9x.out).below HBX.out)
            have c4k := cell_below HBX.out c49
            by_cases hltk : k < c
            · obtain ⟨g', rfl⟩ : ∃ g', gk = g' + 1 := ⟨gk - 1, by omega⟩
              have hkl : k < lm.length := by have := HLM.out; omega
              obtain ⟨b, off, e2, hcs⟩ := SlAt.elem (OwnJ.sl HXW.out.m.cls) hkl
              have hmem : lm[k] ∈ lm := List.getElem_mem hkl
              have hadd := law_addk HSK.out HE.out lm[k] (HXW.out.ok2 _ (by rw [← HXW.out.mkk]; exact List.mem_map_of_mem hmem)) (HXW.out.m.each _ hmem).1 (HXW.out.sep.mx _ hmem) (by rw [List.length_take]; omega)
              have hkey : ks.take k ++ [lm[k].key] = ks.take (k + 1) := by
                have h1 : k < ks.length := by have := HKK.out; omega
                rw [take_snoc ks k h1]
                congr 2
                have h2 : ks[k]? = some lm[k].key := by rw [← HXW.out.mkk]; simp [hkl]
                exact (List.getElem?_eq_some_iff.1 h2).2.symm
              rw [hkey] at hadd
              have HADD := Lib.hid hadd
              clear hadd hkey hmem
              generalize lm[k] = y at *
              obtain ⟨yo, yq, yk, yt, yj, yA, yn, yc, yd⟩ := y
              unfold JC.arr at HADD
              dsimp only at HADD
              have c0 := hcs 0 _ rfl
              have c1 := hcs 1 _ rfl
              have c2 := hcs 2 _ rfl
              have c3 := hcs 3 _ rfl
              have c4' := hcs 4 _ rfl
              have c5 := hcs 5 _ rfl
              simp only [Nat.add_zero] at c0
              clear hcs hkl
              subst e2
              have hkK : (k : Int) < (K : Int) := by omega
              go_wp2_with (first | (go_at_call 18; refine HADD.out.mono ?_; rintro e w11 ⟨rfl, hs, hkb⟩; have HS11 := Lib.hid hs; have HB11 := Lib.hid (Kbut.below hkb HBX.out HPN.out HBX.out.size); clear hs hkb))
              go_roundg g'
              case measure => omega
              case rel => exact ⟨k + 1, by first | rfl | (rw [Go.IntWalk.wrap64_in _ ⟨by omega, by omega⟩]; rfl), by omega, HS11.out, HB11.out⟩
            · have e : k = c := by omega
              subst e
              have HALX := Lib.hid (law_alikeb HSK.out (by rw [List.length_take]; omega))
              clear c49
              go_wp2_with (first | (go_at_call 20; first | (refine (law_alikeb (W := w12) ⟨_, _, _, _, _, _, HX12.out⟩ (by have := HKK.out; omega)).mono ?_; rintro e w13 ⟨rfl, hs, hb⟩; have HB13 := Lib.hid hs.bel; clear hs hb) | (refine HALX.out.mono ?_; rintro e w12 ⟨rfl, hs, hb⟩; have HX12 := Lib.hid (HXW.out.below hb); clear hs hb)) | (go_at_call 6; refine (HKNOWN.out _ HB13.out).mono ?_; rintro e w14 ⟨rfl, hb⟩; have HB14 := Lib.hid (nbl_step HB0.out (nbl_step HB13.out hb)); clear hb))
              go_ret
              exact ⟨rfl, HB14.out⟩
end Go.Proofs.YtgjbnebmcmoilaaGreatDoor
