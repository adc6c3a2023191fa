/- JournalReads: a configuration with a node. -/
import Derived.Test.YtgjbnebmcmoilaaGreatDoorVn
import Derived.Deep.RegionHeldLaw
namespace Go.Proofs.YtgjbnebmcmoilaaGreatDoor
set_option linter.unusedVariables false
set_option linter.unusedSimpArgs false
open Go.RowKit Go.MapKept
set_option maxRecDepth 100000 in
set_option maxHeartbeats 8000000 in
theorem jreads_good (w : World) (hE : Env1 w) (r : Int) (S : Nat) (i o : Int) (A : Option Addr) (m c : Nat) (b : Bs) (hba : BAt w (.slice A m c) b) (hfm : FormB A c) (hm3 : m ≤ 300) (v : Value) (l : List JC) (h : JSl w v l) (hA : ∀ x ∈ l, ArgC w x) (hl : lightB l 20 = true) (hok : okN r S i o = true) (a ls : Nat) (ha : a < 65536) (hls : ls < 65536) :
    Calls Tryz.prog 4 #[.agg #[.int .i64 r, .int .i64 (S : Int), .int .i64 i, .int .i64 o], .slice A m c, v, .int .u16 (a : Int), .int .u16 (ls : Int)] w fun e w' => e = .returned (.bool true) ∧ Below w.heap.size w w' := by
  obtain ⟨AL, cap, rfl, hcap, hcm, _⟩ := id h
  obtain ⟨N, hN⟩ : ∃ N, l.length = N := ⟨_, rfl⟩
  obtain ⟨hl20, hsm⟩ := light_all hl
  obtain ⟨W0, hW0⟩ : ∃ W0, w.alloc (.cells #[.int .i64 r, .int .i64 (S : Int), .int .i64 i, .int .i64 o] 28) = W0 := ⟨_, rfl⟩
  have hb0 : Below w.heap.size w W0 := by rw [← hW0]; exact below_alloc _ _
  have hbox : W0.heap[w.heap.size]? = some (.cells #[.int .i64 r, .int .i64 (S : Int), .int .i64 i, .int .i64 o] 28 (0, 0)) := by rw [← hW0]; exact heap_alloc_new w _
  have hlt0 : w.heap.size < W0.heap.size := (Array.getElem?_eq_some_iff.1 hbox).1
  have HQ : Hid (∀ W, Below W0.heap.size W0 W → W.cell? ⟨w.heap.size, 0, none⟩ = some (.int .i64 r) ∧ W.cell? ⟨w.heap.size, 1, none⟩ = some (.int .i64 (S : Int)) ∧ W.cell? ⟨w.heap.size, 2, none⟩ = some (.int .i64 i) ∧ W.cell? ⟨w.heap.size, 3, none⟩ = some (.int .i64 o)) := Lib.hid fun W hb => by
    have hx := (hb.block w.heap.size hlt0).trans hbox
    exact ⟨wcell_at hx, wcell_at hx, wcell_at hx, wcell_at hx⟩
  obtain ⟨s0, hs0⟩ : ∃ s0, crcU 0 (firstB r S i o) = s0 := ⟨_, rfl⟩
  have HL : Hid (∀ W, Below w.heap.size w W → Calls Tryz.prog 16 #[.slice AL N cap, .int .i64 20] W fun e w' => e = .returned (.bool true) ∧ w' = W) := Lib.hid fun W hb => by
    have := light_any W _ l 20 (by omega) (h.below hb)
    rw [hl, hN] at this
    exact this
  have HHA := Lib.hid (fun W => has_good W r S i o hok)
  have HBG : Hid (∀ W, Below W0.heap.size W0 W → Calls Tryz.prog 9 #[.agg #[.int .i64 r, .int .i64 (S : Int), .int .i64 i, .int .i64 o]] W fun e w' => (∃ p, e = .returned (.pointer (some ⟨p, 0, none⟩)) ∧ MdAt w' W.heap.size p r S i o [] s0 [] (.slice none 0 0) (.slice none 0 0)) ∧ Below W.heap.size W w') := Lib.hid fun W hb => by rw [← hs0]; exact begun_any W (hE.below (nbl_step hb0 hb)) r S i o
  have HRT : Hid (∀ W A' m' c' b', Below W0.heap.size W0 W → BAt W (.slice A' m' c') b' → FormB A' c' → b'.length ≤ 1000000 → Calls Tryz.prog 19 #[.agg #[.int .i64 r, .int .i64 (S : Int), .int .i64 i, .int .i64 o], .slice A' m' c'] W fun e w' => e = .returned (.bool true) ∧ Below W.heap.size W w') := Lib.hid fun W A' m' c' b' hb hba' hf' hl' => right_any W (hE.below (nbl_step hb0 hb)) r S i o A' m' c' b' hba' hf' hl' hok s0 hs0
  have HKNOWN : Hid (∀ W, Below W0.heap.size W0 W → Calls Tryz.prog 6 #[] W fun e w' => e = .returned (.bool true) ∧ Below W.heap.size W w') := Lib.hid fun W hb => known41_yes W (hE.below (nbl_step hb0 hb))
  have HE := Lib.hid (hE.below hb0)
  have HA := Lib.hid (h.below hb0)
  have HAC : Hid (∀ x ∈ l, ArgC W0 x) := Lib.hid fun x hx => ⟨(hA x hx).bat.below hb0, fun a ha h0 => Nat.lt_of_lt_of_le ((hA x hx).lt a ha h0) hb0.size⟩
  have HSM := Lib.hid hsm
  have HB0 := Lib.hid hb0
  have HBA := Lib.hid (hba.below hb0)
  have HBN : Hid (b.length ≤ 300) := Lib.hid (by have := bat_len hba; omega)
  have HFM := Lib.hid hfm
  have q0 := (HQ.out W0 (Below.refl _ _)).1
  have q1 := (HQ.out W0 (Below.refl _ _)).2.1
  have q2 := (HQ.out W0 (Below.refl _ _)).2.2.1
  have q3 := (HQ.out W0 (Below.refl _ _)).2.2.2
  have d1 : decide ((300 : Int) < (m : Int)) = false := decide_eq_false (by omega)
  rw [hN] at hcap hl20 HA ⊢
  have HN := Lib.hid hN
  have HW0 := Lib.hid hW0
  clear h hA hl hsm hok hE hb0 hbox hlt0 hs0 hN hW0 hba hfm hm3
  go_enter Tryz.func4, Tryz.ntmps4
  go_wp2_with (first | (go_at_call 16; rw [HW0.out]; refine (HL.out _ HB0.out).mono ?_; rintro e w1 ⟨rfl, hw⟩; obtain rfl := hw.symm; clear hw) | (go_at_call 17; refine (HHA.out _).mono ?_; rintro e w2 ⟨rfl, hb⟩; have HB2 := Lib.hid hb; clear hb; have q20 := (HQ.out _ HB2.out).1; have q21 := (HQ.out _ HB2.out).2.1; have q22 := (HQ.out _ HB2.out).2.2.1; have q23 := (HQ.out _ HB2.out).2.2.2) | (go_at_call 9; refine (HBG.out _ HB2.out).mono ?_; rintro e w3 ⟨⟨pm, rfl, hm⟩, hb⟩; have HS3 : Hid (MdL W0 w3 pm r S i o s0 []) := Lib.hid ⟨_, _, [], hm.base HB2.out.size, rfl, fun κ hκ => (by cases hκ), nbl_step HB2.out hb⟩; clear hm hb))
  clear HL HHA HBG q0 q1 q2 q3 q20 q21 q22 q23 HB2
  go_loopg [17] N (fun gf u17 wx => ∃ (n : Nat) (ks : List Key), u17 = .int .i64 (n : Int) ∧ n + gf = N ∧ ks.length ≤ n ∧ MdL W0 wx pm r S i o s0 ks)
  case atStart => exact ⟨0, [], rfl, by omega, by simp, HS3.out⟩
  case round =>
    clear HS3
    obtain ⟨n, ks, rfl, hm, hks, hS⟩ := hrel
    have HSW := Lib.hid hS
    have HKS := Lib.hid hks
    clear hS hks
    by_cases hlt : n < N
    · obtain ⟨g', rfl⟩ : ∃ g', gk = g' + 1 := ⟨gk - 1, by omega⟩
      have hml : n < l.length := by rw [HN.out]; exact hlt
      obtain ⟨av, ks1, hkl, hra⟩ := mdl_round HE.out (pm := pm) (r := r) (s := S) (i := i) (o := o) (s0 := s0) (ks := ks) (by have := HKS.out; omega) l[n] (HAC.out _ (List.getElem_mem hml)) (HSM.out _ (List.getElem_mem hml))
      obtain ⟨bk, off, e1, hcs⟩ := SlAt.elem HA.out hml
      subst e1
      generalize l[n] = x at *
      obtain ⟨xo, xq, xk, xt, xj, xA, xn, xc, xd⟩ := x
      unfold JC.arr at hra
      dsimp only at hra
      have HKL := Lib.hid hkl
      have HRA := Lib.hid hra
      have hb := HSW.out.bel
      have h0 := cell_below hb (hcs 0 _ rfl)
      simp only [Nat.add_zero] at h0
      have h1 := cell_below hb (hcs 1 _ rfl)
      have h2 := cell_below hb (hcs 2 _ rfl)
      have h3 := cell_below hb (hcs 3 _ rfl)
      have h4 := cell_below hb (hcs 4 _ rfl)
      have h5 := cell_below hb (hcs 5 _ rfl)
      clear hkl hra hcs hml hb
      go_wp2_with (first | (go_at_call 18; refine (HRA.out _ HSW.out).mono ?_; rintro e w5 ⟨rfl, hs⟩; have HS5 := Lib.hid hs; clear hs))
      go_roundg g'
      case measure => omega
      case rel => exact ⟨n + 1, ks1, by first | rfl | (rw [Go.IntWalk.wrap64_in _ ⟨by omega, by omega⟩]; rfl), by omega, by have h1 := HKL.out; have h2 := HKS.out; omega, HS5.out⟩
    · have e : n = N := by omega
      subst e
      obtain ⟨dv, cv, lm, hM, hmk, hko, hbel⟩ := HSW.out
      obtain ⟨A5, n5, c5, rfl⟩ := own_slice hM.dat
      obtain ⟨data, hdata⟩ : ∃ data, (jst s0 ks).1 = data := ⟨_, rfl⟩
      have hdl := jst_len s0 _ ks rfl hko
      rw [hdata] at hM hdl
      have hk20 := HKS.out
      have hn5 : n5 = data.length := bat_len hM.dat.sl
      have hd5 : n5 ≤ 100000 := by omega
      have z5 : wr.cell? ⟨pm, 5, none⟩ = some (.slice A5 n5 c5) := wcell_at hM.hp
      obtain ⟨f, hf⟩ : ∃ f, a % (n5 + 1) = f := ⟨_, rfl⟩
      have hfn : f ≤ n5 := by rw [← hf]; exact Nat.lt_succ_iff.1 (Nat.mod_lt _ (Nat.succ_pos _))
      obtain ⟨t, ht⟩ : ∃ t, min n5 (f + ls) = t := ⟨_, rfl⟩
      have htn : t ≤ n5 := by omega
      have hrem : (a : Int).tmod ((n5 : Int) + 1) = (f : Int) := by
        rw [Int.tmod_eq_emod_of_nonneg (by omega), ← hf]
        simp
      have hmin : min (n5 : Int) ((f : Int) + (ls : Int)) = (t : Int) := by omega
      obtain ⟨Af, cf, hsf, hbf⟩ := slice_upto (k := f) hM.dat.sl (form_own hM.dat) (by omega)
      obtain ⟨At, mt, ct, hst, hbt, _⟩ := slice_from (k := t) hM.dat.sl (form_own hM.dat) (by omega)
      have HBE := Lib.hid hbel
      have HM := Lib.hid hM
      have ba1 : IntKind.i64.wrap ((n5 : Int) + 1) = (n5 : Int) + 1 := by rw [IntKind.wrap_i64]; omega
      have ba2 : IntKind.i64.wrap ((f : Int) + (ls : Int)) = (f : Int) + (ls : Int) := by rw [IntKind.wrap_i64]; omega
      have bb1 : (0 : Int) ≤ (a : Int) := by omega
      have bb2 : (a : Int) < 65536 := by omega
      have bb3 : (0 : Int) ≤ (ls : Int) := by omega
      have bb4 : (ls : Int) < 65536 := by omega
      have bc1 : (0 : Int) ≤ (f : Int) := by omega
      have bc2 : (f : Int) ≤ (n5 : Int) := by omega
      have bc3 : (t : Int) ≤ (n5 : Int) := by omega
      have HA1 := Lib.hid (app_law (hbf wr hM.dat.sl) (A := none) (n := 0) (c := 0) (l := []) (by simp; omega))
      have HA2 := Lib.hid (fun A6 n6 c6 => app_law (V := wr) (HBA.out.below hbel) (A := A6) (n := n6) (c := c6) (l := [] ++ data.take f) (by have := HBN.out; simp; omega))
      have HA3 := Lib.hid (fun A6 n6 c6 => app_law (hbt wr hM.dat.sl) (A := A6) (n := n6) (c := c6) (l := ([] ++ data.take f) ++ b) (by have := HBN.out; simp; omega))
      have HD5 : Hid (data.length ≤ 100000) := Lib.hid (by omega)
      clear hM hbel hbf hbt hko hmk hf ht hn5 hdl hdata hk20 HSW
      go_wp2_with fail
      go_region_held3 (fun w' => w'.cell? ⟨pm, 5, none⟩ = some (.slice A5 n5 c5)) (first | (exact cell_below (Below.refl _ wr).drew z5) | go_keep | (exact cell_below HM8.out.2 z5) | (exact cell_below HM7.out.2 z5) | (exact cell_below HM6.out.2 z5)) (first | (refine step_app (R := fun X => OwnB X wr.heap.size (.slice none 0 0) [] ∧ Below wr.heap.size wr X) (M := fun X W6 v' => OwnB W6 wr.heap.size v' ([] ++ data.take f) ∧ Below wr.heap.size wr W6) HA1.out rfl (.const (.slice none 0 0)) (.tmp 96) (by rfl) (by rfl) (by rfl) ⟨none_own _ _, (Below.refl _ wr).drew⟩ ?_; intro A6 n6 c6 W6 hm; have HM6 := Lib.hid hm; clear hm) | (refine step_app (R := fun X => OwnB X wr.heap.size (.slice A6 n6 c6) ([] ++ data.take f) ∧ Below wr.heap.size wr X) (M := fun X W7 v' => OwnB W7 wr.heap.size v' (([] ++ data.take f) ++ b) ∧ Below wr.heap.size wr W7) (HA2.out _ _ _) rfl (.tmp 97) (.tmp 98) (by rfl) (by rfl) (by rfl) HM6.out ?_; intro A7 n7 c7 W7 hm; have HM7 := Lib.hid hm; clear hm) | (refine step_app (R := fun X => OwnB X wr.heap.size (.slice A7 n7 c7) (([] ++ data.take f) ++ b) ∧ Below wr.heap.size wr X) (M := fun X W8 v' => OwnB W8 wr.heap.size v' ((([] ++ data.take f) ++ b) ++ data.drop t) ∧ Below wr.heap.size wr W8) (HA3.out _ _ _) rfl (.tmp 99) (.tmp 105) (by rfl) (by rfl) (by rfl) HM7.out ?_; intro A8 n8 c8 W8 hm; have HM8 := Lib.hid hm; clear hm))
      have HB8 := Lib.hid (nbl_step HBE.out HM8.out.2)
      have HSX : Hid (∀ W, Below W8.heap.size W8 W → W.cell? ⟨w.heap.size, 0, none⟩ = some (.int .i64 r) ∧ W.cell? ⟨w.heap.size, 1, none⟩ = some (.int .i64 (S : Int)) ∧ W.cell? ⟨w.heap.size, 2, none⟩ = some (.int .i64 i) ∧ W.cell? ⟨w.heap.size, 3, none⟩ = some (.int .i64 o) ∧ W.cell? ⟨pm, 5, none⟩ = some (.slice A5 n5 c5)) := Lib.hid fun W hb => by
        obtain ⟨x0, x1, x2, x3⟩ := HQ.out W (nbl_step HB8.out hb)
        exact ⟨x0, x1, x2, x3, cell_below (nbl_step HM8.out.2 hb) z5⟩
      have HR1 : Hid (∀ W, Below W8.heap.size W8 W → Calls Tryz.prog 19 #[.agg #[.int .i64 r, .int .i64 (S : Int), .int .i64 i, .int .i64 o], .slice A m c] W fun e w' => e = .returned (.bool true) ∧ Below W.heap.size W w') := Lib.hid fun W hb => HRT.out W A m c b (nbl_step HB8.out hb) (HBA.out.below (nbl_step HB8.out hb)) HFM.out (by have := HBN.out; omega)
      have HR2 : Hid (∀ W, Below W8.heap.size W8 W → Calls Tryz.prog 19 #[.agg #[.int .i64 r, .int .i64 (S : Int), .int .i64 i, .int .i64 o], .slice A8 n8 c8] W fun e w' => e = .returned (.bool true) ∧ Below W.heap.size W w') := Lib.hid fun W hb => HRT.out W A8 n8 c8 _ (nbl_step HB8.out hb) (HM8.out.1.sl.below hb) (form_own HM8.out.1) (by have := HBN.out; have := HD5.out; simp; omega)
      have HR3 : Hid (∀ W, Below W8.heap.size W8 W → Calls Tryz.prog 19 #[.agg #[.int .i64 r, .int .i64 (S : Int), .int .i64 i, .int .i64 o], .slice A5 n5 c5] W fun e w' => e = .returned (.bool true) ∧ Below W.heap.size W w') := Lib.hid fun W hb => HRT.out W A5 n5 c5 _ (nbl_step HB8.out hb) (HM.out.dat.sl.below (nbl_step HM8.out.2 hb)) (form_own HM.out.dat) (by have := HD5.out; omega)
      clear z5
      go_wp2_with fail
      go_region_held_law (fun w' => w'.cell? ⟨w.heap.size, 0, none⟩ = some (.int .i64 r) ∧ w'.cell? ⟨w.heap.size, 1, none⟩ = some (.int .i64 (S : Int)) ∧ w'.cell? ⟨w.heap.size, 2, none⟩ = some (.int .i64 i) ∧ w'.cell? ⟨w.heap.size, 3, none⟩ = some (.int .i64 o) ∧ w'.cell? ⟨pm, 5, none⟩ = some (.slice A5 n5 c5)) (first | (exact HSX.out _ (Below.refl _ W8).drew) | go_keep | (exact HSX.out _ HB13.out) | (exact HSX.out _ HB12.out) | (exact HSX.out _ HB11.out) | (exact HSX.out _ HB10.out)) (first | (go_at_call 19; first | (refine (HR3.out _ HB11.out).mono ?_; rintro e w12 ⟨rfl, hb⟩; have HB12 : Hid (Below W8.heap.size W8 w12) := Lib.hid (nbl_step HB11.out hb); clear hb) | (refine (HR2.out _ HB10.out).mono ?_; rintro e w11 ⟨rfl, hb⟩; have HB11 : Hid (Below W8.heap.size W8 w11) := Lib.hid (nbl_step HB10.out hb); clear hb) | (refine (HR1.out _ (Below.refl _ W8).drew).mono ?_; rintro e w10 ⟨rfl, hb⟩; have HB10 : Hid (Below W8.heap.size W8 w10) := Lib.hid (nbl_step (Below.refl _ W8).drew hb); clear hb)) | (go_at_call 6; refine (HKNOWN.out _ (nbl_step HB8.out HB12.out)).mono ?_; rintro e w13 ⟨rfl, hb⟩; have HB13 : Hid (Below W8.heap.size W8 w13) := Lib.hid (nbl_step HB12.out hb); clear hb))
      go_wp2_with fail
      go_ret
      exact ⟨rfl, nbl_step HB0.out (nbl_step HB8.out HB13.out)⟩
end Go.Proofs.YtgjbnebmcmoilaaGreatDoor
