/- journal.Read: the walk. -/
import Derived.Test.YtgjbnebmcmoilaaGreatDoorVk
namespace Go.Proofs.YtgjbnebmcmoilaaGreatDoor
set_option linter.unusedVariables false
set_option linter.unusedSimpArgs false
open Go.RowKit Go.MapKept
theorem form_nil {W : World} {A : Option Addr} {m c : Nat} {b : Bs} (h : BAt W (.slice A m c) b) (hf : FormB A c) : Value.slice A m c = .slice none 0 0 ∨ ∃ b off n c', Value.slice A m c = .slice (some ⟨b, off, none⟩) n c' := by
  rcases hf with ⟨rfl, rfl⟩ | ⟨g, off, rfl⟩
  · have := BAt.len h
    exact Or.inl (by rw [show m = 0 by omega])
  · exact Or.inr ⟨_, _, _, _, rfl⟩
theorem readF_none {s0 : Int} {b : Bs} {ks : List Key} (g : Nat) (h : readStep s0 b ks = none) : readF s0 b (g + 1) ks = ks := by
  unfold readF
  rw [h]
theorem readF_some {s0 : Int} {b : Bs} {ks : List Key} {κ : Key} (g : Nat) (h : readStep s0 b ks = some κ) : readF s0 b (g + 1) ks = readF s0 b g (ks ++ [κ]) := by
  conv => lhs; unfold readF
  rw [h]
def ReadPost (w : World) (r s i o s0 : Int) (b : Bs) (e : Ending) (w' : World) : Prop :=
  ∃ p dv cv lj, e = .returned (.tuple #[.pointer (some ⟨p, 0, none⟩), .int .i64 ((jst s0 (readAll s0 b)).1.length : Int), .int .i64 0]) ∧ RdJ w w' p r s i o s0 b (readAll s0 b) dv cv lj
set_option maxRecDepth 100000 in
set_option maxHeartbeats 8000000 in
theorem read_any (w : World) (hE : Env1 w) (r : Int) (S : Nat) (i o : Int) (A : Option Addr) (m c : Nat) (b : Bs) (h : BAt w (.slice A m c) b) (hf : FormB A c) (hbl : b.length ≤ 1000000) (hok : okN r S i o = true) (s0 : Int) (hs0 : crcU 0 (firstB r S i o) = s0) :
    Calls Tryz.prog 13 #[.agg #[.int .i64 r, .int .i64 (S : Int), .int .i64 i, .int .i64 o], .slice A m c] w fun e w' => ReadPost w r S i o s0 b e w' := by
  have HNW : Hid (∀ W, Below w.heap.size w W → Calls Tryz.prog 7 #[.agg #[.int .i64 r, .int .i64 (S : Int), .int .i64 i, .int .i64 o]] W fun e w' => (∃ p, e = .returned (.tuple #[.pointer (some ⟨p, 0, none⟩), .int .i64 0]) ∧ JrAt w' W.heap.size p r S i o [] s0 [] (.slice none 0 0) (.slice none 0 0)) ∧ Below W.heap.size W w') := Lib.hid fun W hb => by rw [← hs0]; exact jnew_good W (hE.below hb) r S i o hok
  have HE := Lib.hid hE
  have HB := Lib.hid h
  have HF := Lib.hid hf
  have HBL := Lib.hid hbl
  clear h hE hf hbl hok hs0
  go_enter Tryz.func13, Tryz.ntmps13
  go_wp2_with (first | (go_at_call 7; refine (HNW.out _ (below_alloc _ _)).mono ?_; rintro e w1 ⟨⟨p, rfl, hj⟩, hb⟩; have HJ1 : Hid (RdJ w w1 p r S i o s0 b [] (.slice none 0 0) (.slice none 0 0) []) := Lib.hid ⟨hj.base (by rw [wsize_alloc]; omega), rfl, fun κ hκ => (by cases hκ), rfl, by simp, fun x hx => (by cases hx), nbl_step (below_alloc _ _) hb⟩; clear hj hb))
  go_loopg [4] 2001 (fun gf u4 wx => ∃ (ks : List Key) (dv cv : Value) (lj : List JC), u4 = .pointer (some ⟨p, 0, none⟩) ∧ gf + ks.length = 2001 ∧ readAll s0 b = readF s0 b gf ks ∧ RdJ w wx p r S i o s0 b ks dv cv lj)
  case atStart => exact ⟨[], _, _, [], rfl, rfl, rfl, HJ1.out⟩
  case round =>
    clear HJ1 HNW
    obtain ⟨ks, dv, cv, lj, rfl, hgk, hra, hR⟩ := hrel
    have HR := Lib.hid hR
    obtain ⟨g', rfl⟩ : ∃ g', gk = g' + 1 := ⟨gk - 1, by have := hR.le; omega⟩
    have HRA := Lib.hid hra
    obtain ⟨A5, n5, c5, rfl⟩ := own_slice hR.j.dat
    have hn5 : (jst s0 ks).1.length = n5 := own_len hR.j.dat
    have z5 : wr.cell? ⟨p, 5, none⟩ = some (.slice A5 n5 c5) := wcell_at hR.j.hp
    have z6 : wr.cell? ⟨p, 6, none⟩ = some (.int .u32 (jst s0 ks).2) := wcell_at hR.j.hp
    obtain ⟨A', m', c', hsl, hbd, hf'⟩ := slice_from (k := n5) HB.out HF.out (by rw [← hn5]; exact hR.len)
    have hrest := hbd wr (HB.out.below hR.bel)
    have hrl : (b.drop n5).length ≤ 1000000 := by rw [List.length_drop]; have := HBL.out; omega
    have HN5 := Lib.hid hn5
    have HREST := Lib.hid hrest
    have HNX := Lib.hid (next_any wr (HE.out.below hR.bel) A' m' c' (b.drop n5) hrest hrl (form_nil hrest hf'))
    unfold NextPost at HNX
    have HSTEP : Hid (readStep s0 b ks = match nextR (b.drop n5) with | none => none | some κ => if (Key.rec κ (jst s0 ks).2).isPrefixOf (b.drop n5) = true ∧ ks.length < 2000 then some κ else none) := Lib.hid (by rw [← hn5]; rfl)
    clear hra hrest hrl hbd hf' hR hn5
    cases hnx : nextR (b.drop n5) with
    | none =>
      rw [hnx] at HNX HSTEP
      dsimp only at HNX HSTEP
      clear hnx
      have HDONE : Hid (readAll s0 b = ks) := Lib.hid (by rw [HRA.out, readF_none g' HSTEP.out])
      go_wp2_with (first | (go_at_call 40; refine HNX.out.mono ?_; rintro e w2 ⟨rfl, hb⟩; have HR2 := Lib.hid (HR.out.below hb); have y5 := cell_below hb z5; clear hb))
      go_region_held3 (fun w' => w'.cell? ⟨p, 5, none⟩ = some (.slice A5 n5 c5)) (go_keep) (fail)
      go_wp2_with fail
      go_ret3
      unfold ReadPost
      rw [HDONE.out]
      exact ⟨p, _, _, _, by rw [HN5.out]; rfl, HR2.out.below (below_alloc _ _).drew⟩
    | some κ =>
      rw [hnx] at HNX HSTEP
      have hkr := nextR_ok hnx
      obtain ⟨xo, xq, xk, xt, xj, xd⟩ := κ
      dsimp only at HNX HSTEP
      have HKR := Lib.hid hkr
      clear hnx hkr
      obtain ⟨rv, hrv⟩ : ∃ rv, Key.rec (xo, xq, xk, xt, xj, xd) (jst s0 ks).2 = rv := ⟨_, rfl⟩
      have HRV := Lib.hid hrv
      rw [hrv] at HSTEP
      obtain ⟨pf, hpf⟩ : ∃ pf, rv.isPrefixOf (b.drop n5) = pf := ⟨_, rfl⟩
      rw [hpf] at HSTEP
      have HPF := Lib.hid hpf
      obtain ⟨sum, hsum⟩ : ∃ sum, (jst s0 ks).2 = sum := ⟨_, rfl⟩
      have HSUM := Lib.hid hsum
      rw [hsum] at z6
      clear hrv hpf hsum
      go_wp2_with (first | (go_at_call 40; refine HNX.out.mono ?_; rintro e w2 ⟨⟨A7, m7, c7, rfl, hba, hfr⟩, hb⟩; have HBA := Lib.hid hba; have HB2 := Lib.hid hb; clear hb hba hfr))
      have HB3 : Hid (Below wr.heap.size wr (w2.alloc (.cells #[.int .i64 xo, .string xk, .string xt, .string xj, .int .i64 xq, .slice A7 m7 c7] 40))) := Lib.hid (nbl_al HB2.out)
      have y6 := cell_below HB3.out z6
      have e0 : (w2.alloc (.cells #[.int .i64 xo, .string xk, .string xt, .string xj, .int .i64 xq, .slice A7 m7 c7] 40)).cell? ⟨w2.heap.size, 0, none⟩ = some (.int .i64 xo) := new_cells w2 _ _ 0
      have e1 : (w2.alloc (.cells #[.int .i64 xo, .string xk, .string xt, .string xj, .int .i64 xq, .slice A7 m7 c7] 40)).cell? ⟨w2.heap.size, 1, none⟩ = some (.string xk) := new_cells w2 _ _ 1
      have e2 : (w2.alloc (.cells #[.int .i64 xo, .string xk, .string xt, .string xj, .int .i64 xq, .slice A7 m7 c7] 40)).cell? ⟨w2.heap.size, 2, none⟩ = some (.string xt) := new_cells w2 _ _ 2
      have e3 : (w2.alloc (.cells #[.int .i64 xo, .string xk, .string xt, .string xj, .int .i64 xq, .slice A7 m7 c7] 40)).cell? ⟨w2.heap.size, 3, none⟩ = some (.string xj) := new_cells w2 _ _ 3
      have e4 : (w2.alloc (.cells #[.int .i64 xo, .string xk, .string xt, .string xj, .int .i64 xq, .slice A7 m7 c7] 40)).cell? ⟨w2.heap.size, 4, none⟩ = some (.int .i64 xq) := new_cells w2 _ _ 4
      have e5 : (w2.alloc (.cells #[.int .i64 xo, .string xk, .string xt, .string xj, .int .i64 xq, .slice A7 m7 c7] 40)).cell? ⟨w2.heap.size, 5, none⟩ = some (.slice A7 m7 c7) := new_cells w2 _ _ 5
      have HBA3 := Lib.hid (HBA.out.below (below_alloc w2 (.cells #[.int .i64 xo, .string xk, .string xt, .string xj, .int .i64 xq, .slice A7 m7 c7] 40)))
      generalize w2.alloc (.cells #[.int .i64 xo, .string xk, .string xt, .string xj, .int .i64 xq, .slice A7 m7 c7] 40) = w3 at *
      have HREC : Hid (∀ W, Below w3.heap.size w3 W → Calls Tryz.prog 35 #[.agg #[.int .i64 xo, .string xk, .string xt, .string xj, .int .i64 xq, .slice A7 m7 c7], .int .u32 sum] W fun e w' => (∃ A n c sm, e = .returned (.tuple #[.slice A n c, .int .u32 sm, .int .i64 0]) ∧ BAt w' (.slice A n c) rv) ∧ Below W.heap.size W w') := Lib.hid fun W hb => by
        have h1 := rd_record (nbl_step (nbl_step HR.out.bel HB3.out) hb) HE.out ⟨xo, xq, xk, xt, xj, A7, m7, c7, xd⟩ HKR.out (HBA3.out.below hb) sum
        rw [show Key.rec (JC.key ⟨xo, xq, xk, xt, xj, A7, m7, c7, xd⟩) sum = rv by rw [← HSUM.out]; exact HRV.out] at h1
        exact h1
      have HSX : Hid (∀ W, Below w3.heap.size w3 W → W.cell? ⟨w2.heap.size, 0, none⟩ = some (.int .i64 xo) ∧ W.cell? ⟨w2.heap.size, 1, none⟩ = some (.string xk) ∧ W.cell? ⟨w2.heap.size, 2, none⟩ = some (.string xt) ∧ W.cell? ⟨w2.heap.size, 3, none⟩ = some (.string xj) ∧ W.cell? ⟨w2.heap.size, 4, none⟩ = some (.int .i64 xq) ∧ W.cell? ⟨w2.heap.size, 5, none⟩ = some (.slice A7 m7 c7) ∧ W.cell? ⟨p, 6, none⟩ = some (.int .u32 sum)) := Lib.hid fun W hb => ⟨cell_below hb e0, cell_below hb e1, cell_below hb e2, cell_below hb e3, cell_below hb e4, cell_below hb e5, cell_below hb y6⟩
      go_region_held3 (fun w' => w'.cell? ⟨w2.heap.size, 0, none⟩ = some (.int .i64 xo) ∧ w'.cell? ⟨w2.heap.size, 1, none⟩ = some (.string xk) ∧ w'.cell? ⟨w2.heap.size, 2, none⟩ = some (.string xt) ∧ w'.cell? ⟨w2.heap.size, 3, none⟩ = some (.string xj) ∧ w'.cell? ⟨w2.heap.size, 4, none⟩ = some (.int .i64 xq) ∧ w'.cell? ⟨w2.heap.size, 5, none⟩ = some (.slice A7 m7 c7) ∧ w'.cell? ⟨p, 6, none⟩ = some (.int .u32 sum)) (first | (exact HSX.out _ (Below.refl _ w3).drew) | go_keep | (exact HSX.out _ HB4.out)) (first | (go_at_call 35; refine (HREC.out _ (Below.refl _ w3).drew).mono ?_; rintro e w4 ⟨⟨A8, m8, c8, sm8, rfl, hb8⟩, hb⟩; have HB8 := Lib.hid hb8; have HB4 : Hid (Below w3.heap.size w3 w4) := Lib.hid (nbl_step (Below.refl _ w3).drew hb); clear hb hb8) | fail)
      have HR4 := Lib.hid (HR.out.below (nbl_step HB3.out HB4.out))
      have HPRE := Lib.hid (prefix_any w4 A' m' c' (b.drop n5) A8 m8 c8 rv (HREST.out.below (nbl_step HB3.out HB4.out)) HB8.out)
      rw [HPF.out] at HPRE
      have HBA4 := Lib.hid (HBA3.out.below HB4.out)
      have k5 := cell_below (nbl_step HB3.out HB4.out) z5
      have k0 := (HSX.out _ HB4.out).1
      have k1 := (HSX.out _ HB4.out).2.1
      have k2 := (HSX.out _ HB4.out).2.2.1
      have k3 := (HSX.out _ HB4.out).2.2.2.1
      have k4 := (HSX.out _ HB4.out).2.2.2.2.1
      have k55 := (HSX.out _ HB4.out).2.2.2.2.2.1
      clear e0 e1 e2 e3 e4 e5 y6 z5 z6
      cases pf with
      | false =>
        have HDONE : Hid (readAll s0 b = ks) := Lib.hid (by rw [HRA.out]; exact readF_none g' (HSTEP.out.trans (if_neg (by simp))))
        go_wp2_with (first | (go_at_call 41; refine HPRE.out.mono ?_; rintro e w5 ⟨rfl, hw⟩; obtain rfl := hw.symm; clear hw))
        go_region_held3 (fun w' => w'.cell? ⟨p, 5, none⟩ = some (.slice A5 n5 c5)) (go_keep) (fail)
        go_wp2_with fail
        go_ret3
        unfold ReadPost
        rw [HDONE.out]
        exact ⟨p, _, _, _, by rw [HN5.out]; rfl, HR4.out.below (Below.refl _ _).drew⟩

      | true =>
        by_cases hl2 : ks.length < 2000
        · have HAP := Lib.hid (rd_append HR4.out HE.out HBL.out ⟨xo, xq, xk, xt, xj, A7, m7, c7, xd⟩ HKR.out HBA4.out hl2 (by rw [HN5.out, show Key.rec (JC.key ⟨xo, xq, xk, xt, xj, A7, m7, c7, xd⟩) (jst s0 ks).2 = rv from HRV.out]; exact HPF.out))
          unfold JC.arr at HAP
          dsimp only [JC.key] at HAP
          have HNXT : Hid (readAll s0 b = readF s0 b g' (ks ++ [(xo, xq, xk, xt, xj, xd)])) := Lib.hid (by rw [HRA.out]; exact readF_some g' (HSTEP.out.trans (if_pos ⟨rfl, hl2⟩)))
          have HGK := Lib.hid hgk
          clear hl2 hgk
          go_wp2_with (first | (go_at_call 41; refine HPRE.out.mono ?_; rintro e w5 ⟨rfl, hw⟩; obtain rfl := hw.symm; clear hw) | (go_at_call 10; refine HAP.out.mono ?_; rintro e w6 ⟨rfl, dv6, cv6, lj6, hr6⟩; have HR6 := Lib.hid hr6; clear hr6))
          go_roundg g'
          case measure => omega
          case rel => exact ⟨_, _, _, _, rfl, by rw [List.length_append]; have := HGK.out; simp; omega, HNXT.out, HR6.out⟩
        · have HAP := Lib.hid (rd_full HR4.out HE.out ⟨xo, xq, xk, xt, xj, A7, m7, c7, xd⟩ HKR.out HBA4.out hl2)
          unfold JC.arr at HAP
          dsimp only at HAP
          have HDONE : Hid (readAll s0 b = ks) := Lib.hid (by rw [HRA.out]; exact readF_none g' (HSTEP.out.trans (if_neg (by rintro ⟨_, h3⟩; exact hl2 h3))))
          clear hl2
          go_wp2_with (first | (go_at_call 41; refine HPRE.out.mono ?_; rintro e w5 ⟨rfl, hw⟩; obtain rfl := hw.symm; clear hw) | (go_at_call 10; refine HAP.out.mono ?_; rintro e w6 ⟨rfl, hr6⟩; have HR6 := Lib.hid hr6; have y5 : w6.cell? ⟨p, 5, none⟩ = some (.slice A5 n5 c5) := wcell_at hr6.j.hp; clear hr6))
          go_region_held3 (fun w' => w'.cell? ⟨p, 5, none⟩ = some (.slice A5 n5 c5)) (go_keep) (fail)
          go_wp2_with fail
          go_ret3
          unfold ReadPost
          rw [HDONE.out]
          exact ⟨p, _, _, _, by rw [HN5.out]; rfl, HR6.out.below (Below.refl _ _).drew⟩

end Go.Proofs.YtgjbnebmcmoilaaGreatDoor
