/- JournalFulls: the walk. -/
import Derived.Test.YtgjbnebmcmoilaaGreatDoorVl
import Derived.Test.YtgjbnebmcmoilaaGreatDoorKa
import Derived.Deep.RegionHeldLaw
namespace Go.Proofs.YtgjbnebmcmoilaaGreatDoor
set_option linter.unusedVariables false
set_option linter.unusedSimpArgs false
open Go.RowKit Go.MapKept
set_option maxRecDepth 100000 in
theorem slice_to {A : Option Addr} {m c k : Nat} {b : Bs} {w : World} {B : Nat} (h : OwnB w B (.slice A m c) b) (hk : k ≤ b.length) (h0 : 0 < b.length) :
    (∀ W, (Instr.slice 31 (.slice A m c) none (some (.int .i64 (k : Int))) none).run Tryz.prog W = .ok (.slice A k c) W) ∧ (∀ W, BAt W (.slice A m c) b → BAt W (.slice A k c) (b.take k)) := by
  have hl := BAt.len h.sl
  refine ⟨fun W => ?_, fun W hW => SlAt.take hW (by omega)⟩
  rw [run_slice_h (P := Tryz.prog) W 31 A m c Tryz.underlying31 .i64 (k : Int) (by omega) (by omega)]
  have he : Tryz.prog.elem 31 = 5 := by kernel_rfl
  obtain ⟨ii, hi0, hi1, hi2, hi3⟩ := info_parts info_byte
  rw [he]
  obtain ⟨g, hg⟩ : ∃ g, A = some ⟨g, 0, none⟩ := by
    rcases h.2 with ⟨e, h1⟩ | ⟨g, cap, cur, e, _⟩
    · omega
    · injection e with e1
      exact ⟨g, e1⟩
  subst hg
  have hc : ¬ c = 0 := by omega
  simp [sizeOf, typeInfo, hi0, hi2, Result.andThen, sliced, hc, Addr.add]
theorem form_own {w : World} {B : Nat} {A : Option Addr} {m c : Nat} {b : Bs} (h : OwnB w B (.slice A m c) b) : FormB A c := by
  rcases h.2 with ⟨e, h1⟩ | ⟨g, cap, cur, e, _⟩
  · injection e with e1 e2 e3
    exact Or.inl ⟨e1, e3⟩
  · injection e with e1 e2 e3
    exact Or.inr ⟨g, 0, e1⟩
theorem fulls_far (w : World) (hE : Env1 w) (many : Int) (h : many < 1998 ∨ 2002 < many) : Calls Tryz.prog 3 #[.int .i64 many] w fun e w' => e = .returned (.bool true) ∧ Below w.heap.size w w' := by
  have HK := Lib.hid (known41_yes w hE)
  have hd : decide (many < 1998) = true ∨ (decide (many < 1998) = false ∧ decide (2002 < many) = true) := by
    by_cases h1 : many < 1998
    · exact Or.inl (decide_eq_true h1)
    · exact Or.inr ⟨decide_eq_false h1, decide_eq_true (by omega)⟩
  clear h hE
  rcases hd with d1 | ⟨d1, d2⟩
  all_goals
    go_enter Tryz.func3, Tryz.ntmps3
    go_wp2_with (first | (go_at_call 6; refine HK.out.mono ?_; rintro e w2 ⟨rfl, hb⟩; have HB := Lib.hid hb; clear hb))
    go_ret
    exact ⟨rfl, HB.out⟩
set_option maxRecDepth 100000 in
set_option maxHeartbeats 8000000 in
theorem fulls_near (w : World) (hE : Env1 w) (N : Nat) (h1 : 1998 ≤ N) (h2 : N ≤ 2002) : Calls Tryz.prog 3 #[.int .i64 (N : Int)] w fun e w' => e = .returned (.bool true) ∧ Below w.heap.size w w' := by
  obtain ⟨s0, hs0⟩ : ∃ s0, crcU 0 (firstB 1 (4 : Nat) 2 3) = s0 := ⟨_, rfl⟩
  have hok : okN 1 (4 : Nat) 2 3 = true := by kernel_rfl
  have HNW : Hid (∀ W, Below w.heap.size w W → Calls Tryz.prog 7 #[.agg #[.int .i64 1, .int .i64 4, .int .i64 2, .int .i64 3]] W fun e w' => (∃ p, e = .returned (.tuple #[.pointer (some ⟨p, 0, none⟩), .int .i64 0]) ∧ JrAt w' W.heap.size p 1 (4 : Nat) 2 3 [] s0 [] (.slice none 0 0) (.slice none 0 0)) ∧ Below W.heap.size W w') := Lib.hid fun W hb => by rw [← hs0]; exact jnew_good W (hE.below hb) 1 4 2 3 hok
  have HBG : Hid (∀ W, Below w.heap.size w W → Calls Tryz.prog 9 #[.agg #[.int .i64 1, .int .i64 4, .int .i64 2, .int .i64 3]] W fun e w' => (∃ p, e = .returned (.pointer (some ⟨p, 0, none⟩)) ∧ MdAt w' W.heap.size p 1 (4 : Nat) 2 3 [] s0 [] (.slice none 0 0) (.slice none 0 0)) ∧ Below W.heap.size W w') := Lib.hid fun W hb => by rw [← hs0]; exact begun_any W (hE.below hb) 1 (4 : Nat) 2 3
  have HRD : Hid (∀ W A m c b, Below w.heap.size w W → BAt W (.slice A m c) b → FormB A c → b.length ≤ 1000000 → Calls Tryz.prog 13 #[.agg #[.int .i64 1, .int .i64 4, .int .i64 2, .int .i64 3], .slice A m c] W fun e w' => ReadPost W 1 (4 : Nat) 2 3 s0 b e w') := Lib.hid fun W A m c b hb hba hf hl => read_any W (hE.below hb) 1 4 2 3 A m c b hba hf hl hok s0 hs0
  have HKN := Lib.hid (fun W (hb : Below w.heap.size w W) => known41_yes W (hE.below hb))
  have HE := Lib.hid hE
  have HCF := Lib.hid (fun W => config_any W)
  have HGT := Lib.hid (fun W => get_any W)
  have d1 : decide ((N : Int) < 1998) = false := decide_eq_false (by omega)
  have d2 : decide ((2002 : Int) < (N : Int)) = false := decide_eq_false (by omega)
  clear hE hs0 hok
  go_enter Tryz.func3, Tryz.ntmps3
  go_wp2_with (first | (go_at_call 7; refine (HNW.out _ HB1.out).mono ?_; rintro e w2 ⟨⟨p, rfl, hj⟩, hb⟩; have HJ2 : Hid (FulI w w2 p s0 0 0 (.slice none 0 0) (.slice none 0 0) (.slice none 0 0) []) := Lib.hid ⟨hj.base HB1.out.size, rfl, nown_none _ _ _ _, fun g hg => (by cases hg), nbl_step HB1.out hb⟩; clear hj hb) | (go_at_call 9; refine (HBG.out _ HB3.out).mono ?_; rintro e w4 ⟨⟨pm, rfl, hm⟩, hb⟩; have y6 : w4.cell? ⟨pm, 6, none⟩ = some (.int .u32 s0) := wcell_at hm.hp; have HJ4 := Lib.hid (HJ3.out.below hb); clear hm hb) | (go_at_call 8; refine (HCF.out _).mono ?_; rintro e w3 ⟨rfl, hb⟩; first | (have HJ3 := Lib.hid (HJ2.out.below hb); have HB3 := Lib.hid HJ3.out.bel; clear hb) | (have HB1 := Lib.hid hb; clear hb)))
  go_loopg [5, 6, 7] N (fun gf u5 u6 u7 wx => ∃ (n : Nat) (A : Option Addr) (m c : Nat), u7 = .int .i64 (n : Int) ∧ u5 = .int .u32 (jst s0 (reps n)).2 ∧ u6 = .slice A m c ∧ n + gf = N ∧ FulS w wx p s0 (min n 2000) n (.slice A m c))
  case atStart => exact ⟨0, none, 0, 0, rfl, rfl, rfl, by omega, _, _, _, HJ4.out⟩
  case round =>
    clear HNW HBG HJ2 HJ3 HJ4 HB1 HB3
    obtain ⟨n, A, m, c, rfl, rfl, rfl, hn, hS⟩ := hrel
    have HS := Lib.hid hS
    clear hS
    obtain ⟨sm, hsm⟩ : ∃ sm, (jst s0 (reps n)).2 = sm := ⟨_, rfl⟩
    have HSM := Lib.hid hsm
    rw [hsm]
    clear hsm
    by_cases hlt : n < N
    · obtain ⟨g', rfl⟩ : ∃ g', gk = g' + 1 := ⟨gk - 1, by omega⟩
      have HRC : Hid (∀ W, Below w.heap.size w W → Calls Tryz.prog 12 #[.agg getJ.arr, .int .u32 sm] W fun e w' => (∃ A n c, e = .returned (.tuple #[.slice A n c, .int .u32 (getK.sum sm)]) ∧ BAt w' (.slice A n c) (getK.rec sm)) ∧ Below W.heap.size W w') := Lib.hid fun W hb => ful_record hb HE.out sm
      have HSUM : Hid ((jst s0 (reps (n + 1))).2 = getK.sum sm) := Lib.hid (by rw [reps_succ, jst_snoc, HSM.out])
      obtain ⟨sm2, hsm2⟩ : ∃ sm2, getK.sum sm = sm2 := ⟨_, rfl⟩
      rw [hsm2] at HRC HSUM
      clear hsm2
      by_cases hroom : n < 2000
      · have e1 : min n 2000 = n := by omega
        have E2 : Hid (min (n + 1) 2000 = n + 1) := Lib.hid (by omega)
        have d3 : decide ((n : Int) < 2000) = true := decide_eq_true (by omega)
        rw [e1] at HS
        have HROOM := Lib.hid hroom
        clear e1 hroom
        go_wp2_with (first | (go_at_call 11; refine (HGT.out _).mono ?_; rintro e w6 ⟨rfl, hb⟩; first | (have HS8 := Lib.hid (HS7.out.below hb); clear hb) | (have HS6 := Lib.hid (HS.out.below hb); clear hb)) | (go_at_call 10; refine (ful_append HS6.out HE.out HROOM.out).mono ?_; rintro e w7 ⟨rfl, hs⟩; have HS7 := Lib.hid hs; clear hs) | (go_at_call 12; refine (HRC.out _ HS8.out.bel).mono ?_; rintro e w9 ⟨⟨A9, m9, c9, rfl, hba⟩, hb⟩; obtain ⟨A10, m10, c10, w10, hr10, hs10⟩ := ful_all (HS8.out.below hb) (by rw [HSM.out]; exact hba) (by omega); have HR10 := Lib.hid hr10; have HS10 := Lib.hid hs10; clear hba hb hr10 hs10) | (at_builtin; refine wpList_append_eq HR10.out rfl (.tmp 53) (.tmp 54) rfl rfl rfl ?_))
        go_roundg g'
        case measure => omega
        case rel => exact ⟨n + 1, A10, m10, c10, by first | rfl | go_num, by rw [HSUM.out], rfl, by omega, by rw [E2.out]; exact HS10.out⟩
      · have e1 : min n 2000 = 2000 := by omega
        have E2 : Hid (min (n + 1) 2000 = 2000) := Lib.hid (by omega)
        have d3 : decide ((n : Int) < 2000) = false := decide_eq_false (by omega)
        obtain ⟨a2, ha2⟩ : ∃ a2 : Nat, 2000 = a2 := ⟨_, rfl⟩
        have HA2 : Hid (¬ a2 < 2000 ∧ min (n + 1) 2000 = a2) := Lib.hid ⟨by omega, by rw [← ha2]; exact E2.out⟩
        rw [e1, ha2] at HS
        clear e1 hroom E2 ha2
        go_wp2_with (first | (go_at_call 11; refine (HGT.out _).mono ?_; rintro e w6 ⟨rfl, hb⟩; first | (have HS8 := Lib.hid (HS7.out.below hb); clear hb) | (have HS6 := Lib.hid (HS.out.below hb); clear hb)) | (go_at_call 10; refine (ful_full HS6.out HE.out HA2.out.1).mono ?_; rintro e w7 ⟨rfl, hs⟩; have HS7 := Lib.hid hs; clear hs) | (go_at_call 12; refine (HRC.out _ HS8.out.bel).mono ?_; rintro e w9 ⟨⟨A9, m9, c9, rfl, hba⟩, hb⟩; obtain ⟨A10, m10, c10, w10, hr10, hs10⟩ := ful_all (HS8.out.below hb) (by rw [HSM.out]; exact hba) (by omega); have HR10 := Lib.hid hr10; have HS10 := Lib.hid hs10; clear hba hb hr10 hs10) | (at_builtin; refine wpList_append_eq HR10.out rfl (.tmp 53) (.tmp 54) rfl rfl rfl ?_))
        go_roundg g'
        case measure => omega
        case rel => exact ⟨n + 1, A10, m10, c10, by first | rfl | go_num, by rw [HSUM.out], rfl, by omega, by rw [HA2.out.2]; exact HS10.out⟩
    · have e : n = N := by omega
      subst e
      obtain ⟨K, hK⟩ : ∃ K, min n 2000 = K := ⟨_, rfl⟩
      rw [hK] at HS
      obtain ⟨dv, cv, lj, hF⟩ := HS.out
      have hKn : K ≤ n := by omega
      have hminI : min (n : Int) 2000 = (K : Int) := by omega
      obtain ⟨bn, hbn⟩ : ∃ bn, (jst s0 (reps n)).1 = bn := ⟨_, rfl⟩
      obtain ⟨bk, hbk⟩ : ∃ bk, (jst s0 (reps K)).1 = bk := ⟨_, rfl⟩
      have hbnl : bn.length = 8 * n := by rw [← hbn, jst_reps_len]
      have hbkl : bk.length = 8 * K := by rw [← hbk, jst_reps_len]
      have htake : bn.take (8 * K) = bk := by rw [← hbkl, ← hbn, ← hbk]; exact jst_reps_take s0 hKn
      have hall : OwnB wr w.heap.size (.slice A m c) bn := by rw [← hbn]; exact hF.all
      have hm8 : m = 8 * n := by rw [← hbnl]; exact bat_len hall.sl
      subst hm8
      obtain ⟨hsl, hst⟩ := slice_to (k := 8 * K) hall (by omega) (by omega)
      have HRD2 : Hid (∀ W, Below wr.heap.size wr W → Calls Tryz.prog 13 #[.agg #[.int .i64 1, .int .i64 4, .int .i64 2, .int .i64 3], .slice A (8 * n) c] W fun e w' => ∃ p' dvx cvx ljx, e = .returned (.tuple #[.pointer (some ⟨p', 0, none⟩), .int .i64 ((8 * K : Nat) : Int), .int .i64 0]) ∧ RdJ W w' p' 1 (4 : Nat) 2 3 s0 bn (reps K) dvx cvx ljx) := Lib.hid fun W hb => by
        have h3 := HRD.out W A (8 * n) c bn (nbl_step hF.bel hb) (hall.sl.below hb) (form_own hall) (by omega)
        unfold ReadPost at h3
        rw [← hbn, readAll_reps, hK, hbk, hbkl, hbn] at h3
        exact h3
      obtain ⟨sv, hsv⟩ : ∃ sv : ByteArray, (⟨bk.toArray⟩ : ByteArray) = sv := ⟨_, rfl⟩
      have HCA : Hid (∀ W, Below wr.heap.size wr W → (convert 31 9 (.slice A (8 * K) c)).run Tryz.prog W = .ok (.string sv) W) := Lib.hid fun W hb => by
        have h3 := hst W (hall.sl.below hb)
        rw [htake] at h3
        rw [← hsv]
        exact back_sl h3
      have HBY : Hid (∀ W, Below wr.heap.size wr W → Calls Tryz.prog 15 #[.pointer (some ⟨p, 0, none⟩)] W fun e w' => (∃ A' c', e = .returned (.slice A' (8 * K) c') ∧ (convert 31 9 (.slice A' (8 * K) c')).run Tryz.prog w' = .ok (.string sv) w') ∧ Below W.heap.size W w') := Lib.hid fun W hb => (jbytes_any W _ p 1 (4 : Nat) 2 3 _ _ lj dv cv (hF.j.below hb) (by rw [hbk]; omega)).mono (by
        rintro e w' ⟨⟨v8, he, ho⟩, hb8⟩
        obtain ⟨A8, n8, c8, rfl⟩ := own_slice ho
        rw [hbk] at ho
        have hn8 := bat_len ho.sl
        rw [hbkl] at hn8
        subst hn8
        exact ⟨⟨A8, c8, he, by rw [← hsv]; exact back_sl ho.sl⟩, hb8⟩)
      have HWR := Lib.hid hF.bel
      have b1 : (0 : Int) ≤ ((8 * K : Nat) : Int) := by omega
      have b2 : ((8 * K : Nat) : Int) ≤ ((8 * n : Nat) : Int) := by omega
      clear hF hall hst hbn hbk hbnl hbkl htake hsv HS HSM HRD hKn hK
      generalize 8 * K = k8 at *
      generalize 8 * n = n8 at *
      go_wp2_with (first | (go_at_call 8; refine (HCF.out _).mono ?_; rintro e w5 ⟨rfl, hb⟩; have HB5 := Lib.hid hb; clear hb) | (go_at_call 13; refine (HRD2.out _ HB5.out).mono ?_; rintro e w6 ⟨p', dvx, cvx, ljx, rfl, hrj⟩; have HX6 := Lib.hid hrj; have HB6 := Lib.hid (nbl_step HB5.out hrj.bel); clear hrj))
      have HLE : Hid (∀ W, Below w6.heap.size w6 W → Calls Tryz.prog 14 #[.pointer (some ⟨p', 0, none⟩)] W fun e w' => e = .returned (.int .i64 (K : Int)) ∧ w' = W) := Lib.hid fun W hb => by
        have h3 := jlen_any W _ p' 1 (4 : Nat) 2 3 _ _ ljx dvx cvx (HX6.out.j.below hb)
        have h4 : ljx.length = K := by have := congrArg List.length HX6.out.jk; rw [List.length_map, reps_len] at this; exact this
        rw [h4] at h3
        exact h3
      have cv0 := HCA.out w6 HB6.out
      have cvd := HCA.out _ (nbl_step HB6.out (Below.refl _ w6).drew)
      go_region_held_law (fun w' => (convert 31 9 (.slice A k8 c)).run Tryz.prog w' = .ok (.string sv) w') (first | (exact cvd) | go_keep | (exact HCA.out _ HB10.out) | (exact HCA.out _ HB8.out)) (first | (go_at_call 14; refine (HLE.out _ (Below.refl _ w6).drew).mono ?_; rintro e w7 ⟨rfl, hw⟩; obtain rfl := hw.symm; clear hw) | (go_at_call 15; refine (HBY.out _ (by first | exact HB8.out | exact nbl_step HB6.out (Below.refl _ w6).drew)).mono ?_; rintro e w8 ⟨⟨A8, c8, rfl, cv8⟩, hb⟩; have HB8 : Hid (Below wr.heap.size wr w8) := Lib.hid (by first | exact nbl_step HB8.out hb | exact nbl_step (nbl_step HB6.out (Below.refl _ w6).drew) hb); clear hb) | (go_at_call 6; refine (HKN.out _ (nbl_step HWR.out HB8.out)).mono ?_; rintro e w9 ⟨rfl, hb⟩; have HB9 : Hid (Below w.heap.size w w9) := Lib.hid (nbl_step (nbl_step HWR.out HB8.out) hb); have HB10 : Hid (Below wr.heap.size wr w9) := Lib.hid (nbl_step HB8.out hb); clear hb))
      all_goals
        go_wp2_with fail
        go_ret
        exact ⟨rfl, HB9.out⟩
theorem fulls_any (many : Int) (w : World) (hE : Env1 w) : Calls Tryz.prog 3 #[.int .i64 many] w fun e w' => e = .returned (.bool true) ∧ Below w.heap.size w w' := by
  by_cases h : many < 1998 ∨ 2002 < many
  · exact fulls_far w hE many h
  · obtain ⟨N, rfl⟩ : ∃ N : Nat, many = (N : Int) := ⟨many.toNat, by omega⟩
    exact fulls_near w hE N (by omega) (by omega)
end Go.Proofs.YtgjbnebmcmoilaaGreatDoor
