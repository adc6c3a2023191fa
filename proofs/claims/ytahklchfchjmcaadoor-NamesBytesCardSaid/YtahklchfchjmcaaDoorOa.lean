/- The reference's hex, one, Quote and starts. -/
import Derived.Test.YtahklchfchjmcaaDoorNn
namespace Go.Proofs.YtahklchfchjmcaaDoor
set_option linter.unusedVariables false
set_option linter.unusedSimpArgs false
open Go.RowKit Go.MapKept

theorem digit_cut (q : Nat) (hq : q < 16) : digitsB.extract q (q + 1) = ⟨#[hexD (UInt8.ofNat q)]⟩ := extract_one (digits_at q hq)

set_option maxRecDepth 100000 in
set_option maxHeartbeats 1000000 in
theorem hex_any (q : Nat) (hq : q < 16) (w : World) :
    Calls Tryd.prog 78 #[.int .u8 (q : Int)] w fun e w' => e = .returned (.string ⟨#[hexD (UInt8.ofNat q)]⟩) ∧ w' = w := by
  have hsl : ∀ W, (Instr.slice 9 (.string ⟨#[48, 49, 50, 51, 52, 53, 54, 55, 56, 57, 97, 98, 99, 100, 101, 102]⟩) (some (.int .u8 (q : Int))) (some (.int .u8 ((q : Int) + 1))) none).run Tryd.prog W = .ok (.string ⟨#[hexD (UInt8.ofNat q)]⟩) W := fun W => by
    have h := run_slice_string (P := Tryd.prog) W 9 digitsB .u8 .u8 q ((q : Int) + 1) (by kernel_rfl) (by omega) (by omega) (show (q : Int) + 1 ≤ 16 by omega)
    rw [← digit_cut q hq]
    exact h
  have hw : ((q : Int) + 1) % 256 = (q : Int) + 1 := by omega
  have hw2 : IntKind.u8.wrap ((q : Int) + 1) = (q : Int) + 1 := by
    unfold IntKind.wrap
    simp [IntKind.bits, IntKind.signed]
    omega
  generalize hexD (UInt8.ofNat q) = d at *
  go_enter Tryd.func78, Tryd.ntmps78
  go_wp2
  go_ret
  exact ⟨rfl, rfl⟩

theorem one_back (w : World) (x : UInt8) : (convert 44 9 (.slice (some ⟨w.heap.size, 0, none⟩) 1 1)).run Tryd.prog (w.alloc (.cells #[.int .u8 (x.toNat : Int)] 5)) = .ok (.string ⟨#[x]⟩) (w.alloc (.cells #[.int .u8 (x.toNat : Int)] 5)) :=
  back_bytes (l := [x]) (nown_new w #[.int .u8 (x.toNat : Int)] 5 1 1 w.heap.size rfl (by omega) (Nat.le_refl _))

set_option maxRecDepth 100000 in
set_option maxHeartbeats 1000000 in
theorem one_any (x : UInt8) (w : World) :
    Calls Tryd.prog 54 #[.int .u8 (x.toNat : Int)] w fun e w' => e = .returned (.string (bsOf (oneL x))) ∧ Below w.heap.size w w' := by
  have hx256 := x.toNat_lt
  have hbk := one_back w x
  have hal := (Below.refl w.heap.size w).alloc (Nat.le_refl _) (.cells #[.int .u8 (x.toNat : Int)] 5)
  have HAL := Lib.hid hal
  clear hal
  rcases oneL_cases x with ⟨h, e⟩ | ⟨hn, h, e⟩ | ⟨hn1, hn2, h, e⟩
  · have hadd := fun W => add_str ⟨#[92]⟩ ⟨#[x]⟩ (show 1 + 1 ≤ 1000000 by omega) W
    have HE : Hid ((⟨#[92]⟩ : ByteArray) ++ ⟨#[x]⟩ = bsOf (oneL x)) := Lib.hid (by rw [e]; rfl)
    rw [HE.out] at hadd
    generalize bsOf (oneL x) = T at *
    clear e
    rcases h with rfl | rfl
    all_goals
      simp only [show ((34 : UInt8).toNat : Int) = 34 from rfl, show ((92 : UInt8).toNat : Int) = 92 from rfl] at hbk
      go_enter Tryd.func54, Tryd.ntmps54
      go_wp2
      go_ret
      exact ⟨rfl, HAL.out⟩
  · have n34 : ((x.toNat : Int) == 34) = false := by
      rw [beq_eq_false_iff_ne]
      intro h34
      exact hn (.inl (UInt8.toNat_inj.1 (show x.toNat = 34 by omega)))
    have n92 : ((x.toNat : Int) == 92) = false := by
      rw [beq_eq_false_iff_ne]
      intro h34
      exact hn (.inr (UInt8.toNat_inj.1 (show x.toNat = 92 by omega)))
    have m34 : ¬ (x.toNat : Int) = 34 := by simpa using n34
    have m92 : ¬ (x.toNat : Int) = 92 := by simpa using n92
    have h' : x.toNat < 32 ∨ 126 < x.toNat := h
    have HH : Hid (∀ W, Calls Tryd.prog 78 #[.int .u8 ((x.toNat : Int) / 16)] W fun e w' => e = .returned (.string ⟨#[hexD (x / 16)]⟩) ∧ w' = W) := Lib.hid (fun W => by
      have h := hex_any (x.toNat / 16) (by omega) W
      have e : UInt8.ofNat (x.toNat / 16) = x / 16 := by rw [← div16, UInt8.ofNat_toNat]
      rw [e] at h
      exact h)
    have HM : Hid (∀ W, Calls Tryd.prog 78 #[.int .u8 ((x.toNat : Int) % 16)] W fun e w' => e = .returned (.string ⟨#[hexD (x % 16)]⟩) ∧ w' = W) := Lib.hid (fun W => by
      have h := hex_any (x.toNat % 16) (by omega) W
      have e : UInt8.ofNat (x.toNat % 16) = x % 16 := by rw [← mod16, UInt8.ofNat_toNat]
      rw [e] at h
      exact h)
    have hadd1 := fun W => add_str ⟨#[92, 120]⟩ ⟨#[hexD (x / 16)]⟩ (show 2 + 1 ≤ 1000000 by omega) W
    have e1 : (⟨#[92, 120]⟩ : ByteArray) ++ ⟨#[hexD (x / 16)]⟩ = ⟨#[92, 120, hexD (x / 16)]⟩ := rfl
    have hadd2 := fun W => add_str ⟨#[92, 120, hexD (x / 16)]⟩ ⟨#[hexD (x % 16)]⟩ (show 3 + 1 ≤ 1000000 by omega) W
    have e2 : (⟨#[92, 120, hexD (x / 16)]⟩ : ByteArray) ++ ⟨#[hexD (x % 16)]⟩ = bsOf (oneL x) := by rw [e]; rfl
    rw [e1] at hadd1
    rw [e2] at hadd2
    generalize bsOf (oneL x) = T at *
    generalize (⟨#[92, 120, hexD (x / 16)]⟩ : ByteArray) = T1 at *
    generalize (⟨#[hexD (x / 16)]⟩ : ByteArray) = D1 at *
    generalize (⟨#[hexD (x % 16)]⟩ : ByteArray) = D2 at *
    clear hn h e e1 e2 hbk
    have hdiv : (x.toNat : Int).tdiv 16 = (x.toNat : Int) / 16 := Int.tdiv_eq_ediv_of_nonneg (by omega)
    have hmod : (x.toNat : Int).tmod 16 = (x.toNat : Int) % 16 := Int.tmod_eq_emod_of_nonneg (by omega)
    have hdw : (x.toNat : Int) / 16 % 256 = (x.toNat : Int) / 16 := by omega
    have hmw : (x.toNat : Int) % 16 % 256 = (x.toNat : Int) % 16 := by omega
    by_cases h1 : (x.toNat : Int) < 32
    · have h1d : decide ((x.toNat : Int) < 32) = true := decide_eq_true h1
      go_enter Tryd.func54, Tryd.ntmps54
      go_wp2_with fail
      refine (HH.out _).mono ?_
      rintro e w1 ⟨rfl, hw⟩
      rw [hw]
      clear hw
      go_wp2_with fail
      refine (HM.out _).mono ?_
      rintro e w1 ⟨rfl, hw⟩
      rw [hw]
      clear hw
      go_wp2
      go_ret
      exact ⟨rfl, Below.refl _ _⟩
    · have h1d : decide ((x.toNat : Int) < 32) = false := decide_eq_false h1
      have h2 : (126 : Int) < x.toNat := by omega
      have h2d : decide ((126 : Int) < x.toNat) = true := decide_eq_true h2
      go_enter Tryd.func54, Tryd.ntmps54
      go_wp2_with fail
      refine (HH.out _).mono ?_
      rintro e w1 ⟨rfl, hw⟩
      rw [hw]
      clear hw
      go_wp2_with fail
      refine (HM.out _).mono ?_
      rintro e w1 ⟨rfl, hw⟩
      rw [hw]
      clear hw
      go_wp2
      go_ret
      exact ⟨rfl, Below.refl _ _⟩
  · have n34 : ((x.toNat : Int) == 34) = false := by
      rw [beq_eq_false_iff_ne]
      intro h34
      exact hn1 (UInt8.toNat_inj.1 (show x.toNat = 34 by omega))
    have n92 : ((x.toNat : Int) == 92) = false := by
      rw [beq_eq_false_iff_ne]
      intro h34
      exact hn2 (UInt8.toNat_inj.1 (show x.toNat = 92 by omega))
    have m34 : ¬ (x.toNat : Int) = 34 := by simpa using n34
    have m92 : ¬ (x.toNat : Int) = 92 := by simpa using n92
    have h' : ¬ (x.toNat < 32 ∨ 126 < x.toNat) := h
    have h1 : ¬ (x.toNat : Int) < 32 := by omega
    have h2 : ¬ (126 : Int) < x.toNat := by omega
    have h1d : decide ((x.toNat : Int) < 32) = false := decide_eq_false h1
    have h2d : decide ((126 : Int) < x.toNat) = false := decide_eq_false h2
    have HE : Hid ((⟨#[x]⟩ : ByteArray) = bsOf (oneL x)) := Lib.hid (by rw [e]; rfl)
    rw [HE.out] at hbk
    generalize bsOf (oneL x) = T at *
    clear hn1 hn2 h h' e
    go_enter Tryd.func54, Tryd.ntmps54
    go_wp2
    go_ret
    exact ⟨rfl, HAL.out⟩

set_option maxRecDepth 100000 in
set_option maxHeartbeats 1000000 in
theorem refQuote_any (s : ByteArray) (hs : s.size ≤ 10000) (w : World) :
    Calls Tryd.prog 34 #[.string s] w fun e w' => e = .returned (.string (bsOf (quoteL s.data.toList))) ∧ Below w.heap.size w w' := by
  obtain ⟨N, hN⟩ : ∃ N, s.size = N := ⟨_, rfl⟩
  have HL : Hid (s.data.toList.length = N) := Lib.hid (by rw [← hN]; exact (Lib.size_eq s).symm)
  rw [hN] at hs
  go_enter Tryd.func34, Tryd.ntmps34
  go_wp2
  go_loopg [3, 4] N (fun gf s3 s4 wx => ∃ (k : Nat) (T : ByteArray), s4 = .int .i64 (k : Int) ∧ s3 = .string T ∧ k + gf = N ∧ T.data.toList = 34 :: bodyL (s.data.toList.take k) ∧ Below w.heap.size w wx)
  case atStart => exact ⟨0, _, rfl, rfl, by omega, rfl, Below.refl _ _⟩
  case round =>
    obtain ⟨k, T, rfl, rfl, hk, hT, hb⟩ := hrel
    have HB := Lib.hid hb
    have hlb := body_take_len s.data.toList k
    rw [HL.out] at hlb
    have hTs : T.size ≤ 40001 := by rw [Lib.size_eq, hT, List.length_cons]; omega
    have HT := Lib.hid hT
    clear hb hlb hT
    by_cases hlt : k < N
    · obtain ⟨g', rfl⟩ : ∃ g', gk = g' + 1 := ⟨gk - 1, by omega⟩
      have hkL : k < s.data.toList.length := by rw [HL.out]; exact hlt
      have hx0 : s.data.toList[k]? = some s.data.toList[k] := List.getElem?_eq_getElem hkL
      generalize s.data.toList[k] = x at hx0
      have hix := index_str hx0
      have HO := Lib.hid (fun W => one_any x W)
      have h1s : (bsOf (oneL x)).size ≤ 4 := by rw [show (bsOf (oneL x)).size = (oneL x).length from Lib.size_mk _]; exact (oneL_length x).2
      have hadd := fun W => add_str T (bsOf (oneL x)) (by omega) W
      have HN : Hid ((T ++ bsOf (oneL x)).data.toList = 34 :: bodyL (s.data.toList.take (k + 1))) := Lib.hid (by rw [app_data, HT.out, take_snoc hx0, bodyL_snoc]; rfl)
      generalize T ++ bsOf (oneL x) = T1 at *
      generalize bsOf (oneL x) = X at *
      clear hx0 h1s hTs
      go_wp2_with fail
      refine (HO.out _).mono ?_
      rintro e w1 ⟨rfl, hb⟩
      replace HB := Lib.hid (HB.out.trans (hb.mono HB.out.size))
      clear hb
      go_wp2
      go_roundg g'
      case measure => omega
      case rel => exact ⟨k + 1, T1, by go_num, rfl, by omega, HN.out, HB.out⟩
    · have hadd := fun W => add_str T ⟨#[34]⟩ (by show T.size + 1 ≤ _; omega) W
      have hfin : T ++ ⟨#[34]⟩ = bsOf (quoteL s.data.toList) := by
        apply mk_of
        rw [app_data, HT.out, List.take_of_length_le (by rw [HL.out]; omega)]
        rfl
      rw [hfin] at hadd
      clear hfin hTs
      go_wp2
      go_ret
      exact ⟨rfl, HB.out⟩

theorem starts_eq (s p : ByteArray) : (decide (p.size ≤ s.size) && ((s.extract 0 p.size).toList == p.toList)) = p.data.toList.isPrefixOf s.data.toList := Lib.hasPrefix_raw s p

set_option maxRecDepth 100000 in
set_option maxHeartbeats 1000000 in
theorem starts_any (s p : ByteArray) (w : World) :
    Calls Tryd.prog 80 #[.string s, .string p] w fun e w' => e = .returned (.bool (p.data.toList.isPrefixOf s.data.toList)) ∧ w' = w := by
  have hq := starts_eq s p
  generalize p.data.toList.isPrefixOf s.data.toList = pb at *
  have HQ := Lib.hid hq
  clear hq
  obtain ⟨N, hN⟩ : ∃ N, s.size = N := ⟨_, rfl⟩
  obtain ⟨M, hM⟩ : ∃ M, p.size = M := ⟨_, rfl⟩
  rw [hN, hM] at HQ
  by_cases h : (M : Int) ≤ N
  · have hd : decide ((M : Int) ≤ N) = true := decide_eq_true h
    have hsl : ∀ W, (Instr.slice 9 (.string s) none (some (.int .i64 (M : Int))) none).run Tryd.prog W = .ok (.string (s.extract 0 M)) W := fun W => by
      rw [run_slice_string_to_if W 9 s .i64 _ (by kernel_rfl), if_pos ⟨by omega, by omega⟩]
      rfl
    rw [decide_eq_true (by omega), Bool.true_and] at HQ
    generalize s.extract 0 M = X at *
    cases hb : X.toList == p.toList with
    | true =>
      rw [hb] at HQ
      go_enter Tryd.func80, Tryd.ntmps80
      go_wp2
      go_ret
      exact ⟨by rw [← HQ.out]; rfl, rfl⟩
    | false =>
      rw [hb] at HQ
      go_enter Tryd.func80, Tryd.ntmps80
      go_wp2
      go_ret
      exact ⟨by rw [← HQ.out]; rfl, rfl⟩
  · have hd : decide ((M : Int) ≤ N) = false := decide_eq_false h
    rw [decide_eq_false (by omega), Bool.false_and] at HQ
    go_enter Tryd.func80, Tryd.ntmps80
    go_wp2
    go_ret
    exact ⟨by rw [← HQ.out]; rfl, rfl⟩
end Go.Proofs.YtahklchfchjmcaaDoor
