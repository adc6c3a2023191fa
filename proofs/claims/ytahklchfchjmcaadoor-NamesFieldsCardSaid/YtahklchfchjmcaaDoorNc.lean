/- The reference's Key and Item. -/
import Derived.Test.YtahklchfchjmcaaDoorNb
namespace Go.Proofs.YtahklchfchjmcaaDoor
set_option linter.unusedVariables false
set_option linter.unusedSimpArgs false
open Go.RowKit Go.MapKept

theorem index_str {s : ByteArray} {k : Nat} {x : UInt8} (hx : s.data.toList[k]? = some x) (W : World) : (Instr.index 9 (.string s) (.int .i64 (k : Int))).run Tryd.prog W = .ok (.int .u8 (x.toNat : Int)) W := by
  have hk : k < s.data.toList.length := (List.getElem?_eq_some_iff.1 hx).1
  have hs : k < s.size := by rw [Lib.size_eq]; exact hk
  rw [run_index_string W 9 s .i64 k (by kernel_rfl), dif_pos ⟨by omega, by omega⟩]
  have e : s[k]'hs = x := by
    have h := (List.getElem?_eq_some_iff.1 hx).2
    rw [← h]
    rfl
  show Result.ok (Value.int IntKind.u8 (((s[k]'hs).toNat : Nat) : Int)) W = _
  rw [e]

set_option maxRecDepth 100000 in
set_option maxHeartbeats 1000000 in
theorem refKey_any (s : ByteArray) (hs : s.size ≤ 100000) (w : World) :
    Calls Tryd.prog 28 #[.string s] w fun e w' => e = .returned (.bool (keyL s.data.toList)) ∧ w' = w := by
  obtain ⟨N, hN⟩ : ∃ N, s.size = N := ⟨_, rfl⟩
  have HL : Hid (s.data.toList.length = N) := Lib.hid (by rw [← hN]; exact (Lib.size_eq s).symm)
  go_enter Tryd.func28, Tryd.ntmps28
  go_wp2
  go_loopg [3] N (fun gf s3 wx => ∃ k : Nat, s3 = .int .i64 (k : Int) ∧ k + gf = N ∧ wx = w ∧ ∀ j y, j < k → s.data.toList[j]? = some y → keyByte y = true)
  case atStart => exact ⟨0, rfl, by omega, rfl, fun j y hj => absurd hj (by omega)⟩
  case round =>
    obtain ⟨k, rfl, hk, rfl, hall⟩ := hrel
    have HA := Lib.hid hall
    clear hall
    by_cases hlt : k < N
    · obtain ⟨g', rfl⟩ : ∃ g', gk = g' + 1 := ⟨gk - 1, by omega⟩
      have hkL : k < s.data.toList.length := by rw [HL.out]; exact hlt
      have hx0 : s.data.toList[k]? = some s.data.toList[k] := List.getElem?_eq_getElem hkL
      generalize s.data.toList[k] = x at hx0
      have hix := index_str hx0
      have HX := Lib.hid hx0
      clear hx0
      have hx256 : x.toNat < 256 := x.toNat_lt
      obtain ⟨z, hz⟩ : ∃ z, x.toNat = z := ⟨_, rfl⟩
      have HZ := Lib.hid hz
      rw [hz] at hix hx256
      clear hz
      have hkb : keyByte x = decide ((97 ≤ z ∧ z ≤ 122) ∨ (48 ≤ z ∧ z ≤ 57) ∨ z = 45 ∨ z = 95 ∨ z = 46 ∨ z = 47) := by
        unfold keyByte
        rw [HZ.out]
      have HK := Lib.hid hkb
      clear hkb
      by_cases hA : (97 ≤ z ∧ z ≤ 122) ∨ (48 ≤ z ∧ z ≤ 57) ∨ z = 45 ∨ z = 95 ∨ z = 46 ∨ z = 47
      · have HR : Hid (∀ j y, j < k + 1 → s.data.toList[j]? = some y → keyByte y = true) := Lib.hid (all_take HA.out HX.out (by rw [HK.out]; exact decide_eq_true hA))
        rcases hA with hA | hA | hA | hA | hA | hA
        · have h1 : (97 : Int) ≤ z := by omega
          have h2 : (z : Int) ≤ 122 := by omega
          have h3 : (48 : Int) ≤ z := by omega
          have h4 : ¬ (z : Int) ≤ 57 := by omega
          have h1d : decide ((97 : Int) ≤ z) = true := decide_eq_true h1
          have h2d : decide ((z : Int) ≤ 122) = true := decide_eq_true h2
          have h3d : decide ((48 : Int) ≤ z) = true := decide_eq_true h3
          have h4d : decide ((z : Int) ≤ 57) = false := decide_eq_false h4
          go_wp2
          go_roundg g'
          case measure => omega
          case rel => exact ⟨k + 1, by go_num, by omega, rfl, HR.out⟩
        · have h1 : ¬ (97 : Int) ≤ z := by omega
          have h3 : (48 : Int) ≤ z := by omega
          have h4 : (z : Int) ≤ 57 := by omega
          have h1d : decide ((97 : Int) ≤ z) = false := decide_eq_false h1
          have h3d : decide ((48 : Int) ≤ z) = true := decide_eq_true h3
          have h4d : decide ((z : Int) ≤ 57) = true := decide_eq_true h4
          go_wp2
          go_roundg g'
          case measure => omega
          case rel => exact ⟨k + 1, by go_num, by omega, rfl, HR.out⟩
        all_goals
          subst hA
          go_wp2
          go_roundg g'
          case measure => omega
          case rel => exact ⟨k + 1, by go_num, by omega, rfl, HR.out⟩
      · have hno : keyL s.data.toList = false := by
          unfold keyL
          rw [all_not HX.out (by rw [HK.out]; exact decide_eq_false hA)]
          rfl
        have HNo := Lib.hid hno
        have h45 : ((z : Int) == 45) = false := by rw [beq_eq_false_iff_ne]; omega
        have h95 : ((z : Int) == 95) = false := by rw [beq_eq_false_iff_ne]; omega
        have h46 : ((z : Int) == 46) = false := by rw [beq_eq_false_iff_ne]; omega
        have h47 : ((z : Int) == 47) = false := by rw [beq_eq_false_iff_ne]; omega
        have h45b : ((z : Int) != 45) = true := by rw [bne, h45]; rfl
        have h95b : ((z : Int) != 95) = true := by rw [bne, h95]; rfl
        have h46b : ((z : Int) != 46) = true := by rw [bne, h46]; rfl
        have h47b : ((z : Int) != 47) = true := by rw [bne, h47]; rfl
        have hcase : ((z : Int) < 48) ∨ ((48 : Int) ≤ z ∧ (57 : Int) < z ∧ (z : Int) < 97) ∨ ((97 : Int) ≤ z ∧ (122 : Int) < z) := by omega
        clear hno hA
        rcases hcase with h | ⟨ha, hb, hc⟩ | ⟨ha, hb⟩
        · have h1 : ¬ (97 : Int) ≤ z := by omega
          have h3 : ¬ (48 : Int) ≤ z := by omega
          have h1d : decide ((97 : Int) ≤ z) = false := decide_eq_false h1
          have h3d : decide ((48 : Int) ≤ z) = false := decide_eq_false h3
          go_wp2
          go_ret
          exact ⟨by rw [HNo.out]; rfl, rfl⟩
        · have h1 : ¬ (97 : Int) ≤ z := by omega
          have h4 : ¬ (z : Int) ≤ 57 := by omega
          have h1d : decide ((97 : Int) ≤ z) = false := decide_eq_false h1
          have h3d : decide ((48 : Int) ≤ z) = true := decide_eq_true ha
          have h4d : decide ((z : Int) ≤ 57) = false := decide_eq_false h4
          go_wp2
          go_ret
          exact ⟨by rw [HNo.out]; rfl, rfl⟩
        · have h2 : ¬ (z : Int) ≤ 122 := by omega
          have h3 : (48 : Int) ≤ z := by omega
          have h4 : ¬ (z : Int) ≤ 57 := by omega
          have h1d : decide ((97 : Int) ≤ z) = true := decide_eq_true ha
          have h2d : decide ((z : Int) ≤ 122) = false := decide_eq_false h2
          have h3d : decide ((48 : Int) ≤ z) = true := decide_eq_true h3
          have h4d : decide ((z : Int) ≤ 57) = false := decide_eq_false h4
          go_wp2
          go_ret
          exact ⟨by rw [HNo.out]; rfl, rfl⟩
    · have hall : s.data.toList.all keyByte = true := all_of (by rw [HL.out]; intro j y hj; exact HA.out j y (by omega))
      have hval : keyL s.data.toList = (decide (1 ≤ N) && decide (N ≤ 64)) := by
        unfold keyL
        rw [hall, HL.out, Bool.true_and]
      have HV := Lib.hid hval
      clear hall hval
      by_cases h1 : (0 : Int) < N
      · by_cases h2 : (N : Int) ≤ 64
        · have h1d : decide ((0 : Int) < N) = true := decide_eq_true h1
          have h2d : decide ((N : Int) ≤ 64) = true := decide_eq_true h2
          go_wp2
          go_ret
          refine ⟨?_, rfl⟩
          rw [HV.out, decide_eq_true (by omega), decide_eq_true (by omega)]
          rfl
        · have h1d : decide ((0 : Int) < N) = true := decide_eq_true h1
          have h2d : decide ((N : Int) ≤ 64) = false := decide_eq_false h2
          go_wp2
          go_ret
          refine ⟨?_, rfl⟩
          rw [HV.out, decide_eq_true (by omega), decide_eq_false (by omega)]
          rfl
      · have h1d : decide ((0 : Int) < N) = false := decide_eq_false h1
        go_wp2
        go_ret
        refine ⟨?_, rfl⟩
        rw [HV.out, decide_eq_false (by omega)]
        rfl
end Go.Proofs.YtahklchfchjmcaaDoor
