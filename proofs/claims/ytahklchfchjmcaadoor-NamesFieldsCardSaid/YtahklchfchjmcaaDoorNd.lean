/- Names of items: the reference's Item and the program's. -/
import Derived.Test.YtahklchfchjmcaaDoorNc
namespace Go.Proofs.YtahklchfchjmcaaDoor
set_option linter.unusedVariables false
set_option linter.unusedSimpArgs false
open Go.RowKit Go.MapKept

def prevL (l : Bs) (k : Nat) : UInt8 := if k = 0 then 0 else l.getD (k - 1) 0
theorem itemFrom_step {l : Bs} {k : Nat} {x : UInt8} (hx : l[k]? = some x) : itemFrom (prevL l k) (l.drop k) = (printB x && (!(x == 32 && prevL l k == 32) && itemFrom (prevL l (k + 1)) (l.drop (k + 1)))) := by
  have hk : k < l.length := (List.getElem?_eq_some_iff.1 hx).1
  have e : l.drop k = x :: l.drop (k + 1) := by
    rw [List.drop_eq_getElem_cons hk]
    congr 1
    exact (List.getElem?_eq_some_iff.1 hx).2
  have hp : prevL l (k + 1) = x := by simp [prevL, List.getD, hx]
  rw [e, hp]
  rfl

set_option maxRecDepth 100000 in
set_option maxHeartbeats 1000000 in
theorem refItem_any (s : ByteArray) (hs : s.size ≤ 100000) (w : World) :
    Calls Tryd.prog 30 #[.string s] w fun e w' => e = .returned (.bool (itemL s.data.toList)) ∧ w' = w := by
  obtain ⟨N, hN⟩ : ∃ N, s.size = N := ⟨_, rfl⟩
  have HL : Hid (s.data.toList.length = N) := Lib.hid (by rw [← hN]; exact (Lib.size_eq s).symm)
  go_enter Tryd.func30, Tryd.ntmps30
  by_cases h0 : N = 0
  · subst h0
    have hval : itemL s.data.toList = false := by unfold itemL; rw [HL.out]; rfl
    have HV := Lib.hid hval
    clear hval
    go_wp2
    go_ret
    exact ⟨by rw [HV.out]; rfl, rfl⟩
  have h0d : ((N : Int) == 0) = false := by rw [beq_eq_false_iff_ne]; omega
  by_cases h64 : (64 : Int) < N
  · have h64d : decide ((64 : Int) < N) = true := decide_eq_true h64
    have hval : itemL s.data.toList = false := by unfold itemL; rw [HL.out, decide_eq_true (by omega : 1 ≤ N), decide_eq_false (by omega)]; rfl
    have HV := Lib.hid hval
    clear hval
    go_wp2
    go_ret
    exact ⟨by rw [HV.out]; rfl, rfl⟩
  have h64d : decide ((64 : Int) < N) = false := decide_eq_false h64
  obtain ⟨M, rfl⟩ : ∃ M, N = M + 1 := ⟨N - 1, by omega⟩
  have h0m : ((M : Int) + 1 == 0) = false := by rw [beq_eq_false_iff_ne]; omega
  have h0n : ¬ (M : Int) + 1 = 0 := by omega
  have h64m : ¬ (64 : Int) < (M : Int) + 1 := by omega
  have h64n : decide ((64 : Int) < (M : Int) + 1) = false := decide_eq_false h64m
  clear h64d h0d
  have hM : M < s.data.toList.length := by rw [HL.out]; omega
  have hx0 : s.data.toList[0]? = some s.data.toList[0] := List.getElem?_eq_getElem (by omega)
  have hxM : s.data.toList[M]? = some s.data.toList[M] := List.getElem?_eq_getElem hM
  generalize s.data.toList[0] = x0 at hx0
  generalize s.data.toList[M] = xM at hxM
  have hi0 : ∀ W, (Instr.index 9 (.string s) (.int .i64 0)).run Tryd.prog W = .ok (.int .u8 (x0.toNat : Int)) W := fun W => index_str hx0 W
  have hiM := index_str hxM
  have hval : itemL s.data.toList = (!(x0 == 32) && (!(xM == 32) && itemFrom 0 s.data.toList)) := by
    have h64' : M + 1 ≤ 64 := by omega
    unfold itemL
    rw [HL.out, Nat.add_sub_cancel, hx0, hxM, decide_eq_true (by omega : 1 ≤ M + 1), decide_eq_true h64', Bool.true_and, Bool.true_and]
    rfl
  have HX0 := Lib.hid hx0
  have HXM := Lib.hid hxM
  have HV := Lib.hid hval
  clear hx0 hxM hval h0
  have hw1 : IntKind.i64.wrap ((M : Int) + 1 - 1) = M := by rw [Int.add_sub_cancel]; exact wrap_small _ (by omega) (by omega)
  have e32 : ∀ x : UInt8, ((x.toNat : Int) == 32) = (x == 32) := by
    intro x
    rw [Bool.eq_iff_iff, beq_iff_eq, beq_iff_eq]
    constructor
    · intro h
      apply UInt8.toNat_inj.1
      show x.toNat = 32
      omega
    · rintro rfl
      rfl
  have n32 : ∀ x : UInt8, (x == 32) = false → ¬ (x.toNat : Int) = 32 := by
    intro x hx h
    rw [← e32, h] at hx
    cases hx
  have p32 : ∀ x : UInt8, (x == 32) = true → (x.toNat : Int) = 32 := by
    intro x hx
    rw [← e32] at hx
    exact beq_iff_eq.1 hx
  have E32 := Lib.hid e32
  have N32 := Lib.hid n32
  have P32 := Lib.hid p32
  clear e32 n32 p32
  cases hb0 : x0 == 32 with
  | true =>
    have h := P32.out x0 hb0
    have HB := Lib.hid hb0
    clear hb0
    rw [h] at hi0
    go_wp2
    go_ret
    exact ⟨by rw [HV.out, HB.out]; rfl, rfl⟩
  | false =>
    have h := N32.out x0 hb0
    have hd : ((x0.toNat : Int) == 32) = false := by rw [E32.out]; exact hb0
    have HB := Lib.hid hb0
    clear hb0
    cases hbM : xM == 32 with
    | true =>
      have hm := P32.out xM hbM
      have HBM := Lib.hid hbM
      clear hbM
      rw [hm] at hiM
      go_wp2
      go_ret
      exact ⟨by rw [HV.out, HB.out, HBM.out]; rfl, rfl⟩
    | false =>
      have hm := N32.out xM hbM
      have hmd : ((xM.toNat : Int) == 32) = false := by rw [E32.out]; exact hbM
      have hval2 : itemL s.data.toList = itemFrom 0 s.data.toList := by rw [HV.out, HB.out, hbM]; rfl
      have HV2 := Lib.hid hval2
      clear hbM hval2
      go_wp2
      go_loopg [3] (M + 1) (fun gf s3 wx => ∃ k : Nat, s3 = .int .i64 (k : Int) ∧ k + gf = M + 1 ∧ wx = w ∧ itemFrom 0 s.data.toList = itemFrom (prevL s.data.toList k) (s.data.toList.drop k))
      case atStart => exact ⟨0, rfl, by omega, rfl, rfl⟩
      case round =>
        obtain ⟨k, rfl, hk, rfl, hfrom⟩ := hrel
        have HF := Lib.hid hfrom
        clear hfrom
        by_cases hlt : (k : Int) < M + 1
        · obtain ⟨g', rfl⟩ : ∃ g', gk = g' + 1 := ⟨gk - 1, by omega⟩
          have hkL : k < s.data.toList.length := by rw [HL.out]; omega
          have hxk : s.data.toList[k]? = some s.data.toList[k] := List.getElem?_eq_getElem hkL
          generalize s.data.toList[k] = x at hxk
          have hix := index_str hxk
          have hst := itemFrom_step hxk
          have hx256 : x.toNat < 256 := x.toNat_lt
          have HX := Lib.hid hxk
          have HS := Lib.hid hst
          clear hxk hst
          clear h hm hd hmd hi0 hiM
          by_cases hp : (x.toNat : Int) < 32
          · have hno : itemL s.data.toList = false := by
              have : printB x = false := decide_eq_false (by omega)
              rw [HV2.out, HF.out, HS.out, this]
              rfl
            have HNo := Lib.hid hno
            have hpd : decide ((x.toNat : Int) < 32) = true := decide_eq_true hp
            clear hno
            go_wp2
            go_ret
            exact ⟨by rw [HNo.out]; rfl, rfl⟩
          · have hpd : decide ((x.toNat : Int) < 32) = false := decide_eq_false hp
            by_cases hq : (126 : Int) < x.toNat
            · have hno : itemL s.data.toList = false := by
                have : printB x = false := decide_eq_false (by omega)
                rw [HV2.out, HF.out, HS.out, this]
                rfl
              have HNo := Lib.hid hno
              have hqd : decide ((126 : Int) < x.toNat) = true := decide_eq_true hq
              clear hno
              go_wp2
              go_ret
              exact ⟨by rw [HNo.out]; rfl, rfl⟩
            · have hqd : decide ((126 : Int) < x.toNat) = false := decide_eq_false hq
              have hpr : printB x = true := decide_eq_true (by omega)
              have HP := Lib.hid hpr
              clear hpr
              cases k with
              | zero =>
                have hix0 : ∀ W, (Instr.index 9 (.string s) (.int .i64 0)).run Tryd.prog W = .ok (.int .u8 (x.toNat : Int)) W := fun W => hix W
                have hnext : itemFrom 0 s.data.toList = itemFrom (prevL s.data.toList 1) (s.data.toList.drop 1) := by
                  rw [HF.out, HS.out, HP.out]
                  have : prevL s.data.toList 0 = 0 := rfl
                  rw [this]
                  simp
                have HN := Lib.hid hnext
                clear hnext
                go_wp2
                go_roundg g'
                case measure => omega
                case rel => exact ⟨1, by go_num, by omega, rfl, HN.out⟩
              | succ j =>
                replace hix : ∀ W, (Instr.index 9 (.string s) (.int .i64 ((j : Int) + 1))).run Tryd.prog W = .ok (.int .u8 (x.toNat : Int)) W := fun W => hix W
                have hjL : j < s.data.toList.length := by omega
                have hyk : s.data.toList[j]? = some s.data.toList[j] := List.getElem?_eq_getElem hjL
                generalize s.data.toList[j] = y at hyk
                have hiy := index_str hyk
                have hpv : prevL s.data.toList (j + 1) = y := by simp [prevL, List.getD, hyk]
                have hjw : IntKind.i64.wrap ((j : Int) + 1 - 1) = j := by rw [Int.add_sub_cancel]; exact wrap_small _ (by omega) (by omega)
                have hj0 : (0 : Int) < (j : Int) + 1 := by omega
                have hj0d : decide ((0 : Int) < (j : Int) + 1) = true := decide_eq_true hj0
                have HY := Lib.hid hyk
                have HPV := Lib.hid hpv
                clear hyk hpv
                cases hxs : x == 32 with
                | false =>
                  have h1 := N32.out x hxs
                  have h1d : ((x.toNat : Int) == 32) = false := by rw [E32.out]; exact hxs
                  have hnext : itemFrom 0 s.data.toList = itemFrom (prevL s.data.toList (j + 1 + 1)) (s.data.toList.drop (j + 1 + 1)) := by
                    rw [HF.out, HS.out, HP.out, hxs]
                    simp
                  have HN := Lib.hid hnext
                  clear hnext hxs
                  go_wp2
                  go_roundg g'
                  case measure => omega
                  case rel => exact ⟨j + 1 + 1, by go_num, by omega, rfl, HN.out⟩
                | true =>
                  have h1 := P32.out x hxs
                  have HXS := Lib.hid hxs
                  clear hxs
                  rw [h1] at hix
                  clear hp hpd hq hqd hx256
                  cases hys : y == 32 with
                  | false =>
                    have h2 := N32.out y hys
                    have h2d : ((y.toNat : Int) == 32) = false := by rw [E32.out]; exact hys
                    have hnext : itemFrom 0 s.data.toList = itemFrom (prevL s.data.toList (j + 1 + 1)) (s.data.toList.drop (j + 1 + 1)) := by
                      rw [HF.out, HS.out, HP.out, HXS.out, HPV.out, hys]
                      simp
                    have HN := Lib.hid hnext
                    clear hnext hys
                    go_wp2
                    go_roundg g'
                    case measure => omega
                    case rel => exact ⟨j + 1 + 1, by go_num, by omega, rfl, HN.out⟩
                  | true =>
                    have h2 := P32.out y hys
                    rw [h2] at hiy
                    have hno : itemL s.data.toList = false := by
                      rw [HV2.out, HF.out, HS.out, HP.out, HXS.out, HPV.out, hys]
                      rfl
                    have HNo := Lib.hid hno
                    clear hno hys
                    go_wp2
                    go_ret
                    exact ⟨by rw [HNo.out]; rfl, rfl⟩
        · have hyes : itemL s.data.toList = true := by
            rw [HV2.out, HF.out, List.drop_eq_nil_of_le (by rw [HL.out]; omega)]
            rfl
          have HY := Lib.hid hyes
          clear hyes
          go_wp2
          go_ret
          exact ⟨by rw [HY.out]; rfl, rfl⟩
end Go.Proofs.YtahklchfchjmcaaDoor
