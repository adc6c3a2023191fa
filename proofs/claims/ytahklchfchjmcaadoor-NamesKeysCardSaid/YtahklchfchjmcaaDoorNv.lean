/- The law NamesKeys. -/
import Derived.Test.YtahklchfchjmcaaDoorNu
namespace Go.Proofs.YtahklchfchjmcaaDoor
set_option linter.unusedVariables false
set_option linter.unusedSimpArgs false
open Go.RowKit Go.MapKept

set_option maxRecDepth 100000 in
set_option maxHeartbeats 2000000 in
theorem keys_law (w : World) (s : ByteArray) (hm : MaxIs w) :
    Calls Tryd.prog 9 #[.string s] w fun e w' => e = .returned (.bool true) ∧ Below w.heap.size w w' := by
  have HM := Lib.hid hm
  clear hm
  obtain ⟨N, hN⟩ : ∃ N, s.size = N := ⟨_, rfl⟩
  have HS := Lib.hid hN
  go_enter Tryd.func9, Tryd.ntmps9
  by_cases h300 : (300 : Int) < N
  · have h300d : decide ((300 : Int) < N) = true := decide_eq_true h300
    go_wp2_with fail
    refine (nknown_yes _ HM.out).mono ?_
    rintro e w1 ⟨rfl, hb⟩
    have HB := Lib.hid hb
    clear hb
    go_wp2
    go_ret
    exact ⟨rfl, HB.out⟩
  · have h300d : decide ((300 : Int) < N) = false := decide_eq_false h300
    have hs : s.size ≤ 300 := by omega
    have hcs : (⟨(canonL s.data.toList).toArray⟩ : ByteArray).size ≤ 600 := by
      have := canonL_length s.data.toList
      rw [Lib.size_mk]
      rw [← Lib.size_eq] at this
      omega
    have HK := Lib.hid (fun W => key_any s (by omega) W)
    have HRK := Lib.hid (fun W => refKey_any s (by omega) W)
    have HI := Lib.hid (fun W h => item_any s (by omega) W h)
    have HRI := Lib.hid (fun W => refItem_any s (by omega) W)
    have HRC := Lib.hid (fun W => refCanon_any s (by omega) W)
    have HCI : Hid (∀ W, Calls Tryd.prog 30 #[.string ⟨(canonL s.data.toList).toArray⟩] W fun e w' => e = .returned (.bool (itemL (canonL s.data.toList))) ∧ w' = W) := Lib.hid (fun W => refItem_any ⟨(canonL s.data.toList).toArray⟩ (by omega) W)
    have HCY : Hid (∀ W want no, MaxIs W → canonV s.data.toList = .tuple #[.string want, .int .i64 no] → Calls Tryd.prog 32 #[.string s, .string want, .int .i64 no] W fun e w' => e = .returned (.bool true) ∧ Below W.heap.size W w') := Lib.hid (fun W want no h1 h2 => canon_yes s want no (by omega) W h1 h2)
    have HV : Hid (canonV s.data.toList = if itemL (canonL s.data.toList) = true then .tuple #[.string ⟨(canonL s.data.toList).toArray⟩, .int .i64 0] else .tuple #[.string ⟨#[]⟩, .int .i64 2]) := Lib.hid rfl
    generalize itemL (canonL s.data.toList) = cb at *
    generalize (⟨(canonL s.data.toList).toArray⟩ : ByteArray) = C at *
    generalize keyL s.data.toList = kb at *
    generalize itemL s.data.toList = ib at *
    clear hs hcs
    go_wp2_with fail
    refine (HK.out _).mono ?_
    rintro e w1 ⟨rfl, hb⟩
    have HB := Lib.hid hb
    clear hb
    go_wp2_with fail
    refine (HRK.out _).mono ?_
    rintro e w1' ⟨rfl, hw⟩
    rw [hw]
    clear hw
    go_wp2_with fail
    refine (HI.out _ (HM.out.later HB.out)).mono ?_
    rintro e w2 ⟨rfl, hb⟩
    replace HB := Lib.hid (nbl_step HB.out hb)
    clear hb
    go_wp2_with fail
    refine (HRI.out _).mono ?_
    rintro e w2' ⟨rfl, hw⟩
    rw [hw]
    clear hw
    go_wp2_with fail
    refine (HRC.out _).mono ?_
    rintro e w3 ⟨rfl, hw⟩
    rw [hw]
    clear hw
    go_wp2_with fail
    refine (HCI.out _).mono ?_
    rintro e w3 ⟨rfl, hw⟩
    rw [hw]
    clear hw
    cases cb with
    | true =>
      go_wp2_with fail
      refine (HCY.out _ C 0 (HM.out.later HB.out) (by rw [HV.out]; rfl)).mono ?_
      rintro e w4 ⟨rfl, hb⟩
      replace HB := Lib.hid (nbl_step HB.out hb)
      clear hb
      go_wp2_with fail
      refine (nknown_yes _ (HM.out.later HB.out)).mono ?_
      rintro e w5 ⟨rfl, hb⟩
      replace HB := Lib.hid (nbl_step HB.out hb)
      clear hb
      go_wp2
      go_ret
      exact ⟨rfl, HB.out⟩
    | false =>
      go_wp2_with fail
      refine (HCY.out _ ⟨#[]⟩ 2 (HM.out.later HB.out) (by rw [HV.out]; rfl)).mono ?_
      rintro e w4 ⟨rfl, hb⟩
      replace HB := Lib.hid (nbl_step HB.out hb)
      clear hb
      go_wp2_with fail
      refine (nknown_yes _ (HM.out.later HB.out)).mono ?_
      rintro e w5 ⟨rfl, hb⟩
      replace HB := Lib.hid (nbl_step HB.out hb)
      clear hb
      go_wp2
      go_ret
      exact ⟨rfl, HB.out⟩
end Go.Proofs.YtahklchfchjmcaaDoor
