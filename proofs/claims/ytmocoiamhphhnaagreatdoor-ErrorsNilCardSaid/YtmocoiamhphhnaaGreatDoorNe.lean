/- names.Item. -/
import Derived.Test.YtmocoiamhphhnaaGreatDoorNc
namespace Go.Proofs.YtmocoiamhphhnaaGreatDoor
set_option linter.unusedVariables false
set_option linter.unusedSimpArgs false
open Go.RowKit Go.MapKept

/-- internal/bytealg.MaxLen holds a number. -/
def MaxIs (w : World) : Prop := ∃ m, w.cell? ⟨2, 0, none⟩ = some (.int .i64 m)
theorem MaxIs.below {w w' : World} {B : Nat} (h : MaxIs w) (hB : 2 < B) (hb : Below B w w') : MaxIs w' := by
  obtain ⟨m, hm⟩ := h
  exact ⟨m, (hb.cell hB).trans hm⟩
theorem MaxIs.pos {w : World} (h : MaxIs w) : 2 < w.heap.size := by
  obtain ⟨m, hm⟩ := h
  by_cases h0 : 2 < w.heap.size
  · exact h0
  · exfalso
    unfold World.cell? at hm
    rw [Array.getElem?_eq_none (show w.heap.size ≤ 2 by omega)] at hm
    simp at hm
theorem MaxIs.later {w w' : World} (h : MaxIs w) (hb : Below w.heap.size w w') : MaxIs w' := h.below h.pos hb

theorem trim_any (s : ByteArray) (hs : s.size ≤ 100000) (w : World) :
    Calls Tryz.prog 42 #[.string s, .string ⟨#[32]⟩] w fun e w' => e = .returned (.string ⟨(Lib.trimB s.data.toList 32).toArray⟩) ∧ Below w.heap.size w w' := by
  refine (Tryz.strings_Trim_one s 32 (by decide) w (by omega)).mono fun e w' ⟨he, hw⟩ => ⟨he, ?_⟩
  rcases hw with rfl | rfl
  · exact Below.refl _ _
  · exact (Below.refl _ _).drew
theorem contains_any2 (s : ByteArray) (hs : s.size ≤ 100000) (w : World) (hm : MaxIs w) :
    Calls Tryz.prog 40 #[.string s, .string ⟨#[32, 32]⟩] w fun e w' => e = .returned (.bool (Lib.contains s.data.toList [32, 32])) ∧ Below w.heap.size w w' := by
  obtain ⟨m, hm⟩ := hm
  refine (Tryz.strings_Contains s ⟨#[32, 32]⟩ m w (by omega) hm).mono fun e w' ⟨he, hw⟩ => ⟨he, hw ▸ Below.refl _ _⟩

theorem toList_eq_mk (l m : Bs) (s : ByteArray) (hm : s.data.toList = m) : ((⟨l.toArray⟩ : ByteArray).toList == s.toList) = decide (l = m) := by
  rw [ByteArray.toList_eq, ByteArray.toList_eq, hm, Bool.eq_iff_iff, beq_iff_eq, decide_eq_true_iff]

set_option maxRecDepth 100000 in
set_option maxHeartbeats 1000000 in
theorem item_any (s : ByteArray) (hs : s.size ≤ 100000) (w : World) (hm : MaxIs w) :
    Calls Tryz.prog 29 #[.string s] w fun e w' => e = .returned (.bool (itemL s.data.toList)) ∧ Below w.heap.size w w' := by
  obtain ⟨W, c, hcv, hB, hBy⟩ := bytes_conv w s
  have HM := Lib.hid hm
  have HB := Lib.hid hB
  have HY := Lib.hid hBy
  have HT := Lib.hid (fun W => trim_any s hs W)
  have HC := Lib.hid (fun W h => contains_any2 s hs W h)
  clear hB hBy hm
  obtain ⟨N, hN⟩ : ∃ N, s.size = N := ⟨_, rfl⟩
  have HL : Hid (s.data.toList.length = N) := Lib.hid (by rw [← hN]; exact (Lib.size_eq s).symm)
  rw [hN] at hcv hs
  go_enter Tryz.func29, Tryz.ntmps29
  go_wp2
  go_loopg [8] N (fun gf s8 wx => ∃ k : Nat, s8 = .int .i64 (k : Int) ∧ k + gf = N ∧ wx = W ∧ ∀ j y, j < k → s.data.toList[j]? = some y → printB y = true)
  case atStart => exact ⟨0, rfl, by omega, rfl, fun j y hj => absurd hj (by omega)⟩
  case round =>
    obtain ⟨k, rfl, hk, rfl, hall⟩ := hrel
    have HA := Lib.hid hall
    clear hall
    by_cases hlt : k < N
    · obtain ⟨g', rfl⟩ : ∃ g', gk = g' + 1 := ⟨gk - 1, by omega⟩
      have hkL : k < s.data.toList.length := by rw [HL.out]; exact hlt
      have hx0 : s.data.toList[k]? = some s.data.toList[k] := List.getElem?_eq_getElem hkL
      generalize s.data.toList[k] = x at hx0
      have hcell := HY.out.cell k x hx0
      have HX := Lib.hid hx0
      clear hx0
      have hx256 : x.toNat < 256 := x.toNat_lt
      obtain ⟨z, hz⟩ : ∃ z, x.toNat = z := ⟨_, rfl⟩
      have HZ := Lib.hid hz
      rw [hz] at hcell hx256
      clear hz
      by_cases h1 : (z : Int) < 32
      · have hno : itemL s.data.toList = false := by
          rw [← itemN_eq]
          unfold itemN
          rw [all_not HX.out (decide_eq_false (by rw [HZ.out]; omega))]
          rfl
        have HNo := Lib.hid hno
        have h1d : decide ((z : Int) < 32) = true := decide_eq_true h1
        clear hno
        go_wp2
        go_ret
        exact ⟨by rw [HNo.out]; rfl, HB.out⟩
      · have h1d : decide ((z : Int) < 32) = false := decide_eq_false h1
        by_cases h2 : (126 : Int) < z
        · have hno : itemL s.data.toList = false := by
            rw [← itemN_eq]
            unfold itemN
            rw [all_not HX.out (decide_eq_false (by rw [HZ.out]; omega))]
            rfl
          have HNo := Lib.hid hno
          have h2d : decide ((126 : Int) < z) = true := decide_eq_true h2
          clear hno
          go_wp2
          go_ret
          exact ⟨by rw [HNo.out]; rfl, HB.out⟩
        · have h2d : decide ((126 : Int) < z) = false := decide_eq_false h2
          go_wp2
          go_roundg g'
          case measure => omega
          case rel => exact ⟨k + 1, by go_num, by omega, rfl, all_take HA.out HX.out (decide_eq_true (by rw [HZ.out]; omega))⟩
    · have hall : s.data.toList.all printB = true := all_of (by rw [HL.out]; intro j y hj; exact HA.out j y (by omega))
      have hval : itemL s.data.toList = (decide (1 ≤ N) && (decide (N ≤ 64) && (decide (Lib.trimB s.data.toList 32 = s.data.toList) && !Lib.contains s.data.toList [32, 32]))) := by
        rw [← itemN_eq]
        unfold itemN
        rw [hall, HL.out, Bool.true_and]
      have HV := Lib.hid hval
      clear hall hval
      by_cases h1 : (1 : Int) ≤ N
      · have h1d : decide ((1 : Int) ≤ N) = true := decide_eq_true h1
        have h1n : decide (1 ≤ N) = true := decide_eq_true (by omega)
        by_cases h2 : (N : Int) ≤ 64
        · have h2d : decide ((N : Int) ≤ 64) = true := decide_eq_true h2
          have h2n : decide (N ≤ 64) = true := decide_eq_true (by omega)
          have hte := toList_eq_mk (Lib.trimB s.data.toList 32) _ s rfl
          obtain ⟨T, hT⟩ : ∃ T : ByteArray, (⟨(Lib.trimB s.data.toList 32).toArray⟩ : ByteArray) = T := ⟨_, rfl⟩
          obtain ⟨tb, htb⟩ : ∃ tb, decide (Lib.trimB s.data.toList 32 = s.data.toList) = tb := ⟨_, rfl⟩
          obtain ⟨cb, hcb⟩ : ∃ cb, Lib.contains s.data.toList [32, 32] = cb := ⟨_, rfl⟩
          have HV2 : Hid (itemL s.data.toList = (tb && !cb)) := Lib.hid (by rw [HV.out, h1n, h2n, htb, hcb]; rfl)
          have HT2 : Hid (∀ W, Calls Tryz.prog 42 #[.string s, .string ⟨#[32]⟩] W fun e w' => e = .returned (.string T) ∧ Below W.heap.size W w') := Lib.hid (fun W => by rw [← hT]; exact HT.out W)
          have HC2 : Hid (∀ W, MaxIs W → Calls Tryz.prog 40 #[.string s, .string ⟨#[32, 32]⟩] W fun e w' => e = .returned (.bool cb) ∧ Below W.heap.size W w') := Lib.hid (fun W h => by rw [← hcb]; exact HC.out W h)
          rw [hT, htb] at hte
          clear hT htb hcb HV h1n h2n
          cases tb with
          | true =>
            go_wp2_with fail
            refine (HT2.out _).mono ?_
            rintro e w2 ⟨rfl, hb2⟩
            have HB2 := Lib.hid hb2
            clear hb2
            go_wp2_with fail
            refine (HC2.out _ ((HM.out.later HB.out).later HB2.out)).mono ?_
            rintro e w3 ⟨rfl, hb3⟩
            have HB3 := Lib.hid hb3
            clear hb3
            go_wp2
            go_ret
            refine ⟨by rw [HV2.out]; cases cb <;> rfl, ?_⟩
            exact HB.out.trans ((HB2.out.trans (HB3.out.mono HB2.out.size)).mono HB.out.size)
          | false =>
            go_wp2_with fail
            refine (HT2.out _).mono ?_
            rintro e w2 ⟨rfl, hb2⟩
            have HB2 := Lib.hid hb2
            clear hb2
            go_wp2
            go_ret
            refine ⟨by rw [HV2.out]; rfl, ?_⟩
            exact HB.out.trans (HB2.out.mono HB.out.size)
        · have h2d : decide ((N : Int) ≤ 64) = false := decide_eq_false h2
          go_wp2
          go_ret
          refine ⟨?_, HB.out⟩
          rw [HV.out, decide_eq_true (by omega : 1 ≤ N), decide_eq_false (by omega : ¬ N ≤ 64)]
          rfl
      · have h1d : decide ((1 : Int) ≤ N) = false := decide_eq_false h1
        go_wp2
        go_ret
        refine ⟨?_, HB.out⟩
        rw [HV.out, decide_eq_false (by omega : ¬ 1 ≤ N)]
        rfl
end Go.Proofs.YtmocoiamhphhnaaGreatDoor
