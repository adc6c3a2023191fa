/- names.Key and names.Item. -/
import Derived.Test.YtmocoiamhphhnaaGreatDoorIr
import Derived.Laws.IdiomStrings
namespace Go.Proofs.YtmocoiamhphhnaaGreatDoor
set_option linter.unusedVariables false
set_option linter.unusedSimpArgs false
open Go.RowKit Go.MapKept

/-- A string's bytes in a new slice. -/
structure Bytes (W : World) (p : Nat) (s : ByteArray) : Prop where
  lt : p < W.heap.size
  cell : ∀ i x, s.data.toList[i]? = some x → W.cell? ⟨p, i, none⟩ = some (.int .u8 (x.toNat : Int))
theorem Bytes.below {W W' : World} {p : Nat} {s : ByteArray} (h : Bytes W p s) (hb : Below W.heap.size W W') : Bytes W' p s :=
  ⟨Nat.lt_of_lt_of_le h.lt hb.size, fun i x hx => (hb.cell h.lt).trans (h.cell i x hx)⟩
theorem bytes_conv (w : World) (s : ByteArray) : ∃ W c, (convert 9 27 (.string s)).run Tryz.prog w = .ok (.slice (some ⟨w.heap.size, 0, none⟩) s.size c) W ∧ Below w.heap.size w W ∧ Bytes W w.heap.size s := by
  refine ⟨_, _, run_bytes_of_string w 9 27 5 s (by kernel_rfl) (by kernel_rfl) (by kernel_rfl), ?_, ?_, ?_⟩
  · exact (Below.refl _ w).drew.alloc (Nat.le_refl _) _
  · simp
  · intro i x hx
    have hi : i < s.data.toList.length := (List.getElem?_eq_some_iff.1 hx).1
    have hi' : i < s.data.size := by simpa using hi
    have hxe : s.data[i] = x := by
      have h := (List.getElem?_eq_some_iff.1 hx).2
      simpa using h
    have hnew : ∀ (v : World) (c : Array Value) (t : TypeId) (f : Nat × Nat), (v.alloc (.cells c t f)).cell? ⟨v.heap.size, i, none⟩ = c[i]? := by
      intro v c t f
      have hh : (v.alloc (.cells c t f)).heap[v.heap.size]? = some (.cells c t f) := by
        show (v.heap.push _)[v.heap.size]? = _
        simp
      unfold World.cell?
      dsimp only
      rw [hh]
      rfl
    refine (hnew w.drew _ _ _).trans ?_
    unfold bytesRow
    rw [Array.getElem?_append_left (by simpa using hi'), Array.getElem?_map, Array.getElem?_eq_getElem hi', hxe]
    rfl

theorem all_take {p : UInt8 → Bool} {l : Bs} {k : Nat} {x : UInt8} (h : ∀ j y, j < k → l[j]? = some y → p y = true) (hx : l[k]? = some x) (hp : p x = true) : ∀ j y, j < k + 1 → l[j]? = some y → p y = true := by
  intro j y hj hy
  by_cases e : j = k
  · subst e
    rw [hx] at hy
    cases hy
    exact hp
  · exact h j y (by omega) hy
theorem all_of {p : UInt8 → Bool} {l : Bs} (h : ∀ j y, j < l.length → l[j]? = some y → p y = true) : l.all p = true := by
  rw [List.all_eq_true]
  intro x hx
  obtain ⟨j, hj, e⟩ := List.mem_iff_getElem.1 hx
  exact h j x hj (by rw [List.getElem?_eq_getElem hj, e])
theorem all_not {p : UInt8 → Bool} {l : Bs} {k : Nat} {x : UInt8} (hx : l[k]? = some x) (hp : p x = false) : l.all p = false := by
  rw [List.all_eq_false]
  exact ⟨x, List.mem_of_getElem? hx, by rw [hp]; decide⟩

set_option maxRecDepth 100000 in
set_option maxHeartbeats 1000000 in
theorem key_any (s : ByteArray) (hs : s.size ≤ 100000) (w : World) :
    Calls Tryz.prog 26 #[.string s] w fun e w' => e = .returned (.bool (keyL s.data.toList)) ∧ Below w.heap.size w w' := by
  obtain ⟨W, c, hcv, hB, hBy⟩ := bytes_conv w s
  have HB := Lib.hid hB
  have HY := Lib.hid hBy
  clear hB hBy
  obtain ⟨N, hN⟩ : ∃ N, s.size = N := ⟨_, rfl⟩
  have HL : Hid (s.data.toList.length = N) := Lib.hid (by rw [← hN]; exact (Lib.size_eq s).symm)
  rw [hN] at hcv hs
  go_enter Tryz.func26, Tryz.ntmps26
  go_wp2
  go_loopg [8] N (fun gf s8 wx => ∃ k : Nat, s8 = .int .i64 (k : Int) ∧ k + gf = N ∧ Below W.heap.size W wx ∧ ∀ j y, j < k → s.data.toList[j]? = some y → keyByte y = true)
  case atStart => exact ⟨0, rfl, by omega, Below.refl _ _, fun j y hj => absurd hj (by omega)⟩
  case round =>
    obtain ⟨k, rfl, hk, hbw, hall⟩ := hrel
    have HA := Lib.hid hall
    have HW := Lib.hid hbw
    clear hall hbw
    by_cases hlt : k < N
    · obtain ⟨g', rfl⟩ : ∃ g', gk = g' + 1 := ⟨gk - 1, by omega⟩
      have hkL : k < s.data.toList.length := by rw [HL.out]; exact hlt
      have hx0 : s.data.toList[k]? = some s.data.toList[k] := List.getElem?_eq_getElem hkL
      generalize s.data.toList[k] = x at hx0
      have hcell := (HY.out.below HW.out).cell k x hx0
      have HX := Lib.hid hx0
      clear hx0
      have hx256 : x.toNat < 256 := x.toNat_lt
      obtain ⟨z, hz⟩ : ∃ z, x.toNat = z := ⟨_, rfl⟩
      have HZ := Lib.hid hz
      rw [hz] at hcell hx256
      clear hz
      have hwr : IntKind.i32.wrap (z : Int) = z := by unfold IntKind.wrap; simp [IntKind.bits, IntKind.signed]; omega
      by_cases hA : 97 ≤ z ∧ z ≤ 122
      · have h1 : ¬ (z : Int) < 97 := by omega
        have h2 : ¬ (122 : Int) < z := by omega
        have h1d : decide ((z : Int) < 97) = false := decide_eq_false h1
        have h2d : decide ((122 : Int) < z) = false := decide_eq_false h2
        go_wp2
        go_roundg g'
        case measure => omega
        case rel => exact ⟨k + 1, by go_num, by omega, HW.out, all_take HA.out HX.out (by unfold keyByte; rw [HZ.out]; exact decide_eq_true (.inl hA))⟩
      · by_cases hD : 48 ≤ z ∧ z ≤ 57
        · have h1 : (z : Int) < 97 := by omega
          have h3 : ¬ (z : Int) < 48 := by omega
          have h4 : ¬ (57 : Int) < z := by omega
          have h1d : decide ((z : Int) < 97) = true := decide_eq_true h1
          have h3d : decide ((z : Int) < 48) = false := decide_eq_false h3
          have h4d : decide ((57 : Int) < z) = false := decide_eq_false h4
          go_wp2
          go_roundg g'
          case measure => omega
          case rel => exact ⟨k + 1, by go_num, by omega, HW.out, all_take HA.out HX.out (by unfold keyByte; rw [HZ.out]; exact decide_eq_true (.inr (.inl hD)))⟩
        · have hkb : keyByte x = decide (z = 45 ∨ z = 95 ∨ z = 46 ∨ z = 47) := by
            unfold keyByte
            rw [HZ.out]
            simp only [decide_eq_decide]
            omega
          have HK := Lib.hid hkb
          clear hkb
          have hcase : ((z : Int) < 97 ∧ (z : Int) < 48) ∨ ((z : Int) < 97 ∧ ¬ (z : Int) < 48 ∧ (57 : Int) < z) ∨ (¬ (z : Int) < 97 ∧ (122 : Int) < z ∧ ¬ (z : Int) < 48 ∧ (57 : Int) < z) := by omega
          have hstart : ∀ (P : Prop), ((decide ((z : Int) < 97) = true ∧ decide ((z : Int) < 48) = true → P) ∧ (decide ((z : Int) < 97) = true ∧ decide ((z : Int) < 48) = false ∧ decide ((57 : Int) < z) = true → P) ∧ (decide ((z : Int) < 97) = false ∧ decide ((122 : Int) < z) = true ∧ decide ((z : Int) < 48) = false ∧ decide ((57 : Int) < z) = true → P)) → P := by
            rintro P ⟨p1, p2, p3⟩
            rcases hcase with ⟨a, b⟩ | ⟨a, b, c⟩ | ⟨a, b, c, d⟩
            · exact p1 ⟨decide_eq_true a, decide_eq_true b⟩
            · exact p2 ⟨decide_eq_true a, decide_eq_false b, decide_eq_true c⟩
            · exact p3 ⟨decide_eq_false a, decide_eq_true b, decide_eq_false c, decide_eq_true d⟩
          have HC := Lib.hid hcase
          clear hcase
          cases hkv : decide (z = 45 ∨ z = 95 ∨ z = 46 ∨ z = 47) with
          | true =>
            have HV := Lib.hid hkv
            clear hkv
            refine hstart _ ⟨?_, ?_, ?_⟩
            · rintro ⟨a, b⟩
              clear hstart
              go_wp2_with fail
              refine (containsRune_key z _).mono ?_
              rw [HV.out]
              rintro e w' ⟨rfl, hb⟩
              go_wp2
              go_roundg g'
              case measure => omega
              case rel => exact ⟨k + 1, by go_num, by omega, HW.out.trans (hb.mono HW.out.size), all_take HA.out HX.out (by rw [HK.out, HV.out])⟩
            · rintro ⟨a, b, c⟩
              clear hstart
              go_wp2_with fail
              refine (containsRune_key z _).mono ?_
              rw [HV.out]
              rintro e w' ⟨rfl, hb⟩
              go_wp2
              go_roundg g'
              case measure => omega
              case rel => exact ⟨k + 1, by go_num, by omega, HW.out.trans (hb.mono HW.out.size), all_take HA.out HX.out (by rw [HK.out, HV.out])⟩
            · rintro ⟨a, b, c, d⟩
              clear hstart
              go_wp2_with fail
              refine (containsRune_key z _).mono ?_
              rw [HV.out]
              rintro e w' ⟨rfl, hb⟩
              go_wp2
              go_roundg g'
              case measure => omega
              case rel => exact ⟨k + 1, by go_num, by omega, HW.out.trans (hb.mono HW.out.size), all_take HA.out HX.out (by rw [HK.out, HV.out])⟩
          | false =>
            have HV := Lib.hid hkv
            clear hkv
            have hno : keyL s.data.toList = false := by
              unfold keyL
              rw [all_not HX.out (by rw [HK.out, HV.out])]
              rfl
            have HNo := Lib.hid hno
            clear hno
            refine hstart _ ⟨?_, ?_, ?_⟩
            · rintro ⟨a, b⟩
              clear hstart
              go_wp2_with fail
              refine (containsRune_key z _).mono ?_
              rw [HV.out]
              rintro e w' ⟨rfl, hb⟩
              go_wp2
              go_ret
              exact ⟨by rw [HNo.out]; rfl, HB.out.trans ((HW.out.trans (hb.mono HW.out.size)).mono HB.out.size)⟩
            · rintro ⟨a, b, c⟩
              clear hstart
              go_wp2_with fail
              refine (containsRune_key z _).mono ?_
              rw [HV.out]
              rintro e w' ⟨rfl, hb⟩
              go_wp2
              go_ret
              exact ⟨by rw [HNo.out]; rfl, HB.out.trans ((HW.out.trans (hb.mono HW.out.size)).mono HB.out.size)⟩
            · rintro ⟨a, b, c, d⟩
              clear hstart
              go_wp2_with fail
              refine (containsRune_key z _).mono ?_
              rw [HV.out]
              rintro e w' ⟨rfl, hb⟩
              go_wp2
              go_ret
              exact ⟨by rw [HNo.out]; rfl, HB.out.trans ((HW.out.trans (hb.mono HW.out.size)).mono HB.out.size)⟩
    · have hall : s.data.toList.all keyByte = true := all_of (by rw [HL.out]; intro j y hj; exact HA.out j y (by omega))
      have hval : keyL s.data.toList = (decide (1 ≤ N) && decide (N ≤ 64)) := by
        unfold keyL
        rw [hall, HL.out, Bool.true_and]
      have HV := Lib.hid hval
      clear hall hval
      have hBB := HB.out.trans (HW.out.mono HB.out.size)
      have HBB := Lib.hid hBB
      clear hBB
      by_cases h1 : (1 : Int) ≤ N
      · by_cases h2 : (N : Int) ≤ 64
        · have h1d : decide ((1 : Int) ≤ N) = true := decide_eq_true h1
          have h2d : decide ((N : Int) ≤ 64) = true := decide_eq_true h2
          go_wp2
          go_ret
          refine ⟨?_, HBB.out⟩
          rw [HV.out, decide_eq_true (by omega), decide_eq_true (by omega)]
          rfl
        · have h1d : decide ((1 : Int) ≤ N) = true := decide_eq_true h1
          have h2d : decide ((N : Int) ≤ 64) = false := decide_eq_false h2
          go_wp2
          go_ret
          refine ⟨?_, HBB.out⟩
          rw [HV.out, decide_eq_true (by omega), decide_eq_false (by omega)]
          rfl
      · have h1d : decide ((1 : Int) ≤ N) = false := decide_eq_false h1
        go_wp2
        go_ret
        refine ⟨?_, HBB.out⟩
        rw [HV.out, decide_eq_false (by omega)]
        rfl
end Go.Proofs.YtmocoiamhphhnaaGreatDoor
