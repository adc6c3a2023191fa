/- The teller's each. -/
import Derived.Test.YtahklchfchjmcaaDoorTl
import Derived.Lib.AppendIntMem
import Derived.Lib.ItoaLen
namespace Go.Proofs.YtahklchfchjmcaaDoor
set_option linter.unusedVariables false
set_option linter.unusedSimpArgs false
open Go.RowKit Go.MapKept

def Tab (w : World) : Prop := Lib.TabIs Tryd.prog w "internal/strconv.uint64pow10" .u64 Lib.pow10Tab
theorem Tab.below {w w' : World} (h : Tab w) (hb : Below w.heap.size w w') : Tab w' := by
  unfold Tab Lib.TabIs World.var? at h ⊢
  cases hg : Tryd.prog.globalNamed "internal/strconv.uint64pow10" with
  | none => rw [hg] at h; cases h
  | some g =>
    rw [hg] at h
    simp only [Option.bind_some] at h ⊢
    have hlt : g < w.heap.size := by
      rcases Nat.lt_or_ge g w.heap.size with h' | h'
      · exact h'
      · rw [Array.getElem?_eq_none h'] at h; cases h
    rw [hb.block g hlt]
    exact h
theorem ic_len (x : Int) : (intCells x).length = 1 := rfl

theorem mapTy_held : MapTy Tryd.prog 119 (.int .i64) (.slice none 0 0) := ⟨_, _, Tryd.underlying119, Tryd.underlying3, fun w => by kernel_rfl⟩

/-- strconv.Itoa. -/
theorem itoa_any (w : World) (htab : Tab w) (n : Int) (h0 : -9223372036854775808 ≤ n) (h1 : n ≤ 9223372036854775807) :
    Calls Tryd.prog 103 #[.int .i64 n] w fun e w' => e = .returned (.string (itoaB n)) ∧ Below w.heap.size w w' :=
  (Tryd.strconv_Itoa n h0 h1 w htab).mono fun e w' ⟨h, k, os, hw⟩ => ⟨h, hw ▸ Lib.below_grow _ _ (Nat.le_refl _) _ _⟩

theorem itoaB_size (n : Int) (h0 : -9223372036854775808 ≤ n) (h1 : n ≤ 9223372036854775807) : (itoaB n).size ≤ 21 := by
  have := Lib.itoa_length_le n h0 h1
  simpa [itoaB, ByteArray.size] using this

def EachR (w wr : World) (B p bh : Nat) (S : Int → Option Value) (H : Int → List Int) (stripes : Int) (out : List Acc) (t k : Int) (u : Value) : Prop :=
  ∃ m : Nat, m ≤ (H t).length ∧ u = .int .i64 m ∧ TellOutK w wr B p bh S H stripes (out ++ allF t k ((H t).take m))

set_option maxRecDepth 100000 in
set_option maxHeartbeats 400000 in
theorem each_any (w : World) (B p bh : Nat) (S : Int → Option Value) (H : Int → List Int) (stripes : Int) (vo : Value) (out : List Acc) (h : Tell w B p bh S H stripes vo out) (htab : ∀ w', Below B w w' → Tab w')
    (t k : Int) (hlen : out.length + (H t).length ≤ 1000000000) (hH : ∀ s ∈ H t, 0 ≤ s ∧ s < 1024) :
    Calls Tryd.prog 89 #[.pointer (some ⟨p, 0, none⟩), .int .i64 t, .int .i64 k] w fun e w' => e = .returned (.tuple #[]) ∧ TellOutK w w' B p bh S H stripes (out ++ allF t k (H t)) := by
  have hc1 := h.c1
  have hlk := h.gm.map.lookup ikey mapTy_held t
  have hat := h.gm.at_ ic_len t
  obtain ⟨A, cap, hv, hcap, hcm, _⟩ := id hat
  rw [hv] at hlk
  rw [hv] at hat
  have HT := Lib.hid h
  have HTab := Lib.hid htab
  have HV := Lib.hid hv
  have HA := Lib.hid hat
  have HHH := Lib.hid hH
  clear h htab hat hH hv
  go_enter Tryd.func89, Tryd.ntmps89
  go_wp2_with fail
  go_loopw [15] (fun u wr => EachR w wr B p bh S H stripes out t k u) (fun u _ => (H t).length - (intOf u).toNat)
  case atStart => exact ⟨0, Nat.zero_le _, rfl, _, by simpa [allF] using HT.out, Below.refl _ _, Kp.refl _⟩
  case round =>
    obtain ⟨m, hml, rfl, vo1, hT1, hB1, hK1⟩ := hrel
    by_cases hlt : m < (H t).length
    · have hat1 := hT1.gm.at_ ic_len t
      rw [HV.out] at hat1
      obtain ⟨bb, off, rfl, hcs⟩ := hat1.elem hlt
      have hc0 := hcs 0 _ rfl
      rw [Nat.add_zero, Nat.mul_one] at hc0
      have hr := HHH.out _ (List.getElem_mem hlt)
      have hlen1 : (out ++ allF t k ((H t).take m)).length ≤ 1000000000 := by simp [allF]; omega
      have e1 : allF t k ((H t).take (m + 1)) = allF t k ((H t).take m) ++ [⟨t, k, stripeB (H t)[m]⟩] := by
        unfold allF; rw [List.take_add_one, List.getElem?_eq_getElem hlt, List.map_append]; rfl
      generalize (H t)[m] = s at *
      have HT1 := Lib.hid hT1
      have HK1 := Lib.hid hK1
      have HB1 := Lib.hid hB1
      have HL1 := Lib.hid hlen1
      have HE1 := Lib.hid e1
      have hsz := itoaB_size s (by omega) (by omega)
      clear hcs hat1 hK1 hT1 hB1 hlen1 e1
      go_wp2_with (first | (go_at_call 103; refine (itoa_any _ (HTab.out _ HB1.out) s (by omega) (by omega)).mono ?_; rintro e w2 ⟨rfl, hb2⟩; have HB2 := Lib.hid hb2; clear hb2) | (go_at_call 90; refine (add_any _ B p bh S H stripes vo1 _ (HT1.out.below HB2.out) HL1.out t k _).mono ?_; rintro e w3 ⟨rfl, hT3⟩))
      go_roundw
      case rel =>
        obtain ⟨vo3, hT3', hB3, hK3⟩ := hT3
        refine ⟨m + 1, hlt, by go_num, vo3, ?_, (HB1.out.trans (HB2.out.mono HT1.out.hB)).trans hB3, (HK1.out.trans (Kp.below HB2.out)).trans hK3⟩
        rw [HE1.out, ← List.append_assoc]
        exact hT3'
      case measure => simp [intOf]; omega
    · go_wp2
      refine bodyPost_end (results_none rfl _ _ _) rfl ?_
      have e : m = (H t).length := by omega
      subst e
      refine ⟨rfl, vo1, ?_, hB1, hK1⟩
      rw [List.take_length] at hT1
      exact hT1
end Go.Proofs.YtahklchfchjmcaaDoor
