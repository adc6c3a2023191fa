/- RaceOrders: the walk. -/
import Derived.Test.YtahklchfchjmcaaDoorLc
namespace Go.Proofs.YtahklchfchjmcaaDoor
set_option linter.unusedVariables false
set_option linter.unusedSimpArgs false
open Go.RowKit Go.MapKept

theorem ord_in {l : List Acc} (hw : wrongF l = 0) {a b : Nat} (ha : a < l.length) (hb : b < l.length) : ∀ x er, OrdIs l a b x er → x = (decide ((a : Int) < b) && hbB l b a) ∧ er = 0 := by
  intro x er h
  unfold OrdIs at h
  rw [if_neg (by simp [hw]), if_neg (by omega)] at h
  refine ⟨?_, h.1⟩
  have h2 := h.2
  rw [Int.toNat_natCast, Int.toNat_natCast] at h2
  rw [Bool.eq_iff_iff, h2, Bool.and_eq_true, hbB_iff, decide_eq_true_eq]
  exact ⟨fun h => ⟨by have := h.lt; omega, h⟩, fun h => h.2⟩
theorem ord_out {l : List Acc} (hw : wrongF l = 0) {i k : Int} (h : i < 0 ∨ (l.length : Int) ≤ i ∨ k < 0 ∨ (l.length : Int) ≤ k) : ∀ x er, OrdIs l i k x er → x = false ∧ er = 3 := by
  intro x er h'
  unfold OrdIs at h'
  rw [if_neg (by simp [hw]), if_pos h] at h'
  exact h'
theorem ord_bad {l : List Acc} (hw : wrongF l ≠ 0) (hlen : l.length ≤ 40) {i k : Int} : ∀ x er, OrdIs l i k x er → x = false ∧ er = 2 := by
  intro x er h
  unfold OrdIs at h
  rw [if_pos hw] at h
  refine ⟨h.1, h.2.trans ?_⟩
  unfold wrongF at hw ⊢
  rw [if_neg (by omega)] at hw ⊢
  split
  · rename_i h1; rw [if_pos h1] at hw; exact absurd rfl hw
  · rfl

def OrdL (w wr : World) (B : Nat) (l : List Acc) (ub : Value) (gs : Nat → Nat) (u : Value) : Prop :=
  ∃ k : Nat, k ≤ l.length ∧ u = .int .i64 k ∧ Below w.heap.size w wr ∧ OutAt wr B l ub l.length gs

set_option maxRecDepth 100000 in
set_option maxHeartbeats 2000000 in
theorem orders_any (w : World) (v : Value) (l : List Acc) (hl : AccAt w v l) (i k : Int) (htab : ∀ w', Below w.heap.size w w' → Tab w') :
    Calls Tryd.prog 5 #[v, .int .i64 i, .int .i64 k] w fun e w' => e = .returned (.bool true) ∧ Below w.heap.size w w' := by
  have HL := Lib.hid hl
  have HT := Lib.hid htab
  obtain ⟨A, cap, rfl, hcap, hcm, _⟩ := hl
  clear htab
  go_enter Tryd.func5, Tryd.ntmps5
  go_wp2_with fail
  refine (few_any w _ l 40 (by omega) (by omega) HL.out).mono ?_
  rintro e w1 ⟨b, rfl, hf, rfl⟩
  cases b
  · clear hf
    go_wp2_with fail
    refine (known_yes _ HT.out).mono ?_
    rintro e w2 ⟨rfl, hb⟩
    go_wp2
    go_ret
    exact ⟨rfl, hb⟩
  · have HF := Lib.hid (hf rfl)
    clear hf
    go_wp2_with fail
    refine (rwrong_any w _ l HL.out).mono ?_
    rintro e w2 ⟨rfl, hb2⟩
    by_cases hw : wrongF l = 0
    · have HW := Lib.hid hw
      rw [hw]
      clear hw
      go_wp2_with fail
      refine (before_any _ _ l (HL.out.below hb2) (by have := HF.out; omega)).mono ?_
      rintro e w3 ⟨u, gs, rfl, hout, hb3⟩
      have HO := Lib.hid hout
      have HB := Lib.hid (bl_step hb2 hb3)
      clear hout hb3
      go_wp2_with fail
      go_loopw [8] (fun u8 wr => OrdL w wr w2.heap.size l u gs u8) (fun u8 _ => l.length - (intOf u8).toNat)
      case atStart => exact ⟨0, Nat.zero_le _, rfl, HB.out, HO.out⟩
      case round =>
        obtain ⟨a, ha, rfl, hb, hout⟩ := hrel
        have HO := Lib.hid hout
        have HB := Lib.hid hb
        clear hout hb
        by_cases hlt : a < l.length
        · go_wp2_with fail
          go_loopw [9] (fun u9 wr => OrdL w wr w2.heap.size l u gs u9) (fun u9 _ => l.length - (intOf u9).toNat)
          case atStart => exact ⟨0, Nat.zero_le _, rfl, HB.out, HO.out⟩
          case round =>
            obtain ⟨b, hbl, rfl, hb, hout⟩ := hrel
            by_cases hltb : b < l.length
            · obtain ⟨g, cap3, hu3, hce, hgl⟩ := hout.elem hltb
              subst hu3
              by_cases hab : a < b
              · have hrn := (hout.row b hltb).1.cell hab
                have HO := Lib.hid hout
                have HB := Lib.hid hb
                clear hout hb
                have hab' : (a : Int) < b := by omega
                have HAB := Lib.hid hab'
                have HOr := Lib.hid (ord_in HW.out hlt hltb)
                generalize hbB l b a = x at *
                go_wp2_with fail
                refine (ordered_yes _ _ l a b x 0 (HL.out.below HB.out) (by have h := HOr.out; simp only [decide_eq_true (show (a : Int) < b by have := HAB.out; omega), Bool.true_and] at h; exact h)).mono ?_
                rintro e w4 ⟨rfl, hb4⟩
                go_wp2
                go_roundw
                case rel => exact ⟨b + 1, by omega, by go_num, bl_step HB.out hb4, HO.out.below hb4⟩
                case measure => simp [intOf]; omega
              · have HO := Lib.hid hout
                have HB := Lib.hid hb
                clear hout hb
                have hab' : ¬ (a : Int) < b := by omega
                have HAB := Lib.hid hab'
                have HOr := Lib.hid (ord_in HW.out hlt hltb)
                go_wp2_with fail
                refine (ordered_yes _ _ l a b false 0 (HL.out.below HB.out) (by have h := HOr.out; simp only [decide_eq_false (show ¬ (a : Int) < b by have := HAB.out; omega), Bool.false_and] at h; exact h)).mono ?_
                rintro e w4 ⟨rfl, hb4⟩
                go_wp2
                go_roundw
                case rel => exact ⟨b + 1, by omega, by go_num, bl_step HB.out hb4, HO.out.below hb4⟩
                case measure => simp [intOf]; omega
            · go_wp2
              go_roundw
              case rel => exact ⟨a + 1, by omega, by go_num, hb, hout⟩
              case measure => simp [intOf]; omega
        · by_cases h1 : i < 0
          · go_wp2_with fail
            refine (ordered_yes _ _ l i k false 3 (HL.out.below HB.out) (ord_out HW.out (by omega))).mono ?_
            rintro e w4 ⟨rfl, hb4⟩
            have hb := bl_step HB.out hb4
            clear hb4
            go_wp2_with fail
            refine (known_yes _ (fun w' h => HT.out w' (bl_step hb h))).mono ?_
            rintro e w5 ⟨rfl, hb5⟩
            replace hb := bl_step hb hb5
            clear hb5
            go_wp2
            go_ret
            exact ⟨rfl, hb⟩
          · by_cases h2 : (l.length : Int) ≤ i
            · go_wp2_with fail
              refine (ordered_yes _ _ l i k false 3 (HL.out.below HB.out) (ord_out HW.out (by omega))).mono ?_
              rintro e w4 ⟨rfl, hb4⟩
              have hb := bl_step HB.out hb4
              clear hb4
              go_wp2_with fail
              refine (known_yes _ (fun w' h => HT.out w' (bl_step hb h))).mono ?_
              rintro e w5 ⟨rfl, hb5⟩
              replace hb := bl_step hb hb5
              clear hb5
              go_wp2
              go_ret
              exact ⟨rfl, hb⟩
            · by_cases h3 : k < 0
              · go_wp2_with fail
                refine (ordered_yes _ _ l i k false 3 (HL.out.below HB.out) (ord_out HW.out (by omega))).mono ?_
                rintro e w4 ⟨rfl, hb4⟩
                have hb := bl_step HB.out hb4
                clear hb4
                go_wp2_with fail
                refine (known_yes _ (fun w' h => HT.out w' (bl_step hb h))).mono ?_
                rintro e w5 ⟨rfl, hb5⟩
                replace hb := bl_step hb hb5
                clear hb5
                go_wp2
                go_ret
                exact ⟨rfl, hb⟩
              · by_cases h4 : (l.length : Int) ≤ k
                · go_wp2_with fail
                  refine (ordered_yes _ _ l i k false 3 (HL.out.below HB.out) (ord_out HW.out (by omega))).mono ?_
                  rintro e w4 ⟨rfl, hb4⟩
                  have hb := bl_step HB.out hb4
                  clear hb4
                  go_wp2_with fail
                  refine (known_yes _ (fun w' h => HT.out w' (bl_step hb h))).mono ?_
                  rintro e w5 ⟨rfl, hb5⟩
                  replace hb := bl_step hb hb5
                  clear hb5
                  go_wp2
                  go_ret
                  exact ⟨rfl, hb⟩
                · go_wp2_with fail
                  refine (known_yes _ (fun w' h => HT.out w' (bl_step HB.out h))).mono ?_
                  rintro e w5 ⟨rfl, hb5⟩
                  have hb := bl_step HB.out hb5
                  clear hb5
                  go_wp2
                  go_ret
                  exact ⟨rfl, hb⟩
    · have HW := Lib.hid hw
      have hw' : (wrongF l != 0) = true := by simp [hw]
      go_wp2_with fail
      refine (ordered_yes _ _ l i k false 2 (HL.out.below hb2) (ord_bad HW.out (by have := HF.out; omega))).mono ?_
      rintro e w4 ⟨rfl, hb4⟩
      have hb := bl_step hb2 hb4
      clear hb4 hb2
      go_wp2_with fail
      refine (known_yes _ (fun w' h => HT.out w' (bl_step hb h))).mono ?_
      rintro e w5 ⟨rfl, hb5⟩
      replace hb := bl_step hb hb5
      clear hb5
      go_wp2
      go_ret
      exact ⟨rfl, hb⟩
end Go.Proofs.YtahklchfchjmcaaDoor
