/- RaceLongs: the walk. -/
import Derived.Test.YtahklchfchjmcaaDoorLc
import Derived.Test.YtahklchfchjmcaaDoorLp
import Derived.Test.YtahklchfchjmcaaDoorFl
namespace Go.Proofs.YtahklchfchjmcaaDoor
set_option linter.unusedVariables false
set_option linter.unusedSimpArgs false
open Go.RowKit Go.MapKept

def FillD (w wr : World) (g n : Nat) (u : Value) : Prop := ∃ k : Nat, k ≤ n ∧ u = .int .i64 k ∧ FillAt Dd.cells 18 wr g n k lgS ∧ Below w.heap.size w wr ∧ g < wr.heap.size
def FillA (w wr : World) (g n g2 p : Nat) (u : Value) : Prop := ∃ k : Nat, k ≤ p + 1 ∧ u = .int .i64 k ∧ FillAt Acc.cells 3 wr g2 (p + 1) k (lgA p false) ∧ FillAt Dd.cells 18 wr g n n lgS ∧ Below w.heap.size w wr ∧ g < wr.heap.size ∧ g2 < wr.heap.size ∧ g < g2

def zDid : Array Value := #[.int .i64 0, .int .i64 0, .int .i64 0, .bool false, .int .i64 0, .slice none 0 0, .bool false, .int .i64 0, .string ⟨#[]⟩, .string ⟨#[]⟩, .string ⟨#[]⟩, .int .i64 0, .slice none 0 0, .int .i64 0, .int .i64 0, .int .i64 0, .slice none 0 0, .slice none 0 0]
theorem info_did : (Tryd.prog.info? 52).map (fun i => (i.zero, i.size, i.bytes)) = some (some (.agg zDid), 18, 232) := by kernel_rfl
def zAcc : Array Value := #[.int .i64 0, .int .i64 0, .string ⟨#[]⟩]
theorem info_acc : (Tryd.prog.info? 55).map (fun i => (i.zero, i.size, i.bytes)) = some (some (.agg zAcc), 3, 32) := by kernel_rfl

set_option maxRecDepth 100000 in
set_option maxHeartbeats 2000000 in
theorem longs_any (w : World) (m : Int) (o : Bool) (htab : ∀ w', Below w.heap.size w w' → Tab w') :
    Calls Tryd.prog 6 #[.int .i64 m, .bool o] w fun e w' => e = .returned (.bool true) ∧ Below w.heap.size w w' := by
  have HT := Lib.hid htab
  clear htab
  by_cases h1 : m < -2
  · go_enter Tryd.func6, Tryd.ntmps6
    go_wp2_with fail
    refine (known_yes _ HT.out).mono ?_
    rintro e w2 ⟨rfl, hb⟩
    go_wp2
    go_ret
    exact ⟨rfl, hb⟩
  · by_cases h2 : 2 < m
    · go_enter Tryd.func6, Tryd.ntmps6
      go_wp2_with fail
      refine (known_yes _ HT.out).mono ?_
      rintro e w2 ⟨rfl, hb⟩
      go_wp2
      go_ret
      exact ⟨rfl, hb⟩
    · obtain ⟨n, hn⟩ : ∃ n : Nat, 4096 + m = n := ⟨(4096 + m).toNat, by omega⟩
      obtain ⟨p, hp⟩ : ∃ p : Nat, 20000 + m = (p : Int) + 1 := ⟨(19999 + m).toNat, by omega⟩
      have hnb : 4094 ≤ n ∧ n ≤ 4098 := by omega
      have hpb : 19997 ≤ p ∧ p ≤ 20001 := by omega
      obtain ⟨ib, hi0, hi1, hi2, hi3⟩ := info_parts info_did
      have hmk : (Instr.makeSlice 22 (.int .i64 (n : Int)) (.int .i64 (n : Int))).run Tryd.prog w = .ok (.slice (some ⟨w.heap.size, 0, none⟩) n n) (w.alloc (.cells (madeCells zDid (n * 18)) 52)) := by
        have := run_make (P := Tryd.prog) w 22 _ ib _ Tryd.underlying22 hi0 hi1 .i64 .i64 n n (by omega) (by omega) (by rw [hi3]; omega) (by omega)
        simpa [hi2, Value.cells] using this
      have HNB := Lib.hid hnb
      have HPB := Lib.hid hpb
      clear hi0 hi1 hi2 hi3
      go_enter Tryd.func6, Tryd.ntmps6
      go_wp2_with fail
      have hF : FillAt Dd.cells 18 (w.alloc (.cells (madeCells zDid (n * 18)) 52)) w.heap.size n 0 lgS := FillAt.make _ _ _ _ _ _ _ (size_madeCells _ _)
      have hB : Below w.heap.size w (w.alloc (.cells (madeCells zDid (n * 18)) 52)) := (Below.refl _ _).alloc (Nat.le_refl _) _
      have hg : w.heap.size < (w.alloc (.cells (madeCells zDid (n * 18)) 52)).heap.size := by simp
      have H := Lib.hid (And.intro hF (And.intro hB hg))
      clear hF hB hg hmk
      go_loopw [6] (fun u6 wr => FillD w wr w.heap.size n u6) (fun u6 _ => n - (intOf u6).toNat)
      case atStart => exact ⟨0, Nat.zero_le _, rfl, H.out.1, H.out.2.1, H.out.2.2⟩
      case round =>
        obtain ⟨k, hk, rfl, hf, hb, hgl⟩ := hrel
        have HF := Lib.hid (And.intro hf (And.intro hb hgl))
        clear hf hb hgl
        by_cases hlt : k < n
        · obtain ⟨W, hst, hW⟩ : ∃ W, (Instr.storeAt 52 (.pointer (some ⟨w.heap.size, k * 18, none⟩)) (.agg #[.int .i64 ((k : Int) % 3), .int .i64 6, .int .i64 0, .bool false, .int .i64 0, .slice none 0 0, .bool false, .int .i64 0, .string ⟨#[]⟩, .string ⟨#[]⟩, .string ⟨#[]⟩, .int .i64 0, .slice none 0 0, .int .i64 0, .int .i64 0, .int .i64 0, .slice none 0 0, .slice none 0 0])).run Tryd.prog wr = .ok () W ∧
              (FillAt Dd.cells 18 W w.heap.size n (k + 1) lgS ∧ Below w.heap.size w W ∧ w.heap.size < W.heap.size) :=
            ⟨_, run_store_dids wr w.heap.size (k * 18) (lgS k) (knD_one _ _ _ _) (HF.out.1.at_ hlt), HF.out.1.step (fun _ => rfl) hlt, below_setCells (Nat.le_refl _) _ _ _ HF.out.2.1, by rw [size_setCells]; exact HF.out.2.2⟩
          have HST := Lib.hid hst
          have HW := Lib.hid hW
          clear hst hW
          go_wp2_with (first | (refine wpList_store_eq (by rfl) (.tmp 30) (.tmp 29) 52 (by rfl) _ _ (by rfl) (by rfl) HST.out ?_))
          go_roundw
          case rel =>
            exact ⟨k + 1, by omega, by go_num, HW.out.1, HW.out.2.1, HW.out.2.2⟩
          case measure => simp [intOf]; omega
        · obtain rfl : n = k := by omega
          clear hlt hk
          obtain ⟨ia, ha0, ha1, ha2, ha3⟩ := info_parts info_acc
          have hmk2 : (Instr.makeSlice 24 (.int .i64 ((p : Int) + 1)) (.int .i64 ((p : Int) + 1))).run Tryd.prog wr = .ok (.slice (some ⟨wr.heap.size, 0, none⟩) (p + 1) (p + 1)) (wr.alloc (.cells (madeCells zAcc ((p + 1) * 3)) 55)) := by
            have := run_make (P := Tryd.prog) wr 24 _ ia _ Tryd.underlying24 ha0 ha1 .i64 .i64 (p + 1 : Nat) (p + 1 : Nat) (by omega) (by omega) (by rw [ha3]; omega) (by omega)
            simpa [ha2, Value.cells] using this
          clear ha0 ha1 ha2 ha3
          go_wp2_with fail
          have hb2 := (Below.refl wr.heap.size wr).alloc (Nat.le_refl _) (.cells (madeCells zAcc ((p + 1) * 3)) 55)
          have hF : FillAt Acc.cells 3 (wr.alloc (.cells (madeCells zAcc ((p + 1) * 3)) 55)) wr.heap.size (p + 1) 0 (lgA p false) := FillAt.make _ _ _ _ _ _ _ (size_madeCells _ _)
          have hAt : FillA w (wr.alloc (.cells (madeCells zAcc ((p + 1) * 3)) 55)) w.heap.size n wr.heap.size p (.int .i64 0) :=
            ⟨0, Nat.zero_le _, rfl, hF, HF.out.1.below hb2 HF.out.2.2, bl_step HF.out.2.1 hb2, by have := HF.out.2.2; simp; omega, by simp, HF.out.2.2⟩
          have HAt := Lib.hid hAt
          clear hF hb2 hmk2 hAt
          obtain ⟨g2, hg2⟩ : ∃ g2, g2 = wr.heap.size := ⟨_, rfl⟩
          rw [← hg2] at HAt ⊢
          clear hg2
          go_loopw [8] (fun u8 wr => FillA w wr w.heap.size n g2 p u8) (fun u8 _ => p + 1 - (intOf u8).toNat)
          case atStart => exact HAt.out
          case round =>
            obtain ⟨k, hk, rfl, hf, hfd, hb, hgl, hgl2, hne⟩ := hrel
            have HF := Lib.hid (And.intro hf (And.intro hfd (And.intro hb (And.intro hgl (And.intro hgl2 hne)))))
            clear hf hfd hb hgl hgl2 hne
            by_cases hlt : k < p + 1
            · have hlt' : (k : Int) < (p : Int) + 1 := by omega
              go_wp2_with fail
              refine (law_of _ _ _ _).mono ?_
              rintro e w5 ⟨rfl, hb5⟩
              obtain ⟨W, hst, hW⟩ : ∃ W, (Instr.storeAt 55 (.pointer (some ⟨g2, k * 3, none⟩)) (.agg #[.int .i64 2, .int .i64 (kindOf 119), .string ⟨#[120]⟩])).run Tryd.prog w5 = .ok () W ∧
                  FillA w W w.heap.size n g2 p (.int .i64 (k + 1 : Nat)) := by
                have h1 := HF.out.1.below hb5 HF.out.2.2.2.2.1
                have h2 := HF.out.2.1.below hb5 HF.out.2.2.2.1
                have e : lgA p false k = ⟨2, kindOf 119, ⟨#[120]⟩⟩ := lgA_same p k
                have h3 := FillAt.step (cells := Acc.cells) (sz := 3) (fun _ => rfl) h1 hlt
                rw [e] at h3
                have hs := hb5.size
                have hg1 := HF.out.2.2.2.1
                have hg2 := HF.out.2.2.2.2.1
                refine ⟨_, run_store_accs w5 g2 (k * 3) ⟨2, kindOf 119, ⟨#[120]⟩⟩ (h1.at_ hlt), k + 1, by omega, rfl, h3, ?_, ?_, by rw [size_setCells]; omega, by rw [size_setCells]; omega, HF.out.2.2.2.2.2⟩
                · exact ⟨World.there_setCells h2.there _ _ _, fun i hi => World.rangeAt_setCells_apart (h2.full i hi) _ _ _ (.inl (Nat.ne_of_lt HF.out.2.2.2.2.2))⟩
                · exact below_setCells (by have := HF.out.2.2.2.2.2; have := HF.out.2.2.1.size; omega) _ _ _ (bl_step HF.out.2.2.1 hb5)
              have HST := Lib.hid hst
              have HW := Lib.hid hW
              clear hst hW hb5
              go_wp2_with (first | (refine wpList_store_eq (by rfl) (.tmp 43) (.tmp 42) 55 (by rfl) _ _ (by rfl) (by rfl) HST.out ?_))
              go_roundw
              case rel => exact HW.out
              case measure => simp [intOf]; omega
            · obtain rfl : p + 1 = k := by omega
              clear hlt hk
              by_cases hm : 0 < m
              · have HM := Lib.hid hm
                cases o
                · obtain ⟨W, hWe⟩ : ∃ W, W = wr := ⟨_, rfl⟩
                  subst hWe
                  have hD : DdAt W (.slice (some ⟨w.heap.size, 0, none⟩) n n) (lgD n) := HF.out.2.1.sl (by have := HNB.out; omega)
                  have hA : AccAt W (.slice (some ⟨g2, 0, none⟩) (p + 1) (p + 1)) (lgL p false) := HF.out.1.sl (by have := HPB.out; omega)
                  have HD := Lib.hid hD
                  have HA := Lib.hid hA
                  clear hD hA
                  have HB := Lib.hid HF.out.2.2.1
                  clear HF
                  go_wp2_with fail
                  have hb := Below.refl W.heap.size W
                  refine (accesses_yes _ _ _ (lgD n) [] 1 5 (HD.out.below hb) (lgD_one n) (fun w' h => HT.out w' (bl_step HB.out (bl_step hb h))) (SlAt.nil 0 none (by omega)) (lgD_long (by have := HNB.out; have := HM.out; omega))).mono ?_
                  rintro e wx ⟨rfl, hbx⟩
                  replace hb := bl_step hb hbx
                  clear hbx
                  go_wp2_with fail
                  refine (races_yes _ _ (lgL p false) 0 0 5 (HA.out.below hb) (lgL_bad false (by have := HPB.out; have := HM.out; omega))).mono ?_
                  rintro e wx ⟨rfl, hbx⟩
                  replace hb := bl_step hb hbx
                  clear hbx
                  go_wp2_with fail
                  refine (ordered_yes _ _ (lgL p false) 0 1 false 5 (HA.out.below hb) (lgL_ord_long false (by have := HPB.out; have := HM.out; omega) 0 1)).mono ?_
                  rintro e wx ⟨rfl, hbx⟩
                  replace hb := bl_step hb hbx
                  clear hbx
                  go_wp2_with fail
                  refine (known_yes _ (fun w' h => HT.out w' (bl_step HB.out (bl_step hb h)))).mono ?_
                  rintro e wx ⟨rfl, hbx⟩
                  replace hb := bl_step hb hbx
                  clear hbx
                  go_wp2
                  go_ret
                  exact ⟨rfl, bl_step HB.out hb⟩
                · have hFT := FillAt.task HF.out.1 (Nat.lt_succ_self p) 3
                  have hc0 : wr.cell? ⟨g2, p * 3, none⟩ = some (.int .i64 2) := HF.out.1.full p (Nat.lt_succ_self p) 0 _ (by rw [lgA_same]; rfl)
                  have hfz : wr.frozen? ⟨g2, p * 3, none⟩ = false := ((HF.out.1.at_ (Nat.lt_succ_self p)) 0 (by omega)).2
                  obtain ⟨W, hWe, hD, hA, hB⟩ : ∃ W, W = wr.setCell ⟨g2, p * 3, none⟩ (.int .i64 3) ∧ DdAt W (.slice (some ⟨w.heap.size, 0, none⟩) n n) (lgD n) ∧ AccAt W (.slice (some ⟨g2, 0, none⟩) (p + 1) (p + 1)) (lgL p true) ∧ Below w.heap.size w W := by
                    refine ⟨_, rfl, ?_, ?_, ?_⟩
                    · have hf := HF.out.2.1
                      refine FillAt.sl (f := lgS) ⟨World.there_setCells (vs := [.int .i64 3]) hf.there g2 (p * 3), fun i hi => World.rangeAt_setCells_apart (vs := [.int .i64 3]) (hf.full i hi) g2 (p * 3) (.inl (Nat.ne_of_lt HF.out.2.2.2.2.2))⟩ (by have := HNB.out; omega)
                    · refine FillAt.sl (FillAt.congr hFT fun i hi => ?_) (by have := HPB.out; omega)
                      by_cases e : i = p
                      · subst e; rw [if_pos rfl, lgA_same, lgA_last]
                      · rw [if_neg e, lgA_same, lgA_early _ (by omega)]
                    · exact HF.out.2.2.1.setCell (p := ⟨g2, p * 3, none⟩) (by have := HF.out.2.2.2.2.2; have := HF.out.2.2.1.size; show w.heap.size ≤ g2; omega) _
                  have HD := Lib.hid hD
                  have HA := Lib.hid hA
                  have HB := Lib.hid hB
                  have HWe := Lib.hid hWe
                  clear hFT hD hA hB hWe HF
                  go_wp2_with fail
                  rw [← HWe.out]
                  clear HWe hc0 hfz
                  have hb := Below.refl W.heap.size W
                  refine (accesses_yes _ _ _ (lgD n) [] 1 5 (HD.out.below hb) (lgD_one n) (fun w' h => HT.out w' (bl_step HB.out (bl_step hb h))) (SlAt.nil 0 none (by omega)) (lgD_long (by have := HNB.out; have := HM.out; omega))).mono ?_
                  rintro e wx ⟨rfl, hbx⟩
                  replace hb := bl_step hb hbx
                  clear hbx
                  go_wp2_with fail
                  refine (races_yes _ _ (lgL p true) 0 0 5 (HA.out.below hb) (lgL_bad true (by have := HPB.out; have := HM.out; omega))).mono ?_
                  rintro e wx ⟨rfl, hbx⟩
                  replace hb := bl_step hb hbx
                  clear hbx
                  go_wp2_with fail
                  refine (ordered_yes _ _ (lgL p true) 0 1 false 5 (HA.out.below hb) (lgL_ord_long true (by have := HPB.out; have := HM.out; omega) 0 1)).mono ?_
                  rintro e wx ⟨rfl, hbx⟩
                  replace hb := bl_step hb hbx
                  clear hbx
                  go_wp2_with fail
                  refine (known_yes _ (fun w' h => HT.out w' (bl_step HB.out (bl_step hb h)))).mono ?_
                  rintro e wx ⟨rfl, hbx⟩
                  replace hb := bl_step hb hbx
                  clear hbx
                  go_wp2
                  go_ret
                  exact ⟨rfl, bl_step HB.out hb⟩
              · have HM := Lib.hid hm
                cases o
                · obtain ⟨W, hWe⟩ : ∃ W, W = wr := ⟨_, rfl⟩
                  subst hWe
                  have hD : DdAt W (.slice (some ⟨w.heap.size, 0, none⟩) n n) (lgD n) := HF.out.2.1.sl (by have := HNB.out; omega)
                  have hA : AccAt W (.slice (some ⟨g2, 0, none⟩) (p + 1) (p + 1)) (lgL p false) := HF.out.1.sl (by have := HPB.out; omega)
                  have HD := Lib.hid hD
                  have HA := Lib.hid hA
                  clear hD hA
                  have HB := Lib.hid HF.out.2.2.1
                  clear HF
                  go_wp2_with fail
                  have hb := Below.refl W.heap.size W
                  refine (accesses_yes _ _ _ (lgD n) [] 1 0 (HD.out.below hb) (lgD_one n) (fun w' h => HT.out w' (bl_step HB.out (bl_step hb h))) (SlAt.nil 0 none (by omega)) (lgD_of (by have := HNB.out; have := HM.out; omega))).mono ?_
                  rintro e wx ⟨rfl, hbx⟩
                  replace hb := bl_step hb hbx
                  clear hbx
                  go_wp2_with fail
                  refine (ordered_yes _ _ (lgL p false) 0 p true 0 (HA.out.below hb) (lgL_ord false (by have := HPB.out; omega) (by have := HPB.out; have := HM.out; omega))).mono ?_
                  rintro e wx ⟨rfl, hbx⟩
                  replace hb := bl_step hb hbx
                  clear hbx
                  go_wp2_with fail
                  refine (races_yes _ _ (lgL p false) (-1) (-1) 0 (HA.out.below hb) (known_check (lgL_ok false (by have := HPB.out; have := HM.out; omega)) (lgL_check_same p))).mono ?_
                  rintro e wx ⟨rfl, hbx⟩
                  replace hb := bl_step hb hbx
                  clear hbx
                  go_wp2_with fail
                  refine (known_yes _ (fun w' h => HT.out w' (bl_step HB.out (bl_step hb h)))).mono ?_
                  rintro e wx ⟨rfl, hbx⟩
                  replace hb := bl_step hb hbx
                  clear hbx
                  go_wp2
                  go_ret
                  exact ⟨rfl, bl_step HB.out hb⟩
                · have hFT := FillAt.task HF.out.1 (Nat.lt_succ_self p) 3
                  have hc0 : wr.cell? ⟨g2, p * 3, none⟩ = some (.int .i64 2) := HF.out.1.full p (Nat.lt_succ_self p) 0 _ (by rw [lgA_same]; rfl)
                  have hfz : wr.frozen? ⟨g2, p * 3, none⟩ = false := ((HF.out.1.at_ (Nat.lt_succ_self p)) 0 (by omega)).2
                  obtain ⟨W, hWe, hD, hA, hB⟩ : ∃ W, W = wr.setCell ⟨g2, p * 3, none⟩ (.int .i64 3) ∧ DdAt W (.slice (some ⟨w.heap.size, 0, none⟩) n n) (lgD n) ∧ AccAt W (.slice (some ⟨g2, 0, none⟩) (p + 1) (p + 1)) (lgL p true) ∧ Below w.heap.size w W := by
                    refine ⟨_, rfl, ?_, ?_, ?_⟩
                    · have hf := HF.out.2.1
                      refine FillAt.sl (f := lgS) ⟨World.there_setCells (vs := [.int .i64 3]) hf.there g2 (p * 3), fun i hi => World.rangeAt_setCells_apart (vs := [.int .i64 3]) (hf.full i hi) g2 (p * 3) (.inl (Nat.ne_of_lt HF.out.2.2.2.2.2))⟩ (by have := HNB.out; omega)
                    · refine FillAt.sl (FillAt.congr hFT fun i hi => ?_) (by have := HPB.out; omega)
                      by_cases e : i = p
                      · subst e; rw [if_pos rfl, lgA_same, lgA_last]
                      · rw [if_neg e, lgA_same, lgA_early _ (by omega)]
                    · exact HF.out.2.2.1.setCell (p := ⟨g2, p * 3, none⟩) (by have := HF.out.2.2.2.2.2; have := HF.out.2.2.1.size; show w.heap.size ≤ g2; omega) _
                  have HD := Lib.hid hD
                  have HA := Lib.hid hA
                  have HB := Lib.hid hB
                  have HWe := Lib.hid hWe
                  clear hFT hD hA hB hWe HF
                  go_wp2_with fail
                  rw [← HWe.out]
                  clear HWe hc0 hfz
                  have hb := Below.refl W.heap.size W
                  refine (accesses_yes _ _ _ (lgD n) [] 1 0 (HD.out.below hb) (lgD_one n) (fun w' h => HT.out w' (bl_step HB.out (bl_step hb h))) (SlAt.nil 0 none (by omega)) (lgD_of (by have := HNB.out; have := HM.out; omega))).mono ?_
                  rintro e wx ⟨rfl, hbx⟩
                  replace hb := bl_step hb hbx
                  clear hbx
                  go_wp2_with fail
                  refine (ordered_yes _ _ (lgL p true) 0 p false 0 (HA.out.below hb) (lgL_ord true (by have := HPB.out; omega) (by have := HPB.out; have := HM.out; omega))).mono ?_
                  rintro e wx ⟨rfl, hbx⟩
                  replace hb := bl_step hb hbx
                  clear hbx
                  go_wp2_with fail
                  refine (races_yes _ _ (lgL p true) 0 p 0 (HA.out.below hb) (known_check (lgL_ok true (by have := HPB.out; have := HM.out; omega)) (lgL_check_other (by have := HPB.out; omega)))).mono ?_
                  rintro e wx ⟨rfl, hbx⟩
                  replace hb := bl_step hb hbx
                  clear hbx
                  go_wp2_with fail
                  refine (known_yes _ (fun w' h => HT.out w' (bl_step HB.out (bl_step hb h)))).mono ?_
                  rintro e wx ⟨rfl, hbx⟩
                  replace hb := bl_step hb hbx
                  clear hbx
                  go_wp2
                  go_ret
                  exact ⟨rfl, bl_step HB.out hb⟩
end Go.Proofs.YtahklchfchjmcaaDoor
