/- RaceHolds: the walk. -/
import Derived.Test.YtahklchfchjmcaaDoorLc
import Derived.Test.YtahklchfchjmcaaDoorLg
import Derived.Deep.WholeRow
import Derived.Deep.QuietTactic
namespace Go.Proofs.YtahklchfchjmcaaDoor
set_option linter.unusedVariables false
set_option linter.unusedSimpArgs false
open Go.RowKit Go.MapKept

def zMat : Array Value := (Array.range 576).map fun _ => .bool false
theorem zMat_size : zMat.size = 576 := by simp [zMat]
theorem info_mat : (Tryd.prog.info? 60).map (fun i => (i.zero, i.size)) = some (some (.agg zMat), 576) := by kernel_rfl

theorem bl_drewH {B : Nat} {w w' : World} (h : Below B w w') (n : Nat) : Below B w (w'.drewN n) := ⟨h.os, h.tape, h.output, h.size, h.block⟩
theorem ord_of {l : List Acc} (hw : wrongF l = 0) {i k : Nat} {b : Bool} {er : Int} (hi : i < l.length) (hk : k < l.length) (h : OrdIs l i k b er) : b = hbB l k i ∧ er = 0 := by
  unfold OrdIs at h
  rw [if_neg (by simp [hw]), if_neg (by omega)] at h
  have h2 := h.2
  rw [Int.toNat_natCast, Int.toNat_natCast] at h2
  refine ⟨?_, h.1⟩
  rw [Bool.eq_iff_iff, hbB_iff]
  exact h2
/-- At the heads of the first loops. -/
def HoO (w wr : World) (g : Nat) (l : List Acc) (u : Value) : Prop := ∃ i : Nat, i ≤ l.length ∧ u = .int .i64 i ∧ MatB wr g l i 0 ∧ Below w.heap.size w wr ∧ g < wr.heap.size
def HoI (w wr : World) (g : Nat) (l : List Acc) (i : Nat) (u : Value) : Prop := ∃ k : Nat, k ≤ l.length ∧ u = .int .i64 k ∧ MatB wr g l i k ∧ Below w.heap.size w wr ∧ g < wr.heap.size

set_option maxRecDepth 100000 in
set_option maxHeartbeats 4000000 in
theorem holds_any (w : World) (v : Value) (l : List Acc) (hl : AccAt w v l) (htab : ∀ w', Below w.heap.size w w' → Tab w') :
    Calls Tryd.prog 8 #[v] w fun e w' => e = .returned (.bool true) ∧ Below w.heap.size w w' := by
  have HL := Lib.hid hl
  have HT := Lib.hid htab
  obtain ⟨A, cap, rfl, hcap, hcm, _⟩ := hl
  clear htab
  obtain ⟨hz, hz2⟩ := zero_of_info info_mat
  go_enter Tryd.func8, Tryd.ntmps8
  go_wp2_with fail
  refine (few_any w _ l 24 (by omega) (by omega) HL.out).mono ?_
  rintro e w1 ⟨b, rfl, hf, rfl⟩
  cases b
  · clear hf
    go_wp2_with fail
    refine (known_yes _ HT.out).mono ?_
    rintro e w2 ⟨rfl, hb⟩
    go_wp2
    go_ret
    exact ⟨rfl, hb⟩
  · have hle : (l.length : Int) ≤ 24 := hf rfl
    have HF := Lib.hid hle
    clear hf
    go_wp2_with fail
    refine (rwrong_any w _ l HL.out).mono ?_
    rintro e w2 ⟨rfl, hb2⟩
    by_cases hw : wrongF l = 0
    · have HW := Lib.hid hw
      rw [hw]
      clear hw
      go_wp2_with fail
      have hM : MatB (w2.alloc (.cells zMat 60)) w2.heap.size l 0 0 := MatB.make _ _ _ _ zMat_size
      have hB : Below w.heap.size w (w2.alloc (.cells zMat 60)) := hb2.alloc hb2.size _
      have hg0 : w2.heap.size < (w2.alloc (.cells zMat 60)).heap.size := by simp
      have H := Lib.hid (And.intro hM (And.intro hB (And.intro hg0 hb2.size)))
      clear hM hB hg0 hb2 hz hz2
      obtain ⟨g, hgw⟩ : ∃ g, g = w2.heap.size := ⟨_, rfl⟩
      rw [← hgw] at H ⊢
      clear hgw
      go_loopw [4] (fun u4 wr => HoO w wr g l u4) (fun u4 _ => l.length - (intOf u4).toNat)
      case atStart => exact ⟨0, Nat.zero_le _, rfl, H.out.1, H.out.2.1, H.out.2.2.1⟩
      case round =>
        obtain ⟨i, hi, rfl, hm, hb, hg⟩ := hrel
        have HM := Lib.hid (And.intro hm (And.intro hb hg))
        clear hm hb hg
        by_cases hlt : i < l.length
        · go_wp2_with fail
          go_loopw [5] (fun u5 wr => HoI w wr g l i u5) (fun u5 _ => l.length - (intOf u5).toNat)
          case atStart => exact ⟨0, Nat.zero_le _, rfl, HM.out.1, HM.out.2.1, HM.out.2.2⟩
          case round =>
            obtain ⟨k, hk, rfl, hm, hb, hg⟩ := hrel
            have HM := Lib.hid (And.intro hm (And.intro hb hg))
            clear hm hb hg
            by_cases hltk : k < l.length
            · go_wp2_with fail
              refine (ordered_any wr _ l (HL.out.below HM.out.2.1) i k).mono ?_
              rintro e w4 ⟨b, er, rfl, h1, hb4⟩
              obtain ⟨hbe, rfl⟩ := ord_of HW.out hlt hltk h1
              have hb4' := bl_step HM.out.2.1 hb4
              obtain ⟨bb, off, rfl, hcs⟩ := (HL.out.below hb4').elem hlt
              obtain ⟨bb', off', e', hcs'⟩ := (HL.out.below hb4').elem hltk
              injection e' with e'
              injection e' with e1 e2
              subst e1; subst e2
              have hc0 := hcs 0 _ rfl
              have hd0 := hcs' 0 _ rfl
              rw [Nat.add_zero] at hc0 hd0
              have hln : l[i]? = some l[i] := List.getElem?_eq_getElem hlt
              have hlk : l[k]? = some l[k] := List.getElem?_eq_getElem hltk
              generalize ea : l[i] = a at *
              generalize eb : l[k] = a2 at *
              have hM4 := HM.out.1.below hb4 HM.out.2.2
              obtain ⟨v0, hv0, hz0⟩ := hM4.cell (a := i) (b := k) (by omega) (by omega)
              have hvN : ∀ n, (w4.drewN n).cell? ⟨g, i * 24 + k, none⟩ = some v0 := fun n => cell_below (bl_drewH (Below.refl _ _) n) hv0
              have hzN : ∀ n, (w4.drewN n).frozen? ⟨g, i * 24 + k, none⟩ = false := fun n => hz0
              have hputN : ∀ n, MatB ((w4.drewN n).setCell ⟨g, i * 24 + k, none⟩ (.bool b)) g l i (k + 1) ∧ Below w.heap.size w ((w4.drewN n).setCell ⟨g, i * 24 + k, none⟩ (.bool b)) ∧ g < ((w4.drewN n).setCell ⟨g, i * 24 + k, none⟩ (.bool b)).heap.size := fun n => by
                have h2 := (hM4.below (bl_drewH (Below.refl _ _) n) (Nat.lt_of_lt_of_le HM.out.2.2 hb4.size)).put (i := i) (k := k) (by omega) (by omega) (by omega)
                rw [← hbe] at h2
                exact ⟨h2, (bl_drewH hb4' n).setCell (p := ⟨g, i * 24 + k, none⟩) H.out.2.2.2 _, by have h3 := Nat.lt_of_lt_of_le HM.out.2.2 hb4.size; simpa [World.setCell] using h3⟩
              have HP := Lib.hid hputN
              have hcase : (b = true → i < k) ∧ (b = false → i < k → a.task ≠ a2.task) := by
                rw [hbe]
                refine ⟨fun h => ((hbB_iff _ _ _).1 h).lt, fun h hik ht => ?_⟩
                rw [(hbB_iff _ _ _).2 (.base hik hln hlk (.inl ht))] at h
                cases h
              have HC := Lib.hid hcase
              clear hcs hcs' ea eb hln hlk h1 hbe hM4 hv0 hz0 hputN hb4' hb4 hcase
              obtain ⟨at1, ak, ax⟩ := a
              obtain ⟨bt, bk, bx⟩ := a2
              dsimp only at hc0 hd0
              cases b
              · by_cases hik : i < k
                · have hik' : (i : Int) < k := by omega
                  have hne : (at1 == bt) = false := by have := HC.out.2 rfl hik; simpa using this
                  go_wp2_with fail
                  go_quiet (fail)
                  go_wp2
                  go_roundw
                  case rel => exact ⟨k + 1, by omega, by go_num, (HP.out _).1, (HP.out _).2.1, (HP.out _).2.2⟩
                  case measure => simp [intOf]; omega
                · have hik' : ¬ (i : Int) < k := by omega
                  have hki' : (k : Int) ≤ i := by omega
                  go_wp2_with fail
                  go_quiet (fail)
                  go_wp2
                  go_roundw
                  case rel => exact ⟨k + 1, by omega, by go_num, (HP.out _).1, (HP.out _).2.1, (HP.out _).2.2⟩
                  case measure => simp [intOf]; omega
              · have hik := HC.out.1 rfl
                have hik' : (i : Int) < k := by omega
                have hki' : ¬ (k : Int) ≤ i := by omega
                generalize hq : (at1 == bt) = q at *
                cases q
                all_goals
                  go_wp2_with fail
                  go_quiet (fail)
                  go_wp2
                  go_roundw
                  case rel => exact ⟨k + 1, by omega, by go_num, (HP.out _).1, (HP.out _).2.1, (HP.out _).2.2⟩
                  case measure => simp [intOf]; omega
            · go_wp2
              go_roundw
              case rel => exact ⟨i + 1, by omega, by go_num, HM.out.1.next (by omega), HM.out.2.1, HM.out.2.2⟩
              case measure => simp [intOf]; omega
        · obtain rfl : i = l.length := by omega
          have hfull : ∀ a b, a < l.length → b < l.length → wr.cell? ⟨g, a * 24 + b, none⟩ = some (.bool (hbB l b a)) := fun a b ha hb => HM.out.1.full a b (by omega) hb (.inl ha)
          have HFu := Lib.hid hfull
          clear hfull
          go_wp2_with fail
          go_loop [8] (fun u => ∃ i : Nat, i ≤ l.length ∧ u = .int .i64 i) (fun u => l.length - (intOf u).toNat)
          case atStart => exact ⟨0, Nat.zero_le _, rfl⟩
          case round =>
            obtain ⟨i, hi, rfl⟩ := hrel
            by_cases hlt : i < l.length
            · go_wp2_with fail
              go_loop [9] (fun u => ∃ i : Nat, i ≤ l.length ∧ u = .int .i64 i) (fun u => l.length - (intOf u).toNat)
              case atStart => exact ⟨0, Nat.zero_le _, rfl⟩
              case round =>
                obtain ⟨k, hk, rfl⟩ := hrel
                by_cases hltk : k < l.length
                · go_wp2_with fail
                  go_loop [10] (fun u => ∃ i : Nat, i ≤ l.length ∧ u = .int .i64 i) (fun u => l.length - (intOf u).toNat)
                  case atStart => exact ⟨0, Nat.zero_le _, rfl⟩
                  case round =>
                    obtain ⟨m, hmm, rfl⟩ := hrel
                    by_cases hltm : m < l.length
                    · have f1 := HFu.out i k hlt hltk
                      have f2 := HFu.out k m hltk hltm
                      have f3 := HFu.out i m hlt hltm
                      have htr : hbB l k i = true → hbB l m k = true → hbB l m i = true := fun h1 h2 => (hbB_iff _ _ _).2 (((hbB_iff _ _ _).1 h1).trans ((hbB_iff _ _ _).1 h2))
                      generalize hbB l k i = b1 at *
                      generalize hbB l m k = b2 at *
                      generalize hbB l m i = b3 at *
                      have hi24 : (i : Int) < 24 := by omega
                      have hk24 : (k : Int) < 24 := by omega
                      have hm24 : (m : Int) < 24 := by omega
                      cases b1
                      · clear htr
                        go_wp2
                        go_round
                        case rel => exact ⟨m + 1, by omega, by go_num⟩
                        case measure => simp [intOf]; omega
                      · cases b2
                        · clear htr
                          go_wp2
                          go_round
                          case rel => exact ⟨m + 1, by omega, by go_num⟩
                          case measure => simp [intOf]; omega
                        · obtain rfl := htr rfl rfl
                          clear htr
                          go_wp2
                          go_round
                          case rel => exact ⟨m + 1, by omega, by go_num⟩
                          case measure => simp [intOf]; omega
                    · go_wp2
                      go_round
                      case rel => exact ⟨k + 1, by omega, by go_num⟩
                      case measure => simp [intOf]; omega
                · go_wp2
                  go_round
                  case rel => exact ⟨i + 1, by omega, by go_num⟩
                  case measure => simp [intOf]; omega
            · go_wp2_with fail
              refine (check_any wr _ l (HL.out.below HM.out.2.1)).mono ?_
              rintro e w4 ⟨f, s, er, rfl, h1, hb4⟩
              rw [if_neg (by simp [HW.out])] at h1
              obtain ⟨rfl, hc⟩ := h1
              have hb := bl_step HM.out.2.1 hb4
              rcases hc with ⟨rfl, rfl, hno⟩ | ⟨i2, k2, rfl, rfl, hr, hfirst, hfst2⟩
              · clear hno
                go_wp2_with fail
                refine (known_yes _ (fun w' h => HT.out w' (bl_step hb h))).mono ?_
                rintro e w5 ⟨rfl, hb5⟩
                replace hb := bl_step hb hb5
                clear hb5
                go_wp2
                go_ret
                exact ⟨rfl, hb⟩
              · obtain ⟨a, b, ha, hbk, hik, hne, hv, hda, hdb, hw2, hnb⟩ := hr
                have hkl : k2 < l.length := (List.getElem?_eq_some_iff.1 hbk).1
                have hil : i2 < l.length := by omega
                have f1 := cell_below hb4 (HFu.out i2 k2 hil hkl)
                have f2 := cell_below hb4 (HFu.out k2 i2 hkl hil)
                have e1 : hbB l k2 i2 = false := by rw [← Bool.not_eq_true, hbB_iff]; exact hnb
                have e2 : hbB l i2 k2 = false := by rw [← Bool.not_eq_true, hbB_iff]; exact fun h => by have := h.lt; omega
                rw [e1] at f1
                rw [e2] at f2
                obtain ⟨bb, off, rfl, hcs⟩ := (HL.out.below hb).elem hil
                obtain ⟨bb', off', e', hcs'⟩ := (HL.out.below hb).elem hkl
                injection e' with e'
                injection e' with e3 e4
                subst e3; subst e4
                have hln : l[i2] = a := Option.some.inj ((List.getElem?_eq_getElem hil).symm.trans ha)
                have hlk : l[k2] = b := Option.some.inj ((List.getElem?_eq_getElem hkl).symm.trans hbk)
                rw [hln] at hcs
                rw [hlk] at hcs'
                have hc0 := hcs 0 _ rfl
                have hc1 := hcs 1 _ rfl
                have hc2 := hcs 2 _ rfl
                have hd0 := hcs' 0 _ rfl
                have hd1 := hcs' 1 _ rfl
                have hd2 := hcs' 2 _ rfl
                rw [Nat.add_zero] at hc0 hd0
                have HX := Lib.hid (And.intro (HL.out.below hb) (And.intro hfirst hb))
                obtain ⟨xt, xk, xv⟩ := a
                obtain ⟨yt, yk, yv⟩ := b
                dsimp only at hc0 hc1 hc2 hd0 hd1 hd2 hne hv hw2
                subst hv
                have hne' : (xt == yt) = false := by simpa using hne
                have hi24 : (i2 : Int) < 24 := by omega
                have hk24 : (k2 : Int) < 24 := by omega
                have hii : (i2 : Int) < l.length := by omega
                have hkk : (k2 : Int) < l.length := by omega
                have hki : ¬ (k2 : Int) ≤ i2 := by omega
                have hi0 : ¬ (i2 : Int) < 0 := by omega
                clear hcs hcs' hln hlk ha hbk hnb hda hdb e1 e2 hfirst hfst2 hb hb4 hne
                by_cases hx2 : xk = 2
                · subst hx2
                  clear hw2
                  go_wp2_with fail
                  have hb0 : decide ((i2 : Int) < 0) = false := decide_eq_false (by omega)
                  have hb1 : decide ((k2 : Int) ≤ (i2 : Int)) = false := decide_eq_false (by omega)
                  have hb2' : decide ((l.length : Int) ≤ (k2 : Int)) = false := decide_eq_false (by omega)
                  have hb3 : decide (k2 ≤ i2) = false := decide_eq_false (by omega)
                  have hb4 : decide (l.length ≤ k2) = false := decide_eq_false (by omega)
                  dsimp only [List.append]
                  go_quiet (fail)
                  clear hb0 hb1 hb2' hb3 hb4
                  go_wp2_with fail
                  refine (races_yes _ _ (l.take k2) (-1) (-1) 0 ((HX.out.1.below (bl_drewH (Below.refl _ _) _)).take (Nat.le_of_lt hkl)) (known_check (wrong_take HW.out k2) (check_take (Nat.le_of_lt hkl) HX.out.2.1))).mono ?_
                  rintro e w5 ⟨rfl, hb5⟩
                  have hb6 := bl_step (bl_drewH HX.out.2.2 _) hb5
                  clear hb5
                  go_wp2_with fail
                  refine (known_yes _ (fun w' h => HT.out w' (bl_step hb6 h))).mono ?_
                  rintro e w6 ⟨rfl, hb5⟩
                  replace hb6 := bl_step hb6 hb5
                  clear hb5
                  go_wp2
                  go_ret
                  exact ⟨rfl, hb6⟩
                · have hy2 : yk = 2 := by rcases hw2 with h | h; exact absurd h hx2; exact h
                  subst hy2
                  have hx2' : (xk != 2) = true := by simpa using hx2
                  clear hw2 hx2
                  go_wp2_with fail
                  have hb0 : decide ((i2 : Int) < 0) = false := decide_eq_false (by omega)
                  have hb1 : decide ((k2 : Int) ≤ (i2 : Int)) = false := decide_eq_false (by omega)
                  have hb2' : decide ((l.length : Int) ≤ (k2 : Int)) = false := decide_eq_false (by omega)
                  have hb3 : decide (k2 ≤ i2) = false := decide_eq_false (by omega)
                  have hb4 : decide (l.length ≤ k2) = false := decide_eq_false (by omega)
                  dsimp only [List.append]
                  go_quiet (fail)
                  clear hb0 hb1 hb2' hb3 hb4
                  go_wp2_with fail
                  refine (races_yes _ _ (l.take k2) (-1) (-1) 0 ((HX.out.1.below (bl_drewH (Below.refl _ _) _)).take (Nat.le_of_lt hkl)) (known_check (wrong_take HW.out k2) (check_take (Nat.le_of_lt hkl) HX.out.2.1))).mono ?_
                  rintro e w5 ⟨rfl, hb5⟩
                  have hb6 := bl_step (bl_drewH HX.out.2.2 _) hb5
                  clear hb5
                  go_wp2_with fail
                  refine (known_yes _ (fun w' h => HT.out w' (bl_step hb6 h))).mono ?_
                  rintro e w6 ⟨rfl, hb5⟩
                  replace hb6 := bl_step hb6 hb5
                  clear hb5
                  go_wp2
                  go_ret
                  exact ⟨rfl, hb6⟩
    · have hw' : (wrongF l != 0) = true := by simp [hw]
      go_wp2_with fail
      refine (known_yes _ (fun w' h => HT.out w' (bl_step hb2 h))).mono ?_
      rintro e w5 ⟨rfl, hb5⟩
      have hb := bl_step hb2 hb5
      clear hb5
      go_wp2
      go_ret
      exact ⟨rfl, hb⟩
end Go.Proofs.YtahklchfchjmcaaDoor
