/- The teller's lock: the walk. -/
import Derived.Test.YtahklchfchjmcaaDoorTk
import Derived.Deep.QuietTactic
import Derived.Deep.RegionWith
import Derived.Test.YtahklchfchjmcaaDoorEn
namespace Go.Proofs.YtahklchfchjmcaaDoor
set_option linter.unusedVariables false
set_option linter.unusedSimpArgs false
open Go.RowKit Go.MapKept

theorem info_int : (Tryd.prog.info? 3).map (fun i => (i.zero, i.size, i.bytes)) = some (some (.int .i64 0), 1, 8) := by kernel_rfl

def LockOut (w w' : World) (B p bh : Nat) (H : Int → List Int) (stripes : Int) (out : List Acc) (d : Dd) (e : Ending) : Prop :=
  if 0 ≤ d.stripe ∧ d.stripe < stripes ∧ (H d.task).contains d.stripe = false then
    e = .returned (.bool true) ∧ ∃ S', TellOut w w' B p bh S' (fun y => if y = d.task then H d.task ++ [d.stripe] else H y) stripes (out ++ if d.waits then [] else [⟨d.task, 3, lockB d.stripe⟩])
  else e = .returned (.bool false) ∧ Below B w w'

theorem bl_drewN {B : Nat} {w w' : World} (h : Below B w w') (n : Nat) : Below B w (w'.drewN n) := ⟨h.os, h.tape, h.output, h.size, h.block⟩

set_option maxRecDepth 100000 in
set_option maxHeartbeats 4000000 in
theorem lock_any (w : World) (B p bh : Nat) (S : Int → Option Value) (H : Int → List Int) (stripes : Int) (vo : Value) (out : List Acc) (h : Tell w B p bh S H stripes vo out) (htab : ∀ w', Below B w w' → Tab w')
    (d : Dd) (hlen : out.length ≤ 1000000000) (hHl : (H d.task).length ≤ 1000000) (hs : stripes ≤ 1024) :
    Calls Tryd.prog 87 #[.pointer (some ⟨p, 0, none⟩), .agg d.arr] w fun e w' => LockOut w w' B p bh H stripes out d e := by
  have hc0 : ∀ o, (w.alloc o).cell? ⟨p, 0, none⟩ = some (.int .i64 stripes) := fun o => (h.below ((Below.refl _ _).alloc (Nat.le_refl _) o)).c0
  have hc1 : ∀ o, (w.alloc o).cell? ⟨p, 1, none⟩ = some (.map (some bh)) := fun o => (h.below ((Below.refl _ _).alloc (Nat.le_refl _) o)).c1
  have hlk : ∀ o, (Instr.lookup 119 (.map (some bh)) (.int .i64 d.task) false).run Tryd.prog (w.alloc o) = .ok ((S d.task).getD (.slice none 0 0)) (w.alloc o) := fun o => (h.gm.map.alloc o).lookup ikey mapTy_held d.task
  have hlkn : ∀ o n, (Instr.lookup 119 (.map (some bh)) (.int .i64 d.task) false).run Tryd.prog ((w.alloc o).drewN n) = .ok ((S d.task).getD (.slice none 0 0)) ((w.alloc o).drewN n) := fun o n => (show MapAt ienc ((w.alloc o).drewN n) bh S from h.gm.map.alloc o).lookup ikey mapTy_held d.task
  have HT := Lib.hid h
  have HTab := Lib.hid htab
  have HS := Lib.hid hs
  have hp := h.plt
  clear h htab hs
  have hat : ∀ o n, SlAt 1 intCells ((w.alloc o).drewN n) ((S d.task).getD (.slice none 0 0)) (H d.task) := fun o n => (HT.out.gm.at_ ic_len d.task).below (bl_drewN ((Below.refl _ _).alloc (Nat.le_refl _) o) n)
  have HA := Lib.hid hat
  clear hat
  unfold Dd.arr
  by_cases h1 : d.stripe < 0
  · have h1' : decide (d.stripe < 0) = true := by simp [h1]
    go_enter Tryd.func87, Tryd.ntmps87
    go_wp2
    go_quiet (fail)
    go_wp2
    go_ret
    unfold LockOut
    rw [if_neg (by omega)]
    exact ⟨rfl, bl_drewN ((Below.refl _ _).alloc HT.out.hB _) _⟩
  · have h1' : decide (d.stripe < 0) = false := by simp [h1]
    by_cases h2 : d.stripe ≥ stripes
    · have h2' : decide (d.stripe ≥ stripes) = true := by simp [h2]
      go_enter Tryd.func87, Tryd.ntmps87
      go_wp2
      go_quiet (fail)
      go_wp2
      go_ret
      unfold LockOut
      rw [if_neg (by omega)]
      exact ⟨rfl, bl_drewN ((Below.refl _ _).alloc HT.out.hB _) _⟩
    · have h2' : decide (d.stripe ≥ stripes) = false := by simp; omega
      cases h3 : (H d.task).contains d.stripe
      · have H3 := Lib.hid h3
        have hmem : ¬ d.stripe ∈ H d.task := by simpa using h3
        go_enter Tryd.func87, Tryd.ntmps87
        go_wp2
        go_quiet (first | (go_at_call 102; exact Calls.quiet_of_same (contains_any _ _ _ (HA.out _ _) _)))
        go_wp2
        obtain ⟨W, hW⟩ : ∃ W, W = (w.alloc (Obj.cells #[Value.int IntKind.i64 d.task, Value.int IntKind.i64 d.step, Value.int IntKind.i64 d.stripe, Value.bool d.waits, Value.int IntKind.i64 d.next, d.r0, d.r1, d.r2, d.r3, d.r4, d.r5, d.r6, d.r7, d.r8, d.r9, d.r10, d.r11, d.r12] 52)).drewN nq := ⟨_, rfl⟩
        rw [← hW]
        have hbW : Below w.heap.size w W := hW ▸ bl_drewN ((Below.refl _ _).alloc (Nat.le_refl _) _) _
        have hXW : W.heap[w.heap.size]? = some (.cells d.arr 52 (0, 0)) := by rw [hW]; exact heap_alloc_new w _
        have HTW := Lib.hid (HT.out.below hbW)
        have hx0 : W.cell? ⟨w.heap.size, 0, none⟩ = some (.int .i64 d.task) := by simp [World.cell?, hXW, Dd.arr]
        have hx2 : W.cell? ⟨w.heap.size, 2, none⟩ = some (.int .i64 d.stripe) := by simp [World.cell?, hXW, Dd.arr]
        have hp1 := HTW.out.c1
        have hlW : ∀ o, (Instr.lookup 119 (.map (some bh)) (.int .i64 d.task) false).run Tryd.prog (W.alloc o).drew = .ok ((S d.task).getD (.slice none 0 0)) (W.alloc o).drew := fun o => (show MapAt ienc (W.alloc o).drew bh S from HTW.out.gm.map.alloc o).lookup ikey mapTy_held d.task
        have hlW' : (Instr.lookup 119 (.map (some bh)) (.int .i64 d.task) false).run Tryd.prog W.drew = .ok ((S d.task).getD (.slice none 0 0)) W.drew := (show MapAt ienc W.drew bh S from HTW.out.gm.map).lookup ikey mapTy_held d.task
        have HOWN := Lib.hid (HTW.out.gm.own d.task)
        obtain ⟨ii, hi0, hi1, hi2, hi3⟩ := info_parts info_int
        have HXW := Lib.hid hXW
        have HBW := Lib.hid hbW
        have hBw := HTW.out.hB
        clear hW hXW hbW hc0 hc1 hlk hlkn
        go_region_held3 (fun w' => w'.cell? ⟨p, 1, none⟩ = some (.map (some bh)) ∧ w'.cell? ⟨w.heap.size, 0, none⟩ = some (.int .i64 d.task) ∧ w'.cell? ⟨w.heap.size, 2, none⟩ = some (.int .i64 d.stripe)) (go_keep)
          ((refine step_append_lies _ (by rfl) _ _ _ (by rfl) B 3 ii _ 1 8 Tryd.underlying42 hi0 hi1 hi2 hi3 rfl (by omega) ((S d.task).getD (.slice none 0 0)) (H d.task).length ((H d.task).flatMap intCells) (by rfl) ((HOWN.out.alloc _).drew) ⟨W.heap.size, 0, none⟩ 1 1 [.int .i64 d.stripe] (by rfl) (by rfl) (World.news_of_block (cs := #[.int .i64 d.stripe]) (t := 3) (fr := (0, 0)) (heap_alloc_new W _)) (by simp [Value.oneCell']) (by omega) (by simp [maxLen]; omega) (by omega) (by simp; omega) (W.heap.size + 1) (by simp) ?_; intro gg cap1 w6 hown1 hgrow hat hlt1; obtain ⟨w7, hrun7, H7, hq1, hq2, hq3, hq4, hq5, hq6, hq7⟩ := hold_all HTW.out HXW.out hown1 hgrow hat; clear hown1 hgrow hat hlt1))
        all_goals
          cases hwt : d.waits
          · have HWt := Lib.hid hwt
            have hisz := itoaB_size d.stripe (by omega) (by have := HS.out; omega)
            go_wp2
            go_region_with (first
                | (go_at_call 103; refine (itoa_any _ (HTab.out _ (Below.drew ((HBW.out.mono HT.out.hB).trans H7.out.2))) d.stripe (by omega) (by have := HS.out; omega)).mono ?_; rintro e w8 ⟨rfl, hb8⟩; have HB8 : Hid (Below w7.heap.size w7 w8) := ⟨hb8.os, hb8.tape, hb8.output, hb8.size, hb8.block⟩; have hy0 := cell_below HB8.out hq5; have hy2 := cell_below HB8.out hq6; clear hb8)
                | (go_at_call 90; refine (add_any _ B p bh _ _ stripes vo out (H7.out.1.below (by first | exact HB8.out | exact HB8.out.drew)) hlen d.task 3 _).mono ?_; rintro e w9 ⟨rfl, hT9⟩; have HT9 := Lib.hid hT9; clear hT9))
            all_goals
              go_wp2
              go_ret
              obtain ⟨vo9, h9, hb9, _⟩ := HT9.out
              unfold LockOut
              rw [if_pos ⟨by omega, by omega, H3.out⟩, HWt.out]
              have hb9' : Below B w8 w9 := ⟨hb9.os, hb9.tape, hb9.output, hb9.size, hb9.block⟩
              exact ⟨rfl, _, vo9, h9, (((HBW.out.mono HT.out.hB).trans H7.out.2).trans (HB8.out.mono H7.out.1.hB)).trans hb9'⟩
          · have HWt := Lib.hid hwt
            go_wp2
            go_ret
            unfold LockOut
            rw [if_pos ⟨by omega, by omega, H3.out⟩, HWt.out]
            exact ⟨rfl, _, _, by simpa using H7.out.1, (HBW.out.mono HT.out.hB).trans H7.out.2⟩
      · have hmem : d.stripe ∈ H d.task := by simpa using h3
        have H3 := Lib.hid h3
        go_enter Tryd.func87, Tryd.ntmps87
        go_wp2
        go_quiet (first | (go_at_call 102; exact Calls.quiet_of_same (contains_any _ _ _ (HA.out _ _) _)))
        go_wp2
        go_ret
        unfold LockOut
        rw [if_neg (by rw [H3.out]; simp)]
        exact ⟨rfl, bl_drewN ((Below.refl _ _).alloc HT.out.hB _) _⟩
end Go.Proofs.YtahklchfchjmcaaDoor
