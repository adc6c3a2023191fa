/- The teller's unlock: the walk. -/
import Derived.Test.YtahklchfchjmcaaDoorTu
import Derived.Test.YtahklchfchjmcaaDoorTq
import Derived.Test.YtahklchfchjmcaaDoorRx
namespace Go.Proofs.YtahklchfchjmcaaDoor
set_option linter.unusedVariables false
set_option linter.unusedSimpArgs false
open Go.RowKit Go.MapKept

def nextOk (n : Int) : Prop := n = -1 ∨ (0 ≤ n ∧ n ≤ 9999)
def UnlockOut (w w' : World) (B p bh : Nat) (H : Int → List Int) (stripes : Int) (out : List Acc) (d : Dd) (e : Ending) : Prop :=
  (d.stripe ∈ H d.task ∧ nextOk d.next ∧ e = .returned (.bool true) ∧ ∃ S', TellOut w w' B p bh S' (fun y => if y = d.task then without (H d.task) d.stripe else H y) stripes (out ++ ([⟨d.task, 4, lockB d.stripe⟩] ++ if 0 ≤ d.next then [⟨d.next, 3, lockB d.stripe⟩] else []))) ∨
  (¬ (d.stripe ∈ H d.task ∧ nextOk d.next) ∧ e = .returned (.bool false) ∧ Below B w w')

theorem clone_w (W : World) (v : Value) (l : List Int) (h : SlAt 1 intCells W v l) (h0 : 0 < l.length) (hbig : l.length ≤ 1000000) :
    Calls Tryd.prog 106 #[v] W.drew fun e w' => ∃ g cap, e = .returned (.slice (some ⟨g, 0, none⟩) l.length cap) ∧ w'.ownsRow W.heap.size 3 1 (.slice (some ⟨g, 0, none⟩) l.length cap) l.length (l.map (Value.int .i64)) ∧ Below W.heap.size W w' :=
  (clone_any W.drew v l (h.below (Below.refl _ _).drew) h0 hbig).mono fun e w' ⟨g, cap, h1, h2, h3⟩ => ⟨g, cap, h1, h2, (Below.refl _ _).drew.trans h3⟩

theorem delete_w (W w5 : World) (g cap : Nat) (l : List Int) (i : Nat) (h : w5.ownsRow W.heap.size 3 1 (.slice (some ⟨g, 0, none⟩) l.length cap) l.length (l.map (Value.int .i64))) (hb : Below W.heap.size W w5) (hi : i < l.length) {x : Int} (hnd : l.Nodup) (hli : l[i]? = some x) :
    Calls Tryd.prog 105 #[.slice (some ⟨g, 0, none⟩) l.length cap, .int .i64 i, .int .i64 ((i : Int) + 1)] w5 fun e w' => e = .returned (.slice (some ⟨g, 0, none⟩) (l.length - 1) cap) ∧
      w'.ownsRow W.heap.size 3 1 (.slice (some ⟨g, 0, none⟩) (l.length - 1) cap) (l.length - 1) ((without l x).map (Value.int .i64)) ∧ W.grownBy w' none :=
  (delete_any w5 W.heap.size g cap l i h hi).mono fun e w' ⟨h1, h2, hg⟩ => ⟨h1, by rw [without_erase hnd hli]; exact h2, by
    have hge : W.heap.size ≤ g := (own_block h rfl).1
    refine ⟨hg.os.trans hb.os, hg.tape.trans hb.tape, hg.output.trans hb.output, Nat.le_trans hb.size hg.size, fun k hk _ => ?_⟩
    exact (hg.block k (Nat.lt_of_lt_of_le hk hb.size) (fun e => by injection e with e; omega)).trans (hb.block k hk)⟩
theorem without_len {l : List Int} {x : Int} {i : Nat} (hi : i < l.length) (hnd : l.Nodup) (hli : l[i]? = some x) : l.length - 1 = (without l x).length := by
  rw [without_erase hnd hli]; simp; omega

set_option maxRecDepth 100000 in
set_option maxHeartbeats 4000000 in
theorem unlock_any (w : World) (B p bh : Nat) (S : Int → Option Value) (H : Int → List Int) (stripes : Int) (vo : Value) (out : List Acc) (h : Tell w B p bh S H stripes vo out) (htab : ∀ w', Below B w w' → Tab w')
    (d : Dd) (hlen : out.length ≤ 900000000) (hHl : (H d.task).length ≤ 1000000) (hnd : (H d.task).Nodup) (hHs : ∀ s ∈ H d.task, 0 ≤ s ∧ s < 1024) :
    Calls Tryd.prog 88 #[.pointer (some ⟨p, 0, none⟩), .agg d.arr] w fun e w' => UnlockOut w w' B p bh H stripes out d e := by
  have hc1 : ∀ o, (w.alloc o).cell? ⟨p, 1, none⟩ = some (.map (some bh)) := fun o => (h.below ((Below.refl _ _).alloc (Nat.le_refl _) o)).c1
  have hlkn : ∀ o n, (Instr.lookup 119 (.map (some bh)) (.int .i64 d.task) false).run Tryd.prog ((w.alloc o).drewN n) = .ok ((S d.task).getD (.slice none 0 0)) ((w.alloc o).drewN n) := fun o n => (show MapAt ienc ((w.alloc o).drewN n) bh S from h.gm.map.alloc o).lookup ikey mapTy_held d.task
  have HT := Lib.hid h
  have HTab := Lib.hid htab
  have HND := Lib.hid (And.intro hnd hHs)
  have hp := h.plt
  clear h htab hnd hHs
  have hat : ∀ o n, SlAt 1 intCells ((w.alloc o).drewN n) ((S d.task).getD (.slice none 0 0)) (H d.task) := fun o n => (HT.out.gm.at_ ic_len d.task).below (bl_drewN ((Below.refl _ _).alloc (Nat.le_refl _) o) n)
  have HA := Lib.hid hat
  clear hat
  unfold Dd.arr
  by_cases hmem : d.stripe ∈ H d.task
  · obtain ⟨i, hidx, hilt, hli⟩ := idx_found hmem
    have hix : ∀ o n, Calls Tryd.prog 104 #[(S d.task).getD (.slice none 0 0), .int .i64 d.stripe] ((w.alloc o).drewN n) fun e w' => e = .returned (.int .i64 i) ∧ w' = ((w.alloc o).drewN n) := fun o n => hidx ▸ index_any _ _ _ (HA.out o n) _
    have HIX := Lib.hid hix
    have HI := Lib.hid (And.intro hilt (And.intro hli hmem))
    have hr0 := HND.out.2 _ hmem
    have hi0 : decide ((i : Int) < 0) = false := by simp
    have hwr : IntKind.i64.wrap ((i : Int) + 1) = (i : Int) + 1 := by rw [IntKind.wrap_i64]; omega
    have HWR := Lib.hid hwr
    clear hwr
    clear hidx hli hmem hix
    by_cases hnx : nextOk d.next
    · have HNX := Lib.hid hnx
      have hcases : (Hid (d.next = -1) ∧ (d.next != -1) = false ∧ decide (d.next ≥ 0) = false) ∨ ((d.next != -1) = true ∧ decide (d.next ≥ 0) = true ∧ Hid (0 ≤ d.next ∧ d.next ≤ 9999)) := by
        rcases hnx with h | h
        · exact .inl ⟨Lib.hid h, by simp [h], by simp [h]⟩
        · exact .inr ⟨by simp; omega, by simp; omega, Lib.hid h⟩
      clear hnx
      go_enter Tryd.func88, Tryd.ntmps88
      go_wp2
      go_quiet (first | (go_at_call 104; exact Calls.quiet_of_same (HIX.out _ _)))
      have hisz := itoaB_size d.stripe (by omega) (by omega)
      obtain ⟨ii, hi0, hi1, hi2, hi3⟩ := info_parts info_int
      rcases hcases with ⟨HQ, hqb, hn0⟩ | ⟨hqb, hn0, HQ⟩
      rotate_left
      go_wp2_with fail
      refine (task_yes d.next _ HQ.out).mono ?_
      rintro e w' ⟨rfl, rfl⟩
      all_goals
        go_wp2
        obtain ⟨W, hW⟩ : ∃ W, W = (w.alloc (Obj.cells #[Value.int IntKind.i64 d.task, Value.int IntKind.i64 d.step, Value.int IntKind.i64 d.stripe, Value.bool d.waits, Value.int IntKind.i64 d.next, d.r0, d.r1, d.r2, d.r3, d.r4, d.r5, d.r6, d.r7, d.r8, d.r9, d.r10, d.r11, d.r12] 52)).drewN nq := ⟨_, rfl⟩
        have hbW : Below w.heap.size w W := hW ▸ bl_drewN ((Below.refl _ _).alloc (Nat.le_refl _) _) _
        have hXW : W.heap[w.heap.size]? = some (.cells d.arr 52 (0, 0)) := by rw [hW]; exact heap_alloc_new w _
        rw [← hW]
        have HTW := Lib.hid (HT.out.below hbW)
        have hx0 : W.cell? ⟨w.heap.size, 0, none⟩ = some (.int .i64 d.task) := by simp [World.cell?, hXW, Dd.arr]
        have hp1 := HTW.out.c1
        have hlW' : (Instr.lookup 119 (.map (some bh)) (.int .i64 d.task) false).run Tryd.prog W.drew = .ok ((S d.task).getD (.slice none 0 0)) W.drew := (show MapAt ienc W.drew bh S from HTW.out.gm.map).lookup ikey mapTy_held d.task
        have HATW : Hid (SlAt 1 intCells W ((S d.task).getD (.slice none 0 0)) (H d.task)) := HTW.out.gm.at_ ic_len d.task
        have HXW := Lib.hid hXW
        have HBW := Lib.hid hbW
        have hBw := HTW.out.hB
        have hpos : 0 < (H d.task).length := by omega
        have HLW := Lib.hid (without_len HI.out.1 HND.out.1 HI.out.2.1)
        clear hW hXW hbW hc1 hlkn
        go_region_held3 (fun w' => w'.cell? ⟨p, 1, none⟩ = some (.map (some bh)) ∧ w'.cell? ⟨w.heap.size, 0, none⟩ = some (.int .i64 d.task)) (go_keep)
          (first
            | (go_at_call 106; refine (clone_w W _ (H d.task) HATW.out hpos hHl).mono ?_; rintro e w5 ⟨g5, cap5, rfl, ho5, hb5⟩; have hp5 := cell_below hb5 hp1; have hx5 := cell_below hb5 hx0; have HO5 := Lib.hid (And.intro ho5 hb5); clear ho5 hb5)
            | (go_at_call 105; rw [HWR.out]; refine (delete_w W w5 g5 cap5 (H d.task) i HO5.out.1 HO5.out.2 HI.out.1 HND.out.1 HI.out.2.1).mono ?_; rintro e w6 ⟨rfl, ho6, hg6⟩; obtain ⟨w7, hrun7, H7, hq1, hq2, hq3, hq4, hq5, hq6⟩ := drop_all (x := d.task) HTW.out HXW.out HLW.out hg6 ho6; clear ho6 hg6))
        all_goals
          go_wp2_with fail
          refine (itoa_any _ (HTab.out _ ((HBW.out.mono HT.out.hB).trans H7.out.2.1)) d.stripe (by omega) (by omega)).mono ?_
          rintro e w8 ⟨rfl, hb8⟩
          have hX8 := (Kp.below hb8) _ _ H7.out.2.2
          have hy0 : w8.cell? ⟨w.heap.size, 0, none⟩ = some (.int .i64 d.task) := by simp [World.cell?, hX8, Dd.arr]
          have HB8 := Lib.hid hb8
          have HX8 := Lib.hid hX8
          clear hb8 hX8 hq1 hq2 hq3 hq4 hq5 hq6
          go_wp2_with fail
          refine (add_any w8 B p bh _ _ stripes vo out (H7.out.1.below HB8.out) (by omega) d.task 4 _).mono ?_
          rintro e w9 ⟨rfl, vo9, h9, hb9, hk9⟩
          have hX9 := hk9 _ _ HX8.out
          have hz4 : w9.cell? ⟨w.heap.size, 4, none⟩ = some (.int .i64 d.next) := by simp [World.cell?, hX9, Dd.arr]
          have H9 := Lib.hid (And.intro h9 (And.intro (((HBW.out.mono HT.out.hB).trans H7.out.2.1).trans (HB8.out.mono H7.out.1.hB) |>.trans hb9) hX9))
          clear h9 hb9 hk9 hX9 hy0
          go_wp2_with fail
          first
            | (go_ret
               refine .inl ⟨HI.out.2.2, HNX.out, rfl, upd S d.task (.slice (some ⟨g5, 0, none⟩) ((H d.task).length - 1) cap5), vo9, ?_, H9.out.2.1⟩
               rw [if_neg (by rw [HQ.out]; omega), List.append_nil]
               exact H9.out.1)
            | (refine (add_any w9 B p bh _ _ stripes vo9 _ H9.out.1 (by simp; omega) d.next 3 _).mono ?_
               rintro e w10 ⟨rfl, vo10, h10, hb10, hk10⟩
               have H10 := Lib.hid (And.intro h10 (H9.out.2.1.trans hb10))
               clear h10 hb10 hk10
               go_wp2
               go_ret
               refine .inl ⟨HI.out.2.2, HNX.out, rfl, upd S d.task (.slice (some ⟨g5, 0, none⟩) ((H d.task).length - 1) cap5), vo10, ?_, H10.out.2⟩
               rw [if_pos HQ.out.1, ← List.append_assoc]
               exact H10.out.1)
    · have HNX := Lib.hid hnx
      have hqb : (d.next != -1) = true := by
        have : d.next ≠ -1 := fun h => hnx (.inl h)
        simp [this]
      have hq : ¬ (0 ≤ d.next ∧ d.next ≤ 9999) := fun h => hnx (.inr h)
      clear hnx
      go_enter Tryd.func88, Tryd.ntmps88
      go_wp2
      go_quiet (first | (go_at_call 104; exact Calls.quiet_of_same (HIX.out _ _)))
      go_wp2_with fail
      refine (task_no d.next _ hq).mono ?_
      rintro e w' ⟨rfl, rfl⟩
      go_wp2
      go_ret
      exact .inr ⟨fun h => HNX.out h.2, rfl, bl_drewN ((Below.refl _ _).alloc HT.out.hB _) _⟩
  · have HM := Lib.hid hmem
    have hix : ∀ o n, Calls Tryd.prog 104 #[(S d.task).getD (.slice none 0 0), .int .i64 d.stripe] ((w.alloc o).drewN n) fun e w' => e = .returned (.int .i64 (-1)) ∧ w' = ((w.alloc o).drewN n) := fun o n => idx_none hmem ▸ index_any _ _ _ (HA.out o n) _
    have HIX := Lib.hid hix
    clear hix hmem
    go_enter Tryd.func88, Tryd.ntmps88
    go_wp2
    go_quiet (first | (go_at_call 104; exact Calls.quiet_of_same (HIX.out _ _)))
    go_wp2
    go_ret
    exact .inr ⟨fun h => HM.out h.1, rfl, bl_drewN ((Below.refl _ _).alloc HT.out.hB _) _⟩
end Go.Proofs.YtahklchfchjmcaaDoor
