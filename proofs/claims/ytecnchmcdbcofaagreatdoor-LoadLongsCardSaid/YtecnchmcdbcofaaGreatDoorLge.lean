/- load.Tally at merges. -/
import Derived.Test.YtecnchmcdbcofaaGreatDoorLgd
import Derived.Deep.LoopGhost
import Derived.Carry
set_option linter.unusedVariables false
set_option linter.unusedSimpArgs false
namespace Go.Proofs.YtecnchmcdbcofaaGreatDoor
open Go.RowKit Go.MapKept
section
variable {P : Program} {ops : Array Oper} {Q : Exit → Act → World → Prop} {a : Act} {w : World} {rest : List Oper} {o : Oper}
theorem wpList_mapUpdate_eq (hw : Region.wanted o (yielded ops a.tmps) = true) (m x v : Operand) (t : TypeId) (hop : o.op = Op.mapUpdate t m x v) (pm px pv : Value) (hm : a.eval m = pm) (hx : a.eval x = px) (hv : a.eval v = pv) {w' : World}
    (hrun : (Instr.mapUpdate t pm px pv).run P w = .ok () w') (hK : wpList P ops Q rest (a.put o.dst undef) w') : wpList P ops Q (o :: rest) a w := by
  refine wpList_skips hw (w' := w') ?_ hK
  simp [execOp, hop, hm, hx, hv, hrun, Result.andThen]
end
theorem keys_any (w : World) (b : Nat) : Calls Tryz.prog 62 #[.map (some b)] w fun e w' => e = .returned (.func (.func 113) #[] #[.pointer (some ⟨w.heap.size, 0, none⟩)]) ∧ w' = w.alloc (.cells #[.map (some b)] 133) := by
  go_enter Tryz.func62, Tryz.ntmps62
  go_wp2_with fail
  go_ret
  exact ⟨rfl, rfl⟩
theorem sorted_one (w : World) (bm b k : Nat) (hbm : w.cell? ⟨bm, 0, none⟩ = some (.map (some b))) (h : MapOne w b (k + 1)) :
    Calls Tryz.prog 61 #[.func (.func 113) #[] #[.pointer (some ⟨bm, 0, none⟩)]] w fun e w' => (∃ g cap, e = .returned (.slice (some ⟨g, 0, none⟩) 1 cap) ∧ 1 ≤ cap ∧ cap ≤ 9223372036854775807 ∧ w'.cell? ⟨g, 0, none⟩ = some (.int .i64 0)) ∧ Below w.heap.size w w' := by
  obtain ⟨D0, o1, o2, o3⟩ := Ax.owns_of (P := Tryz.prog) (k := Tryz.keysA_ren.t 26) (ks := [0]) Tryz.keysA.t26 h (one_mes { blk := fun _ => none, sym := fun _ => none } (k + 1)) (by kernel_rfl) (by kernel_rfl) (by kernel_rfl) (by decide)
  refine (sorted_keys bm b 1 D0 _ w hbm o1 (by rw [o2]; decide) (by rw [o2]; decide)).mono ?_
  rintro e w' ⟨v, ss, rfl, hp, hr, _, hbl⟩
  have hs : ss = [0] := List.perm_singleton.1 (hp.trans o3)
  subst hs
  refine ⟨?_, hbl⟩
  rcases hr.2 with ⟨_, h0⟩ | ⟨g, cap, cur, rfl, hg, hb, hc, hm, hsz, ht⟩
  · cases h0
  · refine ⟨g, cap, rfl, hc, by simpa [maxLen] using hm, ?_⟩
    have h1 : cur.toList[0]? = some (.int .i64 0) := by
      have h2 : (cur.toList.take 1)[0]? = some (.int .i64 0) := by
        have h3 : cur.toList.take ([(0 : Int)].length * 1) = _ := ht
        rw [show [(0 : Int)].length * 1 = 1 from rfl] at h3
        rw [h3]
        first | rfl | kernel_rfl | simp [encZ]
      rw [List.getElem?_take_of_lt (by decide)] at h2
      exact h2
    simp only [World.cell?, hb]
    simpa using h1
theorem own_two {W : World} {B e g cap : Nat} {x y : Value} (h : W.ownsRow B e 2 (.slice (some ⟨g, 0, none⟩) 1 cap) 1 [x, y]) : 1 ≤ cap ∧ cap ≤ 9223372036854775807 ∧ W.cell? ⟨g, 0, none⟩ = some x ∧ W.cell? ⟨g, 1, none⟩ = some y := by
  rcases h.2 with ⟨h0, _⟩ | ⟨g', cap', cur, e', hg, hb, hc, hm, hsz, ht⟩
  · cases h0
  · injection e' with e1 e2 e3
    injection e1 with e1
    injection e1 with e1
    subst e1; subst e3
    have h1 : ∀ i, i < 2 → cur.toList[i]? = [x, y][i]? := fun i hi => by
      rw [← ht, List.getElem?_take_of_lt (by omega)]
    have h0 := h1 0 (by omega)
    have h2 := h1 1 (by omega)
    refine ⟨hc, by simpa [maxLen] using hm, ?_, ?_⟩
    · simp only [World.cell?, hb]
      simpa using h0
    · simp only [World.cell?, hb]
      simpa using h2
theorem info_cnt : (Tryz.prog.info? 51).map (fun i => (i.zero, i.size, i.bytes)) = some (some (.agg #[.int .i64 0, .int .i64 0]), 2, 16) := by kernel_rfl
def TallyE (w : World) (N : Nat) (e : Ending) : Prop := ∃ g cap, e = .returned (.tuple #[.slice (some ⟨g, 0, none⟩) 1 cap, .int .i64 0]) ∧ g < w.heap.size ∧ 1 ≤ cap ∧ cap ≤ 9223372036854775807 ∧ w.cell? ⟨g, 0, none⟩ = some (.int .i64 0) ∧ w.cell? ⟨g, 1, none⟩ = some (.int .i64 (N : Int))
set_option maxRecDepth 100000 in
set_option maxHeartbeats 4000000 in
theorem tally_any (w : World) (A : Option Addr) (N cap : Nat) (h : CallsAt w (.slice A N cap) (mgs N)) (h1 : 1 ≤ N) (h2 : N ≤ 20000) (hE : Env w) : Calls Tryz.prog 26 #[.agg ⟨cfgL⟩, .slice A N cap] w fun e w' => TallyE w' N e ∧ Below w.heap.size w w' := by
  have HCK : Hid (∀ W, Below w.heap.size w W → Calls Tryz.prog 56 #[.slice A N cap] W fun e w' => e = .returned (.int .i64 0) ∧ Below W.heap.size W w') := Lib.hid fun W hW => by
    have := lcheck_any W _ (mgs N) (SlAt.below h hW) (by rw [mgs_len]; exact h2) (mgs_light N) (hE.below hW)
    rw [mgs_ok] at this
    exact this
  have HNN : Hid (∀ W, Below w.heap.size w W → Calls Tryz.prog 16 #[.agg ⟨cfgL⟩] W fun e w' => (∃ v, e = .returned (.tuple #[v, .int .i64 0]) ∧ NodeOk w' v) ∧ Below W.heap.size W w') := Lib.hid fun W hW => node_new W (hE.below hW)
  have HDO : Hid (∀ W v, NodeOk W v → Calls Tryz.prog 17 #[v, .agg ⟨mergeL⟩] W fun e w' => e = .returned ansV ∧ Below W.heap.size W w') := Lib.hid fun W v hv => node_do W v hv
  have HE := Lib.hid hE
  have HH := Lib.hid h
  have H1 := Lib.hid h1
  have H2 := Lib.hid h2
  have hcap : N ≤ cap ∧ cap ≤ 9223372036854775807 := by
    obtain ⟨A', cap', e, g1, g2, _⟩ := id h
    injection e with e1 e2 e3
    subst e3
    rw [mgs_len] at g1
    exact ⟨g1, g2⟩
  have HNG : Hid (gv.ng ≤ w.heap.size) := Lib.hid (by obtain ⟨m, _, hs⟩ := hE; exact hs)
  clear h hE h1 h2
  unfold mergeL ansV ansL at HDO
  unfold cfgL at HNN ⊢
  have hmm := @run_makeMap Tryz.prog
  go_enter Tryz.func26, Tryz.ntmps26
  go_wp2_with (first | (go_at_call 56; refine (HCK.out _ (below_alloc _ _)).mono ?_; rintro e w1 ⟨rfl, hb⟩; have HB1 := Lib.hid hb; have q0 : w1.cell? ⟨w.heap.size, 0, none⟩ = some (.int .i64 1) := cell_below hb (new_cells w _ _ 0); have q1 : w1.cell? ⟨w.heap.size, 1, none⟩ = some (.int .i64 2) := cell_below hb (new_cells w _ _ 1); have q2 : w1.cell? ⟨w.heap.size, 2, none⟩ = some (.int .i64 4) := cell_below hb (new_cells w _ _ 2); have q3 : w1.cell? ⟨w.heap.size, 3, none⟩ = some (.int .i64 4) := cell_below hb (new_cells w _ _ 3); clear hb) | (go_at_call 16; refine (HNN.out _ (nbl_step (below_alloc _ _) HB1.out)).mono ?_; rintro e w2 ⟨⟨nv, rfl, hno⟩, hb⟩; have HNO := Lib.hid hno; have HB2 := Lib.hid hb; clear hno hb))
  clear hmm q0 q1 q2 q3
  have HBB : Hid (Below w.heap.size w w2) := Lib.hid (nbl_step (nbl_step (below_alloc _ _) HB1.out) HB2.out)
  have ha : Below w2.heap.size w2 (w2.alloc (.map #[] 0)) := below_alloc _ _
  have hm0 : MapOne (w2.alloc (.map #[] 0)) w2.heap.size 0 := one_new w2
  obtain ⟨b, hb⟩ : ∃ b, w2.heap.size = b := ⟨_, rfl⟩
  have HBE : Hid (w2.heap.size = b) := Lib.hid hb
  rw [hb] at hm0 ⊢
  clear hb HB1 HB2
  generalize (w2.alloc (.map #[] 0)) = w3 at *
  go_loopg [33] N (fun gf u wx => ∃ i : Nat, u = .int .i64 (i : Int) ∧ i + gf = N ∧ MapOne wx b i ∧ Below w2.heap.size w2 wx)
  case atStart => exact ⟨0, rfl, by omega, hm0, ha⟩
  case round =>
    clear hm0 ha
    obtain ⟨i, rfl, hi, hm, hbw⟩ := hrel
    have HM := Lib.hid hm
    have HW := Lib.hid hbw
    have HWW : Hid (Below w.heap.size w wr) := Lib.hid (nbl_step HBB.out hbw)
    clear hm hbw
    by_cases hlt : i < N
    · obtain ⟨g', rfl⟩ : ∃ g', gk = g' + 1 := ⟨gk - 1, by omega⟩
      obtain ⟨bb, off, rfl, c0, c1, c2, c3, c4, c5⟩ := CallsAt.row (SlAt.below HH.out HWW.out) (mgs_at hlt)
      dsimp only [mgV] at c0 c1 c2 c3 c4 c5
      have hi2 : i < 20000 := by have := H2.out; omega
      go_wp2_with (first | (go_at_call 17; refine (HDO.out _ nv (HNO.out.below (nbl_al HW.out))).mono ?_; rintro e w5 ⟨rfl, hb5⟩; have HB5 := Lib.hid hb5; have hm7 : MapOne (w5.alloc (.cells #[.int .i64 9, .int .i64 0, .int .i64 0, .slice none 0 0, .slice none 0 0] 46)) b i := ((HM.out.below (below_alloc _ _)).below hb5).below (below_alloc _ _); have hlk := look_any hm7; have HLK := Lib.hid hlk; obtain ⟨w7, hup, hm8, hk8⟩ := count_any (HE.out.below (nbl_al (nbl_step (nbl_al HWW.out) hb5))) (by have h1 := HNG.out; have h2 := HBB.out.size; have h3 := HBE.out; omega) hm7; have HUP := Lib.hid hup; have HM8 := Lib.hid hm8; have HK8 := Lib.hid hk8; clear hb5 hm7 hlk hup hm8 hk8) | (refine wpList_lookup_eq (by rfl) (.tmp 46) (.tmp 48) 133 false (by rfl) _ _ _ (by rfl) (by rfl) HLK.out ?_) | (refine wpList_mapUpdate_eq (by rfl) (.tmp 46) (.tmp 48) (.tmp 50) 133 (by rfl) _ _ _ (by rfl) (by rfl) (by rfl) HUP.out ?_))
      go_roundg g'
      case measure => omega
      case rel =>
        have hb8 : Below w2.heap.size w2 (w5.alloc (.cells #[.int .i64 9, .int .i64 0, .int .i64 0, .slice none 0 0, .slice none 0 0] 46)) := nbl_al (nbl_step (nbl_al HW.out) HB5.out)
        exact ⟨i + 1, by first | rfl | go_num, by omega, HM8.out, hb8.trans (HK8.out.below (by rw [HBE.out]; exact Nat.le_refl _) hb8.size)⟩
    · have e : i = N := by omega
      subst e
      obtain ⟨k, rfl⟩ : ∃ k, i = k + 1 := ⟨i - 1, by have := H1.out; omega⟩
      have hk2 : k < 20000 := by have := H2.out; omega
      clear HNN HDO HCK HNO HH
      obtain ⟨ic, hi0, hi1, hi2, hi3⟩ := info_parts info_cnt
      go_wp2_with (first | (go_at_call 62; refine (keys_any _ b).mono ?_; rintro e w8 ⟨rfl, hw8⟩; have HB8 : Hid (Below wr.heap.size wr w8) := Lib.hid (by rw [hw8]; exact below_alloc _ _); have HBM : Hid (w8.cell? ⟨wr.heap.size, 0, none⟩ = some (.map (some b))) := Lib.hid (by rw [hw8]; exact new_cells _ _ _ 0); clear hw8) | (go_at_call 61; refine (sorted_one _ _ b k HBM.out (HM.out.below HB8.out)).mono ?_; rintro e w9 ⟨⟨g, cp, rfl, hc1, hc2, hg0⟩, hb9⟩; have HB9 := Lib.hid (nbl_step HB8.out hb9); have HG0 := Lib.hid hg0; clear hb9 hg0))
      have HM9 : Hid (MapOne w9 b (k + 1)) := Lib.hid (HM.out.below HB9.out)
      have HW9 : Hid (Below w.heap.size w w9) := Lib.hid (nbl_step HWW.out HB9.out)
      clear HM HW HWW HBM HB8 HB9
      go_loopg [14, 56] 1 (fun gf u14 u56 wx => ∃ j : Nat, u56 = .int .i64 (j : Int) ∧ j + gf = 1 ∧ Below w9.heap.size w9 wx ∧ (j = 0 ∧ u14 = .slice none 0 0 ∨ j = 1 ∧ ∃ gg cp2, u14 = .slice (some ⟨gg, 0, none⟩) 1 cp2 ∧ gg < wx.heap.size ∧ 1 ≤ cp2 ∧ cp2 ≤ 9223372036854775807 ∧ wx.cell? ⟨gg, 0, none⟩ = some (.int .i64 0) ∧ wx.cell? ⟨gg, 1, none⟩ = some (.int .i64 ((k : Int) + 1))))
      case atStart => exact ⟨0, rfl, by omega, Below.refl _ _, .inl ⟨rfl, rfl⟩⟩
      case round =>
        obtain ⟨j, rfl, hj, hbx, hcase⟩ := hrel
        have HBX := Lib.hid hbx
        clear hbx
        rcases hcase with ⟨rfl, rfl⟩ | ⟨rfl, gg, cp2, rfl, hgg, hp1, hp2, hg1, hg2⟩
        · obtain ⟨g', rfl⟩ : ∃ g', gk = g' + 1 := ⟨gk - 1, by omega⟩
          have hg0 : wr.cell? ⟨g, 0, none⟩ = some (.int .i64 0) := cell_below HBX.out HG0.out
          have HLK := Lib.hid (look_any (HM9.out.below HBX.out))
          go_wp2_with (first | (refine wpList_lookup_eq (by rfl) (.tmp 62) (.tmp 63) 133 false (by rfl) _ _ _ (by rfl) (by rfl) HLK.out ?_) | (at_builtin; refine wpList_append_lies _ rfl (.tmp 60) (.tmp 66) _ rfl w9.heap.size 51 ic _ 2 16 Tryz.underlying49 hi0 hi1 hi2 hi3 rfl (by omega) (.slice none 0 0) 0 [] rfl ⟨rfl, .inl ⟨rfl, rfl⟩⟩ ⟨wr.heap.size, 0, none⟩ 1 1 [.int .i64 0, .int .i64 ((k + 1 : Nat) : Int)] rfl rfl (World.news_of_block (cs := #[.int .i64 0, .int .i64 ((k + 1 : Nat) : Int)]) (t := 51) (fr := (0, 0)) (heap_alloc_new _ _)) (by simp [Value.oneCell']) (by omega) (by simp [maxLen]) (by omega) (by have := HBX.out.size; simp; omega) (wr.heap.size + 1) (by simp) ?_; intro gg cap1 w6 hown1 hgrow hat hlt1; have HOW := Lib.hid hown1; have HGR := Lib.hid hgrow; have HLT := Lib.hid hlt1; clear hown1 hgrow hat hlt1))
          go_roundg g'
          case measure => omega
          case rel =>
            obtain ⟨p1, p2, p3, p4⟩ := own_two HOW.out
            exact ⟨1, rfl, by omega, Below.grown (nbl_al HBX.out) HGR.out (nbl_al HBX.out).size (fun k hk => by cases hk), .inr ⟨rfl, gg, cap1, rfl, HLT.out, p1, p2, p3, p4⟩⟩
        · go_wp2_with fail
          go_ret2
          exact ⟨⟨gg, cp2, rfl, hgg, hp1, hp2, hg1, hg2⟩, nbl_step HW9.out HBX.out⟩
end Go.Proofs.YtecnchmcdbcofaaGreatDoor
