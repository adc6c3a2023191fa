/- What Check of package race returns: the walk. -/
import Derived.Test.YtahklchfchjmcaaDoorCi
namespace Go.Proofs.YtahklchfchjmcaaDoor
set_option linter.unusedVariables false
set_option linter.unusedSimpArgs false
open Go.RowKit Go.MapKept

/-- What Check returns. -/
def ChkOut (w w' : World) (l : List Acc) (e : Ending) : Prop :=
  ∃ f s er, e = .returned (.tuple #[.int .i64 f, .int .i64 s, .int .i64 er]) ∧ (if wrongF l ≠ 0 then f = 0 ∧ s = 0 ∧ er = wrongF l else er = 0 ∧ CheckIs l f s) ∧ Below w.heap.size w w'

set_option maxRecDepth 100000 in
set_option maxHeartbeats 400000 in
theorem check_wrong (w : World) (v : Value) (l : List Acc) (hl : AccAt w v l) (hw : wrongF l ≠ 0) :
    Calls Tryd.prog 25 #[v] w fun e w' => ChkOut w w' l e := by
  have hne : (wrongF l != 0) = true := by simp [hw]
  have hne' : ¬ wrongF l = 0 := hw
  have HW := Lib.hid hw
  have HL := Lib.hid hl
  clear hw hl
  go_enter Tryd.func25, Tryd.ntmps25
  go_wp2_with (go_at_call 47; refine (wrong_any w v l HL.out).mono ?_; rintro e w1 ⟨rfl, hb⟩)
  go_ret3
  exact ⟨0, 0, wrongF l, rfl, by rw [if_pos HW.out]; exact ⟨rfl, rfl, rfl⟩, hb⟩

/-- The round's variable is as it was laid. -/
theorem ck_x {wr w2 : World} {F : Nat → Prop} {t k : Int} {x : ByteArray} {ty : TypeId} (hfr : Fr (wr.alloc (.cells #[.int .i64 t, .int .i64 k, .string x] ty)) w2 F) (hF : ¬ F wr.heap.size) :
    w2.cell? ⟨wr.heap.size, 0, none⟩ = some (.int .i64 t) ∧ w2.cell? ⟨wr.heap.size, 1, none⟩ = some (.int .i64 k) ∧ w2.cell? ⟨wr.heap.size, 2, none⟩ = some (.string x) :=
  ⟨hfr.cell (World.cell?_alloc_new wr _ _ _) hF, hfr.cell (World.cell?_alloc_new wr _ _ _) hF, hfr.cell (World.cell?_alloc_new wr _ _ _) hF⟩

theorem tch_upd {l : List Acc} {m : Nat} {t k : Int} {x : ByteArray} (h : l[m]? = some ⟨t, k, x⟩) (kd : Int) (hk : k = kd) (c : Int) (hc : c = cnt l (m + 1) t) (y : ByteArray) :
    (open Classical in if y = x then tch l m kd x ++ [⟨m, t, c⟩] else tch l m kd y) = tch l (m + 1) kd y := by
  subst hk
  split
  · rename_i e
    subst e
    rw [hc]
    exact (tch_push h).symm
  · rename_i e
    exact (tch_other h (fun h => e h.2.symm)).symm

/-- The store behind the append, and what there is then. -/
theorem push_all {W : World} {B bm : Nat} {S : ByteArray → Option Value} {m : ByteArray → List Tch} {x : ByteArray} {t : Tch} {gg cap X : Nat} {w1 : World} {u0 u2 : Value} (h : TM W B bm S m)
    (hnb : ((S x).getD (.slice none 0 0)).ownBlock ≠ some X) (h0 : W.cell? ⟨X, 0, none⟩ = some u0) (h2 : W.cell? ⟨X, 2, none⟩ = some u2) (hXb : X ≠ bm)
    (ho : w1.ownsRow B 101 3 (.slice (some ⟨gg, 0, none⟩) ((m x).length + 1) cap) ((m x).length + 1) ((m x).flatMap Tch.cells ++ [.int .i64 t.pos, .int .i64 t.task, .int .i64 t.n]))
    (hg : (W.alloc (.cells #[.int .i64 t.pos, .int .i64 t.task, .int .i64 t.n] 101)).drew.grownBy w1 (((S x).getD (.slice none 0 0)).ownBlock))
    (hat : ((S x).getD (.slice none 0 0)).ownBlock = some gg ∨ gg = W.heap.size + 1) :
    ∃ w', (Instr.mapUpdate 96 (.map (some bm)) (.string x) (.slice (some ⟨gg, 0, none⟩) ((m x).length + 1) cap)).run Tryd.prog w1 = .ok () w' ∧
      Hid (TM w' B bm (upd S x (.slice (some ⟨gg, 0, none⟩) ((m x).length + 1) cap)) (fun y => open Classical in if y = x then m x ++ [t] else m y) ∧ Fr W w' (TFoot bm S) ∧
        ∀ k, TFoot bm (upd S x (.slice (some ⟨gg, 0, none⟩) ((m x).length + 1) cap)) k → TFoot bm S k ∨ W.heap.size ≤ k) ∧
      w1.cell? ⟨X, 0, none⟩ = some u0 ∧ w1.cell? ⟨X, 2, none⟩ = some u2 ∧ w'.cell? ⟨X, 0, none⟩ = some u0 ∧ w'.cell? ⟨X, 2, none⟩ = some u2 := by
  have hb5 : Below W.heap.size W (W.alloc (.cells #[.int .i64 t.pos, .int .i64 t.task, .int .i64 t.n] 101)).drew := ((Below.refl _ _).alloc (Nat.le_refl _) _).drew
  have h5 := h.below hb5
  have hm1 : MapAt senc w1 bm S := h5.map.grown hg fun e => by
    have e := e.symm
    obtain ⟨cur, hc⟩ := (own_block (h5.own x) e).2.2
    obtain ⟨es, clk, hbm, _⟩ := h5.map
    rw [hbm] at hc; cases hc
  obtain ⟨w', hrun, hm, hg2, _⟩ := hm1.update skey mapTy_touch x (.slice (some ⟨gg, 0, none⟩) ((m x).length + 1) cap)
  have c0 := hg.cell (cell_below hb5 h0) (fun e => hnb e.symm)
  have c2 := hg.cell (cell_below hb5 h2) (fun e => hnb e.symm)
  refine ⟨w', hrun, ⟨h5.push (N := W.heap.size + 1) (by simp) hg ho hat hm hg2, (Fr.below hb5 (TFoot bm S)).trans (fr_push h5 hg hg2) (fun j hj => .inl hj), fun k hk => ?_⟩, c0, c2, hg2.cell c0 (fun e => hXb (by injection e)), hg2.cell c2 (fun e => hXb (by injection e))⟩
  rcases tfoot_push hk with e | e
  · exact .inl e
  · subst e
    rcases hat with e | e
    · cases hx : S x with
      | none => rw [hx] at e; cases e
      | some u => rw [hx] at e; exact .inl (.inr ⟨x, u, hx, e⟩)
    · exact .inr (by omega)

set_option maxRecDepth 100000 in
set_option maxHeartbeats 2000000 in
theorem check_right (w : World) (v : Value) (l : List Acc) (hl : AccAt w v l) (hw : wrongF l = 0) :
    Calls Tryd.prog 25 #[v] w fun e w' => ChkOut w w' l e := by
  have hlen : l.length ≤ 20000 := by
    unfold wrongF at hw
    by_cases h : 20000 < l.length
    · rw [if_pos h] at hw; cases hw
    · omega
  have HW := Lib.hid hw
  have HL := Lib.hid hl
  obtain ⟨A, cap, rfl, hcap, hcm, _⟩ := hl
  clear hw
  go_enter Tryd.func25, Tryd.ntmps25
  have hmm := @run_makeMap Tryd.prog
  go_wp2_with (go_at_call 47; refine (wrong_any w _ l HL.out).mono ?_; rintro e w1 ⟨rfl, hb⟩; rw [HW.out])
  have hinit := CksAt.make w1 92
  have hsz := hb.size
  have HB := Lib.hid hb
  have HI := Lib.hid hinit
  clear hinit hb
  go_loopw [26] (fun u26 wr => CkR w wr (w1.heap.size + 1 + 1) (w1.heap.size + 1 + 1 + 1) (w1.heap.size + 1 + 1 + 1 + 1) l u26) (fun u26 _ => l.length - (intOf u26).toNat)
  case atStart =>
    have hmk := HI.out
    have h4 : CksAt ((((((w1.alloc (Obj.map #[] 0)).alloc (Obj.map #[] 0)).alloc (Obj.cells #[Value.map (some w1.heap.size), Value.map (some (w1.heap.size + 1))] 92)).alloc (Obj.map #[] 0)).alloc (Obj.map #[] 0))) (w1.heap.size + 1 + 1) w1.heap.size (w1.heap.size + 1) (fun _ => none) (fun _ => none) CS.zero :=
      hmk.below (((Below.refl _ _).alloc (Nat.le_refl _) _).alloc (by simp) _)
    have h5 := (TM.make (((w1.alloc (Obj.map #[] 0)).alloc (Obj.map #[] 0)).alloc (Obj.cells #[Value.map (some w1.heap.size), Value.map (some (w1.heap.size + 1))] 92)) w.heap.size (by simp; omega)).below ((Below.refl _ _).alloc (Nat.le_refl _) (Obj.map #[] 0))
    have h6 := TM.make ((((w1.alloc (Obj.map #[] 0)).alloc (Obj.map #[] 0)).alloc (Obj.cells #[Value.map (some w1.heap.size), Value.map (some (w1.heap.size + 1))] 92)).alloc (Obj.map #[] 0)) w.heap.size (by simp; omega)
    simp only [World.size_alloc] at h5 h6
    have tf : ∀ b k, TFoot b (fun _ => none) k → k = b := by
      rintro b k (rfl | ⟨x, v, hx, _⟩)
      · rfl
      · cases hx
    have ff : ∀ k, Foot w1.heap.size (w1.heap.size + 1) (fun _ => none) (fun _ => none) k → k = w1.heap.size ∨ k = w1.heap.size + 1 := by
      rintro k (rfl | rfl | ⟨t, ht⟩ | ⟨t, ht⟩)
      · exact .inl rfl
      · exact .inr rfl
      · cases ht
      · cases ht
    refine ⟨0, _, _, _, _, _, _, _, Nat.zero_le _, rfl, ⟨⟨h4, CInv.zero l, ?_, ?_⟩, h5, h6, fun k h h' => ?_, ⟨fun h => ?_, fun h => ?_⟩, fun k h => ⟨fun h' => ?_, fun h' => ?_⟩, fun i k h => absurd h (by omega)⟩⟩
    · exact (((((HB.out.alloc hsz _).alloc (by simp; omega) _).alloc (by simp; omega) _).alloc (by simp; omega) _).alloc (by simp; omega) _)
    · intro j hj
      have := ff j hj
      omega
    · have := tf _ _ h; have := tf _ _ h'; omega
    · have := tf _ _ h; omega
    · have := tf _ _ h; omega
    · have := ff _ h; have := tf _ _ h'; omega
    · have := ff _ h; have := tf _ _ h'; omega
  case round =>
    obtain ⟨m, bt, bv, T, V, s, Sr, Sw, hml, rfl, hci⟩ := hrel
    by_cases hlt : m < l.length
    · have hlm : l[m]? = some l[m] := List.getElem?_eq_getElem hlt
      have hbw : Below w.heap.size w wr := hci.runs.2.2.1
      obtain ⟨bb, off, rfl, hcs⟩ := (HL.out.below hbw).elem hlt
      have hc0 := hcs 0 _ rfl
      have hc1 := hcs 1 _ rfl
      have hc2 := hcs 2 _ rfl
      rw [Nat.add_zero] at hc0
      have hok : okAcc l[m] = true := by
        have h := HW.out
        unfold wrongF at h
        rw [if_neg (by omega)] at h
        by_cases h2 : l.all okAcc
        · exact List.all_eq_true.1 h2 _ (List.getElem_mem hlt)
        · rw [if_neg h2] at h; cases h
      rw [okAcc_iff] at hok
      generalize ea : l[m] = a at *
      have HM := Lib.hid hlm
      have hci1 : ∀ o, CkInv w.heap.size w (wr.alloc o) (w1.heap.size + 1 + 1) (w1.heap.size + 1 + 1 + 1) (w1.heap.size + 1 + 1 + 1 + 1) l m m bt bv T V s Sr Sw := fun o => hci.below ((Below.refl _ _).alloc (Nat.le_refl _) o)
      have HC := Lib.hid hci1
      have HC0 := Lib.hid hci
      obtain ⟨xt, xk, xv⟩ := a
      dsimp only at hc0 hc1 hc2 hok
      have HOK := Lib.hid hok
      have hBr := hci.hB
      clear hcs hci hci1 ea hlm hbw hok
      go_upto_if 36 with (go_at_call 48; refine (enter_run (a := ⟨xt, xk, xv⟩) (HC.out _).runs (.inr trivial) (by simp; omega) HM.out (by omega)).mono ?_; rintro e w2 ⟨b, bt', bv', T', V', rfl, hck, hr2, hfr, hft⟩; obtain ⟨hx0, hx1, hx2⟩ := ck_x hfr (fun e => absurd (HC0.out.runs.1.lt e) (Nat.lt_irrefl _)))
      have hci2 := (HC.out _).entered hr2 hfr hft
      have HCI : Hid (CInv l m s) := HC0.out.runs.2.1
      have hszr : wr.heap.size < w2.heap.size := by have := hfr.size; simp at this; omega
      clear hr2 hfr hft hmm hc0 hc1 hc2
      by_cases hk2 : 2 < xk
      · have HK := Lib.hid hk2
        have HCi := Lib.hid hci2
        have HCk := Lib.hid hck
        clear hci2 hck
        go_wp2
        go_roundw
        case rel =>
          have hno := fun i => found_none HM.out (by have := HK.out; dsimp only; omega) i
          have h1 := HCi.out
          refine ⟨m + 1, _, _, _, _, _, _, _, by omega, by go_num, ⟨h1.runs, h1.tr.congr fun x => ?_, h1.tw.congr fun x => ?_, h1.xd, h1.pn, h1.fn, fun i k hk => ?_⟩⟩
          · exact (tch_other HM.out (by have := HK.out; dsimp only; omega)).symm
          · exact (tch_other HM.out (by have := HK.out; dsimp only; omega)).symm
          · by_cases e : k = m
            · subst e; exact hno i
            · exact h1.no i k (by omega)
        case measure => simp [intOf]; omega
      · have hk2' : decide ((2 : Int) < xk) = false := by simp; omega
        have HK := Lib.hid hk2
        clear hk2
        have hlw : (Instr.lookup 96 (.map (some (w1.heap.size + 1 + 1 + 1 + 1))) (.string xv) false).run Tryd.prog w2 = .ok ((Sw xv).getD (.slice none 0 0)) w2 := hci2.tw.map.lookup skey mapTy_touch xv
        have HCi := Lib.hid hci2
        have HCk := Lib.hid hck
        clear hci2 hck
        by_cases hk1 : xk = 2
        · have hk1' : (xk == 2) = true := by simp [hk1]
          have HK1 := Lib.hid hk1
          clear hk1
          go_wp2_with fail
          refine (racing_any w2 _ (tch l m 2 xv) xt b (s.clk ⟨xt, xk, xv⟩) (HCi.out.tw.at_ xv) HCk.out).mono ?_
          rintro e w3 ⟨rfl, hb3⟩
          have hy0 := cell_below hb3 hx0
          have hy1 := cell_below hb3 hx1
          have hy2 := cell_below hb3 hx2
          have hci3 := HCi.out.below hb3
          have hlr : (Instr.lookup 96 (.map (some (w1.heap.size + 1 + 1 + 1))) (.string xv) false).run Tryd.prog w3 = .ok ((Sr xv).getD (.slice none 0 0)) w3 := hci3.tr.map.lookup skey mapTy_touch xv
          have HCi3 := Lib.hid hci3
          have HCk3 := Lib.hid (HCk.out.below hb3)
          have hsz3 := hb3.size
          clear hci3 hb3 hx0 hx1 hx2 hlw
          go_wp2_with fail
          refine (racing_any w3 _ (tch l m 1 xv) xt b (s.clk ⟨xt, xk, xv⟩) (HCi3.out.tr.at_ xv) HCk3.out).mono ?_
          rintro e w4 ⟨rfl, hb4⟩
          have hz0 := cell_below hb4 hy0
          have hz1 := cell_below hb4 hy1
          have hz2 := cell_below hb4 hy2
          have hci4 := HCi3.out.below hb4
          have HCi4 := Lib.hid hci4
          have HCk4 := Lib.hid (HCk3.out.below hb4)
          have hsz4 := hb4.size
          clear hci4 hb4 hy0 hy1 hy2 hlr
          go_wp2_with fail
          have hfound := found_write HCI.out HM.out HK1.out
          dsimp only at hfound
          refine (earlier_any _ _ _).mono ?_
          rintro e w5 ⟨rfl, rfl⟩
          generalize efd : earlierF (racingF (tch l m 2 xv) xt (s.clk ⟨xt, xk, xv⟩)) (racingF (tch l m 1 xv) xt (s.clk ⟨xt, xk, xv⟩)) = fd at *
          have HF := Lib.hid hfound
          clear hfound efd
          by_cases hfd : 0 ≤ fd
          · go_wp2
            go_ret3
            refine ⟨fd, m, 0, rfl, ?_, HCi4.out.runs.2.2.1⟩
            rw [if_neg (by rw [HW.out]; simp)]
            exact ⟨rfl, check_found HCi4.out.no HF.out hfd⟩
          · go_wp2_with fail
            have hfd2 : fd < 0 := by omega
            have HFD := Lib.hid hfd2
            clear hfd hfd2
            obtain ⟨i0, hi0, hi1, hi2, hi3⟩ := info_parts info_touch
            have hlw4 : ∀ o, (Instr.lookup 96 (.map (some (w1.heap.size + 1 + 1 + 1 + 1))) (.string xv) false).run Tryd.prog (w4.alloc o).drew = .ok ((Sw xv).getD (.slice none 0 0)) (w4.alloc o).drew := fun o => ((HCi4.out.tw.map.alloc o).drew).lookup skey mapTy_touch xv
            have hlw4' : (Instr.lookup 96 (.map (some (w1.heap.size + 1 + 1 + 1 + 1))) (.string xv) false).run Tryd.prog w4.drew = .ok ((Sw xv).getD (.slice none 0 0)) w4.drew := (HCi4.out.tw.map.drew).lookup skey mapTy_touch xv
            have hlc4 : ∀ o, (Instr.lookup 94 (.map (some b)) (.int .i64 xt) false).run Tryd.prog (w4.alloc o).drew = .ok (.int .i64 (s.clk ⟨xt, xk, xv⟩ xt)) (w4.alloc o).drew := fun o => (show ClkAt (w4.alloc o).drew b _ from HCk4.out.alloc o).lookup xt
            have hlc4' : (Instr.lookup 94 (.map (some b)) (.int .i64 xt) false).run Tryd.prog w4.drew = .ok (.int .i64 (s.clk ⟨xt, xk, xv⟩ xt)) w4.drew := (show ClkAt w4.drew b _ from HCk4.out).lookup xt
            have hown := HCi4.out.tw.own xv
            have hnb : ((Sw xv).getD (.slice none 0 0)).ownBlock ≠ some wr.heap.size := fun e => by
              cases hx : Sw xv with
              | none => rw [hx] at e; cases e
              | some u => rw [hx] at e; exact absurd (HC0.out.tw.lt (.inr ⟨xv, u, hx, e⟩)).2 (Nat.lt_irrefl _)
            have hN : (tch l m 2 xv).length ≤ 20000 := by have := tch_len l m 2 xv; omega
            have hBW := HCi4.out.hB
            have HOWN := Lib.hid hown
            have HNB := Lib.hid hnb
            have HXB : Hid (wr.heap.size ≠ w1.heap.size + 1 + 1 + 1 + 1) := fun e => by have := (HC0.out.tw.lt (.inl rfl)).2; omega
            clear hown hnb
            go_region_held3 (fun w' => w'.cell? ⟨wr.heap.size, 0, none⟩ = some (.int .i64 xt) ∧ w'.cell? ⟨wr.heap.size, 2, none⟩ = some (.string xv)) (go_keep)
              ((refine step_append_lies _ (by rfl) _ _ _ (by rfl) w.heap.size 101 i0 _ 3 24 Tryd.underlying98 hi0 hi1 hi2 hi3 rfl (by omega) ((Sw xv).getD (.slice none 0 0)) (tch l m 2 xv).length ((tch l m 2 xv).flatMap Tch.cells) (by rfl) ((HOWN.out.alloc _).drew) ⟨w4.heap.size, 0, none⟩ 1 1 [.int .i64 m, .int .i64 xt, .int .i64 (s.clk ⟨xt, xk, xv⟩ xt)] (by rfl) (by rfl) (World.news_of_block (cs := #[.int .i64 m, .int .i64 xt, .int .i64 (s.clk ⟨xt, xk, xv⟩ xt)]) (t := 101) (fr := (0, 0)) (heap_alloc_new w4 _)) (by simp [Value.oneCell']) (by omega) (by simp [maxLen]; omega) (by omega) (by simp; omega) (w4.heap.size + 1) (by simp) ?_; intro gg cap1 w6 hown1 hgrow hat hlt1; obtain ⟨w7, hrun7, H7, hq60, hq62, hq70, hq72⟩ := push_all (t := ⟨m, xt, s.clk ⟨xt, xk, xv⟩ xt⟩) HCi4.out.tw HNB.out hz0 hz2 HXB.out hown1 hgrow hat; clear hown1 hgrow hat hlt1))
            all_goals
              go_wp2_with fail
              go_roundw
              case rel =>
                have hown2 := HCI.out.clk_own HM.out
                exact ⟨m + 1, _, _, _, _, _, _, _, by omega, by go_num, HCi4.out.pushW H7.out.2.1 (H7.out.1.congr fun y => tch_upd HM.out 2 HK1.out _ hown2 y) H7.out.2.2 (fun y => (tch_other HM.out (by have := HK1.out; dsimp only; omega)).symm) (check_not HCi4.out.no HF.out HFD.out)⟩
              case measure => simp [intOf]; omega
        · have hk1' : (xk == 2) = false := by simp [hk1]
          have hk1e : xk = 1 := by have := HK.out; have := HOK.out.2.2.1; omega
          have HK1 := Lib.hid hk1e
          clear hk1 hk1e
          go_wp2_with fail
          refine (racing_any w2 _ (tch l m 2 xv) xt b (s.clk ⟨xt, xk, xv⟩) (HCi.out.tw.at_ xv) HCk.out).mono ?_
          rintro e w3 ⟨rfl, hb3⟩
          have hy0 := cell_below hb3 hx0
          have hy1 := cell_below hb3 hx1
          have hy2 := cell_below hb3 hx2
          have hci3 := HCi.out.below hb3
          have HCi3 := Lib.hid hci3
          have HCk3 := Lib.hid (HCk.out.below hb3)
          have hsz3 := hb3.size
          clear hci3 hb3 hx0 hx1 hx2 hlw
          have hfound := found_read HCI.out HM.out HK1.out
          dsimp only at hfound
          generalize efd : racingF (tch l m 2 xv) xt (s.clk ⟨xt, xk, xv⟩) = fd at *
          have HF := Lib.hid hfound
          clear hfound efd
          by_cases hfd : 0 ≤ fd
          · go_wp2
            go_ret3
            refine ⟨fd, m, 0, rfl, ?_, HCi3.out.runs.2.2.1⟩
            rw [if_neg (by rw [HW.out]; simp)]
            exact ⟨rfl, check_found HCi3.out.no HF.out hfd⟩
          · go_wp2_with fail
            have hfd2 : fd < 0 := by omega
            have HFD := Lib.hid hfd2
            clear hfd hfd2
            obtain ⟨i0, hi0, hi1, hi2, hi3⟩ := info_parts info_touch
            have hlw4 : ∀ o, (Instr.lookup 96 (.map (some (w1.heap.size + 1 + 1 + 1))) (.string xv) false).run Tryd.prog (w3.alloc o).drew = .ok ((Sr xv).getD (.slice none 0 0)) (w3.alloc o).drew := fun o => ((HCi3.out.tr.map.alloc o).drew).lookup skey mapTy_touch xv
            have hlw4' : (Instr.lookup 96 (.map (some (w1.heap.size + 1 + 1 + 1))) (.string xv) false).run Tryd.prog w3.drew = .ok ((Sr xv).getD (.slice none 0 0)) w3.drew := (HCi3.out.tr.map.drew).lookup skey mapTy_touch xv
            have hlc4 : ∀ o, (Instr.lookup 94 (.map (some b)) (.int .i64 xt) false).run Tryd.prog (w3.alloc o).drew = .ok (.int .i64 (s.clk ⟨xt, xk, xv⟩ xt)) (w3.alloc o).drew := fun o => (show ClkAt (w3.alloc o).drew b _ from HCk3.out.alloc o).lookup xt
            have hlc4' : (Instr.lookup 94 (.map (some b)) (.int .i64 xt) false).run Tryd.prog w3.drew = .ok (.int .i64 (s.clk ⟨xt, xk, xv⟩ xt)) w3.drew := (show ClkAt w3.drew b _ from HCk3.out).lookup xt
            have hown := HCi3.out.tr.own xv
            have hnb : ((Sr xv).getD (.slice none 0 0)).ownBlock ≠ some wr.heap.size := fun e => by
              cases hx : Sr xv with
              | none => rw [hx] at e; cases e
              | some u => rw [hx] at e; exact absurd (HC0.out.tr.lt (.inr ⟨xv, u, hx, e⟩)).2 (Nat.lt_irrefl _)
            have hN : (tch l m 1 xv).length ≤ 20000 := by have := tch_len l m 1 xv; omega
            have hBW := HCi3.out.hB
            have HOWN := Lib.hid hown
            have HNB := Lib.hid hnb
            have HXB : Hid (wr.heap.size ≠ w1.heap.size + 1 + 1 + 1) := fun e => by have := (HC0.out.tr.lt (.inl rfl)).2; omega
            clear hown hnb
            go_region_held3 (fun w' => w'.cell? ⟨wr.heap.size, 0, none⟩ = some (.int .i64 xt) ∧ w'.cell? ⟨wr.heap.size, 2, none⟩ = some (.string xv)) (go_keep)
              ((refine step_append_lies _ (by rfl) _ _ _ (by rfl) w.heap.size 101 i0 _ 3 24 Tryd.underlying98 hi0 hi1 hi2 hi3 rfl (by omega) ((Sr xv).getD (.slice none 0 0)) (tch l m 1 xv).length ((tch l m 1 xv).flatMap Tch.cells) (by rfl) ((HOWN.out.alloc _).drew) ⟨w3.heap.size, 0, none⟩ 1 1 [.int .i64 m, .int .i64 xt, .int .i64 (s.clk ⟨xt, xk, xv⟩ xt)] (by rfl) (by rfl) (World.news_of_block (cs := #[.int .i64 m, .int .i64 xt, .int .i64 (s.clk ⟨xt, xk, xv⟩ xt)]) (t := 101) (fr := (0, 0)) (heap_alloc_new w3 _)) (by simp [Value.oneCell']) (by omega) (by simp [maxLen]; omega) (by omega) (by simp; omega) (w3.heap.size + 1) (by simp) ?_; intro gg cap1 w6 hown1 hgrow hat hlt1; obtain ⟨w7, hrun7, H7, hq60, hq62, hq70, hq72⟩ := push_all (t := ⟨m, xt, s.clk ⟨xt, xk, xv⟩ xt⟩) HCi3.out.tr HNB.out hy0 hy2 HXB.out hown1 hgrow hat; clear hown1 hgrow hat hlt1))
            all_goals
              go_wp2_with fail
              go_roundw
              case rel =>
                have hown2 := HCI.out.clk_own HM.out
                exact ⟨m + 1, _, _, _, _, _, _, _, by omega, by go_num, HCi3.out.pushR H7.out.2.1 (H7.out.1.congr fun y => tch_upd HM.out 1 HK1.out _ hown2 y) H7.out.2.2 (fun y => (tch_other HM.out (by have := HK1.out; dsimp only; omega)).symm) (check_not HCi3.out.no HF.out HFD.out)⟩
              case measure => simp [intOf]; omega
    · have HCi := Lib.hid hci
      have hme : m = l.length := by omega
      have HE := Lib.hid hme
      clear hci hme
      go_wp2
      go_ret3
      have h1 := HCi.out
      refine ⟨-1, -1, 0, rfl, ?_, h1.runs.2.2.1⟩
      rw [if_neg (by rw [HW.out]; simp)]
      exact ⟨rfl, check_end (by have := h1.no; rw [HE.out] at this; exact this)⟩

theorem check_any (w : World) (v : Value) (l : List Acc) (hl : AccAt w v l) :
    Calls Tryd.prog 25 #[v] w fun e w' => ChkOut w w' l e := by
  by_cases hw : wrongF l = 0
  · exact check_right w v l hl hw
  · exact check_wrong w v l hl hw
end Go.Proofs.YtahklchfchjmcaaDoor
