/- An access happens to the clocks: the walk of enter. -/
import Derived.Test.YtahklchfchjmcaaDoorCk
import Derived.StillTailTactics
import Derived.Deep.DeepCutAuto
import Derived.Deep.RegionHeld3
import Derived.Deep.RegionLaw
namespace Go.Proofs.YtahklchfchjmcaaDoor
set_option linter.unusedVariables false
set_option linter.unusedSimpArgs false
open Go.RowKit Go.MapKept

theorem mapTy_tasks : MapTy Tryd.prog 89 (.int .i64) (.map none) := ⟨_, _, Tryd.underlying89, Tryd.underlying3, fun w => by kernel_rfl⟩
theorem mapTy_vars : MapTy Tryd.prog 90 .string (.map none) := ⟨_, _, Tryd.underlying90, Tryd.underlying9, fun w => by kernel_rfl⟩

theorem map_getD (o : Option Nat) : ((o.map fun b => Value.map (some b)).getD (.map none)) = .map o := by cases o <;> rfl

/-- After the task's clock is there: block b. -/
def En1 (w wx : World) (p bt bv : Nat) (T : Int → Option Nat) (V : ByteArray → Option Nat) (s : CS) (t k : Int) (x : ByteArray) (s5 : Value) : Prop :=
  ∃ b T1, s5 = .map (some b) ∧ T1 t = some b ∧ CksAt wx p bt bv T1 V s ∧ Fr w wx (Foot bt bv T V) ∧ (∀ j, Foot bt bv T1 V j → Foot bt bv T V j ∨ w.heap.size < j) ∧
    wx.cell? ⟨w.heap.size, 0, none⟩ = some (.int .i64 t) ∧ wx.cell? ⟨w.heap.size, 1, none⟩ = some (.int .i64 k) ∧ wx.cell? ⟨w.heap.size, 2, none⟩ = some (.string x)

/-- After what was released was joined. -/
def En2 (w wx : World) (p bt bv : Nat) (T T1 : Int → Option Nat) (V : ByteArray → Option Nat) (s : CS) (t k : Int) (x : ByteArray) (b : Nat) (s5 : Value) : Prop :=
  s5 = .map (some b) ∧ CksAt wx p bt bv T1 V ⟨fun u => if u = t then (fun u => if k = 3 then max (s.tc t u) (s.vc x u) else s.tc t u) else s.tc u, s.vc⟩ ∧ Fr w wx (Foot bt bv T V) ∧
    wx.cell? ⟨w.heap.size, 0, none⟩ = some (.int .i64 t) ∧ wx.cell? ⟨w.heap.size, 1, none⟩ = some (.int .i64 k) ∧ wx.cell? ⟨w.heap.size, 2, none⟩ = some (.string x)

/-- After the variable's clock is there: block b2. -/
def En3 (w wx : World) (p bt bv : Nat) (T T1 : Int → Option Nat) (V : ByteArray → Option Nat) (s' : CS) (x : ByteArray) : Prop :=
  ∃ b2 V1, V1 x = some b2 ∧ CksAt wx p bt bv T1 V1 s' ∧ Fr w wx (Foot bt bv T V) ∧ (∀ j, Foot bt bv T1 V1 j → Foot bt bv T V j ∨ w.heap.size < j) ∧ wx.cell? ⟨w.heap.size, 2, none⟩ = some (.string x)

/-- What enter leaves: the clocks, and the clock of the access's task. -/
def EnPost (w w' : World) (p bt bv : Nat) (T : Int → Option Nat) (V : ByteArray → Option Nat) (s : CS) (a : Acc) (e : Ending) : Prop :=
  ∃ b T' V', e = .returned (.map (some b)) ∧ T' a.task = some b ∧ CksAt w' p bt bv T' V' (s.enter a) ∧ Fr w w' (Foot bt bv T V) ∧ (∀ j, Foot bt bv T' V' j → Foot bt bv T V j ∨ w.heap.size < j)

set_option maxRecDepth 100000 in
set_option maxHeartbeats 400000 in
theorem enter_any (w : World) (p bt bv : Nat) (T : Int → Option Nat) (V : ByteArray → Option Nat) (s : CS) (a : Acc) (h : CksAt w p bt bv T V s)
    (hbd : ∀ t u, 0 ≤ s.tc t u ∧ s.tc t u ≤ 100000) (hbv : ∀ t u, 0 ≤ s.vc t u ∧ s.vc t u ≤ 100000) :
    Calls Tryd.prog 48 #[.pointer (some ⟨p, 0, none⟩), .agg a.cells.toArray] w fun e w' => EnPost w w' p bt bv T V s a e := by
  have HBD := Lib.hid hbd
  have HBV := Lib.hid hbv
  clear hbd hbv
  obtain ⟨xt, xk, xv⟩ := a
  simp only [Acc.cells]
  obtain ⟨w0, hw0⟩ : ∃ w0, w0 = w.alloc (.cells #[.int .i64 xt, .int .i64 xk, .string xv] 55) := ⟨_, rfl⟩
  have hk : ∀ n, CksAt (w0.drewN n) p bt bv T V s := fun n => h.below (by rw [hw0]; exact ⟨rfl, rfl, rfl, by simp [World.drewN], fun k hk => Below.heap_alloc w _ k hk⟩)
  have h0 := fun n => (hk n).c0
  have hlk : ∀ n, (Instr.lookup 89 (.map (some bt)) (.int .i64 xt) false).run Tryd.prog (w0.drewN n) = .ok (.map (T xt)) (w0.drewN n) := fun n => by rw [(hk n).mt.lookup ikey mapTy_tasks xt, map_getD]
  subst hw0
  have heq := fun (r : Option Nat) (w : World) => run_eql_map_nil (P := Tryd.prog) w 94 _ _ r Tryd.underlying94
  have HK := Lib.hid hk
  have hp := h.plt
  have H := Lib.hid h
  clear hk h
  go_enter Tryd.func48, Tryd.ntmps48
  go_wp2
  go_quiet (fail)
  obtain ⟨W1, hW1⟩ : ∃ W1, W1 = (w.alloc (Obj.cells #[Value.int IntKind.i64 xt, Value.int IntKind.i64 xk, Value.string xv] 55)).drewN nq := ⟨_, rfl⟩
  rw [← hW1]
  have hk1 : CksAt W1 p bt bv T V s := by rw [hW1]; exact HK.out nq
  have hb1 : Below w.heap.size w W1 := by rw [hW1]; exact ⟨rfl, rfl, rfl, by simp [World.drewN], fun k hk => Below.heap_alloc w _ k hk⟩
  have hs1 : w.heap.size < W1.heap.size := by rw [hW1]; simp [World.drewN]
  have hc10 : W1.cell? ⟨w.heap.size, 0, none⟩ = some (.int .i64 xt) := by rw [hW1]; exact World.cell?_alloc_new w _ _ _
  have hc11 : W1.cell? ⟨w.heap.size, 1, none⟩ = some (.int .i64 xk) := by rw [hW1]; exact World.cell?_alloc_new w _ _ _
  have hc12 : W1.cell? ⟨w.heap.size, 2, none⟩ = some (.string xv) := by rw [hW1]; exact World.cell?_alloc_new w _ _ _
  have HW1 := Lib.hid hW1
  clear hlk h0 hW1
  go_upto_if 14 with (fail)
  go_cut [5] (fun s5 wx => En1 w wx p bt bv T V s xt xk xv s5)
  case first =>
    cases hT : T xt with
    | none =>
      have HT := Lib.hid hT
      clear hT
      have hmm := @run_makeMap Tryd.prog
      go_wp2_with fail
      obtain ⟨W2, hW2⟩ : ∃ W2, W2 = W1.alloc (.map #[] 0) := ⟨_, rfl⟩
      rw [← hW2]
      have hbW : Below W1.heap.size W1 W2 := by rw [hW2]; exact (Below.refl _ _).alloc (Nat.le_refl _) _
      have hk2 := hk1.below hbW
      have hc0 := hk2.c0
      have hc20 := cell_below hbW hc10
      have hc21 := cell_below hbW hc11
      have hc22 := cell_below hbW hc12
      have hm2 := hk2.mt
      have hz2 : ClkAt W2 W1.heap.size (fun _ => 0) := by rw [hW2]; exact ClkAt.make W1
      have HW2 := Lib.hid hW2
      have HC := Lib.hid (And.intro hk1 (And.intro hk2 hb1))
      clear hW2 hk1 hk2 hb1
      go_still_tail 7, (by kernel_rfl)
      change wpList _ _ _ _ _ W2.drew
      refine wpList_mapUpdate_at ikey rfl _ _ _ _ rfl mapTy_tasks bt _ xt (.map (some W1.heap.size)) rfl rfl rfl (hm2.drew) ?_
      intro W3 hm3 hg3 hs3
      have HM3 := Lib.hid hm3
      have HG3 := Lib.hid hg3
      have HS3 := Lib.hid hs3
      clear hm3 hg3 hs3 hm2
      go_wp2
      go_meet
      case rel =>
        obtain ⟨g1, g2, g3⟩ := HC.out
        have hG3 : W2.grownBy W3 (some bt) := ⟨HG3.out.os, HG3.out.tape, HG3.out.output, HG3.out.size, HG3.out.block⟩
        have hbt : w.heap.size ≠ bt := fun e => by have := H.out.mt.lt; omega
        have hq : ∀ {j : Nat} {u : Value}, W2.cell? ⟨w.heap.size, j, none⟩ = some u → W3.cell? ⟨w.heap.size, j, none⟩ = some u := fun {j u} hc => hG3.cell hc (fun e => hbt (by injection e))
        refine ⟨W1.heap.size, _, rfl, if_pos rfl, g1.newT HT.out (Nat.le_refl _) hbW hz2 rfl HM3.out hG3, ?_, ?_, hq hc20, hq hc21, hq hc22⟩
        · exact ((Fr.below g3 _).trans (Fr.below hbW (fun _ => False)) (fun j h => h.elim)).trans (Fr.grown (F := Foot bt bv T V) hG3 (fun k hk => .inl (.inl (by injection hk with hk; exact hk.symm)))) (fun j h => .inl h)
        · rintro j (rfl | rfl | ⟨t, ht⟩ | hx)
          · exact .inl (.inl rfl)
          · exact .inl (.inr (.inl rfl))
          · by_cases e : t = xt
            · simp only [e, if_true, Option.some.injEq] at ht
              right; omega
            · simp only [if_neg e] at ht
              exact .inl (.inr (.inr (.inl ⟨t, ht⟩)))
          · exact .inl (.inr (.inr (.inr hx)))
    | some b =>
      have HT := Lib.hid hT
      clear hT
      go_wp2
      go_meet
      case rel =>
        exact ⟨b, T, rfl, HT.out, hk1, Fr.below hb1 _, fun j hj => .inl hj, hc10, hc11, hc12⟩
  case rest =>
    obtain ⟨wo, hwo⟩ : ∃ wo : World, wo = wc := ⟨_, rfl⟩
    subst hwo
    obtain ⟨b, T1, rfl, hT1, hk1', hfr, hft, hb0, hb1', hb2⟩ := hcut
    clear hk1 hb1 hs1 hc10 hc11 hc12 HW1 heq HK
    have HT1 := Lib.hid hT1
    have HF := Lib.hid (And.intro hk1' (And.intro hfr hft))
    clear hT1 hfr hft
    have hlv : (Instr.lookup 90 (.map (some bv)) (.string xv) false).run Tryd.prog wo.drew = .ok (.map (V xv)) wo.drew := by
      rw [(hk1'.mv.drew).lookup skey mapTy_vars xv, map_getD]
    have hc1 := hk1'.c1
    clear hk1'
    go_upto_if 25 with (fail)
    go_cut [5] (fun s5 wx => En2 w wx p bt bv T T1 V s xt xk xv b s5)
    case first =>
      by_cases h3 : xk = 3
      · have h3' : (xk == 3) = true := by simp [h3]
        have H3 := Lib.hid h3
        clear h3
        go_wp2_with fail
        go_still_tail 8, (by kernel_rfl)
        change wpList _ _ _ _ _ wo.drew
        have hck : ClkAt wo.drew b (s.tc xt) := HF.out.1.tc xt b HT1.out
        have hor : ClkOr wo.drew (.map (V xv)) b (s.vc xv) := by
          cases hv : V xv with
          | none => exact .inl ⟨rfl, HF.out.1.v0 xv hv⟩
          | some b' => exact .inr ⟨b', rfl, fun e => HF.out.1.tv xt xv b HT1.out (by rw [hv, e]), HF.out.1.vc xv b' hv⟩
        have HCk := Lib.hid (And.intro hck hor)
        clear hck hor hlv
        go_wp2_with (go_at_call 68; refine (join_any _ b (.map (V xv)) (s.tc xt) (s.vc xv) HCk.out.1 HCk.out.2 (fun t => (HBD.out xt t).1)).mono ?_; rintro e w2 ⟨rfl, hcj, hgj⟩)
        go_meet
        case rel =>
          have hgj' : wo.grownBy w2 (some b) := ⟨hgj.os, hgj.tape, hgj.output, hgj.size, hgj.block⟩
          have hfb : Foot bt bv T1 V b := .inr (.inr (.inl ⟨xt, HT1.out⟩))
          have hne : w.heap.size ≠ b := fun e => by
            rcases HF.out.2.2 b hfb with h | h
            · have := H.out.lt h; omega
            · omega
          have hq : ∀ {j : Nat} {u : Value}, wo.cell? ⟨w.heap.size, j, none⟩ = some u → w2.cell? ⟨w.heap.size, j, none⟩ = some u := fun {j u} hc => hgj'.cell hc (fun e => hne (by injection e))
          refine ⟨rfl, (HF.out.1.setT HT1.out hgj' hcj).congr (fun t u => ?_) (fun _ _ => rfl), ?_, hq hb0, hq hb1', hq hb2⟩
          · by_cases e : t = xt
            · subst e; simp [H3.out]
            · simp [e]
          · refine HF.out.2.1.trans (Fr.grown (F := fun k => k = b) hgj' (fun k hk => .inl (by injection hk with hk; exact hk.symm))) (fun j hj => ?_)
            subst hj
            rcases HF.out.2.2 _ hfb with h | h
            · exact .inl h
            · exact .inr (by omega)
      · have h3' : (xk == 3) = false := by simp [h3]
        have H3 := Lib.hid h3
        clear h3
        go_wp2_with fail
        go_meet
        case rel =>
          refine ⟨rfl, HF.out.1.congr (fun t u => ?_) (fun _ _ => rfl), HF.out.2.1, hb0, hb1', hb2⟩
          by_cases e : t = xt
          · subst e; simp [H3.out]
          · simp [e]
    case rest =>
      obtain ⟨hs5, hk2, hfr2, hb0', hb1'', hb2'⟩ := hcut
      subst hs5
      clear hb0 hb1' hb2 hlv hc1
      have hfb : Foot bt bv T1 V b := .inr (.inr (.inl ⟨xt, HT1.out⟩))
      have hne : w.heap.size ≠ b := fun e => by
        rcases HF.out.2.2 b hfb with h | h
        · have := H.out.lt h; omega
        · omega
      obtain ⟨c1, hc1⟩ : ∃ c1 : Int → Int, c1 = fun u => if xk = 3 then max (s.tc xt u) (s.vc xv u) else s.tc xt u := ⟨_, rfl⟩
      rw [← hc1] at hk2
      have hck : ClkAt wc b c1 := by have := hk2.tc xt b HT1.out; simpa using this
      have hlb := hck.lookup xt
      have hbound : 0 ≤ c1 xt ∧ c1 xt ≤ 100000 := by
        have h1 := HBD.out xt xt
        have h2 := HBV.out xv xt
        rw [hc1]
        dsimp only
        split <;> omega
      obtain ⟨hbound1, hbound2⟩ := hbound
      obtain ⟨f1, hf1, hf2⟩ := hck
      have HF2 := Lib.hid hf2
      have HC1 := Lib.hid hc1
      have HK2 := Lib.hid hk2
      have HR2 := Lib.hid hfr2
      have HN := Lib.hid hne
      clear hf2 hc1 hk2 hfr2 hne
      have hstep : ∀ w3, MapAt ienc w3 b (upd f1 xt (.int .i64 (c1 xt + 1))) → wc.grownBy w3 (some b) → Hid (CksAt w3 p bt bv T1 V ⟨fun u => if u = xt then s.clk ⟨xt, xk, xv⟩ else s.tc u, s.vc⟩ ∧ Fr w w3 (Foot bt bv T V)) ∧
          w3.cell? ⟨p, 1, none⟩ = some (.map (some bv)) ∧ w3.cell? ⟨w.heap.size, 1, none⟩ = some (.int .i64 xk) ∧ w3.cell? ⟨w.heap.size, 2, none⟩ = some (.string xv) := by
        intro w3 hm3 hg3
        have hc3 : ClkAt w3 b (fun u => if u = xt then c1 xt + 1 else c1 u) := ClkAt.upd HF2.out xt (c1 xt + 1) hm3
        have hk3 : CksAt w3 p bt bv T1 V ⟨fun u => if u = xt then s.clk ⟨xt, xk, xv⟩ else s.tc u, s.vc⟩ := (HK2.out.setT HT1.out hg3 hc3).congr (fun t u => by
          by_cases e : t = xt
          · subst e
            simp only [if_true, CS.clk, HC1.out]
            by_cases e' : u = t
            · subst e'; simp
            · simp [e']
          · simp [e]) (fun _ _ => rfl)
        have hq : ∀ {j : Nat} {u : Value}, wc.cell? ⟨w.heap.size, j, none⟩ = some u → w3.cell? ⟨w.heap.size, j, none⟩ = some u := fun {j u} hc => hg3.cell hc (fun e => HN.out (by injection e))
        refine ⟨⟨hk3, HR2.out.trans (Fr.grown (F := fun k => k = b) hg3 (fun k hk => .inl (by injection hk with hk; exact hk.symm))) (fun j hj => ?_)⟩, hk3.c1, hq hb1'', hq hb2'⟩
        subst hj
        rcases HF.out.2.2 _ hfb with h | h
        · exact .inl h
        · exact .inr (by omega)
      by_cases h4 : xk = 4
      · have h4' : (xk == 4) = true := by simp [h4]
        have H4 := Lib.hid h4
        have HST := Lib.hid hstep
        clear h4 hstep
        go_wp2_with (at_mapUpdate; refine wpList_mapUpdate_at ikey rfl _ _ _ _ rfl mapTy_clock b f1 xt (.int .i64 (c1 xt + 1)) rfl rfl rfl hf1 ?_; intro w3 hm3 hg3 hs3; obtain ⟨HS3, hd1, hd2, hd3⟩ := HST.out w3 hm3 hg3; clear hm3 hg3 hs3 hlb hf1 hb0' hb1'' hb2')
        have HS3' : ∀ n, CksAt (w3.drewN n) p bt bv T1 V ⟨fun u => if u = xt then s.clk ⟨xt, xk, xv⟩ else s.tc u, s.vc⟩ := fun n => HS3.out.1.below ⟨rfl, rfl, rfl, Nat.le_refl _, fun _ _ => rfl⟩
        have hlv : ∀ n, (Instr.lookup 90 (.map (some bv)) (.string xv) false).run Tryd.prog (w3.drewN n) = .ok (.map (V xv)) (w3.drewN n) := fun n => by
          rw [(HS3' n).mv.lookup skey mapTy_vars xv, map_getD]
        have heq := fun (r : Option Nat) (w : World) => run_eql_map_nil (P := Tryd.prog) w 94 _ _ r Tryd.underlying94
        have HS4 := Lib.hid HS3'
        clear HS3' HST
        go_quiet (fail)
        obtain ⟨W4, hW4⟩ : ∃ W4, W4 = w3.drewN nq := ⟨_, rfl⟩
        rw [← hW4]
        have hk4 : CksAt W4 p bt bv T1 V ⟨fun u => if u = xt then s.clk ⟨xt, xk, xv⟩ else s.tc u, s.vc⟩ := by rw [hW4]; exact HS4.out nq
        have hd1' : W4.cell? ⟨p, 1, none⟩ = some (.map (some bv)) := by rw [hW4]; exact hd1
        have hd3' : W4.cell? ⟨w.heap.size, 2, none⟩ = some (.string xv) := by rw [hW4]; exact hd3
        have hf4 : Fr w W4 (Foot bt bv T V) := by rw [hW4]; exact ⟨HS3.out.2.os, HS3.out.2.tape, HS3.out.2.output, HS3.out.2.size, HS3.out.2.block⟩
        have HK4 := Lib.hid hk4
        have HF4 := Lib.hid hf4
        clear hlv hW4 hd1 hd2 hd3 hk4 hf4
        go_upto_if 50 with (fail)
        go_cut [5] (fun s5 wx => s5 = .map (some b) ∧ En3 w wx p bt bv T T1 V ⟨fun u => if u = xt then s.clk ⟨xt, xk, xv⟩ else s.tc u, s.vc⟩ xv)
        case first =>
          cases hV : V xv with
          | none =>
            have HV := Lib.hid hV
            clear hV
            have hmm := @run_makeMap Tryd.prog
            have hbm : Below W4.heap.size W4 (W4.alloc (.map #[] 0)).drew := ((Below.refl _ _).alloc (Nat.le_refl _) _).drew
            have hz6 : ClkAt (W4.alloc (.map #[] 0)).drew W4.heap.size (fun _ => 0) := ClkAt.make W4
            obtain ⟨W6, hrun6, hm6, hg6, hs6⟩ := (HK4.out.below hbm).mv.update skey mapTy_vars xv (.map (some W4.heap.size))
            have hd61 : W6.cell? ⟨p, 1, none⟩ = some (.map (some bv)) := hg6.cell (cell_below hbm hd1') (fun e => HK4.out.p_not (.inr (.inl rfl)) (by injection e))
            have hd62 : W6.cell? ⟨w.heap.size, 2, none⟩ = some (.string xv) := hg6.cell (cell_below hbm hd3') (fun e => by injection e with e; have := H.out.mv.lt; dsimp only at e; omega)
            have H6 := Lib.hid (And.intro hbm (And.intro hz6 (And.intro hm6 hg6)))
            clear hbm hz6 hm6 hg6 hs6
            go_wp2_with fail
            go_region_held3 (fun w' => w'.cell? ⟨p, 1, none⟩ = some (.map (some bv)) ∧ w'.cell? ⟨w.heap.size, 2, none⟩ = some (.string xv)) (go_keep) (fail)
            all_goals
              go_wp2_with fail
              go_meet
              case rel =>
                obtain ⟨g1, g2, g3, g4⟩ := H6.out
                have hbt : w.heap.size ≠ bv := fun e => by have := H.out.mv.lt; omega
                have hw4 := HF4.out.size
                refine ⟨rfl, W4.heap.size, _, if_pos rfl, HK4.out.newV HV.out (Nat.le_refl _) g1 g2 rfl g3 g4, ?_, ?_, ?_⟩
                · exact (HF4.out.trans (Fr.below g1 (fun _ => False)) (fun j h => h.elim)).trans (Fr.grown (F := Foot bt bv T V) g4 (fun k hk => .inl (.inr (.inl (by injection hk with hk; exact hk.symm))))) (fun j h => .inl h)
                · rintro j (rfl | rfl | ht | ⟨x, hx⟩)
                  · exact .inl (.inl rfl)
                  · exact .inl (.inr (.inl rfl))
                  · exact HF.out.2.2 j (.inr (.inr (.inl ht)))
                  · by_cases e : x = xv
                    · simp only [e, if_true, Option.some.injEq] at hx
                      right
                      have := World.block_lt_of_cell? W4 _ hd3'
                      dsimp only at this
                      omega
                    · simp only [if_neg e] at hx
                      exact HF.out.2.2 j (.inr (.inr (.inr ⟨x, hx⟩)))
                · exact g4.cell (cell_below g1 hd3') (fun e => hbt (by injection e))
          | some b2 =>
            have HV := Lib.hid hV
            clear hV
            go_wp2
            go_meet
            case rel => exact ⟨rfl, b2, V, HV.out, HK4.out, HF4.out, HF.out.2.2, hd3'⟩
        case rest =>
          obtain ⟨hs5, b2, V1, hV1, hk5, hf5, hft5, hd5⟩ := hcut
          subst hs5
          have hcc1 := hk5.c1
          have hlv : (Instr.lookup 90 (.map (some bv)) (.string xv) false).run Tryd.prog wc.drew = .ok (.map (some b2)) wc.drew := by
            rw [(hk5.mv.drew).lookup skey mapTy_vars xv, map_getD, hV1]
          have HV1 := Lib.hid hV1
          have HK5 := Lib.hid (And.intro hk5 (And.intro hf5 hft5))
          clear hV1 hk5 hf5 hft5 hd3' hd1' heq
          go_wp2_with fail
          go_still_tail 8, (by kernel_rfl)
          change wpList _ _ _ _ _ wc.drew
          have hck : ClkAt wc.drew b2 (s.vc xv) := HK5.out.1.vc xv b2 HV1.out
          have hcl : ClkAt wc.drew b (s.clk ⟨xt, xk, xv⟩) := by
            have h5 : ClkAt wc b (s.clk ⟨xt, xk, xv⟩) := by have := HK5.out.1.tc xt b HT1.out; simpa using this
            exact h5
          have HCk := Lib.hid (And.intro hck hcl)
          have hor : ClkOr wc.drew (.map (some b)) b2 (s.clk ⟨xt, xk, xv⟩) := .inr ⟨b, rfl, fun e => HK5.out.1.tv xt xv b HT1.out (by rw [e]; exact HV1.out), hcl⟩
          have HOr := Lib.hid hor
          clear hck hcl hor hlv
          go_wp2_with (go_at_call 68; refine (join_any _ b2 (.map (some b)) (s.vc xv) (s.clk ⟨xt, xk, xv⟩) HCk.out.1 HOr.out (fun t => (HBV.out xv t).1)).mono ?_; rintro e w2 ⟨rfl, hcj, hgj⟩)
          go_ret
          have hgj' : wc.grownBy w2 (some b2) := ⟨hgj.os, hgj.tape, hgj.output, hgj.size, hgj.block⟩
          refine ⟨b, T1, V1, rfl, HT1.out, (HK5.out.1.setV HV1.out hgj' hcj).congr (fun t u => ?_) (fun x u => ?_), ?_, HK5.out.2.2⟩
          · simp [CS.enter]
          · by_cases e : x = xv
            · subst e; simp [CS.enter, H4.out]
            · simp [CS.enter, e]
          · refine HK5.out.2.1.trans (Fr.grown (F := fun k => k = b2) hgj' (fun k hk => .inl (by injection hk with hk; exact hk.symm))) (fun j hj => ?_)
            subst hj
            rcases HK5.out.2.2 _ (.inr (.inr (.inr ⟨xv, HV1.out⟩))) with h | h
            · exact .inl h
            · exact .inr (by omega)
      · have h4' : (xk == 4) = false := by simp [h4]
        have H4 := Lib.hid h4
        have HST := Lib.hid hstep
        clear h4 hstep
        go_wp2_with (at_mapUpdate; refine wpList_mapUpdate_at ikey rfl _ _ _ _ rfl mapTy_clock b f1 xt (.int .i64 (c1 xt + 1)) rfl rfl rfl hf1 ?_; intro w3 hm3 hg3 hs3; obtain ⟨HS3, hd1, hd2, hd3⟩ := HST.out w3 hm3 hg3; clear hm3 hg3 hs3 hlb hf1 hb0' hb1'' hb2')
        go_ret
        refine ⟨b, T1, V, rfl, HT1.out, HS3.out.1.congr (fun t u => ?_) (fun x u => ?_), HS3.out.2, HF.out.2.2⟩
        · simp [CS.enter]
        · simp [CS.enter, H4.out]
end Go.Proofs.YtahklchfchjmcaaDoor
