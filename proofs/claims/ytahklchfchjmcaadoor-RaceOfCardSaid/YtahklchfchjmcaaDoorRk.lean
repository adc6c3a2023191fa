/- The reference of race: the walk of its Check, and of what is wrong with accesses. -/
import Derived.Test.YtahklchfchjmcaaDoorBf
namespace Go.Proofs.YtahklchfchjmcaaDoor
set_option linter.unusedVariables false
set_option linter.unusedSimpArgs false
open Go.RowKit Go.MapKept

theorem rtask_any (n : Int) (w : World) : Calls Tryd.prog 44 #[.int .i64 n] w fun e w' => e = .returned (.bool (decide (0 ≤ n) && decide (n ≤ 9999))) ∧ w = w' := by
  by_cases h1 : 0 ≤ n <;> by_cases h2 : n ≤ 9999
  all_goals
    go_enter Tryd.func44, Tryd.ntmps44
    go_wp2
    go_ret
    exact ⟨by simp [h1, h2]; try omega, rfl⟩
theorem rtask_yes (n : Int) (w : World) (h : 0 ≤ n ∧ n ≤ 9999) : Calls Tryd.prog 44 #[.int .i64 n] w fun e w' => e = .returned (.bool true) ∧ w = w' :=
  (rtask_any n w).mono fun e w' ⟨h1, h2⟩ => ⟨by rw [h1]; simp [h], h2⟩
theorem rtask_no (n : Int) (w : World) (h : ¬ (0 ≤ n ∧ n ≤ 9999)) : Calls Tryd.prog 44 #[.int .i64 n] w fun e w' => e = .returned (.bool false) ∧ w = w' :=
  (rtask_any n w).mono fun e w' ⟨h1, h2⟩ => ⟨by rw [h1]; simp only [Ending.returned.injEq, Value.bool.injEq]; rw [← Bool.decide_and]; exact decide_eq_false h, h2⟩

theorem races_at {l : List Acc} {i k : Nat} {a b : Acc} (ha : l[i]? = some a) (hb : l[k]? = some b) (hi : i < k) :
    Races l i k ↔ a.task ≠ b.task ∧ a.var = b.var ∧ DataK a ∧ DataK b ∧ (a.kind = 2 ∨ b.kind = 2) ∧ hbB l k i = false := by
  have h0 : hbB l k i = false ↔ ¬ HB l i k := by rw [← hbB_iff]; simp
  rw [h0]
  constructor
  · rintro ⟨a', b', h1, h2, _, h3⟩
    rw [ha] at h1; rw [hb] at h2
    cases h1; cases h2
    exact h3
  · exact fun h => ⟨a, b, ha, hb, hi, h⟩

theorem rk_new (w : World) (cs : Array Value) (t : TypeId) (j : Nat) : ((w.alloc (.cells cs t))).cell? ⟨w.heap.size, j, none⟩ = cs[j]? := World.cell?_alloc_new w cs t j

/-- The condition as the code has it. -/
theorem races_bool {l : List Acc} {i k : Nat} {xt xk yt yk : Int} {xv yv : ByteArray} (ha : l[i]? = some ⟨xt, xk, xv⟩) (hb : l[k]? = some ⟨yt, yk, yv⟩) (hi : i < k) :
    Races l i k ↔ (xt != yt && (xv.toList == yv.toList) && decide (xk = 1 ∨ xk = 2) && decide (yk = 1 ∨ yk = 2) && (xk == 2 || yk == 2) && !hbB l k i) = true := by
  rw [races_at ha hb hi, bytes_beq]
  simp only [DataK, Bool.and_eq_true, Bool.or_eq_true, bne_iff_ne, beq_iff_eq, decide_eq_true_eq, Bool.not_eq_true', and_assoc]

/-- What the innermost statement reads. -/
structure RkF (w : World) (p q g gk i k : Nat) (xt xk yt yk : Int) (xv yv : ByteArray) (hb : Bool) : Prop where
  p0 : w.cell? ⟨p, 0, none⟩ = some (.int .i64 xt)
  p1 : w.cell? ⟨p, 1, none⟩ = some (.int .i64 xk)
  p2 : w.cell? ⟨p, 2, none⟩ = some (.string xv)
  q0 : w.cell? ⟨q, 0, none⟩ = some (.int .i64 yt)
  q1 : w.cell? ⟨q, 1, none⟩ = some (.int .i64 yk)
  q2 : w.cell? ⟨q, 2, none⟩ = some (.string yv)
  o : w.cell? ⟨g, k, none⟩ = some (.slice (some ⟨gk, 0, none⟩) k k)
  r : w.cell? ⟨gk, i, none⟩ = some (.bool hb)
theorem RkF.below {w w' : World} {p q g gk i k : Nat} {xt xk yt yk : Int} {xv yv : ByteArray} {hb : Bool} (h : RkF w p q g gk i k xt xk yt yk xv yv hb) (hw : Below w.heap.size w w') : RkF w' p q g gk i k xt xk yt yk xv yv hb :=
  ⟨cell_below hw h.p0, cell_below hw h.p1, cell_below hw h.p2, cell_below hw h.q0, cell_below hw h.q1, cell_below hw h.q2, cell_below hw h.o, cell_below hw h.r⟩

/-- At the inner loop's head. -/
def RkI (w wr : World) (l : List Acc) (u : Value) (gs : Nat → Nat) (k : Nat) (u6 : Value) : Prop :=
  ∃ i : Nat, i ≤ k ∧ u6 = .int .i64 i ∧ Below w.heap.size w wr ∧ OutAt wr w.heap.size l u l.length gs ∧ ∀ i', i' < i → ¬ Races l i' k
/-- At the outer loop's head. -/
def RkO (w wr : World) (l : List Acc) (u : Value) (gs : Nat → Nat) (u5 : Value) : Prop :=
  ∃ k : Nat, k ≤ l.length ∧ u5 = .int .i64 k ∧ Below w.heap.size w wr ∧ OutAt wr w.heap.size l u l.length gs ∧ ∀ i k', k' < k → ¬ Races l i k'
def RkOut (w w' : World) (l : List Acc) (e : Ending) : Prop := ∃ f s, e = .returned (.tuple #[.int .i64 f, .int .i64 s]) ∧ CheckIs l f s ∧ Below w.heap.size w w'

set_option maxRecDepth 100000 in
set_option maxHeartbeats 4000000 in
theorem rcheck_any (w : World) (v : Value) (l : List Acc) (hl : AccAt w v l) (hlen : l.length ≤ 20000) :
    Calls Tryd.prog 20 #[v] w fun e w' => RkOut w w' l e := by
  have HL := Lib.hid hl
  obtain ⟨A, cap, rfl, hcap, hcm, _⟩ := hl
  go_enter Tryd.func20, Tryd.ntmps20
  go_wp2_with (go_at_call 22; refine (before_any w _ l HL.out hlen).mono ?_; rintro e w1 ⟨u, gs, rfl, hout, hb⟩)
  have HO := Lib.hid (And.intro hout hb)
  clear hout hb
  go_loopw [5] (fun u5 wr => RkO w wr l u gs u5) (fun u5 _ => l.length - (intOf u5).toNat)
  case atStart => exact ⟨0, Nat.zero_le _, rfl, HO.out.2, HO.out.1, fun i k h => absurd h (by omega)⟩
  case round =>
    obtain ⟨k, hk, rfl, hb, hout, hno⟩ := hrel
    have HNo := Lib.hid hno
    have HOu := Lib.hid (And.intro hout hb)
    clear hno hout hb
    by_cases hlt : k < l.length
    · go_wp2_with fail
      go_loopw [6] (fun u6 wr => RkI w wr l u gs k u6) (fun u6 _ => k - (intOf u6).toNat)
      case atStart => exact ⟨0, Nat.zero_le _, rfl, HOu.out.2, HOu.out.1, fun i h => absurd h (by omega)⟩
      case round =>
        obtain ⟨i, hi, rfl, hb, hout, hni⟩ := hrel
        by_cases hik : i < k
        · obtain ⟨bb, off, rfl, hcs⟩ := (HL.out.below hb).elem (show i < l.length by omega)
          obtain ⟨bb', off', e', hcs'⟩ := (HL.out.below hb).elem hlt
          injection e' with e'
          injection e' with e1 e2
          subst e1; subst e2
          have hc0 := hcs 0 _ rfl
          have hc1 := hcs 1 _ rfl
          have hc2 := hcs 2 _ rfl
          have hd0 := hcs' 0 _ rfl
          have hd1 := hcs' 1 _ rfl
          have hd2 := hcs' 2 _ rfl
          rw [Nat.add_zero] at hc0 hd0
          have hln : l[i]? = some l[i] := List.getElem?_eq_getElem (by omega)
          have hlk : l[k]? = some l[k] := List.getElem?_eq_getElem hlt
          generalize ea : l[i] = a at *
          generalize eb : l[k] = b at *
          have hii : (i : Int) < l.length := by omega
          have hkk : (k : Int) < l.length := by omega
          have hbl := World.block_lt_of_cell? wr _ hc0
          obtain ⟨g, cap3, hu3, hce, hgl⟩ := hout.elem hlt
          have hrn := (hout.row k hlt).1.cell hik
          subst hu3
          have hrl := (hout.row k hlt).1.lt
          obtain ⟨xt, xk, xv⟩ := a
          obtain ⟨yt, yk, yv⟩ := b
          dsimp only at hc0 hc1 hc2 hd0 hd1 hd2 hbl
          have hra := races_bool hln hlk hik
          generalize hhb : hbB l k i = hb0 at *
          have H := Lib.hid (And.intro hb (And.intro hout (And.intro hni hra)))
          clear hcs hcs' ea eb hln hlk hhb hra hb hout hni
          have hikk : (i : Int) < k := by omega
          have hRF : ∀ (p q : Nat) (W : World), Below wr.heap.size wr W → W.cell? ⟨p, 0, none⟩ = some (.int .i64 xt) → W.cell? ⟨p, 1, none⟩ = some (.int .i64 xk) → W.cell? ⟨p, 2, none⟩ = some (.string xv) →
              W.cell? ⟨q, 0, none⟩ = some (.int .i64 yt) → W.cell? ⟨q, 1, none⟩ = some (.int .i64 yk) → W.cell? ⟨q, 2, none⟩ = some (.string yv) → RkF W p q g (gs k) i k xt xk yt yk xv yv hb0 :=
            fun p q W hw a0 a1 a2 b0 b1 b2 => ⟨a0, a1, a2, b0, b1, b2, cell_below hw hce, cell_below hw hrn⟩
          have HRF := Lib.hid hRF
          clear hRF hce hrn
          go_upto_region 8 with fail
          go_cut [7, 8] (fun s7 s8 wx => ∃ p q, s7 = .pointer (some ⟨p, 0, none⟩) ∧ s8 = .pointer (some ⟨q, 0, none⟩) ∧ RkF wx p q g (gs k) i k xt xk yt yk xv yv hb0 ∧ Below wr.heap.size wr wx)
          case first =>
            go_region_held3 (fun w' => w'.cell? ⟨bb, off + i * 3, none⟩ = some (.int .i64 xt) ∧ w'.cell? ⟨bb, off + i * 3 + 1, none⟩ = some (.int .i64 xk) ∧ w'.cell? ⟨bb, off + i * 3 + 2, none⟩ = some (.string xv) ∧
              w'.cell? ⟨bb, off + k * 3, none⟩ = some (.int .i64 yt) ∧ w'.cell? ⟨bb, off + k * 3 + 1, none⟩ = some (.int .i64 yk) ∧ w'.cell? ⟨bb, off + k * 3 + 2, none⟩ = some (.string yv)) (go_keep) (fail)
            all_goals
              go_wp2_with fail
              go_meet
              have hb2 : ∀ o o', Below wr.heap.size wr ((wr.alloc o).alloc o').drew := fun o o' => (((Below.refl _ _).alloc (Nat.le_refl _) _).alloc (by simp) _).drew
              exact ⟨_, _, rfl, rfl, HRF.out _ _ _ (hb2 _ _) (by simp [World.cell?_alloc_lt, World.cell?_alloc_new, rk_new]) (by simp [World.cell?_alloc_lt, rk_new]) (by simp [World.cell?_alloc_lt, rk_new]) (by simp [World.cell?_alloc_lt, rk_new]) (by simp [World.cell?_alloc_lt, rk_new]) (by simp [World.cell?_alloc_lt, rk_new]), hb2 _ _⟩
          case rest =>
            obtain ⟨p, q, hs7, hs8, hrf, hbw⟩ := hcut
            subst hs7; subst hs8
            have HRf := Lib.hid hrf
            have HBW := Lib.hid hbw
            have hszr := H.out.1.size
            obtain ⟨f0, f1, f2, g0, g1, g2, ho, hr⟩ := hrf
            clear hbw HRF hc0 hc1 hc2 hd0 hd1 hd2
            generalize hx1 : (xt != yt) = x1 at *
            generalize hx2 : (xv.toList == yv.toList) = x2 at *
            generalize hx3 : decide (xk = 1 ∨ xk = 2) = x3 at *
            generalize hx4 : decide (yk = 1 ∨ yk = 2) = x4 at *
            generalize hx5 : (xk == 2) = x5 at *
            generalize hx6 : (yk == 2) = x6 at *
            have HX3 := Lib.hid hx3
            have HX4 := Lib.hid hx4
            clear hx3 hx4
            cases x1 with
            | false =>
              go_wp2_with fail
              go_roundw
              case rel => exact ⟨i + 1, by omega, by go_num, H.out.1.trans (HBW.out.mono hszr), H.out.2.1.below HBW.out, fun i' h => (Nat.lt_or_eq_of_le (Nat.le_of_lt_succ h)).elim (H.out.2.2.1 i') (fun e => by subst e; rw [H.out.2.2.2]; simp)⟩
              case measure => simp [intOf]; omega
            | true =>
              cases x2 with
              | false =>
                go_wp2_with fail
                go_roundw
                case rel => exact ⟨i + 1, by omega, by go_num, H.out.1.trans (HBW.out.mono hszr), H.out.2.1.below HBW.out, fun i' h => (Nat.lt_or_eq_of_le (Nat.le_of_lt_succ h)).elim (H.out.2.2.1 i') (fun e => by subst e; rw [H.out.2.2.2]; simp)⟩
                case measure => simp [intOf]; omega
              | true =>
                go_wp2_with fail
                refine (data_any ⟨xt, xk, xv⟩ wc).mono ?_
                rintro e w2 ⟨rfl, hbd⟩
                dsimp only
                rw [HX3.out]
                have HB2 := Lib.hid (HBW.out.trans (hbd.mono HBW.out.size))
                have HR2 := Lib.hid (HRf.out.below hbd)
                clear hbd f0 f1 f2 g0 g1 g2 ho hr
                obtain ⟨f0, f1, f2, g0, g1, g2, ho, hr⟩ := HR2.out
                cases x3 with
                | false =>
                  go_wp2_with fail
                  go_roundw
                  case rel => exact ⟨i + 1, by omega, by go_num, H.out.1.trans (HB2.out.mono hszr), H.out.2.1.below HB2.out, fun i' h => (Nat.lt_or_eq_of_le (Nat.le_of_lt_succ h)).elim (H.out.2.2.1 i') (fun e => by subst e; rw [H.out.2.2.2]; simp)⟩
                  case measure => simp [intOf]; omega
                | true =>
                  go_wp2_with fail
                  refine (data_any ⟨yt, yk, yv⟩ w2).mono ?_
                  rintro e w3 ⟨rfl, hbd⟩
                  dsimp only
                  rw [HX4.out]
                  have HB3 := Lib.hid (HB2.out.trans (hbd.mono HB2.out.size))
                  have HR3 := Lib.hid (HR2.out.below hbd)
                  clear hbd f0 f1 f2 g0 g1 g2 ho hr
                  obtain ⟨f0, f1, f2, g0, g1, g2, ho, hr⟩ := HR3.out
                  cases x4 with
                  | false =>
                    go_wp2_with fail
                    go_roundw
                    case rel => exact ⟨i + 1, by omega, by go_num, H.out.1.trans (HB3.out.mono hszr), H.out.2.1.below HB3.out, fun i' h => (Nat.lt_or_eq_of_le (Nat.le_of_lt_succ h)).elim (H.out.2.2.1 i') (fun e => by subst e; rw [H.out.2.2.2]; simp)⟩
                    case measure => simp [intOf]; omega
                  | true =>
                    cases x5 <;> cases x6 <;> cases hb0
                    all_goals
                      go_wp2_with fail
                      first
                        | (go_ret2
                           exact ⟨i, k, rfl, .inr ⟨i, k, rfl, rfl, H.out.2.2.2.2 rfl, HNo.out, H.out.2.2.1⟩, H.out.1.trans (HB3.out.mono hszr)⟩)
                        | (go_roundw
                           case rel => exact ⟨i + 1, by omega, by go_num, H.out.1.trans (HB3.out.mono hszr), H.out.2.1.below HB3.out, fun i' h => (Nat.lt_or_eq_of_le (Nat.le_of_lt_succ h)).elim (H.out.2.2.1 i') (fun e => by subst e; rw [H.out.2.2.2]; simp)⟩
                           case measure => simp [intOf]; omega)
        · have hik' : i = k := by omega
          have H := Lib.hid (And.intro hb (And.intro hout (And.intro hni hik')))
          clear hb hout hni hik'
          go_wp2
          go_roundw
          case rel =>
            obtain ⟨h1, h2, h3, h4⟩ := H.out
            subst h4
            refine ⟨i + 1, by omega, by go_num, h1, h2, fun i' k' hk' => ?_⟩
            by_cases e : k' = i
            · subst e
              intro hR
              exact h3 i' (races_lt hR).1 hR
            · exact HNo.out i' k' (by omega)
          case measure => simp [intOf]; omega
    · go_wp2
      go_ret2
      have h1 := HNo.out
      have e : k = l.length := by omega
      rw [e] at h1
      exact ⟨-1, -1, rfl, check_end h1, HOu.out.2⟩
end Go.Proofs.YtahklchfchjmcaaDoor
