/- What Ordered of package race returns: whether one access happens before another. -/
import Derived.Test.YtahklchfchjmcaaDoorEn
namespace Go.Proofs.YtahklchfchjmcaaDoor
set_option linter.unusedVariables false
set_option linter.unusedSimpArgs false
open Go.RowKit Go.MapKept

theorem CksAt.make (w : World) (ty : TypeId) : CksAt (((w.alloc (.map #[] 0)).alloc (.map #[] 0)).alloc (.cells #[.map (some w.heap.size), .map (some (w.heap.size + 1))] ty)) (w.heap.size + 2) w.heap.size (w.heap.size + 1) (fun _ => none) (fun _ => none) CS.zero where
  c0 := by
    have h := World.cell?_alloc_new ((w.alloc (.map #[] 0)).alloc (.map #[] 0)) #[.map (some w.heap.size), .map (some (w.heap.size + 1))] ty 0
    simp only [World.size_alloc] at h
    exact h
  c1 := by
    have h := World.cell?_alloc_new ((w.alloc (.map #[] 0)).alloc (.map #[] 0)) #[.map (some w.heap.size), .map (some (w.heap.size + 1))] ty 1
    simp only [World.size_alloc] at h
    exact h
  mt := ((MapAt.make w).alloc _).alloc _
  mv := by
    have h := (MapAt.make (enc := senc) (w.alloc (.map #[] 0))).alloc (.cells #[.map (some w.heap.size), .map (some (w.heap.size + 1))] ty)
    simp only [World.size_alloc] at h
    exact h
  tc := fun _ _ h => by cases h
  t0 := fun _ _ _ => rfl
  vc := fun _ _ h => by cases h
  v0 := fun _ _ _ => rfl
  ti := fun _ _ _ h => by cases h
  vi := fun _ _ _ h => by cases h
  tv := fun _ _ _ h => by cases h
  tn := fun _ _ h => by cases h
  vn := fun _ _ h => by cases h
  ne := by omega

/-- The state of a run over accesses, m of them done. -/
def Runs (B p : Nat) (w wr : World) (l : List Acc) (m : Nat) (bt bv : Nat) (T : Int → Option Nat) (V : ByteArray → Option Nat) (s : CS) : Prop :=
  CksAt wr p bt bv T V s ∧ CInv l m s ∧ Below B w wr ∧ (∀ j, Foot bt bv T V j → B ≤ j)

theorem CInv.bd {l : List Acc} {n : Nat} {s : CS} (h : CInv l n s) (hn : n ≤ 100000) : (∀ t u, 0 ≤ s.tc t u ∧ s.tc t u ≤ 100000) ∧ ∀ t u, 0 ≤ s.vc t u ∧ s.vc t u ≤ 100000 :=
  ⟨fun t u => ⟨(h.tb t u).1, by have := (h.tb t u).2; have := cnt_le l n u; omega⟩, fun t u => ⟨(h.vb t u).1, by have := (h.vb t u).2; have := cnt_le l n u; omega⟩⟩

/-- enter, on the way. -/
theorem enter_run {B p : Nat} {w wr : World} {l : List Acc} {m bt bv : Nat} {T : Int → Option Nat} {V : ByteArray → Option Nat} {s : CS} (h : Runs B p w wr l m bt bv T V s) (hB : w.heap.size ≤ B ∨ True) (hBr : B ≤ wr.heap.size) {a : Acc} (ha : l[m]? = some a) (hm : m ≤ 100000) :
    Calls Tryd.prog 48 #[.pointer (some ⟨p, 0, none⟩), .agg a.cells.toArray] wr fun e w' =>
      ∃ b bt' bv' T' V', e = .returned (.map (some b)) ∧ ClkAt w' b (s.clk a) ∧ Runs B p w w' l (m + 1) bt' bv' T' V' (s.enter a) ∧ Fr wr w' (Foot bt bv T V) ∧ (∀ j, Foot bt' bv' T' V' j → Foot bt bv T V j ∨ wr.heap.size < j) := by
  obtain ⟨h1, h2, h3, h4⟩ := h
  have hbd := h2.bd hm
  refine (enter_any wr p bt bv T V s a h1 hbd.1 hbd.2).mono fun e w' ⟨b, T', V', he, hT, hk, hf, hft⟩ => ⟨b, bt, bv, T', V', he, ?_, ⟨hk, h2.enter ha, ?_, ?_⟩, hf, hft⟩
  · have := hk.tc a.task b hT
    simpa [CS.enter] using this
  · exact h3.trans (hf.to_below hBr h4)
  · intro j hj
    rcases hft j hj with h | h
    · exact h4 j h
    · omega


/-- What Ordered returns. -/
def OrdIs (l : List Acc) (i k : Int) (b : Bool) (er : Int) : Prop :=
  if wrongF l ≠ 0 then b = false ∧ er = wrongF l
  else if i < 0 ∨ (l.length : Int) ≤ i ∨ k < 0 ∨ (l.length : Int) ≤ k then b = false ∧ er = 3
  else er = 0 ∧ (b = true ↔ HB l i.toNat k.toNat)

set_option maxRecDepth 100000 in
set_option maxHeartbeats 400000 in
theorem ordered_wrong (w : World) (v : Value) (l : List Acc) (hl : AccAt w v l) (i k : Int) (hw : wrongF l ≠ 0) :
    Calls Tryd.prog 24 #[v, .int .i64 i, .int .i64 k] w fun e w' => e = .returned (.tuple #[.bool false, .int .i64 (wrongF l)]) ∧ Below w.heap.size w w' := by
  have hne : (wrongF l != 0) = true := by simp [hw]
  have hne' : ¬ wrongF l = 0 := hw
  have HW := Lib.hid hw
  have HL := Lib.hid hl
  clear hw hl
  go_enter Tryd.func24, Tryd.ntmps24
  go_wp2_with (go_at_call 47; refine (wrong_any w v l HL.out).mono ?_; rintro e w1 ⟨rfl, hb⟩)
  go_ret2
  exact ⟨rfl, hb⟩

set_option maxRecDepth 100000 in
set_option maxHeartbeats 1000000 in
theorem ordered_range (w : World) (v : Value) (l : List Acc) (hl : AccAt w v l) (i k : Int) (hw : wrongF l = 0) (hr : i < 0 ∨ (l.length : Int) ≤ i ∨ k < 0 ∨ (l.length : Int) ≤ k) :
    Calls Tryd.prog 24 #[v, .int .i64 i, .int .i64 k] w fun e w' => e = .returned (.tuple #[.bool false, .int .i64 3]) ∧ Below w.heap.size w w' := by
  have HW := Lib.hid hw
  have HL := Lib.hid hl
  have hlen : l.length ≤ 9223372036854775807 := by obtain ⟨A, cap, _, h1, h2, _⟩ := hl; omega
  obtain ⟨A, cap, rfl, _⟩ := hl
  clear hw
  by_cases h1 : i < 0
  · clear hr
    go_enter Tryd.func24, Tryd.ntmps24
    go_wp2_with (go_at_call 47; refine (wrong_any w _ l HL.out).mono ?_; rintro e w1 ⟨rfl, hb⟩; rw [HW.out])
    go_ret2
    exact ⟨rfl, hb⟩
  · by_cases h2 : (l.length : Int) ≤ i
    · clear hr
      go_enter Tryd.func24, Tryd.ntmps24
      go_wp2_with (go_at_call 47; refine (wrong_any w _ l HL.out).mono ?_; rintro e w1 ⟨rfl, hb⟩; rw [HW.out])
      go_ret2
      exact ⟨rfl, hb⟩
    · by_cases h3 : k < 0
      · clear hr
        go_enter Tryd.func24, Tryd.ntmps24
        go_wp2_with (go_at_call 47; refine (wrong_any w _ l HL.out).mono ?_; rintro e w1 ⟨rfl, hb⟩; rw [HW.out])
        go_ret2
        exact ⟨rfl, hb⟩
      · have h4 : (l.length : Int) ≤ k := by omega
        clear hr
        go_enter Tryd.func24, Tryd.ntmps24
        go_wp2_with (go_at_call 47; refine (wrong_any w _ l HL.out).mono ?_; rintro e w1 ⟨rfl, hb⟩; rw [HW.out])
        go_ret2
        exact ⟨rfl, hb⟩

/-- What Ordered returns of two accesses that there are. -/
def OrdOut (w w' : World) (l : List Acc) (i k : Nat) (e : Ending) : Prop := ∃ b, e = .returned (.tuple #[.bool b, .int .i64 0]) ∧ (b = true ↔ HB l i k) ∧ Below w.heap.size w w'

/-- What Ordered holds of access i after m accesses. -/
def nAt (l : List Acc) (i m : Nat) : Int := if i < m then cnt l (i + 1) (l.getD i ⟨0, 0, ByteArray.empty⟩).task else 0
theorem nAt_bd (l : List Acc) (i m : Nat) : 0 ≤ nAt l i m := by
  unfold nAt
  split
  · exact cnt_nonneg _ _ _
  · omega
theorem nAt_of {l : List Acc} {i m : Nat} {a : Acc} (h : i < m) (ha : l[i]? = some a) : nAt l i m = cnt l (i + 1) a.task := by
  unfold nAt
  rw [if_pos h, List.getD_eq_getElem?_getD, ha]
  rfl
theorem nAt_ne {l : List Acc} {i m : Nat} (h : m ≠ i) : nAt l i (m + 1) = nAt l i m := by
  unfold nAt
  by_cases e : i < m
  · rw [if_pos e, if_pos (by omega)]
  · rw [if_neg e, if_neg (by omega)]

/-- The state of Ordered's loop. -/
def OrdR (w wr : World) (p : Nat) (l : List Acc) (i k : Nat) (u10 u46 : Value) : Prop :=
  ∃ m bt bv T V s, m ≤ k ∧ u46 = .int .i64 (m : Nat) ∧ Runs w.heap.size p w wr l m bt bv T V s ∧ u10 = .int .i64 (nAt l i m)

set_option maxRecDepth 100000 in
set_option maxHeartbeats 1000000 in
theorem ordered_in (w : World) (v : Value) (l : List Acc) (hl : AccAt w v l) (i k : Nat) (hw : wrongF l = 0) (hi : i < l.length) (hk : k < l.length) :
    Calls Tryd.prog 24 #[v, .int .i64 i, .int .i64 k] w fun e w' => OrdOut w w' l i k e := by
  have hlen : l.length ≤ 20000 := by
    unfold wrongF at hw
    by_cases h : 20000 < l.length
    · rw [if_pos h] at hw; cases hw
    · omega
  have HW := Lib.hid hw
  have HL := Lib.hid hl
  obtain ⟨A, cap, rfl, hcap, hcm, _⟩ := hl
  have hd1 : decide ((i : Int) < 0) = false := by simp
  have hd2 : decide (l.length ≤ i) = false := by simp; omega
  have hd3 : decide ((k : Int) < 0) = false := by simp
  have hd4 : decide (l.length ≤ k) = false := by simp; omega
  clear hw
  go_enter Tryd.func24, Tryd.ntmps24
  have hmm := @run_makeMap Tryd.prog
  go_wp2_with (go_at_call 47; refine (wrong_any w _ l HL.out).mono ?_; rintro e w1 ⟨rfl, hb⟩; rw [HW.out])
  have hinit := CksAt.make w1 92
  have hsz := hb.size
  have HB := Lib.hid hb
  have HI := Lib.hid hinit
  clear hinit hb
  go_loopw [10, 46] (fun u10 u46 wr => OrdR w wr (w1.heap.size + 1 + 1) l i k u10 u46) (fun _ u46 _ => k + 1 - (intOf u46).toNat)
  case atStart =>
    refine ⟨0, _, _, _, _, _, Nat.zero_le _, rfl, ⟨HI.out, CInv.zero l, ?_, ?_⟩, by simp [nAt]⟩
    · exact ((HB.out.alloc hsz _).alloc (by simp; omega) _).alloc (by simp; omega) _
    · rintro j (rfl | rfl | ⟨t, ht⟩ | ⟨x, hx⟩)
      · omega
      · omega
      · cases ht
      · cases hx
  case round =>
    obtain ⟨m, bt, bv, T, V, s, hmk, rfl, hruns, rfl⟩ := hrel
    have hml : m < l.length := by omega
    have hlm : l[m]? = some l[m] := List.getElem?_eq_getElem hml
    have hbw : Below w.heap.size w wr := hruns.2.2.1
    obtain ⟨bb, off, rfl, hcs⟩ := (HL.out.below hbw).elem hml
    have hc0 := hcs 0 _ rfl
    have hc1 := hcs 1 _ rfl
    have hc2 := hcs 2 _ rfl
    rw [Nat.add_zero] at hc0
    generalize ea : l[m] = a at *
    have HE := Lib.hid ea
    have HM := Lib.hid hlm
    have hruns1 : ∀ o, Runs w.heap.size (w1.heap.size + 1 + 1) w (wr.alloc o) l m bt bv T V s := fun o =>
      ⟨hruns.1.below ((Below.refl _ _).alloc (Nat.le_refl _) o), hruns.2.1, hbw.alloc hbw.size o, hruns.2.2.2⟩
    have HR := Lib.hid hruns1
    have hruns0 := Lib.hid hruns
    have hsz2 := hbw.size
    have hcl := nAt_bd l i m
    obtain ⟨xt, xk, xv⟩ := a
    dsimp only at hc0 hc1 hc2
    clear hcs hruns hruns1 ea hlm hbw
    go_upto_if 56 with (go_at_call 48; refine (enter_run (a := ⟨xt, xk, xv⟩) (HR.out _) (.inr trivial) (by simp; omega) HM.out (by omega)).mono ?_; rintro e w2 ⟨b, bt', bv', T', V', rfl, hck, hr2, hfr, hft2⟩)
    -- the variable of the round
    have hx0 : w2.cell? ⟨wr.heap.size, 0, none⟩ = some (.int .i64 xt) := hfr.cell (World.cell?_alloc_new wr _ _ _) (fun e => by
      have := (HR.out (.map #[] 0)).1
      have h2 := hruns0.out.1.lt e
      exact absurd h2 (Nat.lt_irrefl _))
    have hb2 : Below w.heap.size w w2 := hr2.2.2.1
    obtain ⟨bb', off', e', hcs'⟩ := (HL.out.below hb2).elem hi
    injection e' with e'
    injection e' with e1 e2
    subst e1; subst e2
    have hi0 := hcs' 0 _ rfl
    rw [Nat.add_zero] at hi0
    have hl1 := hck.lookup xt
    have hl2 := hck.lookup l[i].task
    have hli : l[i]? = some l[i] := List.getElem?_eq_getElem hi
    generalize ei : l[i] = ai at *
    obtain ⟨yt, yk, yv⟩ := ai
    dsimp only at hi0 hl2
    have HLi := Lib.hid hli
    have HR2 := Lib.hid hr2
    have HCI : Hid (CInv l m s) := (HR.out (.map #[] 0)).2.1
    have HCk := Lib.hid (And.intro hck hfr)
    clear hcs' ei hli hr2 hb2 hc0 hc1 hc2 hck hfr hmm hft2
    by_cases hmi : m = i
    · have hmi' : ((m : Int) == (i : Int)) = true := by simp [hmi]
      have HMI := Lib.hid hmi
      clear hmi
      by_cases hmk2 : m = k
      · have hmk' : ((m : Int) == (k : Int)) = true := by simp [hmk2]
        have hik : decide (i < k) = false := by have := HMI.out; simp; omega
        have HMK := Lib.hid hmk2
        clear hmk2
        go_wp2
        go_ret2
        refine ⟨false, rfl, ?_, HR2.out.2.2.1⟩
        have h1 := HMI.out
        have h2 := HMK.out
        exact ⟨(fun h => nomatch h), (fun h => by have := h.lt; omega)⟩
      · have hmk' : ((m : Int) == (k : Int)) = false := by simp; omega
        have HMK := Lib.hid hmk2
        clear hmk2
        go_wp2
        go_roundw
        case rel =>
          have h1 := HMI.out
          have h2 := HMK.out
          refine ⟨m + 1, _, _, _, _, _, by omega, by go_num, HR2.out, ?_⟩
          rw [nAt_of (by omega) HLi.out]
          have h3 := HM.out
          subst h1
          rw [HLi.out] at h3
          injection h3 with h3
          injection h3 with h4 h5 h6
          subst h4
          have := HCI.out.clk_own HM.out
          dsimp only at this ⊢
          rw [this]
        case measure =>
          have h2 := HMK.out
          simp [intOf]; omega
    · have hmi' : ((m : Int) == (i : Int)) = false := by simp; omega
      have HMI := Lib.hid hmi
      clear hmi
      by_cases hmk2 : m = k
      · have hmk' : ((m : Int) == (k : Int)) = true := by simp [hmk2]
        have HMK := Lib.hid hmk2
        clear hmk2
        by_cases hik : i < k
        · have hik' : decide (i < k) = true := by simp [hik]
          go_wp2
          go_ret2
          have h2 := HMK.out
          subst h2
          refine ⟨decide (nAt l i m ≤ s.clk ⟨xt, xk, xv⟩ yt), rfl, ?_, HR2.out.2.2.1⟩
          have h3 := HCI.out.clk_iff HM.out (Nat.le_of_lt hik) HLi.out
          rw [nAt_of hik HLi.out, decide_eq_true_iff]
          refine h3.trans ⟨fun h => h.resolve_left (Nat.ne_of_lt hik), fun h => .inr h⟩
        · have hik' : decide (i < k) = false := by simp; omega
          go_wp2
          go_ret2
          refine ⟨false, rfl, ⟨(fun h => nomatch h), (fun h => by have := h.lt; omega)⟩, HR2.out.2.2.1⟩
      · have hmk' : ((m : Int) == (k : Int)) = false := by simp; omega
        have HMK := Lib.hid hmk2
        clear hmk2
        go_wp2
        go_roundw
        case rel =>
          have h2 := HMK.out
          exact ⟨m + 1, _, _, _, _, _, by omega, by go_num, HR2.out, by rw [nAt_ne HMI.out]⟩
        case measure =>
          have h2 := HMK.out
          simp [intOf]; omega

/-- Ordered, of whatever list and numbers. -/
def OrdAny (w w' : World) (l : List Acc) (i k : Int) (e : Ending) : Prop := ∃ b er, e = .returned (.tuple #[.bool b, .int .i64 er]) ∧ OrdIs l i k b er ∧ Below w.heap.size w w'

theorem ordered_any (w : World) (v : Value) (l : List Acc) (hl : AccAt w v l) (i k : Int) :
    Calls Tryd.prog 24 #[v, .int .i64 i, .int .i64 k] w fun e w' => OrdAny w w' l i k e := by
  by_cases hw : wrongF l = 0
  · by_cases hr : i < 0 ∨ (l.length : Int) ≤ i ∨ k < 0 ∨ (l.length : Int) ≤ k
    · refine (ordered_range w v l hl i k hw hr).mono fun e w' ⟨h1, h2⟩ => ⟨false, 3, h1, ?_, h2⟩
      unfold OrdIs
      rw [if_neg (by simp [hw]), if_pos hr]
      exact ⟨rfl, rfl⟩
    · obtain ⟨i', rfl⟩ := Int.eq_ofNat_of_zero_le (show 0 ≤ i by omega)
      obtain ⟨k', rfl⟩ := Int.eq_ofNat_of_zero_le (show 0 ≤ k by omega)
      refine (ordered_in w v l hl i' k' hw (by omega) (by omega)).mono fun e w' ⟨b, h1, h2, h3⟩ => ⟨b, 0, h1, ?_, h3⟩
      unfold OrdIs
      rw [if_neg (by simp [hw]), if_neg hr]
      exact ⟨rfl, h2⟩
  · refine (ordered_wrong w v l hl i k hw).mono fun e w' ⟨h1, h2⟩ => ⟨false, wrongF l, h1, ?_, h2⟩
    unfold OrdIs
    rw [if_pos hw]
    exact ⟨rfl, rfl⟩
end Go.Proofs.YtahklchfchjmcaaDoor
