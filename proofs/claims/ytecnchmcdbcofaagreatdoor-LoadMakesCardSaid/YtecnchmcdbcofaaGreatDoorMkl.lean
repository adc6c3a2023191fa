/- The law's next: six numbers in a list, and the call that is made of them. -/
import Derived.Test.YtecnchmcdbcofaaGreatDoorMkw
set_option linter.unusedVariables false
set_option linter.unusedSimpArgs false
namespace Go.Proofs.YtecnchmcdbcofaaGreatDoor
open Go.RowKit Go.MapKept
def numsL (s : Int) (i : Nat) : List Int := (List.range i).map (numAt s)
theorem numsL_succ (s : Int) (i : Nat) : numsL s (i + 1) = numsL s i ++ [numAt s i] := by simp [numsL, List.range_succ]
theorem numsL_len (s : Int) (i : Nat) : (numsL s i).length = i := by simp [numsL]
theorem OwnN.six {W : World} {B : Nat} {v : Value} {s : Int} (h : OwnN W B v (numsL s 6)) : ∃ g cap, v = .slice (some ⟨g, 0, Option.none⟩) 6 cap ∧ B ≤ g ∧ g < W.heap.size ∧ ∀ i, i < 6 → W.cell? ⟨g, i, Option.none⟩ = some (.int .i64 (numAt s i)) := by
  have hs := h.sl
  rcases h.2 with ⟨_, h0⟩ | ⟨g, cap, cur, rfl, hg, hb, hc, hm, r, t⟩
  · cases h0
  · refine ⟨g, cap, rfl, hg, (Array.getElem?_eq_some_iff.1 hb).1, fun i hi => ?_⟩
    obtain ⟨bb, off, e, hcs⟩ := hs.elem (k := i) (by simpa [numsL] using hi)
    injection e with e
    injection e with e1 e2 e3
    subst e1; subst e2
    have := hcs 0 (.int .i64 (numAt s i)) (by simp [numCells, numsL])
    simpa using this
/-- the configuration's cells -/
structure ConfAt (w : World) (b : Nat) (c : LC) : Prop where
  lt : b < w.heap.size
  c0 : w.cell? ⟨b, 0, none⟩ = some (.int .u64 c.seed)
  c1 : w.cell? ⟨b, 1, none⟩ = some (.int .i64 c.keys)
  c2 : w.cell? ⟨b, 2, none⟩ = some (.int .i64 c.items)
  c3 : w.cell? ⟨b, 3, none⟩ = some (.int .i64 c.reads)
theorem ConfAt.below {w w' : World} {b B : Nat} {c : LC} (h : ConfAt w b c) (hb : Below B w w') (hB : b < B) : ConfAt w' b c :=
  ⟨Nat.lt_of_lt_of_le h.lt hb.size, (hb.cell (p := ⟨b, 0, none⟩) hB).trans h.c0, (hb.cell (p := ⟨b, 1, none⟩) hB).trans h.c1, (hb.cell (p := ⟨b, 2, none⟩) hB).trans h.c2, (hb.cell (p := ⟨b, 3, none⟩) hB).trans h.c3⟩
theorem ConfAt.kbut {w w' : World} {b p : Nat} {c : LC} (h : ConfAt w b c) (hk : Kbut p w w') (hp : b ≠ p) : ConfAt w' b c :=
  ⟨Nat.lt_of_lt_of_le h.lt hk.size, (hk.cell (q := ⟨b, 0, none⟩) h.lt hp).trans h.c0, (hk.cell (q := ⟨b, 1, none⟩) h.lt hp).trans h.c1, (hk.cell (q := ⟨b, 2, none⟩) h.lt hp).trans h.c2, (hk.cell (q := ⟨b, 3, none⟩) h.lt hp).trans h.c3⟩
theorem ConfAt.new (w : World) (c : LC) (t : TypeId) : ConfAt (w.alloc (.cells #[.int .u64 c.seed, .int .i64 c.keys, .int .i64 c.items, .int .i64 c.reads] t)) w.heap.size c :=
  ⟨by show w.heap.size < (w.heap.push _).size; rw [Array.size_push]; omega, new_cells _ _ _ 0, new_cells _ _ _ 1, new_cells _ _ _ 2, new_cells _ _ _ 3⟩
/-- the call that is being made -/
structure XAt (w : World) (X : Nat) (x : CV) : Prop where
  lt : X < w.heap.size
  rng : w.rangeAt X 0 x.cells
  thr : w.there X 0 6
theorem XAt.below {w w' : World} {X : Nat} {x : CV} (h : XAt w X x) (hb : Below w.heap.size w w') : XAt w' X x :=
  ⟨Nat.lt_of_lt_of_le h.lt hb.size, fun j v hj => (hb.cell (p := ⟨X, 0 + j, none⟩) h.lt).trans (h.rng j v hj), fun j hj => by
    rw [hb.cell (p := ⟨X, 0 + j, none⟩) h.lt, hb.frozen (p := ⟨X, 0 + j, none⟩) h.lt]
    exact h.thr j hj⟩
theorem XAt.new (w : World) (x : CV) (t : TypeId) : XAt (w.alloc (.cells x.arr t)) w.heap.size x :=
  ⟨by show w.heap.size < (w.heap.push _).size; rw [Array.size_push]; omega, fun j v hj => by rw [Nat.zero_add, new_cells]; simpa [CV.cells] using hj, there_new (heap_alloc_new _ _) 6 (by simp [CV.arr])⟩
theorem XAt.set {w : World} {X : Nat} {x : CV} (h : XAt w X x) (i : Nat) (v : Value) (y : CV) (hi : i < 6) (hy : y.cells = x.cells.set i v) : XAt (w.setCell ⟨X, i, none⟩ v) X y := by
  refine ⟨by rw [World.size_setCell]; exact h.lt, fun j u hj => ?_, World.there_setCells h.thr X i [v]⟩
  rw [hy] at hj
  have h6 : x.cells.length = 6 := rfl
  by_cases e : j = i
  · subst e
    rw [Nat.zero_add]
    rw [List.getElem?_set_self (by omega)] at hj
    obtain ⟨u0, hu0⟩ := Option.isSome_iff_exists.1 (h.thr j hi).1
    rw [Nat.zero_add] at hu0
    rw [World.cell?_setCell_same _ _ _ hu0, hj]
  · rw [List.getElem?_set_ne (fun h => e h.symm)] at hj
    rw [World.cell?_setCell_other _ _ _ _ (fun h => by injection h with h1 h2; omega)]
    exact h.rng j u hj
theorem XAt.kbut_set (w : World) (X i : Nat) (v : Value) : Kbut X w (w.setCell ⟨X, i, none⟩ v) := (Kbut.refl X w).set i v
def EndOk (w W : World) (R X : Nat) (x : CV) : Prop :=
  ∃ W2, (Instr.loadAt 33 (.pointer (some ⟨X, 0, none⟩))).run Tryz.prog W = .ok (.agg x.arr) W ∧ (Instr.storeAt 33 (.pointer (some ⟨R, 0, none⟩)) (.agg x.arr)).run Tryz.prog W = .ok () W2 ∧ (loadVar 33 ⟨R, 0, none⟩).run Tryz.prog W2 = .ok (.agg x.arr) W2 ∧ Below w.heap.size w W2
theorem endok {w W : World} {R X : Nat} {x : CV} (hx : XAt W X x) (ht : W.there R 0 6) (hb : Below w.heap.size w W) (hR : w.heap.size ≤ R) : EndOk w W R X x :=
  ⟨W.setCells R 0 x.cells, run_loadAt_cv W X 0 x hx.rng, run_store_cv W R 0 x ht, run_load_cv _ R 0 x (World.rangeAt_setCells_same W R 0 x.cells ht), hb.trans ((kbut_sets_refl R x.cells 0 W).below hR hb.size)⟩
theorem info_num : (Tryz.prog.info? 3).map (fun i => (i.zero, i.size, i.bytes)) = some (some (.int .i64 0), 1, 8) := by kernel_rfl
set_option maxRecDepth 100000 in
set_option maxHeartbeats 1000000 in
theorem lawnext_any (w : World) (c : LC) (s : Int) (hc : c.Ok) (hE : Env w) : Calls Tryz.prog 27 #[.agg c.arr, .int .u64 s] w fun e w' => e = .returned (.tuple #[.agg (nextF c s).arr, .int .u64 (stateF s)]) ∧ Below w.heap.size w w' := by
  have HD : Hid (∀ n : Int, 0 ≤ n → n < 1000 → ∀ W, Below w.heap.size w W → Calls Tryz.prog 63 #[.int .i64 n] W fun e w' => e = .returned (.string (itoaB n)) ∧ Below W.heap.size W w') := Lib.hid fun n h0 h1 W hW => by
    obtain ⟨k, rfl⟩ := Int.eq_ofNat_of_zero_le h0
    exact decimal_any k (by omega) W (hE.below hW)
  clear hE
  obtain ⟨ii, hi0, hi1, hi2, hi3⟩ := info_parts info_num
  have HCF : Hid (∀ wa : World, ConfAt (wa.alloc (.cells #[.int .u64 c.seed, .int .i64 c.keys, .int .i64 c.items, .int .i64 c.reads] 57)) wa.heap.size c) := Lib.hid fun wa => ConfAt.new wa c _
  obtain ⟨args, ha⟩ : ∃ a, c.arr = a := ⟨_, rfl⟩
  unfold LC.arr at ha
  rw [show c.arr = args from ha]
  subst ha
  go_enter Tryz.func27, Tryz.ntmps27
  go_wp2_with fail
  have hcf0 := HCF.out w
  have hb0 : Below w.heap.size w ((w.alloc (.cells #[.int .u64 c.seed, .int .i64 c.keys, .int .i64 c.items, .int .i64 c.reads] 57)).alloc (.cells #[.int .i64 0, .string ⟨#[]⟩, .string ⟨#[]⟩, .string ⟨#[]⟩, .int .i64 0, .slice none 0 0] 33)) := nbl_al (below_alloc _ _)
  have hr0 : ((w.alloc (.cells #[.int .u64 c.seed, .int .i64 c.keys, .int .i64 c.items, .int .i64 c.reads] 57)).alloc (.cells #[.int .i64 0, .string ⟨#[]⟩, .string ⟨#[]⟩, .string ⟨#[]⟩, .int .i64 0, .slice none 0 0] 33)).heap[w.heap.size + 1]? = some (.cells #[.int .i64 0, .string ⟨#[]⟩, .string ⟨#[]⟩, .string ⟨#[]⟩, .int .i64 0, .slice none 0 0] 33 (0, 0)) := by
    rw [← show (w.alloc (.cells #[.int .u64 c.seed, .int .i64 c.keys, .int .i64 c.items, .int .i64 c.reads] 57)).heap.size = w.heap.size + 1 from Array.size_push _]
    exact heap_alloc_new _ _
  have hz0 : ((w.alloc (.cells #[.int .u64 c.seed, .int .i64 c.keys, .int .i64 c.items, .int .i64 c.reads] 57)).alloc (.cells #[.int .i64 0, .string ⟨#[]⟩, .string ⟨#[]⟩, .string ⟨#[]⟩, .int .i64 0, .slice none 0 0] 33)).heap.size = w.heap.size + 2 := by simp
  have hc0 : ConfAt ((w.alloc (.cells #[.int .u64 c.seed, .int .i64 c.keys, .int .i64 c.items, .int .i64 c.reads] 57)).alloc (.cells #[.int .i64 0, .string ⟨#[]⟩, .string ⟨#[]⟩, .string ⟨#[]⟩, .int .i64 0, .slice none 0 0] 33)) w.heap.size c := hcf0.below (below_alloc _ _) (by simp)
  generalize ((w.alloc (.cells #[.int .u64 c.seed, .int .i64 c.keys, .int .i64 c.items, .int .i64 c.reads] 57)).alloc (.cells #[.int .i64 0, .string ⟨#[]⟩, .string ⟨#[]⟩, .string ⟨#[]⟩, .int .i64 0, .slice none 0 0] 33)) = w0 at *
  have HZ0 := Lib.hid hz0
  have HB0 := Lib.hid hb0
  have HC0 := Lib.hid hc0
  have HR0 := Lib.hid hr0
  clear hcf0 HCF hz0 hb0 hc0 hr0
  go_loopg [1, 6, 7] 6 (fun gf u1 u6 u7 wx => ∃ i : Nat, u1 = .int .u64 (lcgs s i) ∧ u7 = .int .i64 (i : Int) ∧ i + gf = 6 ∧ OwnN wx w0.heap.size u6 (numsL s i) ∧ Below w0.heap.size w0 wx)
  case atStart => exact ⟨0, rfl, rfl, by omega, OwnN.none _ _, .refl _ _⟩
  case round =>
    obtain ⟨i, rfl, rfl, hi, hO, hbw⟩ := hrel
    have HO := Lib.hid hO
    have HW := Lib.hid hbw
    clear hO hbw
    by_cases hlt : i < 6
    · obtain ⟨g', rfl⟩ : ∃ g', gk = g' + 1 := ⟨gk - 1, by omega⟩
      have eL : IntKind.u64.wrap (IntKind.u64.wrap (6364136223846793005 * lcgs s i) + 1442695040888963407) = lcgs s (i + 1) := by
        simp only [IntKind.wrap_u64]
        show _ = lcg (lcgs s i)
        unfold lcg
        omega
      have eD : IntKind.u64.wrap ((lcgs s (i + 1)).tdiv 8589934592) = numAt s i := by
        have := lcgs_bound s i
        rw [Int.tdiv_eq_ediv_of_nonneg this.1]
        simp only [IntKind.wrap_u64]
        unfold numAt
        omega
      have eN : wrap64 (numAt s i) = numAt s i := by
        have := numAt_bound s i
        rw [Go.IntWalk.wrap64_in _ ⟨by omega, by omega⟩]
      have HX : Hid (numsL s (i + 1) = numsL s i ++ [numAt s i]) := Lib.hid (numsL_succ s i)
      have HT1 : Hid (lcgs s (i + 1) = lcgs s (i + 1)) := Lib.hid rfl
      obtain ⟨t1, h1⟩ : ∃ t1, lcgs s (i + 1) = t1 := ⟨_, rfl⟩
      have HT := Lib.hid h1
      rw [h1] at eL eD
      clear h1 HT1
      generalize numAt s i = t2 at *
      generalize lcgs s i = t0 at *
      have hfin : (wr.alloc (.cells #[.int .i64 t2] 3)).ownsRow w0.heap.size 3 1 u6 i ((numsL s i).flatMap numCells) ∧ w0.heap.size ≤ wr.heap.size ∧
          ∀ gg cap w6, w6.ownsRow w0.heap.size 3 1 (.slice (some ⟨gg, 0, none⟩) (i + 1) cap) (i + 1) ((numsL s i).flatMap numCells ++ [.int .i64 t2]) → (wr.alloc (.cells #[.int .i64 t2] 3)).grownBy w6 u6.ownBlock →
            OwnN w6 w0.heap.size (.slice (some ⟨gg, 0, none⟩) (i + 1) cap) (numsL s (i + 1)) ∧ Below w0.heap.size w0 w6 := by
        have hb : Below wr.heap.size wr (wr.alloc (.cells #[.int .i64 t2] 3)) := below_alloc _ _
        have ho : (wr.alloc (.cells #[.int .i64 t2] 3)).ownsRow w0.heap.size 3 1 u6 i ((numsL s i).flatMap numCells) := by
          have := OwnN.below HO.out hb
          unfold OwnN at this
          rw [numsL_len] at this
          exact this
        have hb2 := nbl_step HW.out hb
        refine ⟨ho, HW.out.size, fun gg cap w6 h1 h2 => ?_⟩
        generalize wr.alloc (.cells #[.int .i64 t2] 3) = wz at *
        refine ⟨?_, hb2.grown h2 hb2.size fun g hg => (own_block ho hg).1⟩
        rw [HX.out]
        refine OwnN.snoc ?_
        rw [numsL_len]
        exact h1
      have HA := Lib.hid hfin
      clear hfin HX
      go_wp2_with (first | (at_builtin; refine wpList_append_lies _ rfl (.tmp 18) (.tmp 22) _ rfl w0.heap.size 3 ii _ 1 8 Tryz.underlying27 hi0 hi1 hi2 hi3 rfl (by omega) u6 i ((numsL s i).flatMap numCells) rfl HA.out.1 ⟨wr.heap.size, 0, none⟩ 1 1 [.int .i64 t2] rfl rfl (World.news_of_block (cs := #[.int .i64 t2]) (t := 3) (fr := (0, 0)) (heap_alloc_new _ _)) (by simp [Value.oneCell']) (by omega) (by simp [maxLen]; omega) (by omega) (by have := HA.out.2.1; simp; omega) (wr.heap.size + 1) (by simp) ?_; intro gg cap1 w6 hown1 hgrow hat hlt1; have HG := Lib.hid (HA.out.2.2 gg cap1 w6 hown1 hgrow); clear hown1 hgrow hat hlt1))
      go_roundg g'
      case measure => omega
      case rel => exact ⟨i + 1, by rw [HT.out], by go_num, by omega, HG.out.1, HG.out.2⟩
    · have e : i = 6 := by omega
      subst e
      obtain ⟨g, cap, rfl, hg1, hg2, hN⟩ := HO.out.six
      have HGG : Hid (w0.heap.size ≤ g ∧ g < wr.heap.size) := Lib.hid ⟨hg1, hg2⟩
      have HNN := Lib.hid hN
      clear hg1 hg2 hN HO
      have HF : Hid (nextF c s = if numAt s 0 % 1000 < c.reads then (⟨4, ⟨#[107]⟩ ++ itoaB (keyNo c s), ⟨#[]⟩, ⟨#[]⟩, 0⟩ : CV)
        else if numAt s 5 % 10 ≤ 4 then ⟨1, ⟨#[107]⟩ ++ itoaB (keyNo c s), ⟨#[]⟩, ⟨#[105]⟩ ++ itoaB (itemNo c s), numAt s 4 % 9 + 1⟩
        else if numAt s 5 % 10 ≤ 6 then ⟨2, ⟨#[107]⟩ ++ itoaB (keyNo c s), ⟨#[]⟩, ⟨#[105]⟩ ++ itoaB (itemNo c s), numAt s 4 % 9 + 1⟩
        else if numAt s 5 % 10 = 7 then ⟨3, ⟨#[107]⟩ ++ itoaB (keyNo c s), ⟨#[]⟩, ⟨#[105]⟩ ++ itoaB (itemNo c s), 0⟩
        else if numAt s 5 % 10 = 8 then ⟨6, ⟨#[107]⟩ ++ itoaB (keyNo c s), ⟨#[119]⟩ ++ itoaB (keyNo c s), ⟨#[105]⟩ ++ itoaB (itemNo c s), 0⟩
        else ⟨7, ⟨#[107]⟩ ++ itoaB (keyNo c s), ⟨#[119]⟩ ++ itoaB (keyNo c s), ⟨#[]⟩, 0⟩) := Lib.hid rfl
      have HSZ1 : Hid ((itoaB (keyNo c s)).size ≤ 21) := Lib.hid (itoaB_size _ (by have := keyNo_bound hc s; omega) (by have := keyNo_bound hc s; omega))
      have HSZ2 : Hid ((itoaB (itemNo c s)).size ≤ 21) := Lib.hid (itoaB_size _ (by have := itemNo_bound hc s; omega) (by have := itemNo_bound hc s; omega))
      have HI1 := Lib.hid (HD.out _ (keyNo_bound hc s).1 (keyNo_bound hc s).2)
      have HI2 := Lib.hid (HD.out _ (itemNo_bound hc s).1 (itemNo_bound hc s).2)
      have HKN : Hid (keyNo c s = numAt s 1 % c.keys % (numAt s 2 % c.keys + 1)) := Lib.hid rfl
      have HIN : Hid (itemNo c s = numAt s 3 % c.items) := Lib.hid rfl
      generalize itoaB (keyNo c s) = S1 at *
      generalize itoaB (itemNo c s) = S2 at *
      generalize keyNo c s = kn at *
      generalize itemNo c s = jn at *
      have N0 := Lib.hid (HNN.out 0 (by omega))
      have N1 := Lib.hid (HNN.out 1 (by omega))
      have N2 := Lib.hid (HNN.out 2 (by omega))
      have N3 := Lib.hid (HNN.out 3 (by omega))
      have N4 := Lib.hid (HNN.out 4 (by omega))
      have N5 := Lib.hid (HNN.out 5 (by omega))
      have B0 := Lib.hid (numAt_bound s 0)
      have B1 := Lib.hid (numAt_bound s 1)
      have B2 := Lib.hid (numAt_bound s 2)
      have B3 := Lib.hid (numAt_bound s 3)
      have B4 := Lib.hid (numAt_bound s 4)
      have B5 := Lib.hid (numAt_bound s 5)
      have HS6 : Hid (stateF s = lcgs s 6) := Lib.hid rfl
      generalize lcgs s 6 = s6 at *
      generalize numAt s 0 = a0 at *
      generalize numAt s 1 = a1 at *
      generalize numAt s 2 = a2 at *
      generalize numAt s 3 = a3 at *
      generalize numAt s 4 = a4 at *
      generalize numAt s 5 = a5 at *
      have HCX : Hid (ConfAt wr w.heap.size c) := Lib.hid (HC0.out.below HW.out (by have := HZ0.out; omega))
      have K1 := Lib.hid HCX.out.c1
      have K2 := Lib.hid HCX.out.c2
      have K3 := Lib.hid HCX.out.c3
      have HB : Hid (1 ≤ c.keys ∧ c.keys ≤ 1000 ∧ 1 ≤ c.items ∧ c.items ≤ 100 ∧ 0 ≤ c.reads ∧ c.reads ≤ 1000) := Lib.hid ⟨hc.k1, hc.k2, hc.i1, hc.i2, hc.r1, hc.r2⟩
      clear HCX hc HNN
      generalize c.keys = K at *
      generalize c.items = I at *
      generalize c.reads = D at *
      have HWW : Hid (Below w.heap.size w wr) := Lib.hid (nbl_step HB0.out HW.out)
      have n1 := N1.out
      have n2 := N2.out
      have k1 := K1.out
      obtain ⟨x1, e1, X1⟩ : ∃ x1, a1.tmod K = x1 ∧ Hid (x1 = a1 % K ∧ 0 ≤ x1) := ⟨_, rfl, Lib.hid ⟨Int.tmod_eq_emod_of_nonneg B1.out.1, by rw [Int.tmod_eq_emod_of_nonneg B1.out.1]; exact Int.emod_nonneg _ (by have := HB.out; omega)⟩⟩
      obtain ⟨x2, e2, X2⟩ : ∃ x2, a2.tmod K = x2 ∧ Hid (x2 = a2 % K ∧ 0 ≤ x2 ∧ x2 < 1000) := ⟨_, rfl, Lib.hid (by
        have hb := HB.out
        rw [Int.tmod_eq_emod_of_nonneg B2.out.1]
        have := Int.emod_lt_of_pos a2 (show 0 < K by omega)
        have := Int.emod_nonneg a2 (show K ≠ 0 by omega)
        exact ⟨rfl, by omega, by omega⟩)⟩
      have hk0 : ¬ K = 0 := by have := HB.out; omega
      have g3 : ¬ x2 + 1 = 0 := by have := X2.out; omega
      have g3b : decide (x2 + 1 = 0) = false := decide_eq_false g3
      have g3c : (x2 + 1 == 0) = false := beq_eq_false_iff_ne.2 g3
      have g3e : IntKind.i64.wrap (x2 + 1) = x2 + 1 := by have := X2.out; rw [IntKind.wrap_i64]; omega
      have e3 : x1.tmod (x2 + 1) = kn := by rw [Int.tmod_eq_emod_of_nonneg X1.out.2, HKN.out, X1.out.1, X2.out.1]
      go_wp2_with fail
      go_region_held3 (fun w' => w'.cell? ⟨g, 1, none⟩ = some (.int .i64 a1) ∧ w'.cell? ⟨g, 2, none⟩ = some (.int .i64 a2) ∧ w'.cell? ⟨w.heap.size, 1, none⟩ = some (.int .i64 K)) (go_keep) (first | (go_at_call 63; refine (HI1.out _ (nbl_step HWW.out (Below.refl _ _).drew)).mono ?_; rintro e w8 ⟨rfl, hb8⟩; have HB8 := Lib.hid hb8; have m1 : w8.cell? ⟨g, 1, none⟩ = some (.int .i64 a1) := cell_below hb8 n1; have m2 : w8.cell? ⟨g, 2, none⟩ = some (.int .i64 a2) := cell_below hb8 n2; have m3 : w8.cell? ⟨w.heap.size, 1, none⟩ = some (.int .i64 K) := cell_below hb8 k1; clear hb8) | fail)
      clear n1 n2 k1 m1 m2 m3 e1 e2 e3 g3 g3b g3c g3e hk0
      have HB9 : Hid (Below wr.heap.size wr w8) := Lib.hid (nbl_step (Below.refl _ _).drew HB8.out)
      have z1 : ¬ (9223372036854775807 < 1 + S1.size) := by have := HSZ1.out; omega
      have z1b : ¬ (9223372036854775807 < S1.size + 1) := by have := HSZ1.out; omega
      have n5 : (w8.alloc (.cells #[.int .i64 0, .string (⟨#[107]⟩ ++ S1), .string ⟨#[]⟩, .string ⟨#[]⟩, .int .i64 0, .slice none 0 0] 33)).cell? ⟨g, 5, none⟩ = some (.int .i64 a5) := cell_below (below_alloc _ _) (cell_below HB9.out N5.out)
      obtain ⟨x5, e6, X5⟩ : ∃ x5, a5.tmod 10 = x5 ∧ Hid (x5 = a5 % 10) := ⟨_, rfl, Lib.hid (Int.tmod_eq_emod_of_nonneg B5.out.1)⟩
      go_wp2_with fail
      have hx9 : XAt (w8.alloc (.cells #[.int .i64 0, .string (⟨#[107]⟩ ++ S1), .string ⟨#[]⟩, .string ⟨#[]⟩, .int .i64 0, .slice none 0 0] 33)) w8.heap.size ⟨0, ⟨#[107]⟩ ++ S1, ⟨#[]⟩, ⟨#[]⟩, 0⟩ := XAt.new w8 (⟨0, (⟨#[107]⟩ : ByteArray) ++ S1, ⟨#[]⟩, ⟨#[]⟩, 0⟩ : CV) _
      have hb9 : Below wr.heap.size wr (w8.alloc (.cells #[.int .i64 0, .string (⟨#[107]⟩ ++ S1), .string ⟨#[]⟩, .string ⟨#[]⟩, .int .i64 0, .slice none 0 0] 33)) := nbl_al HB9.out
      have HXX : Hid (wr.heap.size ≤ w8.heap.size) := Lib.hid HB9.out.size
      clear n5 HB9 HB8
      generalize (w8.alloc (.cells #[.int .i64 0, .string (⟨#[107]⟩ ++ S1), .string ⟨#[]⟩, .string ⟨#[]⟩, .int .i64 0, .slice none 0 0] 33)) = w9 at *
      generalize w8.heap.size = X at *
      have HX9 := Lib.hid hx9
      have HB9 := Lib.hid hb9
      clear hx9 hb9
      obtain ⟨x0, e0, X0⟩ : ∃ x0, a0.tmod 1000 = x0 ∧ Hid (x0 = a0 % 1000) := ⟨_, rfl, Lib.hid (Int.tmod_eq_emod_of_nonneg B0.out.1)⟩
      have n0 : w9.cell? ⟨g, 0, none⟩ = some (.int .i64 a0) := cell_below HB9.out N0.out
      have k3 : w9.cell? ⟨w.heap.size, 3, none⟩ = some (.int .i64 D) := cell_below HB9.out K3.out
      have HEND : Hid (∀ W x, Kbut X w9 W → XAt W X x → EndOk w W (w.heap.size + 1) X x) := Lib.hid fun W x hk hx => by
        have hb : Below w.heap.size w W := ((nbl_step HWW.out HB9.out).trans (hk.below (by have := HXX.out; have := HWW.out.size; omega) (nbl_step HWW.out HB9.out).size))
        have hlt : w.heap.size + 1 < wr.heap.size := by have := HGG.out; have := HZ0.out; have := HW.out.size; omega
        refine endok hx (there_new (((hk.block (w.heap.size + 1) (Nat.lt_of_lt_of_le hlt HB9.out.size) (by have := HXX.out; omega)).trans (HB9.out.block _ hlt)).trans ((HW.out.block (w.heap.size + 1) (by have := HZ0.out; omega)).trans HR0.out)) 6 (by decide)) hb (by omega)
      have HEND : Hid (∀ W x, Kbut X w9 W → XAt W X x → EndOk w W (w.heap.size + 1) X x) := Lib.hid fun W x hk hx => by
        have hb : Below w.heap.size w W := ((nbl_step HWW.out HB9.out).trans (hk.below (by have := HXX.out; have := HWW.out.size; omega) (nbl_step HWW.out HB9.out).size))
        have hlt : w.heap.size + 1 < wr.heap.size := by have := HGG.out; have := HZ0.out; have := HW.out.size; omega
        refine endok hx (there_new (((hk.block (w.heap.size + 1) (Nat.lt_of_lt_of_le hlt HB9.out.size) (by have := HXX.out; omega)).trans (HB9.out.block _ hlt)).trans ((HW.out.block (w.heap.size + 1) (by have := HZ0.out; omega)).trans HR0.out)) 6 (by decide)) hb (by omega)
      have HEND : Hid (∀ W x, Kbut X w9 W → XAt W X x → EndOk w W (w.heap.size + 1) X x) := Lib.hid fun W x hk hx => by
        have hb : Below w.heap.size w W := ((nbl_step HWW.out HB9.out).trans (hk.below (by have := HXX.out; have := HWW.out.size; omega) (nbl_step HWW.out HB9.out).size))
        have hlt : w.heap.size + 1 < wr.heap.size := by have := HGG.out; have := HZ0.out; have := HW.out.size; omega
        refine endok hx (there_new (((hk.block (w.heap.size + 1) (Nat.lt_of_lt_of_le hlt HB9.out.size) (by have := HXX.out; omega)).trans (HB9.out.block _ hlt)).trans ((HW.out.block (w.heap.size + 1) (by have := HZ0.out; omega)).trans HR0.out)) 6 (by decide)) hb (by omega)
      have HEND : Hid (∀ W x, Kbut X w9 W → XAt W X x → EndOk w W (w.heap.size + 1) X x) := Lib.hid fun W x hk hx => by
        have hb : Below w.heap.size w W := ((nbl_step HWW.out HB9.out).trans (hk.below (by have := HXX.out; have := HWW.out.size; omega) (nbl_step HWW.out HB9.out).size))
        have hlt : w.heap.size + 1 < wr.heap.size := by have := HGG.out; have := HZ0.out; have := HW.out.size; omega
        refine endok hx (there_new (((hk.block (w.heap.size + 1) (Nat.lt_of_lt_of_le hlt HB9.out.size) (by have := HXX.out; omega)).trans (HB9.out.block _ hlt)).trans ((HW.out.block (w.heap.size + 1) (by have := HZ0.out; omega)).trans HR0.out)) 6 (by decide)) hb (by omega)
      by_cases c0 : x0 < D
      · have d0 : decide (x0 < D) = true := decide_eq_true c0
        have C0 := Lib.hid c0
        clear c0
        go_quiet (fail)
        have y0 : w9.cell? ⟨X, 0, none⟩ = some (.int .i64 0) := HX9.out.rng 0 _ rfl
        have z0 : w9.frozen? ⟨X, 0, none⟩ = false := (HX9.out.thr 0 (by omega)).2
        obtain ⟨W2, h1, h2, h3, h4⟩ := HEND.out ((w9.drewN nq).setCell ⟨X, 0, none⟩ (.int .i64 4)) ⟨4, (⟨#[107]⟩ : ByteArray) ++ S1, ⟨#[]⟩, ⟨#[]⟩, 0⟩ ((Kbut.of (nbl_drewN (Below.refl _ _))).set 0 _) ((HX9.out.below (nbl_drewN (Below.refl _ _))).set 0 _ ⟨4, (⟨#[107]⟩ : ByteArray) ++ S1, ⟨#[]⟩, ⟨#[]⟩, 0⟩ (by omega) rfl)
        have HLX := Lib.hid h1
        have HST := Lib.hid h2
        have HLD := Lib.hid h3
        have HBW := Lib.hid h4
        clear h1 h2 h3 h4
        go_wp2_with (first | (refine wpList_load_eq (by rfl) (.tmp 9) 33 (by rfl) _ _ (by rfl) HLX.out ?_) | (refine wpList_store_eq (by rfl) (.tmp 4) (.tmp 61) 33 (by rfl) _ _ (by rfl) (by rfl) HST.out ?_))
        have hF : nextF c s = ⟨4, (⟨#[107]⟩ : ByteArray) ++ S1, ⟨#[]⟩, ⟨#[]⟩, 0⟩ := by rw [HF.out]; rw [if_pos (by rw [← X0.out]; exact C0.out)]
        rw [hF, HS6.out]
        refine bodyPost_ret (v := .tuple #[.agg (CV.arr ⟨4, (⟨#[107]⟩ : ByteArray) ++ S1, ⟨#[]⟩, ⟨#[]⟩, 0⟩), .int .u64 s6]) ?_ rfl ⟨rfl, HBW.out⟩
        rw [results_cell_tmp rfl]
        show Result.andThen ((loadVar 33 ⟨w.heap.size + 1, 0, none⟩).run Tryz.prog W2) _ = _
        rw [HLD.out]
        rfl
      · have d0 : decide (x0 < D) = false := decide_eq_false c0
        have C0 := Lib.hid c0
        clear c0
        go_quiet (fail)
        have h5 : x5 = 0 ∨ x5 = 1 ∨ x5 = 2 ∨ x5 = 3 ∨ x5 = 4 ∨ x5 = 5 ∨ x5 = 6 ∨ x5 = 7 ∨ x5 = 8 ∨ x5 = 9 := by have := X5.out; have := B5.out; omega
        obtain ⟨x4, e4, X4⟩ : ∃ x4, a4.tmod 9 = x4 ∧ Hid (x4 = a4 % 9 ∧ 0 ≤ x4 ∧ x4 < 9) := ⟨_, rfl, Lib.hid (by
          rw [Int.tmod_eq_emod_of_nonneg B4.out.1]
          exact ⟨rfl, by omega, by omega⟩)⟩
        have e5 : IntKind.i64.wrap (x4 + 1) = x4 + 1 := by have := X4.out; rw [IntKind.wrap_i64]; omega
        have HQ4 : Hid (a4 % 9 + 1 = x4 + 1) := Lib.hid (by rw [X4.out.1])
        have HN0 : Hid (¬ a0 % 1000 < D) := Lib.hid (by rw [← X0.out]; exact C0.out)
        have n4 : w9.cell? ⟨g, 4, none⟩ = some (.int .i64 a4) := cell_below HB9.out N4.out
        have y0 : w9.cell? ⟨X, 0, none⟩ = some (.int .i64 0) := HX9.out.rng 0 _ rfl
        have z0 : w9.frozen? ⟨X, 0, none⟩ = false := (HX9.out.thr 0 (by omega)).2
        have y2 : w9.cell? ⟨X, 2, none⟩ = some (.string ⟨#[]⟩) := HX9.out.rng 2 _ rfl
        have z2 : w9.frozen? ⟨X, 2, none⟩ = false := (HX9.out.thr 2 (by omega)).2
        have y3 : w9.cell? ⟨X, 3, none⟩ = some (.string ⟨#[]⟩) := HX9.out.rng 3 _ rfl
        have z3 : w9.frozen? ⟨X, 3, none⟩ = false := (HX9.out.thr 3 (by omega)).2
        have y4 : w9.cell? ⟨X, 4, none⟩ = some (.int .i64 0) := HX9.out.rng 4 _ rfl
        have z4 : w9.frozen? ⟨X, 4, none⟩ = false := (HX9.out.thr 4 (by omega)).2
        have HXG : Hid (¬ X = g) := Lib.hid (by have := HGG.out; have := HXX.out; omega)
        have HKG : Hid (∀ (W : World) (i : Nat) (v : Value), W.cell? ⟨g, 4, none⟩ = some (.int .i64 a4) → (W.setCell ⟨X, i, none⟩ v).cell? ⟨g, 4, none⟩ = some (.int .i64 a4)) := Lib.hid fun W i v h => by
          rw [World.cell?_setCell_other _ _ _ _ (fun e => by injection e with e1 _; exact HXG.out e1)]
          exact h
        have HKG3 : Hid (∀ (W : World) (i : Nat) (v : Value), W.cell? ⟨g, 3, none⟩ = some (.int .i64 a3) → (W.setCell ⟨X, i, none⟩ v).cell? ⟨g, 3, none⟩ = some (.int .i64 a3)) := Lib.hid fun W i v h => by
          rw [World.cell?_setCell_other _ _ _ _ (fun e => by injection e with e1 _; exact HXG.out e1)]
          exact h
        have HXB : Hid (w.heap.size < w9.heap.size ∧ w.heap.size ≠ X) := Lib.hid (by have := HGG.out; have := HXX.out; have := HZ0.out; have := HW.out.size; have := HB9.out.size; omega)
        have HKB : Hid (∀ (W : World) (i : Nat) (v : Value), W.cell? ⟨w.heap.size, 2, none⟩ = some (.int .i64 I) → (W.setCell ⟨X, i, none⟩ v).cell? ⟨w.heap.size, 2, none⟩ = some (.int .i64 I)) := Lib.hid fun W i v h => by
          rw [World.cell?_setCell_other _ _ _ _ (fun e => by injection e with e1 _; exact HXB.out.2 e1.symm)]
          exact h
        rcases h5 with rfl | rfl | rfl | rfl | rfl | rfl | rfl | rfl | rfl | rfl
        · go_wp2_with fail
          go_region_held3 (fun w' => w'.cell? ⟨g, 4, none⟩ = some (.int .i64 a4)) (first | go_keep | (refine HKG.out _ _ _ ?_; first | (simpa using n4) | (refine HKG.out _ _ _ ?_; simpa using n4))) (fail)
          go_wp2_with fail
          obtain ⟨wa, hwa⟩ : ∃ wa, wa = (((w9.drewN (nq + 1)).setCell ⟨X, 0, none⟩ (.int .i64 1)).setCell ⟨X, 4, none⟩ (.int .i64 (x4 + 1))) := ⟨_, rfl⟩
          have hx : XAt wa X ⟨1, (⟨#[107]⟩ : ByteArray) ++ S1, ⟨#[]⟩, ⟨#[]⟩, x4 + 1⟩ := by rw [hwa]; exact ((HX9.out.below (nbl_drewN (Below.refl _ _))).set 0 (.int .i64 1) ⟨1, (⟨#[107]⟩ : ByteArray) ++ S1, ⟨#[]⟩, ⟨#[]⟩, 0⟩ (by omega) rfl).set 4 _ _ (by omega) rfl
          have hk : Kbut X w9 wa := by rw [hwa]; exact ((Kbut.of (nbl_drewN (Below.refl _ _))).set 0 _).set 4 _
          rw [← hwa]
          clear hwa y0 z0 y2 z2 y3 z3 y4 z4 n4
          have n3 : wa.cell? ⟨g, 3, none⟩ = some (.int .i64 a3) := (hk.cell (q := ⟨g, 3, none⟩) (Nat.lt_of_lt_of_le HGG.out.2 HB9.out.size) (fun e => HXG.out e.symm)).trans (cell_below HB9.out N3.out)
          have k2 : wa.cell? ⟨w.heap.size, 2, none⟩ = some (.int .i64 I) := (hk.cell (q := ⟨w.heap.size, 2, none⟩) HXB.out.1 HXB.out.2).trans (cell_below HB9.out K2.out)
          have y3 : wa.cell? ⟨X, 3, none⟩ = some (.string ⟨#[]⟩) := hx.rng 3 _ rfl
          have z3 : wa.frozen? ⟨X, 3, none⟩ = false := (hx.thr 3 (by omega)).2
          have HXa := Lib.hid hx
          have HKa := Lib.hid hk
          have hlx := hx.lt
          have HWa : Hid (Below w.heap.size w wa) := Lib.hid ((nbl_step HWW.out HB9.out).trans (hk.below (by have := HXX.out; have := HWW.out.size; omega) (nbl_step HWW.out HB9.out).size))
          clear hx hk
          have hi0 : ¬ I = 0 := by have := HB.out; omega
          have e7 : a3.tmod I = jn := by rw [Int.tmod_eq_emod_of_nonneg B3.out.1, HIN.out]
          have z1 : ¬ (9223372036854775807 < 1 + S2.size) := by have := HSZ2.out; omega
          have z1b : ¬ (9223372036854775807 < S2.size + 1) := by have := HSZ2.out; omega
          go_region_held3 (fun w' => w'.cell? ⟨g, 3, none⟩ = some (.int .i64 a3) ∧ w'.cell? ⟨w.heap.size, 2, none⟩ = some (.int .i64 I)) (first | go_keep | (refine ⟨HKG3.out _ _ _ ?_, HKB.out _ _ _ ?_⟩ <;> assumption) | (refine HKG3.out _ _ _ ?_; assumption) | (refine HKB.out _ _ _ ?_; assumption)) (first | (go_at_call 63; refine (HI2.out _ (nbl_step HWa.out (Below.refl _ _).drew)).mono ?_; rintro e wd ⟨rfl, hbd⟩; have HBD := Lib.hid hbd; have m1 : wd.cell? ⟨g, 3, none⟩ = some (.int .i64 a3) := cell_below hbd n3; have m2 : wd.cell? ⟨w.heap.size, 2, none⟩ = some (.int .i64 I) := cell_below hbd k2; have m3 : wd.cell? ⟨X, 3, none⟩ = some (.string ⟨#[]⟩) := cell_below hbd y3; have m4 : wd.frozen? ⟨X, 3, none⟩ = false := (hbd.frozen (p := ⟨X, 3, none⟩) hlx).trans z3; clear hbd) | fail)
          have HBD2 : Hid (Below wa.heap.size wa wd) := Lib.hid (nbl_step (Below.refl _ _).drew HBD.out)
          clear n3 k2 y3 z3 m1 m2 m3 m4 hi0 e7 z1 z1b hlx
          obtain ⟨W2, h1, h2, h3, h4⟩ := HEND.out (wd.setCell ⟨X, 3, none⟩ (.string ((⟨#[105]⟩ : ByteArray) ++ S2))) ⟨1, (⟨#[107]⟩ : ByteArray) ++ S1, ⟨#[]⟩, (⟨#[105]⟩ : ByteArray) ++ S2, x4 + 1⟩ ((HKa.out.step HBD2.out).set 3 _) ((HXa.out.below HBD2.out).set 3 _ ⟨1, (⟨#[107]⟩ : ByteArray) ++ S1, ⟨#[]⟩, (⟨#[105]⟩ : ByteArray) ++ S2, x4 + 1⟩ (by omega) rfl)
          have HLX := Lib.hid h1
          have HST := Lib.hid h2
          have HLD := Lib.hid h3
          have HBW := Lib.hid h4
          clear h1 h2 h3 h4
          go_wp2_with (first | (refine wpList_load_eq (by rfl) (.tmp 9) 33 (by rfl) _ _ (by rfl) HLX.out ?_) | (refine wpList_store_eq (by rfl) (.tmp 4) (.tmp 103) 33 (by rfl) _ _ (by rfl) (by rfl) HST.out ?_))
          have hF : nextF c s = ⟨1, (⟨#[107]⟩ : ByteArray) ++ S1, ⟨#[]⟩, (⟨#[105]⟩ : ByteArray) ++ S2, x4 + 1⟩ := by rw [HF.out]; rw [if_neg (by have := HN0.out; omega), ← X5.out, HQ4.out]; rfl
          rw [hF, HS6.out]
          refine bodyPost_ret (v := .tuple #[.agg (CV.arr ⟨1, (⟨#[107]⟩ : ByteArray) ++ S1, ⟨#[]⟩, (⟨#[105]⟩ : ByteArray) ++ S2, x4 + 1⟩), .int .u64 s6]) ?_ rfl ⟨rfl, HBW.out⟩
          rw [results_cell_tmp rfl]
          show Result.andThen ((loadVar 33 ⟨w.heap.size + 1, 0, none⟩).run Tryz.prog W2) _ = _
          rw [HLD.out]
          rfl
        · go_wp2_with fail
          go_region_held3 (fun w' => w'.cell? ⟨g, 4, none⟩ = some (.int .i64 a4)) (first | go_keep | (refine HKG.out _ _ _ ?_; first | (simpa using n4) | (refine HKG.out _ _ _ ?_; simpa using n4))) (fail)
          go_wp2_with fail
          obtain ⟨wa, hwa⟩ : ∃ wa, wa = (((w9.drewN (nq + 1)).setCell ⟨X, 0, none⟩ (.int .i64 1)).setCell ⟨X, 4, none⟩ (.int .i64 (x4 + 1))) := ⟨_, rfl⟩
          have hx : XAt wa X ⟨1, (⟨#[107]⟩ : ByteArray) ++ S1, ⟨#[]⟩, ⟨#[]⟩, x4 + 1⟩ := by rw [hwa]; exact ((HX9.out.below (nbl_drewN (Below.refl _ _))).set 0 (.int .i64 1) ⟨1, (⟨#[107]⟩ : ByteArray) ++ S1, ⟨#[]⟩, ⟨#[]⟩, 0⟩ (by omega) rfl).set 4 _ _ (by omega) rfl
          have hk : Kbut X w9 wa := by rw [hwa]; exact ((Kbut.of (nbl_drewN (Below.refl _ _))).set 0 _).set 4 _
          rw [← hwa]
          clear hwa y0 z0 y2 z2 y3 z3 y4 z4 n4
          have n3 : wa.cell? ⟨g, 3, none⟩ = some (.int .i64 a3) := (hk.cell (q := ⟨g, 3, none⟩) (Nat.lt_of_lt_of_le HGG.out.2 HB9.out.size) (fun e => HXG.out e.symm)).trans (cell_below HB9.out N3.out)
          have k2 : wa.cell? ⟨w.heap.size, 2, none⟩ = some (.int .i64 I) := (hk.cell (q := ⟨w.heap.size, 2, none⟩) HXB.out.1 HXB.out.2).trans (cell_below HB9.out K2.out)
          have y3 : wa.cell? ⟨X, 3, none⟩ = some (.string ⟨#[]⟩) := hx.rng 3 _ rfl
          have z3 : wa.frozen? ⟨X, 3, none⟩ = false := (hx.thr 3 (by omega)).2
          have HXa := Lib.hid hx
          have HKa := Lib.hid hk
          have hlx := hx.lt
          have HWa : Hid (Below w.heap.size w wa) := Lib.hid ((nbl_step HWW.out HB9.out).trans (hk.below (by have := HXX.out; have := HWW.out.size; omega) (nbl_step HWW.out HB9.out).size))
          clear hx hk
          have hi0 : ¬ I = 0 := by have := HB.out; omega
          have e7 : a3.tmod I = jn := by rw [Int.tmod_eq_emod_of_nonneg B3.out.1, HIN.out]
          have z1 : ¬ (9223372036854775807 < 1 + S2.size) := by have := HSZ2.out; omega
          have z1b : ¬ (9223372036854775807 < S2.size + 1) := by have := HSZ2.out; omega
          go_region_held3 (fun w' => w'.cell? ⟨g, 3, none⟩ = some (.int .i64 a3) ∧ w'.cell? ⟨w.heap.size, 2, none⟩ = some (.int .i64 I)) (first | go_keep | (refine ⟨HKG3.out _ _ _ ?_, HKB.out _ _ _ ?_⟩ <;> assumption) | (refine HKG3.out _ _ _ ?_; assumption) | (refine HKB.out _ _ _ ?_; assumption)) (first | (go_at_call 63; refine (HI2.out _ (nbl_step HWa.out (Below.refl _ _).drew)).mono ?_; rintro e wd ⟨rfl, hbd⟩; have HBD := Lib.hid hbd; have m1 : wd.cell? ⟨g, 3, none⟩ = some (.int .i64 a3) := cell_below hbd n3; have m2 : wd.cell? ⟨w.heap.size, 2, none⟩ = some (.int .i64 I) := cell_below hbd k2; have m3 : wd.cell? ⟨X, 3, none⟩ = some (.string ⟨#[]⟩) := cell_below hbd y3; have m4 : wd.frozen? ⟨X, 3, none⟩ = false := (hbd.frozen (p := ⟨X, 3, none⟩) hlx).trans z3; clear hbd) | fail)
          have HBD2 : Hid (Below wa.heap.size wa wd) := Lib.hid (nbl_step (Below.refl _ _).drew HBD.out)
          clear n3 k2 y3 z3 m1 m2 m3 m4 hi0 e7 z1 z1b hlx
          obtain ⟨W2, h1, h2, h3, h4⟩ := HEND.out (wd.setCell ⟨X, 3, none⟩ (.string ((⟨#[105]⟩ : ByteArray) ++ S2))) ⟨1, (⟨#[107]⟩ : ByteArray) ++ S1, ⟨#[]⟩, (⟨#[105]⟩ : ByteArray) ++ S2, x4 + 1⟩ ((HKa.out.step HBD2.out).set 3 _) ((HXa.out.below HBD2.out).set 3 _ ⟨1, (⟨#[107]⟩ : ByteArray) ++ S1, ⟨#[]⟩, (⟨#[105]⟩ : ByteArray) ++ S2, x4 + 1⟩ (by omega) rfl)
          have HLX := Lib.hid h1
          have HST := Lib.hid h2
          have HLD := Lib.hid h3
          have HBW := Lib.hid h4
          clear h1 h2 h3 h4
          go_wp2_with (first | (refine wpList_load_eq (by rfl) (.tmp 9) 33 (by rfl) _ _ (by rfl) HLX.out ?_) | (refine wpList_store_eq (by rfl) (.tmp 4) (.tmp 103) 33 (by rfl) _ _ (by rfl) (by rfl) HST.out ?_))
          have hF : nextF c s = ⟨1, (⟨#[107]⟩ : ByteArray) ++ S1, ⟨#[]⟩, (⟨#[105]⟩ : ByteArray) ++ S2, x4 + 1⟩ := by rw [HF.out]; rw [if_neg (by have := HN0.out; omega), ← X5.out, HQ4.out]; rfl
          rw [hF, HS6.out]
          refine bodyPost_ret (v := .tuple #[.agg (CV.arr ⟨1, (⟨#[107]⟩ : ByteArray) ++ S1, ⟨#[]⟩, (⟨#[105]⟩ : ByteArray) ++ S2, x4 + 1⟩), .int .u64 s6]) ?_ rfl ⟨rfl, HBW.out⟩
          rw [results_cell_tmp rfl]
          show Result.andThen ((loadVar 33 ⟨w.heap.size + 1, 0, none⟩).run Tryz.prog W2) _ = _
          rw [HLD.out]
          rfl
        · go_wp2_with fail
          go_region_held3 (fun w' => w'.cell? ⟨g, 4, none⟩ = some (.int .i64 a4)) (first | go_keep | (refine HKG.out _ _ _ ?_; first | (simpa using n4) | (refine HKG.out _ _ _ ?_; simpa using n4))) (fail)
          go_wp2_with fail
          obtain ⟨wa, hwa⟩ : ∃ wa, wa = (((w9.drewN (nq + 1)).setCell ⟨X, 0, none⟩ (.int .i64 1)).setCell ⟨X, 4, none⟩ (.int .i64 (x4 + 1))) := ⟨_, rfl⟩
          have hx : XAt wa X ⟨1, (⟨#[107]⟩ : ByteArray) ++ S1, ⟨#[]⟩, ⟨#[]⟩, x4 + 1⟩ := by rw [hwa]; exact ((HX9.out.below (nbl_drewN (Below.refl _ _))).set 0 (.int .i64 1) ⟨1, (⟨#[107]⟩ : ByteArray) ++ S1, ⟨#[]⟩, ⟨#[]⟩, 0⟩ (by omega) rfl).set 4 _ _ (by omega) rfl
          have hk : Kbut X w9 wa := by rw [hwa]; exact ((Kbut.of (nbl_drewN (Below.refl _ _))).set 0 _).set 4 _
          rw [← hwa]
          clear hwa y0 z0 y2 z2 y3 z3 y4 z4 n4
          have n3 : wa.cell? ⟨g, 3, none⟩ = some (.int .i64 a3) := (hk.cell (q := ⟨g, 3, none⟩) (Nat.lt_of_lt_of_le HGG.out.2 HB9.out.size) (fun e => HXG.out e.symm)).trans (cell_below HB9.out N3.out)
          have k2 : wa.cell? ⟨w.heap.size, 2, none⟩ = some (.int .i64 I) := (hk.cell (q := ⟨w.heap.size, 2, none⟩) HXB.out.1 HXB.out.2).trans (cell_below HB9.out K2.out)
          have y3 : wa.cell? ⟨X, 3, none⟩ = some (.string ⟨#[]⟩) := hx.rng 3 _ rfl
          have z3 : wa.frozen? ⟨X, 3, none⟩ = false := (hx.thr 3 (by omega)).2
          have HXa := Lib.hid hx
          have HKa := Lib.hid hk
          have hlx := hx.lt
          have HWa : Hid (Below w.heap.size w wa) := Lib.hid ((nbl_step HWW.out HB9.out).trans (hk.below (by have := HXX.out; have := HWW.out.size; omega) (nbl_step HWW.out HB9.out).size))
          clear hx hk
          have hi0 : ¬ I = 0 := by have := HB.out; omega
          have e7 : a3.tmod I = jn := by rw [Int.tmod_eq_emod_of_nonneg B3.out.1, HIN.out]
          have z1 : ¬ (9223372036854775807 < 1 + S2.size) := by have := HSZ2.out; omega
          have z1b : ¬ (9223372036854775807 < S2.size + 1) := by have := HSZ2.out; omega
          go_region_held3 (fun w' => w'.cell? ⟨g, 3, none⟩ = some (.int .i64 a3) ∧ w'.cell? ⟨w.heap.size, 2, none⟩ = some (.int .i64 I)) (first | go_keep | (refine ⟨HKG3.out _ _ _ ?_, HKB.out _ _ _ ?_⟩ <;> assumption) | (refine HKG3.out _ _ _ ?_; assumption) | (refine HKB.out _ _ _ ?_; assumption)) (first | (go_at_call 63; refine (HI2.out _ (nbl_step HWa.out (Below.refl _ _).drew)).mono ?_; rintro e wd ⟨rfl, hbd⟩; have HBD := Lib.hid hbd; have m1 : wd.cell? ⟨g, 3, none⟩ = some (.int .i64 a3) := cell_below hbd n3; have m2 : wd.cell? ⟨w.heap.size, 2, none⟩ = some (.int .i64 I) := cell_below hbd k2; have m3 : wd.cell? ⟨X, 3, none⟩ = some (.string ⟨#[]⟩) := cell_below hbd y3; have m4 : wd.frozen? ⟨X, 3, none⟩ = false := (hbd.frozen (p := ⟨X, 3, none⟩) hlx).trans z3; clear hbd) | fail)
          have HBD2 : Hid (Below wa.heap.size wa wd) := Lib.hid (nbl_step (Below.refl _ _).drew HBD.out)
          clear n3 k2 y3 z3 m1 m2 m3 m4 hi0 e7 z1 z1b hlx
          obtain ⟨W2, h1, h2, h3, h4⟩ := HEND.out (wd.setCell ⟨X, 3, none⟩ (.string ((⟨#[105]⟩ : ByteArray) ++ S2))) ⟨1, (⟨#[107]⟩ : ByteArray) ++ S1, ⟨#[]⟩, (⟨#[105]⟩ : ByteArray) ++ S2, x4 + 1⟩ ((HKa.out.step HBD2.out).set 3 _) ((HXa.out.below HBD2.out).set 3 _ ⟨1, (⟨#[107]⟩ : ByteArray) ++ S1, ⟨#[]⟩, (⟨#[105]⟩ : ByteArray) ++ S2, x4 + 1⟩ (by omega) rfl)
          have HLX := Lib.hid h1
          have HST := Lib.hid h2
          have HLD := Lib.hid h3
          have HBW := Lib.hid h4
          clear h1 h2 h3 h4
          go_wp2_with (first | (refine wpList_load_eq (by rfl) (.tmp 9) 33 (by rfl) _ _ (by rfl) HLX.out ?_) | (refine wpList_store_eq (by rfl) (.tmp 4) (.tmp 103) 33 (by rfl) _ _ (by rfl) (by rfl) HST.out ?_))
          have hF : nextF c s = ⟨1, (⟨#[107]⟩ : ByteArray) ++ S1, ⟨#[]⟩, (⟨#[105]⟩ : ByteArray) ++ S2, x4 + 1⟩ := by rw [HF.out]; rw [if_neg (by have := HN0.out; omega), ← X5.out, HQ4.out]; rfl
          rw [hF, HS6.out]
          refine bodyPost_ret (v := .tuple #[.agg (CV.arr ⟨1, (⟨#[107]⟩ : ByteArray) ++ S1, ⟨#[]⟩, (⟨#[105]⟩ : ByteArray) ++ S2, x4 + 1⟩), .int .u64 s6]) ?_ rfl ⟨rfl, HBW.out⟩
          rw [results_cell_tmp rfl]
          show Result.andThen ((loadVar 33 ⟨w.heap.size + 1, 0, none⟩).run Tryz.prog W2) _ = _
          rw [HLD.out]
          rfl
        · go_wp2_with fail
          go_region_held3 (fun w' => w'.cell? ⟨g, 4, none⟩ = some (.int .i64 a4)) (first | go_keep | (refine HKG.out _ _ _ ?_; first | (simpa using n4) | (refine HKG.out _ _ _ ?_; simpa using n4))) (fail)
          go_wp2_with fail
          obtain ⟨wa, hwa⟩ : ∃ wa, wa = (((w9.drewN (nq + 1)).setCell ⟨X, 0, none⟩ (.int .i64 1)).setCell ⟨X, 4, none⟩ (.int .i64 (x4 + 1))) := ⟨_, rfl⟩
          have hx : XAt wa X ⟨1, (⟨#[107]⟩ : ByteArray) ++ S1, ⟨#[]⟩, ⟨#[]⟩, x4 + 1⟩ := by rw [hwa]; exact ((HX9.out.below (nbl_drewN (Below.refl _ _))).set 0 (.int .i64 1) ⟨1, (⟨#[107]⟩ : ByteArray) ++ S1, ⟨#[]⟩, ⟨#[]⟩, 0⟩ (by omega) rfl).set 4 _ _ (by omega) rfl
          have hk : Kbut X w9 wa := by rw [hwa]; exact ((Kbut.of (nbl_drewN (Below.refl _ _))).set 0 _).set 4 _
          rw [← hwa]
          clear hwa y0 z0 y2 z2 y3 z3 y4 z4 n4
          have n3 : wa.cell? ⟨g, 3, none⟩ = some (.int .i64 a3) := (hk.cell (q := ⟨g, 3, none⟩) (Nat.lt_of_lt_of_le HGG.out.2 HB9.out.size) (fun e => HXG.out e.symm)).trans (cell_below HB9.out N3.out)
          have k2 : wa.cell? ⟨w.heap.size, 2, none⟩ = some (.int .i64 I) := (hk.cell (q := ⟨w.heap.size, 2, none⟩) HXB.out.1 HXB.out.2).trans (cell_below HB9.out K2.out)
          have y3 : wa.cell? ⟨X, 3, none⟩ = some (.string ⟨#[]⟩) := hx.rng 3 _ rfl
          have z3 : wa.frozen? ⟨X, 3, none⟩ = false := (hx.thr 3 (by omega)).2
          have HXa := Lib.hid hx
          have HKa := Lib.hid hk
          have hlx := hx.lt
          have HWa : Hid (Below w.heap.size w wa) := Lib.hid ((nbl_step HWW.out HB9.out).trans (hk.below (by have := HXX.out; have := HWW.out.size; omega) (nbl_step HWW.out HB9.out).size))
          clear hx hk
          have hi0 : ¬ I = 0 := by have := HB.out; omega
          have e7 : a3.tmod I = jn := by rw [Int.tmod_eq_emod_of_nonneg B3.out.1, HIN.out]
          have z1 : ¬ (9223372036854775807 < 1 + S2.size) := by have := HSZ2.out; omega
          have z1b : ¬ (9223372036854775807 < S2.size + 1) := by have := HSZ2.out; omega
          go_region_held3 (fun w' => w'.cell? ⟨g, 3, none⟩ = some (.int .i64 a3) ∧ w'.cell? ⟨w.heap.size, 2, none⟩ = some (.int .i64 I)) (first | go_keep | (refine ⟨HKG3.out _ _ _ ?_, HKB.out _ _ _ ?_⟩ <;> assumption) | (refine HKG3.out _ _ _ ?_; assumption) | (refine HKB.out _ _ _ ?_; assumption)) (first | (go_at_call 63; refine (HI2.out _ (nbl_step HWa.out (Below.refl _ _).drew)).mono ?_; rintro e wd ⟨rfl, hbd⟩; have HBD := Lib.hid hbd; have m1 : wd.cell? ⟨g, 3, none⟩ = some (.int .i64 a3) := cell_below hbd n3; have m2 : wd.cell? ⟨w.heap.size, 2, none⟩ = some (.int .i64 I) := cell_below hbd k2; have m3 : wd.cell? ⟨X, 3, none⟩ = some (.string ⟨#[]⟩) := cell_below hbd y3; have m4 : wd.frozen? ⟨X, 3, none⟩ = false := (hbd.frozen (p := ⟨X, 3, none⟩) hlx).trans z3; clear hbd) | fail)
          have HBD2 : Hid (Below wa.heap.size wa wd) := Lib.hid (nbl_step (Below.refl _ _).drew HBD.out)
          clear n3 k2 y3 z3 m1 m2 m3 m4 hi0 e7 z1 z1b hlx
          obtain ⟨W2, h1, h2, h3, h4⟩ := HEND.out (wd.setCell ⟨X, 3, none⟩ (.string ((⟨#[105]⟩ : ByteArray) ++ S2))) ⟨1, (⟨#[107]⟩ : ByteArray) ++ S1, ⟨#[]⟩, (⟨#[105]⟩ : ByteArray) ++ S2, x4 + 1⟩ ((HKa.out.step HBD2.out).set 3 _) ((HXa.out.below HBD2.out).set 3 _ ⟨1, (⟨#[107]⟩ : ByteArray) ++ S1, ⟨#[]⟩, (⟨#[105]⟩ : ByteArray) ++ S2, x4 + 1⟩ (by omega) rfl)
          have HLX := Lib.hid h1
          have HST := Lib.hid h2
          have HLD := Lib.hid h3
          have HBW := Lib.hid h4
          clear h1 h2 h3 h4
          go_wp2_with (first | (refine wpList_load_eq (by rfl) (.tmp 9) 33 (by rfl) _ _ (by rfl) HLX.out ?_) | (refine wpList_store_eq (by rfl) (.tmp 4) (.tmp 103) 33 (by rfl) _ _ (by rfl) (by rfl) HST.out ?_))
          have hF : nextF c s = ⟨1, (⟨#[107]⟩ : ByteArray) ++ S1, ⟨#[]⟩, (⟨#[105]⟩ : ByteArray) ++ S2, x4 + 1⟩ := by rw [HF.out]; rw [if_neg (by have := HN0.out; omega), ← X5.out, HQ4.out]; rfl
          rw [hF, HS6.out]
          refine bodyPost_ret (v := .tuple #[.agg (CV.arr ⟨1, (⟨#[107]⟩ : ByteArray) ++ S1, ⟨#[]⟩, (⟨#[105]⟩ : ByteArray) ++ S2, x4 + 1⟩), .int .u64 s6]) ?_ rfl ⟨rfl, HBW.out⟩
          rw [results_cell_tmp rfl]
          show Result.andThen ((loadVar 33 ⟨w.heap.size + 1, 0, none⟩).run Tryz.prog W2) _ = _
          rw [HLD.out]
          rfl
        · go_wp2_with fail
          go_region_held3 (fun w' => w'.cell? ⟨g, 4, none⟩ = some (.int .i64 a4)) (first | go_keep | (refine HKG.out _ _ _ ?_; first | (simpa using n4) | (refine HKG.out _ _ _ ?_; simpa using n4))) (fail)
          go_wp2_with fail
          obtain ⟨wa, hwa⟩ : ∃ wa, wa = (((w9.drewN (nq + 1)).setCell ⟨X, 0, none⟩ (.int .i64 1)).setCell ⟨X, 4, none⟩ (.int .i64 (x4 + 1))) := ⟨_, rfl⟩
          have hx : XAt wa X ⟨1, (⟨#[107]⟩ : ByteArray) ++ S1, ⟨#[]⟩, ⟨#[]⟩, x4 + 1⟩ := by rw [hwa]; exact ((HX9.out.below (nbl_drewN (Below.refl _ _))).set 0 (.int .i64 1) ⟨1, (⟨#[107]⟩ : ByteArray) ++ S1, ⟨#[]⟩, ⟨#[]⟩, 0⟩ (by omega) rfl).set 4 _ _ (by omega) rfl
          have hk : Kbut X w9 wa := by rw [hwa]; exact ((Kbut.of (nbl_drewN (Below.refl _ _))).set 0 _).set 4 _
          rw [← hwa]
          clear hwa y0 z0 y2 z2 y3 z3 y4 z4 n4
          have n3 : wa.cell? ⟨g, 3, none⟩ = some (.int .i64 a3) := (hk.cell (q := ⟨g, 3, none⟩) (Nat.lt_of_lt_of_le HGG.out.2 HB9.out.size) (fun e => HXG.out e.symm)).trans (cell_below HB9.out N3.out)
          have k2 : wa.cell? ⟨w.heap.size, 2, none⟩ = some (.int .i64 I) := (hk.cell (q := ⟨w.heap.size, 2, none⟩) HXB.out.1 HXB.out.2).trans (cell_below HB9.out K2.out)
          have y3 : wa.cell? ⟨X, 3, none⟩ = some (.string ⟨#[]⟩) := hx.rng 3 _ rfl
          have z3 : wa.frozen? ⟨X, 3, none⟩ = false := (hx.thr 3 (by omega)).2
          have HXa := Lib.hid hx
          have HKa := Lib.hid hk
          have hlx := hx.lt
          have HWa : Hid (Below w.heap.size w wa) := Lib.hid ((nbl_step HWW.out HB9.out).trans (hk.below (by have := HXX.out; have := HWW.out.size; omega) (nbl_step HWW.out HB9.out).size))
          clear hx hk
          have hi0 : ¬ I = 0 := by have := HB.out; omega
          have e7 : a3.tmod I = jn := by rw [Int.tmod_eq_emod_of_nonneg B3.out.1, HIN.out]
          have z1 : ¬ (9223372036854775807 < 1 + S2.size) := by have := HSZ2.out; omega
          have z1b : ¬ (9223372036854775807 < S2.size + 1) := by have := HSZ2.out; omega
          go_region_held3 (fun w' => w'.cell? ⟨g, 3, none⟩ = some (.int .i64 a3) ∧ w'.cell? ⟨w.heap.size, 2, none⟩ = some (.int .i64 I)) (first | go_keep | (refine ⟨HKG3.out _ _ _ ?_, HKB.out _ _ _ ?_⟩ <;> assumption) | (refine HKG3.out _ _ _ ?_; assumption) | (refine HKB.out _ _ _ ?_; assumption)) (first | (go_at_call 63; refine (HI2.out _ (nbl_step HWa.out (Below.refl _ _).drew)).mono ?_; rintro e wd ⟨rfl, hbd⟩; have HBD := Lib.hid hbd; have m1 : wd.cell? ⟨g, 3, none⟩ = some (.int .i64 a3) := cell_below hbd n3; have m2 : wd.cell? ⟨w.heap.size, 2, none⟩ = some (.int .i64 I) := cell_below hbd k2; have m3 : wd.cell? ⟨X, 3, none⟩ = some (.string ⟨#[]⟩) := cell_below hbd y3; have m4 : wd.frozen? ⟨X, 3, none⟩ = false := (hbd.frozen (p := ⟨X, 3, none⟩) hlx).trans z3; clear hbd) | fail)
          have HBD2 : Hid (Below wa.heap.size wa wd) := Lib.hid (nbl_step (Below.refl _ _).drew HBD.out)
          clear n3 k2 y3 z3 m1 m2 m3 m4 hi0 e7 z1 z1b hlx
          obtain ⟨W2, h1, h2, h3, h4⟩ := HEND.out (wd.setCell ⟨X, 3, none⟩ (.string ((⟨#[105]⟩ : ByteArray) ++ S2))) ⟨1, (⟨#[107]⟩ : ByteArray) ++ S1, ⟨#[]⟩, (⟨#[105]⟩ : ByteArray) ++ S2, x4 + 1⟩ ((HKa.out.step HBD2.out).set 3 _) ((HXa.out.below HBD2.out).set 3 _ ⟨1, (⟨#[107]⟩ : ByteArray) ++ S1, ⟨#[]⟩, (⟨#[105]⟩ : ByteArray) ++ S2, x4 + 1⟩ (by omega) rfl)
          have HLX := Lib.hid h1
          have HST := Lib.hid h2
          have HLD := Lib.hid h3
          have HBW := Lib.hid h4
          clear h1 h2 h3 h4
          go_wp2_with (first | (refine wpList_load_eq (by rfl) (.tmp 9) 33 (by rfl) _ _ (by rfl) HLX.out ?_) | (refine wpList_store_eq (by rfl) (.tmp 4) (.tmp 103) 33 (by rfl) _ _ (by rfl) (by rfl) HST.out ?_))
          have hF : nextF c s = ⟨1, (⟨#[107]⟩ : ByteArray) ++ S1, ⟨#[]⟩, (⟨#[105]⟩ : ByteArray) ++ S2, x4 + 1⟩ := by rw [HF.out]; rw [if_neg (by have := HN0.out; omega), ← X5.out, HQ4.out]; rfl
          rw [hF, HS6.out]
          refine bodyPost_ret (v := .tuple #[.agg (CV.arr ⟨1, (⟨#[107]⟩ : ByteArray) ++ S1, ⟨#[]⟩, (⟨#[105]⟩ : ByteArray) ++ S2, x4 + 1⟩), .int .u64 s6]) ?_ rfl ⟨rfl, HBW.out⟩
          rw [results_cell_tmp rfl]
          show Result.andThen ((loadVar 33 ⟨w.heap.size + 1, 0, none⟩).run Tryz.prog W2) _ = _
          rw [HLD.out]
          rfl
        · go_wp2_with fail
          go_region_held3 (fun w' => w'.cell? ⟨g, 4, none⟩ = some (.int .i64 a4)) (first | go_keep | (refine HKG.out _ _ _ ?_; first | (simpa using n4) | (refine HKG.out _ _ _ ?_; simpa using n4))) (fail)
          go_wp2_with fail
          obtain ⟨wa, hwa⟩ : ∃ wa, wa = (((w9.drewN (nq + 1)).setCell ⟨X, 0, none⟩ (.int .i64 2)).setCell ⟨X, 4, none⟩ (.int .i64 (x4 + 1))) := ⟨_, rfl⟩
          have hx : XAt wa X ⟨2, (⟨#[107]⟩ : ByteArray) ++ S1, ⟨#[]⟩, ⟨#[]⟩, x4 + 1⟩ := by rw [hwa]; exact ((HX9.out.below (nbl_drewN (Below.refl _ _))).set 0 (.int .i64 2) ⟨2, (⟨#[107]⟩ : ByteArray) ++ S1, ⟨#[]⟩, ⟨#[]⟩, 0⟩ (by omega) rfl).set 4 _ _ (by omega) rfl
          have hk : Kbut X w9 wa := by rw [hwa]; exact ((Kbut.of (nbl_drewN (Below.refl _ _))).set 0 _).set 4 _
          rw [← hwa]
          clear hwa y0 z0 y2 z2 y3 z3 y4 z4 n4
          have n3 : wa.cell? ⟨g, 3, none⟩ = some (.int .i64 a3) := (hk.cell (q := ⟨g, 3, none⟩) (Nat.lt_of_lt_of_le HGG.out.2 HB9.out.size) (fun e => HXG.out e.symm)).trans (cell_below HB9.out N3.out)
          have k2 : wa.cell? ⟨w.heap.size, 2, none⟩ = some (.int .i64 I) := (hk.cell (q := ⟨w.heap.size, 2, none⟩) HXB.out.1 HXB.out.2).trans (cell_below HB9.out K2.out)
          have y3 : wa.cell? ⟨X, 3, none⟩ = some (.string ⟨#[]⟩) := hx.rng 3 _ rfl
          have z3 : wa.frozen? ⟨X, 3, none⟩ = false := (hx.thr 3 (by omega)).2
          have HXa := Lib.hid hx
          have HKa := Lib.hid hk
          have hlx := hx.lt
          have HWa : Hid (Below w.heap.size w wa) := Lib.hid ((nbl_step HWW.out HB9.out).trans (hk.below (by have := HXX.out; have := HWW.out.size; omega) (nbl_step HWW.out HB9.out).size))
          clear hx hk
          have hi0 : ¬ I = 0 := by have := HB.out; omega
          have e7 : a3.tmod I = jn := by rw [Int.tmod_eq_emod_of_nonneg B3.out.1, HIN.out]
          have z1 : ¬ (9223372036854775807 < 1 + S2.size) := by have := HSZ2.out; omega
          have z1b : ¬ (9223372036854775807 < S2.size + 1) := by have := HSZ2.out; omega
          go_region_held3 (fun w' => w'.cell? ⟨g, 3, none⟩ = some (.int .i64 a3) ∧ w'.cell? ⟨w.heap.size, 2, none⟩ = some (.int .i64 I)) (first | go_keep | (refine ⟨HKG3.out _ _ _ ?_, HKB.out _ _ _ ?_⟩ <;> assumption) | (refine HKG3.out _ _ _ ?_; assumption) | (refine HKB.out _ _ _ ?_; assumption)) (first | (go_at_call 63; refine (HI2.out _ (nbl_step HWa.out (Below.refl _ _).drew)).mono ?_; rintro e wd ⟨rfl, hbd⟩; have HBD := Lib.hid hbd; have m1 : wd.cell? ⟨g, 3, none⟩ = some (.int .i64 a3) := cell_below hbd n3; have m2 : wd.cell? ⟨w.heap.size, 2, none⟩ = some (.int .i64 I) := cell_below hbd k2; have m3 : wd.cell? ⟨X, 3, none⟩ = some (.string ⟨#[]⟩) := cell_below hbd y3; have m4 : wd.frozen? ⟨X, 3, none⟩ = false := (hbd.frozen (p := ⟨X, 3, none⟩) hlx).trans z3; clear hbd) | fail)
          have HBD2 : Hid (Below wa.heap.size wa wd) := Lib.hid (nbl_step (Below.refl _ _).drew HBD.out)
          clear n3 k2 y3 z3 m1 m2 m3 m4 hi0 e7 z1 z1b hlx
          obtain ⟨W2, h1, h2, h3, h4⟩ := HEND.out (wd.setCell ⟨X, 3, none⟩ (.string ((⟨#[105]⟩ : ByteArray) ++ S2))) ⟨2, (⟨#[107]⟩ : ByteArray) ++ S1, ⟨#[]⟩, (⟨#[105]⟩ : ByteArray) ++ S2, x4 + 1⟩ ((HKa.out.step HBD2.out).set 3 _) ((HXa.out.below HBD2.out).set 3 _ ⟨2, (⟨#[107]⟩ : ByteArray) ++ S1, ⟨#[]⟩, (⟨#[105]⟩ : ByteArray) ++ S2, x4 + 1⟩ (by omega) rfl)
          have HLX := Lib.hid h1
          have HST := Lib.hid h2
          have HLD := Lib.hid h3
          have HBW := Lib.hid h4
          clear h1 h2 h3 h4
          go_wp2_with (first | (refine wpList_load_eq (by rfl) (.tmp 9) 33 (by rfl) _ _ (by rfl) HLX.out ?_) | (refine wpList_store_eq (by rfl) (.tmp 4) (.tmp 103) 33 (by rfl) _ _ (by rfl) (by rfl) HST.out ?_))
          have hF : nextF c s = ⟨2, (⟨#[107]⟩ : ByteArray) ++ S1, ⟨#[]⟩, (⟨#[105]⟩ : ByteArray) ++ S2, x4 + 1⟩ := by rw [HF.out]; rw [if_neg (by have := HN0.out; omega), ← X5.out, HQ4.out]; rfl
          rw [hF, HS6.out]
          refine bodyPost_ret (v := .tuple #[.agg (CV.arr ⟨2, (⟨#[107]⟩ : ByteArray) ++ S1, ⟨#[]⟩, (⟨#[105]⟩ : ByteArray) ++ S2, x4 + 1⟩), .int .u64 s6]) ?_ rfl ⟨rfl, HBW.out⟩
          rw [results_cell_tmp rfl]
          show Result.andThen ((loadVar 33 ⟨w.heap.size + 1, 0, none⟩).run Tryz.prog W2) _ = _
          rw [HLD.out]
          rfl
        · go_wp2_with fail
          go_region_held3 (fun w' => w'.cell? ⟨g, 4, none⟩ = some (.int .i64 a4)) (first | go_keep | (refine HKG.out _ _ _ ?_; first | (simpa using n4) | (refine HKG.out _ _ _ ?_; simpa using n4))) (fail)
          go_wp2_with fail
          obtain ⟨wa, hwa⟩ : ∃ wa, wa = (((w9.drewN (nq + 1)).setCell ⟨X, 0, none⟩ (.int .i64 2)).setCell ⟨X, 4, none⟩ (.int .i64 (x4 + 1))) := ⟨_, rfl⟩
          have hx : XAt wa X ⟨2, (⟨#[107]⟩ : ByteArray) ++ S1, ⟨#[]⟩, ⟨#[]⟩, x4 + 1⟩ := by rw [hwa]; exact ((HX9.out.below (nbl_drewN (Below.refl _ _))).set 0 (.int .i64 2) ⟨2, (⟨#[107]⟩ : ByteArray) ++ S1, ⟨#[]⟩, ⟨#[]⟩, 0⟩ (by omega) rfl).set 4 _ _ (by omega) rfl
          have hk : Kbut X w9 wa := by rw [hwa]; exact ((Kbut.of (nbl_drewN (Below.refl _ _))).set 0 _).set 4 _
          rw [← hwa]
          clear hwa y0 z0 y2 z2 y3 z3 y4 z4 n4
          have n3 : wa.cell? ⟨g, 3, none⟩ = some (.int .i64 a3) := (hk.cell (q := ⟨g, 3, none⟩) (Nat.lt_of_lt_of_le HGG.out.2 HB9.out.size) (fun e => HXG.out e.symm)).trans (cell_below HB9.out N3.out)
          have k2 : wa.cell? ⟨w.heap.size, 2, none⟩ = some (.int .i64 I) := (hk.cell (q := ⟨w.heap.size, 2, none⟩) HXB.out.1 HXB.out.2).trans (cell_below HB9.out K2.out)
          have y3 : wa.cell? ⟨X, 3, none⟩ = some (.string ⟨#[]⟩) := hx.rng 3 _ rfl
          have z3 : wa.frozen? ⟨X, 3, none⟩ = false := (hx.thr 3 (by omega)).2
          have HXa := Lib.hid hx
          have HKa := Lib.hid hk
          have hlx := hx.lt
          have HWa : Hid (Below w.heap.size w wa) := Lib.hid ((nbl_step HWW.out HB9.out).trans (hk.below (by have := HXX.out; have := HWW.out.size; omega) (nbl_step HWW.out HB9.out).size))
          clear hx hk
          have hi0 : ¬ I = 0 := by have := HB.out; omega
          have e7 : a3.tmod I = jn := by rw [Int.tmod_eq_emod_of_nonneg B3.out.1, HIN.out]
          have z1 : ¬ (9223372036854775807 < 1 + S2.size) := by have := HSZ2.out; omega
          have z1b : ¬ (9223372036854775807 < S2.size + 1) := by have := HSZ2.out; omega
          go_region_held3 (fun w' => w'.cell? ⟨g, 3, none⟩ = some (.int .i64 a3) ∧ w'.cell? ⟨w.heap.size, 2, none⟩ = some (.int .i64 I)) (first | go_keep | (refine ⟨HKG3.out _ _ _ ?_, HKB.out _ _ _ ?_⟩ <;> assumption) | (refine HKG3.out _ _ _ ?_; assumption) | (refine HKB.out _ _ _ ?_; assumption)) (first | (go_at_call 63; refine (HI2.out _ (nbl_step HWa.out (Below.refl _ _).drew)).mono ?_; rintro e wd ⟨rfl, hbd⟩; have HBD := Lib.hid hbd; have m1 : wd.cell? ⟨g, 3, none⟩ = some (.int .i64 a3) := cell_below hbd n3; have m2 : wd.cell? ⟨w.heap.size, 2, none⟩ = some (.int .i64 I) := cell_below hbd k2; have m3 : wd.cell? ⟨X, 3, none⟩ = some (.string ⟨#[]⟩) := cell_below hbd y3; have m4 : wd.frozen? ⟨X, 3, none⟩ = false := (hbd.frozen (p := ⟨X, 3, none⟩) hlx).trans z3; clear hbd) | fail)
          have HBD2 : Hid (Below wa.heap.size wa wd) := Lib.hid (nbl_step (Below.refl _ _).drew HBD.out)
          clear n3 k2 y3 z3 m1 m2 m3 m4 hi0 e7 z1 z1b hlx
          obtain ⟨W2, h1, h2, h3, h4⟩ := HEND.out (wd.setCell ⟨X, 3, none⟩ (.string ((⟨#[105]⟩ : ByteArray) ++ S2))) ⟨2, (⟨#[107]⟩ : ByteArray) ++ S1, ⟨#[]⟩, (⟨#[105]⟩ : ByteArray) ++ S2, x4 + 1⟩ ((HKa.out.step HBD2.out).set 3 _) ((HXa.out.below HBD2.out).set 3 _ ⟨2, (⟨#[107]⟩ : ByteArray) ++ S1, ⟨#[]⟩, (⟨#[105]⟩ : ByteArray) ++ S2, x4 + 1⟩ (by omega) rfl)
          have HLX := Lib.hid h1
          have HST := Lib.hid h2
          have HLD := Lib.hid h3
          have HBW := Lib.hid h4
          clear h1 h2 h3 h4
          go_wp2_with (first | (refine wpList_load_eq (by rfl) (.tmp 9) 33 (by rfl) _ _ (by rfl) HLX.out ?_) | (refine wpList_store_eq (by rfl) (.tmp 4) (.tmp 103) 33 (by rfl) _ _ (by rfl) (by rfl) HST.out ?_))
          have hF : nextF c s = ⟨2, (⟨#[107]⟩ : ByteArray) ++ S1, ⟨#[]⟩, (⟨#[105]⟩ : ByteArray) ++ S2, x4 + 1⟩ := by rw [HF.out]; rw [if_neg (by have := HN0.out; omega), ← X5.out, HQ4.out]; rfl
          rw [hF, HS6.out]
          refine bodyPost_ret (v := .tuple #[.agg (CV.arr ⟨2, (⟨#[107]⟩ : ByteArray) ++ S1, ⟨#[]⟩, (⟨#[105]⟩ : ByteArray) ++ S2, x4 + 1⟩), .int .u64 s6]) ?_ rfl ⟨rfl, HBW.out⟩
          rw [results_cell_tmp rfl]
          show Result.andThen ((loadVar 33 ⟨w.heap.size + 1, 0, none⟩).run Tryz.prog W2) _ = _
          rw [HLD.out]
          rfl
        · go_wp2_with fail
          obtain ⟨wa, hwa⟩ : ∃ wa, wa = ((w9.drewN nq).setCell ⟨X, 0, none⟩ (.int .i64 3)) := ⟨_, rfl⟩
          have hx : XAt wa X ⟨3, (⟨#[107]⟩ : ByteArray) ++ S1, ⟨#[]⟩, ⟨#[]⟩, 0⟩ := by rw [hwa]; exact (HX9.out.below (nbl_drewN (Below.refl _ _))).set 0 _ _ (by omega) rfl
          have hk : Kbut X w9 wa := by rw [hwa]; exact (Kbut.of (nbl_drewN (Below.refl _ _))).set 0 _
          rw [← hwa]
          clear hwa y0 z0 y2 z2 y3 z3 y4 z4 n4
          have n3 : wa.cell? ⟨g, 3, none⟩ = some (.int .i64 a3) := (hk.cell (q := ⟨g, 3, none⟩) (Nat.lt_of_lt_of_le HGG.out.2 HB9.out.size) (fun e => HXG.out e.symm)).trans (cell_below HB9.out N3.out)
          have k2 : wa.cell? ⟨w.heap.size, 2, none⟩ = some (.int .i64 I) := (hk.cell (q := ⟨w.heap.size, 2, none⟩) HXB.out.1 HXB.out.2).trans (cell_below HB9.out K2.out)
          have y3 : wa.cell? ⟨X, 3, none⟩ = some (.string ⟨#[]⟩) := hx.rng 3 _ rfl
          have z3 : wa.frozen? ⟨X, 3, none⟩ = false := (hx.thr 3 (by omega)).2
          have HXa := Lib.hid hx
          have HKa := Lib.hid hk
          have hlx := hx.lt
          have HWa : Hid (Below w.heap.size w wa) := Lib.hid ((nbl_step HWW.out HB9.out).trans (hk.below (by have := HXX.out; have := HWW.out.size; omega) (nbl_step HWW.out HB9.out).size))
          clear hx hk
          have hi0 : ¬ I = 0 := by have := HB.out; omega
          have e7 : a3.tmod I = jn := by rw [Int.tmod_eq_emod_of_nonneg B3.out.1, HIN.out]
          have z1 : ¬ (9223372036854775807 < 1 + S2.size) := by have := HSZ2.out; omega
          have z1b : ¬ (9223372036854775807 < S2.size + 1) := by have := HSZ2.out; omega
          go_region_held3 (fun w' => w'.cell? ⟨g, 3, none⟩ = some (.int .i64 a3) ∧ w'.cell? ⟨w.heap.size, 2, none⟩ = some (.int .i64 I)) (first | go_keep | (refine ⟨HKG3.out _ _ _ ?_, HKB.out _ _ _ ?_⟩ <;> assumption) | (refine HKG3.out _ _ _ ?_; assumption) | (refine HKB.out _ _ _ ?_; assumption)) (first | (go_at_call 63; refine (HI2.out _ (nbl_step HWa.out (Below.refl _ _).drew)).mono ?_; rintro e wd ⟨rfl, hbd⟩; have HBD := Lib.hid hbd; have m1 : wd.cell? ⟨g, 3, none⟩ = some (.int .i64 a3) := cell_below hbd n3; have m2 : wd.cell? ⟨w.heap.size, 2, none⟩ = some (.int .i64 I) := cell_below hbd k2; have m3 : wd.cell? ⟨X, 3, none⟩ = some (.string ⟨#[]⟩) := cell_below hbd y3; have m4 : wd.frozen? ⟨X, 3, none⟩ = false := (hbd.frozen (p := ⟨X, 3, none⟩) hlx).trans z3; clear hbd) | fail)
          have HBD2 : Hid (Below wa.heap.size wa wd) := Lib.hid (nbl_step (Below.refl _ _).drew HBD.out)
          clear n3 k2 y3 z3 m1 m2 m3 m4 hi0 e7 z1 z1b hlx
          obtain ⟨W2, h1, h2, h3, h4⟩ := HEND.out (wd.setCell ⟨X, 3, none⟩ (.string ((⟨#[105]⟩ : ByteArray) ++ S2))) ⟨3, (⟨#[107]⟩ : ByteArray) ++ S1, ⟨#[]⟩, (⟨#[105]⟩ : ByteArray) ++ S2, 0⟩ ((HKa.out.step HBD2.out).set 3 _) ((HXa.out.below HBD2.out).set 3 _ ⟨3, (⟨#[107]⟩ : ByteArray) ++ S1, ⟨#[]⟩, (⟨#[105]⟩ : ByteArray) ++ S2, 0⟩ (by omega) rfl)
          have HLX := Lib.hid h1
          have HST := Lib.hid h2
          have HLD := Lib.hid h3
          have HBW := Lib.hid h4
          clear h1 h2 h3 h4
          go_wp2_with (first | (refine wpList_load_eq (by rfl) (.tmp 9) 33 (by rfl) _ _ (by rfl) HLX.out ?_) | (refine wpList_store_eq (by rfl) (.tmp 4) (.tmp 103) 33 (by rfl) _ _ (by rfl) (by rfl) HST.out ?_))
          have hF : nextF c s = ⟨3, (⟨#[107]⟩ : ByteArray) ++ S1, ⟨#[]⟩, (⟨#[105]⟩ : ByteArray) ++ S2, 0⟩ := by rw [HF.out]; rw [if_neg (by have := HN0.out; omega), ← X5.out]; rfl
          rw [hF, HS6.out]
          refine bodyPost_ret (v := .tuple #[.agg (CV.arr ⟨3, (⟨#[107]⟩ : ByteArray) ++ S1, ⟨#[]⟩, (⟨#[105]⟩ : ByteArray) ++ S2, 0⟩), .int .u64 s6]) ?_ rfl ⟨rfl, HBW.out⟩
          rw [results_cell_tmp rfl]
          show Result.andThen ((loadVar 33 ⟨w.heap.size + 1, 0, none⟩).run Tryz.prog W2) _ = _
          rw [HLD.out]
          rfl
        · go_wp2_with fail
          obtain ⟨wa, hwa⟩ : ∃ wa, wa = (((w9.drewN nq).setCell ⟨X, 0, none⟩ (.int .i64 6)).setCell ⟨X, 2, none⟩ (.string ((⟨#[119]⟩ : ByteArray) ++ S1))) := ⟨_, rfl⟩
          have hx : XAt wa X ⟨6, (⟨#[107]⟩ : ByteArray) ++ S1, (⟨#[119]⟩ : ByteArray) ++ S1, ⟨#[]⟩, 0⟩ := by rw [hwa]; exact ((HX9.out.below (nbl_drewN (Below.refl _ _))).set 0 (.int .i64 6) ⟨6, (⟨#[107]⟩ : ByteArray) ++ S1, ⟨#[]⟩, ⟨#[]⟩, 0⟩ (by omega) rfl).set 2 _ _ (by omega) rfl
          have hk : Kbut X w9 wa := by rw [hwa]; exact ((Kbut.of (nbl_drewN (Below.refl _ _))).set 0 _).set 2 _
          rw [← hwa]
          clear hwa y0 z0 y2 z2 y3 z3 y4 z4 n4
          have n3 : wa.cell? ⟨g, 3, none⟩ = some (.int .i64 a3) := (hk.cell (q := ⟨g, 3, none⟩) (Nat.lt_of_lt_of_le HGG.out.2 HB9.out.size) (fun e => HXG.out e.symm)).trans (cell_below HB9.out N3.out)
          have k2 : wa.cell? ⟨w.heap.size, 2, none⟩ = some (.int .i64 I) := (hk.cell (q := ⟨w.heap.size, 2, none⟩) HXB.out.1 HXB.out.2).trans (cell_below HB9.out K2.out)
          have y3 : wa.cell? ⟨X, 3, none⟩ = some (.string ⟨#[]⟩) := hx.rng 3 _ rfl
          have z3 : wa.frozen? ⟨X, 3, none⟩ = false := (hx.thr 3 (by omega)).2
          have HXa := Lib.hid hx
          have HKa := Lib.hid hk
          have hlx := hx.lt
          have HWa : Hid (Below w.heap.size w wa) := Lib.hid ((nbl_step HWW.out HB9.out).trans (hk.below (by have := HXX.out; have := HWW.out.size; omega) (nbl_step HWW.out HB9.out).size))
          clear hx hk
          have hi0 : ¬ I = 0 := by have := HB.out; omega
          have e7 : a3.tmod I = jn := by rw [Int.tmod_eq_emod_of_nonneg B3.out.1, HIN.out]
          have z1 : ¬ (9223372036854775807 < 1 + S2.size) := by have := HSZ2.out; omega
          have z1b : ¬ (9223372036854775807 < S2.size + 1) := by have := HSZ2.out; omega
          go_region_held3 (fun w' => w'.cell? ⟨g, 3, none⟩ = some (.int .i64 a3) ∧ w'.cell? ⟨w.heap.size, 2, none⟩ = some (.int .i64 I)) (first | go_keep | (refine ⟨HKG3.out _ _ _ ?_, HKB.out _ _ _ ?_⟩ <;> assumption) | (refine HKG3.out _ _ _ ?_; assumption) | (refine HKB.out _ _ _ ?_; assumption)) (first | (go_at_call 63; refine (HI2.out _ (nbl_step HWa.out (Below.refl _ _).drew)).mono ?_; rintro e wd ⟨rfl, hbd⟩; have HBD := Lib.hid hbd; have m1 : wd.cell? ⟨g, 3, none⟩ = some (.int .i64 a3) := cell_below hbd n3; have m2 : wd.cell? ⟨w.heap.size, 2, none⟩ = some (.int .i64 I) := cell_below hbd k2; have m3 : wd.cell? ⟨X, 3, none⟩ = some (.string ⟨#[]⟩) := cell_below hbd y3; have m4 : wd.frozen? ⟨X, 3, none⟩ = false := (hbd.frozen (p := ⟨X, 3, none⟩) hlx).trans z3; clear hbd) | fail)
          have HBD2 : Hid (Below wa.heap.size wa wd) := Lib.hid (nbl_step (Below.refl _ _).drew HBD.out)
          clear n3 k2 y3 z3 m1 m2 m3 m4 hi0 e7 z1 z1b hlx
          obtain ⟨W2, h1, h2, h3, h4⟩ := HEND.out (wd.setCell ⟨X, 3, none⟩ (.string ((⟨#[105]⟩ : ByteArray) ++ S2))) ⟨6, (⟨#[107]⟩ : ByteArray) ++ S1, (⟨#[119]⟩ : ByteArray) ++ S1, (⟨#[105]⟩ : ByteArray) ++ S2, 0⟩ ((HKa.out.step HBD2.out).set 3 _) ((HXa.out.below HBD2.out).set 3 _ ⟨6, (⟨#[107]⟩ : ByteArray) ++ S1, (⟨#[119]⟩ : ByteArray) ++ S1, (⟨#[105]⟩ : ByteArray) ++ S2, 0⟩ (by omega) rfl)
          have HLX := Lib.hid h1
          have HST := Lib.hid h2
          have HLD := Lib.hid h3
          have HBW := Lib.hid h4
          clear h1 h2 h3 h4
          go_wp2_with (first | (refine wpList_load_eq (by rfl) (.tmp 9) 33 (by rfl) _ _ (by rfl) HLX.out ?_) | (refine wpList_store_eq (by rfl) (.tmp 4) (.tmp 103) 33 (by rfl) _ _ (by rfl) (by rfl) HST.out ?_))
          have hF : nextF c s = ⟨6, (⟨#[107]⟩ : ByteArray) ++ S1, (⟨#[119]⟩ : ByteArray) ++ S1, (⟨#[105]⟩ : ByteArray) ++ S2, 0⟩ := by rw [HF.out]; rw [if_neg (by have := HN0.out; omega), ← X5.out]; rfl
          rw [hF, HS6.out]
          refine bodyPost_ret (v := .tuple #[.agg (CV.arr ⟨6, (⟨#[107]⟩ : ByteArray) ++ S1, (⟨#[119]⟩ : ByteArray) ++ S1, (⟨#[105]⟩ : ByteArray) ++ S2, 0⟩), .int .u64 s6]) ?_ rfl ⟨rfl, HBW.out⟩
          rw [results_cell_tmp rfl]
          show Result.andThen ((loadVar 33 ⟨w.heap.size + 1, 0, none⟩).run Tryz.prog W2) _ = _
          rw [HLD.out]
          rfl
        · obtain ⟨W2, h1, h2, h3, h4⟩ := HEND.out (((w9.drewN nq).setCell ⟨X, 0, none⟩ (.int .i64 7)).setCell ⟨X, 2, none⟩ (.string ((⟨#[119]⟩ : ByteArray) ++ S1))) ⟨7, (⟨#[107]⟩ : ByteArray) ++ S1, (⟨#[119]⟩ : ByteArray) ++ S1, ⟨#[]⟩, 0⟩ (((Kbut.of (nbl_drewN (Below.refl _ _))).set 0 _).set 2 _) (((HX9.out.below (nbl_drewN (Below.refl _ _))).set 0 (.int .i64 7) ⟨7, (⟨#[107]⟩ : ByteArray) ++ S1, ⟨#[]⟩, ⟨#[]⟩, 0⟩ (by omega) rfl).set 2 _ ⟨7, (⟨#[107]⟩ : ByteArray) ++ S1, (⟨#[119]⟩ : ByteArray) ++ S1, ⟨#[]⟩, 0⟩ (by omega) rfl)
          have HLX := Lib.hid h1
          have HST := Lib.hid h2
          have HLD := Lib.hid h3
          have HBW := Lib.hid h4
          clear h1 h2 h3 h4
          go_wp2_with (first | (refine wpList_load_eq (by rfl) (.tmp 9) 33 (by rfl) _ _ (by rfl) HLX.out ?_) | (refine wpList_store_eq (by rfl) (.tmp 4) (.tmp 50) 33 (by rfl) _ _ (by rfl) (by rfl) HST.out ?_))
          have hF : nextF c s = ⟨7, (⟨#[107]⟩ : ByteArray) ++ S1, (⟨#[119]⟩ : ByteArray) ++ S1, ⟨#[]⟩, 0⟩ := by rw [HF.out]; rw [if_neg (by have := HN0.out; omega), ← X5.out]; rfl
          rw [hF, HS6.out]
          refine bodyPost_ret (v := .tuple #[.agg (CV.arr ⟨7, (⟨#[107]⟩ : ByteArray) ++ S1, (⟨#[119]⟩ : ByteArray) ++ S1, ⟨#[]⟩, 0⟩), .int .u64 s6]) ?_ rfl ⟨rfl, HBW.out⟩
          rw [results_cell_tmp rfl]
          show Result.andThen ((loadVar 33 ⟨w.heap.size + 1, 0, none⟩).run Tryz.prog W2) _ = _
          rw [HLD.out]
          rfl
end Go.Proofs.YtecnchmcdbcofaaGreatDoor
