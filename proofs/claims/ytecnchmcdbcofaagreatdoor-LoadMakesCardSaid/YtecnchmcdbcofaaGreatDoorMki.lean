/- Source.Next. -/
import Derived.Test.YtecnchmcdbcofaaGreatDoorMkw
import Derived.Deep.RegionHeld3
import Derived.Laws.ResultCell
set_option linter.unusedVariables false
set_option linter.unusedSimpArgs false
namespace Go.Proofs.YtecnchmcdbcofaaGreatDoor
open Go.RowKit Go.MapKept
theorem Kbut.setNew {a w : World} {p : Nat} (h : Kbut p a w) {g : Nat} (hg : a.heap.size ≤ g) (i : Nat) (v : Value) : Kbut p a (w.setCell ⟨g, i, none⟩ v) :=
  ⟨h.os, h.tape, h.output, by rw [World.size_setCell]; exact h.size, fun k hk hp => (Below.heap_setCell _ _ _ _ (show k ≠ g by omega)).trans (h.block k hk hp)⟩
theorem heap_set_ne (w : World) (g i : Nat) (v : Value) {r : Nat} (h : r ≠ g) : (w.setCell ⟨g, i, none⟩ v).heap[r]? = w.heap[r]? := Below.heap_setCell _ _ _ _ h
theorem there_below {w w' : World} {R n : Nat} (h : w.there R 0 n) (hb : Below w.heap.size w w') (hR : R < w.heap.size) : w'.there R 0 n := fun j hj => by
  rw [hb.cell (p := ⟨R, 0 + j, none⟩) hR, hb.frozen (p := ⟨R, 0 + j, none⟩) hR]
  exact h j hj
def Answered (w W : World) (p R : Nat) (c : LC) (s : Int) (x : CV) : Prop :=
  ∃ W2, (Instr.storeAt 33 (.pointer (some ⟨R, 0, none⟩)) (.agg x.arr)).run Tryz.prog W = .ok () W2 ∧ (loadVar 33 ⟨R, 0, none⟩).run Tryz.prog W2 = .ok (.agg x.arr) W2 ∧ Kbut p w W2 ∧ SrcAt W2 p c s
theorem answered {w wr W : World} {p R : Nat} {c : LC} {s : Int} (x : CV) (hk : Kbut p w wr) (hS : SrcAt wr p c s) (ht : wr.there R 0 6) (hl : R < wr.heap.size) (hR : w.heap.size ≤ R) (hne : p ≠ R) (hb : Below wr.heap.size wr W) : Answered w W p R c s x :=
  put_answer x (hk.step hb) (hS.below hb) (there_below ht hb hl) hR hne
set_option maxRecDepth 100000 in
set_option maxHeartbeats 1000000 in
theorem next_any (w : World) (p : Nat) (c : LC) (s : Int) (hc : c.Ok) (h : SrcAt w p c s) (hit : ∀ n : Int, 0 ≤ n → n < 1000 → ∀ W, Kbut p w W → Calls Tryz.prog 55 #[.int .i64 n] W fun e w' => e = .returned (.string (itoaB n)) ∧ Below W.heap.size W w') : Calls Tryz.prog 22 #[.pointer (some ⟨p, 0, none⟩)] w fun e w' => e = .returned (.tuple #[.agg (nextF c s).arr, .int .i64 0]) ∧ Kbut p w w' ∧ SrcAt w' p c (stateF s) := by
  have HIT := Lib.hid hit
  clear hit
  have HN := Lib.hid (fun W (h : SrcAt W p c s) => srcnone_any W p c s hc h)
  have HU := Lib.hid (fun W σ (h : SrcAt W p c σ) => number_any W p c σ h)
  have HS := Lib.hid h
  have HP : Hid (p < w.heap.size) := Lib.hid h.lt
  clear h
  go_enter Tryz.func22, Tryz.ntmps22
  go_wp2_with (first | (go_at_call 53; refine (HN.out _ (HS.out.below (below_alloc _ _))).mono ?_; rintro e w' ⟨rfl, rfl⟩))
  obtain ⟨wa, hwa⟩ : ∃ wa, wa = w.alloc (.cells #[.int .i64 0, .string ⟨#[]⟩, .string ⟨#[]⟩, .string ⟨#[]⟩, .int .i64 0, .slice none 0 0] 33) := ⟨_, rfl⟩
  have hsz : wa.heap.size = w.heap.size + 1 := by rw [hwa]; exact Array.size_push _
  rw [← hwa, ← hsz]
  have hR : IRow (wa.alloc (.cells #[.int .i64 0, .int .i64 0, .int .i64 0, .int .i64 0, .int .i64 0, .int .i64 0] 126)) wa.heap.size 6 (fun _ => 0) := IRow.make _ _ _ _ rfl fun i hi => by
    rcases (show i = 0 ∨ i = 1 ∨ i = 2 ∨ i = 3 ∨ i = 4 ∨ i = 5 by omega) with rfl | rfl | rfl | rfl | rfl | rfl <;> rfl
  have hb : Below w.heap.size w (wa.alloc (.cells #[.int .i64 0, .int .i64 0, .int .i64 0, .int .i64 0, .int .i64 0, .int .i64 0] 126)) := by rw [hwa]; exact nbl_al (below_alloc _ _)
  have hR4 : (wa.alloc (.cells #[.int .i64 0, .int .i64 0, .int .i64 0, .int .i64 0, .int .i64 0, .int .i64 0] 126)).heap[w.heap.size]? = some (.cells #[.int .i64 0, .string ⟨#[]⟩, .string ⟨#[]⟩, .string ⟨#[]⟩, .int .i64 0, .slice none 0 0] 33 (0, 0)) :=
    ((below_alloc wa _).block w.heap.size (by omega)).trans (by rw [hwa]; exact heap_alloc_new w _)
  have hg : wa.heap.size < (wa.alloc (.cells #[.int .i64 0, .int .i64 0, .int .i64 0, .int .i64 0, .int .i64 0, .int .i64 0] 126)).heap.size := by
    show wa.heap.size < (wa.heap.push _).size
    rw [Array.size_push]
    omega
  generalize (wa.alloc (.cells #[.int .i64 0, .int .i64 0, .int .i64 0, .int .i64 0, .int .i64 0, .int .i64 0] 126)) = w4 at *
  have hS4 := HS.out.below hb
  have HG : Hid (w.heap.size < wa.heap.size) := Lib.hid (by omega)
  have HR4 := Lib.hid hR4
  clear hwa hsz HS hR4
  generalize wa.heap.size = G at *
  rw [← numsTo_zero s] at hR
  have HPG : Hid (p ≠ G ∧ w.heap.size ≠ G ∧ w.heap.size ≠ p ∧ w.heap.size ≤ G) := Lib.hid (by have := HG.out; have := HP.out; omega)
  go_loopg [14] 6 (fun gf u wx => ∃ i : Nat, u = .int .i64 (i : Int) ∧ i + gf = 6 ∧ IRow wx G 6 (numsTo s i) ∧ G < wx.heap.size ∧ SrcAt wx p c (lcgs s i) ∧ Kbut p w wx ∧ wx.heap[w.heap.size]? = w4.heap[w.heap.size]?)
  case atStart => exact ⟨0, rfl, by omega, hR, hg, hS4, .of hb, rfl⟩
  case round =>
    clear hR hg hS4 hb
    obtain ⟨i, rfl, hi, hR, hg, hS, hk, hq⟩ := hrel
    have HR := Lib.hid hR
    have HGX := Lib.hid hg
    have HSX := Lib.hid hS
    have HKX := Lib.hid hk
    have HQX := Lib.hid hq
    clear hR hg hS hk hq
    by_cases hlt : i < 6
    · obtain ⟨g', rfl⟩ : ∃ g', gk = g' + 1 := ⟨gk - 1, by omega⟩
      have HR5 : Hid (IRow (wr.setCell ⟨p, 4, none⟩ (.int .u64 (lcg (lcgs s i)))) G 6 (numsTo s i)) := Lib.hid (HR.out.kbut ((Kbut.refl p wr).set 4 _) HGX.out (fun e => HPG.out.1 e.symm))
      have r5 := HR5.out.cell i hlt
      have z5 := HR5.out.froz hlt
      generalize numsTo s i i = old at r5
      go_wp2_with (first | (go_at_call 54; refine (HU.out _ _ HSX.out).mono ?_; rintro e w' ⟨rfl, rfl⟩))
      go_roundg g'
      case measure => omega
      case rel =>
        have h1 := HR5.out.setv hlt (numAt s i)
        rw [numsTo_succ] at h1
        refine ⟨i + 1, by go_num, by omega, h1, by rw [World.size_setCell, World.size_setCell]; exact HGX.out, (HSX.out.set (lcg (lcgs s i))).kbut ((Kbut.refl G _).set i _) HPG.out.1, (HKX.out.set 4 _).setNew HPG.out.2.2.2 _ _, ?_⟩
        · rw [heap_set_ne _ _ _ _ HPG.out.2.1, heap_set_ne _ _ _ _ HPG.out.2.2.1]
          exact HQX.out
    · have e : i = 6 := by omega
      subst e
      go_wp2_with fail
      have HTH : Hid (wr.there w.heap.size 0 6) := Lib.hid (there_new (HQX.out.trans HR4.out) 6 (by decide))
      have HF : Hid (nextF c s = if numAt s 0 % 1000 < c.reads then (⟨4, ⟨#[107]⟩ ++ itoaB (keyNo c s), ⟨#[]⟩, ⟨#[]⟩, 0⟩ : CV)
        else if numAt s 5 % 10 ≤ 4 then ⟨1, ⟨#[107]⟩ ++ itoaB (keyNo c s), ⟨#[]⟩, ⟨#[105]⟩ ++ itoaB (itemNo c s), numAt s 4 % 9 + 1⟩
        else if numAt s 5 % 10 ≤ 6 then ⟨2, ⟨#[107]⟩ ++ itoaB (keyNo c s), ⟨#[]⟩, ⟨#[105]⟩ ++ itoaB (itemNo c s), numAt s 4 % 9 + 1⟩
        else if numAt s 5 % 10 = 7 then ⟨3, ⟨#[107]⟩ ++ itoaB (keyNo c s), ⟨#[]⟩, ⟨#[105]⟩ ++ itoaB (itemNo c s), 0⟩
        else if numAt s 5 % 10 = 8 then ⟨6, ⟨#[107]⟩ ++ itoaB (keyNo c s), ⟨#[119]⟩ ++ itoaB (keyNo c s), ⟨#[105]⟩ ++ itoaB (itemNo c s), 0⟩
        else ⟨7, ⟨#[107]⟩ ++ itoaB (keyNo c s), ⟨#[119]⟩ ++ itoaB (keyNo c s), ⟨#[]⟩, 0⟩) := Lib.hid rfl
      have HSZ1 : Hid ((itoaB (keyNo c s)).size ≤ 21) := Lib.hid (itoaB_size _ (by have := keyNo_bound hc s; omega) (by have := keyNo_bound hc s; omega))
      have HSZ2 : Hid ((itoaB (itemNo c s)).size ≤ 21) := Lib.hid (itoaB_size _ (by have := itemNo_bound hc s; omega) (by have := itemNo_bound hc s; omega))
      have HI1 := Lib.hid (HIT.out _ (keyNo_bound hc s).1 (keyNo_bound hc s).2)
      have HI2 := Lib.hid (HIT.out _ (itemNo_bound hc s).1 (itemNo_bound hc s).2)
      have HKN : Hid (keyNo c s = numAt s 1 % c.keys % (numAt s 2 % c.keys + 1)) := Lib.hid rfl
      have HIN : Hid (itemNo c s = numAt s 3 % c.items) := Lib.hid rfl
      generalize itoaB (keyNo c s) = S1 at *
      generalize itoaB (itemNo c s) = S2 at *
      generalize keyNo c s = kn at *
      generalize itemNo c s = jn at *
      have N0 := Lib.hid (HR.out.cell 0 (by omega))
      have N1 := Lib.hid (HR.out.cell 1 (by omega))
      have N2 := Lib.hid (HR.out.cell 2 (by omega))
      have N3 := Lib.hid (HR.out.cell 3 (by omega))
      have N4 := Lib.hid (HR.out.cell 4 (by omega))
      have N5 := Lib.hid (HR.out.cell 5 (by omega))
      rw [show numsTo s 6 0 = numAt s 0 from rfl] at N0
      rw [show numsTo s 6 1 = numAt s 1 from rfl] at N1
      rw [show numsTo s 6 2 = numAt s 2 from rfl] at N2
      rw [show numsTo s 6 3 = numAt s 3 from rfl] at N3
      rw [show numsTo s 6 4 = numAt s 4 from rfl] at N4
      rw [show numsTo s 6 5 = numAt s 5 from rfl] at N5
      have B0 := Lib.hid (numAt_bound s 0)
      have B1 := Lib.hid (numAt_bound s 1)
      have B2 := Lib.hid (numAt_bound s 2)
      have B3 := Lib.hid (numAt_bound s 3)
      have B4 := Lib.hid (numAt_bound s 4)
      have B5 := Lib.hid (numAt_bound s 5)
      generalize numAt s 0 = a0 at *
      generalize numAt s 1 = a1 at *
      generalize numAt s 2 = a2 at *
      generalize numAt s 3 = a3 at *
      generalize numAt s 4 = a4 at *
      generalize numAt s 5 = a5 at *
      have K1 := Lib.hid HSX.out.c1
      have K2 := Lib.hid HSX.out.c2
      have K3 := Lib.hid HSX.out.c3
      have HB : Hid (1 ≤ c.keys ∧ c.keys ≤ 1000 ∧ 1 ≤ c.items ∧ c.items ≤ 100 ∧ 0 ≤ c.reads ∧ c.reads ≤ 1000) := Lib.hid ⟨hc.k1, hc.k2, hc.i1, hc.i2, hc.r1, hc.r2⟩
      have HSX6 := HSX
      clear HSX
      generalize c.keys = K at *
      generalize c.items = I at *
      generalize c.reads = D at *
      have n1 := N1.out
      have n2 := N2.out
      have k1 := K1.out
      obtain ⟨x1, e1, X1⟩ : ∃ x1, a1.tmod K = x1 ∧ Hid (x1 = a1 % K ∧ 0 ≤ x1) := ⟨_, rfl, Lib.hid ⟨Int.tmod_eq_emod_of_nonneg B1.out.1, by rw [Int.tmod_eq_emod_of_nonneg B1.out.1]; exact Int.emod_nonneg _ (by have := HB.out; omega)⟩⟩
      obtain ⟨x2, e2, X2⟩ : ∃ x2, a2.tmod K = x2 ∧ Hid (x2 = a2 % K ∧ 0 ≤ x2 ∧ x2 < 1000) := ⟨_, rfl, Lib.hid (by
        have hb := HB.out
        rw [Int.tmod_eq_emod_of_nonneg B2.out.1]
        have := Int.emod_lt_of_pos a2 (show 0 < K by omega)
        have := Int.emod_nonneg a2 (show K ≠ 0 by omega)
        exact ⟨rfl, by omega, by omega⟩)⟩
      have hk0 : ¬ K = 0 := by have := HB.out; omega
      have g3 : ¬ x2 + 1 = 0 := by have := X2.out; omega
      have g3b : decide (x2 + 1 = 0) = false := decide_eq_false g3
      have g3c : (x2 + 1 == 0) = false := beq_eq_false_iff_ne.2 g3
      have g3e : IntKind.i64.wrap (x2 + 1) = x2 + 1 := by have := X2.out; rw [IntKind.wrap_i64]; omega
      have e3 : x1.tmod (x2 + 1) = kn := by rw [Int.tmod_eq_emod_of_nonneg X1.out.2, HKN.out, X1.out.1, X2.out.1]
      go_region_held3 (fun w' => w'.cell? ⟨G, 1, none⟩ = some (.int .i64 a1) ∧ w'.cell? ⟨G, 2, none⟩ = some (.int .i64 a2) ∧ w'.cell? ⟨p, 1, none⟩ = some (.int .i64 K)) (go_keep) (first | (go_at_call 55; refine (HI1.out _ (HKX.out.step (Below.refl _ _).drew)).mono ?_; rintro e w8 ⟨rfl, hb8⟩; have HB8 := Lib.hid hb8; have m1 : w8.cell? ⟨G, 1, none⟩ = some (.int .i64 a1) := cell_below hb8 n1; have m2 : w8.cell? ⟨G, 2, none⟩ = some (.int .i64 a2) := cell_below hb8 n2; have m3 : w8.cell? ⟨p, 1, none⟩ = some (.int .i64 K) := cell_below hb8 k1; clear hb8) | fail)
      clear n1 n2 k1 m1 m2 m3 e1 e2 e3 g3 g3b g3c g3e hk0
      have z1 : ¬ (9223372036854775807 < 1 + S1.size) := by have := HSZ1.out; omega
      have z1b : ¬ (9223372036854775807 < S1.size + 1) := by have := HSZ1.out; omega
      go_wp2_with fail
      have n3 : w8.cell? ⟨G, 3, none⟩ = some (.int .i64 a3) := cell_below HB8.out N3.out
      have n4 : w8.cell? ⟨G, 4, none⟩ = some (.int .i64 a4) := cell_below HB8.out N4.out
      have k2 : w8.cell? ⟨p, 2, none⟩ = some (.int .i64 I) := cell_below HB8.out K2.out
      have HK8 : Hid (Kbut p w w8) := Lib.hid ((HKX.out.step (Below.refl _ _).drew).step HB8.out)
      obtain ⟨x4, e4, X4⟩ : ∃ x4, a4.tmod 9 = x4 ∧ Hid (x4 = a4 % 9 ∧ 0 ≤ x4 ∧ x4 < 9) := ⟨_, rfl, Lib.hid (by
        rw [Int.tmod_eq_emod_of_nonneg B4.out.1]
        exact ⟨rfl, by omega, by omega⟩)⟩
      have hi0 : ¬ I = 0 := by have := HB.out; omega
      have e3 : a3.tmod I = jn := by rw [Int.tmod_eq_emod_of_nonneg B3.out.1, HIN.out]
      have e5 : IntKind.i64.wrap (x4 + 1) = x4 + 1 := by have := X4.out; rw [IntKind.wrap_i64]; omega
      have z2 : ¬ (9223372036854775807 < 1 + S2.size) := by have := HSZ2.out; omega
      have z2b : ¬ (9223372036854775807 < S2.size + 1) := by have := HSZ2.out; omega
      go_region_held3 (fun w' => w'.cell? ⟨G, 3, none⟩ = some (.int .i64 a3) ∧ w'.cell? ⟨G, 4, none⟩ = some (.int .i64 a4) ∧ w'.cell? ⟨p, 2, none⟩ = some (.int .i64 I)) (go_keep) (first | (go_at_call 55; refine (HI2.out _ (HK8.out.step (Below.refl _ _).drew)).mono ?_; rintro e w9 ⟨rfl, hb9⟩; have HB9 := Lib.hid hb9; have m1 : w9.cell? ⟨G, 3, none⟩ = some (.int .i64 a3) := cell_below hb9 n3; have m2 : w9.cell? ⟨G, 4, none⟩ = some (.int .i64 a4) := cell_below hb9 n4; have m3 : w9.cell? ⟨p, 2, none⟩ = some (.int .i64 I) := cell_below hb9 k2; clear hb9) | fail)
      clear n3 n4 k2 m1 m2 m3 e3 hi0 z1 z1b z2 z2b
      have HBX : Hid (Below wr.heap.size wr w9) := Lib.hid (nbl_step (nbl_step (Below.refl _ _).drew HB8.out).drew HB9.out)
      have n0 : w9.cell? ⟨G, 0, none⟩ = some (.int .i64 a0) := cell_below HBX.out N0.out
      have k3 : w9.cell? ⟨p, 3, none⟩ = some (.int .i64 D) := cell_below HBX.out K3.out
      go_wp2_with fail
      have HANS : Hid (∀ W x, Below wr.heap.size wr W → Answered w W p w.heap.size c (lcgs s 6) x) := Lib.hid fun W x hb => answered x HKX.out HSX6.out HTH.out (Nat.lt_trans HG.out HGX.out) (Nat.le_refl _) (fun e => HPG.out.2.2.1 e.symm) hb
      obtain ⟨x0, e0, X0⟩ : ∃ x0, a0.tmod 1000 = x0 ∧ Hid (x0 = a0 % 1000) := ⟨_, rfl, Lib.hid (Int.tmod_eq_emod_of_nonneg B0.out.1)⟩
      by_cases c0 : x0 < D
      · have d0 : decide (x0 < D) = true := decide_eq_true c0
        have C0 := Lib.hid c0
        clear c0
        go_quiet (fail)
        obtain ⟨W2, hst, hld, hk2, hs2⟩ := HANS.out (w9.drewN nq) ⟨4, ⟨#[107]⟩ ++ S1, ⟨#[]⟩, ⟨#[]⟩, 0⟩ (nbl_drewN HBX.out)
        have HST := Lib.hid hst
        have HLD := Lib.hid hld
        have HK2 := Lib.hid hk2
        have HS2 := Lib.hid hs2
        clear hst hld hk2 hs2
        go_wp2_with (first | (refine wpList_store_eq (by rfl) (.tmp 2) (.tmp 69) 33 (by rfl) _ _ (by rfl) (by rfl) HST.out ?_))
        have hF : nextF c s = ⟨4, ⟨#[107]⟩ ++ S1, ⟨#[]⟩, ⟨#[]⟩, 0⟩ := by rw [HF.out]; rw [if_pos (by rw [← X0.out]; exact C0.out)]
        rw [hF]
        refine bodyPost_ret (v := .tuple #[.agg (CV.arr ⟨4, ⟨#[107]⟩ ++ S1, ⟨#[]⟩, ⟨#[]⟩, 0⟩), .int .i64 0]) ?_ rfl ⟨rfl, HK2.out, HS2.out⟩
        rw [results_cell_tmp rfl]
        show Result.andThen ((loadVar 33 ⟨w.heap.size, 0, none⟩).run Tryz.prog W2) _ = _
        rw [HLD.out]
        rfl
      · have d0 : decide (x0 < D) = false := decide_eq_false c0
        have C0 := Lib.hid c0
        clear c0
        go_quiet (fail)
        have n5 : w9.cell? ⟨G, 5, none⟩ = some (.int .i64 a5) := cell_below HBX.out N5.out
        obtain ⟨x5, e6, X5⟩ : ∃ x5, a5.tmod 10 = x5 ∧ Hid (x5 = a5 % 10) := ⟨_, rfl, Lib.hid (Int.tmod_eq_emod_of_nonneg B5.out.1)⟩
        have h5 : x5 = 0 ∨ x5 = 1 ∨ x5 = 2 ∨ x5 = 3 ∨ x5 = 4 ∨ x5 = 5 ∨ x5 = 6 ∨ x5 = 7 ∨ x5 = 8 ∨ x5 = 9 := by have := X5.out; omega
        have HQ4 : Hid (a4 % 9 + 1 = x4 + 1) := Lib.hid (by rw [X4.out.1])
        have HN0 : Hid (¬ a0 % 1000 < D) := Lib.hid (by rw [← X0.out]; exact C0.out)
        rcases h5 with rfl | rfl | rfl | rfl | rfl | rfl | rfl | rfl | rfl | rfl
        · obtain ⟨W2, hst, hld, hk2, hs2⟩ := HANS.out (w9.drewN nq) ⟨1, ⟨#[107]⟩ ++ S1, ⟨#[]⟩, ⟨#[105]⟩ ++ S2, x4 + 1⟩ (nbl_drewN HBX.out)
          have HST := Lib.hid hst
          have HLD := Lib.hid hld
          have HK2 := Lib.hid hk2
          have HS2 := Lib.hid hs2
          clear hst hld hk2 hs2
          go_wp2_with (first | (refine wpList_store_eq (by rfl) (.tmp 2) (.tmp 99) 33 (by rfl) _ _ (by rfl) (by rfl) HST.out ?_))
          have hF : nextF c s = ⟨1, ⟨#[107]⟩ ++ S1, ⟨#[]⟩, ⟨#[105]⟩ ++ S2, x4 + 1⟩ := by rw [HF.out]; rw [if_neg (by have := HN0.out; omega), ← X5.out, HQ4.out]; rfl
          rw [hF]
          refine bodyPost_ret (v := .tuple #[.agg (CV.arr ⟨1, ⟨#[107]⟩ ++ S1, ⟨#[]⟩, ⟨#[105]⟩ ++ S2, x4 + 1⟩), .int .i64 0]) ?_ rfl ⟨rfl, HK2.out, HS2.out⟩
          rw [results_cell_tmp rfl]
          show Result.andThen ((loadVar 33 ⟨w.heap.size, 0, none⟩).run Tryz.prog W2) _ = _
          rw [HLD.out]
          rfl
        · obtain ⟨W2, hst, hld, hk2, hs2⟩ := HANS.out (w9.drewN nq) ⟨1, ⟨#[107]⟩ ++ S1, ⟨#[]⟩, ⟨#[105]⟩ ++ S2, x4 + 1⟩ (nbl_drewN HBX.out)
          have HST := Lib.hid hst
          have HLD := Lib.hid hld
          have HK2 := Lib.hid hk2
          have HS2 := Lib.hid hs2
          clear hst hld hk2 hs2
          go_wp2_with (first | (refine wpList_store_eq (by rfl) (.tmp 2) (.tmp 99) 33 (by rfl) _ _ (by rfl) (by rfl) HST.out ?_))
          have hF : nextF c s = ⟨1, ⟨#[107]⟩ ++ S1, ⟨#[]⟩, ⟨#[105]⟩ ++ S2, x4 + 1⟩ := by rw [HF.out]; rw [if_neg (by have := HN0.out; omega), ← X5.out, HQ4.out]; rfl
          rw [hF]
          refine bodyPost_ret (v := .tuple #[.agg (CV.arr ⟨1, ⟨#[107]⟩ ++ S1, ⟨#[]⟩, ⟨#[105]⟩ ++ S2, x4 + 1⟩), .int .i64 0]) ?_ rfl ⟨rfl, HK2.out, HS2.out⟩
          rw [results_cell_tmp rfl]
          show Result.andThen ((loadVar 33 ⟨w.heap.size, 0, none⟩).run Tryz.prog W2) _ = _
          rw [HLD.out]
          rfl
        · obtain ⟨W2, hst, hld, hk2, hs2⟩ := HANS.out (w9.drewN nq) ⟨1, ⟨#[107]⟩ ++ S1, ⟨#[]⟩, ⟨#[105]⟩ ++ S2, x4 + 1⟩ (nbl_drewN HBX.out)
          have HST := Lib.hid hst
          have HLD := Lib.hid hld
          have HK2 := Lib.hid hk2
          have HS2 := Lib.hid hs2
          clear hst hld hk2 hs2
          go_wp2_with (first | (refine wpList_store_eq (by rfl) (.tmp 2) (.tmp 99) 33 (by rfl) _ _ (by rfl) (by rfl) HST.out ?_))
          have hF : nextF c s = ⟨1, ⟨#[107]⟩ ++ S1, ⟨#[]⟩, ⟨#[105]⟩ ++ S2, x4 + 1⟩ := by rw [HF.out]; rw [if_neg (by have := HN0.out; omega), ← X5.out, HQ4.out]; rfl
          rw [hF]
          refine bodyPost_ret (v := .tuple #[.agg (CV.arr ⟨1, ⟨#[107]⟩ ++ S1, ⟨#[]⟩, ⟨#[105]⟩ ++ S2, x4 + 1⟩), .int .i64 0]) ?_ rfl ⟨rfl, HK2.out, HS2.out⟩
          rw [results_cell_tmp rfl]
          show Result.andThen ((loadVar 33 ⟨w.heap.size, 0, none⟩).run Tryz.prog W2) _ = _
          rw [HLD.out]
          rfl
        · obtain ⟨W2, hst, hld, hk2, hs2⟩ := HANS.out (w9.drewN nq) ⟨1, ⟨#[107]⟩ ++ S1, ⟨#[]⟩, ⟨#[105]⟩ ++ S2, x4 + 1⟩ (nbl_drewN HBX.out)
          have HST := Lib.hid hst
          have HLD := Lib.hid hld
          have HK2 := Lib.hid hk2
          have HS2 := Lib.hid hs2
          clear hst hld hk2 hs2
          go_wp2_with (first | (refine wpList_store_eq (by rfl) (.tmp 2) (.tmp 99) 33 (by rfl) _ _ (by rfl) (by rfl) HST.out ?_))
          have hF : nextF c s = ⟨1, ⟨#[107]⟩ ++ S1, ⟨#[]⟩, ⟨#[105]⟩ ++ S2, x4 + 1⟩ := by rw [HF.out]; rw [if_neg (by have := HN0.out; omega), ← X5.out, HQ4.out]; rfl
          rw [hF]
          refine bodyPost_ret (v := .tuple #[.agg (CV.arr ⟨1, ⟨#[107]⟩ ++ S1, ⟨#[]⟩, ⟨#[105]⟩ ++ S2, x4 + 1⟩), .int .i64 0]) ?_ rfl ⟨rfl, HK2.out, HS2.out⟩
          rw [results_cell_tmp rfl]
          show Result.andThen ((loadVar 33 ⟨w.heap.size, 0, none⟩).run Tryz.prog W2) _ = _
          rw [HLD.out]
          rfl
        · obtain ⟨W2, hst, hld, hk2, hs2⟩ := HANS.out (w9.drewN nq) ⟨1, ⟨#[107]⟩ ++ S1, ⟨#[]⟩, ⟨#[105]⟩ ++ S2, x4 + 1⟩ (nbl_drewN HBX.out)
          have HST := Lib.hid hst
          have HLD := Lib.hid hld
          have HK2 := Lib.hid hk2
          have HS2 := Lib.hid hs2
          clear hst hld hk2 hs2
          go_wp2_with (first | (refine wpList_store_eq (by rfl) (.tmp 2) (.tmp 99) 33 (by rfl) _ _ (by rfl) (by rfl) HST.out ?_))
          have hF : nextF c s = ⟨1, ⟨#[107]⟩ ++ S1, ⟨#[]⟩, ⟨#[105]⟩ ++ S2, x4 + 1⟩ := by rw [HF.out]; rw [if_neg (by have := HN0.out; omega), ← X5.out, HQ4.out]; rfl
          rw [hF]
          refine bodyPost_ret (v := .tuple #[.agg (CV.arr ⟨1, ⟨#[107]⟩ ++ S1, ⟨#[]⟩, ⟨#[105]⟩ ++ S2, x4 + 1⟩), .int .i64 0]) ?_ rfl ⟨rfl, HK2.out, HS2.out⟩
          rw [results_cell_tmp rfl]
          show Result.andThen ((loadVar 33 ⟨w.heap.size, 0, none⟩).run Tryz.prog W2) _ = _
          rw [HLD.out]
          rfl
        · obtain ⟨W2, hst, hld, hk2, hs2⟩ := HANS.out (w9.drewN nq) ⟨2, ⟨#[107]⟩ ++ S1, ⟨#[]⟩, ⟨#[105]⟩ ++ S2, x4 + 1⟩ (nbl_drewN HBX.out)
          have HST := Lib.hid hst
          have HLD := Lib.hid hld
          have HK2 := Lib.hid hk2
          have HS2 := Lib.hid hs2
          clear hst hld hk2 hs2
          go_wp2_with (first | (refine wpList_store_eq (by rfl) (.tmp 2) (.tmp 79) 33 (by rfl) _ _ (by rfl) (by rfl) HST.out ?_))
          have hF : nextF c s = ⟨2, ⟨#[107]⟩ ++ S1, ⟨#[]⟩, ⟨#[105]⟩ ++ S2, x4 + 1⟩ := by rw [HF.out]; rw [if_neg (by have := HN0.out; omega), ← X5.out, HQ4.out]; rfl
          rw [hF]
          refine bodyPost_ret (v := .tuple #[.agg (CV.arr ⟨2, ⟨#[107]⟩ ++ S1, ⟨#[]⟩, ⟨#[105]⟩ ++ S2, x4 + 1⟩), .int .i64 0]) ?_ rfl ⟨rfl, HK2.out, HS2.out⟩
          rw [results_cell_tmp rfl]
          show Result.andThen ((loadVar 33 ⟨w.heap.size, 0, none⟩).run Tryz.prog W2) _ = _
          rw [HLD.out]
          rfl
        · obtain ⟨W2, hst, hld, hk2, hs2⟩ := HANS.out (w9.drewN nq) ⟨2, ⟨#[107]⟩ ++ S1, ⟨#[]⟩, ⟨#[105]⟩ ++ S2, x4 + 1⟩ (nbl_drewN HBX.out)
          have HST := Lib.hid hst
          have HLD := Lib.hid hld
          have HK2 := Lib.hid hk2
          have HS2 := Lib.hid hs2
          clear hst hld hk2 hs2
          go_wp2_with (first | (refine wpList_store_eq (by rfl) (.tmp 2) (.tmp 79) 33 (by rfl) _ _ (by rfl) (by rfl) HST.out ?_))
          have hF : nextF c s = ⟨2, ⟨#[107]⟩ ++ S1, ⟨#[]⟩, ⟨#[105]⟩ ++ S2, x4 + 1⟩ := by rw [HF.out]; rw [if_neg (by have := HN0.out; omega), ← X5.out, HQ4.out]; rfl
          rw [hF]
          refine bodyPost_ret (v := .tuple #[.agg (CV.arr ⟨2, ⟨#[107]⟩ ++ S1, ⟨#[]⟩, ⟨#[105]⟩ ++ S2, x4 + 1⟩), .int .i64 0]) ?_ rfl ⟨rfl, HK2.out, HS2.out⟩
          rw [results_cell_tmp rfl]
          show Result.andThen ((loadVar 33 ⟨w.heap.size, 0, none⟩).run Tryz.prog W2) _ = _
          rw [HLD.out]
          rfl
        · obtain ⟨W2, hst, hld, hk2, hs2⟩ := HANS.out (w9.drewN nq) ⟨3, ⟨#[107]⟩ ++ S1, ⟨#[]⟩, ⟨#[105]⟩ ++ S2, 0⟩ (nbl_drewN HBX.out)
          have HST := Lib.hid hst
          have HLD := Lib.hid hld
          have HK2 := Lib.hid hk2
          have HS2 := Lib.hid hs2
          clear hst hld hk2 hs2
          go_wp2_with (first | (refine wpList_store_eq (by rfl) (.tmp 2) (.tmp 84) 33 (by rfl) _ _ (by rfl) (by rfl) HST.out ?_))
          have hF : nextF c s = ⟨3, ⟨#[107]⟩ ++ S1, ⟨#[]⟩, ⟨#[105]⟩ ++ S2, 0⟩ := by rw [HF.out]; rw [if_neg (by have := HN0.out; omega), ← X5.out]; rfl
          rw [hF]
          refine bodyPost_ret (v := .tuple #[.agg (CV.arr ⟨3, ⟨#[107]⟩ ++ S1, ⟨#[]⟩, ⟨#[105]⟩ ++ S2, 0⟩), .int .i64 0]) ?_ rfl ⟨rfl, HK2.out, HS2.out⟩
          rw [results_cell_tmp rfl]
          show Result.andThen ((loadVar 33 ⟨w.heap.size, 0, none⟩).run Tryz.prog W2) _ = _
          rw [HLD.out]
          rfl
        · obtain ⟨W2, hst, hld, hk2, hs2⟩ := HANS.out (w9.drewN nq) ⟨6, ⟨#[107]⟩ ++ S1, ⟨#[119]⟩ ++ S1, ⟨#[105]⟩ ++ S2, 0⟩ (nbl_drewN HBX.out)
          have HST := Lib.hid hst
          have HLD := Lib.hid hld
          have HK2 := Lib.hid hk2
          have HS2 := Lib.hid hs2
          clear hst hld hk2 hs2
          go_wp2_with (first | (refine wpList_store_eq (by rfl) (.tmp 2) (.tmp 90) 33 (by rfl) _ _ (by rfl) (by rfl) HST.out ?_))
          have hF : nextF c s = ⟨6, ⟨#[107]⟩ ++ S1, ⟨#[119]⟩ ++ S1, ⟨#[105]⟩ ++ S2, 0⟩ := by rw [HF.out]; rw [if_neg (by have := HN0.out; omega), ← X5.out]; rfl
          rw [hF]
          refine bodyPost_ret (v := .tuple #[.agg (CV.arr ⟨6, ⟨#[107]⟩ ++ S1, ⟨#[119]⟩ ++ S1, ⟨#[105]⟩ ++ S2, 0⟩), .int .i64 0]) ?_ rfl ⟨rfl, HK2.out, HS2.out⟩
          rw [results_cell_tmp rfl]
          show Result.andThen ((loadVar 33 ⟨w.heap.size, 0, none⟩).run Tryz.prog W2) _ = _
          rw [HLD.out]
          rfl
        · obtain ⟨W2, hst, hld, hk2, hs2⟩ := HANS.out (w9.drewN nq) ⟨7, ⟨#[107]⟩ ++ S1, ⟨#[119]⟩ ++ S1, ⟨#[]⟩, 0⟩ (nbl_drewN HBX.out)
          have HST := Lib.hid hst
          have HLD := Lib.hid hld
          have HK2 := Lib.hid hk2
          have HS2 := Lib.hid hs2
          clear hst hld hk2 hs2
          go_wp2_with (first | (refine wpList_store_eq (by rfl) (.tmp 2) (.tmp 95) 33 (by rfl) _ _ (by rfl) (by rfl) HST.out ?_))
          have hF : nextF c s = ⟨7, ⟨#[107]⟩ ++ S1, ⟨#[119]⟩ ++ S1, ⟨#[]⟩, 0⟩ := by rw [HF.out]; rw [if_neg (by have := HN0.out; omega), ← X5.out]; rfl
          rw [hF]
          refine bodyPost_ret (v := .tuple #[.agg (CV.arr ⟨7, ⟨#[107]⟩ ++ S1, ⟨#[119]⟩ ++ S1, ⟨#[]⟩, 0⟩), .int .i64 0]) ?_ rfl ⟨rfl, HK2.out, HS2.out⟩
          rw [results_cell_tmp rfl]
          show Result.andThen ((loadVar 33 ⟨w.heap.size, 0, none⟩).run Tryz.prog W2) _ = _
          rw [HLD.out]
          rfl
end Go.Proofs.YtecnchmcdbcofaaGreatDoor
