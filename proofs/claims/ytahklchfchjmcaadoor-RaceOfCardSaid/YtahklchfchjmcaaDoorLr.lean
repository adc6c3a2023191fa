/- RaceLocked: the walk. -/
import Derived.Test.YtahklchfchjmcaaDoorLc
import Derived.Test.YtahklchfchjmcaaDoorLk
import Derived.Test.YtahklchfchjmcaaDoorFu
import Derived.Deep.AppendLies
import Derived.Deep.RegionLaw
import Derived.Laws.BytesArg
namespace Go.Proofs.YtahklchfchjmcaaDoor
set_option linter.unusedVariables false
set_option linter.unusedSimpArgs false
open Go.RowKit Go.MapKept

abbrev OwnL (w : World) (B : Nat) (v : Value) (l : List Acc) : Prop := w.ownsRow B 55 3 v l.length (l.flatMap Acc.cells)
theorem OwnL.below {w w' : World} {B : Nat} {v : Value} {l : List Acc} (h : OwnL w B v l) (hb : Below w.heap.size w w') : OwnL w' B v l := own_keep h fun g hg => hb.block g (own_block h hg).2.1
theorem OwnL.snoc {w : World} {B : Nat} {v : Value} {l : List Acc} {t k : Int} {x : ByteArray} (h : w.ownsRow B 55 3 v (l.length + 1) (l.flatMap Acc.cells ++ [.int .i64 t, .int .i64 k, .string x])) : OwnL w B v (l ++ [⟨t, k, x⟩]) := by
  have e : (l ++ [(⟨t, k, x⟩ : Acc)]).flatMap Acc.cells = l.flatMap Acc.cells ++ [.int .i64 t, .int .i64 k, .string x] := by simp [Acc.cells]
  unfold OwnL
  rw [e, List.length_append]
  exact h
/-- What an append gives. -/
theorem OwnL.grown {w w1 w6 : World} {v : Value} {l : List Acc} (h : OwnL w1 w.heap.size v l) (hb : Below w.heap.size w w1) (hg : w1.grownBy w6 v.ownBlock) : Below w.heap.size w w6 :=
  hb.grown hg hb.size fun k hk => (own_block h hk).1

theorem one_cell (w : World) (c : Int) {j : Nat} (hj : j < 1) : (w.alloc (.cells #[.int .u8 c] 5)).drew.cell? ⟨w.heap.size, 0 + j, none⟩ = some (.int .u8 ([c].getD j 0)) := by
  obtain rfl : j = 0 := by omega
  exact World.cell?_alloc_new w _ 5 0

theorem one_cell0 (w : World) (c : Int) {j : Nat} (hj : j < 1) : (w.alloc (.cells #[.int .u8 c] 5)).cell? ⟨w.heap.size, 0 + j, none⟩ = some (.int .u8 ([c].getD j 0)) := by
  obtain rfl : j = 0 := by omega
  exact World.cell?_alloc_new w _ 5 0

theorem str2_size (c : Int) : ((⟨#[120]⟩ : ByteArray) ++ strOfNums [c]).size = 2 := by
  rw [ByteArray.size_append]
  rfl

def LkO (w wr : World) (n : Nat) (u5 u6 : Value) : Prop :=
  ∃ (i : Nat) (l : List Acc), i ≤ n ∧ u6 = .int .i64 i ∧ OwnL wr w.heap.size u5 l ∧ LockInv l ∧ l.all okAcc = true ∧ l.length ≤ 5 * i ∧ Below w.heap.size w wr
def LkN (w wr : World) (i : Nat) (l : List Acc) (t : Int) (u5 u8 : Value) : Prop :=
  ∃ (k : Nat) (ds : List Acc), i ≤ k ∧ k ≤ i + 3 ∧ u8 = .int .i64 k ∧ OwnL wr w.heap.size u5 (l ++ ⟨t, 3, lB⟩ :: ds) ∧ (∀ a ∈ ds, a.task = t) ∧ (l ++ ⟨t, 3, lB⟩ :: ds).all okAcc = true ∧ ds.length ≤ k - i ∧ Below w.heap.size w wr

set_option maxRecDepth 100000 in
set_option maxHeartbeats 4000000 in
theorem locked_any (w : World) (v1 : Value) (tl : List (Fin 256)) (h1 : SlAt 1 u8Cells w v1 tl) (v2 : Value) (kl : List (Fin 256)) (h2 : SlAt 1 u8Cells w v2 kl) (htab : ∀ w', Below w.heap.size w w' → Tab w') :
    Calls Tryd.prog 7 #[v1, v2] w fun e w' => e = .returned (.bool true) ∧ Below w.heap.size w w' := by
  have HT := Lib.hid htab
  have H1 := Lib.hid h1
  have H2 := Lib.hid h2
  obtain ⟨A1, cap1, rfl, hcap1, hcm1, _⟩ := h1
  obtain ⟨A2, cap2, rfl, hcap2, hcm2, _⟩ := h2
  clear htab
  by_cases hlong : (40 : Int) < tl.length
  · go_enter Tryd.func7, Tryd.ntmps7
    go_wp2_with fail
    refine (known_yes _ HT.out).mono ?_
    rintro e w2 ⟨rfl, hb⟩
    go_wp2
    go_ret
    exact ⟨rfl, hb⟩
  · obtain ⟨ia, hi0, hi1, hi2, hi3⟩ := info_parts info_access
    go_enter Tryd.func7, Tryd.ntmps7
    go_wp2_with fail
    go_loopw [5, 6] (fun u5 u6 wr => LkO w wr tl.length u5 u6) (fun _ u6 _ => tl.length - (intOf u6).toNat)
    case atStart => exact ⟨0, [], Nat.zero_le _, rfl, ⟨rfl, .inl ⟨rfl, rfl⟩⟩, LockInv.nil, rfl, Nat.le_refl _, Below.refl _ _⟩
    case round =>
      obtain ⟨i, l, hi, rfl, hown, hinv, hok, hlen, hb⟩ := hrel
      by_cases hlt : i < tl.length
      · obtain ⟨bb, off, rfl, hcs⟩ := (H1.out.below hb).elem hlt
        have hc0 := hcs 0 _ rfl
        rw [Nat.add_zero, Nat.mul_one] at hc0
        generalize tl[i] = x at *
        obtain ⟨x, hx⟩ := x
        have HO := Lib.hid (And.intro hown (And.intro hinv (And.intro hok (And.intro hlen hb))))
        dsimp only at hc0
        clear hcs hown hinv hok hlen hb
        go_wp2_with fail
        refine (law_of _ _ _ _).mono ?_
        rintro e w4 ⟨rfl, hb4⟩
        have hown4 := HO.out.1.below hb4
        have hbw4 := bl_step HO.out.2.2.2.2 hb4
        have hown5 : OwnL (w4.alloc (.cells #[.int .i64 ((x : Int) % 6), .int .i64 (kindOf 97), .string ⟨#[108]⟩] 55)) w.heap.size u5 l := hown4.below ((Below.refl _ _).alloc (Nat.le_refl _) _)
        have hfin : ∀ gg cap3 w6, w6.ownsRow w.heap.size 55 3 (.slice (some ⟨gg, 0, none⟩) (l.length + 1) cap3) (l.length + 1) (l.flatMap Acc.cells ++ [.int .i64 ((x : Int) % 6), .int .i64 (kindOf 97), .string ⟨#[108]⟩]) → (w4.alloc (.cells #[.int .i64 ((x : Int) % 6), .int .i64 (kindOf 97), .string ⟨#[108]⟩] 55)).grownBy w6 u5.ownBlock →
            OwnL w6 w.heap.size (.slice (some ⟨gg, 0, none⟩) (l.length + 1) cap3) (l ++ [⟨(x : Int) % 6, 3, lB⟩]) ∧ Below w.heap.size w w6 :=
          fun gg cap3 w6 h1 h2 => ⟨OwnL.snoc (B := w.heap.size) (l := l) (t := (x : Int) % 6) (k := kindOf 97) (x := ⟨#[108]⟩) h1, OwnL.grown (l := l) hown5 (hbw4.alloc hbw4.size _) h2⟩
        have HO4 := Lib.hid hown5
        have HFin := Lib.hid hfin
        have hl4 : l.length ≤ 200 := by have := HO.out.2.2.2.1; omega
        have hB4 := hbw4.size
        clear hown4 hbw4 hb4 hown5 hfin
        go_wp2_with (at_builtin; refine wpList_append_lies _ rfl (.tmp 25) (.tmp 28) _ rfl w.heap.size 55 ia _ 3 32 Tryd.underlying24 hi0 hi1 hi2 hi3 rfl (by omega) u5 l.length (l.flatMap Acc.cells) rfl HO4.out ⟨w4.heap.size, 0, none⟩ 1 1 [.int .i64 ((x : Int) % 6), .int .i64 (kindOf 97), .string ⟨#[108]⟩] rfl rfl (World.news_of_block (cs := #[.int .i64 ((x : Int) % 6), .int .i64 (kindOf 97), .string ⟨#[108]⟩]) (t := 55) (fr := (0, 0)) (heap_alloc_new w4 _)) (by simp [Value.oneCell']) (by omega) (by simp [maxLen]; omega) (by omega) (by simp; omega) (w4.heap.size + 1) (by simp) ?_; intro gg cap3 w6 hown1 hgrow hat hlt1; have HG := Lib.hid (HFin.out gg cap3 w6 hown1 hgrow); clear hown1 hgrow hat hlt1)
        go_loopw [5, 8] (fun u5 u8 wr => LkN w wr i l ((x : Int) % 6) u5 u8) (fun _ u8 _ => i + 3 - (intOf u8).toNat)
        case atStart => exact ⟨i, [], Nat.le_refl _, by omega, rfl, HG.out.1, (fun a ha => nomatch ha), ok_snoc HO.out.2.2.1 (ok_of (by omega) (by omega) (by omega) (by omega) (by decide) (by decide)), by simp, HG.out.2⟩
        case round =>
          obtain ⟨k, ds, hik, hk3, rfl, hown, hdt, hok, hdl, hb⟩ := hrel
          have hll : (l ++ ⟨(x : Int) % 6, 3, lB⟩ :: ds).length ≤ 5 * i + 1 + (k - i) := by rw [List.length_append, List.length_cons]; have := HO.out.2.2.2.1; omega
          by_cases hkk : k < kl.length
          · by_cases hk4 : k < i + 3
            · obtain ⟨bk, offk, rfl, hds⟩ := H2.out.elem hkk
              have hdw := hds 0 _ rfl
              rw [Nat.add_zero, Nat.mul_one] at hdw
              have hd0 := cell_below hb hdw
              generalize kl[k] = y at *
              obtain ⟨y, hy⟩ := y
              dsimp only at hd0 hdw
              have HDW := Lib.hid hdw
              clear hdw
              have hconv : ∀ c : Int, (convert 44 9 (.slice (some ⟨wr.heap.size, 0, none⟩) 1 1)).run Tryd.prog ((wr.alloc (.cells #[.int .u8 c] 5)).drew) = .ok (.string (strOfNums [c])) ((wr.alloc (.cells #[.int .u8 c] 5)).drew) := fun c =>
                run_convert_bytes_arg _ 44 5 Tryd.underlying44 (by kernel_rfl) wr.heap.size 0 1 1 [c] rfl (fun j hj => one_cell wr c hj) 9 (by kernel_rfl)
              have hown2 : ∀ o o', World.ownsRow (((wr.alloc o).alloc o').drew) w.heap.size 55 3 u5 (l ++ ⟨(x : Int) % 6, 3, lB⟩ :: ds).length ((l ++ ⟨(x : Int) % 6, 3, lB⟩ :: ds).flatMap Acc.cells) := fun o o' => OwnL.below (w := wr) hown ((((Below.refl _ _).alloc (Nat.le_refl _) o).alloc (show wr.heap.size ≤ (wr.alloc o).heap.size by simp) o').drew)
              have hfin : ∀ q sx o o' gg cap3 w6, w6.ownsRow w.heap.size 55 3 (.slice (some ⟨gg, 0, none⟩) ((l ++ ⟨(x : Int) % 6, 3, lB⟩ :: ds).length + 1) cap3) ((l ++ ⟨(x : Int) % 6, 3, lB⟩ :: ds).length + 1) ((l ++ ⟨(x : Int) % 6, 3, lB⟩ :: ds).flatMap Acc.cells ++ [.int .i64 ((x : Int) % 6), .int .i64 q, .string sx]) → (((wr.alloc o).alloc o').drew).grownBy w6 u5.ownBlock →
                  OwnL w6 w.heap.size (.slice (some ⟨gg, 0, none⟩) ((l ++ ⟨(x : Int) % 6, 3, lB⟩ :: ds).length + 1) cap3) (l ++ ⟨(x : Int) % 6, 3, lB⟩ :: (ds ++ [⟨(x : Int) % 6, q, sx⟩])) ∧ Below w.heap.size w w6 :=
                fun q sx o o' gg cap3 w6 h1 h2 => ⟨by have := OwnL.snoc (B := w.heap.size) (l := l ++ ⟨(x : Int) % 6, 3, lB⟩ :: ds) (t := (x : Int) % 6) (k := q) (x := sx) h1; rwa [List.append_assoc, List.cons_append] at this, OwnL.grown (l := l ++ ⟨(x : Int) % 6, 3, lB⟩ :: ds) (hown2 o o') (((hb.alloc hb.size o).alloc (by have := hb.size; simp; omega) o').drew) h2⟩
              have hnb : ∀ o c t, (((wr.alloc o).alloc (.cells c t)).drew).heap[wr.heap.size + 1]? = some (.cells c t (0, 0)) := fun o c t => heap_alloc2_new wr o (.cells c t)
              have hwsz := hb.size
              have hl5 : (l ++ ⟨(x : Int) % 6, 3, lB⟩ :: ds).length ≤ 300 := by omega
              have HOwn2 := Lib.hid hown2
              have HFin2 := Lib.hid hfin
              have HNb := Lib.hid hnb
              obtain ⟨N, hN⟩ : ∃ N, N = (l ++ ⟨(x : Int) % 6, 3, lB⟩ :: ds).length := ⟨_, rfl⟩
              obtain ⟨XS, hXS⟩ : ∃ XS, XS = (l ++ ⟨(x : Int) % 6, 3, lB⟩ :: ds).flatMap Acc.cells := ⟨_, rfl⟩
              rw [← hN, ← hXS] at HOwn2 HFin2
              rw [← hN] at hl5
              have HN := Lib.hid (And.intro hN hXS)
              have hconv' : ∀ c : Int, (convert 44 9 (.slice (some ⟨wr.heap.size, 0, none⟩) 1 1)).run Tryd.prog (wr.alloc (.cells #[.int .u8 c] 5)) = .ok (.string (strOfNums [c])) (wr.alloc (.cells #[.int .u8 c] 5)) := fun c =>
                run_convert_bytes_arg _ 44 5 Tryd.underlying44 (by kernel_rfl) wr.heap.size 0 1 1 [c] rfl (fun j hj => one_cell0 wr c hj) 9 (by kernel_rfl)
              have hsz1 : ∀ c : Int, (strOfNums [c]).size = 1 := fun c => rfl
              have hw1 : IntKind.i64.wrap (1 + (y : Int) % 2) = 1 + (y : Int) % 2 := by rw [IntKind.wrap_i64]; omega
              have hw2 : IntKind.u8.wrap ((y : Int) / 2) = (y : Int) / 2 := by rw [IntKind.wrap_u8]; omega
              have hw3 : ((y : Int) / 2).tmod 10 = (y : Int) / 2 % 10 := Int.tmod_eq_emod_of_nonneg (by omega)
              have hd1 : ∀ o, (wr.alloc o).cell? ⟨bk, offk + k, none⟩ = some (.int .u8 (y : Int)) := fun o => cell_below ((Below.refl _ _).alloc (Nat.le_refl _) o) hd0
              have hw5 : (y : Int).tmod 2 = (y : Int) % 2 := Int.tmod_eq_emod_of_nonneg (by omega)
              have hw6 : IntKind.i64.wrap ((y : Int) % 2) = (y : Int) % 2 := by rw [IntKind.wrap_i64]; omega
              have hw4 : IntKind.u8.wrap (48 + (y : Int) / 2 % 10) = 48 + (y : Int) / 2 % 10 := by rw [IntKind.wrap_u8]; omega
              have HOI := Lib.hid (And.intro hown (And.intro hdt (And.intro hok (And.intro hdl (And.intro hb hll)))))
              clear hds hown hdt hok hdl hb hll hown2 hfin hnb hN hXS
              go_wp2_with fail
              go_region_law
                ((refine step_append_lies _ (by rfl) _ _ _ (by rfl) w.heap.size 55 ia _ 3 32 Tryd.underlying24 hi0 hi1 hi2 hi3 rfl (by omega) u5 N XS (by rfl) (HOwn2.out _ _) ⟨wr.heap.size + 1, 0, none⟩ 1 1 [.int .i64 ((x : Int) % 6), .int .i64 (1 + (y : Int) % 2), .string (⟨#[120]⟩ ++ strOfNums [48 + (y : Int) / 2 % 10])] (by rfl) (by rfl) (World.news_of_block (cs := #[.int .i64 ((x : Int) % 6), .int .i64 (1 + (y : Int) % 2), .string (⟨#[120]⟩ ++ strOfNums [48 + (y : Int) / 2 % 10])]) (t := 55) (fr := (0, 0)) (HNb.out _ _ _)) (by simp [Value.oneCell']) (by omega) (by simp [maxLen]; omega) (by omega) (by simp; omega) (wr.heap.size + 2) (by simp) ?_; intro gg2 cap4 w7 hown1 hgrow hat hlt1; have HG2 := Lib.hid (HFin2.out _ _ _ _ gg2 cap4 w7 hown1 hgrow); have hq := cell_below HG2.out.2 HDW.out; clear hown1 hgrow hat hlt1))
              all_goals
                go_wp2
                go_roundw
                case rel =>
                  refine ⟨k + 1, ds ++ [_], by omega, by omega, by go_num, HG2.out.1, ?_, ?_, ?_, HG2.out.2⟩
                  · intro a ha
                    rcases List.mem_append.1 ha with h | h
                    · exact HOI.out.2.1 a h
                    · rw [List.mem_singleton.1 h]
                  · have h := ok_snoc HOI.out.2.2.1 (ok_of (t := (x : Int) % 6) (k := 1 + (y : Int) % 2) (x := ⟨#[120]⟩ ++ strOfNums [48 + (y : Int) / 2 % 10]) (by omega) (by omega) (by omega) (by omega) (by rw [str2_size]; omega) (by rw [str2_size]; omega))
                    rw [List.append_assoc] at h
                    exact h
                  · rw [List.length_append, List.length_singleton]
                    have := HOI.out.2.2.2.1
                    omega
                case measure => simp [intOf]; omega
            · obtain rfl : k = i + 3 := by omega
              go_wp2_with fail
              refine (law_of _ _ _ _).mono ?_
              rintro e w5 ⟨rfl, hb5⟩
              have hownA := hown.below hb5
              have hbwA := bl_step hb hb5
              have hownB : OwnL (w5.alloc (.cells #[.int .i64 ((x : Int) % 6), .int .i64 (kindOf 108), .string ⟨#[108]⟩] 55)) w.heap.size u5 (l ++ ⟨(x : Int) % 6, 3, lB⟩ :: ds) := hownA.below ((Below.refl _ _).alloc (Nat.le_refl _) _)
              have hfinB : ∀ gg cap3 w6, w6.ownsRow w.heap.size 55 3 (.slice (some ⟨gg, 0, none⟩) ((l ++ ⟨(x : Int) % 6, 3, lB⟩ :: ds).length + 1) cap3) ((l ++ ⟨(x : Int) % 6, 3, lB⟩ :: ds).length + 1) ((l ++ ⟨(x : Int) % 6, 3, lB⟩ :: ds).flatMap Acc.cells ++ [.int .i64 ((x : Int) % 6), .int .i64 (kindOf 108), .string ⟨#[108]⟩]) → (w5.alloc (.cells #[.int .i64 ((x : Int) % 6), .int .i64 (kindOf 108), .string ⟨#[108]⟩] 55)).grownBy w6 u5.ownBlock →
                  OwnL w6 w.heap.size (.slice (some ⟨gg, 0, none⟩) ((l ++ ⟨(x : Int) % 6, 3, lB⟩ :: ds).length + 1) cap3) (l ++ lockPart ((x : Int) % 6) ds) ∧ Below w.heap.size w w6 :=
                fun gg cap3 w6 h1 h2 => ⟨by have := OwnL.snoc (B := w.heap.size) (l := l ++ ⟨(x : Int) % 6, 3, lB⟩ :: ds) (t := (x : Int) % 6) (k := kindOf 108) (x := ⟨#[108]⟩) h1; rw [List.append_assoc] at this; exact this, OwnL.grown (l := l ++ ⟨(x : Int) % 6, 3, lB⟩ :: ds) hownB (hbwA.alloc hbwA.size _) h2⟩
              have hB5 := hbwA.size
              have hl5 : (l ++ ⟨(x : Int) % 6, 3, lB⟩ :: ds).length ≤ 300 := by omega
              have hll2 : (l ++ lockPart ((x : Int) % 6) ds).length ≤ 5 * (i + 1) := by
                have h1 : (l ++ lockPart ((x : Int) % 6) ds).length = l.length + (ds.length + 2) := by simp [lockPart]
                have h2 := HO.out.2.2.2.1
                omega
              have hpart := HO.out.2.1.part ((x : Int) % 6) ds hdt
              have hokp : (l ++ lockPart ((x : Int) % 6) ds).all okAcc = true := by
                have h := ok_snoc hok (ok_of (t := (x : Int) % 6) (k := 4) (x := lB) (by omega) (by omega) (by omega) (by omega) (by decide) (by decide))
                rw [List.append_assoc] at h
                exact h
              obtain ⟨N, hN⟩ : ∃ N, N = (l ++ ⟨(x : Int) % 6, 3, lB⟩ :: ds).length := ⟨_, rfl⟩
              obtain ⟨XS, hXS⟩ : ∃ XS, XS = (l ++ ⟨(x : Int) % 6, 3, lB⟩ :: ds).flatMap Acc.cells := ⟨_, rfl⟩
              have hownC : World.ownsRow (w5.alloc (.cells #[.int .i64 ((x : Int) % 6), .int .i64 (kindOf 108), .string ⟨#[108]⟩] 55)) w.heap.size 55 3 u5 N XS := by rw [hN, hXS]; exact hownB
              rw [← hN, ← hXS] at hfinB
              rw [← hN] at hl5
              have HOwnB := Lib.hid hownC
              have HFinB := Lib.hid hfinB
              have HP := Lib.hid (And.intro hpart (And.intro hokp hll2))
              clear hownA hbwA hownB hownC hfinB hb5 hpart hokp hll2 hN hXS hown hb hdt hok hdl hll
              go_wp2_with (at_builtin; refine wpList_append_lies _ rfl (.tmp 65) (.tmp 68) _ rfl w.heap.size 55 ia _ 3 32 Tryd.underlying24 hi0 hi1 hi2 hi3 rfl (by omega) u5 N XS rfl HOwnB.out ⟨w5.heap.size, 0, none⟩ 1 1 [.int .i64 ((x : Int) % 6), .int .i64 (kindOf 108), .string ⟨#[108]⟩] rfl rfl (World.news_of_block (cs := #[.int .i64 ((x : Int) % 6), .int .i64 (kindOf 108), .string ⟨#[108]⟩]) (t := 55) (fr := (0, 0)) (heap_alloc_new w5 _)) (by simp [Value.oneCell']) (by omega) (by simp [maxLen]; omega) (by omega) (by simp; omega) (w5.heap.size + 1) (by simp) ?_; intro gg3 cap5 w8 hown1 hgrow hat hlt1; have HG3 := Lib.hid (HFinB.out gg3 cap5 w8 hown1 hgrow); clear hown1 hgrow hat hlt1)
              go_roundw
              case rel => exact ⟨i + 1, l ++ lockPart ((x : Int) % 6) ds, by omega, by go_num, HG3.out.1, HP.out.1, HP.out.2.1, HP.out.2.2, HG3.out.2⟩
              case measure => simp [intOf]; omega
          · go_wp2_with fail
            refine (law_of _ _ _ _).mono ?_
            rintro e w5 ⟨rfl, hb5⟩
            have hownA := hown.below hb5
            have hbwA := bl_step hb hb5
            have hownB : OwnL (w5.alloc (.cells #[.int .i64 ((x : Int) % 6), .int .i64 (kindOf 108), .string ⟨#[108]⟩] 55)) w.heap.size u5 (l ++ ⟨(x : Int) % 6, 3, lB⟩ :: ds) := hownA.below ((Below.refl _ _).alloc (Nat.le_refl _) _)
            have hfinB : ∀ gg cap3 w6, w6.ownsRow w.heap.size 55 3 (.slice (some ⟨gg, 0, none⟩) ((l ++ ⟨(x : Int) % 6, 3, lB⟩ :: ds).length + 1) cap3) ((l ++ ⟨(x : Int) % 6, 3, lB⟩ :: ds).length + 1) ((l ++ ⟨(x : Int) % 6, 3, lB⟩ :: ds).flatMap Acc.cells ++ [.int .i64 ((x : Int) % 6), .int .i64 (kindOf 108), .string ⟨#[108]⟩]) → (w5.alloc (.cells #[.int .i64 ((x : Int) % 6), .int .i64 (kindOf 108), .string ⟨#[108]⟩] 55)).grownBy w6 u5.ownBlock →
                OwnL w6 w.heap.size (.slice (some ⟨gg, 0, none⟩) ((l ++ ⟨(x : Int) % 6, 3, lB⟩ :: ds).length + 1) cap3) (l ++ lockPart ((x : Int) % 6) ds) ∧ Below w.heap.size w w6 :=
              fun gg cap3 w6 h1 h2 => ⟨by have := OwnL.snoc (B := w.heap.size) (l := l ++ ⟨(x : Int) % 6, 3, lB⟩ :: ds) (t := (x : Int) % 6) (k := kindOf 108) (x := ⟨#[108]⟩) h1; rw [List.append_assoc] at this; exact this, OwnL.grown (l := l ++ ⟨(x : Int) % 6, 3, lB⟩ :: ds) hownB (hbwA.alloc hbwA.size _) h2⟩
            have hB5 := hbwA.size
            have hl5 : (l ++ ⟨(x : Int) % 6, 3, lB⟩ :: ds).length ≤ 300 := by omega
            have hll2 : (l ++ lockPart ((x : Int) % 6) ds).length ≤ 5 * (i + 1) := by
              have h1 : (l ++ lockPart ((x : Int) % 6) ds).length = l.length + (ds.length + 2) := by simp [lockPart]
              have h2 := HO.out.2.2.2.1
              omega
            have hpart := HO.out.2.1.part ((x : Int) % 6) ds hdt
            have hokp : (l ++ lockPart ((x : Int) % 6) ds).all okAcc = true := by
              have h := ok_snoc hok (ok_of (t := (x : Int) % 6) (k := 4) (x := lB) (by omega) (by omega) (by omega) (by omega) (by decide) (by decide))
              rw [List.append_assoc] at h
              exact h
            obtain ⟨N, hN⟩ : ∃ N, N = (l ++ ⟨(x : Int) % 6, 3, lB⟩ :: ds).length := ⟨_, rfl⟩
            obtain ⟨XS, hXS⟩ : ∃ XS, XS = (l ++ ⟨(x : Int) % 6, 3, lB⟩ :: ds).flatMap Acc.cells := ⟨_, rfl⟩
            have hownC : World.ownsRow (w5.alloc (.cells #[.int .i64 ((x : Int) % 6), .int .i64 (kindOf 108), .string ⟨#[108]⟩] 55)) w.heap.size 55 3 u5 N XS := by rw [hN, hXS]; exact hownB
            rw [← hN, ← hXS] at hfinB
            rw [← hN] at hl5
            have HOwnB := Lib.hid hownC
            have HFinB := Lib.hid hfinB
            have HP := Lib.hid (And.intro hpart (And.intro hokp hll2))
            clear hownA hbwA hownB hownC hfinB hb5 hpart hokp hll2 hN hXS hown hb hdt hok hdl hll
            go_wp2_with (at_builtin; refine wpList_append_lies _ rfl (.tmp 65) (.tmp 68) _ rfl w.heap.size 55 ia _ 3 32 Tryd.underlying24 hi0 hi1 hi2 hi3 rfl (by omega) u5 N XS rfl HOwnB.out ⟨w5.heap.size, 0, none⟩ 1 1 [.int .i64 ((x : Int) % 6), .int .i64 (kindOf 108), .string ⟨#[108]⟩] rfl rfl (World.news_of_block (cs := #[.int .i64 ((x : Int) % 6), .int .i64 (kindOf 108), .string ⟨#[108]⟩]) (t := 55) (fr := (0, 0)) (heap_alloc_new w5 _)) (by simp [Value.oneCell']) (by omega) (by simp [maxLen]; omega) (by omega) (by simp; omega) (w5.heap.size + 1) (by simp) ?_; intro gg3 cap5 w8 hown1 hgrow hat hlt1; have HG3 := Lib.hid (HFinB.out gg3 cap5 w8 hown1 hgrow); clear hown1 hgrow hat hlt1)
            go_roundw
            case rel => exact ⟨i + 1, l ++ lockPart ((x : Int) % 6) ds, by omega, by go_num, HG3.out.1, HP.out.1, HP.out.2.1, HP.out.2.2, HG3.out.2⟩
            case measure => simp [intOf]; omega
      · have HOE := Lib.hid (And.intro hown (And.intro hinv (And.intro hok (And.intro hlen hb))))
        clear hown hinv hok hlen hb
        go_wp2_with fail
        refine (races_yes _ _ l (-1) (-1) 0 (slAt_of_own (fun _ => rfl) HOE.out.1) (known_check (ok_wrong HOE.out.2.2.1 (by have := HOE.out.2.2.2.1; omega)) HOE.out.2.1.check)).mono ?_
        rintro e w4 ⟨rfl, hb4⟩
        have hb := bl_step HOE.out.2.2.2.2 hb4
        clear hb4
        go_wp2_with fail
        refine (known_yes _ (fun w' h => HT.out w' (bl_step hb h))).mono ?_
        rintro e w5 ⟨rfl, hb5⟩
        replace hb := bl_step hb hb5
        clear hb5
        go_wp2
        go_ret
        exact ⟨rfl, hb⟩
end Go.Proofs.YtahklchfchjmcaaDoor
