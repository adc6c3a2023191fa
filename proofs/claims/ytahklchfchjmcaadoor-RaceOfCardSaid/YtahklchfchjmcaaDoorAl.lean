/- The reference's all. -/
import Derived.Test.YtahklchfchjmcaaDoorHe
namespace Go.Proofs.YtahklchfchjmcaaDoor
set_option linter.unusedVariables false
set_option linter.unusedSimpArgs false
open Go.RowKit Go.MapKept

def AccsOut (w w' : World) (l : List Acc) (e : Ending) : Prop := ∃ u, e = .returned u ∧ OwnL w' w.heap.size u l ∧ Below w.heap.size w w'
theorem allF_take {l : List Int} {i : Nat} (h : i < l.length) (t k : Int) : allF t k (l.take (i + 1)) = allF t k (l.take i) ++ [⟨t, k, stripeB l[i]⟩] := by
  rw [List.take_add_one, List.getElem?_eq_getElem h, Option.toList_some]
  unfold allF
  rw [List.map_append]
  rfl
theorem allF_len (t k : Int) (l : List Int) : (allF t k l).length = l.length := by simp [allF]

set_option maxRecDepth 100000 in
set_option maxHeartbeats 2000000 in
theorem all_any (w : World) (v : Value) (l : List Int) (hl : SlAt 1 intCells w v l) (hlen : l.length ≤ 5000) (hr : ∀ s ∈ l, 0 ≤ s ∧ s ≤ 9999) (t k : Int) :
    Calls Tryd.prog 65 #[.int .i64 t, .int .i64 k, v] w fun e w' => AccsOut w w' (allF t k l) e := by
  have HL := Lib.hid hl
  have HR := Lib.hid hr
  obtain ⟨A, cap, rfl, hcap, hcm, _⟩ := hl
  clear hr
  obtain ⟨ia, hi0, hi1, hi2, hi3⟩ := info_parts info_access
  go_enter Tryd.func65, Tryd.ntmps65
  go_wp2
  go_loopw [7, 8] (fun u7 u8 wr => ∃ i : Nat, i ≤ l.length ∧ u8 = .int .i64 i ∧ OwnL wr w.heap.size u7 (allF t k (l.take i)) ∧ Below w.heap.size w wr) (fun _ u8 _ => l.length - (intOf u8).toNat)
  case atStart => exact ⟨0, Nat.zero_le _, rfl, ⟨rfl, .inl ⟨rfl, rfl⟩⟩, Below.refl _ _⟩
  case round =>
    obtain ⟨i, hi, rfl, hown, hb⟩ := hrel
    by_cases hlt : i < l.length
    · obtain ⟨bb, off, rfl, hcs⟩ := (HL.out.below hb).elem hlt
      have hc0 := hcs 0 _ rfl
      rw [Nat.add_zero, Nat.mul_one] at hc0
      have e1 := allF_take hlt t k
      have hs := HR.out l[i] (List.getElem_mem hlt)
      generalize l[i] = s at *
      obtain ⟨n, rfl⟩ : ∃ n : Nat, s = n := ⟨s.toNat, by omega⟩
      have hl1 : (allF t k (l.take i)).length ≤ 5000 := by rw [allF_len, List.length_take]; omega
      have hsz : (itoaB (n : Int)).size ≤ 21 := itoaB_size _ (by omega) (by omega)
      have hdig := digits_any n (by omega) wr
      have e2 : stripeB (n : Int) = ⟨#[115, 116, 114, 105, 112, 101, 32]⟩ ++ itoaB (n : Int) := rfl
      rw [e2] at e1
      generalize itoaB (n : Int) = x at *
      have hss : ¬ 9223372036854775807 < 7 + x.size := by omega
      generalize hN : (allF t k (l.take i)) = L at *
      have hown2 : OwnL (wr.alloc (.cells #[.int .i64 t, .int .i64 k, .string (⟨#[115, 116, 114, 105, 112, 101, 32]⟩ ++ x)] 55)) w.heap.size u7 L := hown.below ((Below.refl _ _).alloc (Nat.le_refl _) _)
      have hfin : ∀ gg cap3 w6, w6.ownsRow w.heap.size 55 3 (.slice (some ⟨gg, 0, none⟩) (L.length + 1) cap3) (L.length + 1) (L.flatMap Acc.cells ++ [.int .i64 t, .int .i64 k, .string (⟨#[115, 116, 114, 105, 112, 101, 32]⟩ ++ x)]) → (wr.alloc (.cells #[.int .i64 t, .int .i64 k, .string (⟨#[115, 116, 114, 105, 112, 101, 32]⟩ ++ x)] 55)).grownBy w6 u7.ownBlock →
          OwnL w6 w.heap.size (.slice (some ⟨gg, 0, none⟩) (L.length + 1) cap3) (allF t k (l.take (i + 1))) ∧ Below w.heap.size w w6 := fun gg cap3 w6 h1 h2 =>
        ⟨by rw [e1]; exact OwnL.snoc h1, OwnL.grown hown2 (hb.alloc hb.size _) h2⟩
      have hB := hb.size
      have HO := Lib.hid hown2
      have HF := Lib.hid hfin
      have HD := Lib.hid hdig
      clear hown hb e1 e2 hcs hown2 hfin hdig hN hs
      go_wp2_with (first
        | (go_at_call 64; refine HD.out.mono ?_; rintro e w5 ⟨rfl, rfl⟩)
        | (at_builtin; refine wpList_append_lies _ rfl (.tmp 15) (.tmp 25) _ rfl w.heap.size 55 ia _ 3 32 Tryd.underlying24 hi0 hi1 hi2 hi3 rfl (by omega) u7 L.length (L.flatMap Acc.cells) rfl HO.out ⟨_, 0, none⟩ 1 1 [.int .i64 t, .int .i64 k, .string (⟨#[115, 116, 114, 105, 112, 101, 32]⟩ ++ x)] rfl rfl (World.news_of_block (cs := #[.int .i64 t, .int .i64 k, .string (⟨#[115, 116, 114, 105, 112, 101, 32]⟩ ++ x)]) (t := 55) (fr := (0, 0)) (heap_alloc_new _ _)) (by simp [Value.oneCell']) (by omega) (by simp [maxLen]; omega) (by omega) (by simp; omega) (_ + 1) (by simp; rfl) ?_; intro gg cap1 w6 hown1 hgrow hat hlt1; have HG := Lib.hid (HF.out gg cap1 w6 hown1 hgrow); clear hown1 hgrow hat hlt1))
      go_roundw
      case rel => exact ⟨i + 1, by omega, by go_num, HG.out.1, HG.out.2⟩
      case measure => simp [intOf]; omega
    · obtain rfl : i = l.length := by omega
      rw [List.take_length] at hown
      have HO := Lib.hid (And.intro hown hb)
      clear hown hb
      go_wp2
      go_ret
      exact ⟨_, rfl, HO.out.1, HO.out.2⟩
end Go.Proofs.YtahklchfchjmcaaDoor
