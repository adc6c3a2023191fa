/- The reference's held and all. -/
import Derived.Test.YtahklchfchjmcaaDoorHa
import Derived.Test.YtahklchfchjmcaaDoorOf
namespace Go.Proofs.YtahklchfchjmcaaDoor
set_option linter.unusedVariables false
set_option linter.unusedSimpArgs false
open Go.RowKit Go.MapKept

theorem held_take {l : List Dd} {k : Nat} (h : k < l.length) (t : Int) : heldF (l.take (k + 1)) t = heldStep t (heldF (l.take k) t) l[k] := by
  rw [List.take_add_one, List.getElem?_eq_getElem h, Option.toList_some, heldF_snoc]
theorem heldF_len (l : List Dd) (t : Int) : (heldF l t).length ≤ l.length := by
  have := held_len t l []
  simpa [heldF] using this

def HeR (w wr : World) (l : List Dd) (t : Int) (u5 u6 : Value) : Prop := ∃ k : Nat, k ≤ l.length ∧ u6 = .int .i64 k ∧ OwnN wr w.heap.size u5 (heldF (l.take k) t) ∧ Below w.heap.size w wr
def IntsOut (w w' : World) (l : List Int) (e : Ending) : Prop := ∃ u, e = .returned u ∧ OwnN w' w.heap.size u l ∧ Below w.heap.size w w'

set_option maxRecDepth 100000 in
set_option maxHeartbeats 2000000 in
theorem held_any (w : World) (v : Value) (l : List Dd) (hl : DdAt w v l) (hlen : l.length ≤ 5000) (t : Int) :
    Calls Tryd.prog 62 #[v, .int .i64 t] w fun e w' => IntsOut w w' (heldF l t) e := by
  have HL := Lib.hid hl
  obtain ⟨A, cap, rfl, hcap, hcm, _⟩ := hl
  obtain ⟨ii, hi0, hi1, hi2, hi3⟩ := info_parts info_int
  go_enter Tryd.func62, Tryd.ntmps62
  go_wp2
  go_loopw [5, 6] (fun u5 u6 wr => HeR w wr l t u5 u6) (fun _ u6 _ => l.length - (intOf u6).toNat)
  case atStart => exact ⟨0, Nat.zero_le _, rfl, OwnN.none _ _, Below.refl _ _⟩
  case round =>
    obtain ⟨k, hk, rfl, hown, hb⟩ := hrel
    by_cases hlt : k < l.length
    · obtain ⟨bb, off, rfl, hcs⟩ := HL.out.elem hlt
      have hw0 := hcs 0 _ rfl
      have hw1 := hcs 1 _ rfl
      have hw2 := hcs 2 _ rfl
      rw [Nat.add_zero] at hw0
      have hc0 := cell_below hb hw0
      have hc1 := cell_below hb hw1
      have hc2 := cell_below hb hw2
      have e1 := held_take hlt t
      generalize l[k] = d at *
      generalize hd0 : d.task = dt at *
      generalize hd1 : d.step = ds at *
      generalize hd2 : d.stripe = dp at *
      have e2 : heldF (l.take (k + 1)) t = if dt = t then (if ds = 2 then heldF (l.take k) t ++ [dp] else if ds = 5 then without (heldF (l.take k) t) dp else heldF (l.take k) t) else heldF (l.take k) t := by
        rw [e1, heldStep, hd0, hd1, hd2]
      have hl1 : (heldF (l.take k) t).length ≤ 5000 := Nat.le_trans (heldF_len _ _) (by rw [List.length_take]; omega)
      have HO := Lib.hid (And.intro hown (And.intro hb e2))
      have HW1 := Lib.hid hw1
      clear hcs e1 e2 hd0 hd1 hd2 hw0 hw1 hw2
      by_cases ht : dt = t
      · have ht' : (dt != t) = false := by simpa using ht
        have HTt := Lib.hid ht
        clear ht
        by_cases h2 : ds = 2
        · subst h2
          have hown2 : OwnN (wr.alloc (.cells #[.int .i64 dp] 3)) w.heap.size u5 (heldF (l.take k) t) := hown.below ((Below.refl _ _).alloc (Nat.le_refl _) _)
          have hfin : ∀ gg cap3 w6, w6.ownsRow w.heap.size 3 1 (.slice (some ⟨gg, 0, none⟩) ((heldF (l.take k) t).length + 1) cap3) ((heldF (l.take k) t).length + 1) ((heldF (l.take k) t).flatMap intCells ++ [.int .i64 dp]) → (wr.alloc (.cells #[.int .i64 dp] 3)).grownBy w6 u5.ownBlock →
              OwnN w6 w.heap.size (.slice (some ⟨gg, 0, none⟩) ((heldF (l.take k) t).length + 1) cap3) (heldF (l.take (k + 1)) t) ∧ Below w.heap.size w w6 := fun gg cap3 w6 h1 h2 =>
            ⟨by rw [HO.out.2.2, if_pos HTt.out, if_pos rfl]; exact OwnN.snoc h1, OwnN.grown hown2 (hb.alloc hb.size _) h2⟩
          have hB := hb.size
          have HOw := Lib.hid hown2
          have HF := Lib.hid hfin
          clear hown hb hown2 hfin
          go_wp2_with (at_builtin; refine wpList_append_lies _ rfl (.tmp 26) (.tmp 32) _ rfl w.heap.size 3 ii _ 1 8 Tryd.underlying42 hi0 hi1 hi2 hi3 rfl (by omega) u5 (heldF (l.take k) t).length ((heldF (l.take k) t).flatMap intCells) rfl HOw.out ⟨wr.heap.size, 0, none⟩ 1 1 [.int .i64 dp] rfl rfl (World.news_of_block (cs := #[.int .i64 dp]) (t := 3) (fr := (0, 0)) (heap_alloc_new wr _)) (by simp [Value.oneCell']) (by omega) (by simp [maxLen]; omega) (by omega) (by simp; omega) (wr.heap.size + 1) (by simp) ?_; intro gg cap1 w6 hown1 hgrow hat hlt1; have HG := Lib.hid (HF.out gg cap1 w6 hown1 hgrow); have hq1 := cell_below HG.out.2 HW1.out; clear hown1 hgrow hat hlt1)
          go_roundw
          case rel => exact ⟨k + 1, by omega, by go_num, HG.out.1, HG.out.2⟩
          case measure => simp [intOf]; omega
        · have h2' : (ds == 2) = false := by simpa using h2
          by_cases h5 : ds = 5
          · subst h5
            have HOw := Lib.hid hown
            have e5 : heldF (l.take (k + 1)) t = without (heldF (l.take k) t) dp := by rw [HO.out.2.2, if_pos HTt.out, if_neg (by decide), if_pos rfl]
            have E5 := Lib.hid e5
            clear hown hb e5
            go_wp2_with fail
            refine (without_any wr u5 (heldF (l.take k) t) HOw.out.sl (by omega) dp).mono ?_
            rintro e w6 ⟨u, rfl, hown6, hb6⟩
            have h6 : OwnN w6 w.heap.size u (heldF (l.take (k + 1)) t) := by
              rw [E5.out]
              exact own_mono hown6 HO.out.2.1.size
            have HG := Lib.hid (And.intro h6 (bl_step HO.out.2.1 hb6))
            clear hown6 h6 hb6
            go_wp2
            go_roundw
            case rel => exact ⟨k + 1, by omega, by go_num, HG.out.1, HG.out.2⟩
            case measure => simp [intOf]; omega
          · have h5' : (ds == 5) = false := by simpa using h5
            have H25 := Lib.hid (And.intro h2 h5)
            clear hown hb h2 h5
            go_wp2
            go_roundw
            case rel => exact ⟨k + 1, by omega, by go_num, by rw [HO.out.2.2, if_pos HTt.out, if_neg H25.out.1, if_neg H25.out.2]; exact HO.out.1, HO.out.2.1⟩
            case measure => simp [intOf]; omega
      · have ht' : (dt != t) = true := by simpa using ht
        have HTt := Lib.hid ht
        clear hown hb ht
        go_wp2
        go_roundw
        case rel => exact ⟨k + 1, by omega, by go_num, by rw [HO.out.2.2, if_neg HTt.out]; exact HO.out.1, HO.out.2.1⟩
        case measure => simp [intOf]; omega
    · obtain rfl : k = l.length := by omega
      rw [List.take_length] at hown
      have HO := Lib.hid (And.intro hown hb)
      clear hown hb
      go_wp2
      go_ret
      exact ⟨_, rfl, HO.out.1, HO.out.2⟩
end Go.Proofs.YtahklchfchjmcaaDoor
