/- The reference's has and without. -/
import Derived.Test.YtahklchfchjmcaaDoorLr
import Derived.Test.YtahklchfchjmcaaDoorDg
import Derived.Test.YtahklchfchjmcaaDoorTu
namespace Go.Proofs.YtahklchfchjmcaaDoor
set_option linter.unusedVariables false
set_option linter.unusedSimpArgs false
open Go.RowKit Go.MapKept

abbrev OwnN (w : World) (B : Nat) (v : Value) (l : List Int) : Prop := w.ownsRow B 3 1 v l.length (l.flatMap intCells)
theorem OwnN.below {w w' : World} {B : Nat} {v : Value} {l : List Int} (h : OwnN w B v l) (hb : Below w.heap.size w w') : OwnN w' B v l := own_keep h fun g hg => hb.block g (own_block h hg).2.1
theorem OwnN.snoc {w : World} {B : Nat} {v : Value} {l : List Int} {x : Int} (h : w.ownsRow B 3 1 v (l.length + 1) (l.flatMap intCells ++ [.int .i64 x])) : OwnN w B v (l ++ [x]) := by
  have e : (l ++ [x]).flatMap intCells = l.flatMap intCells ++ [.int .i64 x] := by simp [intCells]
  unfold OwnN
  rw [e, List.length_append]
  exact h
theorem OwnN.grown {w w1 w6 : World} {v : Value} {l : List Int} (h : OwnN w1 w.heap.size v l) (hb : Below w.heap.size w w1) (hg : w1.grownBy w6 v.ownBlock) : Below w.heap.size w w6 :=
  hb.grown hg hb.size fun k hk => (own_block h hk).1
theorem OwnN.sl {w : World} {B : Nat} {v : Value} {l : List Int} (h : OwnN w B v l) : SlAt 1 intCells w v l := slAt_of_own (fun _ => rfl) h
theorem OwnN.none (w : World) (B : Nat) : OwnN w B (.slice .none 0 0) [] := ⟨rfl, .inl ⟨rfl, rfl⟩⟩

def HasOut (w w' : World) (l : List Int) (x : Int) (e : Ending) : Prop := ∃ b, e = .returned (.bool b) ∧ (b = true ↔ x ∈ l) ∧ w' = w

set_option maxRecDepth 100000 in
set_option maxHeartbeats 1000000 in
theorem has_any (w : World) (v : Value) (l : List Int) (h : SlAt 1 intCells w v l) (x : Int) :
    Calls Tryd.prog 63 #[v, .int .i64 x] w fun e w' => HasOut w w' l x e := by
  have HL := Lib.hid h
  obtain ⟨A, cap, rfl, hcap, hcm, _⟩ := h
  go_enter Tryd.func63, Tryd.ntmps63
  go_wp2
  go_loop [5] (fun i => ∃ k : Nat, k ≤ l.length ∧ i = .int .i64 k ∧ ∀ j, j < k → l[j]? ≠ some x) (fun i => l.length - (intOf i).toNat)
  case atStart => exact ⟨0, Nat.zero_le _, rfl, fun j hj => absurd hj (by omega)⟩
  case round =>
    obtain ⟨k, hk, rfl, hno⟩ := hrel
    by_cases hlt : k < l.length
    · obtain ⟨bb, off, rfl, hcs⟩ := HL.out.elem hlt
      have hc0 := hcs 0 _ rfl
      rw [Nat.add_zero, Nat.mul_one] at hc0
      have e1 : l[k]? = some l[k] := List.getElem?_eq_getElem hlt
      generalize l[k] = y at *
      have HN := Lib.hid (And.intro hno e1)
      clear hcs hno e1
      by_cases hxy : y = x
      · subst hxy
        go_wp2
        go_ret
        exact ⟨true, rfl, ⟨fun _ => List.mem_of_getElem? HN.out.2, fun _ => rfl⟩, rfl⟩
      · have hyx : (y == x) = false := by simpa using hxy
        have HX := Lib.hid hxy
        clear hxy
        go_wp2
        go_round
        case rel =>
          refine ⟨k + 1, by omega, by go_num, fun j hj => ?_⟩
          by_cases e : j = k
          · subst e; rw [HN.out.2]; intro h; exact HX.out (Option.some.inj h)
          · exact HN.out.1 j (by omega)
        case measure => simp [intOf]; omega
    · have HN := Lib.hid hno
      clear hno
      go_wp2
      go_ret
      refine ⟨false, rfl, ⟨(fun h => nomatch h), fun hm => ?_⟩, rfl⟩
      obtain ⟨j, hj, e⟩ := List.getElem_of_mem hm
      exact absurd (by rw [List.getElem?_eq_getElem hj, e]) (HN.out j (by omega))

theorem without_snoc (l : List Int) (y n : Int) : without (l ++ [y]) n = if y = n then without l n else without l n ++ [y] := by
  unfold without
  rw [List.filter_append]
  by_cases e : y = n
  · simp [e]
  · simp [e]
theorem wo_len (l : List Int) (n : Int) : (without l n).length ≤ l.length := List.length_filter_le _ _

set_option maxRecDepth 100000 in
set_option maxHeartbeats 1000000 in
theorem without_any (w : World) (v : Value) (l : List Int) (h : SlAt 1 intCells w v l) (hlen : l.length ≤ 100000) (n : Int) :
    Calls Tryd.prog 86 #[v, .int .i64 n] w fun e w' => ∃ u, e = .returned u ∧ OwnN w' w.heap.size u (without l n) ∧ Below w.heap.size w w' := by
  have HL := Lib.hid h
  obtain ⟨A, cap, rfl, hcap, hcm, _⟩ := h
  obtain ⟨ii, hi0, hi1, hi2, hi3⟩ := info_parts info_int
  go_enter Tryd.func86, Tryd.ntmps86
  go_wp2
  go_loopw [5, 6] (fun u5 u6 wr => ∃ k : Nat, k ≤ l.length ∧ u6 = .int .i64 k ∧ OwnN wr w.heap.size u5 (without (l.take k) n) ∧ Below w.heap.size w wr) (fun _ u6 _ => l.length - (intOf u6).toNat)
  case atStart => exact ⟨0, Nat.zero_le _, rfl, OwnN.none _ _, Below.refl _ _⟩
  case round =>
    obtain ⟨k, hk, rfl, hown, hb⟩ := hrel
    by_cases hlt : k < l.length
    · obtain ⟨bb, off, rfl, hcs⟩ := (HL.out.below hb).elem hlt
      have hc0 := hcs 0 _ rfl
      rw [Nat.add_zero, Nat.mul_one] at hc0
      have e1 : l.take (k + 1) = l.take k ++ [l[k]] := by rw [List.take_add_one, List.getElem?_eq_getElem hlt]; rfl
      generalize l[k] = y at *
      by_cases hxy : y = n
      · subst hxy
        have HO := Lib.hid (And.intro hown (And.intro hb e1))
        clear hown hb e1 hcs
        go_wp2
        go_roundw
        case rel => exact ⟨k + 1, by omega, by go_num, by rw [HO.out.2.2, without_snoc, if_pos rfl]; exact HO.out.1, HO.out.2.1⟩
        case measure => simp [intOf]; omega
      · have hyx : (y != n) = true := by simpa using hxy
        have hl1 : (without (l.take k) n).length ≤ 100000 := Nat.le_trans (wo_len _ _) (by rw [List.length_take]; omega)
        have hown2 : OwnN (wr.alloc (.cells #[.int .i64 y] 3)) w.heap.size u5 (without (l.take k) n) := hown.below ((Below.refl _ _).alloc (Nat.le_refl _) _)
        have hfin : ∀ gg cap3 w6, w6.ownsRow w.heap.size 3 1 (.slice (some ⟨gg, 0, none⟩) ((without (l.take k) n).length + 1) cap3) ((without (l.take k) n).length + 1) ((without (l.take k) n).flatMap intCells ++ [.int .i64 y]) → (wr.alloc (.cells #[.int .i64 y] 3)).grownBy w6 u5.ownBlock →
            OwnN w6 w.heap.size (.slice (some ⟨gg, 0, none⟩) ((without (l.take k) n).length + 1) cap3) (without (l.take (k + 1)) n) ∧ Below w.heap.size w w6 := fun gg cap3 w6 h1 h2 =>
          ⟨by rw [e1, without_snoc, if_neg hxy]; exact OwnN.snoc h1, OwnN.grown hown2 (hb.alloc hb.size _) h2⟩
        have hB := hb.size
        have HO := Lib.hid hown2
        have HF := Lib.hid hfin
        clear hown hb e1 hcs hown2 hfin hxy
        go_wp2_with (at_builtin; refine wpList_append_lies _ rfl (.tmp 19) (.tmp 24) _ rfl w.heap.size 3 ii _ 1 8 Tryd.underlying42 hi0 hi1 hi2 hi3 rfl (by omega) u5 (without (l.take k) n).length ((without (l.take k) n).flatMap intCells) rfl HO.out ⟨wr.heap.size, 0, none⟩ 1 1 [.int .i64 y] rfl rfl (World.news_of_block (cs := #[.int .i64 y]) (t := 3) (fr := (0, 0)) (heap_alloc_new wr _)) (by simp [Value.oneCell']) (by omega) (by simp [maxLen]; omega) (by omega) (by simp; omega) (wr.heap.size + 1) (by simp) ?_; intro gg cap1 w6 hown1 hgrow hat hlt1; have HG := Lib.hid (HF.out gg cap1 w6 hown1 hgrow); clear hown1 hgrow hat hlt1)
        go_roundw
        case rel => exact ⟨k + 1, by omega, by go_num, HG.out.1, HG.out.2⟩
        case measure => simp [intOf]; omega
    · obtain rfl : k = l.length := by omega
      rw [List.take_length] at hown
      have HO := Lib.hid (And.intro hown hb)
      clear hown hb
      go_wp2
      go_ret
      exact ⟨_, rfl, HO.out.1, HO.out.2⟩
end Go.Proofs.YtahklchfchjmcaaDoor
