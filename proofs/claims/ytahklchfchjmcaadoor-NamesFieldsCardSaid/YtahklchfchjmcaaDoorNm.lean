/- Lists of strings: slices that are read, slices that a function fills itself; the reference's Same. -/
import Derived.Test.YtahklchfchjmcaaDoorNl
namespace Go.Proofs.YtahklchfchjmcaaDoor
set_option linter.unusedVariables false
set_option linter.unusedSimpArgs false
open Go.RowKit Go.MapKept

def strCells (x : ByteArray) : List Value := [.string x]
abbrev StrAt (w : World) (v : Value) (l : List ByteArray) : Prop := SlAt 1 strCells w v l
abbrev OwnS (w : World) (B : Nat) (v : Value) (l : List ByteArray) : Prop := w.ownsRow B 9 1 v l.length (l.map Value.string)
theorem info_str : (Tryd.prog.info? 9).map (fun i => (i.zero, i.size, i.bytes)) = some (some (.string ⟨#[]⟩), 1, 16) := by kernel_rfl

theorem OwnS.at_ {w : World} {B : Nat} {v : Value} {l : List ByteArray} (h : OwnS w B v l) : StrAt w v l := by
  rcases h.2 with ⟨rfl, h0⟩ | ⟨g, cap, cur, rfl, _, hb, hc, hm, hs, ht⟩
  · have : l = [] := List.eq_nil_of_length_eq_zero h0
    subst this
    exact SlAt.nil 0 none (by omega)
  · refine ⟨_, cap, rfl, hc, by simpa [maxLen] using hm, fun h0 => ⟨g, 0, rfl, fun i hi j u hu => ?_⟩⟩
    obtain ⟨g', cap', hv, _, _, hcell⟩ := nown_cell h h0
    injection hv with h1 h2 h3
    injection h1 with h1
    injection h1 with h1
    subst h1
    match j, hu with
    | 0, hu =>
      obtain rfl : Value.string l[i] = u := by simpa [strCells] using hu
      have e : 0 + i * 1 + 0 = i := by omega
      rw [e]
      exact hcell i _ (by simp [List.getElem?_eq_getElem hi])
    | j + 1, hu => simp [strCells] at hu

/-- A string is laid behind a slice of strings. -/
theorem append_str {w wx : World} {v : Value} {l : List ByteArray} (hown : OwnS wx w.heap.size v l) (hb : Below w.heap.size w wx) (hlen : l.length ≤ 1000000) (x : ByteArray) :
    ∃ g cap w', (∀ ty, (Builtin.append_ #[68, 68] ty #[v, .slice (some ⟨wx.heap.size, 0, none⟩) 1 1]).run Tryd.prog (wx.alloc (.cells #[.string x] 9)) = .ok (.slice (some ⟨g, 0, none⟩) (l.length + 1) cap) w') ∧ OwnS w' w.heap.size (.slice (some ⟨g, 0, none⟩) (l.length + 1) cap) (l ++ [x]) ∧ Below w.heap.size w w' := by
  obtain ⟨ii, hi0, hi1, hi2, hi3⟩ := info_parts info_str
  have hba := (Below.refl wx.heap.size wx).alloc (Nat.le_refl _) (.cells #[.string x] 9)
  have hown2 : OwnS (wx.alloc (.cells #[.string x] 9)) w.heap.size v l := nown_below hown hba
  have hs1 := hb.size
  have hs2 := hba.size
  obtain ⟨g, cap, w', hr, h2, h3, h4, h5⟩ := run_append_lies (P := Tryd.prog) (w := wx.alloc (.cells #[.string x] 9)) 68 0 w.heap.size 9 ii _ 1 16 (by kernel_rfl) hi0 hi1 hi2 hi3 rfl (by omega) v l.length (l.map Value.string) hown2 ⟨wx.heap.size, 0, none⟩ 1 1 [.string x] rfl
    (World.news_of_block (cs := #[.string x]) (t := 9) (fr := (0, 0)) (heap_alloc_new wx _)) (by simp [Value.oneCell']) (by omega) (by unfold maxLen; omega) (by omega) (by omega) _ rfl
  refine ⟨g, cap, w', fun ty => hr, ?_, nown_grown hown2 (hb.trans (hba.mono hs1)) (by omega) h3⟩
  have e : (l ++ [x]).length = l.length + 1 := by simp
  unfold OwnS
  rw [e, List.map_append]
  exact h2

set_option maxRecDepth 100000 in
set_option maxHeartbeats 1000000 in
theorem nsame_yes (w : World) (a b : Value) (l : List ByteArray) (ha : StrAt w a l) (hb : StrAt w b l) (hlen : l.length ≤ 1000000) :
    Calls Tryd.prog 58 #[a, b] w fun e w' => e = .returned (.bool true) ∧ Below w.heap.size w w' := by
  have HA := Lib.hid ha
  have HB := Lib.hid hb
  obtain ⟨A1, c1, rfl, _, _, _⟩ := ha
  obtain ⟨A2, c2, rfl, _, _, _⟩ := hb
  obtain ⟨N, hN⟩ : ∃ N, l.length = N := ⟨_, rfl⟩
  have HL := Lib.hid hN
  rw [hN] at HA HB hlen
  rw [hN]
  clear hN
  go_enter Tryd.func58, Tryd.ntmps58
  go_wp2
  go_loopg [5] N (fun gf s5 wx => ∃ k : Nat, s5 = .int .i64 (k : Int) ∧ k + gf = N ∧ Below w.heap.size w wx)
  case atStart => exact ⟨0, rfl, by omega, Below.refl _ _⟩
  case round =>
    obtain ⟨k, rfl, hk, hbw⟩ := hrel
    by_cases hlt : k < N
    · obtain ⟨g', rfl⟩ : ∃ g', gk = g' + 1 := ⟨gk - 1, by omega⟩
      have hkl : k < l.length := by rw [HL.out]; exact hlt
      obtain ⟨b1, o1, rfl, hc1⟩ := (HA.out.below hbw).elem hkl
      obtain ⟨b2, o2, rfl, hc2⟩ := (HB.out.below hbw).elem hkl
      have hd1 := hc1 0 _ rfl
      have hd2 := hc2 0 _ rfl
      rw [Nat.add_zero, Nat.mul_one] at hd1 hd2
      generalize l[k] = x at *
      have HW := Lib.hid hbw
      clear hbw hc1 hc2 hkl
      go_wp2
      go_quiet (fail)
      go_wp2
      go_roundg g'
      case measure => omega
      case rel => exact ⟨k + 1, by go_num, by omega, nbl_drewN HW.out _⟩
    · have HW := Lib.hid hbw
      clear hbw
      go_wp2
      go_ret
      exact ⟨rfl, HW.out⟩
end Go.Proofs.YtahklchfchjmcaaDoor
