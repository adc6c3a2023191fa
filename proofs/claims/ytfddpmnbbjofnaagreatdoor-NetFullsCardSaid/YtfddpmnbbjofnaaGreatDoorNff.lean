/- send. -/
import Derived.Test.YtfddpmnbbjofnaaGreatDoorNfe
set_option linter.unusedVariables false
set_option linter.unusedSimpArgs false
namespace Go.Proofs.YtfddpmnbbjofnaaGreatDoor
open Go.RowKit Go.MapKept
theorem info_packet : (Tryz.prog.info? 72).map (fun i => (i.zero, i.size, i.bytes)) = some (some (.agg #[.int .i64 0, .slice none 0 0]), 2, 32) := by kernel_rfl
/-- no room -/
theorem send_full {w1 W : World} {P Q cq : Nat} {v0 v1 : Value} {k : Nat} (h : LoopS w1 W P Q cq v0 v1 k) (from_ : Int) (node : Value) (A : Option Addr) (m c : Nat) (hk : 10000 < k + m) (hm : m ≤ 2) (hk2 : k ≤ 10000) :
    Calls Tryz.prog 54 #[.pointer (some ⟨P, 0, none⟩), .int .i64 from_, node, .slice A m c] W fun e w' => e = .returned (.tuple #[.int .i64 0, .int .i64 7]) ∧ w' = W := by
  obtain ⟨pv, xs, c1, hown⟩ := h.pk
  obtain ⟨A1, cap1, rfl⟩ := own_slice hown
  have d1 : decide ((10000 : Int) < (k : Int) + (m : Int)) = true := decide_eq_true (by omega)
  clear hown h hk
  go_enter Tryz.func54, Tryz.ntmps54
  go_wp2
  go_ret2
  exact ⟨rfl, rfl⟩
theorem send_step {w1 wr w8 w6 : World} {P Q cq b0 b1 k T C gg cap1 cap2 : Nat} {A1 : Option Addr} {ys : List Value} {o : Obj} (hl : LoopS w1 wr P Q cq (.pointer (some ⟨b0, 0, none⟩)) (.pointer (some ⟨b1, 0, none⟩)) k) (hT : T ≤ C ∧ Q < T ∧ P < T ∧ w1.heap.size ≤ C ∧ C ≤ wr.heap.size ∧ ∀ gg, (Value.slice A1 k cap1).ownBlock = some gg → gg < T)
    (hb8 : Below C wr w8) {xs : List Value} (hown8 : (w8.alloc o).ownsRow w1.heap.size 72 2 (.slice A1 k cap1) k xs) (hown6 : w6.ownsRow w1.heap.size 72 2 (.slice (some ⟨gg, 0, none⟩) (k + 1) cap2) (k + 1) ys) (hgrow : (w8.alloc o).grownBy w6 (Value.slice A1 k cap1).ownBlock) :
    w6.cell? ⟨P, 1, none⟩ = wr.cell? ⟨P, 1, none⟩ ∧ w6.frozen? ⟨P, 1, none⟩ = false ∧ LoopS w1 (w6.setCell ⟨P, 1, none⟩ (.slice (some ⟨gg, 0, none⟩) (k + 1) cap2)) P Q cq (.pointer (some ⟨b0, 0, none⟩)) (.pointer (some ⟨b1, 0, none⟩)) (k + 1) ∧ KeepFrom T C wr (w6.setCell ⟨P, 1, none⟩ (.slice (some ⟨gg, 0, none⟩) (k + 1) cap2)) := by
  have hal : Below w8.heap.size w8 (w8.alloc o) := below_alloc _ _
  have hs8 : C ≤ w8.heap.size := Nat.le_trans hT.2.2.2.2.1 hb8.size
  have hbg : Below w1.heap.size (w8.alloc o) w6 := Below.grown (Below.refl _ _) hgrow (Nat.le_trans hT.2.2.2.1 (Nat.le_trans hs8 hal.size)) fun g hg => (own_block hown8 hg).1
  have hb6 : Below w1.heap.size wr w6 := ((hb8.mono hT.2.2.2.1).trans (hal.mono (Nat.le_trans hT.2.2.2.1 hs8))).trans hbg
  have hne : gg ≠ P := by have := (own_block (g := gg) hown6 rfl).1; have := hl.ltP; omega
  have hneq : gg ≠ Q := by have := (own_block (g := gg) hown6 rfl).1; have := hl.ltQ; omega
  have hn := hl.net.below hb6 hl.ltP hl.ltQ
  have hc1 : w6.cell? ⟨P, 1, none⟩ = wr.cell? ⟨P, 1, none⟩ := hb6.cell (p := ⟨P, 1, none⟩) hl.ltP
  obtain ⟨pv0, xs0, hc2, _⟩ := hl.pk
  have hQ : ∀ i, (w6.setCell ⟨P, 1, none⟩ (.slice (some ⟨gg, 0, none⟩) (k + 1) cap2)).cell? ⟨Q, i, none⟩ = w6.cell? ⟨Q, i, none⟩ := fun i => World.cell?_setCell_other _ _ _ _ (fun e => by injection e with e1 _; exact hl.net.ne e1)
  have hf : ∀ a, (w6.setCell ⟨P, 1, none⟩ (.slice (some ⟨gg, 0, none⟩) (k + 1) cap2)).frozen? a = w6.frozen? a := fun a => World.frozen?_setCells P [.slice (some ⟨gg, 0, none⟩) (k + 1) cap2] 1 w6 a
  refine ⟨hc1, hn.f1, ⟨(hl.keep.trans (.of hb6 (Nat.le_refl _))).trans (.setP w6 1 _), ⟨by rw [World.size_setCell]; exact hn.ltP, by rw [World.size_setCell]; exact hn.ltQ, hn.ne, (World.cell?_setCell_other _ _ _ _ (fun e => by injection e with _ e2; cases e2)).trans hn.c0, (hf _).trans hn.f1, (hQ 0).trans hn.q0, (hQ 1).trans hn.q1, (hf _).trans hn.g0, (hf _).trans hn.g1⟩, hl.ltP, hl.ltQ, hl.nodes, _, ys, World.cell?_setCell_same _ _ _ (hc1.trans hc2), own_keep hown6 fun g hg => Below.heap_setCell _ _ _ _ (show g ≠ P from by rw [← (show gg = g by simpa [Value.ownBlock] using hg)]; exact hne)⟩, fun b h1 h2 => ?_⟩
  refine (Below.heap_setCell _ _ _ _ (show b ≠ P by have := hT.2.2.1; omega)).trans ?_
  refine (hgrow.block b (Nat.lt_of_lt_of_le (Nat.lt_of_lt_of_le h2 hs8) hal.size) (fun e => by have := hT.2.2.2.2.2 b e.symm; omega)).trans ?_
  exact (hal.block b (Nat.lt_of_lt_of_le h2 hs8)).trans (hb8.block b h2)
set_option maxRecDepth 100000 in
set_option maxHeartbeats 2000000 in
/-- one batch -/
theorem send_one {w1 W : World} {P Q cq b0 b1 : Nat} {k : Nat} (h : LoopS w1 W P Q cq (.pointer (some ⟨b0, 0, none⟩)) (.pointer (some ⟨b1, 0, none⟩)) k) {C g : Nat} {bv : Value} (hC : w1.heap.size ≤ C) (hb : BatchK W P Q C g bv) (c : Nat) (hk : k < 10000) {T : Nat} (hT : PkLt W P Q T) (hTC : T ≤ C) :
    Calls Tryz.prog 54 #[.pointer (some ⟨P, 0, none⟩), .int .i64 0, .pointer (some ⟨b0, 0, none⟩), .slice (some ⟨g, 0, none⟩) 1 c] W fun e w' => e = .returned (.tuple #[.int .i64 1, .int .i64 0]) ∧ LoopS w1 w' P Q cq (.pointer (some ⟨b0, 0, none⟩)) (.pointer (some ⟨b1, 0, none⟩)) (k + 1) ∧ KeepFrom T C W w' := by
  obtain ⟨pv, xs, c1, hown⟩ := h.pk
  obtain ⟨A1, cap1, rfl⟩ := own_slice hown
  have d1 : decide ((10000 : Int) < (k : Int) + 1) = false := decide_eq_false (by omega)
  have c0 := h.net.c0
  have q0 := h.net.q0
  have g0 := h.net.g0
  have HL2 := Lib.hid h.setQ
  have HB2 : Hid (BatchK (W.setCell ⟨Q, 0, none⟩ (.pointer (some ⟨b0, 0, none⟩))) P Q C g bv) := Lib.hid (hb.keep (by rw [World.size_setCell]; exact Nat.le_refl _) fun b _ _ hq => Below.heap_setCell _ _ _ _ hq)
  have HT2 : Hid (T ≤ C ∧ Q < T ∧ P < T ∧ w1.heap.size ≤ C ∧ C ≤ W.heap.size ∧ ∀ gg, (Value.slice A1 k cap1).ownBlock = some gg → gg < T) := Lib.hid ⟨hTC, hT.q, hT.p, hC, by obtain ⟨_, _, _, _, ⟨_, _, _, _, h5, _⟩, _⟩ := hb; exact h5, fun gg hg => hT.pk _ gg c1 hg⟩
  have HK0 : Hid (KeepFrom T C W (W.setCell ⟨Q, 0, none⟩ (.pointer (some ⟨b0, 0, none⟩)))) := Lib.hid fun b h1 _ => Below.heap_setCell _ _ _ _ (show b ≠ Q by have := hT.q; omega)
  have HC1 : Hid ((W.setCell ⟨Q, 0, none⟩ (.pointer (some ⟨b0, 0, none⟩))).cell? ⟨P, 1, none⟩ = some (.slice A1 k cap1)) := Lib.hid ((World.cell?_setCell_other _ _ _ _ (fun e => by injection e with e1 _; exact h.net.ne e1.symm)).trans c1)
  have HO2 : Hid ((W.setCell ⟨Q, 0, none⟩ (.pointer (some ⟨b0, 0, none⟩))).ownsRow w1.heap.size 72 2 (.slice A1 k cap1) k xs) := Lib.hid (own_keep hown fun gg hg => Below.heap_setCell _ _ _ _ (show gg ≠ Q by have := (own_block hown hg).1; have := h.ltQ; omega))
  clear h hb hown hC hT hTC
  obtain ⟨ip, hi0, hi1, hi2, hi3⟩ := info_parts info_packet
  go_enter Tryz.func54, Tryz.ntmps54
  go_wp2_with fail
  generalize hW2 : W.setCell ⟨Q, 0, none⟩ (.pointer (some ⟨b0, 0, none⟩)) = W2 at *
  have HS2 : Hid (C ≤ W2.heap.size) := Lib.hid (by rw [← hW2, World.size_setCell]; exact HT2.out.2.2.2.2.1)
  clear hW2 c0 q0 g0 c1
  go_loopg [30] 1 (fun gf u wx => ∃ i : Nat, u = .int .i64 (i : Int) ∧ i + gf = 1 ∧ (i = 0 ∧ wx = W2 ∨ i = 1 ∧ LoopS w1 wx P Q cq (.pointer (some ⟨b0, 0, none⟩)) (.pointer (some ⟨b1, 0, none⟩)) (k + 1) ∧ KeepFrom T C W wx))
  case atStart => exact ⟨0, rfl, rfl, .inl ⟨rfl, rfl⟩⟩
  case round =>
    obtain ⟨i, rfl, hi, hcase⟩ := hrel
    rcases hcase with ⟨rfl, hw⟩ | ⟨rfl, hl, hf⟩
    · subst hw
      obtain ⟨g', rfl⟩ : ∃ g', gk = g' + 1 := ⟨gk - 1, by omega⟩
      obtain ⟨kk, k4, k5, _, _, hg0, hgl, _, _⟩ := id HB2.out
      have c1 := HC1.out
      have z1 := HL2.out.net.f1
      have HCL : Hid (∀ V, Below wr.heap.size wr V → Calls Tryz.prog 26 #[bv] V fun e w' => (∃ a c, e = .returned (.slice (some ⟨a, 0, none⟩) 19 c)) ∧ Below C V w') := Lib.hid fun V hV => clone_any V P Q C g bv (HB2.out.below hV)
      clear hgl
      go_wp2_with fail
      go_region_law
        ((first | (go_simp; refine (HCL.out _ (Below.refl _ wr).drew).mono ?_; rintro e w8 ⟨⟨a, cc, rfl⟩, hb8⟩; have HB8 := Lib.hid (((Below.refl C wr).drew).trans hb8); have HO8 : Hid ((w8.alloc (.cells #[.int .i64 0, .slice (some ⟨a, 0, none⟩) 19 cc] 72)).ownsRow w1.heap.size 72 2 (.slice A1 k cap1) k xs) := Lib.hid (own_keep HO2.out fun gq hq => ((below_alloc w8 _).block gq (Nat.lt_of_lt_of_le (Nat.lt_of_lt_of_le (HT2.out.2.2.2.2.2 gq hq) HT2.out.1) (Nat.le_trans HS2.out HB8.out.size))).trans (HB8.out.block gq (Nat.lt_of_lt_of_le (HT2.out.2.2.2.2.2 gq hq) HT2.out.1))); have n1 : w8.cell? ⟨P, 1, none⟩ = some (.slice A1 k cap1) := (HB8.out.cell (p := ⟨P, 1, none⟩) (Nat.lt_of_lt_of_le HT2.out.2.2.1 HT2.out.1)).trans c1; have n2 : (w8.alloc (.cells #[.int .i64 0, .slice (some ⟨a, 0, none⟩) 19 cc] 72)).cell? ⟨P, 1, none⟩ = some (.slice A1 k cap1) := cell_below (below_alloc _ _) n1; clear hb8; dsimp only) | (refine step_append_lies _ (by rfl) _ _ _ (by rfl) w1.heap.size 72 ip _ 2 32 Tryz.underlying57 hi0 hi1 hi2 hi3 rfl (by omega) (.slice A1 k cap1) k xs (by rfl) HO8.out ⟨w8.heap.size, 0, none⟩ 1 1 [.int .i64 0, .slice (some ⟨a, 0, none⟩) 19 cc] (by rfl) (by rfl) (World.news_of_block (cs := #[.int .i64 0, .slice (some ⟨a, 0, none⟩) 19 cc]) (t := 72) (fr := (0, 0)) (heap_alloc_new w8 _)) (by simp [Value.oneCell']) (by omega) (by simp [maxLen]; omega) (by omega) (by have h1 := HT2.out.2.2.2.1; have h2 := HS2.out; have h3 := HB8.out.size; simp; omega) (w8.heap.size + 1) (by simp) ?_; intro gg cap2 w6 hown6 hgrow hat hlt1; have hss := send_step HL2.out ⟨HT2.out.1, HT2.out.2.1, HT2.out.2.2.1, HT2.out.2.2.2.1, HS2.out, HT2.out.2.2.2.2.2⟩ HB8.out HO8.out hown6 hgrow; have y1 := hss.1.trans c1; have y2 := hss.2.1; have HSS := Lib.hid hss.2.2; clear hss hown6 hgrow hat hlt1) | fail))
      all_goals
        go_wp2_with fail
        go_roundg g'
        case measure => omega
        case rel => exact ⟨1, rfl, by omega, .inr ⟨rfl, HSS.out.1, HK0.out.trans HSS.out.2⟩⟩
    · have HLL := Lib.hid hl
      have HFF := Lib.hid hf
      clear hl hf
      go_wp2_with fail
      go_ret2
      exact ⟨rfl, HLL.out, HFF.out⟩
end Go.Proofs.YtfddpmnbbjofnaaGreatDoor
