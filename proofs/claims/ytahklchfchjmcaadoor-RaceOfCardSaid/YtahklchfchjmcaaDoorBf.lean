/- The reference of race: the walk of Before. -/
import Derived.Test.YtahklchfchjmcaaDoorRf
namespace Go.Proofs.YtahklchfchjmcaaDoor
set_option linter.unusedVariables false
set_option linter.unusedSimpArgs false
open Go.RowKit Go.MapKept

/-- The rows' values. -/
def rowVals (gs : Nat → Nat) (k : Nat) : List Value := (List.range k).map fun i => .slice (some ⟨gs i, 0, none⟩) i i
theorem rowVals_len (gs : Nat → Nat) (k : Nat) : (rowVals gs k).length = k := by simp [rowVals]
theorem rowVals_succ (gs : Nat → Nat) (k : Nat) : rowVals gs (k + 1) = rowVals gs k ++ [.slice (some ⟨gs k, 0, none⟩) k k] := by
  simp [rowVals, List.range_succ]
theorem rowVals_congr {gs gs' : Nat → Nat} {k : Nat} (h : ∀ i, i < k → gs i = gs' i) : rowVals gs k = rowVals gs' k := by
  unfold rowVals
  refine List.map_congr_left fun i hi => ?_
  rw [h i (List.mem_range.1 hi)]

/-- k rows of what happens before what; v owns their values. -/
structure OutAt (w : World) (B : Nat) (l : List Acc) (v : Value) (k : Nat) (gs : Nat → Nat) : Prop where
  own : w.ownsRow B 39 1 v k (rowVals gs k)
  row : ∀ i, i < k → RowB w (gs i) i (hbB l i) ∧ B ≤ gs i

section
variable {w w' : World} {B : Nat} {l : List Acc} {v : Value} {k : Nat} {gs : Nat → Nat}
theorem OutAt.keep (h : OutAt w B l v k gs) (h1 : ∀ g, v.ownBlock = some g → w'.heap[g]? = w.heap[g]?) (h2 : ∀ i, i < k → w'.heap[gs i]? = w.heap[gs i]?) : OutAt w' B l v k gs :=
  ⟨own_keep h.own h1, fun i hi => ⟨(h.row i hi).1.keep (h2 i hi), (h.row i hi).2⟩⟩
theorem OutAt.below (h : OutAt w B l v k gs) (hb : Below w.heap.size w w') : OutAt w' B l v k gs :=
  h.keep (fun g hg => hb.block g (own_block h.own hg).2.1) (fun i hi => hb.block _ (h.row i hi).1.lt)
/-- A row of bools is written that is none of these. -/
theorem OutAt.set (h : OutAt w B l v k gs) {g n : Nat} {f : Nat → Bool} (hr : RowB w g n f) (hg : ∀ i, i < k → gs i ≠ g) (j : Nat) (u : Value) : OutAt (w.setCell ⟨g, j, none⟩ u) B l v k gs := by
  refine h.keep (fun g' hg' => Below.heap_setCell w _ _ _ ?_) (fun i hi => Below.heap_setCell w _ _ _ (hg i hi))
  rintro rfl
  obtain ⟨cur, h1⟩ := (own_block h.own hg').2.2
  obtain ⟨cs, h2, _⟩ := hr
  rw [h2] at h1
  injection h1 with h1
  injection h1 with _ h3
  cases h3
theorem OutAt.elem (h : OutAt w B l v k gs) {i : Nat} (hi : i < k) : ∃ g cap, v = .slice (some ⟨g, 0, none⟩) k cap ∧ w.cell? ⟨g, i, none⟩ = some (.slice (some ⟨gs i, 0, none⟩) i i) ∧ g < w.heap.size := by
  rcases h.own.2 with ⟨_, h0⟩ | ⟨g, cap, cur, rfl, hg, hb, hc, hm, hs, ht⟩
  · omega
  · refine ⟨g, cap, rfl, ?_, (Array.getElem?_eq_some_iff.1 hb).1⟩
    have h1 : (rowVals gs k)[i]? = some (.slice (some ⟨gs i, 0, none⟩) i i) := by simp [rowVals, hi]
    rw [← ht, List.getElem?_take_of_lt (by omega), Array.getElem?_toList] at h1
    simp only [World.cell?, hb]
    simpa using h1
end

/-- At the outer loop's head. -/
def BeR (w wr : World) (l : List Acc) (u3 u4 : Value) : Prop := ∃ k gs, k ≤ l.length ∧ u4 = .int .i64 (k : Nat) ∧ OutAt wr w.heap.size l u3 k gs ∧ Below w.heap.size w wr
/-- At the middle loop's head. -/
def BeM (w wo wr : World) (l : List Acc) (u3 : Value) (k : Nat) (gs : Nat → Nat) (u6 : Value) : Prop :=
  ∃ i : Int, -1 ≤ i ∧ i < k ∧ u6 = .int .i64 i ∧ OutAt wr w.heap.size l u3 k gs ∧ RowB wr wo.heap.size k (midB l k i) ∧ Below w.heap.size w wr ∧ wo.heap.size < wr.heap.size
/-- At the inner loop's head. -/
def BeI (w wo wr : World) (l : List Acc) (u3 : Value) (k i : Nat) (gs : Nat → Nat) (u7 : Value) : Prop :=
  ∃ j : Nat, j ≤ i ∧ u7 = .int .i64 j ∧ OutAt wr w.heap.size l u3 k gs ∧ RowB wr wo.heap.size k (innB l k i j) ∧ Below w.heap.size w wr ∧ wo.heap.size < wr.heap.size

theorem info_bool : (Tryd.prog.info? 4).map (fun i => (i.zero, i.size, i.bytes)) = some (some (.bool false), 1, 1) := by kernel_rfl
theorem info_bools : (Tryd.prog.info? 39).map (fun i => (i.zero, i.size, i.bytes)) = some (some (.slice none 0 0), 1, 24) := by kernel_rfl

set_option maxRecDepth 100000 in
set_option maxHeartbeats 2000000 in
theorem before_any (w : World) (v : Value) (l : List Acc) (hl : AccAt w v l) (hlen : l.length ≤ 20000) :
    Calls Tryd.prog 22 #[v] w fun e w' => ∃ u gs, e = .returned u ∧ OutAt w' w.heap.size l u l.length gs ∧ Below w.heap.size w w' := by
  have HL := Lib.hid hl
  obtain ⟨A, cap, rfl, hcap, hcm, _⟩ := hl
  obtain ⟨ib, hi0, hi1, hi2, hi3⟩ := info_parts info_bool
  obtain ⟨ir, hr0, hr1, hr2, hr3⟩ := info_parts info_bools
  go_enter Tryd.func22, Tryd.ntmps22
  go_wp2
  go_loopw [3, 4] (fun u3 u4 wr => BeR w wr l u3 u4) (fun _ u4 _ => l.length - (intOf u4).toNat)
  case atStart => exact ⟨0, fun _ => 0, Nat.zero_le _, rfl, ⟨⟨rfl, .inl ⟨rfl, rfl⟩⟩, fun i hi => absurd hi (by omega)⟩, Below.refl _ _⟩
  case round =>
    obtain ⟨k, gs, hk, rfl, hout, hb⟩ := hrel
    obtain ⟨wo, hwo⟩ : ∃ wo : World, wo = wr := ⟨_, rfl⟩
    subst hwo
    by_cases hlt : k < l.length
    · have hmk : (Instr.makeSlice 39 (.int .i64 (k : Int)) (.int .i64 (k : Int))).run Tryd.prog wo = .ok (.slice (some ⟨wo.heap.size, 0, none⟩) k k) (wo.alloc (.cells (madeCells #[.bool false] k) 4)) := by
        have := run_make (P := Tryd.prog) wo 39 _ ib _ Tryd.underlying39 hi0 hi1 .i64 .i64 k k (by omega) (by omega) (by rw [hi3]; omega) (by omega)
        simpa [hi2, Value.cells] using this
      have HO := Lib.hid (And.intro hout hb)
      have hsz := hb.size
      clear hout hb
      go_wp2_with fail
      go_loopw [6] (fun u6 wr => BeM w wo wr l u3 k gs u6) (fun u6 _ => (intOf u6 + 1).toNat)
      case atStart =>
        refine ⟨(k : Int) - 1, by omega, by omega, rfl, HO.out.1.below ((Below.refl _ _).alloc (Nat.le_refl _) _), (RowB.make wo k).congr fun j hj => (midB_start l k j).symm, HO.out.2.alloc hsz _, by simp⟩
      case round =>
        obtain ⟨i, hi1', hi2', rfl, hout, hrow, hb, hszr⟩ := hrel
        by_cases hi : 0 ≤ i
        · obtain ⟨n, rfl⟩ := Int.eq_ofNat_of_zero_le hi
          have hnk : n < k := by omega
          have hcell := hrow.cell hnk
          have hln : l[n]? = some l[n] := List.getElem?_eq_getElem (by omega)
          have hlk : l[k]? = some l[k] := List.getElem?_eq_getElem hlt
          have HR := Lib.hid (And.intro hout (And.intro hrow hb))
          by_cases hm : midB l k n n = true
          · rw [hm] at hcell
            have HM := Lib.hid hm
            have HLN := Lib.hid (And.intro hln hlk)
            clear hout hrow hb hm hln hlk hmk
            go_wp2_with fail
            go_quiet (fail)
            go_wp2
            go_roundw
            case rel =>
              have hbd : Below wr.heap.size wr (wr.drewN nq) := ⟨rfl, rfl, rfl, Nat.le_refl _, fun _ _ => rfl⟩
              exact ⟨(n : Int) - 1, by omega, by omega, rfl, HR.out.1.below hbd, HR.out.2.1.congr fun j hj => (midB_skip_true hnk HM.out j).symm, HR.out.2.2.trans (hbd.mono (by omega)), hszr⟩
            case measure => simp [intOf]
          · rw [Bool.not_eq_true] at hm
            rw [hm] at hcell
            have HM := Lib.hid hm
            obtain ⟨bb, off, rfl, hcs⟩ := (HL.out.below hb).elem (show n < l.length by omega)
            obtain ⟨bb', off', e', hcs'⟩ := (HL.out.below hb).elem hlt
            injection e' with e'
            injection e' with e1 e2
            subst e1; subst e2
            have hc0 := hcs 0 _ rfl
            have hc1 := hcs 1 _ rfl
            have hc2 := hcs 2 _ rfl
            have hd0 := hcs' 0 _ rfl
            have hd1 := hcs' 1 _ rfl
            have hd2 := hcs' 2 _ rfl
            rw [Nat.add_zero] at hc0 hd0
            generalize ea : l[n] = a at *
            generalize eb : l[k] = b at *
            obtain ⟨xt, xk, xv⟩ := a
            obtain ⟨yt, yk, yv⟩ := b
            dsimp only at hc0 hc1 hc2 hd0 hd1 hd2
            have HLN := Lib.hid (And.intro hln hlk)
            clear hout hrow hb hm hln hlk hmk hcs hcs' ea eb
            have hnn : (n : Int) < l.length := by omega
            have hkk : (k : Int) < l.length := by omega
            go_wp2_with fail
            go_still_tail 13, (by kernel_rfl)
            change wpList _ _ _ _ _ wr.drew
            go_wp2_with fail
            refine (direct_any ⟨xt, xk, xv⟩ ⟨yt, yk, yv⟩ wr.drew).mono ?_
            rintro e w2 ⟨rfl, hbd⟩
            have hbd2 : Below wr.heap.size wr w2 := ⟨hbd.os, hbd.tape, hbd.output, hbd.size, hbd.block⟩
            have hiff : DirectAt l n k ↔ Direct ⟨xt, xk, xv⟩ ⟨yt, yk, yv⟩ := by
              constructor
              · rintro ⟨a, b, h1, h2, h3⟩
                rw [HLN.out.1] at h1; rw [HLN.out.2] at h2
                cases h1; cases h2
                exact h3
              · exact fun h => ⟨_, _, HLN.out.1, HLN.out.2, h⟩
            have hout2 := HR.out.1.below hbd2
            have hrow2 : RowB w2 wo.heap.size k (midB l k n) := HR.out.2.1.keep (hbd2.block _ HR.out.2.1.lt)
            have hb2 : Below w.heap.size w w2 := HR.out.2.2.trans (hbd2.mono (by omega))
            have hsz2 := hbd2.size
            clear hbd hbd2 hc0 hc1 hc2 hd0 hd1 hd2 hcell
            cases hdd : decide (Direct ⟨xt, xk, xv⟩ ⟨yt, yk, yv⟩) with
            | false =>
              have hnd : ¬ DirectAt l n k := by rw [hiff]; exact of_decide_eq_false hdd
              have H2 := Lib.hid (And.intro hout2 (And.intro hrow2 (And.intro hb2 hnd)))
              clear hout2 hrow2 hb2 hnd hiff hdd
              go_wp2
              go_roundw
              case rel =>
                exact ⟨(n : Int) - 1, by omega, by omega, rfl, H2.out.1, H2.out.2.1.congr fun j hj => (midB_skip_not H2.out.2.2.2 j).symm, H2.out.2.2.1, by omega⟩
              case measure => simp [intOf]
            | true =>
              have hnd : DirectAt l n k := by rw [hiff]; exact of_decide_eq_true hdd
              have hcl2 := hrow2.cell hnk
              have hfz2 := hrow2.frozen n
              have H2 := Lib.hid (And.intro hout2 (And.intro hrow2 (And.intro hb2 hnd)))
              clear hout2 hrow2 hb2 hnd hiff hdd
              go_wp2_with fail
              go_loopw [7] (fun u7 wr => BeI w wo wr l u3 k n gs u7) (fun u7 _ => n - (intOf u7).toNat)
              case atStart =>
                have hne : ∀ i, i < k → gs i ≠ wo.heap.size := fun i hi => by have := (HO.out.1.row i hi).1.lt; omega
                refine ⟨0, Nat.zero_le _, rfl, H2.out.1.set H2.out.2.1 hne _ _, (H2.out.2.1.set n true).congr fun j hj => ?_, H2.out.2.2.1.setCell hsz _, by simp; omega⟩
                unfold innB
                by_cases e : j = n
                · subst e
                  simp only [if_true, or_true]
                  exact ((midB_iff l k _ j).2 ⟨j, by omega, hnk, H2.out.2.2.2, .inl rfl⟩).symm
                · rw [if_neg e, if_neg (by omega)]
              case round =>
                obtain ⟨j, hj, rfl, hout3, hrow3, hb3, hsz3⟩ := hrel
                by_cases hjn : j < n
                · obtain ⟨g, cap3, hu3, hce, hgl⟩ := hout3.elem hnk
                  subst hu3
                  have hcj := hrow3.cell (show j < k by omega)
                  have hfz3 := hrow3.frozen j
                  have hrn := (hout3.row n hnk).1.cell hjn
                  have hin : innB l k n j j = midB l k n j := by unfold innB; rw [if_neg (by omega)]
                  have hin' : ∀ i, innB l k n (j + 1) i = if i = j then (midB l k n j || hbB l n j) else innB l k n j i := by
                    intro i
                    unfold innB
                    by_cases e : i = j
                    · subst e
                      rw [if_pos (by omega), if_pos rfl, midB_step hnk H2.out.2.2.2]
                      have : decide (i = n) = false := by simp; omega
                      rw [this]; simp
                    · simp only [if_neg e]
                      by_cases e2 : i < j ∨ i = n
                      · rw [if_pos (by omega), if_pos e2]
                      · rw [if_neg (by omega), if_neg e2]
                  have hne : ∀ i, i < k → gs i ≠ wo.heap.size := fun i hi => by have := (HO.out.1.row i hi).1.lt; omega
                  have hnk3 : (n : Int) < k := by omega
                  have hjn3 : (j : Int) < n := by omega
                  rw [hin] at hcj
                  have H3 := Lib.hid (And.intro hout3 (And.intro hrow3 (And.intro hb3 (And.intro hin' hne))))
                  generalize hmb : midB l k n j = mb at *
                  generalize hhb : hbB l n j = hb' at *
                  have HMB := Lib.hid (And.intro hmb hhb)
                  clear hout3 hrow3 hb3 hin hin' hne hmb hhb hcl2 hfz2
                  cases mb
                  all_goals
                    go_wp2
                    go_roundw
                    case rel =>
                      refine ⟨j + 1, by omega, by go_num, H3.out.1.set H3.out.2.1 H3.out.2.2.2.2 _ _, (H3.out.2.1.set j _).congr fun i hi => ?_, H3.out.2.2.1.setCell (by dsimp only; omega) _, by simp; omega⟩
                      rw [H3.out.2.2.2.1 i]
                      simp
                    case measure => simp [intOf]; omega
                · have hjn' : j = n := by omega
                  have H3 := Lib.hid (And.intro hout3 (And.intro hrow3 (And.intro hb3 hjn')))
                  clear hout3 hrow3 hb3 hjn'
                  go_wp2
                  go_roundw
                  case rel =>
                    refine ⟨(n : Int) - 1, by omega, by omega, rfl, H3.out.1, H3.out.2.1.congr fun i hi => ?_, H3.out.2.2.1, hsz3⟩
                    rw [H3.out.2.2.2]
                    exact innB_end hnk H2.out.2.2.2 i
                  case measure => simp [intOf]
        · have hi' : i = -1 := by omega
          subst hi'
          have HR := Lib.hid (And.intro hout (And.intro hrow hb))
          have hszw := hb.size
          clear hout hrow hb
          go_wp2_with (at_builtin; refine wpList_append_lies _ rfl (.tmp 62) (.tmp 64) _ rfl w.heap.size 39 ir _ 1 24 Tryd.underlying37 hr0 hr1 hr2 hr3 rfl (by omega) u3 k (rowVals gs k) rfl (HR.out.1.own.alloc _) ⟨wr.heap.size, 0, none⟩ 1 1 [.slice (some ⟨wo.heap.size, 0, none⟩) k k] rfl rfl (World.news_of_block (cs := #[.slice (some ⟨wo.heap.size, 0, none⟩) k k]) (t := 39) (fr := (0, 0)) (heap_alloc_new wr _)) (by simp [Value.oneCell']) (by omega) (by simp [maxLen]; omega) (by omega) (by simp; omega) (wr.heap.size + 1) (by simp) ?_; intro gg cap1 w6 hown1 hgrow hat hlt1; have HG := Lib.hid (And.intro hown1 (And.intro hgrow (And.intro hat hlt1))); clear hown1 hgrow hat hlt1)
          go_roundw
          case rel =>
            obtain ⟨g1, g2, g3, g4⟩ := HG.out
            obtain ⟨q1, q2, q3⟩ := HR.out
            have hba : Below wr.heap.size wr (wr.alloc (.cells #[.slice (some ⟨wo.heap.size, 0, none⟩) k k] 39)) := (Below.refl _ _).alloc (Nat.le_refl _) _
            -- a row of bools is no row of rows
            have hnr : ∀ {g n f}, RowB wr g n f → u3.ownBlock ≠ some g := by
              intro g n f hr e
              obtain ⟨cur, h1⟩ := (own_block q1.own e).2.2
              obtain ⟨cs, h2, _⟩ := hr
              rw [h2] at h1
              injection h1 with h1
              injection h1 with _ h3
              cases h3
            have hkeep : ∀ {g n f}, RowB wr g n f → w6.heap[g]? = wr.heap[g]? := fun {g n f} hr => (g2.block g (by have := hr.lt; simp; omega) (fun e => hnr hr e.symm)).trans (hba.block g hr.lt)
            refine ⟨k + 1, fun i => if i = k then wo.heap.size else gs i, by omega, by go_num, ⟨?_, fun i hi => ?_⟩, ?_⟩
            · rw [rowVals_succ]
              have e1 : rowVals (fun i => if i = k then wo.heap.size else gs i) k = rowVals gs k := rowVals_congr fun i hi => by rw [if_neg (by omega)]
              rw [e1]
              simpa using g1
            · by_cases e : i = k
              · subst e
                simp only [if_true]
                exact ⟨(q2.keep (hkeep q2)).congr fun j hj => midB_end hlt j, by omega⟩
              · simp only [if_neg e]
                have := q1.row i (by omega)
                exact ⟨this.1.keep (hkeep this.1), this.2⟩
            · exact (q3.alloc q3.size _).grown g2 (by simp; omega) fun j hj => (own_block q1.own hj).1
          case measure => simp [intOf]; omega
    · have HR := Lib.hid (And.intro hout hb)
      have hkl : k = l.length := by omega
      subst hkl
      clear hout hb
      go_wp2
      go_ret
      exact ⟨u3, gs, rfl, HR.out.1, HR.out.2⟩
end Go.Proofs.YtahklchfchjmcaaDoor
