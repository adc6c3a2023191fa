/- What the functions of package race compute: walks. -/
import Derived.Test.YtahklchfchjmcaaDoorSl
import Derived.Test.YtahklchfchjmcaaDoorRn
namespace Go.Proofs.YtahklchfchjmcaaDoor
set_option linter.unusedVariables false
set_option linter.unusedSimpArgs false
open Go.RowKit Go.MapKept

def Tch.cells (x : Tch) : List Value := [.int .i64 x.pos, .int .i64 x.task, .int .i64 x.n]
abbrev TchAt := SlAt 3 Tch.cells

theorem racingF_take (l : List Tch) (task : Int) (c : Int → Int) (k : Nat) (hk : k < l.length) (h : ∀ j (hj : j < k), l[j].task = task ∨ l[j].n ≤ c l[j].task) (h1 : l[k].task ≠ task) (h2 : c l[k].task < l[k].n) : racingF l task c = l[k].pos := by
  have e : l.find? (fun x => x.task != task && decide (c x.task < x.n)) = some l[k] := by
    rw [List.find?_eq_some_iff_getElem]
    refine ⟨by simp [h1, h2], k, hk, rfl, fun j hj => ?_⟩
    rcases h j hj with e | e
    · simp [e]
    · simp [Int.not_lt.2 e]
  simp [racingF, e]

theorem racingF_none (l : List Tch) (task : Int) (c : Int → Int) (h : ∀ j (hj : j < l.length), l[j].task = task ∨ l[j].n ≤ c l[j].task) : racingF l task c = -1 := by
  have e : l.find? (fun x => x.task != task && decide (c x.task < x.n)) = none := by
    rw [List.find?_eq_none]
    intro x hx
    obtain ⟨j, hj, rfl⟩ := List.getElem_of_mem hx
    rcases h j hj with e | e
    · simp [e]
    · simp [Int.not_lt.2 e]
  simp [racingF, e]

set_option maxHeartbeats 400000 in
theorem racing_any (w : World) (v : Value) (l : List Tch) (task : Int) (b : Nat) (c : Int → Int) (hl : TchAt w v l) (hc : ClkAt w b c) :
    Calls Tryd.prog 49 #[v, .int .i64 task, .map (some b)] w fun e w' => e = .returned (.int .i64 (racingF l task c)) ∧ Below w.heap.size w w' := by
  have hl0 := hl
  obtain ⟨A, cap, rfl, hlen, hmax, hcells⟩ := hl
  go_enter Tryd.func49, Tryd.ntmps49
  go_wp2
  go_loopw [11] (fun i wr => ∃ k : Nat, k ≤ l.length ∧ i = .int .i64 k ∧ Below w.heap.size w wr ∧ ∀ j (hj : j < k) (hj' : j < l.length), l[j].task = task ∨ l[j].n ≤ c l[j].task) (fun i _ => l.length - (intOf i).toNat)
  case atStart => exact ⟨0, by omega, rfl, Below.refl _ _, fun j hj => absurd hj (by omega)⟩
  case round =>
    obtain ⟨k, hk, rfl, hb, hno⟩ := hrel
    by_cases hlt : k < l.length
    · obtain ⟨bb, off, rfl, hcs⟩ := (hl0.below hb).elem hlt
      have hc0 := hcs 0 _ rfl
      have hc1 := hcs 1 _ rfl
      have hc2 := hcs 2 _ rfl
      rw [Nat.add_zero] at hc0
      have hck : ClkAt wr b c := hc.below hb
      have H0 := Lib.hid hc0
      generalize ep : l[k].pos = xp at *
      generalize et : l[k].task = xt at *
      generalize en : l[k].n = xn at *
      have HN := Lib.hid hno
      have HE := Lib.hid (And.intro ep (And.intro et en))
      clear hcs hcells hl0 hno ep et en
      by_cases h1 : xt = task
      · have h1' : (xt != task) = false := by simp [h1]
        have H1 := Lib.hid h1
        clear h1 hc hck
        go_wp2_with fail
        go_roundw
        case rel =>
          refine ⟨k + 1, by omega, by go_num, hb.alloc hb.size _, fun j hj hj' => ?_⟩
          by_cases e : j = k
          · subst e; left; rw [HE.out.2.1]; exact H1.out
          · exact HN.out j (by omega) hj'
        case measure => simp [intOf]; omega
      · have h1' : (xt != task) = true := by simp [h1]
        have H1 := Lib.hid h1
        have hW : ∀ o, (Instr.lookup 94 (.map (some b)) (.int .i64 xt) false).run Tryd.prog (wr.alloc o) = .ok (.int .i64 (c xt)) (wr.alloc o) := fun o => (hck.alloc o).lookup xt
        clear h1 hc hck
        by_cases h2 : c xt < xn
        · have H2 := Lib.hid h2
          go_wp2_with fail
          go_ret
          refine ⟨?_, hb.alloc hb.size _⟩
          rw [racingF_take l task c k hlt (fun j hj => HN.out j hj (by omega)) (by rw [HE.out.2.1]; exact H1.out) (by rw [HE.out.2.1, HE.out.2.2]; exact H2.out), HE.out.1]; rfl
        · have H2 := Lib.hid h2
          go_wp2_with fail
          go_roundw
          case rel =>
            refine ⟨k + 1, by omega, by go_num, hb.alloc hb.size _, fun j hj hj' => ?_⟩
            by_cases e : j = k
            · subst e; right; rw [HE.out.2.1, HE.out.2.2]; have := H2.out; omega
            · exact HN.out j (by omega) hj'
          case measure => simp [intOf]; omega
    · have HN := Lib.hid hno
      clear hno hl0 hcells
      go_wp2_with fail
      go_ret
      exact ⟨by rw [racingF_none l task c (fun j hj => HN.out j (by omega) hj)]; rfl, hb⟩

/-- The clock that o holds, a clock or nil. -/
def ClkOr (w : World) (o : Value) (bc : Nat) (co : Int → Int) : Prop := (o = .map none ∧ ∀ t, co t = 0) ∨ ∃ bo, o = .map (some bo) ∧ bo ≠ bc ∧ ClkAt w bo co

def JoinR (w wr : World) (bc bo : Nat) (fo : Int → Option Value) (c co : Int → Int) : Prop :=
  ∃ (left : Int → Prop) (n' : Nat) (c' : Int → Int), IterAt ienc wr w.heap.size bo fo left n' ∧ ClkAt wr bc c' ∧ (∀ t, (left t → c' t = c t) ∧ (¬ left t → c' t = max (c t) (co t))) ∧ w.grownBy wr (some bc)

set_option maxRecDepth 100000 in
set_option maxHeartbeats 400000 in
theorem join_some (w : World) (bc bo : Nat) (c co : Int → Int) (hc : ClkAt w bc c) (hco : ClkAt w bo co) (hne : bo ≠ bc) (h0 : ∀ t, 0 ≤ c t) :
    Calls Tryd.prog 68 #[.map (some bc), .map (some bo)] w fun e w' => e = .returned (.tuple #[]) ∧ ClkAt w' bc (fun t => max (c t) (co t)) ∧ w.grownBy w' (some bc) := by
  obtain ⟨fo, hfo, hfo2⟩ := hco
  have hlt := hc.lt
  have H0 := Lib.hid h0
  have H2 := Lib.hid hfo2
  have HC := Lib.hid hc
  clear h0 hfo2 hc
  go_enter Tryd.func68, Tryd.ntmps68
  go_wp2_with (at_range; refine wpList_range_at rfl _ _ rfl mapTy_clock bo fo rfl hfo ?_; intro w1 n hit hg hsz)
  go_frame
  have HG := Lib.hid hg
  have HS := Lib.hid hsz
  clear hg hsz
  go_loopw [8] (fun _ wr => JoinR w wr bc bo fo c co) (fun _ wr => wr.rangeLeft bo w.heap.size)
  case atStart =>
    refine ⟨_, n, c, hit, HC.out.grown HG.out (by simp), fun t => ⟨fun _ => rfl, fun hn => ?_⟩, grownBy_none HG.out _⟩
    rcases H2.out t with ⟨e1, e2⟩ | e
    · have := H0.out t; omega
    · rw [e] at hn; exact absurd rfl hn
  case round =>
    obtain ⟨left, n', c', hit', hck, hrel, hgr⟩ := hrel
    have HR := Lib.hid hrel
    have HGr := Lib.hid hgr
    have HIt := Lib.hid hit'
    clear hrel hgr hit
    go_wp2_with (at_next; refine wpList_next_at ikey rfl _ rfl w.heap.size bo n' fo left rfl hit' ?_ ?_)
    · intro hd
      have HD := Lib.hid hd
      have HCk := Lib.hid hck
      clear hd hck hit'
      go_wp2_with fail
      go_end0
      refine ⟨rfl, ?_, HGr.out⟩
      exact HCk.out.congr fun t => (HR.out t).2 (HD.out t)
    · intro k v w2 n2 hk hv hit2 hn2 hg2 hs2 hen
      have e : v = .int .i64 (co k) := by
        rcases H2.out k with ⟨e1, e2⟩ | e
        · rw [e1] at hv; cases hv
        · rw [e] at hv; injection hv with hv; exact hv.symm
      subst e
      have hr := HIt.out.lt
      have hck2 : ClkAt w2 bc c' := hck.grown hg2 (fun e => by injection e with e; have := HIt.out.lt; omega)
      have hlk := hck2.lookup k
      obtain ⟨f', hf1, hf2⟩ := hck2
      have HF := Lib.hid hf2
      have HK := Lib.hid hk
      have HN2 := Lib.hid hn2
      have HG2 := Lib.hid hg2
      have HS2 := Lib.hid hs2
      have HIt2 := Lib.hid hit2
      clear hf2 hk hv hn2 hg2 hs2 hck hit' hit2 hfo
      go_wp2_with (at_mapUpdate; go_must (refine wpList_mapUpdate_at ikey rfl _ _ _ _ rfl mapTy_clock bc f' k _ rfl rfl rfl hf1 ?_; intro w3 hf3 hg3 hs3))
      all_goals
        go_roundw
        case rel =>
          have hx : w.heap.size ≠ bc := by omega
          refine ⟨_, n2, fun u => if u = k then max (c' k) (co k) else c' u, HIt2.out.grown hg3 (fun e => by injection e with e; exact hne e) (fun e => by injection e with e; exact hx e), ?_, fun t => ?_, ?_⟩
          · have hmx : (if c' k < co k then co k else c' k) = max (c' k) (co k) := by split <;> omega
            rw [← hmx]
            exact ClkAt.upd HF.out k _ hf3
          · have h1 := HR.out t
            have h2 := (HR.out k).1 HK.out
            by_cases e : t = k
            · subst e
              exact ⟨fun h => absurd rfl h.2, fun _ => by simp only [if_true]; rw [h2]⟩
            · simp only [if_neg e]
              exact ⟨fun h => h1.1 h.1, fun h => h1.2 fun h' => h ⟨h', e⟩⟩
          · exact grownBy_trans (grownBy_new HGr.out HG2.out (Nat.le_refl _)) hg3
        case measure =>
          rw [(HIt2.out.grown hg3 (fun e => by injection e with e; exact hne e) (fun e => by injection e with e; omega)).left_eq, HIt.out.left_eq]
          exact HN2.out

theorem run_range_nil (w : World) : (Instr.range 94 (.map none)).run Tryd.prog w = .ok (.pointer (some ⟨w.heap.size, 0, none⟩)) (w.alloc (.mapIter none 0 #[] 0)) := by
  simp [Instr.range, run_underlying Tryd.underlying94, Result.andThen]

set_option maxRecDepth 100000 in
set_option maxHeartbeats 400000 in
theorem join_none (w : World) (bc : Nat) (c : Int → Int) (hc : ClkAt w bc c) :
    Calls Tryd.prog 68 #[.map (some bc), .map none] w fun e w' => e = .returned (.tuple #[]) ∧ ClkAt w' bc c ∧ w.grownBy w' (some bc) := by
  have HC := Lib.hid hc
  clear hc
  have hr := run_range_nil w
  have hn : ∀ ty, (Instr.next (.pointer (some ⟨w.heap.size, 0, none⟩)) false ty).run Tryd.prog (w.alloc (.mapIter none 0 #[] 0)) = .ok (.tuple #[.bool false]) (w.alloc (.mapIter none 0 #[] 0)) := fun ty => run_next_none _ _ _ _ _ _ (heap_alloc_new w _)
  go_enter Tryd.func68, Tryd.ntmps68
  go_wp2
  refine wp_loop_rounds 1 ?_
  rw [rounds_succ]
  go_wp2
  go_end0
  exact ⟨rfl, HC.out.alloc _, World.grownBy_alloc w _ _⟩

/-- Joining a clock with another one, or with none. -/
theorem join_any (w : World) (bc : Nat) (o : Value) (c co : Int → Int) (hc : ClkAt w bc c) (ho : ClkOr w o bc co) (h0 : ∀ t, 0 ≤ c t) :
    Calls Tryd.prog 68 #[.map (some bc), o] w fun e w' => e = .returned (.tuple #[]) ∧ ClkAt w' bc (fun t => max (c t) (co t)) ∧ w.grownBy w' (some bc) := by
  rcases ho with ⟨rfl, hz⟩ | ⟨bo, rfl, hne, hco⟩
  · refine (join_none w bc c hc).mono fun e w' ⟨h1, h2, h3⟩ => ⟨h1, h2.congr fun t => ?_, h3⟩
    have := h0 t
    have := hz t
    omega
  · exact join_some w bc bo c co hc hco hne h0

theorem earlier_any (a b : Int) (w : World) : Calls Tryd.prog 50 #[.int .i64 a, .int .i64 b] w fun e w' => e = .returned (.int .i64 (earlierF a b)) ∧ w = w' := by
  unfold earlierF
  by_cases h1 : a < 0
  · rw [if_pos (.inl h1)]
    go_enter Tryd.func50, Tryd.ntmps50
    go_wp2
    go_ret
    exact ⟨rfl, rfl⟩
  · by_cases h2 : 0 ≤ b
    · by_cases h3 : b < a
      · rw [if_pos (.inr ⟨h2, h3⟩)]
        go_enter Tryd.func50, Tryd.ntmps50
        go_wp2
        go_ret
        exact ⟨rfl, rfl⟩
      · rw [if_neg (by omega)]
        go_enter Tryd.func50, Tryd.ntmps50
        go_wp2
        go_ret
        exact ⟨rfl, rfl⟩
    · rw [if_neg (by omega)]
      go_enter Tryd.func50, Tryd.ntmps50
      go_wp2
      go_ret
      exact ⟨rfl, rfl⟩

theorem task_any (n : Int) (w : World) : Calls Tryd.prog 67 #[.int .i64 n] w fun e w' => e = .returned (.bool (decide (0 ≤ n) && decide (n ≤ 9999))) ∧ w = w' := by
  by_cases h1 : 0 ≤ n <;> by_cases h2 : n ≤ 9999
  all_goals
    go_enter Tryd.func67, Tryd.ntmps67
    go_wp2
    go_ret
    exact ⟨by simp [h1, h2]; try omega, rfl⟩
end Go.Proofs.YtahklchfchjmcaaDoor
