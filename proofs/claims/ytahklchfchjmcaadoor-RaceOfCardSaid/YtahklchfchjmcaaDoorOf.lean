/- race.Of: the walk. -/
import Derived.Test.YtahklchfchjmcaaDoorSu
import Derived.Test.YtahklchfchjmcaaDoorSv
import Derived.Test.YtahklchfchjmcaaDoorSw
import Derived.Test.YtahklchfchjmcaaDoorLd
namespace Go.Proofs.YtahklchfchjmcaaDoor
set_option linter.unusedVariables false
set_option linter.unusedSimpArgs false
open Go.RowKit Go.MapKept

theorem step_any (w : World) (B p bh : Nat) (S : Int → Option Value) (bf : List Dd) (stripes : Int) (vo : Value) (out : List Acc) (h : Tell w B p bh S (heldF bf) stripes vo out) (htab : ∀ w', Below B w w' → Tab w')
    (d : Dd) (hlen : out.length ≤ 500000000) (hHl : (heldF bf d.task).length ≤ 10000) (hnd : (heldF bf d.task).Nodup) (hHs : ∀ s ∈ heldF bf d.task, 0 ≤ s ∧ s < stripes) (hs : stripes ≤ 1024) :
    Calls Tryd.prog 66 #[.pointer (some ⟨p, 0, none⟩), .agg d.arr] w fun e w' => StepOut w w' B p bh bf stripes out d e := by
  by_cases ht : 0 ≤ d.task ∧ d.task ≤ 9999
  · by_cases h2 : d.step = 2
    · exact step_lock w B p bh S bf stripes vo out h htab d hlen hHl hnd hHs hs ht h2
    · by_cases h5 : d.step = 5
      · exact step_unlock w B p bh S bf stripes vo out h htab d hlen hHl hnd hHs hs ht h5
      · by_cases h3 : d.step = 3
        · exact step_each w B p bh S bf stripes vo out h htab d hlen hHl hnd hHs hs ht h3
        · by_cases h1 : d.step = 1
          · exact step_one w B p bh S bf stripes vo out h htab d hlen hHl hnd hHs hs ht h1
          · by_cases h7 : d.step = 7
            · exact step_seven w B p bh S bf stripes vo out h htab d hlen hHl hnd hHs hs ht h7
            · by_cases h4 : d.step = 4
              · exact step_four w B p bh S bf stripes vo out h htab d hlen hHl hnd hHs hs ht h4
              · exact step_rest w B p bh S bf stripes vo out h htab d hlen hHl hnd hHs hs ht h1 h2 h3 h4 h5 h7
  · exact step_notask w B p bh S bf stripes vo out h htab d hlen hHl hnd hHs hs ht

theorem held_len (t : Int) : ∀ (l : List Dd) (acc : List Int), (l.foldl (heldStep t) acc).length ≤ acc.length + l.length
  | [], acc => by simp
  | d :: l, acc => by
    have h := held_len t l (heldStep t acc d)
    have h1 : (heldStep t acc d).length ≤ acc.length + 1 := by
      unfold heldStep
      split
      · split
        · simp
        · split
          · have := List.length_filter_le (fun x => x != d.stripe) acc
            unfold without; omega
          · omega
      · omega
    simp only [List.foldl_cons, List.length_cons]
    omega
theorem step_len (bf : List Dd) (d : Dd) : (stepF bf d).length ≤ (heldF bf d.task).length + 2 := by
  unfold stepF
  repeat' split
  all_goals simp [allF]
theorem acc_len {l : List Dd} : ∀ {n : Nat}, n ≤ l.length → (accF l n).length ≤ n * (l.length + 2)
  | 0, _ => by simp [accF]
  | n + 1, hn => by
    have ih := acc_len (l := l) (n := n) (by omega)
    have hd : l[n]? = some l[n] := List.getElem?_eq_getElem (by omega)
    rw [accF_succ hd, List.length_append, Nat.add_mul, Nat.one_mul]
    have h1 := step_len (l.take n) l[n]
    have h2 := held_len l[n].task (l.take n) []
    have h3 : (l.take n).length ≤ l.length := by rw [List.length_take]; omega
    have h4 : (heldF (l.take n) l[n].task).length = ((l.take n).foldl (heldStep l[n].task) []).length := rfl
    simp only [List.length_nil, Nat.zero_add] at h2
    omega

def OfOut (w w' : World) (l : List Dd) (stripes : Int) (e : Ending) : Prop :=
  ∃ v out er, e = .returned (.tuple #[v, .int .i64 er]) ∧ AccAt w' v out ∧ OfIs l stripes out er ∧ Below w.heap.size w w'

def OfR (w wr : World) (p bh : Nat) (l : List Dd) (stripes : Int) (u : Value) : Prop :=
  ∃ (m : Nat) (S : Int → Option Value) (vo : Value), m ≤ l.length ∧ u = .int .i64 m ∧ okF l stripes m ∧ Tell wr w.heap.size p bh S (heldF (l.take m)) stripes vo (accF l m) ∧ Below w.heap.size w wr

abbrev DdAt (w : World) (v : Value) (l : List Dd) : Prop := SlAt 18 Dd.cells w v l

set_option maxRecDepth 100000 in
set_option maxHeartbeats 2000000 in
theorem of_any (w : World) (v : Value) (l : List Dd) (hl : DdAt w v l) (hone : ∀ d ∈ l, d.One) (stripes : Int) (htab : ∀ w', Below w.heap.size w w' → Tab w') :
    Calls Tryd.prog 42 #[v, .int .i64 stripes] w fun e w' => OfOut w w' l stripes e := by
  have HL := Lib.hid hl
  have HTab := Lib.hid htab
  have HOne := Lib.hid hone
  obtain ⟨A, cap, rfl, hcap, hcm, _⟩ := hl
  clear htab hone
  by_cases hlong : (4096 : Int) < l.length
  · have hlong' : decide ((4096 : Int) < (l.length : Int)) = true := by simpa using hlong
    go_enter Tryd.func42, Tryd.ntmps42
    go_wp2
    go_ret2
    exact ⟨_, [], 5, rfl, SlAt.nil 0 none (by omega), by unfold OfIs; rw [if_pos (by omega)]; exact ⟨rfl, rfl⟩, Below.refl _ _⟩
  · by_cases hst : stripes < 1 ∨ 1024 < stripes
    · have HST := Lib.hid hst
      have hcase : (decide (stripes < 1) = true) ∨ (decide (stripes < 1) = false ∧ decide (stripes > 1024) = true) := by
        by_cases h : stripes < 1
        · exact .inl (by simp [h])
        · exact .inr ⟨by simp [h], by simp; omega⟩
      clear hst
      go_enter Tryd.func42, Tryd.ntmps42
      rcases hcase with hc1 | ⟨hc1, hc2⟩
      all_goals
        go_wp2
        go_ret2
        exact ⟨_, [], 2, rfl, SlAt.nil 0 none (by omega), by unfold OfIs; rw [if_neg (by omega), if_pos HST.out]; exact ⟨rfl, rfl⟩, Below.refl _ _⟩
    · have hc1 : decide (stripes < 1) = false := by simp; omega
      have hc2 : decide (stripes > 1024) = false := by simp; omega
      have HST := Lib.hid hst
      clear hst
      have hmm := @run_makeMap Tryd.prog
      go_enter Tryd.func42, Tryd.ntmps42
      go_wp2
      go_loopw [26] (fun u wr => OfR w wr (w.heap.size + 1) w.heap.size l stripes u) (fun u _ => l.length - (intOf u).toNat)
      case atStart =>
        have hm := (GM.make (enc := ienc) (e := 3) (sz := 1) (cells := intCells) w w.heap.size (Nat.le_refl _)).below ((Below.refl _ _).alloc (Nat.le_refl _) (Obj.cells #[Value.int IntKind.i64 stripes, Value.map (some w.heap.size), Value.slice none 0 0] 121))
        refine ⟨0, fun _ => none, .slice none 0 0, Nat.zero_le _, rfl, fun i d hi => absurd hi (by omega), ⟨?_, hm, ⟨rfl, .inl ⟨rfl, rfl⟩⟩, by omega⟩, ((Below.refl _ _).alloc (Nat.le_refl _) _).alloc (by simp) _⟩
        have := heap_alloc_new (w.alloc (Obj.map #[] 0)) (Obj.cells #[Value.int IntKind.i64 stripes, Value.map (some w.heap.size), Value.slice none 0 0] 121)
        simpa using this
      case round =>
        obtain ⟨m, S, vo, hml, rfl, hok, hT, hB⟩ := hrel
        by_cases hlt : m < l.length
        · have hlm : l[m]? = some l[m] := List.getElem?_eq_getElem hlt
          obtain ⟨bb, off, rfl, hcs⟩ := (HL.out.below hB).elem hlt
          have ho := HOne.out _ (List.getElem_mem hlt)
          have hlens := acc_len (l := l) (n := m) hml
          have hlenb : m * (l.length + 2) ≤ 4096 * 4098 := Nat.mul_le_mul (by omega) (by omega)
          have hheld := held_len l[m].task (l.take m) []
          have htk : (l.take m).length ≤ l.length := by rw [List.length_take]; omega
          have hgood := held_good hml hok l[m].task
          generalize ea : l[m] = d at *
          have HLD := Lib.hid (run_load_did wr bb (off + m * 18) d hcs)
          have HST1 : Hid (∀ c : Array Value, c.size = 18 → (Instr.storeAt 52 (.pointer (some ⟨wr.heap.size, 0, none⟩)) (.agg d.arr)).run Tryd.prog (wr.alloc (.cells c 52)) = .ok () (wr.alloc (.cells d.arr 52))) := Lib.hid (fun c hc => run_store_did wr c d ho hc)
          have HLN := Lib.hid (run_load_new wr d)
          have HM := Lib.hid hlm
          have H := Lib.hid (And.intro hok (And.intro hT hB))
          have hpl := hT.plt
          have HG := Lib.hid (And.intro hgood (And.intro hlens (And.intro hlenb (And.intro hheld htk))))
          clear hcs hok hT hB hlm ea ho hgood hlens hlenb hheld htk
          go_wp2_with (first | (refine wpList_load_eq (by rfl) (.tmp 28) 52 (by rfl) (.pointer (some ⟨bb, off + m * 18, none⟩)) (.agg d.arr) (by rfl) HLD.out ?_) | (refine wpList_store_eq (by rfl) (.tmp 8) (.tmp 29) 52 (by rfl) (.pointer (some ⟨wr.heap.size, 0, none⟩)) (.agg d.arr) (by rfl) (by rfl) (HST1.out _ (by rfl)) ?_) | (refine wpList_load_eq (by rfl) (.tmp 8) 52 (by rfl) (.pointer (some ⟨wr.heap.size, 0, none⟩)) (.agg d.arr) (by rfl) HLN.out ?_) | (go_at_call 66; fail))
          have hbw := H.out.2.2.alloc H.out.2.1.hB (Obj.cells d.arr 52)
          refine (step_any _ w.heap.size (w.heap.size + 1) w.heap.size S (l.take m) stripes vo (accF l m) (H.out.2.1.below ((Below.refl _ _).alloc (Nat.le_refl _) _)) (fun w' hb => HTab.out w' (hbw.trans hb)) d (by have := HG.out; omega) (by have h1 : (heldF (l.take m) d.task).length = ((l.take m).foldl (heldStep d.task) []).length := rfl; have := HG.out.2.2.2; simp only [List.length_nil, Nat.zero_add] at this; omega) HG.out.1.1 HG.out.1.2 (by have := HST.out; omega)).mono ?_
          rintro e w1 (⟨hok1, rfl, S', vo1, h1, hb1⟩ | ⟨hok1, rfl, hb1⟩)
          · have H1 := Lib.hid (And.intro hok1 (And.intro h1 (hbw.trans hb1)))
            clear hok1 h1 hb1 hbw
            go_wp2
            go_roundw
            case rel =>
              refine ⟨m + 1, S', vo1, hlt, by go_num, fun i d' hi hd' => ?_, ?_, H1.out.2.2⟩
              · by_cases e : i = m
                · subst e
                  have := HM.out
                  rw [hd'] at this
                  cases this
                  exact H1.out.1
                · exact H.out.1 i d' (by omega) hd'
              · rw [List.take_add_one, HM.out, accF_succ HM.out]
                exact H1.out.2.1
            case measure => simp [intOf]; omega
          · have H1 := Lib.hid (And.intro hok1 (hbw.trans hb1))
            clear hok1 hb1 hbw
            go_wp2
            go_ret2
            refine ⟨_, [], 2, rfl, SlAt.nil 0 none (by omega), ?_, H1.out.2⟩
            unfold OfIs
            rw [if_neg (by omega), if_neg HST.out]
            refine .inr ⟨fun hx => ?_, rfl, rfl⟩
            have := hx m d hlt HM.out
            rw [H1.out.1] at this
            cases this
        · have e : m = l.length := by omega
          subst e
          have hc3 := hT.c2
          have H := Lib.hid (And.intro hok (And.intro hT hB))
          clear hok hT hB
          go_wp2
          go_ret2
          refine ⟨vo, accF l l.length, 0, rfl, slAt_of_own (fun _ => rfl) H.out.2.1.own, ?_, H.out.2.2⟩
          unfold OfIs
          rw [if_neg (by omega), if_neg HST.out]
          exact .inl ⟨H.out.1, rfl, rfl⟩
end Go.Proofs.YtahklchfchjmcaaDoor
