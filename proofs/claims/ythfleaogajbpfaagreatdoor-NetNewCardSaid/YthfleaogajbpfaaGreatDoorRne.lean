/- The carts of a new node: none. -/
import Derived.Test.YthfleaogajbpfaaGreatDoorRnd
import Derived.Test.YthfleaogajbpfaaGreatDoorAl
import Derived.Test.YthfleaogajbpfaaGreatDoorEb
import Derived.Laws.IdiomRangeMap
set_option linter.unusedVariables false
set_option linter.unusedSimpArgs false
namespace Go.Proofs.YthfleaogajbpfaaGreatDoor
open Go.RowKit Go.MapKept
theorem uclosedS_eq {E : Ax.Ev} {v v' : Value} (h : Ax.closedS v = true) (k : Ax.VR E v v') : v' = v := by
  cases k <;> first | rfl | cases h
theorem uclosedL_eq {E : Ax.Ev} : ∀ {l l' : List Value}, Ax.closedL l = true → Ax.VRs E l l' → l' = l
  | [], _, _, h => by cases h; rfl
  | v :: l, _, hc, h => by
    cases h with
    | cons _ v' _ l' h1 h2 =>
      simp only [Ax.closedL, Bool.and_eq_true] at hc
      rw [uclosedS_eq hc.1 h1, uclosedL_eq hc.2 h2]
theorem uclosed_eq {E : Ax.Ev} {v v' : Value} (h : Ax.closed v = true) (k : Ax.VR E v v') : v' = v := by
  cases k with
  | agg a a' ha => rw [uclosedL_eq h ha]
  | tup a a' ha => rw [uclosedL_eq h ha]
  | bool b => rfl
  | int k n => rfl
  | str s => rfl
  | nilp => rfl
  | ptr i b n o h' => cases h
  | nils l c => rfl
  | sl i b n o l c h' => cases h
  | sli i b n es o l c c' h' hc hn => cases h
  | nilm => rfl
  | mp i b n h' => cases h
  | nilf => rfl
  | nili => rfl
  | fn f a b a' b' ha hb => cases h
  | sym k v h' h1 => cases h
  | emp p c => cases h
def closedAll : List Value → Bool
  | [] => true
  | v :: l => Ax.closed v && closedAll l
def closed2 : Value → Bool
  | .tuple ⟨l⟩ => closedAll l
  | v => Ax.closed v
theorem closedAll_eq {E : Ax.Ev} : ∀ {l l' : List Value}, closedAll l = true → Ax.VRs E l l' → l' = l
  | [], _, _, h => by cases h; rfl
  | v :: l, _, hc, h => by
    cases h with
    | cons _ v' _ l' h1 h2 =>
      simp only [closedAll, Bool.and_eq_true] at hc
      rw [uclosed_eq hc.1 h1, closedAll_eq hc.2 h2]
theorem closed2_eq {E : Ax.Ev} {v v' : Value} (h : closed2 v = true) (k : Ax.VR E v v') : v' = v := by
  cases v with
  | tuple l =>
    cases k with
    | tup a a' ha => rw [closedAll_eq h ha]
  | _ => exact uclosed_eq h k
theorem env_call {f : FuncId} {args : List Value} {v : Value} (hv : closed2 v = true) (ha : Ax.closedL args = true) (hrun : ∀ m, (Ax.callB gv 100000 f args (st0 m).nx (st0 m)).map (·.1) = some v) {w : World} (hE : Env w) :
    Calls Tryz.prog f ⟨args⟩ w fun e w' => e = .returned v ∧ Below w.heap.size w w' := by
  obtain ⟨m, hv', hs⟩ := hE
  have h := hrun m
  simp only [Option.map_eq_some_iff] at h
  obtain ⟨⟨v0, σ'⟩, h1, rfl⟩ := h
  have hI := Ax.Inv0 (nx := 1000) hv' vars0_lt gv_ng1000 hs
  refine (Ax.callB_sound gv_types gv_funs gv_mixed h1 hI (Nat.le_refl _) (Ax.closedL_VRs ha)).mono ?_
  rintro e w' ⟨v', E', rfl, h2, h3, h4, _⟩
  exact ⟨by rw [closed2_eq hv h2], h4.below fun j m b hj => by rw [hI.fresh j hj]; simp⟩
theorem next_empty (w : World) (b : Nat) (ty : TypeId) (hb : w.heap[b]? = some (.map #[] 0)) : (Instr.next (.pointer (some ⟨w.heap.size, 0, none⟩)) false ty).run Tryz.prog (w.alloc (.mapIter (some b) 0 #[] 0)) = .ok (.tuple #[.bool false]) (w.alloc (.mapIter (some b) 0 #[] 0)) := by
  rcases run_next_map (P := Tryz.prog) w ty b 0 0 #[] #[] 0 hb (by simp) (Nat.le_refl _) with ⟨_, h⟩ | ⟨e, he, _⟩
  · exact h
  · simp [leftOf] at he
theorem sort_nil {W : World} (hE : Env W) : Calls Tryz.prog 189 #[.slice none 0 0] W fun e w' => e = .returned (.tuple #[]) ∧ Below W.heap.size W w' :=
  env_call (v := .tuple #[]) (args := [.slice none 0 0]) (by kernel_rfl) (by kernel_rfl) (fun m => by kernel_rfl) hE
set_option maxRecDepth 100000 in
set_option maxHeartbeats 1000000 in
theorem keys_new {w : World} {p t g d n u : Nat} {r : Int} {S : Nat} {i o : Int} (h : NodeNew w p t g d n u r S i o) (hk : okN r S i o = true) (hE : Env w) : Calls Tryz.prog 131 #[.pointer (some ⟨t, 0, none⟩)] w fun e w' => e = .returned (.slice none 0 0) ∧ Below w.heap.size w w' := by
  have t0 := h.t0
  have HN := Lib.hid (tnone_new h hk)
  have HST := Lib.hid h.st
  obtain ⟨hS, _, _, _⟩ := okN_facts hk
  have fS1 : ((S : Int) == 0) = false := by simpa using hS
  have fS2 : decide ((S : Int) = 0) = false := decide_eq_false hS
  have HL : Hid (S ≤ 1024) := Lib.hid (by have h' : okT S = true := (by unfold okN at hk; revert hk; cases okT (S : Int) <;> simp); have := (okT_true h').2; omega)
  have HE := Lib.hid hE
  have HSO : Hid (∀ W, Env W → Calls Tryz.prog 189 #[.slice none 0 0] W fun e w' => e = .returned (.tuple #[]) ∧ Below W.heap.size W w') := Lib.hid fun W hW => sort_nil hW
  clear h hk hE
  go_enter Tryz.func131, Tryz.ntmps131
  go_wp2_with (first | (go_at_call 132; refine HN.out.mono ?_; rintro e w0 ⟨rfl, hw0⟩; subst w0))
  go_loopg [3, 14] S (fun gf u3 u wx => ∃ k : Nat, u = .int .i64 (k : Int) ∧ u3 = .slice none 0 0 ∧ k + gf = S ∧ Below w.heap.size w wx)
  case atStart => exact ⟨0, rfl, rfl, by omega, Below.refl _ _⟩
  case round =>
    obtain ⟨k, rfl, rfl, hi, hb⟩ := hrel
    have HB := Lib.hid hb
    clear hb
    by_cases hlt : k < S
    · obtain ⟨g', rfl⟩ : ∃ g', gk = g' + 1 := ⟨gk - 1, by omega⟩
      have hk3 : k < 1024 := by have := HL.out; omega
      obtain ⟨b, hc, hm⟩ := (HST.out.below HB.out).full k hlt
      have hrg := run_range_map (P := Tryz.prog) wr 127 _ _ b #[] 0 Tryz.underlying127 hm
      have hnx : ∀ ty, (Instr.next (.pointer (some ⟨wr.heap.size, 0, none⟩)) false ty).run Tryz.prog (wr.alloc (.mapIter (some b) 0 #[] 0)) = .ok (.tuple #[.bool false]) (wr.alloc (.mapIter (some b) 0 #[] 0)) := fun ty => next_empty wr b ty hm
      clear hm
      go_wp2_with fail
      refine wp_loop_rounds 1 ?_
      rw [rounds_succ]
      go_wp2_with fail
      go_roundg g'
      case measure => omega
      case rel => exact ⟨k + 1, by first | rfl | go_num, rfl, by omega, nbl_al HB.out⟩
    · have e : k = S := by omega
      subst e
      go_wp2_with (first | (go_at_call 189; refine (HSO.out _ (HE.out.below HB.out)).mono ?_; rintro e w1 ⟨rfl, hb⟩; have HB1 := Lib.hid (nbl_step HB.out hb); clear hb))
      go_ret
      exact ⟨rfl, HB1.out⟩
set_option maxRecDepth 100000 in
set_option maxHeartbeats 1000000 in
theorem tall_new {w : World} {p t g d n u : Nat} {r : Int} {S : Nat} {i o : Int} (h : NodeNew w p t g d n u r S i o) (hk : okN r S i o = true) (hE : Env w) : Calls Tryz.prog 77 #[.pointer (some ⟨t, 0, none⟩)] w fun e w' => e = .returned (.slice none 0 0) ∧ Below w.heap.size w w' := by
  have HC := Lib.hid (keys_new h hk hE)
  clear h hk hE
  go_enter Tryz.func77, Tryz.ntmps77
  go_wp2_with (first | (go_at_call 131; refine HC.out.mono ?_; rintro e w1 ⟨rfl, hb⟩; have HB := Lib.hid hb; clear hb))
  refine wp_loop_rounds 1 ?_
  rw [rounds_succ]
  go_wp2_with fail
  go_ret
  exact ⟨rfl, HB.out⟩
set_option maxRecDepth 100000 in
set_option maxHeartbeats 1000000 in
theorem carts_new {w : World} {p t g d n u : Nat} {r : Int} {S : Nat} {i o : Int} (h : NodeNew w p t g d n u r S i o) (hk : okN r S i o = true) (hE : Env w) : Calls Tryz.prog 32 #[.pointer (some ⟨p, 0, none⟩)] w fun e w' => e = .returned (.slice none 0 0) ∧ Below w.heap.size w w' := by
  have HC := Lib.hid (tall_new h hk hE)
  have HN := Lib.hid (nnone_new h hk)
  have c4 := h.c4
  clear h hk hE
  go_enter Tryz.func32, Tryz.ntmps32
  go_wp2_with (first | (go_at_call 57; refine HN.out.mono ?_; rintro e w0 ⟨rfl, hw0⟩; subst w0) | (go_at_call 77; refine HC.out.mono ?_; rintro e w1 ⟨rfl, hb⟩; have HB := Lib.hid hb; clear hb))
  go_ret
  exact ⟨rfl, HB.out⟩
end Go.Proofs.YthfleaogajbpfaaGreatDoor
