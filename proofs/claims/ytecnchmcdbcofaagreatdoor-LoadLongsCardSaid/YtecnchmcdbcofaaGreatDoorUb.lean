/- client.find, by cases. -/
import Derived.Test.YtecnchmcdbcofaaGreatDoorUa
import Derived.Test.YtecnchmcdbcofaaGreatDoorAln
import Derived.Laws.ResultCell
set_option linter.unusedVariables false
set_option linter.unusedSimpArgs false
namespace Go.Proofs.YtecnchmcdbcofaaGreatDoor
open Go.RowKit
theorem uclosedS_eq {E : Ax.Ev} {v v' : Value} (h : Ax.closedS v = true) (k : Ax.VR E v v') : v' = v := by
  cases k <;> first | rfl | cases h
theorem uclosedL_eq {E : Ax.Ev} : ∀ {l l' : List Value}, Ax.closedL l = true → Ax.VRs E l l' → l' = l
  | [], _, _, h => by cases h; rfl
  | v :: l, _, hc, h => by
    cases h with
    | cons _ v' _ l' h1 h2 =>
      simp only [Ax.closedL, Bool.and_eq_true] at hc
      rw [uclosedS_eq hc.1 h1, uclosedL_eq hc.2 h2]
theorem uclosed_eq {E : Ax.Ev} {v v' : Value} (h : Ax.closed v = true) (k : Ax.VR E v v') : v' = v := by
  cases k with
  | agg a a' ha => rw [uclosedL_eq h ha]
  | tup a a' ha => rw [uclosedL_eq h ha]
  | bool b => rfl
  | int k n => rfl
  | str s => rfl
  | nilp => rfl
  | ptr i b n o h' => cases h
  | nils l c => rfl
  | sl i b n o l c h' => cases h
  | sli i b n es o l c c' h' hc hn => cases h
  | nilm => rfl
  | mp i b n h' => cases h
  | nilf => rfl
  | nili => rfl
  | fn f a b a' b' ha hb => cases h
  | sym k v h' h1 => cases h
  | emp p c => cases h
def closedAll : List Value → Bool
  | [] => true
  | v :: l => Ax.closed v && closedAll l
def closed2 : Value → Bool
  | .tuple ⟨l⟩ => closedAll l
  | v => Ax.closed v
theorem closedAll_eq {E : Ax.Ev} : ∀ {l l' : List Value}, closedAll l = true → Ax.VRs E l l' → l' = l
  | [], _, _, h => by cases h; rfl
  | v :: l, _, hc, h => by
    cases h with
    | cons _ v' _ l' h1 h2 =>
      simp only [closedAll, Bool.and_eq_true] at hc
      rw [uclosed_eq hc.1 h1, closedAll_eq hc.2 h2]
theorem closed2_eq {E : Ax.Ev} {v v' : Value} (h : closed2 v = true) (k : Ax.VR E v v') : v' = v := by
  cases v with
  | tuple l =>
    cases k with
    | tup a a' ha => rw [closedAll_eq h ha]
  | _ => exact uclosed_eq h k
theorem env_call {f : FuncId} {args : List Value} {v : Value} (hv : closed2 v = true) (ha : Ax.closedL args = true) (hrun : ∀ m, (Ax.callB gv 100000 f args (st0 m).nx (st0 m)).map (·.1) = some v) {w : World} (hE : Env w) :
    Calls Tryz.prog f ⟨args⟩ w fun e w' => e = .returned v ∧ Below w.heap.size w w' := by
  obtain ⟨m, hv', hs⟩ := hE
  have h := hrun m
  simp only [Option.map_eq_some_iff] at h
  obtain ⟨⟨v0, σ'⟩, h1, rfl⟩ := h
  have hI := Ax.Inv0 (nx := 1000) hv' vars_lt gv_ng1000 hs
  refine (Ax.callB_sound gv_types gv_funs gv_mixed h1 hI (Nat.le_refl _) (Ax.closedL_VRs ha)).mono ?_
  rintro e w' ⟨v', E', rfl, h2, h3, h4, _⟩
  exact ⟨by rw [closed2_eq hv h2], h4.below fun j m b hj => by rw [hI.fresh j hj]; simp⟩
def rowsL : List (List UInt8 × List UInt8) := [([], []), ([97, 100, 100], [107, 113, 105]), ([115, 101, 116], [107, 113, 105]), ([114, 101, 109, 111, 118, 101], [107, 105]), ([103, 101, 116], [107]), ([99, 108, 101, 97, 114], [107]), ([119, 105, 115, 104], [107, 111, 105]), ([108, 111, 103, 105, 110], [107, 111]), ([100, 101, 108, 105, 118, 101, 114], [100]), ([109, 101, 114, 103, 101], []), ([100, 114, 97, 105, 110], []), ([99, 108, 111, 115, 101], [])]
def isOp (o : Int) : Bool := decide (1 ≤ o) && decide (o < 12)
def rowB (o : Int) : List UInt8 × List UInt8 := if isOp o then rowsL.getD o.toNat ([], []) else ([], [])
set_option maxRecDepth 100000 in
theorem find_any (o : Int) (w : World) (hE : Env w) : Calls Tryz.prog 64 #[.int .i64 o] w fun e w' => e = .returned (.tuple #[.agg #[.string ⟨⟨(rowB o).1⟩⟩, .string ⟨⟨(rowB o).2⟩⟩], .bool (isOp o)]) ∧ Below w.heap.size w w' := by
  by_cases h1 : o < 1
  · have e : isOp o = false := by unfold isOp; simp; omega
    unfold rowB
    rw [e]
    have d1 : decide (o < 1) = true := decide_eq_true h1
    go_enter Tryz.func64, Tryz.ntmps64
    go_wp2_with fail

    refine bodyPost_ret (v := .tuple #[.agg #[.string ⟨#[]⟩, .string ⟨#[]⟩], .bool false]) ?_ rfl ⟨rfl, ?_⟩
    · rw [results_cell_tmp rfl]
      simp [go_sem]
    · exact below_alloc _ _
  · by_cases h2 : o < 12
    · have hc : o = 1 ∨ o = 2 ∨ o = 3 ∨ o = 4 ∨ o = 5 ∨ o = 6 ∨ o = 7 ∨ o = 8 ∨ o = 9 ∨ o = 10 ∨ o = 11 := by omega
      rcases hc with rfl | rfl | rfl | rfl | rfl | rfl | rfl | rfl | rfl | rfl | rfl
      all_goals exact env_call (by kernel_rfl) (by kernel_rfl) (fun m => by kernel_rfl) hE
    · have e : isOp o = false := by unfold isOp; simp; omega
      unfold rowB
      rw [e]
      have d1 : decide (o < 1) = false := decide_eq_false h1
      have d2 : decide ((12 : Int) ≤ o) = true := decide_eq_true (by omega)
      go_enter Tryz.func64, Tryz.ntmps64
      go_wp2_with fail
      refine bodyPost_ret (v := .tuple #[.agg #[.string ⟨#[]⟩, .string ⟨#[]⟩], .bool false]) ?_ rfl ⟨rfl, ?_⟩
      · rw [results_cell_tmp rfl]
        simp [go_sem]
      · exact below_alloc _ _
end Go.Proofs.YtecnchmcdbcofaaGreatDoor
