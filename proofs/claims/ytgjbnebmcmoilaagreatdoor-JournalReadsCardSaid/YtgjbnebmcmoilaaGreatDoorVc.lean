/- client.Valid: its parts. client.find, by cases. client.Valid. -/
import Derived.Test.YtgjbnebmcmoilaaGreatDoorVb
import Derived.Test.YtgjbnebmcmoilaaGreatDoorSh
import Derived.Deep.LoopGhost
import Derived.Laws.IdiomStrings
import Derived.Test.YtgjbnebmcmoilaaGreatDoorAl
import Derived.Test.YtgjbnebmcmoilaaGreatDoorEb
import Derived.Laws.ResultCell
import Derived.Deep.RegionHeld3
import Derived.Deep.RegionWith
import Derived.Deep.RegionLaw
namespace Go.Proofs.YtgjbnebmcmoilaaGreatDoor
set_option linter.unusedVariables false
set_option linter.unusedSimpArgs false
open Go.RowKit Go.MapKept
theorem index_str {s : ByteArray} {k : Nat} {x : UInt8} (hx : s.data.toList[k]? = some x) (W : World) : (Instr.index 9 (.string s) (.int .i64 (k : Int))).run Tryz.prog W = .ok (.int .u8 (x.toNat : Int)) W := by
  have hk : k < s.data.toList.length := (List.getElem?_eq_some_iff.1 hx).1
  have hs : k < s.size := by rw [Lib.size_eq]; exact hk
  rw [run_index_string W 9 s .i64 k (by kernel_rfl), dif_pos ⟨by omega, by omega⟩]
  have e : s[k]'hs = x := by
    have h := (List.getElem?_eq_some_iff.1 hx).2
    rw [← h]
    rfl
  show Result.ok (Value.int IntKind.u8 (((s[k]'hs).toNat : Nat) : Int)) W = _
  rw [e]

def inB (least : Nat) (x : UInt8) : Bool := decide (least ≤ x.toNat) && decide (x.toNat ≤ 126)
def betweenB (least : Nat) (s : ByteArray) : Bool := s.data.toList.all (inB least) && (!s.toList.isEmpty && decide ((s.size : Int) ≤ 100))
theorem all_take {p : UInt8 → Bool} {l : List UInt8} {k : Nat} {x : UInt8} (h : ∀ j y, j < k → l[j]? = some y → p y = true) (hx : l[k]? = some x) (hp : p x = true) : ∀ j y, j < k + 1 → l[j]? = some y → p y = true := by
  intro j y hj hy
  by_cases e : j = k
  · subst e
    rw [hx] at hy
    cases hy
    exact hp
  · exact h j y (by omega) hy
theorem all_of {p : UInt8 → Bool} {l : List UInt8} (h : ∀ j y, j < l.length → l[j]? = some y → p y = true) : l.all p = true := by
  rw [List.all_eq_true]
  intro x hx
  obtain ⟨j, hj, e⟩ := List.mem_iff_getElem.1 hx
  exact h j x hj (by rw [List.getElem?_eq_getElem hj, e])
theorem all_not {p : UInt8 → Bool} {l : List UInt8} {k : Nat} {x : UInt8} (hx : l[k]? = some x) (hp : p x = false) : l.all p = false := by
  rw [List.all_eq_false]
  exact ⟨x, List.mem_of_getElem? hx, by rw [hp]; decide⟩
set_option maxRecDepth 100000 in
set_option maxHeartbeats 1000000 in
theorem between_any (s : ByteArray) (hs : s.size ≤ 100000) (least : Nat) (hl : least < 256) (w : World) : Calls Tryz.prog 56 #[.string s, .int .u8 (least : Int)] w fun e w' => e = .returned (.bool (betweenB least s)) ∧ w' = w := by
  obtain ⟨N, hN⟩ : ∃ N, s.size = N := ⟨_, rfl⟩
  have HL : Hid (s.data.toList.length = N) := Lib.hid (by rw [← hN]; exact (Lib.size_eq s).symm)
  have HQ : Hid (betweenB least s = (s.data.toList.all (inB least) && (!s.toList.isEmpty && decide ((N : Int) ≤ 100)))) := Lib.hid (by unfold betweenB; rw [hN])
  generalize betweenB least s = b at *
  go_enter Tryz.func56, Tryz.ntmps56
  rw [hN] at hs
  have HN := Lib.hid hN
  go_wp2
  go_loop [5, 8] (fun _ u => ∃ k : Nat, k ≤ N ∧ u = .int .i64 k ∧ Hid (∀ j y, j < k → s.data.toList[j]? = some y → inB least y = true)) (fun _ u => N - (match u with | .int _ z => z.toNat | _ => 0))
  case atStart => exact ⟨0, by omega, rfl, Lib.hid fun j y hj => absurd hj (by omega)⟩
  case round =>
    obtain ⟨k, hk, rfl, HA⟩ := hrel
    by_cases hlt : k < N
    · have hkL : k < s.data.toList.length := by rw [HL.out]; exact hlt
      have hx0 : s.data.toList[k]? = some s.data.toList[k] := List.getElem?_eq_getElem hkL
      generalize s.data.toList[k] = x at hx0
      have hix := index_str hx0
      have HX := Lib.hid hx0
      clear hx0
      have hx256 : x.toNat < 256 := x.toNat_lt
      have HI : Hid (inB least x = (decide (least ≤ x.toNat) && decide (x.toNat ≤ 126))) := rfl
      generalize x.toNat = z at *
      by_cases h1 : (z : Int) < least
      · have d1 : decide ((z : Int) < least) = true := decide_eq_true h1
        have HF : Hid (s.data.toList.all (inB least) = false) := Lib.hid (all_not HX.out (by rw [HI.out]; simp; omega))
        go_wp2
        go_ret
        exact ⟨by rw [HQ.out, HF.out]; rfl, rfl⟩
      · have d1 : decide ((z : Int) < least) = false := decide_eq_false h1
        by_cases h2 : (126 : Int) < z
        · have d2 : decide ((126 : Int) < z) = true := decide_eq_true h2
          have HF : Hid (s.data.toList.all (inB least) = false) := Lib.hid (all_not HX.out (by rw [HI.out]; simp; omega))
          go_wp2
          go_ret
          exact ⟨by rw [HQ.out, HF.out]; rfl, rfl⟩
        · have d2 : decide ((126 : Int) < z) = false := decide_eq_false h2
          have HT := Lib.hid (all_take HA.out HX.out (by rw [HI.out]; simp; omega))
          go_wp2
          exact ⟨⟨k + 1, by omega, by go_num, HT⟩, by simp; omega⟩
    · have e : k = N := by omega
      subst e
      have HT : Hid (s.data.toList.all (inB least) = true) := Lib.hid (all_of fun j y hj => HA.out j y (by rw [HL.out] at hj; exact hj))
      cases hq : s.toList.isEmpty with
      | true =>
        have HE := Lib.hid hq
        go_wp2
        go_ret
        exact ⟨by rw [HQ.out, HT.out, HE.out]; rfl, rfl⟩
      | false =>
        have HE := Lib.hid hq
        go_wp2
        go_ret
        exact ⟨by rw [HQ.out, HT.out, HE.out]; rfl, rfl⟩
end Go.Proofs.YtgjbnebmcmoilaaGreatDoor
set_option linter.unusedVariables false
set_option linter.unusedSimpArgs false
namespace Go.Proofs.YtgjbnebmcmoilaaGreatDoor
open Go.RowKit
theorem uclosedS_eq {E : Ax.Ev} {v v' : Value} (h : Ax.closedS v = true) (k : Ax.VR E v v') : v' = v := by
  cases k <;> first | rfl | cases h
theorem uclosedL_eq {E : Ax.Ev} : ∀ {l l' : List Value}, Ax.closedL l = true → Ax.VRs E l l' → l' = l
  | [], _, _, h => by cases h; rfl
  | v :: l, _, hc, h => by
    cases h with
    | cons _ v' _ l' h1 h2 =>
      simp only [Ax.closedL, Bool.and_eq_true] at hc
      rw [uclosedS_eq hc.1 h1, uclosedL_eq hc.2 h2]
theorem uclosed_eq {E : Ax.Ev} {v v' : Value} (h : Ax.closed v = true) (k : Ax.VR E v v') : v' = v := by
  cases k with
  | agg a a' ha => rw [uclosedL_eq h ha]
  | tup a a' ha => rw [uclosedL_eq h ha]
  | bool b => rfl
  | int k n => rfl
  | str s => rfl
  | nilp => rfl
  | ptr i b n o h' => cases h
  | nils l c => rfl
  | sl i b n o l c h' => cases h
  | sli i b n es o l c c' h' hc hn => cases h
  | nilm => rfl
  | mp i b n h' => cases h
  | nilf => rfl
  | nili => rfl
  | fn f a b a' b' ha hb => cases h
  | sym k v h' h1 => cases h
  | emp p c => cases h
def closedAll : List Value → Bool
  | [] => true
  | v :: l => Ax.closed v && closedAll l
def closed2 : Value → Bool
  | .tuple ⟨l⟩ => closedAll l
  | v => Ax.closed v
theorem closedAll_eq {E : Ax.Ev} : ∀ {l l' : List Value}, closedAll l = true → Ax.VRs E l l' → l' = l
  | [], _, _, h => by cases h; rfl
  | v :: l, _, hc, h => by
    cases h with
    | cons _ v' _ l' h1 h2 =>
      simp only [closedAll, Bool.and_eq_true] at hc
      rw [uclosed_eq hc.1 h1, closedAll_eq hc.2 h2]
theorem closed2_eq {E : Ax.Ev} {v v' : Value} (h : closed2 v = true) (k : Ax.VR E v v') : v' = v := by
  cases v with
  | tuple l =>
    cases k with
    | tup a a' ha => rw [closedAll_eq h ha]
  | _ => exact uclosed_eq h k
theorem env_call {f : FuncId} {args : List Value} {v : Value} (hv : closed2 v = true) (ha : Ax.closedL args = true) (hrun : ∀ m, (Ax.callB gv 100000 f args (st1 m).nx (st1 m)).map (·.1) = some v) {w : World} (hE : Env1 w) :
    Calls Tryz.prog f ⟨args⟩ w fun e w' => e = .returned v ∧ Below w.heap.size w w' := by
  obtain ⟨m, hv', hs⟩ := hE
  have h := hrun m
  simp only [Option.map_eq_some_iff] at h
  obtain ⟨⟨v0, σ'⟩, h1, rfl⟩ := h
  have hI := Ax.Inv0 (nx := 1000) hv' vars_lt gv_ng1000 hs
  refine (Ax.callB_sound gv_types gv_funs gv_mixed h1 hI (Nat.le_refl _) (Ax.closedL_VRs ha)).mono ?_
  rintro e w' ⟨v', E', rfl, h2, h3, h4, _⟩
  exact ⟨by rw [closed2_eq hv h2], h4.below fun j m b hj => by rw [hI.fresh j hj]; simp⟩
def rowsL : List (List UInt8 × List UInt8) := [([], []), ([97, 100, 100], [107, 113, 105]), ([115, 101, 116], [107, 113, 105]), ([114, 101, 109, 111, 118, 101], [107, 105]), ([103, 101, 116], [107]), ([99, 108, 101, 97, 114], [107]), ([119, 105, 115, 104], [107, 111, 105]), ([108, 111, 103, 105, 110], [107, 111]), ([100, 101, 108, 105, 118, 101, 114], [100]), ([109, 101, 114, 103, 101], []), ([100, 114, 97, 105, 110], []), ([99, 108, 111, 115, 101], [])]
def isOp (o : Int) : Bool := decide (1 ≤ o) && decide (o < 12)
def rowB (o : Int) : List UInt8 × List UInt8 := if isOp o then rowsL.getD o.toNat ([], []) else ([], [])
set_option maxRecDepth 100000 in
theorem find_any (o : Int) (w : World) (hE : Env1 w) : Calls Tryz.prog 55 #[.int .i64 o] w fun e w' => e = .returned (.tuple #[.agg #[.string ⟨⟨(rowB o).1⟩⟩, .string ⟨⟨(rowB o).2⟩⟩], .bool (isOp o)]) ∧ Below w.heap.size w w' := by
  by_cases h1 : o < 1
  · have e : isOp o = false := by unfold isOp; simp; omega
    unfold rowB
    rw [e]
    have d1 : decide (o < 1) = true := decide_eq_true h1
    go_enter Tryz.func55, Tryz.ntmps55
    go_wp2_with fail

    refine bodyPost_ret (v := .tuple #[.agg #[.string ⟨#[]⟩, .string ⟨#[]⟩], .bool false]) ?_ rfl ⟨rfl, ?_⟩
    · rw [results_cell_tmp rfl]
      simp [go_sem]
    · exact below_alloc _ _
  · by_cases h2 : o < 12
    · have hc : o = 1 ∨ o = 2 ∨ o = 3 ∨ o = 4 ∨ o = 5 ∨ o = 6 ∨ o = 7 ∨ o = 8 ∨ o = 9 ∨ o = 10 ∨ o = 11 := by omega
      rcases hc with rfl | rfl | rfl | rfl | rfl | rfl | rfl | rfl | rfl | rfl | rfl
      all_goals exact env_call (by kernel_rfl) (by kernel_rfl) (fun m => by kernel_rfl) hE
    · have e : isOp o = false := by unfold isOp; simp; omega
      unfold rowB
      rw [e]
      have d1 : decide (o < 1) = false := decide_eq_false h1
      have d2 : decide ((12 : Int) ≤ o) = true := decide_eq_true (by omega)
      go_enter Tryz.func55, Tryz.ntmps55
      go_wp2_with fail
      refine bodyPost_ret (v := .tuple #[.agg #[.string ⟨#[]⟩, .string ⟨#[]⟩], .bool false]) ?_ rfl ⟨rfl, ?_⟩
      · rw [results_cell_tmp rfl]
        simp [go_sem]
      · exact below_alloc _ _
end Go.Proofs.YtgjbnebmcmoilaaGreatDoor
set_option linter.unusedVariables false
set_option linter.unusedSimpArgs false
namespace Go.Proofs.YtgjbnebmcmoilaaGreatDoor
open Go.RowKit Go.MapKept
theorem Env1.below {w w' : World} (h : Env1 w) (hb : Below w.heap.size w w') : Env1 w' := by
  obtain ⟨m, hv, hs⟩ := h
  exact ⟨m, vars_below hv hb, Nat.le_trans hs hb.size⟩
theorem Env1.later {w w' : World} (h : Env1 w) (hb : Below w.heap.size w w') : Env1 w' := h.below hb
def hasB (ps : List UInt8) (c : UInt8) : Bool := decide (0 ≤ Lib.indexByte ps c)
def okB (has right zero : Bool) : Bool := !((has && !right) || (!has && !zero))
/-- Has a call a text? -/
def validB (o q : Int) (k t j : ByteArray) (n : Nat) : Bool :=
  (isOp o && !decide ((65536 : Int) < n)) && (okB (hasB (rowB o).2 107) (betweenB 33 k) k.toList.isEmpty && (okB (hasB (rowB o).2 111) (betweenB 33 t) t.toList.isEmpty && (okB (hasB (rowB o).2 105) (betweenB 32 j) j.toList.isEmpty && (okB (hasB (rowB o).2 113) true (q == 0) && okB (hasB (rowB o).2 100) true ((n : Int) == 0)))))
set_option maxRecDepth 100000 in
set_option maxHeartbeats 16000000 in
theorem valid_any (o q : Int) (k t j : ByteArray) (A : Option Addr) (n c : Nat) (hk : k.size ≤ 100000) (ht : t.size ≤ 100000) (hj : j.size ≤ 100000) (w : World) (hE : Env1 w) :
    Calls Tryz.prog 34 #[.agg #[.int .i64 o, .string k, .string t, .string j, .int .i64 q, .slice A n c]] w fun e w' => e = .returned (.bool (validB o q k t j n)) ∧ Below w.heap.size w w' := by
  have HQ : Hid (validB o q k t j n = ((isOp o && !decide ((65536 : Int) < n)) && (okB (hasB (rowB o).2 107) (betweenB 33 k) k.toList.isEmpty && (okB (hasB (rowB o).2 111) (betweenB 33 t) t.toList.isEmpty && (okB (hasB (rowB o).2 105) (betweenB 32 j) j.toList.isEmpty && (okB (hasB (rowB o).2 113) true (q == 0) && okB (hasB (rowB o).2 100) true ((n : Int) == 0))))))) := rfl
  have HF := Lib.hid (fun W (h : Env1 W) => find_any o W h)
  have HE := Lib.hid hE
  have HBW : Hid (∀ (s : ByteArray) (hs : s.size ≤ 100000) (m : Int) (hm : m = 33 ∨ m = 32) (W : World), Calls Tryz.prog 56 #[.string s, .int .u8 m] W fun e w' => e = .returned (.bool (betweenB m.toNat s)) ∧ w' = W) := Lib.hid fun s hs m hm W => by
    rcases hm with rfl | rfl
    · exact between_any s hs 33 (by omega) W
    · exact between_any s hs 32 (by omega) W
  have HC := Lib.hid (fun c W => Tryz.strings_Contains_one ⟨⟨(rowB o).2⟩⟩ c W)
  clear hE
  generalize validB o q k t j n = vb at *
  generalize rowB o = R at *
  obtain ⟨rw, rp⟩ := R
  generalize isOp o = io at *
  go_enter Tryz.func34, Tryz.ntmps34
  go_wp2_with fail
  refine (HF.out _ (HE.out.later (below_alloc _ _))).mono ?_
  rintro e w1 ⟨rfl, hb⟩
  have HB := Lib.hid (nbl_step (below_alloc _ _) hb)
  have c0 := cell_below hb (new_cells w _ _ 0)
  have c1 := cell_below hb (new_cells w _ _ 1)
  have c2 := cell_below hb (new_cells w _ _ 2)
  have c3 := cell_below hb (new_cells w _ _ 3)
  have c4 := cell_below hb (new_cells w _ _ 4)
  have c5 := cell_below hb (new_cells w _ _ 5)
  clear hb
  have a0 := fun o' => cell_below (below_alloc w1 o') c0
  have a1 := fun o' => cell_below (below_alloc w1 o') c1
  have a2 := fun o' => cell_below (below_alloc w1 o') c2
  have a3 := fun o' => cell_below (below_alloc w1 o') c3
  have a4 := fun o' => cell_below (below_alloc w1 o') c4
  have a5 := fun o' => cell_below (below_alloc w1 o') c5
  cases io with
  | false =>
    go_wp2_with fail
    go_ret
    exact ⟨by rw [HQ.out]; rfl, nbl_al HB.out⟩
  | true =>
    by_cases hn : (65536 : Int) < n
    · have dn : decide ((65536 : Int) < n) = true := decide_eq_true hn
      have DN := Lib.hid dn
      go_wp2_with fail
      go_ret
      exact ⟨by rw [HQ.out, DN.out]; rfl, nbl_al HB.out⟩
    · have dn : decide ((65536 : Int) < n) = false := decide_eq_false hn
      have DN := Lib.hid dn
      go_wp2_with fail
      obtain ⟨w2, hw2⟩ : ∃ w2, w2 = w1.alloc (.cells #[.string ⟨⟨rw⟩⟩, .string ⟨⟨rp⟩⟩] 119) := ⟨_, rfl⟩
      have d0 := a0 (.cells #[.string ⟨⟨rw⟩⟩, .string ⟨⟨rp⟩⟩] 119)
      have d1 := a1 (.cells #[.string ⟨⟨rw⟩⟩, .string ⟨⟨rp⟩⟩] 119)
      have d2 := a2 (.cells #[.string ⟨⟨rw⟩⟩, .string ⟨⟨rp⟩⟩] 119)
      have d3 := a3 (.cells #[.string ⟨⟨rw⟩⟩, .string ⟨⟨rp⟩⟩] 119)
      have d4 := a4 (.cells #[.string ⟨⟨rw⟩⟩, .string ⟨⟨rp⟩⟩] 119)
      have d5 := a5 (.cells #[.string ⟨⟨rw⟩⟩, .string ⟨⟨rp⟩⟩] 119)
      have r1 : w2.cell? ⟨w1.heap.size, 1, none⟩ = some (.string ⟨⟨rp⟩⟩) := by rw [hw2]; exact new_cells _ _ _ 1
      have HB2 : Hid (Below w.heap.size w w2) := Lib.hid (by rw [hw2]; exact nbl_al HB.out)
      rw [← hw2] at d0 d1 d2 d3 d4 d5 ⊢
      clear hw2 a0 a1 a2 a3 a4 a5 c0 c1 c2 c3 c4 c5 HB
      generalize w1.heap.size = p1 at *
      go_region_held3 (fun w' => w'.cell? ⟨w.heap.size, 1, none⟩ = some (.string k) ∧ w'.cell? ⟨w.heap.size, 2, none⟩ = some (.string t) ∧ w'.cell? ⟨w.heap.size, 3, none⟩ = some (.string j) ∧ w'.cell? ⟨w.heap.size, 4, none⟩ = some (.int .i64 q) ∧ w'.cell? ⟨w.heap.size, 5, none⟩ = some (.slice A n c)) (go_keep) (first
        | (go_at_call 56; refine (HBW.out _ (by assumption) _ (by decide) _).mono ?_; rintro e w8 ⟨rfl, rfl⟩)
        | fail)
      generalize betweenB 33 k = b1 at *
      generalize betweenB 33 t = b2 at *
      generalize betweenB 32 j = b3 at *
      generalize k.toList.isEmpty = z1 at *
      generalize t.toList.isEmpty = z2 at *
      generalize j.toList.isEmpty = z3 at *
      generalize (q == 0) = z4 at *
      generalize ((n : Int) == 0) = z5 at *
      rw [DN.out] at HQ
      obtain ⟨w3, hw3⟩ : ∃ w3, w3 = (w2.alloc (.cells #[.string ⟨#[107]⟩, .bool b1, .bool z1, .string ⟨#[111]⟩, .bool b2, .bool z2, .string ⟨#[105]⟩, .bool b3, .bool z3, .string ⟨#[113]⟩, .bool true, .bool z4, .string ⟨#[100]⟩, .bool true, .bool z5] 123)).drew := ⟨_, rfl⟩
      rw [← hw3]
      have HB3 : Hid (Below w.heap.size w w3) := Lib.hid (by rw [hw3]; exact (nbl_al HB2.out).drew)
      have R1 : Hid (w3.cell? ⟨p1, 1, none⟩ = some (.string ⟨⟨rp⟩⟩)) := Lib.hid (by rw [hw3]; exact cell_below (below_alloc w2 _) r1)
      have C0 : Hid (w3.cell? ⟨w2.heap.size, 0, none⟩ = some (.string ⟨#[107]⟩)) := Lib.hid (by rw [hw3]; exact new_cells w2 _ _ 0)
      have C1 : Hid (w3.cell? ⟨w2.heap.size, 1, none⟩ = some (.bool b1)) := Lib.hid (by rw [hw3]; exact new_cells w2 _ _ 1)
      have C2 : Hid (w3.cell? ⟨w2.heap.size, 2, none⟩ = some (.bool z1)) := Lib.hid (by rw [hw3]; exact new_cells w2 _ _ 2)
      have C3 : Hid (w3.cell? ⟨w2.heap.size, 3, none⟩ = some (.string ⟨#[111]⟩)) := Lib.hid (by rw [hw3]; exact new_cells w2 _ _ 3)
      have C4 : Hid (w3.cell? ⟨w2.heap.size, 4, none⟩ = some (.bool b2)) := Lib.hid (by rw [hw3]; exact new_cells w2 _ _ 4)
      have C5 : Hid (w3.cell? ⟨w2.heap.size, 5, none⟩ = some (.bool z2)) := Lib.hid (by rw [hw3]; exact new_cells w2 _ _ 5)
      have C6 : Hid (w3.cell? ⟨w2.heap.size, 6, none⟩ = some (.string ⟨#[105]⟩)) := Lib.hid (by rw [hw3]; exact new_cells w2 _ _ 6)
      have C7 : Hid (w3.cell? ⟨w2.heap.size, 7, none⟩ = some (.bool b3)) := Lib.hid (by rw [hw3]; exact new_cells w2 _ _ 7)
      have C8 : Hid (w3.cell? ⟨w2.heap.size, 8, none⟩ = some (.bool z3)) := Lib.hid (by rw [hw3]; exact new_cells w2 _ _ 8)
      have C9 : Hid (w3.cell? ⟨w2.heap.size, 9, none⟩ = some (.string ⟨#[113]⟩)) := Lib.hid (by rw [hw3]; exact new_cells w2 _ _ 9)
      have C10 : Hid (w3.cell? ⟨w2.heap.size, 10, none⟩ = some (.bool true)) := Lib.hid (by rw [hw3]; exact new_cells w2 _ _ 10)
      have C11 : Hid (w3.cell? ⟨w2.heap.size, 11, none⟩ = some (.bool z4)) := Lib.hid (by rw [hw3]; exact new_cells w2 _ _ 11)
      have C12 : Hid (w3.cell? ⟨w2.heap.size, 12, none⟩ = some (.string ⟨#[100]⟩)) := Lib.hid (by rw [hw3]; exact new_cells w2 _ _ 12)
      have C13 : Hid (w3.cell? ⟨w2.heap.size, 13, none⟩ = some (.bool true)) := Lib.hid (by rw [hw3]; exact new_cells w2 _ _ 13)
      have C14 : Hid (w3.cell? ⟨w2.heap.size, 14, none⟩ = some (.bool z5)) := Lib.hid (by rw [hw3]; exact new_cells w2 _ _ 14)
      clear hw3 d0 d1 d2 d3 d4 d5 r1
      generalize w2.heap.size = p2 at *
      go_wp2_with fail
      go_loopg [54] 5 (fun gf u wx => ∃ i : Nat, u = .int .i64 (i : Int) ∧ i + gf = 5 ∧ Below w3.heap.size w3 wx ∧ (0 < i → okB (hasB rp 107) b1 z1 = true) ∧ (1 < i → okB (hasB rp 111) b2 z2 = true) ∧ (2 < i → okB (hasB rp 105) b3 z3 = true) ∧ (3 < i → okB (hasB rp 113) true z4 = true) ∧ (4 < i → okB (hasB rp 100) true z5 = true))
      case atStart => exact ⟨0, rfl, by omega, Below.refl _ _, by omega, by omega, by omega, by omega, by omega⟩
      case round =>
        obtain ⟨i, rfl, hi, hbw, q0, q1, q2, q3, q4⟩ := hrel
        have HW := Lib.hid hbw
        have Q0 := Lib.hid q0
        have Q1 := Lib.hid q1
        have Q2 := Lib.hid q2
        have Q3 := Lib.hid q3
        have Q4 := Lib.hid q4
        have rr := cell_below hbw R1.out
        have ra := fun o' => cell_below (below_alloc _ o') rr
        clear q0 q1 q2 q3 q4
        rcases (show i = 0 ∨ i = 1 ∨ i = 2 ∨ i = 3 ∨ i = 4 ∨ i = 5 by omega) with rfl | rfl | rfl | rfl | rfl | rfl
        · obtain ⟨g', rfl⟩ : ∃ g', gk = g' + 1 := ⟨gk - 1, by omega⟩
          have e0 := cell_below hbw C0.out
          have e1 := cell_below hbw C1.out
          have e2 := cell_below hbw C2.out
          clear hbw
          cases hx : decide (0 ≤ Lib.indexByte rp 107) <;> cases b1 <;> cases z1
          all_goals
            have HX := Lib.hid hx
            go_wp2_with (first | (go_at_call 57; refine (HC.out _ _).mono ?_; rintro e w8 ⟨rfl, rfl⟩; rw [HX.out]))
            first
              | (go_ret
                 exact ⟨by rw [HQ.out]; unfold hasB okB; rw [HX.out]; simp, nbl_al (nbl_step HB3.out HW.out)⟩)
              | (go_roundg g'
                 case measure => omega
                 case rel => exact ⟨1, rfl, by omega, nbl_al HW.out, fun _ => by unfold hasB okB; rw [HX.out]; rfl, by omega, by omega, by omega, by omega⟩)
        · obtain ⟨g', rfl⟩ : ∃ g', gk = g' + 1 := ⟨gk - 1, by omega⟩
          have e0 := cell_below hbw C3.out
          have e1 := cell_below hbw C4.out
          have e2 := cell_below hbw C5.out
          clear hbw
          cases hx : decide (0 ≤ Lib.indexByte rp 111) <;> cases b2 <;> cases z2
          all_goals
            have HX := Lib.hid hx
            go_wp2_with (first | (go_at_call 57; refine (HC.out _ _).mono ?_; rintro e w8 ⟨rfl, rfl⟩; rw [HX.out]))
            first
              | (go_ret
                 exact ⟨by rw [HQ.out]; unfold hasB okB; rw [HX.out]; simp, nbl_al (nbl_step HB3.out HW.out)⟩)
              | (go_roundg g'
                 case measure => omega
                 case rel => exact ⟨2, rfl, by omega, nbl_al HW.out, fun _ => Q0.out (by omega), fun _ => by unfold hasB okB; rw [HX.out]; rfl, by omega, by omega, by omega⟩)
        · obtain ⟨g', rfl⟩ : ∃ g', gk = g' + 1 := ⟨gk - 1, by omega⟩
          have e0 := cell_below hbw C6.out
          have e1 := cell_below hbw C7.out
          have e2 := cell_below hbw C8.out
          clear hbw
          cases hx : decide (0 ≤ Lib.indexByte rp 105) <;> cases b3 <;> cases z3
          all_goals
            have HX := Lib.hid hx
            go_wp2_with (first | (go_at_call 57; refine (HC.out _ _).mono ?_; rintro e w8 ⟨rfl, rfl⟩; rw [HX.out]))
            first
              | (go_ret
                 exact ⟨by rw [HQ.out]; unfold hasB okB; rw [HX.out]; simp, nbl_al (nbl_step HB3.out HW.out)⟩)
              | (go_roundg g'
                 case measure => omega
                 case rel => exact ⟨3, rfl, by omega, nbl_al HW.out, fun _ => Q0.out (by omega), fun _ => Q1.out (by omega), fun _ => by unfold hasB okB; rw [HX.out]; rfl, by omega, by omega⟩)
        · obtain ⟨g', rfl⟩ : ∃ g', gk = g' + 1 := ⟨gk - 1, by omega⟩
          have e0 := cell_below hbw C9.out
          have e1 := cell_below hbw C10.out
          have e2 := cell_below hbw C11.out
          clear hbw
          cases hx : decide (0 ≤ Lib.indexByte rp 113) <;> cases z4
          all_goals
            have HX := Lib.hid hx
            go_wp2_with (first | (go_at_call 57; refine (HC.out _ _).mono ?_; rintro e w8 ⟨rfl, rfl⟩; rw [HX.out]))
            first
              | (go_ret
                 exact ⟨by rw [HQ.out]; unfold hasB okB; rw [HX.out]; simp, nbl_al (nbl_step HB3.out HW.out)⟩)
              | (go_roundg g'
                 case measure => omega
                 case rel => exact ⟨4, rfl, by omega, nbl_al HW.out, fun _ => Q0.out (by omega), fun _ => Q1.out (by omega), fun _ => Q2.out (by omega), fun _ => by unfold hasB okB; rw [HX.out]; rfl, by omega⟩)
        · obtain ⟨g', rfl⟩ : ∃ g', gk = g' + 1 := ⟨gk - 1, by omega⟩
          have e0 := cell_below hbw C12.out
          have e1 := cell_below hbw C13.out
          have e2 := cell_below hbw C14.out
          clear hbw
          cases hx : decide (0 ≤ Lib.indexByte rp 100) <;> cases z5
          all_goals
            have HX := Lib.hid hx
            go_wp2_with (first | (go_at_call 57; refine (HC.out _ _).mono ?_; rintro e w8 ⟨rfl, rfl⟩; rw [HX.out]))
            first
              | (go_ret
                 exact ⟨by rw [HQ.out]; unfold hasB okB; rw [HX.out]; simp, nbl_al (nbl_step HB3.out HW.out)⟩)
              | (go_roundg g'
                 case measure => omega
                 case rel => exact ⟨5, rfl, by omega, nbl_al HW.out, fun _ => Q0.out (by omega), fun _ => Q1.out (by omega), fun _ => Q2.out (by omega), fun _ => Q3.out (by omega), fun _ => by unfold hasB okB; rw [HX.out]; rfl⟩)
        · clear hbw
          go_wp2_with fail
          go_ret
          exact ⟨by rw [HQ.out, Q0.out (by omega), Q1.out (by omega), Q2.out (by omega), Q3.out (by omega), Q4.out (by omega)]; rfl, nbl_step HB3.out HW.out⟩
end Go.Proofs.YtgjbnebmcmoilaaGreatDoor
