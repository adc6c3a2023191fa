/- client.Valid: its parts. -/
import Derived.Test.YtecnchmcdbcofaaGreatDoorSk
import Derived.Test.YtecnchmcdbcofaaGreatDoorSh
import Derived.Deep.LoopGhost
import Derived.Laws.IdiomStrings
namespace Go.Proofs.YtecnchmcdbcofaaGreatDoor
set_option linter.unusedVariables false
set_option linter.unusedSimpArgs false
open Go.RowKit Go.MapKept
theorem nbl_step {w a b : World} (h : Below w.heap.size w a) (k : Below a.heap.size a b) : Below w.heap.size w b := h.trans (k.mono h.size)
theorem nbl_drewN {w a : World} {n : Nat} (h : Below w.heap.size w a) : Below w.heap.size w (a.drewN n) := ⟨h.os, h.tape, h.output, h.size, h.block⟩
theorem below_alloc (w : World) (o : Obj) : Below w.heap.size w (w.alloc o) := (Below.refl _ w).alloc (Nat.le_refl _) o
theorem nbl_al {w a : World} {o : Obj} (h : Below w.heap.size w a) : Below w.heap.size w (a.alloc o) := nbl_step h (below_alloc _ _)
theorem new_cells (w : World) (cs : Array Value) (ty : TypeId) (i : Nat) : (w.alloc (.cells cs ty)).cell? ⟨w.heap.size, i, none⟩ = cs[i]? := by
  have hh : (w.alloc (.cells cs ty)).heap[w.heap.size]? = some (.cells cs ty (0, 0)) := by
    show (w.heap.push _)[w.heap.size]? = _
    simp
  unfold World.cell?
  dsimp only
  rw [hh]
  rfl
theorem index_str {s : ByteArray} {k : Nat} {x : UInt8} (hx : s.data.toList[k]? = some x) (W : World) : (Instr.index 9 (.string s) (.int .i64 (k : Int))).run Tryz.prog W = .ok (.int .u8 (x.toNat : Int)) W := by
  have hk : k < s.data.toList.length := (List.getElem?_eq_some_iff.1 hx).1
  have hs : k < s.size := by rw [Lib.size_eq]; exact hk
  rw [run_index_string W 9 s .i64 k (by kernel_rfl), dif_pos ⟨by omega, by omega⟩]
  have e : s[k]'hs = x := by
    have h := (List.getElem?_eq_some_iff.1 hx).2
    rw [← h]
    rfl
  show Result.ok (Value.int IntKind.u8 (((s[k]'hs).toNat : Nat) : Int)) W = _
  rw [e]

def inB (least : Nat) (x : UInt8) : Bool := decide (least ≤ x.toNat) && decide (x.toNat ≤ 126)
def betweenB (least : Nat) (s : ByteArray) : Bool := s.data.toList.all (inB least) && (!s.toList.isEmpty && decide ((s.size : Int) ≤ 100))
theorem all_take {p : UInt8 → Bool} {l : List UInt8} {k : Nat} {x : UInt8} (h : ∀ j y, j < k → l[j]? = some y → p y = true) (hx : l[k]? = some x) (hp : p x = true) : ∀ j y, j < k + 1 → l[j]? = some y → p y = true := by
  intro j y hj hy
  by_cases e : j = k
  · subst e
    rw [hx] at hy
    cases hy
    exact hp
  · exact h j y (by omega) hy
theorem all_of {p : UInt8 → Bool} {l : List UInt8} (h : ∀ j y, j < l.length → l[j]? = some y → p y = true) : l.all p = true := by
  rw [List.all_eq_true]
  intro x hx
  obtain ⟨j, hj, e⟩ := List.mem_iff_getElem.1 hx
  exact h j x hj (by rw [List.getElem?_eq_getElem hj, e])
theorem all_not {p : UInt8 → Bool} {l : List UInt8} {k : Nat} {x : UInt8} (hx : l[k]? = some x) (hp : p x = false) : l.all p = false := by
  rw [List.all_eq_false]
  exact ⟨x, List.mem_of_getElem? hx, by rw [hp]; decide⟩
set_option maxRecDepth 100000 in
set_option maxHeartbeats 1000000 in
theorem between_any (s : ByteArray) (hs : s.size ≤ 100000) (least : Nat) (hl : least < 256) (w : World) : Calls Tryz.prog 65 #[.string s, .int .u8 (least : Int)] w fun e w' => e = .returned (.bool (betweenB least s)) ∧ w' = w := by
  obtain ⟨N, hN⟩ : ∃ N, s.size = N := ⟨_, rfl⟩
  have HL : Hid (s.data.toList.length = N) := Lib.hid (by rw [← hN]; exact (Lib.size_eq s).symm)
  have HQ : Hid (betweenB least s = (s.data.toList.all (inB least) && (!s.toList.isEmpty && decide ((N : Int) ≤ 100)))) := Lib.hid (by unfold betweenB; rw [hN])
  generalize betweenB least s = b at *
  go_enter Tryz.func65, Tryz.ntmps65
  rw [hN] at hs
  have HN := Lib.hid hN
  go_wp2
  go_loop [5, 8] (fun _ u => ∃ k : Nat, k ≤ N ∧ u = .int .i64 k ∧ Hid (∀ j y, j < k → s.data.toList[j]? = some y → inB least y = true)) (fun _ u => N - (match u with | .int _ z => z.toNat | _ => 0))
  case atStart => exact ⟨0, by omega, rfl, Lib.hid fun j y hj => absurd hj (by omega)⟩
  case round =>
    obtain ⟨k, hk, rfl, HA⟩ := hrel
    by_cases hlt : k < N
    · have hkL : k < s.data.toList.length := by rw [HL.out]; exact hlt
      have hx0 : s.data.toList[k]? = some s.data.toList[k] := List.getElem?_eq_getElem hkL
      generalize s.data.toList[k] = x at hx0
      have hix := index_str hx0
      have HX := Lib.hid hx0
      clear hx0
      have hx256 : x.toNat < 256 := x.toNat_lt
      have HI : Hid (inB least x = (decide (least ≤ x.toNat) && decide (x.toNat ≤ 126))) := rfl
      generalize x.toNat = z at *
      by_cases h1 : (z : Int) < least
      · have d1 : decide ((z : Int) < least) = true := decide_eq_true h1
        have HF : Hid (s.data.toList.all (inB least) = false) := Lib.hid (all_not HX.out (by rw [HI.out]; simp; omega))
        go_wp2
        go_ret
        exact ⟨by rw [HQ.out, HF.out]; rfl, rfl⟩
      · have d1 : decide ((z : Int) < least) = false := decide_eq_false h1
        by_cases h2 : (126 : Int) < z
        · have d2 : decide ((126 : Int) < z) = true := decide_eq_true h2
          have HF : Hid (s.data.toList.all (inB least) = false) := Lib.hid (all_not HX.out (by rw [HI.out]; simp; omega))
          go_wp2
          go_ret
          exact ⟨by rw [HQ.out, HF.out]; rfl, rfl⟩
        · have d2 : decide ((126 : Int) < z) = false := decide_eq_false h2
          have HT := Lib.hid (all_take HA.out HX.out (by rw [HI.out]; simp; omega))
          go_wp2
          exact ⟨⟨k + 1, by omega, by go_num, HT⟩, by simp; omega⟩
    · have e : k = N := by omega
      subst e
      have HT : Hid (s.data.toList.all (inB least) = true) := Lib.hid (all_of fun j y hj => HA.out j y (by rw [HL.out] at hj; exact hj))
      cases hq : s.toList.isEmpty with
      | true =>
        have HE := Lib.hid hq
        go_wp2
        go_ret
        exact ⟨by rw [HQ.out, HT.out, HE.out]; rfl, rfl⟩
      | false =>
        have HE := Lib.hid hq
        go_wp2
        go_ret
        exact ⟨by rw [HQ.out, HT.out, HE.out]; rfl, rfl⟩
end Go.Proofs.YtecnchmcdbcofaaGreatDoor
