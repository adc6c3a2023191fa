/- The reference's Same: whether two rows of accesses are the same. -/
import Derived.Test.YtahklchfchjmcaaDoorRl
import Derived.Laws.StructEq
import Derived.ChangeKeysEq
namespace Go.Proofs.YtahklchfchjmcaaDoor
set_option linter.unusedVariables false
set_option linter.unusedSimpArgs false
open Go.RowKit Go.MapKept

theorem bl_drew {B : Nat} {w w' : World} (h : Below B w w') (n : Nat) : Below B w (w'.drewN n) := ⟨h.os, h.tape, h.output, h.size, h.block⟩

def accEq (a b : Acc) : Bool := a.task == b.task && (a.kind == b.kind && a.var.toList == b.var.toList)

theorem accEq_iff (a b : Acc) : accEq a b = true ↔ a = b := by
  obtain ⟨at1, ak, ax⟩ := a
  obtain ⟨bt, bk, bx⟩ := b
  unfold accEq
  dsimp only
  simp only [Bool.and_eq_true, beq_iff_eq]
  constructor
  · rintro ⟨rfl, rfl, h⟩
    rw [ByteArray.toList_eq, ByteArray.toList_eq] at h
    obtain ⟨⟨x⟩⟩ := ax
    obtain ⟨⟨y⟩⟩ := bx
    cases h
    rfl
  · intro h; cases h; exact ⟨rfl, rfl, rfl⟩

theorem run_equal_acc (a b : Acc) (w : World) : (Op.equalIn 10000 55 (.agg #[.int .i64 a.task, .int .i64 a.kind, .string a.var]) (.agg #[.int .i64 b.task, .int .i64 b.kind, .string b.var])).run Tryd.prog w = .ok (accEq a b) w := by
  rw [show (10000 : Nat) = 9999 + 1 from rfl, run_equalIn_agg (P := Tryd.prog) w 9999 55 _ _ (by kernel_rfl) (by kernel_rfl)]
  unfold Program.fieldsOf
  rw [Tryd.underlying55]
  have e1 : ∀ x y : ByteArray, (Op.equalIn 9999 9 (.string x) (.string y)).run Tryd.prog w = .ok (x.toList == y.toList) w := fun x y => run_equalIn_string (P := Tryd.prog) w 9998 9 x y (by kernel_rfl)
  have e2 : ∀ x y : Int, (Op.equalIn 9999 3 (.int .i64 x) (.int .i64 y)).run Tryd.prog w = .ok (x == y) w := fun x y => run_equalIn_int (P := Tryd.prog) w 9998 3 .i64 .i64 x y (by kernel_rfl)
  have e3 : ∀ x y : Int, (Op.equalIn 9999 53 (.int .i64 x) (.int .i64 y)).run Tryd.prog w = .ok (x == y) w := fun x y => run_equalIn_int (P := Tryd.prog) w 9998 53 .i64 .i64 x y (by kernel_rfl)
  have p1 := fun (xs : Array Value) (off : Nat) (v : Value) (h : xs[off]? = some v) => run_part_plain (P := Tryd.prog) w (e := 3) (by kernel_rfl) h
  have p2 := fun (xs : Array Value) (off : Nat) (v : Value) (h : xs[off]? = some v) => run_part_plain (P := Tryd.prog) w (e := 53) (by kernel_rfl) h
  have p3 := fun (xs : Array Value) (off : Nat) (v : Value) (h : xs[off]? = some v) => run_part_plain (P := Tryd.prog) w (e := 9) (by kernel_rfl) h
  simp only [Op.eqFields, accEq, Sem.run_bind, Sem.run_ite, ne_eq, if_true, String.reduceEq, not_false_eq_true, p1 #[Value.int IntKind.i64 a.task, Value.int IntKind.i64 a.kind, Value.string a.var] 0 (Value.int IntKind.i64 a.task) rfl, p1 #[Value.int IntKind.i64 b.task, Value.int IntKind.i64 b.kind, Value.string b.var] 0 (Value.int IntKind.i64 b.task) rfl,
    p2 #[Value.int IntKind.i64 a.task, Value.int IntKind.i64 a.kind, Value.string a.var] 1 (Value.int IntKind.i64 a.kind) rfl, p2 #[Value.int IntKind.i64 b.task, Value.int IntKind.i64 b.kind, Value.string b.var] 1 (Value.int IntKind.i64 b.kind) rfl,
    p3 #[Value.int IntKind.i64 a.task, Value.int IntKind.i64 a.kind, Value.string a.var] 2 (Value.string a.var) rfl, p3 #[Value.int IntKind.i64 b.task, Value.int IntKind.i64 b.kind, Value.string b.var] 2 (Value.string b.var) rfl, e1, e2, e3, Result.andThen_ok, Sem.run_pure]
  cases h1 : a.task == b.task <;> cases h2 : a.kind == b.kind <;> cases h3 : a.var.toList == b.var.toList <;> simp

theorem run_neq_acc (a b : Acc) (w : World) : (binOp .neq 55 (.agg #[.int .i64 a.task, .int .i64 a.kind, .string a.var]) (.agg #[.int .i64 b.task, .int .i64 b.kind, .string b.var])).run Tryd.prog w = .ok (.bool (!accEq a b)) w := by
  rw [run_neq_struct, run_equal_acc]
  rfl

theorem run_guard_acc (x y : Operand) (xs ys : Array Value) (w : World) : (eqGuard .neq 55 x y (.agg xs) (.agg ys)).run Tryd.prog w = .ok () w :=
  run_eqGuard_agg w .neq 55 x y xs ys (by kernel_rfl)

set_option maxRecDepth 100000 in
set_option maxHeartbeats 1000000 in
theorem same_any (w : World) (v1 v2 : Value) (l1 l2 : List Acc) (h1 : AccAt w v1 l1) (h2 : AccAt w v2 l2) :
    Calls Tryd.prog 43 #[v1, v2] w fun e w' => ∃ b, e = .returned (.bool b) ∧ (b = true ↔ l1 = l2) ∧ Below w.heap.size w w' := by
  have HL1 := Lib.hid h1
  have HL2 := Lib.hid h2
  obtain ⟨A1, cap1, rfl, hcap1, hcm1, _⟩ := h1
  obtain ⟨A2, cap2, rfl, hcap2, hcm2, _⟩ := h2
  by_cases hlen : l1.length = l2.length
  · have hlen' : ((l1.length : Int) != (l2.length : Int)) = false := by simp [hlen]
    have HLen := Lib.hid hlen
    clear hlen
    go_enter Tryd.func43, Tryd.ntmps43
    go_wp2
    go_loopw [5] (fun u wr => ∃ k : Nat, k ≤ l1.length ∧ u = .int .i64 k ∧ Below w.heap.size w wr ∧ ∀ j, j < k → l1[j]? = l2[j]?) (fun u _ => l1.length - (intOf u).toNat)
    case atStart => exact ⟨0, Nat.zero_le _, rfl, Below.refl _ _, fun j hj => absurd hj (by omega)⟩
    case round =>
      obtain ⟨k, hk, rfl, hb, hsame⟩ := hrel
      by_cases hlt : k < l1.length
      · have hlt2 : k < l2.length := by have := HLen.out; omega
        obtain ⟨b1, o1, rfl, hcs⟩ := (HL1.out.below hb).elem hlt
        obtain ⟨b2, o2, rfl, hds⟩ := (HL2.out.below hb).elem hlt2
        have hc0 := hcs 0 _ rfl
        have hc1 := hcs 1 _ rfl
        have hc2 := hcs 2 _ rfl
        have hd0 := hds 0 _ rfl
        have hd1 := hds 1 _ rfl
        have hd2 := hds 2 _ rfl
        rw [Nat.add_zero] at hc0 hd0
        have e1 : l1[k]? = some l1[k] := List.getElem?_eq_getElem hlt
        have e2 : l2[k]? = some l2[k] := List.getElem?_eq_getElem hlt2
        have hneq := run_neq_acc l1[k] l2[k]
        have hguard := run_guard_acc
        have hiff := accEq_iff l1[k] l2[k]
        generalize ea : l1[k] = a at *
        generalize eb : l2[k] = b at *
        have HS := Lib.hid (And.intro hsame (And.intro e1 (And.intro e2 hb)))
        have HI := Lib.hid hiff
        clear hcs hds hsame e1 e2 hb ea eb hiff
        cases hq : accEq a b
        · rw [hq] at hneq
          go_wp2_with fail
          go_quiet (fail)
          go_wp2
          go_ret
          refine ⟨false, rfl, ⟨fun h => (nomatch h), fun h => ?_⟩, bl_drew HS.out.2.2.2 _⟩
          have h3 := HS.out.2.1
          rw [h, HS.out.2.2.1] at h3
          have h4 := HI.out.2 (Option.some.inj h3).symm
          rw [hq] at h4
          cases h4
        · rw [hq] at hneq
          go_wp2_with fail
          go_quiet (fail)
          go_wp2
          go_roundw
          case rel =>
            refine ⟨k + 1, by omega, by go_num, bl_drew HS.out.2.2.2 _, fun j hj => ?_⟩
            by_cases e : j = k
            · subst e; rw [HS.out.2.1, HS.out.2.2.1, HI.out.1 hq]
            · exact HS.out.1 j (by omega)
          case measure => simp [intOf]; omega
      · have HS := Lib.hid hsame
        clear hsame
        go_wp2
        go_ret
        refine ⟨true, rfl, ⟨fun _ => ?_, fun _ => rfl⟩, hb⟩
        refine List.ext_getElem? fun j => ?_
        by_cases hj : j < k
        · exact HS.out j hj
        · rw [List.getElem?_eq_none_iff.2 (by omega), List.getElem?_eq_none_iff.2 (by have := HLen.out; omega)]
  · have hlen' : ((l1.length : Int) != (l2.length : Int)) = true := by simp; omega
    have HLen := Lib.hid hlen
    clear hlen
    go_enter Tryd.func43, Tryd.ntmps43
    go_wp2
    go_ret
    exact ⟨false, rfl, ⟨fun h => (nomatch h), fun h => absurd (by rw [h]) HLen.out⟩, Below.refl _ _⟩
end Go.Proofs.YtahklchfchjmcaaDoor
