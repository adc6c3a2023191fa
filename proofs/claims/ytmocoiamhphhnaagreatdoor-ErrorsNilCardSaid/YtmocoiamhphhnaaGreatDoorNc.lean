/- A byte of a string. -/
import Derived.Test.YtmocoiamhphhnaaGreatDoorNb
namespace Go.Proofs.YtmocoiamhphhnaaGreatDoor
set_option linter.unusedVariables false
set_option linter.unusedSimpArgs false
open Go.RowKit Go.MapKept

theorem index_str {s : ByteArray} {k : Nat} {x : UInt8} (hx : s.data.toList[k]? = some x) (W : World) : (Instr.index 9 (.string s) (.int .i64 (k : Int))).run Tryz.prog W = .ok (.int .u8 (x.toNat : Int)) W := by
  have hk : k < s.data.toList.length := (List.getElem?_eq_some_iff.1 hx).1
  have hs : k < s.size := by rw [Lib.size_eq]; exact hk
  rw [run_index_string W 9 s .i64 k (by kernel_rfl), dif_pos ⟨by omega, by omega⟩]
  have e : s[k]'hs = x := by
    have h := (List.getElem?_eq_some_iff.1 hx).2
    rw [← h]
    rfl
  show Result.ok (Value.int IntKind.u8 (((s[k]'hs).toNat : Nat) : Int)) W = _
  rw [e]

end Go.Proofs.YtmocoiamhphhnaaGreatDoor
