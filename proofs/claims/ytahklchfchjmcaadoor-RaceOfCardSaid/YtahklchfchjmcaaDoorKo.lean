/- Plain law: the accesses of the chapter's example of a trace. -/
import Derived.Test.YtahklchfchjmcaaDoorKp
import Derived.Test.YtahklchfchjmcaaDoorLd
namespace Go.Proofs.YtahklchfchjmcaaDoor
set_option linter.unusedVariables false

def knD (task step stripe next : Int) : Dd := ⟨task, step, stripe, false, next, .slice none 0 0, .bool false, .int .i64 0, .string ⟨#[]⟩, .string ⟨#[]⟩, .string ⟨#[]⟩, .int .i64 0, .slice none 0 0, .int .i64 0, .int .i64 0, .int .i64 0, .slice none 0 0, .slice none 0 0⟩
theorem knD_one (task step stripe next : Int) : (knD task step stripe next).One := by
  simp [knD, Dd.One]
  simp [Value.oneCell']
def knT : List Dd := [knD 2 1 (-1) (-1), knD 2 2 1 (-1), knD 2 3 (-1) (-1), knD 2 5 1 3]
theorem knT_one : ∀ d ∈ knT, d.One := by
  simp [knT, knD_one]
def lock1 : ByteArray := bytesOf [108, 111, 99, 107, 32, 49]
def stripe1 : ByteArray := bytesOf [115, 116, 114, 105, 112, 101, 32, 49]
def knA : List Acc := [⟨2, 3, nodeB⟩, ⟨2, 4, nodeB⟩, ⟨2, 3, lock1⟩, ⟨2, 1, stripe1⟩, ⟨2, 4, lock1⟩, ⟨3, 3, lock1⟩]
theorem knA_of : accF knT 4 = knA := by decide +kernel
theorem knT_of : OfIs knT 2 knA 0 := by
  unfold OfIs
  rw [if_neg (by decide), if_neg (by decide)]
  refine .inl ⟨?_, knA_of.symm, rfl⟩
  intro i d hi hd
  have hi' : i < 4 := hi
  match i, hi' with
  | 0, _ => cases hd; decide +kernel
  | 1, _ => cases hd; decide +kernel
  | 2, _ => cases hd; decide +kernel
  | 3, _ => cases hd; decide +kernel
end Go.Proofs.YtahklchfchjmcaaDoor
