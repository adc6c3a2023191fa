/- The calls of a source: plain law. -/
import Derived.Test.YtecnchmcdbcofaaGreatDoorChecked
import Derived.Lib.ItoaLen
import Derived.Lib.ItoaNum
namespace Go.Proofs.YtecnchmcdbcofaaGreatDoor
set_option linter.unusedVariables false
set_option linter.unusedSimpArgs false

def itoaB (n : Int) : ByteArray := ⟨(Go.Lib.itoa n).toArray⟩
theorem itoaB_size (n : Int) (h0 : -9223372036854775808 ≤ n) (h1 : n ≤ 9223372036854775807) : (itoaB n).size ≤ 21 := by
  have := Lib.itoa_length_le n h0 h1
  simpa [itoaB, ByteArray.size] using this
theorem itoaB_small (d : Nat) (h : d < 10) : itoaB d = ⟨#[UInt8.ofNat (48 + d)]⟩ := by
  have : d = 0 ∨ d = 1 ∨ d = 2 ∨ d = 3 ∨ d = 4 ∨ d = 5 ∨ d = 6 ∨ d = 7 ∨ d = 8 ∨ d = 9 := by omega
  rcases this with rfl | rfl | rfl | rfl | rfl | rfl | rfl | rfl | rfl | rfl <;> decide +kernel
theorem itoaB_big (n : Nat) (h : ¬ n < 10) : itoaB n = itoaB ((n / 10 : Nat) : Int) ++ itoaB ((n % 10 : Nat) : Int) := by
  have e : ∀ k : Nat, itoaB (k : Int) = ⟨(Lib.decDigits k).toArray⟩ := fun k => by
    unfold itoaB Lib.itoa
    rw [if_neg (by omega), Int.toNat_natCast]
  rw [e, e, e, Lib.decDigits, dif_neg h, Lib.decDigits_one (i := n % 10) (by omega)]
  apply ByteArray.ext
  simp

/-- A call without data. -/
structure CV where
  op : Int
  key : ByteArray
  other : ByteArray
  item : ByteArray
  qty : Int
def CV.arr (c : CV) : Array Value := #[.int .i64 c.op, .string c.key, .string c.other, .string c.item, .int .i64 c.qty, .slice none 0 0]
def CV.cells (c : CV) : List Value := c.arr.toList

/-- A configuration of a source. -/
structure LC where
  seed : Int
  keys : Int
  items : Int
  reads : Int
def LC.arr (c : LC) : Array Value := #[.int .u64 c.seed, .int .i64 c.keys, .int .i64 c.items, .int .i64 c.reads]
structure LC.Ok (c : LC) : Prop where
  k1 : 1 ≤ c.keys
  k2 : c.keys ≤ 1000
  i1 : 1 ≤ c.items
  i2 : c.items ≤ 100
  r1 : 0 ≤ c.reads
  r2 : c.reads ≤ 1000

def lcg (s : Int) : Int := (6364136223846793005 * s + 1442695040888963407) % 18446744073709551616
def lcgs (s : Int) : Nat → Int
  | 0 => s
  | k + 1 => lcg (lcgs s k)
def numAt (s : Int) (k : Nat) : Int := lcgs s (k + 1) / 8589934592
theorem lcg_bound (s : Int) : 0 ≤ lcg s ∧ lcg s < 18446744073709551616 := by unfold lcg; omega
theorem lcgs_bound (s : Int) (k : Nat) : 0 ≤ lcgs s (k + 1) ∧ lcgs s (k + 1) < 18446744073709551616 := lcg_bound _
theorem numAt_bound (s : Int) (k : Nat) : 0 ≤ numAt s k ∧ numAt s k ≤ 2147483647 := by
  have := lcgs_bound s k
  unfold numAt
  omega

def keyNo (c : LC) (s : Int) : Int := (numAt s 1 % c.keys) % (numAt s 2 % c.keys + 1)
def itemNo (c : LC) (s : Int) : Int := numAt s 3 % c.items
theorem keyNo_bound {c : LC} (h : c.Ok) (s : Int) : 0 ≤ keyNo c s ∧ keyNo c s < 1000 := by
  have h1 := h.k1
  have h2 := h.k2
  have a := Int.emod_nonneg (numAt s 2) (show c.keys ≠ 0 by omega)
  have b := Int.emod_lt_of_pos (numAt s 2) (show 0 < c.keys by omega)
  have a1 := Int.emod_nonneg (numAt s 1 % c.keys) (show numAt s 2 % c.keys + 1 ≠ 0 by omega)
  have b1 := Int.emod_lt_of_pos (numAt s 1 % c.keys) (show 0 < numAt s 2 % c.keys + 1 by omega)
  unfold keyNo
  omega
theorem itemNo_bound {c : LC} (h : c.Ok) (s : Int) : 0 ≤ itemNo c s ∧ itemNo c s < 1000 := by
  have h1 := h.i1
  have h2 := h.i2
  have a := Int.emod_nonneg (numAt s 3) (show c.items ≠ 0 by omega)
  have b := Int.emod_lt_of_pos (numAt s 3) (show 0 < c.items by omega)
  unfold itemNo
  omega

def noB : ByteArray := ⟨#[]⟩
def keyB (c : LC) (s : Int) : ByteArray := ⟨#[107]⟩ ++ itoaB (keyNo c s)
def otherB (c : LC) (s : Int) : ByteArray := ⟨#[119]⟩ ++ itoaB (keyNo c s)
def itemB (c : LC) (s : Int) : ByteArray := ⟨#[105]⟩ ++ itoaB (itemNo c s)
def qtyOf (s : Int) : Int := numAt s 4 % 9 + 1
/-- The next call of a source whose state is s. -/
def nextF (c : LC) (s : Int) : CV :=
  if numAt s 0 % 1000 < c.reads then ⟨4, keyB c s, noB, noB, 0⟩
  else if numAt s 5 % 10 ≤ 4 then ⟨1, keyB c s, noB, itemB c s, qtyOf s⟩
  else if numAt s 5 % 10 ≤ 6 then ⟨2, keyB c s, noB, itemB c s, qtyOf s⟩
  else if numAt s 5 % 10 = 7 then ⟨3, keyB c s, noB, itemB c s, 0⟩
  else if numAt s 5 % 10 = 8 then ⟨6, keyB c s, otherB c s, itemB c s, 0⟩
  else ⟨7, keyB c s, otherB c s, noB, 0⟩
def stateF (s : Int) : Int := lcgs s 6
def statesF (s : Int) : Nat → Int
  | 0 => s
  | k + 1 => stateF (statesF s k)
end Go.Proofs.YtecnchmcdbcofaaGreatDoor
