/- A slice of calls that reads as one, with its bytes; a configuration; bytes. -/
import Derived.Test.YtgjbnebmcmoilaaGreatDoorRx
import Derived.Test.YtgjbnebmcmoilaaGreatDoorVg
namespace Go.Proofs.YtgjbnebmcmoilaaGreatDoor
set_option linter.unusedVariables false
set_option linter.unusedSimpArgs false
open Go.ChangeShapes Go.WideShapes Go.ChangeAt Go.RowKit Go.Deep
theorem nsl_of_cells2 {α : Type} [Inhabited α] {cells : α → List Value} {sz : Nat} {W : World} {a : Addr} {len cap : Nat} (hsz : 0 < sz) (hcells : ∀ x, (cells x).length = sz) (hle : len ≤ cap) (hcap : cap ≤ maxLen)
    {Q : α → Prop} (h : ∀ i, i < len → ∃ x : α, Q x ∧ ∀ j u, (cells x)[j]? = some u → W.cell? (a.add (i * sz + j)) = some u) : ∃ l, SlAt sz cells W (.slice (some a) len cap) l ∧ ∀ x ∈ l, Q x := by
  obtain ⟨f, hf⟩ := choose_lt h
  refine ⟨(List.range len).map f, ?_, fun x hx => by
    obtain ⟨i, hi, rfl⟩ := List.mem_map.1 hx
    exact (hf i (List.mem_range.1 hi)).1⟩
  have hf := fun i hi => (hf i hi).2
  refine ⟨some a, cap, by simp, by simpa using hle, by unfold maxLen at hcap; omega, fun h0 => ?_⟩
  have hl0 : 0 < len := by simpa using h0
  obtain ⟨b, off, spot⟩ := a
  have hspot : spot = none := by
    have hc := hcells (f 0)
    have h1 := hf 0 hl0 0 ((cells (f 0))[0]'(by omega)) (List.getElem?_eq_getElem (by omega))
    rw [Nat.zero_mul, Nat.zero_add] at h1
    unfold Addr.add World.cell? at h1
    rw [if_pos rfl] at h1
    cases spot with
    | none => rfl
    | some s =>
      dsimp only at h1
      split at h1
      · simp at h1
      · cases h1
  subst hspot
  refine ⟨b, off, rfl, fun i hi j u hu => ?_⟩
  have hi' : i < len := by simpa using hi
  have e : ((List.range len).map f)[i] = f i := by simp
  rw [e] at hu
  have h1 := hf i hi' j u hu
  have hadd : (⟨b, off, none⟩ : Addr).add (i * sz + j) = ⟨b, off + i * sz + j, none⟩ := by
    unfold Addr.add
    split
    · rename_i h0; rw [Nat.add_assoc, h0]; rfl
    · rw [Nat.add_assoc]
  rw [← hadd]
  exact h1
theorem wf_u8_of {n : Int} (h : (Lit.int .u8 n).wf = true) : 0 ≤ n ∧ n ≤ 255 := by
  simp only [Lit.wf, Bool.and_eq_true, decide_eq_true_eq] at h
  have h1 : IntKind.u8.min = 0 := by decide
  have h2 : IntKind.u8.max = 255 := by decide
  omega

set_option maxRecDepth 100000 in
instance : Inhabited JC := ⟨⟨0, 0, ⟨#[]⟩, ⟨#[]⟩, ⟨#[]⟩, none, 0, 0, []⟩⟩
theorem bytes_of_trod {H : Type} {enc : TypeId × Value → H} {W : World} {base : Nat} {sp : Nat → Bool} {held : Bool} {fuel : Nat} {u : Value} {y : DataW H × List MemPlace} (hf : DataW.trod enc Tryz.prog W base sp held fuel 31 [u] = some y) : ∃ A n c d, u = .slice A n c ∧ BAt W (.slice A n c) d := by
  rcases open_slice Tryz.underlying31 hf with ⟨hcs, _⟩ | ⟨a', len', cap', m, n, D, Pl, hcs, hb, hle, hcap, hm, _, hi⟩
  · exact ⟨none, 0, 0, [], by simpa using hcs, SlAt.nil 0 none (by omega)⟩
  · obtain ⟨l, hl, _⟩ : ∃ l : Bs, SlAt 1 byteCells W (.slice (some a') len' cap') l ∧ ∀ x ∈ l, True := nsl_of_cells2 (sz := 1) (by decide) (fun _ => rfl) hle hcap fun i hil => by
      have hml : len' ≤ m := by rw [hm]; split <;> omega
      obtain ⟨cs', hc, ht'⟩ := hi i (by omega)
      rw [show Tryz.prog.cellsOf 5 = 1 by kernel_rfl] at hc
      obtain ⟨x, rfl, _, hw⟩ := DataW.trod_int (k := .u8) (by kernel_rfl) ht'
      have hx := wf_u8_of hw
      obtain ⟨_, _, hat⟩ := World.cells?_some hc
      refine ⟨UInt8.ofNat x.toNat, trivial, fun j u hu => ?_⟩
      match j, hu with
      | 0, hu =>
        cases hu
        have h0 := hat 0 (by omega)
        rw [Go.Deep.add_add] at h0
        rw [h0]
        show some (Value.int .u8 x) = some (byteV (UInt8.ofNat x.toNat))
        rw [byte_of x (by omega) (by omega)]
    exact ⟨_, _, _, l, by simpa using hcs, hl⟩
theorem list_of_six {cs : List Value} {a0 a1 a2 a3 a4 a5 : Value} (hl : cs.length = 6) (h0 : cs[0]? = some a0) (h1 : cs[1]? = some a1) (h2 : cs[2]? = some a2) (h3 : cs[3]? = some a3) (h4 : cs[4]? = some a4) (h5 : cs[5]? = some a5) : cs = [a0, a1, a2, a3, a4, a5] := by
  match cs, hl with
  | [b0, b1, b2, b3, b4, b5], _ => simp_all
set_option maxRecDepth 100000 in
theorem call_cellsd {H : Type} {enc : TypeId × Value → H} {W : World} {base : Nat} {sp : Nat → Bool} {held : Bool} {fuel : Nat} {cs : List Value} {y : DataW H × List MemPlace} (hf : DataW.trod enc Tryz.prog W base sp held fuel 40 cs = some y) :
    ∃ (o q : Int) (k t j : ByteArray) (A : Option Addr) (n c : Nat) (d : Bs), cs = [.int .i64 o, .string k, .string t, .string j, .int .i64 q, .slice A n c] ∧ BAt W (.slice A n c) d := by
  obtain ⟨xs, m, _, _, hlen, hxl, hfd⟩ := DataW.trod_struct Tryz.underlying40 hf
  have hlen6 : cs.length = 6 := by rw [hlen]; kernel_rfl
  have hx6 : xs.length = 6 := hxl
  obtain ⟨u0, y0, a0, b0⟩ := field_one (by kernel_rfl) (by omega) (by rw [hlen6]; decide) (hfd 0 _ rfl)
  obtain ⟨u1, y1, a1, b1⟩ := field_one (by kernel_rfl) (by omega) (by rw [hlen6]; decide) (hfd 1 _ rfl)
  obtain ⟨u2, y2, a2, b2⟩ := field_one (by kernel_rfl) (by omega) (by rw [hlen6]; decide) (hfd 2 _ rfl)
  obtain ⟨u3, y3, a3, b3⟩ := field_one (by kernel_rfl) (by omega) (by rw [hlen6]; decide) (hfd 3 _ rfl)
  obtain ⟨u4, y4, a4, b4⟩ := field_one (by kernel_rfl) (by omega) (by rw [hlen6]; decide) (hfd 4 _ rfl)
  obtain ⟨u5, y5, a5, b5⟩ := field_one (by kernel_rfl) (by omega) (by rw [hlen6]; decide) (hfd 5 _ rfl)
  obtain ⟨o, ho, _, _⟩ := DataW.trod_int Tryz.underlying38 b0
  obtain ⟨k, hk, _, _⟩ := DataW.trod_string Tryz.underlying9 b1
  obtain ⟨t, ht, _, _⟩ := DataW.trod_string Tryz.underlying9 b2
  obtain ⟨j, hj, _, _⟩ := DataW.trod_string Tryz.underlying9 b3
  obtain ⟨q, hq, _, _⟩ := DataW.trod_int Tryz.underlying3 b4
  obtain ⟨A, n, c, d, hA, hbat⟩ := bytes_of_trod b5
  refine ⟨o, q, k, t, j, A, n, c, d, ?_, hbat⟩
  have ho' : u0 = .int .i64 o := by simpa using ho
  have hk' : u1 = .string k := by simpa using hk
  have ht' : u2 = .string t := by simpa using ht
  have hj' : u3 = .string j := by simpa using hj
  have hq' : u4 = .int .i64 q := by simpa using hq
  subst ho' hk' ht' hj' hq' hA
  exact list_of_six hlen6 a0 a1 a2 a3 a4 a5
set_option maxRecDepth 100000 in
theorem open_callsd {H : Type} {enc : TypeId × Value → H} {W : World} {base : Nat} {r : Reach} {v : Value} {d : DataW H} {p : List MemPlace} (hv : Value.okWide Tryz.prog W r base 30 v) (h : DataW.Trod enc Tryz.prog W 0 (fun _ => true) true 30 v d p) : ∃ l : List JC, JSl W v l ∧ ∀ x ∈ l, ArgC W x := by
  obtain ⟨a, len, cap, rfl⟩ := okWide_slice Tryz.underlying30 hv
  obtain ⟨fuel, hf⟩ := h
  rcases open_slice Tryz.underlying30 hf with ⟨hcs, _⟩ | ⟨a', len', cap', m, n, D, Pl, hcs, hb, hle, hcap, hm, _, hi⟩
  · obtain ⟨rfl, rfl, rfl⟩ : a = none ∧ len = 0 ∧ cap = 0 := by simpa [Value.cells] using hcs
    exact ⟨[], SlAt.nil 0 none (by omega), fun x hx => (by cases hx)⟩
  · obtain ⟨rfl, rfl, rfl⟩ : a = some a' ∧ len = len' ∧ cap = cap' := by simpa [Value.cells] using hcs
    refine nsl_of_cells2 (sz := 6) (by decide) (fun _ => rfl) hle hcap fun i hil => ?_
    obtain ⟨cs', hc, ht'⟩ := hi i (by rw [hm]; simp; omega)
    rw [show Tryz.prog.cellsOf 40 = 6 by kernel_rfl] at hc
    obtain ⟨o, q, k, t, j, A, n', c, d, rfl, hbat⟩ := call_cellsd ht'
    obtain ⟨_, _, hat⟩ := World.cells?_some hc
    refine ⟨⟨o, q, k, t, j, A, n', c, d⟩, ⟨hbat, fun a ha h0 => ?_⟩, fun jj u hu => ?_⟩
    · dsimp only at ha h0
      subst ha
      exact bat_lt hbat h0
    · have hj6 : jj < 6 := by
        have h6 := (List.getElem?_eq_some_iff.1 hu).1
        exact h6
      have h0 := hat jj hj6
      rw [Go.Deep.add_add] at h0
      rw [h0]
      exact hu
set_option maxRecDepth 100000 in
theorem open_bytes {H : Type} {enc : TypeId × Value → H} {W : World} {base : Nat} {r : Reach} {v : Value} {d : DataW H} {p : List MemPlace} (hv : Value.okWide Tryz.prog W r base 31 v) (h : DataW.Trod enc Tryz.prog W 0 (fun _ => true) true 31 v d p) : ∃ l : Bs, BAt W v l := by
  obtain ⟨a, len, cap, rfl⟩ := okWide_slice Tryz.underlying31 hv
  obtain ⟨fuel, hf⟩ := h
  obtain ⟨A, n, c, l, e, hb⟩ := bytes_of_trod (u := .slice a len cap) hf
  exact ⟨l, by rw [e]; exact hb⟩
set_option maxRecDepth 100000 in
theorem open_nconf {H : Type} {enc : TypeId × Value → H} {W : World} {base : Nat} {r : Reach} {v : Value} {d : DataW H} {p : List MemPlace} (hv : Value.okWide Tryz.prog W r base 28 v) (h : DataW.Trod enc Tryz.prog W 0 (fun _ => true) true 28 v d p) :
    ∃ a b c d : Int, v = .agg #[.int .i64 a, .int .i64 b, .int .i64 c, .int .i64 d] := by
  obtain ⟨cs, rfl, hsz⟩ := okWide_struct Tryz.underlying28 hv
  obtain ⟨fuel, hf⟩ := h
  obtain ⟨xs, m, _, _, hlen, hxl, hfd⟩ := DataW.trod_struct Tryz.underlying28 hf
  have hsz4 : cs.size = 4 := by rw [hsz]; kernel_rfl
  have hlen4 : (Value.agg cs).cells.toList.length = 4 := by rw [hlen]; kernel_rfl
  have hx4 : xs.length = 4 := hxl
  obtain ⟨u0, y0, a0, b0⟩ := field_one (by kernel_rfl) (by omega) (by rw [hlen4]; decide) (hfd 0 _ rfl)
  obtain ⟨u1, y1, a1, b1⟩ := field_one (by kernel_rfl) (by omega) (by rw [hlen4]; decide) (hfd 1 _ rfl)
  obtain ⟨u2, y2, a2, b2⟩ := field_one (by kernel_rfl) (by omega) (by rw [hlen4]; decide) (hfd 2 _ rfl)
  obtain ⟨u3, y3, a3, b3⟩ := field_one (by kernel_rfl) (by omega) (by rw [hlen4]; decide) (hfd 3 _ rfl)
  obtain ⟨s, hs, _, _⟩ := DataW.trod_int Tryz.underlying3 b0
  obtain ⟨k, hk, _, _⟩ := DataW.trod_int Tryz.underlying3 b1
  obtain ⟨t, ht, _, _⟩ := DataW.trod_int Tryz.underlying3 b2
  obtain ⟨q, hq, _, _⟩ := DataW.trod_int Tryz.underlying3 b3
  refine ⟨s, k, t, q, ?_⟩
  have hs' : u0 = .int .i64 s := by simpa using hs
  have hk' : u1 = .int .i64 k := by simpa using hk
  have ht' : u2 = .int .i64 t := by simpa using ht
  have hq' : u3 = .int .i64 q := by simpa using hq
  subst hs' hk' ht' hq'
  obtain ⟨l⟩ := cs
  have hl : l.length = 4 := hsz4
  match l, hl with
  | [x0, x1, x2, x3], _ =>
    have e0 : x0 = .int .i64 s := by simpa [Value.cells] using a0
    have e1 : x1 = .int .i64 k := by simpa [Value.cells] using a1
    have e2 : x2 = .int .i64 t := by simpa [Value.cells] using a2
    have e3 : x3 = .int .i64 q := by simpa [Value.cells] using a3
    subst e0 e1 e2 e3
    rfl
end Go.Proofs.YtgjbnebmcmoilaaGreatDoor
