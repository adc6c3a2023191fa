/- From a row's conditions to what the walks ask; a world that meets the conditions. -/
import Derived.Test.YtgjbnebmcmoilaaGreatDoorCards
import Derived.Test.YtgjbnebmcmoilaaGreatDoorTie
import Derived.Test.YtgjbnebmcmoilaaGreatDoorAl
import Derived.WalkKit
import Derived.ProofKit
import Derived.OpenShut
import Derived.Deep.DeepHandedRow
import Derived.Deep.Slices
import Derived.Deep.Strs
import Derived.ChangeSame
import Derived.Lib.LaidTab
import Derived.Shelf.Vars
namespace Go.Proofs.YtgjbnebmcmoilaaGreatDoor
set_option linter.unusedVariables false
set_option linter.unusedSimpArgs false
open Go.ChangeShapes Go.WideShapes Go.ChangeAt Go.RowKit Go.Deep

theorem nown : ownKnob Tryz.prog.godebug = none := by kernel_rfl
theorem nlaidOut : laidOutB Tryz.prog = true := by kernel_rfl
theorem max_of_shaped {W : World} (h : W.ShapedOpen Tryz.prog) : ∃ m, W.cell? ⟨1, 0, none⟩ = some (.int .i64 m) :=
  Go.Proofs.cell_of_shapedOpen_int (zero := #[.int .i64 0]) (t := 3) h (of_decide_eq_true (by kernel_rfl)) (by kernel_rfl) rfl (by kernel_rfl) (by kernel_rfl) Tryz.underlying3
theorem ng_of_shaped {W : World} (h : W.ShapedOpen Tryz.prog) : gv.ng ≤ W.heap.size := by
  obtain ⟨o, o0, h1, _⟩ := h.2 Tryz.prog.globals.size (Nat.le_refl _) (of_decide_eq_true (by kernel_rfl))
  exact Nat.le_of_lt (Array.getElem?_eq_some_iff.1 h1).1
theorem env_of {W : World} {laid : List (String × DataW Unit)} (h : laidMet Tryz.prog laid W) (hsh : W.ShapedOpen Tryz.prog) (h1 : ("pannier/hash.small", Rows.laid_pannier_hash_small) ∈ laid) : Env W := by
  obtain ⟨m, hm⟩ := max_of_shaped hsh
  obtain ⟨ps, hv, _⟩ := h
  have hl := Ax.vars_of_laidVars hv
  refine ⟨m, ?_, ng_of_shaped hsh⟩
  intro p hp
  simp only [vars0, List.mem_cons, List.not_mem_nil, or_false] at hp
  rcases hp with rfl | rfl
  · exact hl _ (List.mem_filterMap.2 ⟨_, h1, by kernel_rfl⟩)
  · refine ⟨rfl, ?_⟩
    unfold World.cell? at hm
    show ∃ arr ty fr rest, W.heap[1]? = some (.cells arr ty fr) ∧ arr.toList = [Value.int .i64 m] ++ rest
    cases ho : W.heap[1]? with
    | none => simp [ho] at hm
    | some o =>
      cases o <;> simp [ho] at hm
      rename_i arr ty fr
      exact ⟨arr, ty, fr, arr.toList.drop 1, rfl, by
        obtain ⟨l⟩ := arr
        cases l with
        | nil => simp at hm
        | cons a l => simp at hm; subst hm; rfl⟩

theorem env1_of {W : World} {laid : List (String × DataW Unit)} (h : laidMet Tryz.prog laid W) (hsh : W.ShapedOpen Tryz.prog) (h1 : ("pannier/hash.small", Rows.laid_pannier_hash_small) ∈ laid) (h2 : ("pannier/client.rows", Rows.laid_pannier_client_rows) ∈ laid) : Env1 W := by
  obtain ⟨m, hm⟩ := max_of_shaped hsh
  obtain ⟨ps, hv, _⟩ := h
  have hl := Ax.vars_of_laidVars hv
  refine ⟨m, ?_, ng_of_shaped hsh⟩
  intro p hp
  simp only [vars, List.mem_cons, List.not_mem_nil, or_false] at hp
  rcases hp with rfl | rfl | rfl
  · exact hl _ (List.mem_filterMap.2 ⟨_, h1, by kernel_rfl⟩)
  · exact hl _ (List.mem_filterMap.2 ⟨_, h2, by kernel_rfl⟩)
  · refine ⟨rfl, ?_⟩
    unfold World.cell? at hm
    show ∃ arr ty fr rest, W.heap[1]? = some (.cells arr ty fr) ∧ arr.toList = [Value.int .i64 m] ++ rest
    cases ho : W.heap[1]? with
    | none => simp [ho] at hm
    | some o =>
      cases o <;> simp [ho] at hm
      rename_i arr ty fr
      exact ⟨arr, ty, fr, arr.toList.drop 1, rfl, by
        obtain ⟨l⟩ := arr
        cases l with
        | nil => simp at hm
        | cons a l => simp at hm; subst hm; rfl⟩

/-- A call's six fields. -/
theorem field_one {H : Type} {enc : TypeId × Value → H} {P : Program} {w : World} {base : Nat} {sp : Nat → Bool} {held : Bool} {m ft off i : Nat} {cs : List Value} {xs : List (DataW H × List MemPlace)} (hc : P.cellsOf ft = 1) (hi : i < xs.length) (ho : off < cs.length)
    (h : DataW.trod enc P w base sp held m ft ((cs.drop off).take (P.cellsOf ft)) = xs[i]?) : ∃ u y, cs[off]? = some u ∧ DataW.trod enc P w base sp held m ft [u] = some y := by
  rw [hc, List.getElem?_eq_getElem hi, List.drop_eq_getElem_cons ho] at h
  exact ⟨cs[off], _, List.getElem?_eq_getElem ho, h⟩
set_option maxRecDepth 100000 in
theorem open_call {H : Type} {enc : TypeId × Value → H} {W : World} {base : Nat} {r : Reach} {v : Value} {d : DataW H} {p : List MemPlace} (hv : Value.okWide Tryz.prog W r base 40 v) (h : DataW.Trod enc Tryz.prog W 0 (fun _ => true) true 40 v d p) :
    ∃ (o q : Int) (k t j : ByteArray) (A : Option Addr) (n c : Nat), v = .agg #[.int .i64 o, .string k, .string t, .string j, .int .i64 q, .slice A n c] := by
  obtain ⟨cs, rfl, hsz⟩ := okWide_struct Tryz.underlying40 hv
  obtain ⟨fuel, hf⟩ := h
  obtain ⟨xs, m, _, _, hlen, hxl, hfd⟩ := DataW.trod_struct Tryz.underlying40 hf
  have hsz6 : cs.size = 6 := by rw [hsz]; kernel_rfl
  have hlen6 : (Value.agg cs).cells.toList.length = 6 := by rw [hlen]; kernel_rfl
  have hx6 : xs.length = 6 := hxl
  obtain ⟨u0, y0, a0, b0⟩ := field_one (by kernel_rfl) (by omega) (by rw [hlen6]; decide) (hfd 0 _ rfl)
  obtain ⟨u1, y1, a1, b1⟩ := field_one (by kernel_rfl) (by omega) (by rw [hlen6]; decide) (hfd 1 _ rfl)
  obtain ⟨u2, y2, a2, b2⟩ := field_one (by kernel_rfl) (by omega) (by rw [hlen6]; decide) (hfd 2 _ rfl)
  obtain ⟨u3, y3, a3, b3⟩ := field_one (by kernel_rfl) (by omega) (by rw [hlen6]; decide) (hfd 3 _ rfl)
  obtain ⟨u4, y4, a4, b4⟩ := field_one (by kernel_rfl) (by omega) (by rw [hlen6]; decide) (hfd 4 _ rfl)
  obtain ⟨u5, y5, a5, b5⟩ := field_one (by kernel_rfl) (by omega) (by rw [hlen6]; decide) (hfd 5 _ rfl)
  obtain ⟨o, ho, _, _⟩ := DataW.trod_int Tryz.underlying38 b0
  obtain ⟨k, hk, _, _⟩ := DataW.trod_string Tryz.underlying9 b1
  obtain ⟨t, ht, _, _⟩ := DataW.trod_string Tryz.underlying9 b2
  obtain ⟨j, hj, _, _⟩ := DataW.trod_string Tryz.underlying9 b3
  obtain ⟨q, hq, _, _⟩ := DataW.trod_int Tryz.underlying3 b4
  obtain ⟨A, n, c, hA⟩ : ∃ (A : Option Addr) (n c : Nat), u5 = .slice A n c := by
    rcases open_slice Tryz.underlying31 b5 with ⟨h0, _⟩ | ⟨a', len', cap', _, _, _, _, h0, _⟩
    · exact ⟨none, 0, 0, by simpa using h0⟩
    · exact ⟨some a', len', cap', by simpa using h0⟩
  refine ⟨o, q, k, t, j, A, n, c, ?_⟩
  have ho' : u0 = .int .i64 o := by simpa using ho
  have hk' : u1 = .string k := by simpa using hk
  have ht' : u2 = .string t := by simpa using ht
  have hj' : u3 = .string j := by simpa using hj
  have hq' : u4 = .int .i64 q := by simpa using hq
  subst ho' hk' ht' hj' hq' hA
  congr 1
  have e : ∀ i : Nat, (Value.agg cs).cells.toList[i]? = cs[i]? := fun i => by simp [Value.cells]
  apply Array.ext
  · simpa using hsz6
  · intro i h1 h2
    have h3 : i < 6 := by omega
    have q0 := (e 0).symm.trans a0
    have q1 := (e 1).symm.trans a1
    have q2 := (e 2).symm.trans a2
    have q3 := (e 3).symm.trans a3
    have q4 := (e 4).symm.trans a4
    have q5 := (e 5).symm.trans a5
    apply Option.some.inj
    rw [← Array.getElem?_eq_getElem h1, ← Array.getElem?_eq_getElem h2]
    match i, h3 with
    | 0, _ => exact q0
    | 1, _ => exact q1
    | 2, _ => exact q2
    | 3, _ => exact q3
    | 4, _ => exact q4
    | 5, _ => exact q5

/-- A world for the witness: the settled one, the listed variables laid. -/
noncomputable def nlaidWorld (os : Os) : World :=
  let put := fun (w : World) (g : Nat) (vs : Array Value) => { w with heap := w.heap.modify g fun
      | .cells _ t frozen => .cells vs t frozen
      | o => o }
  let w0 := World.holding Tryz.prog os ⟨#[], #[], []⟩
  let w1 := put w0 3 (Go.Pinned.utf8FirstZ.map fun z : Nat => Value.int .u8 (z : Int)).toArray
  let w2 := put w1 4 #[.int .u8 128, .int .u8 191, .int .u8 160, .int .u8 191, .int .u8 128, .int .u8 159, .int .u8 144, .int .u8 191, .int .u8 128, .int .u8 143, .int .u8 0, .int .u8 0, .int .u8 0, .int .u8 0, .int .u8 0, .int .u8 0, .int .u8 0, .int .u8 0, .int .u8 0, .int .u8 0, .int .u8 0, .int .u8 0, .int .u8 0, .int .u8 0, .int .u8 0, .int .u8 0, .int .u8 0, .int .u8 0, .int .u8 0, .int .u8 0, .int .u8 0, .int .u8 0]
  let w3 := put w2 2 #[.int .u32 2166136261, .int .u32 16777619]
  let w4 := put w3 0 #[.string ⟨⟨[]⟩⟩, .string ⟨⟨[]⟩⟩, .string ⟨⟨[97, 100, 100]⟩⟩, .string ⟨⟨[107, 113, 105]⟩⟩, .string ⟨⟨[115, 101, 116]⟩⟩, .string ⟨⟨[107, 113, 105]⟩⟩, .string ⟨⟨[114, 101, 109, 111, 118, 101]⟩⟩, .string ⟨⟨[107, 105]⟩⟩, .string ⟨⟨[103, 101, 116]⟩⟩, .string ⟨⟨[107]⟩⟩, .string ⟨⟨[99, 108, 101, 97, 114]⟩⟩, .string ⟨⟨[107]⟩⟩, .string ⟨⟨[119, 105, 115, 104]⟩⟩, .string ⟨⟨[107, 111, 105]⟩⟩, .string ⟨⟨[108, 111, 103, 105, 110]⟩⟩, .string ⟨⟨[107, 111]⟩⟩, .string ⟨⟨[100, 101, 108, 105, 118, 101, 114]⟩⟩, .string ⟨⟨[100]⟩⟩, .string ⟨⟨[109, 101, 114, 103, 101]⟩⟩, .string ⟨⟨[]⟩⟩, .string ⟨⟨[100, 114, 97, 105, 110]⟩⟩, .string ⟨⟨[]⟩⟩, .string ⟨⟨[99, 108, 111, 115, 101]⟩⟩, .string ⟨⟨[]⟩⟩]
  w4
end Go.Proofs.YtgjbnebmcmoilaaGreatDoor
