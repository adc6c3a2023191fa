/- From a row's conditions to what chapter 24's walks ask; a world that meets the conditions (printed by wip/genEx.py). -/
import Derived.Test.YtmocoiamhphhnaaGreatDoorCards
import Derived.Test.YtmocoiamhphhnaaGreatDoorTie
import Derived.Test.YtmocoiamhphhnaaGreatDoorEw
import Derived.WalkKit
import Derived.ProofKit
import Derived.OpenShut
import Derived.Deep.DeepHandedRow
import Derived.Deep.Slices
import Derived.Deep.Strs
import Derived.ChangeSame
import Derived.Lib.LaidTab
namespace Go.Proofs.YtmocoiamhphhnaaGreatDoor
set_option linter.unusedVariables false
set_option linter.unusedSimpArgs false
open Go.ChangeShapes Go.WideShapes Go.ChangeAt Go.RowKit Go.Deep

theorem nown : ownKnob Tryz.prog.godebug = none := by kernel_rfl
theorem nlaidOut : laidOutB Tryz.prog = true := by kernel_rfl
theorem max_of_shaped {W : World} (h : W.ShapedOpen Tryz.prog) : MaxIs W :=
  Go.Proofs.cell_of_shapedOpen_int (zero := #[.int .i64 0]) (t := 3) h (of_decide_eq_true (by kernel_rfl)) (by kernel_rfl) rfl (by kernel_rfl) (by kernel_rfl) Tryz.underlying3

/-- An array of strings that reads as the list holds it, cell for cell. -/
theorem cells_of_strs {H : Type} {enc : TypeId × Value → H} {P : Program} {w : World} {base : Nat} {sp : Nat → Bool} {held : Bool} {fuel : Nat} {t e : TypeId} {n : Nat} {cs : List Value} {zs : List (List UInt8)} {p : List MemPlace}
    (ht : P.underlying t = some (.array n e)) (he : P.underlying e = some .string) (hce : P.cellsOf e = 1) (hct : P.cellsOf t = n)
    (h : DataW.trod enc P w base sp held fuel t cs = some (.agg (zs.map fun z => .lit (.string z)), p)) : cs = zs.map fun z => Value.string ⟨z.toArray⟩ := by
  cases fuel with
  | zero => simp [DataW.trod] at h
  | succ fuel =>
    simp only [DataW.trod, ht, hce, hct, Nat.mul_one] at h
    split at h
    · rename_i hl
      obtain ⟨xs, hm, hx⟩ := Option.map_eq_some_iff.1 h
      have hxs : xs.map (·.1) = zs.map fun z => (DataW.lit (.string z) : DataW H) := by
        have := congrArg Prod.fst hx
        simpa using this
      have hxl : xs.length = n := by simpa using Go.Lib.mapM_length hm
      have hzl : zs.length = n := by
        have := congrArg List.length hxs
        simp at this
        omega
      apply List.ext_getElem?
      intro i
      by_cases hi : i < n
      · obtain ⟨b, hb, hf⟩ := Go.Lib.mapM_at hm i i (by simp [hi])
        obtain ⟨z, hc, rfl, _⟩ := DataW.trod_string he hf
        have h1 : cs[i]? = some (.string z) := by
          have := congrArg (·[0]?) hc
          simpa [List.getElem?_take, List.getElem?_drop] using this
        have h2 : (xs.map (·.1))[i]? = some (DataW.lit (.string z.data.toList) : DataW H) := by simp [hb]
        rw [hxs] at h2
        simp only [List.getElem?_map, Option.map_eq_some_iff, DataW.lit.injEq, Lit.string.injEq] at h2
        obtain ⟨z', hz', hz2⟩ := h2
        simp [h1, hz', hz2]
      · rw [List.getElem?_eq_none (by omega), List.getElem?_eq_none (by simp; omega)]
    · cases h

theorem cell_of_var {W : World} {name : String} {g : Nat} {cs : Array Value} (hg : Tryz.prog.globalNamed name = some g) (hv : W.var? Tryz.prog name = some cs) {i : Nat} {v : Value} (hi : cs[i]? = some v) : W.cell? ⟨g, i, none⟩ = some v := by
  unfold World.var? at hv
  rw [hg] at hv
  simp only [Option.bind_some] at hv
  unfold World.cell?
  dsimp only
  split at hv
  · rename_i cs' t' f' hh
    injection hv with hv
    subst hv
    rw [hh]
    simpa using hi
  · cases hv

def partsZ : List (List UInt8) := [[], [107, 105, 113], [107, 105, 113], [107, 105], [107], [107], [107, 111, 105], [107, 111], [100], [], [], []]
def wordsZ : List (List UInt8) := [[111, 107], [110, 105, 108], [97, 114, 103, 117, 109, 101, 110, 116], [114, 97, 110, 103, 101], [115, 104, 111, 114, 116], [108, 111, 110, 103], [102, 111, 114, 109, 97, 116], [102, 117, 108, 108], [115, 116, 97, 116, 101], [110, 111, 110, 101], [99, 104, 101, 99, 107], [98, 117, 115, 121], [109, 97, 108, 102, 111, 114, 109, 101, 100], [116, 111, 111, 32, 109, 97, 110, 121], [113, 117, 97, 110, 116, 105, 116, 121], [101, 120, 104, 97, 117, 115, 116, 101, 100], [99, 108, 111, 115, 101, 100], [101, 110, 100]]
set_option maxRecDepth 100000 in
theorem env_of_laid {W : World} (h : laidMetH Tryz.prog Rows.errorsWordsRow.laid W) (hm : MaxIs W) : Env W ∧ WordsAt W := by
  have h' : laidMet Tryz.prog [("unicode/utf8.acceptRanges", Rows.laid_unicode_utf8_acceptRanges), ("pannier/hash.small", Rows.laid_pannier_hash_small), ("pannier/errors.parts", Rows.laid_pannier_errors_parts), ("pannier/errors.words", Rows.laid_pannier_errors_words), ("unicode/utf8.first", Rows.laid_unicode_utf8_first)] W := h
  obtain ⟨ps, ⟨_, _, _, _, _, _, _, _, _, _, ⟨g1, t1, cs1, fuel1, p1, q1, hg1, ht1, hv1, hd1, ⟨g2, t2, cs2, fuel2, p2, q2, hg2, ht2, hv2, hd2, ⟨g3, t3, cs3, fuel3, p3, q3, hg3, ht3, hv3, hd3, _, _⟩, _⟩, _⟩, _⟩, _⟩ := h'
  obtain rfl := Option.some.inj ((show Tryz.prog.globalNamed "pannier/hash.small" = some 5 by kernel_rfl).symm.trans hg1)
  obtain rfl := Option.some.inj ((show (Tryz.prog.globals[5]?).map (·.type) = some 354 by kernel_rfl).symm.trans ht1)
  obtain rfl := Option.some.inj ((show Tryz.prog.globalNamed "pannier/errors.parts" = some 1 by kernel_rfl).symm.trans hg2)
  obtain rfl := Option.some.inj ((show (Tryz.prog.globals[1]?).map (·.type) = some 86 by kernel_rfl).symm.trans ht2)
  obtain rfl := Option.some.inj ((show Tryz.prog.globalNamed "pannier/errors.words" = some 0 by kernel_rfl).symm.trans hg3)
  obtain rfl := Option.some.inj ((show (Tryz.prog.globals[0]?).map (·.type) = some 41 by kernel_rfl).symm.trans ht3)
  have e1 : DataW.trod (fun _ => ()) Tryz.prog W 0 (fun _ => true) false fuel1 354 cs1.toList = some (Lib.tabData .u32 [2166136261, 16777619], p1) := hd1
  have e2 : DataW.trod (fun _ => ()) Tryz.prog W 0 (fun _ => true) false fuel2 86 cs2.toList = some (.agg (partsZ.map fun z => .lit (.string z)), p2) := hd2
  have e3 : DataW.trod (fun _ => ()) Tryz.prog W 0 (fun _ => true) false fuel3 41 cs3.toList = some (.agg (wordsZ.map fun z => .lit (.string z)), p3) := hd3
  have c1 := Lib.cells_of_tab Tryz.underlying354 (by kernel_rfl) (by kernel_rfl) (by kernel_rfl) e1
  have c2 := cells_of_strs Tryz.underlying86 (by kernel_rfl) (by kernel_rfl) (by kernel_rfl) e2
  have c3 := cells_of_strs Tryz.underlying41 (by kernel_rfl) (by kernel_rfl) (by kernel_rfl) e3
  have f1 : ∀ i : Nat, cs1[i]? = ([Value.int .u32 2166136261, Value.int .u32 16777619] : List Value)[i]? := fun i => by rw [← Array.getElem?_toList, c1]; rfl
  have f2 : ∀ i : Nat, cs2[i]? = (partsL.map Value.string)[i]? := fun i => by rw [← Array.getElem?_toList, c2]; rfl
  have f3 : ∀ i : Nat, cs3[i]? = (wordsL.map Value.string)[i]? := fun i => by rw [← Array.getElem?_toList, c3]; rfl
  refine ⟨⟨hm, fun i s hs => cell_of_var hg2 hv2 (by rw [f2]; simp [hs]), cell_of_var hg1 hv1 (by rw [f1]; rfl), cell_of_var hg1 hv1 (by rw [f1]; rfl)⟩, fun k hk => cell_of_var hg3 hv3 ?_⟩
  rw [f3]
  match k, hk with
  | 0, _ => rfl
  | 1, _ => rfl
  | 2, _ => rfl
  | 3, _ => rfl
  | 4, _ => rfl
  | 5, _ => rfl
  | 6, _ => rfl
  | 7, _ => rfl
  | 8, _ => rfl
  | 9, _ => rfl
  | 10, _ => rfl
  | 11, _ => rfl
  | 12, _ => rfl
  | 13, _ => rfl
  | 14, _ => rfl
  | 15, _ => rfl
  | 16, _ => rfl
  | 17, _ => rfl
  | k + 18, hk => omega

/-- A call's six fields. -/
theorem field_one {H : Type} {enc : TypeId × Value → H} {P : Program} {w : World} {base : Nat} {sp : Nat → Bool} {held : Bool} {m ft off i : Nat} {cs : List Value} {xs : List (DataW H × List MemPlace)} (hc : P.cellsOf ft = 1) (hi : i < xs.length) (ho : off < cs.length)
    (h : DataW.trod enc P w base sp held m ft ((cs.drop off).take (P.cellsOf ft)) = xs[i]?) : ∃ u y, cs[off]? = some u ∧ DataW.trod enc P w base sp held m ft [u] = some y := by
  rw [hc, List.getElem?_eq_getElem hi, List.drop_eq_getElem_cons ho] at h
  exact ⟨cs[off], _, List.getElem?_eq_getElem ho, h⟩
set_option maxRecDepth 100000 in
theorem open_call {H : Type} {enc : TypeId × Value → H} {W : World} {base : Nat} {r : Reach} {v : Value} {d : DataW H} {p : List MemPlace} (hv : Value.okWide Tryz.prog W r base 29 v) (h : DataW.Trod enc Tryz.prog W 0 (fun _ => true) true 29 v d p) :
    ∃ (o q : Int) (k t j : ByteArray) (A : Option Addr) (n c : Nat), v = .agg #[.int .i64 o, .string k, .string t, .string j, .int .i64 q, .slice A n c] := by
  obtain ⟨cs, rfl, hsz⟩ := okWide_struct Tryz.underlying29 hv
  obtain ⟨fuel, hf⟩ := h
  obtain ⟨xs, m, _, _, hlen, hxl, hfd⟩ := DataW.trod_struct Tryz.underlying29 hf
  have hsz6 : cs.size = 6 := by rw [hsz]; kernel_rfl
  have hlen6 : (Value.agg cs).cells.toList.length = 6 := by rw [hlen]; kernel_rfl
  have hx6 : xs.length = 6 := hxl
  obtain ⟨u0, y0, a0, b0⟩ := field_one (by kernel_rfl) (by omega) (by rw [hlen6]; decide) (hfd 0 _ rfl)
  obtain ⟨u1, y1, a1, b1⟩ := field_one (by kernel_rfl) (by omega) (by rw [hlen6]; decide) (hfd 1 _ rfl)
  obtain ⟨u2, y2, a2, b2⟩ := field_one (by kernel_rfl) (by omega) (by rw [hlen6]; decide) (hfd 2 _ rfl)
  obtain ⟨u3, y3, a3, b3⟩ := field_one (by kernel_rfl) (by omega) (by rw [hlen6]; decide) (hfd 3 _ rfl)
  obtain ⟨u4, y4, a4, b4⟩ := field_one (by kernel_rfl) (by omega) (by rw [hlen6]; decide) (hfd 4 _ rfl)
  obtain ⟨u5, y5, a5, b5⟩ := field_one (by kernel_rfl) (by omega) (by rw [hlen6]; decide) (hfd 5 _ rfl)
  obtain ⟨o, ho, _, _⟩ := DataW.trod_int Tryz.underlying26 b0
  obtain ⟨k, hk, _, _⟩ := DataW.trod_string Tryz.underlying9 b1
  obtain ⟨t, ht, _, _⟩ := DataW.trod_string Tryz.underlying9 b2
  obtain ⟨j, hj, _, _⟩ := DataW.trod_string Tryz.underlying9 b3
  obtain ⟨q, hq, _, _⟩ := DataW.trod_int Tryz.underlying3 b4
  obtain ⟨A, n, c, hA⟩ : ∃ (A : Option Addr) (n c : Nat), u5 = .slice A n c := by
    rcases open_slice Tryz.underlying27 b5 with ⟨h0, _⟩ | ⟨a', len', cap', _, _, _, _, h0, _⟩
    · exact ⟨none, 0, 0, by simpa using h0⟩
    · exact ⟨some a', len', cap', by simpa using h0⟩
  refine ⟨o, q, k, t, j, A, n, c, ?_⟩
  have ho' : u0 = .int .i64 o := by simpa using ho
  have hk' : u1 = .string k := by simpa using hk
  have ht' : u2 = .string t := by simpa using ht
  have hj' : u3 = .string j := by simpa using hj
  have hq' : u4 = .int .i64 q := by simpa using hq
  subst ho' hk' ht' hj' hq' hA
  congr 1
  have e : ∀ i : Nat, (Value.agg cs).cells.toList[i]? = cs[i]? := fun i => by simp [Value.cells]
  apply Array.ext
  · simpa using hsz6
  · intro i h1 h2
    have h3 : i < 6 := by omega
    have q0 := (e 0).symm.trans a0
    have q1 := (e 1).symm.trans a1
    have q2 := (e 2).symm.trans a2
    have q3 := (e 3).symm.trans a3
    have q4 := (e 4).symm.trans a4
    have q5 := (e 5).symm.trans a5
    apply Option.some.inj
    rw [← Array.getElem?_eq_getElem h1, ← Array.getElem?_eq_getElem h2]
    match i, h3 with
    | 0, _ => exact q0
    | 1, _ => exact q1
    | 2, _ => exact q2
    | 3, _ => exact q3
    | 4, _ => exact q4
    | 5, _ => exact q5

/-- A world for the witness: the settled one, the listed variables laid. -/
noncomputable def nlaidWorld (os : Os) : World :=
  let w0 := World.holding Tryz.prog os ⟨#[], #[], []⟩
  let put := fun (w : World) (g : Nat) (vs : Array Value) => { w with heap := w.heap.modify g fun
      | .cells _ t frozen => .cells vs t frozen
      | o => o }
  put (put (put (put (put w0 3 (Go.Pinned.utf8FirstZ.map fun z : Nat => Value.int .u8 (z : Int)).toArray) 4 (([128, 191, 160, 191, 128, 159, 144, 191, 128, 143, 0, 0, 0, 0, 0, 0, 0, 0, 0, 0, 0, 0, 0, 0, 0, 0, 0, 0, 0, 0, 0, 0] : List Int).map fun z => Value.int .u8 z).toArray) 5 #[.int .u32 2166136261, .int .u32 16777619]) 1 (partsL.map Value.string).toArray) 0 (wordsL.map Value.string).toArray

end Go.Proofs.YtmocoiamhphhnaaGreatDoor

