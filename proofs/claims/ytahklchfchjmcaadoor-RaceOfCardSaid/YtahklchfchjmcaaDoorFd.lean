/- Slices of steps among the arguments. -/
import Derived.Test.YtahklchfchjmcaaDoorFr
import Derived.Test.YtahklchfchjmcaaDoorOf
namespace Go.Proofs.YtahklchfchjmcaaDoor
set_option linter.unusedVariables false
set_option linter.unusedSimpArgs false
open Go.ChangeShapes Go.WideShapes Go.ChangeAt Go.RowKit Go.Deep

section
variable {H : Type} {enc : TypeId × Value → H} {P : Program} {w : World} {base : Nat} {spare : Nat → Bool} {held : Bool} {fuel : Nat} {t : TypeId} {c : Value}
theorem one_int {x : DataW H × List MemPlace} (ht : P.underlying t = some (.int .i64)) (h : DataW.trod enc P w base spare held fuel t [c] = some x) : ∃ n, c = .int .i64 n := by
  obtain ⟨n, e, _⟩ := DataW.trod_int ht h
  exact ⟨n, by simpa using e⟩
theorem one_str {x : DataW H × List MemPlace} (ht : P.underlying t = some .string) (h : DataW.trod enc P w base spare held fuel t [c] = some x) : ∃ s, c = .string s := by
  obtain ⟨n, e, _⟩ := DataW.trod_string ht h
  exact ⟨n, by simpa using e⟩
theorem one_bool {x : DataW H × List MemPlace} (ht : P.underlying t = some .bool) (h : DataW.trod enc P w base spare held fuel t [c] = some x) : ∃ s, c = .bool s := by
  obtain ⟨n, e, _⟩ := DataW.trod_bool ht h
  exact ⟨n, by simpa using e⟩
theorem one_sl {x : DataW H × List MemPlace} (ht0 : (match P.underlying t with | some (.slice _) => true | _ => false) = true) (h : DataW.trod enc P w base spare held fuel t [c] = some x) : c.oneCell' = true := by
  obtain ⟨e, ht⟩ : ∃ e, P.underlying t = some (.slice e) := by
    split at ht0
    · rename_i e he; exact ⟨e, he⟩
    · cases ht0
  rcases open_slice ht h with ⟨hcs, _⟩ | ⟨a', len', cap', m, n, D, Pl, hcs, _⟩
  · have e1 : c = .slice none 0 0 := by simpa using hcs
    rw [e1]; rfl
  · have e1 : c = .slice (some a') len' cap' := by simpa using hcs
    rw [e1]; rfl
theorem fld {ys : List (DataW H × List MemPlace)} {j : Nat} {r : Option (DataW H × List MemPlace)} (h : r = ys[j]?) (hj : j < ys.length) : ∃ x, r = some x := ⟨_, h.trans (List.getElem?_eq_getElem hj)⟩
end
instance : Inhabited Dd := ⟨⟨0, 0, 0, false, 0, .bool false, .bool false, .bool false, .bool false, .bool false, .bool false, .bool false, .bool false, .bool false, .bool false, .bool false, .bool false, .bool false⟩⟩

set_option maxRecDepth 100000 in
theorem open_did {H : Type} {enc : TypeId × Value → H} {W : World} {fuel : Nat} {cs : List Value} {x : DataW H × List MemPlace} (hlen : cs.length = 18) (h : DataW.trod enc Tryd.prog W 0 (fun _ => true) true fuel 52 cs = some x) :
    ∃ d : Dd, cs = d.cells ∧ d.One := by
  match cs, hlen with
  | [c0, c1, c2, c3, c4, c5, c6, c7, c8, c9, c10, c11, c12, c13, c14, c15, c16, c17], _ =>
    obtain ⟨ys, n', hn', hy, hl, hyl, hf⟩ := DataW.trod_struct Tryd.underlying52 h
    have hyl' : ys.length = 9 := hyl
    obtain ⟨x0, g0⟩ := fld (hf 0 _ rfl) (by omega)
    obtain ⟨x1, g1⟩ := fld (hf 1 _ rfl) (by omega)
    obtain ⟨x2, g2⟩ := fld (hf 2 _ rfl) (by omega)
    obtain ⟨x3, g3⟩ := fld (hf 3 _ rfl) (by omega)
    obtain ⟨x4, g4⟩ := fld (hf 4 _ rfl) (by omega)
    obtain ⟨x5, g5⟩ := fld (hf 5 _ rfl) (by omega)
    obtain ⟨x6, g6⟩ := fld (hf 6 _ rfl) (by omega)
    obtain ⟨x7, g7⟩ := fld (hf 7 _ rfl) (by omega)
    obtain ⟨x8, g8⟩ := fld (hf 8 _ rfl) (by omega)
    obtain ⟨zs, m', _, _, _, hzl, hg⟩ := DataW.trod_struct Tryd.underlying46 (show DataW.trod enc Tryd.prog W 0 (fun _ => true) true n' 46 [c7, c8, c9, c10, c11, c12] = some x7 from g7)
    obtain ⟨us, q', _, _, _, hul, hk⟩ := DataW.trod_struct Tryd.underlying50 (show DataW.trod enc Tryd.prog W 0 (fun _ => true) true n' 50 [c13, c14, c15, c16, c17] = some x8 from g8)
    have hzl' : zs.length = 6 := hzl
    have hul' : us.length = 5 := hul
    obtain ⟨p0, e0⟩ := fld (hg 0 _ rfl) (by omega)
    obtain ⟨p1, e1⟩ := fld (hg 1 _ rfl) (by omega)
    obtain ⟨p2, e2⟩ := fld (hg 2 _ rfl) (by omega)
    obtain ⟨p3, e3⟩ := fld (hg 3 _ rfl) (by omega)
    obtain ⟨p4, e4⟩ := fld (hg 4 _ rfl) (by omega)
    obtain ⟨p5, e5⟩ := fld (hg 5 _ rfl) (by omega)
    obtain ⟨s0, f0⟩ := fld (hk 0 _ rfl) (by omega)
    obtain ⟨s1, f1⟩ := fld (hk 1 _ rfl) (by omega)
    obtain ⟨s2, f2⟩ := fld (hk 2 _ rfl) (by omega)
    obtain ⟨s3, f3⟩ := fld (hk 3 _ rfl) (by omega)
    obtain ⟨s4, f4⟩ := fld (hk 4 _ rfl) (by omega)
    obtain ⟨v0, rfl⟩ := one_int (by kernel_rfl) (show DataW.trod enc Tryd.prog W 0 (fun _ => true) true n' _ [c0] = some x0 from g0)
    obtain ⟨v1, rfl⟩ := one_int (by kernel_rfl) (show DataW.trod enc Tryd.prog W 0 (fun _ => true) true n' _ [c1] = some x1 from g1)
    obtain ⟨v2, rfl⟩ := one_int (by kernel_rfl) (show DataW.trod enc Tryd.prog W 0 (fun _ => true) true n' _ [c2] = some x2 from g2)
    obtain ⟨v3, rfl⟩ := one_bool (by kernel_rfl) (show DataW.trod enc Tryd.prog W 0 (fun _ => true) true n' _ [c3] = some x3 from g3)
    obtain ⟨v4, rfl⟩ := one_int (by kernel_rfl) (show DataW.trod enc Tryd.prog W 0 (fun _ => true) true n' _ [c4] = some x4 from g4)
    have v5 : c5.oneCell' = true := one_sl (by kernel_rfl) (show DataW.trod enc Tryd.prog W 0 (fun _ => true) true n' _ [c5] = some x5 from g5)
    obtain ⟨v6, rfl⟩ := one_bool (by kernel_rfl) (show DataW.trod enc Tryd.prog W 0 (fun _ => true) true n' _ [c6] = some x6 from g6)
    obtain ⟨v7, rfl⟩ := one_int (by kernel_rfl) (show DataW.trod enc Tryd.prog W 0 (fun _ => true) true m' _ [c7] = some p0 from e0)
    obtain ⟨v8, rfl⟩ := one_str (by kernel_rfl) (show DataW.trod enc Tryd.prog W 0 (fun _ => true) true m' _ [c8] = some p1 from e1)
    obtain ⟨v9, rfl⟩ := one_str (by kernel_rfl) (show DataW.trod enc Tryd.prog W 0 (fun _ => true) true m' _ [c9] = some p2 from e2)
    obtain ⟨v10, rfl⟩ := one_str (by kernel_rfl) (show DataW.trod enc Tryd.prog W 0 (fun _ => true) true m' _ [c10] = some p3 from e3)
    obtain ⟨v11, rfl⟩ := one_int (by kernel_rfl) (show DataW.trod enc Tryd.prog W 0 (fun _ => true) true m' _ [c11] = some p4 from e4)
    have v12 : c12.oneCell' = true := one_sl (by kernel_rfl) (show DataW.trod enc Tryd.prog W 0 (fun _ => true) true m' _ [c12] = some p5 from e5)
    obtain ⟨v13, rfl⟩ := one_int (by kernel_rfl) (show DataW.trod enc Tryd.prog W 0 (fun _ => true) true q' _ [c13] = some s0 from f0)
    obtain ⟨v14, rfl⟩ := one_int (by kernel_rfl) (show DataW.trod enc Tryd.prog W 0 (fun _ => true) true q' _ [c14] = some s1 from f1)
    obtain ⟨v15, rfl⟩ := one_int (by kernel_rfl) (show DataW.trod enc Tryd.prog W 0 (fun _ => true) true q' _ [c15] = some s2 from f2)
    have v16 : c16.oneCell' = true := one_sl (by kernel_rfl) (show DataW.trod enc Tryd.prog W 0 (fun _ => true) true q' _ [c16] = some s3 from f3)
    have v17 : c17.oneCell' = true := one_sl (by kernel_rfl) (show DataW.trod enc Tryd.prog W 0 (fun _ => true) true q' _ [c17] = some s4 from f4)
    refine ⟨⟨v0, v1, v2, v3, v4, c5, .bool v6, .int .i64 v7, .string v8, .string v9, .string v10, .int .i64 v11, c12, .int .i64 v13, .int .i64 v14, .int .i64 v15, c16, c17⟩, rfl, ?_⟩
    simp only [Dd.One, List.forall_mem_cons]
    exact ⟨v5, rfl, rfl, rfl, rfl, rfl, rfl, v12, rfl, rfl, rfl, v16, v17, fun _ h => (by simp at h)⟩

instance : Inhabited { d : Dd // d.One } := ⟨⟨default, by simp [Dd.One, default]; simp [Value.oneCell']⟩⟩

set_option maxRecDepth 100000 in
theorem open_dids {H : Type} {enc : TypeId × Value → H} {W : World} {base : Nat} {r : Reach} {v : Value} {d : DataW H} {p : List MemPlace} (hv : Value.okWide Tryd.prog W r base 22 v) (h : DataW.Trod enc Tryd.prog W 0 (fun _ => true) true 22 v d p) : ∃ l, DdAt W v l ∧ ∀ d ∈ l, d.One := by
  obtain ⟨a, len, cap, rfl⟩ := okWide_slice Tryd.underlying22 hv
  obtain ⟨fuel, hf⟩ := h
  rcases open_slice Tryd.underlying22 hf with ⟨hcs, _⟩ | ⟨a', len', cap', m, n, D, Pl, hcs, hb, hle, hcap, hm, _, hi⟩
  · obtain ⟨rfl, rfl, rfl⟩ : a = none ∧ len = 0 ∧ cap = 0 := by simpa [Value.cells] using hcs
    exact ⟨[], SlAt.nil 0 none (by omega), fun d hd => (by simp at hd)⟩
  · obtain ⟨rfl, rfl, rfl⟩ : a = some a' ∧ len = len' ∧ cap = cap' := by simpa [Value.cells] using hcs
    obtain ⟨l, hl⟩ := sl_of_cells (cells := fun x : { d : Dd // d.One } => x.val.cells) (sz := 18) (W := W) (a := a') (len := len) (cap := cap) (by omega) (fun _ => rfl) hle hcap (fun i hil => by
      obtain ⟨cs', hc, ht'⟩ := hi i (by rw [hm]; simp; omega)
      rw [show Tryd.prog.cellsOf 52 = 18 by kernel_rfl] at hc
      obtain ⟨_, hcl, hat⟩ := World.cells?_some hc
      obtain ⟨d, rfl, hone⟩ := open_did hcl ht'
      refine ⟨⟨d, hone⟩, fun j u hu => ?_⟩
      have hj : j < 18 := (List.getElem?_eq_some_iff.1 hu).1
      have h0 := hat j hj
      rw [Go.Deep.add_add] at h0
      rw [h0]
      exact hu)
    refine ⟨l.map (·.val), ?_, fun d hd => ?_⟩
    · obtain ⟨A, c, e, h1, h2, h3⟩ := hl
      injection e with e1 e2 e3
      subst e1; subst e3
      refine ⟨some a', cap, by rw [List.length_map, ← e2], by simpa using h1, h2, fun h0 => ?_⟩
      obtain ⟨b, off, e4, h4⟩ := h3 (by simpa using h0)
      exact ⟨b, off, e4, fun i hi' j u hu => h4 i (by simpa using hi') j u (by simpa using hu)⟩
    · obtain ⟨y, _, rfl⟩ := List.mem_map.1 hd
      exact y.property
end Go.Proofs.YtahklchfchjmcaaDoor