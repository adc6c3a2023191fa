/- From LoadMakes' conditions to what its walk asks. -/
import Derived.Test.YtecnchmcdbcofaaGreatDoorRx
import Derived.Test.YtecnchmcdbcofaaGreatDoorUo
import Derived.Test.YtecnchmcdbcofaaGreatDoorMkp
namespace Go.Proofs.YtecnchmcdbcofaaGreatDoor
set_option linter.unusedVariables false
set_option linter.unusedSimpArgs false
open Go.ChangeShapes Go.WideShapes Go.ChangeAt Go.RowKit Go.Deep
set_option maxRecDepth 100000 in
theorem open_load {H : Type} {enc : TypeId × Value → H} {W : World} {base : Nat} {r : Reach} {v : Value} {d : DataW H} {p : List MemPlace} (hv : Value.okWide Tryz.prog W r base 57 v) (h : DataW.Trod enc Tryz.prog W 0 (fun _ => true) true 57 v d p) :
    ∃ c : LC, v = .agg c.arr := by
  obtain ⟨cs, rfl, hsz⟩ := okWide_struct Tryz.underlying57 hv
  obtain ⟨fuel, hf⟩ := h
  obtain ⟨xs, m, _, _, hlen, hxl, hfd⟩ := DataW.trod_struct Tryz.underlying57 hf
  have hsz4 : cs.size = 4 := by rw [hsz]; kernel_rfl
  have hlen4 : (Value.agg cs).cells.toList.length = 4 := by rw [hlen]; kernel_rfl
  have hx4 : xs.length = 4 := hxl
  obtain ⟨u0, y0, a0, b0⟩ := field_one (by kernel_rfl) (by omega) (by rw [hlen4]; decide) (hfd 0 _ rfl)
  obtain ⟨u1, y1, a1, b1⟩ := field_one (by kernel_rfl) (by omega) (by rw [hlen4]; decide) (hfd 1 _ rfl)
  obtain ⟨u2, y2, a2, b2⟩ := field_one (by kernel_rfl) (by omega) (by rw [hlen4]; decide) (hfd 2 _ rfl)
  obtain ⟨u3, y3, a3, b3⟩ := field_one (by kernel_rfl) (by omega) (by rw [hlen4]; decide) (hfd 3 _ rfl)
  obtain ⟨s, hs, _, _⟩ := DataW.trod_int Tryz.underlying55 b0
  obtain ⟨k, hk, _, _⟩ := DataW.trod_int Tryz.underlying3 b1
  obtain ⟨t, ht, _, _⟩ := DataW.trod_int Tryz.underlying3 b2
  obtain ⟨q, hq, _, _⟩ := DataW.trod_int Tryz.underlying3 b3
  refine ⟨⟨s, k, t, q⟩, ?_⟩
  have hs' : u0 = .int .u64 s := by simpa using hs
  have hk' : u1 = .int .i64 k := by simpa using hk
  have ht' : u2 = .int .i64 t := by simpa using ht
  have hq' : u3 = .int .i64 q := by simpa using hq
  subst hs' hk' ht' hq'
  obtain ⟨l⟩ := cs
  have hl : l.length = 4 := hsz4
  match l, hl with
  | [x0, x1, x2, x3], _ =>
    have e0 : x0 = .int .u64 s := by simpa [Value.cells] using a0
    have e1 : x1 = .int .i64 k := by simpa [Value.cells] using a1
    have e2 : x2 = .int .i64 t := by simpa [Value.cells] using a2
    have e3 : x3 = .int .i64 q := by simpa [Value.cells] using a3
    subst e0 e1 e2 e3
    rfl
def EnvT (W : World) : Prop := Env W ∧ Tab W
theorem laid_mem {P : Program} {w : World} : ∀ {laid : List (String × DataW Unit)} {ps : List MemPlace}, DataW.LaidVars P w laid ps → ∀ x ∈ laid, ∃ g t cs fuel p, P.globalNamed x.1 = some g ∧ (P.globals[g]?).map (·.type) = some t ∧ w.var? P x.1 = some cs ∧ DataW.trod (fun _ => ()) P w 0 (fun _ => true) false fuel t cs.toList = some (x.2, p)
  | [], _, _ => fun x hx => by cases hx
  | y :: laid, ps, h => by
    obtain ⟨g, t, cs, fuel, p, q, h1, h2, h3, h4, h5, h6⟩ := h
    intro x hx
    rcases List.mem_cons.1 hx with rfl | hx
    · exact ⟨g, t, cs, fuel, p, h1, h2, h3, h4⟩
    · exact laid_mem h5 x hx
theorem tab_of_laid {W : World} {laid : List (String × DataW Unit)} (h : laidMet Tryz.prog laid W) (hm : ("internal/strconv.uint64pow10", Rows.laid_internal_strconv_uint64pow10) ∈ laid) : Tab W := by
  obtain ⟨ps, hv, _⟩ := h
  obtain ⟨g, t, cs, fuel, p, hg', ht', hvar, hd⟩ := laid_mem hv _ hm
  obtain rfl := Option.some.inj ((show Tryz.prog.globalNamed "internal/strconv.uint64pow10" = some 3 by kernel_rfl).symm.trans hg')
  obtain rfl := Option.some.inj ((show (Tryz.prog.globals[3]?).map (·.type) = some 394 by kernel_rfl).symm.trans ht')
  have hd' : DataW.trod (fun _ => ()) Tryz.prog W 0 (fun _ => true) false fuel 394 cs.toList = some (Lib.tabData .u64 Lib.pow10Tab, p) := hd
  unfold Tab Lib.TabIs
  rw [hvar, ← Lib.cells_of_tab Tryz.underlying394 (by kernel_rfl) (by kernel_rfl) (by kernel_rfl) hd']
theorem envt_of {W : World} {laid : List (String × DataW Unit)} (h : laidMet Tryz.prog laid W) (hsh : W.ShapedOpen Tryz.prog) (h1 : ("pannier/hash.small", Rows.laid_pannier_hash_small) ∈ laid) (h2 : ("pannier/client.rows", Rows.laid_pannier_client_rows) ∈ laid) (hm : ("internal/strconv.uint64pow10", Rows.laid_internal_strconv_uint64pow10) ∈ laid) : EnvT W :=
  ⟨env_of h hsh h1 h2, tab_of_laid h hm⟩
theorem loadMakes_row (c : LC) (few many : Int) (W : World) (wf : (Lit.int .u8 few).wf = true) (hE : EnvT W) :
    Calls Tryz.prog 8 #[.agg c.arr, .int .u8 few, .int .i64 many] W fun e w' => e = .returned (.bool true) ∧ RowKit.Below W.heap.size W w' :=
  loadMakes_any c few many W (by have h0 : IntKind.u8.min = 0 := rfl; simp [Lit.wf] at wf; omega) hE.1 hE.2
end Go.Proofs.YtecnchmcdbcofaaGreatDoor
