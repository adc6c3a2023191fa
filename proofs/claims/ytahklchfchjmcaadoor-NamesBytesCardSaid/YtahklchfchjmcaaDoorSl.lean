/- Slices whose elements are plain structs, read as lists; clocks; small words on worlds. -/
import Derived.Test.YtahklchfchjmcaaDoorOp
import Derived.Test.YtahklchfchjmcaaDoorChecked
namespace Go.Proofs.YtahklchfchjmcaaDoor
set_option linter.unusedVariables false
set_option linter.unusedSimpArgs false
open Go.RowKit Go.MapKept

theorem cell_below {w w' : World} (hb : Below w.heap.size w w') {a : Addr} {v : Value} (h : w.cell? a = some v) : w'.cell? a = some v :=
  (hb.cell (World.block_lt_of_cell? w a h)).trans h

/-- Slice value v holds the elements l; element x is laid as 'cells x', sz cells. -/
def SlAt {α : Type} (sz : Nat) (cells : α → List Value) (w : World) (v : Value) (l : List α) : Prop :=
  ∃ A cap, v = .slice A l.length cap ∧ l.length ≤ cap ∧ cap ≤ 9223372036854775807 ∧
    (0 < l.length → ∃ b off, A = some ⟨b, off, none⟩ ∧ ∀ i (h : i < l.length) j u, (cells l[i])[j]? = some u → w.cell? ⟨b, off + i * sz + j, none⟩ = some u)

section
variable {α : Type} {sz : Nat} {cells : α → List Value} {w w' : World} {v : Value} {l : List α}

theorem SlAt.below (h : SlAt sz cells w v l) (hb : Below w.heap.size w w') : SlAt sz cells w' v l := by
  obtain ⟨A, cap, e, hl, hm, hc⟩ := h
  refine ⟨A, cap, e, hl, hm, fun h0 => ?_⟩
  obtain ⟨b, off, e, h1⟩ := hc h0
  exact ⟨b, off, e, fun i hi j u hu => cell_below hb (h1 i hi j u hu)⟩

/-- Kept where the cells that were there are kept. -/
theorem SlAt.keep (h : SlAt sz cells w v l) (hk : ∀ a u, w.cell? a = some u → w'.cell? a = some u) : SlAt sz cells w' v l := by
  obtain ⟨A, cap, e, hl, hm, hc⟩ := h
  refine ⟨A, cap, e, hl, hm, fun h0 => ?_⟩
  obtain ⟨b, off, e, h1⟩ := hc h0
  exact ⟨b, off, e, fun i hi j u hu => hk _ _ (h1 i hi j u hu)⟩

theorem SlAt.nil (cap : Nat) (A : Option Addr) (hc : cap ≤ 9223372036854775807) : SlAt sz cells w (.slice A 0 cap) ([] : List α) :=
  ⟨A, cap, rfl, Nat.zero_le _, hc, fun h => absurd h (by simp)⟩

theorem SlAt.elem {A : Option Addr} {n cap : Nat} (h : SlAt sz cells w (.slice A n cap) l) {k : Nat} (hk : k < l.length) :
    ∃ b off, A = some ⟨b, off, none⟩ ∧ ∀ j u, (cells l[k])[j]? = some u → w.cell? ⟨b, off + k * sz + j, none⟩ = some u := by
  obtain ⟨A', cap', e, hl, hm, hc⟩ := h
  injection e with e1 e2 e3
  subst e1; subst e2; subst e3
  obtain ⟨b, off, e, h1⟩ := hc (by omega)
  exact ⟨b, off, e, fun j u hu => h1 k hk j u hu⟩

theorem SlAt.take {A : Option Addr} {n cap : Nat} (h : SlAt sz cells w (.slice A n cap) l) {k : Nat} (hk : k ≤ n) : SlAt sz cells w (.slice A k cap) (l.take k) := by
  obtain ⟨A', cap', e, hl, hm, hc⟩ := h
  injection e with e1 e2 e3
  subst e1; subst e2; subst e3
  have hlen : (l.take k).length = k := by simp; omega
  refine ⟨A, cap, by rw [hlen], by rw [hlen]; omega, hm, fun h0 => ?_⟩
  rw [hlen] at h0
  obtain ⟨b, off, e, h1⟩ := hc (by omega)
  refine ⟨b, off, e, fun i hi j u hu => h1 i (by rw [hlen] at hi; omega) j u ?_⟩
  rw [List.getElem_take] at hu
  exact hu
end

/-- Where a law leaves the other blocks alone, their cells stand. -/
theorem cell_grown {w w' : World} {row : Option Nat} (hg : w.grownBy w' row) {a : Addr} {u : Value} (h : w.cell? a = some u) (hne : some a.block ≠ row) : w'.cell? a = some u := hg.cell h hne

theorem grownBy_trans {a b c : World} {row : Option Nat} (h : a.grownBy b row) (k : b.grownBy c row) : a.grownBy c row :=
  ⟨k.os.trans h.os, k.tape.trans h.tape, k.output.trans h.output, Nat.le_trans h.size k.size, fun i hi hne => (k.block i (Nat.lt_of_lt_of_le hi h.size) hne).trans (h.block i hi hne)⟩

theorem grownBy_new {a b c : World} {row : Option Nat} {j : Nat} (h : a.grownBy b row) (k : b.grownBy c (some j)) (hj : a.heap.size ≤ j) : a.grownBy c row :=
  ⟨k.os.trans h.os, k.tape.trans h.tape, k.output.trans h.output, Nat.le_trans h.size k.size, fun i hi hne => (k.block i (Nat.lt_of_lt_of_le hi h.size) (fun e => by injection e with e; omega)).trans (h.block i hi hne)⟩

theorem grownBy_none {a b : World} (h : a.grownBy b none) (row : Option Nat) : a.grownBy b row := ⟨h.os, h.tape, h.output, h.size, fun i hi _ => h.block i hi (by simp)⟩
theorem grownBy_refl (w : World) (row : Option Nat) : w.grownBy w row := ⟨rfl, rfl, rfl, Nat.le_refl _, fun _ _ _ => rfl⟩
theorem grownBy_below {a b : World} {row : Option Nat} (h : a.grownBy b row) {B : Nat} (hB : B ≤ a.heap.size) (hr : ∀ k, row = some k → B ≤ k) : Below B a b :=
  (Below.refl B a).grown h hB hr
theorem below_grownBy {a b : World} (h : Below a.heap.size a b) (row : Option Nat) : a.grownBy b row := ⟨h.os, h.tape, h.output, h.size, fun i hi _ => h.block i hi⟩

theorem IterAt.left_eq {κ : Type} {enc : κ → Value} {w : World} {r b n : Nat} {f : κ → Option Value} {left : κ → Prop} (h : IterAt enc w r b f left n) : w.rangeLeft b r = n := by
  obtain ⟨es, clock, since, seen, c0, hb, _, _, _, hr, _, _, _, hn, _⟩ := h
  simp only [World.rangeLeft, hb, hr]
  exact hn

/-- Block b holds the clock c: a map from tasks to counts, 0 where nothing is stored. -/
def ClkAt (w : World) (b : Nat) (c : Int → Int) : Prop :=
  ∃ f, MapAt ienc w b f ∧ ∀ t, (f t = none ∧ c t = 0) ∨ f t = some (.int .i64 (c t))

theorem ClkAt.keep {w w' : World} {b : Nat} {c : Int → Int} (h : ClkAt w b c) (hb : w'.heap[b]? = w.heap[b]?) : ClkAt w' b c := by
  obtain ⟨f, h1, h2⟩ := h
  exact ⟨f, h1.keep hb, h2⟩
theorem ClkAt.lt {w : World} {b : Nat} {c : Int → Int} (h : ClkAt w b c) : b < w.heap.size := by
  obtain ⟨f, h1, h2⟩ := h
  exact h1.lt
theorem ClkAt.below {w w' : World} {b : Nat} {c : Int → Int} (h : ClkAt w b c) (hb : Below w.heap.size w w') : ClkAt w' b c := h.keep (hb.block b h.lt)
theorem ClkAt.alloc {w : World} {b : Nat} {c : Int → Int} (h : ClkAt w b c) (o : Obj) : ClkAt (w.alloc o) b c := h.keep (Below.heap_alloc w o b h.lt)
theorem ClkAt.grown {w w' : World} {b : Nat} {c : Int → Int} {row : Option Nat} (h : ClkAt w b c) (hg : w.grownBy w' row) (hne : some b ≠ row) : ClkAt w' b c := h.keep (hg.block b h.lt hne)
theorem ClkAt.make (w : World) : ClkAt (w.alloc (.map #[] 0)) w.heap.size (fun _ => 0) := ⟨_, MapAt.make w, fun t => .inl ⟨rfl, rfl⟩⟩
theorem ClkAt.congr {w : World} {b : Nat} {c c' : Int → Int} (h : ClkAt w b c) (e : ∀ t, c t = c' t) : ClkAt w b c' := by
  have : c = c' := funext e
  exact this ▸ h

theorem mapTy_clock : MapTy Tryd.prog 94 (.int .i64) (.int .i64 0) := ⟨_, _, Tryd.underlying94, Tryd.underlying3, fun w => by kernel_rfl⟩

theorem ClkAt.lookup {w : World} {b : Nat} {c : Int → Int} (h : ClkAt w b c) (t : Int) : (Instr.lookup 94 (.map (some b)) (.int .i64 t) false).run Tryd.prog w = .ok (.int .i64 (c t)) w := by
  obtain ⟨f, h1, h2⟩ := h
  rw [h1.lookup ikey mapTy_clock t]
  rcases h2 t with ⟨e1, e2⟩ | e <;> simp [*]

theorem ClkAt.upd {w' : World} {b : Nat} {c : Int → Int} {f : Int → Option Value} (h2 : ∀ t, (f t = none ∧ c t = 0) ∨ f t = some (.int .i64 (c t))) (t n : Int) (h : MapAt ienc w' b (upd f t (.int .i64 n))) : ClkAt w' b (fun u => if u = t then n else c u) := by
  refine ⟨_, h, fun u => ?_⟩
  by_cases e : u = t
  · subst e; right; simp
  · rw [upd_ne _ _ e]; simp only [if_neg e]; exact h2 u

end Go.Proofs.YtahklchfchjmcaaDoor
