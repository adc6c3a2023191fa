/- Touches in the heap: maps from variables to slices that the call owns. -/
import Derived.Test.YtahklchfchjmcaaDoorCk
import Derived.Deep.AppendLies
namespace Go.Proofs.YtahklchfchjmcaaDoor
set_option linter.unusedVariables false
set_option linter.unusedSimpArgs false
open Go.RowKit Go.MapKept

theorem flatMap_at {α : Type} (cells : α → List Value) (sz : Nat) (hsz : ∀ x, (cells x).length = sz) : ∀ (l : List α) (i : Nat) (h : i < l.length) (j : Nat), j < sz → (l.flatMap cells)[i * sz + j]? = (cells l[i])[j]?
  | [], i, h, _, _ => by simp at h
  | x :: r, 0, _, j, hj => by
    rw [List.flatMap_cons, List.getElem?_append_left (by rw [hsz]; omega)]
    simp
  | x :: r, i + 1, h, j, hj => by
    have := flatMap_at cells sz hsz r i (by simpa using h) j hj
    rw [List.flatMap_cons, List.getElem?_append_right (by rw [hsz, Nat.add_mul]; omega), hsz]
    have e : (i + 1) * sz + j - sz = i * sz + j := by rw [Nat.add_mul]; omega
    rw [e, this]
    simp

theorem slAt_of_own {α : Type} {cells : α → List Value} {w : World} {B e sz : Nat} {v : Value} {l : List α} (hsz : ∀ x, (cells x).length = sz) (h : w.ownsRow B e sz v l.length (l.flatMap cells)) : SlAt sz cells w v l := by
  rcases h.2 with ⟨rfl, h0⟩ | ⟨g, cap, cur, rfl, _, hb, hc, hm, hs, ht⟩
  · have : l = [] := List.eq_nil_of_length_eq_zero h0
    subst this
    exact SlAt.nil 0 none (by omega)
  · refine ⟨_, cap, rfl, hc, by simpa [maxLen] using hm, fun h0 => ⟨g, 0, rfl, fun i hi j u hu => ?_⟩⟩
    have hj : j < sz := by
      have := (List.getElem?_eq_some_iff.1 hu).1
      rw [hsz] at this
      exact this
    have h1 := flatMap_at cells sz hsz l i hi j hj
    rw [hu, ← ht] at h1
    have h2 : i * sz + j < l.length * sz := by
      have : (i + 1) * sz ≤ l.length * sz := Nat.mul_le_mul_right _ hi
      rw [Nat.add_mul] at this
      omega
    rw [List.getElem?_take_of_lt h2, Array.getElem?_toList] at h1
    simp only [World.cell?, hb, Nat.zero_add]
    simpa using h1

theorem own_keep {w w' : World} {B e sz n : Nat} {v : Value} {xs : List Value} (h : w.ownsRow B e sz v n xs) (hk : ∀ g, v.ownBlock = some g → w'.heap[g]? = w.heap[g]?) : w'.ownsRow B e sz v n xs := by
  refine ⟨h.1, ?_⟩
  rcases h.2 with h0 | ⟨g, cap, cur, rfl, hg, hb, r⟩
  · exact .inl h0
  · exact .inr ⟨g, cap, cur, rfl, hg, (hk g rfl).trans hb, r⟩
theorem own_block {w : World} {B e sz n : Nat} {v : Value} {xs : List Value} (h : w.ownsRow B e sz v n xs) {g : Nat} (hg : v.ownBlock = some g) : B ≤ g ∧ g < w.heap.size ∧ ∃ cur, w.heap[g]? = some (.cells cur e (0, 0)) := by
  rcases h.2 with ⟨rfl, _⟩ | ⟨g', cap, cur, rfl, hg', hb, r⟩
  · cases hg
  · have : g' = g := by simpa [Value.ownBlock] using hg
    subst this
    exact ⟨hg', (Array.getElem?_eq_some_iff.1 hb).1, cur, hb⟩

/-- Map bm holds, for each variable, an owned slice of touches; S: the slices' values; m: the touches. -/
structure TM (w : World) (B bm : Nat) (S : ByteArray → Option Value) (m : ByteArray → List Tch) : Prop where
  map : MapAt senc w bm S
  row : ∀ x v, S x = some v → w.ownsRow B 101 3 v (m x).length ((m x).flatMap Tch.cells)
  none : ∀ x, S x = none → m x = []
  inj : ∀ x y v u g, S x = some v → S y = some u → v.ownBlock = some g → u.ownBlock = some g → x = y
  ge : B ≤ bm

def TFoot (bm : Nat) (S : ByteArray → Option Value) : Nat → Prop := fun k => k = bm ∨ ∃ x v, S x = some v ∧ v.ownBlock = some k

section
variable {w w' : World} {B bm : Nat} {S : ByteArray → Option Value} {m : ByteArray → List Tch}

theorem TM.lt (h : TM w B bm S m) {k : Nat} (hk : TFoot bm S k) : B ≤ k ∧ k < w.heap.size := by
  rcases hk with rfl | ⟨x, v, hx, hv⟩
  · exact ⟨h.ge, h.map.lt⟩
  · have := own_block (h.row x v hx) hv
    exact ⟨this.1, this.2.1⟩
theorem TM.cells (h : TM w B bm S m) {k : Nat} (hk : TFoot bm S k) : k = bm ∨ ∃ cur, w.heap[k]? = some (.cells cur 101 (0, 0)) := by
  rcases hk with rfl | ⟨x, v, hx, hv⟩
  · exact .inl rfl
  · exact .inr (own_block (h.row x v hx) hv).2.2

theorem TM.keep (h : TM w B bm S m) (hk : ∀ k, k < w.heap.size → TFoot bm S k → w'.heap[k]? = w.heap[k]?) : TM w' B bm S m where
  map := h.map.keep (hk _ h.map.lt (.inl rfl))
  row x v hx := own_keep (h.row x v hx) fun g hg => hk g (own_block (h.row x v hx) hg).2.1 (.inr ⟨x, v, hx, hg⟩)
  none := h.none
  inj := h.inj
  ge := h.ge
theorem TM.below (h : TM w B bm S m) (hb : Below w.heap.size w w') : TM w' B bm S m := h.keep fun k hk _ => hb.block k hk
theorem TM.fr {F : Nat → Prop} (h : TM w B bm S m) (hb : Fr w w' F) (hF : ∀ k, F k → ¬ TFoot bm S k) : TM w' B bm S m := h.keep fun k hk hf => hb.block k hk fun e => hF k e hf
theorem TM.congr {m' : ByteArray → List Tch} (h : TM w B bm S m) (e : ∀ x, m x = m' x) : TM w B bm S m' := by
  have : m = m' := funext e
  exact this ▸ h
theorem TM.make (w : World) (B : Nat) (hB : B ≤ w.heap.size) : TM (w.alloc (.map #[] 0)) B w.heap.size (fun _ => .none) (fun _ => []) :=
  ⟨MapAt.make w, fun _ _ h => (nomatch h), fun _ _ => rfl, fun _ _ _ _ _ h => (nomatch h), hB⟩

theorem TM.at_ (h : TM w B bm S m) (x : ByteArray) : SlAt 3 Tch.cells w ((S x).getD (.slice .none 0 0)) (m x) := by
  cases hx : S x with
  | none => rw [h.none x hx]; exact SlAt.nil 0 .none (by omega)
  | some v => exact slAt_of_own (fun _ => rfl) (h.row x v hx)
theorem TM.own (h : TM w B bm S m) (x : ByteArray) : w.ownsRow B 101 3 ((S x).getD (.slice .none 0 0)) (m x).length ((m x).flatMap Tch.cells) := by
  cases hx : S x with
  | none => rw [h.none x hx]; exact ⟨rfl, .inl ⟨rfl, rfl⟩⟩
  | some v => exact h.row x v hx

open Classical in
/-- One touch more: the slice has grown in w1, and was stored in w'. -/
theorem TM.push (h : TM w B bm S m) {x : ByteArray} {t : Tch} {w1 : World} {gg cap N : Nat} (hN : w.heap.size ≤ N)
    (hg : w.grownBy w1 (((S x).getD (.slice .none 0 0)).ownBlock)) (ho : w1.ownsRow B 101 3 (.slice (some ⟨gg, 0, .none⟩) ((m x).length + 1) cap) ((m x).length + 1) ((m x).flatMap Tch.cells ++ t.cells))
    (hat : ((S x).getD (.slice .none 0 0)).ownBlock = some gg ∨ gg = N) (hm : MapAt senc w' bm (upd S x (.slice (some ⟨gg, 0, .none⟩) ((m x).length + 1) cap))) (hg2 : w1.grownBy w' (some bm)) :
    TM w' B bm (upd S x (.slice (some ⟨gg, 0, .none⟩) ((m x).length + 1) cap)) (fun y => if y = x then m x ++ [t] else m y) := by
  have hgb : ∃ cur, w1.heap[gg]? = some (.cells cur 101 (0, 0)) := (own_block ho rfl).2.2
  obtain ⟨es, clk, hbm, _⟩ := id h.map
  -- the map's block is no row
  have hrow : ∀ k, ((S x).getD (.slice .none 0 0)).ownBlock = some k → k ≠ bm := by
    rintro k hk rfl
    obtain ⟨cur, hc⟩ := (own_block (h.own x) hk).2.2
    rw [hbm] at hc; cases hc
  have hggb : gg ≠ bm := by
    rcases hat with e | e
    · exact hrow gg e
    · have := h.map.lt; omega
  have hkeep1 : ∀ k, k < w.heap.size → ((S x).getD (.slice .none 0 0)).ownBlock ≠ some k → w1.heap[k]? = w.heap[k]? := fun k hk hne => hg.block k hk (fun e => hne e.symm)
  have hkeep2 : ∀ k, k < w1.heap.size → k ≠ bm → w'.heap[k]? = w1.heap[k]? := fun k hk hne => hg2.block k hk (fun e => hne (by injection e))
  have hS : ∀ y v, y ≠ x → upd S x (.slice (some ⟨gg, 0, .none⟩) ((m x).length + 1) cap) y = some v → S y = some v := fun y v hy e => by rw [upd_ne _ _ hy] at e; exact e
  -- another row's block is not the one that has grown
  have hoth : ∀ y v k, y ≠ x → S y = some v → v.ownBlock = some k → ((S x).getD (.slice .none 0 0)).ownBlock ≠ some k := by
    intro y v k hy hv hk e
    cases hx : S x with
    | none => rw [hx] at e; cases e
    | some u => rw [hx] at e; exact hy (h.inj y x v u k hv hx hk e)
  have hothgg : ∀ y v k, y ≠ x → S y = some v → v.ownBlock = some k → k ≠ gg := by
    intro y v k hy hv hk e
    subst e
    rcases hat with e | e
    · exact hoth y v k hy hv hk e
    · have := (own_block (h.row y v hv) hk).2.1; omega
  refine ⟨hm, fun y v hy => ?_, fun y hy => ?_, fun y z v u g hy hz hv hu => ?_, h.ge⟩
  · by_cases e : y = x
    · subst e
      rw [upd_same] at hy
      cases hy
      simp only [if_true, List.length_append, List.length_singleton, List.flatMap_append, List.flatMap_singleton]
      exact own_keep ho fun g hg' => by
        have : g = gg := by simpa [Value.ownBlock] using hg'.symm
        subst this
        exact hkeep2 g (own_block ho rfl).2.1 hggb
    · have hy' := hS y v e hy
      simp only [if_neg e]
      refine own_keep (h.row y v hy') fun g hg' => ?_
      have h1 := own_block (h.row y v hy') hg'
      have hgb : g ≠ bm := by
        rintro rfl
        obtain ⟨cur, hc⟩ := h1.2.2
        rw [hbm] at hc; cases hc
      exact (hkeep2 g (Nat.lt_of_lt_of_le h1.2.1 hg.size) hgb).trans (hkeep1 g h1.2.1 (hoth y v g e hy' hg'))
  · by_cases e : y = x
    · subst e; rw [upd_same] at hy; cases hy
    · simp only [if_neg e]
      rw [upd_ne _ _ e] at hy
      exact h.none y hy
  · by_cases e : y = x <;> by_cases e' : z = x
    · rw [e, e']
    · subst e
      rw [upd_same] at hy; cases hy
      have : gg = g := by simpa [Value.ownBlock] using hv
      exact absurd this.symm (hothgg z u g e' (hS z u e' hz) hu)
    · subst e'
      rw [upd_same] at hz; cases hz
      have : gg = g := by simpa [Value.ownBlock] using hu
      exact absurd this.symm (hothgg y v g e (hS y v e hy) hv)
    · exact h.inj y z v u g (hS y v e hy) (hS z u e' hz) hv hu

/-- Where it lies then. -/
theorem tfoot_push {x : ByteArray} {gg n cap : Nat} {k : Nat} (hk : TFoot bm (upd S x (.slice (some ⟨gg, 0, .none⟩) n cap)) k) : TFoot bm S k ∨ k = gg := by
  rcases hk with rfl | ⟨y, v, hy, hv⟩
  · exact .inl (.inl rfl)
  · by_cases e : y = x
    · subst e
      rw [upd_same] at hy; cases hy
      right
      simpa [Value.ownBlock] using hv.symm
    · rw [upd_ne _ _ e] at hy
      exact .inl (.inr ⟨y, v, hy, hv⟩)
end
end Go.Proofs.YtahklchfchjmcaaDoor
