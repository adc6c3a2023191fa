/- Maps whose values are owned slices, for keys and elements of any plain kind. -/
import Derived.Test.YtahklchfchjmcaaDoorTm
namespace Go.Proofs.YtahklchfchjmcaaDoor
set_option linter.unusedVariables false
set_option linter.unusedSimpArgs false
open Go.RowKit Go.MapKept

structure GM {κ α : Type} (enc : κ → Value) (e sz : Nat) (cells : α → List Value) (w : World) (B bm : Nat) (S : κ → Option Value) (m : κ → List α) : Prop where
  map : MapAt enc w bm S
  row : ∀ x v, S x = some v → w.ownsRow B e sz v (m x).length ((m x).flatMap cells)
  none : ∀ x, S x = none → m x = []
  inj : ∀ x y v u g, S x = some v → S y = some u → v.ownBlock = some g → u.ownBlock = some g → x = y
  ge : B ≤ bm

def GFoot {κ : Type} (bm : Nat) (S : κ → Option Value) : Nat → Prop := fun k => k = bm ∨ ∃ x v, S x = some v ∧ v.ownBlock = some k

section
variable {κ α : Type} {enc : κ → Value} {e sz : Nat} {cells : α → List Value} {w w' : World} {B bm : Nat} {S : κ → Option Value} {m : κ → List α}

theorem GM.lt (h : GM enc e sz cells w B bm S m) {k : Nat} (hk : GFoot bm S k) : B ≤ k ∧ k < w.heap.size := by
  rcases hk with rfl | ⟨x, v, hx, hv⟩
  · exact ⟨h.ge, h.map.lt⟩
  · have := own_block (h.row x v hx) hv
    exact ⟨this.1, this.2.1⟩
theorem GM.keep (h : GM enc e sz cells w B bm S m) (hk : ∀ k, k < w.heap.size → GFoot bm S k → w'.heap[k]? = w.heap[k]?) : GM enc e sz cells w' B bm S m where
  map := h.map.keep (hk _ h.map.lt (.inl rfl))
  row x v hx := own_keep (h.row x v hx) fun g hg => hk g (own_block (h.row x v hx) hg).2.1 (.inr ⟨x, v, hx, hg⟩)
  none := h.none
  inj := h.inj
  ge := h.ge
theorem GM.below (h : GM enc e sz cells w B bm S m) (hb : Below w.heap.size w w') : GM enc e sz cells w' B bm S m := h.keep fun k hk _ => hb.block k hk
theorem GM.fr {F : Nat → Prop} (h : GM enc e sz cells w B bm S m) (hb : Fr w w' F) (hF : ∀ k, F k → ¬ GFoot bm S k) : GM enc e sz cells w' B bm S m := h.keep fun k hk hf => hb.block k hk fun e => hF k e hf
theorem GM.congr {m' : κ → List α} (h : GM enc e sz cells w B bm S m) (hm : ∀ x, m x = m' x) : GM enc e sz cells w B bm S m' := by
  have : m = m' := funext hm
  exact this ▸ h
theorem GM.make (w : World) (B : Nat) (hB : B ≤ w.heap.size) : GM enc e sz cells (w.alloc (.map #[] 0)) B w.heap.size (fun _ => .none) (fun _ => []) :=
  ⟨MapAt.make w, fun _ _ h => (nomatch h), fun _ _ => rfl, fun _ _ _ _ _ h => (nomatch h), hB⟩
theorem GM.at_ (hsz : ∀ x, (cells x).length = sz) (h : GM enc e sz cells w B bm S m) (x : κ) : SlAt sz cells w ((S x).getD (.slice .none 0 0)) (m x) := by
  cases hx : S x with
  | none => rw [h.none x hx]; exact SlAt.nil 0 .none (by omega)
  | some v => exact slAt_of_own hsz (h.row x v hx)
theorem GM.own (h : GM enc e sz cells w B bm S m) (x : κ) : w.ownsRow B e sz ((S x).getD (.slice .none 0 0)) (m x).length ((m x).flatMap cells) := by
  cases hx : S x with
  | none => rw [h.none x hx]; exact ⟨by simp, .inl ⟨rfl, rfl⟩⟩
  | some v => exact h.row x v hx

open Classical in
/-- A key's slice is another one: it lies in its old block, or in a new one. -/
theorem GM.put (h : GM enc e sz cells w B bm S m) {x : κ} {l : List α} {v' : Value} {w1 : World} {row : Option Nat} (hrow : row = Option.none ∨ row = ((S x).getD (.slice .none 0 0)).ownBlock)
    (hg : w.grownBy w1 row) (ho : w1.ownsRow B e sz v' l.length (l.flatMap cells)) (hat : ∀ g, v'.ownBlock = some g → ((S x).getD (.slice .none 0 0)).ownBlock = some g ∨ w.heap.size ≤ g)
    (hm : MapAt enc w' bm (upd S x v')) (hg2 : w1.grownBy w' (some bm)) :
    GM enc e sz cells w' B bm (upd S x v') (fun y => if y = x then l else m y) ∧ Fr w w' (GFoot bm S) ∧ ∀ k, GFoot bm (upd S x v') k → GFoot bm S k ∨ w.heap.size ≤ k := by
  obtain ⟨es, clk, hbm, _⟩ := id h.map
  have hrowb : ∀ k, ((S x).getD (.slice .none 0 0)).ownBlock = some k → k ≠ bm := by
    rintro k hk rfl
    obtain ⟨cur, hc⟩ := (own_block (h.own x) hk).2.2
    rw [hbm] at hc; cases hc
  have hgb : ∀ g, v'.ownBlock = some g → g ≠ bm := by
    intro g hg'
    rcases hat g hg' with e | e
    · exact hrowb g e
    · have := h.map.lt; omega
  have hkeep1 : ∀ k, k < w.heap.size → ((S x).getD (.slice .none 0 0)).ownBlock ≠ some k → w1.heap[k]? = w.heap[k]? := fun k hk hne => hg.block k hk (fun e => by
    rcases hrow with h0 | h0
    · rw [h0] at e; cases e
    · rw [h0] at e; exact hne e.symm)
  have hkeep2 : ∀ k, k < w1.heap.size → k ≠ bm → w'.heap[k]? = w1.heap[k]? := fun k hk hne => hg2.block k hk (fun e => hne (by injection e))
  have hS : ∀ y v, y ≠ x → upd S x v' y = some v → S y = some v := fun y v hy e => by rw [upd_ne _ _ hy] at e; exact e
  have hoth : ∀ y v k, y ≠ x → S y = some v → v.ownBlock = some k → ((S x).getD (.slice .none 0 0)).ownBlock ≠ some k := by
    intro y v k hy hv hk e
    cases hx : S x with
    | none => rw [hx] at e; cases e
    | some u => rw [hx] at e; exact hy (h.inj y x v u k hv hx hk e)
  have hothgg : ∀ y v k, y ≠ x → S y = some v → v.ownBlock = some k → v'.ownBlock ≠ some k := by
    intro y v k hy hv hk e
    rcases hat k e with e | e
    · exact hoth y v k hy hv hk e
    · have := (own_block (h.row y v hv) hk).2.1; omega
  refine ⟨⟨hm, fun y v hy => ?_, fun y hy => ?_, fun y z v u g hy hz hv hu => ?_, h.ge⟩, ?_, fun k hk => ?_⟩
  · by_cases e : y = x
    · subst e
      rw [upd_same] at hy
      cases hy
      simp only [if_true]
      exact own_keep ho fun g hg' => hkeep2 g (own_block ho hg').2.1 (hgb g hg')
    · have hy' := hS y v e hy
      simp only [if_neg e]
      refine own_keep (h.row y v hy') fun g hg' => ?_
      have h1 := own_block (h.row y v hy') hg'
      have hgb : g ≠ bm := by
        rintro rfl
        obtain ⟨cur, hc⟩ := h1.2.2
        rw [hbm] at hc; cases hc
      exact (hkeep2 g (Nat.lt_of_lt_of_le h1.2.1 hg.size) hgb).trans (hkeep1 g h1.2.1 (hoth y v g e hy' hg'))
  · by_cases e : y = x
    · subst e; rw [upd_same] at hy; cases hy
    · simp only [if_neg e]
      rw [upd_ne _ _ e] at hy
      exact h.none y hy
  · by_cases e : y = x <;> by_cases e' : z = x
    · rw [e, e']
    · subst e
      rw [upd_same] at hy; cases hy
      exact absurd hv (hothgg z u g e' (hS z u e' hz) hu)
    · subst e'
      rw [upd_same] at hz; cases hz
      exact absurd hu (hothgg y v g e (hS y v e hy) hv)
    · exact h.inj y z v u g (hS y v e hy) (hS z u e' hz) hv hu
  · refine (Fr.grown (F := GFoot bm S) hg fun k hk => .inl ?_).trans (Fr.grown (F := fun k => k = bm) hg2 fun k hk => .inl (by injection hk with hk; exact hk.symm)) fun j hj => .inl (.inl hj)
    rcases hrow with h0 | h0
    · rw [h0] at hk; cases hk
    · rw [h0] at hk
      cases hx : S x with
      | none => rw [hx] at hk; cases hk
      | some v => rw [hx] at hk; exact .inr ⟨x, v, hx, hk⟩
  · rcases hk with rfl | ⟨y, v, hy, hv⟩
    · exact .inl (.inl rfl)
    · by_cases e : y = x
      · subst e
        rw [upd_same] at hy; cases hy
        rcases hat k hv with e | e
        · cases hx : S y with
          | none => rw [hx] at e; cases e
          | some u => rw [hx] at e; exact .inl (.inr ⟨y, u, hx, e⟩)
        · exact .inr e
      · rw [upd_ne _ _ e] at hy
        exact .inl (.inr ⟨y, v, hy, hv⟩)
end
end Go.Proofs.YtahklchfchjmcaaDoor
