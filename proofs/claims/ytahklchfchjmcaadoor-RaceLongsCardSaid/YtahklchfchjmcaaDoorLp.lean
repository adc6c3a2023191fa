/- Plain law: as many steps and accesses as there may be, and one more. -/
import Derived.Test.YtahklchfchjmcaaDoorKo
namespace Go.Proofs.YtahklchfchjmcaaDoor
set_option linter.unusedVariables false

def lgA (p : Nat) (o : Bool) (i : Nat) : Acc := if o = true ∧ i = p then ⟨3, 2, xB⟩ else ⟨2, 2, xB⟩
def lgL (p : Nat) (o : Bool) : List Acc := (List.range (p + 1)).map (lgA p o)
def lgS (i : Nat) : Dd := knD ((i : Int) % 3) 6 0 0
def lgD (n : Nat) : List Dd := (List.range n).map lgS

theorem lgD_len (n : Nat) : (lgD n).length = n := by simp [lgD]
theorem lgL_len (p : Nat) (o : Bool) : (lgL p o).length = p + 1 := by simp [lgL]
theorem lgD_one (n : Nat) : ∀ d ∈ lgD n, d.One := by
  intro d hd
  obtain ⟨i, _, rfl⟩ := List.mem_map.1 hd
  exact knD_one _ _ _ _
theorem lgD_at {n i : Nat} {d : Dd} (h : (lgD n)[i]? = some d) : d = lgS i := by
  unfold lgD at h
  rw [List.getElem?_map, Option.map_eq_some_iff] at h
  obtain ⟨a, ha, rfl⟩ := h
  rw [List.getElem?_range (by have := (List.getElem?_eq_some_iff.1 ha).1; simpa using this)] at ha
  cases ha
  rfl
theorem lgL_at {p i : Nat} {o : Bool} {a : Acc} (h : (lgL p o)[i]? = some a) : i < p + 1 ∧ a = lgA p o i := by
  unfold lgL at h
  rw [List.getElem?_map, Option.map_eq_some_iff] at h
  obtain ⟨b, hb, rfl⟩ := h
  have hi : i < p + 1 := by have := (List.getElem?_eq_some_iff.1 hb).1; simpa using this
  rw [List.getElem?_range hi] at hb
  cases hb
  exact ⟨hi, rfl⟩
theorem lgL_get {p i : Nat} {o : Bool} (h : i < p + 1) : (lgL p o)[i]? = some (lgA p o i) := by
  unfold lgL
  rw [List.getElem?_map, List.getElem?_range h]
  rfl

theorem lgS_step (b : List Dd) (i : Nat) : stepF b (lgS i) = [] := by
  simp [stepF, lgS, knD]
theorem lgS_ok (b : List Dd) (i : Nat) (s : Int) : okStep b (lgS i) s = true := by
  have h1 : 0 ≤ (i : Int) % 3 := by omega
  have h2 : (i : Int) % 3 < 3 := by omega
  unfold okStep taskOk lgS knD
  simp only [Bool.and_eq_true, decide_eq_true_eq]
  refine ⟨⟨⟨⟨h1, by omega⟩, by omega⟩, by omega⟩, ?_⟩
  rw [if_neg (by decide), if_neg (by decide)]
theorem lgD_acc (n : Nat) : ∀ k, k ≤ n → accF (lgD n) k = []
  | 0, _ => rfl
  | k + 1, h => by
    have hk : (lgD n)[k]? = some ((lgD n)[k]'(by rw [lgD_len]; omega)) := List.getElem?_eq_getElem _
    rw [accF_succ hk, lgD_acc n k (by omega), lgD_at hk, lgS_step]
    rfl
theorem lgD_of {n : Nat} (h : n ≤ 4096) : OfIs (lgD n) 1 [] 0 := by
  unfold OfIs
  rw [if_neg (by rw [lgD_len]; omega), if_neg (by omega)]
  refine .inl ⟨fun i d _ hd => ?_, ?_, rfl⟩
  · rw [lgD_at hd]; exact lgS_ok _ _ _
  · rw [lgD_len, lgD_acc n n (Nat.le_refl _)]
theorem lgD_long {n : Nat} (h : 4096 < n) : OfIs (lgD n) 1 [] 5 := by
  unfold OfIs
  rw [if_pos (by rw [lgD_len]; omega)]
  exact ⟨rfl, rfl⟩

theorem lgL_ok {p : Nat} (o : Bool) (h : p + 1 ≤ 20000) : wrongF (lgL p o) = 0 := by
  unfold wrongF
  rw [if_neg (by rw [lgL_len]; omega), if_pos]
  rw [List.all_eq_true]
  intro x hx
  obtain ⟨i, _, rfl⟩ := List.mem_map.1 hx
  unfold lgA
  split <;> decide +kernel
theorem lgL_long {p : Nat} (o : Bool) (h : 20000 < p + 1) : wrongF (lgL p o) = 5 := by
  unfold wrongF
  rw [if_pos (by rw [lgL_len]; omega)]

theorem lgA_early {p i : Nat} (o : Bool) (h : i < p) : lgA p o i = ⟨2, 2, xB⟩ := by
  unfold lgA
  rw [if_neg (by omega)]
theorem lgA_same (p i : Nat) : lgA p false i = ⟨2, 2, xB⟩ := by simp [lgA]
theorem lgA_last (p : Nat) : lgA p true p = ⟨3, 2, xB⟩ := by simp [lgA]

theorem lgL_hb_other {p i : Nat} : ¬ HB (lgL p true) i p := by
  intro h
  cases h with
  | base h1 h2 h3 h4 =>
    obtain ⟨_, rfl⟩ := lgL_at h2
    obtain ⟨_, rfl⟩ := lgL_at h3
    rw [lgA_early _ h1, lgA_last] at h4
    rcases h4 with h4 | h4
    · cases h4
    · exact absurd h4.1 (by decide)
  | step h0 h1 h2 h3 h4 =>
    obtain ⟨_, rfl⟩ := lgL_at h2
    obtain ⟨_, rfl⟩ := lgL_at h3
    rw [lgA_early _ h1, lgA_last] at h4
    rcases h4 with h4 | h4
    · cases h4
    · exact absurd h4.1 (by decide)

theorem lgL_check_other {p : Nat} (hp : 0 < p) : CheckIs (lgL p true) 0 p := by
  refine .inr ⟨0, p, rfl, rfl, ⟨_, _, lgL_get (by omega), lgL_get (by omega), hp, ?_, ?_, ?_, ?_, ?_, lgL_hb_other⟩, fun i k hk hr => ?_, fun i hi => absurd hi (by omega)⟩
  · rw [lgA_early _ hp, lgA_last]; decide
  · rw [lgA_early _ hp, lgA_last]
  · rw [lgA_early _ hp]; exact .inr rfl
  · rw [lgA_last]; exact .inr rfl
  · rw [lgA_early _ hp]; exact .inl rfl
  · obtain ⟨a, b, ha, hb, h1, h2, _⟩ := hr
    obtain ⟨_, rfl⟩ := lgL_at ha
    obtain ⟨_, rfl⟩ := lgL_at hb
    rw [lgA_early _ hk, lgA_early _ (by omega)] at h2
    exact h2 rfl
theorem lgL_check_same (p : Nat) : CheckIs (lgL p false) (-1) (-1) := by
  refine .inl ⟨rfl, rfl, fun i k hr => ?_⟩
  obtain ⟨a, b, ha, hb, h1, h2, _⟩ := hr
  obtain ⟨_, rfl⟩ := lgL_at ha
  obtain ⟨_, rfl⟩ := lgL_at hb
  rw [lgA_same, lgA_same] at h2
  exact h2 rfl
theorem lgL_hb_same {p : Nat} (hp : 0 < p) : HB (lgL p false) 0 p :=
  .base hp (lgL_get (by omega)) (lgL_get (by omega)) (.inl (by rw [lgA_same, lgA_same]))
theorem lgL_ord {p : Nat} (o : Bool) (hp : 0 < p) (h : p + 1 ≤ 20000) : ∀ b er, OrdIs (lgL p o) 0 p b er → b = !o ∧ er = 0 := by
  intro b er hr
  unfold OrdIs at hr
  rw [if_neg (by simp [lgL_ok o h]), if_neg (by rw [lgL_len]; omega)] at hr
  refine ⟨?_, hr.1⟩
  have h2 := hr.2
  rw [Int.toNat_natCast] at h2
  cases o
  · exact h2.2 (lgL_hb_same hp)
  · cases b
    · rfl
    · exact absurd (h2.1 rfl) lgL_hb_other
theorem lgL_ord_long {p : Nat} (o : Bool) (h : 20000 < p + 1) (i k : Int) : ∀ b er, OrdIs (lgL p o) i k b er → b = false ∧ er = 5 := by
  intro b er hr
  unfold OrdIs at hr
  rw [if_pos (by rw [lgL_long o h]; decide), lgL_long o h] at hr
  exact hr
theorem lgL_bad {p : Nat} (o : Bool) (h : 20000 < p + 1) : ∀ f' s' er, (if wrongF (lgL p o) ≠ 0 then f' = 0 ∧ s' = 0 ∧ er = wrongF (lgL p o) else er = 0 ∧ CheckIs (lgL p o) f' s') → f' = 0 ∧ s' = 0 ∧ er = 5 := by
  intro f' s' er hr
  rw [if_pos (by rw [lgL_long o h]; decide), lgL_long o h] at hr
  exact hr
end Go.Proofs.YtahklchfchjmcaaDoor
