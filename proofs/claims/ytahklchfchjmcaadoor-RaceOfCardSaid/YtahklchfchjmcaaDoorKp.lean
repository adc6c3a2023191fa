/- Plain law: happens-before, the racing pair and the accesses of given rows are found by computation. -/
import Derived.Test.YtahklchfchjmcaaDoorOm
import Derived.Test.YtahklchfchjmcaaDoorOr
namespace Go.Proofs.YtahklchfchjmcaaDoor
set_option linter.unusedVariables false

def hbC (l : List Acc) (i : Nat) : Nat → Nat → Bool
  | 0, _ => false
  | n + 1, k => match l[k]? with
    | none => false
    | some b => (List.range k).any fun m => decide (i ≤ m) && ((match l[m]? with | some a => decide (Direct a b) | none => false) && (decide (i = m) || hbC l i n m))

theorem hbC_iff {l : List Acc} {i : Nat} : ∀ {n k : Nat}, k < n → (hbC l i n k = true ↔ HB l i k)
  | 0, k, h => absurd h (by omega)
  | n + 1, k, h => by
    unfold hbC
    cases hb : l[k]? with
    | none =>
      constructor
      · intro h'; cases h'
      · intro h'
        have := h'.lt_len
        rw [List.getElem?_eq_none_iff] at hb
        omega
    | some b =>
      rw [hb_iff hb]
      simp only [List.any_eq_true, List.mem_range, Bool.and_eq_true, decide_eq_true_eq, Bool.or_eq_true]
      constructor
      · rintro ⟨m, hm, h1, h2, h3⟩
        cases ha : l[m]? with
        | none => rw [ha] at h2; cases h2
        | some a =>
          rw [ha] at h2
          refine ⟨m, a, h1, hm, ha, of_decide_eq_true h2, ?_⟩
          rcases h3 with h3 | h3
          · exact .inl h3
          · exact .inr ((hbC_iff (by omega)).1 h3)
      · rintro ⟨m, a, h1, hm, ha, h2, h3⟩
        refine ⟨m, hm, h1, ?_, ?_⟩
        · rw [ha]; exact decide_eq_true h2
        · rcases h3 with h3 | h3
          · exact .inl h3
          · exact .inr ((hbC_iff (by omega)).2 h3)

def racesC (l : List Acc) (i k : Nat) : Bool := match l[i]?, l[k]? with
  | some a, some b => decide (i < k) && (decide (a.task ≠ b.task) && (decide (a.var = b.var) && (decide (a.kind = 1 ∨ a.kind = 2) && (decide (b.kind = 1 ∨ b.kind = 2) && (decide (a.kind = 2 ∨ b.kind = 2) && !hbC l i (k + 1) k)))))
  | _, _ => false

theorem racesC_iff {l : List Acc} {i k : Nat} : racesC l i k = true ↔ Races l i k := by
  unfold racesC Races
  cases ha : l[i]? with
  | none => simp
  | some a =>
    cases hb : l[k]? with
    | none => simp
    | some b =>
      have h := hbC_iff (l := l) (i := i) (Nat.lt_succ_self k)
      simp only [Bool.and_eq_true, decide_eq_true_eq, Bool.not_eq_true', DataK]
      constructor
      · rintro ⟨h1, h2, h3, h4, h5, h6, h7⟩
        refine ⟨a, b, rfl, rfl, h1, h2, h3, h4, h5, h6, fun h' => ?_⟩
        rw [h.2 h'] at h7
        cases h7
      · rintro ⟨a', b', e1, e2, h1, h2, h3, h4, h5, h6, h7⟩
        cases e1; cases e2
        refine ⟨h1, h2, h3, h4, h5, h6, ?_⟩
        rw [← Bool.not_eq_true]
        exact fun h' => h7 (h.1 h')

theorem Races.lt_len {l : List Acc} {i k : Nat} (h : Races l i k) : i < k ∧ k < l.length := by
  obtain ⟨a, b, _, h1, h2, _⟩ := h
  exact ⟨h2, (List.getElem?_eq_some_iff.1 h1).1⟩

/-- No two of a given row race. -/
theorem check_none {l : List Acc} (h : ((List.range l.length).all fun k => (List.range l.length).all fun i => !racesC l i k) = true) : CheckIs l (-1) (-1) := by
  refine .inl ⟨rfl, rfl, fun i k hr => ?_⟩
  have hl := hr.lt_len
  have h1 := List.all_eq_true.1 (List.all_eq_true.1 h k (List.mem_range.2 hl.2)) i (List.mem_range.2 (by omega))
  rw [racesC_iff.2 hr] at h1
  cases h1

theorem check_some {l : List Acc} (i k : Nat) (h : racesC l i k = true) (h1 : ((List.range k).all fun k' => (List.range k).all fun i' => !racesC l i' k') = true) (h2 : ((List.range i).all fun i' => !racesC l i' k) = true) : CheckIs l i k := by
  refine .inr ⟨i, k, rfl, rfl, racesC_iff.1 h, fun i' k' hk hr => ?_, fun i' hi hr => ?_⟩
  · have hl := hr.lt_len
    have h3 := List.all_eq_true.1 (List.all_eq_true.1 h1 k' (List.mem_range.2 hk)) i' (List.mem_range.2 (by omega))
    rw [racesC_iff.2 hr] at h3
    cases h3
  · have h3 := List.all_eq_true.1 h2 i' (List.mem_range.2 hi)
    rw [racesC_iff.2 hr] at h3
    cases h3

theorem known_check {l : List Acc} {f s : Int} (hw : wrongF l = 0) (hc : CheckIs l f s) : ∀ f' s' er, (if wrongF l ≠ 0 then f' = 0 ∧ s' = 0 ∧ er = wrongF l else er = 0 ∧ CheckIs l f' s') → f' = f ∧ s' = s ∧ er = 0 := by
  intro f' s' er h
  rw [if_neg (by simp [hw])] at h
  have := h.2.unique hc
  exact ⟨this.1, this.2, h.1⟩

def xB : ByteArray := bytesOf [120]
def yB : ByteArray := bytesOf [121]
def lB : ByteArray := bytesOf [108]
def mB : ByteArray := bytesOf [109]

def kn1 : List Acc := [⟨2, 2, xB⟩, ⟨3, 1, xB⟩]
def kn2 : List Acc := [⟨2, 2, xB⟩, ⟨2, 4, lB⟩, ⟨3, 3, lB⟩, ⟨3, 2, xB⟩]
def kn3 : List Acc := [⟨2, 2, xB⟩, ⟨3, 3, lB⟩, ⟨2, 4, lB⟩, ⟨3, 2, xB⟩]
def kn4 : List Acc := [⟨2, 1, xB⟩, ⟨3, 1, xB⟩, ⟨4, 2, xB⟩, ⟨4, 2, yB⟩]
def kn5 : List Acc := [⟨2, 2, xB⟩, ⟨2, 4, lB⟩, ⟨3, 3, lB⟩, ⟨3, 4, mB⟩, ⟨4, 3, mB⟩, ⟨4, 1, xB⟩]

theorem kn1_check : CheckIs kn1 0 1 := check_some 0 1 (by decide +kernel) (by decide +kernel) (by decide +kernel)
theorem kn2_check : CheckIs kn2 (-1) (-1) := check_none (by decide +kernel)
theorem kn3_check : CheckIs kn3 0 3 := check_some 0 3 (by decide +kernel) (by decide +kernel) (by decide +kernel)
theorem kn4_check : CheckIs kn4 0 2 := check_some 0 2 (by decide +kernel) (by decide +kernel) (by decide +kernel)
theorem kn5_check : CheckIs kn5 (-1) (-1) := check_none (by decide +kernel)
theorem kn1_ok : wrongF kn1 = 0 := by decide +kernel
theorem kn2_ok : wrongF kn2 = 0 := by decide +kernel
theorem kn3_ok : wrongF kn3 = 0 := by decide +kernel
theorem kn4_ok : wrongF kn4 = 0 := by decide +kernel
theorem kn5_ok : wrongF kn5 = 0 := by decide +kernel

theorem known_ord1 : ∀ b er, OrdIs kn2 0 3 b er → b = true ∧ er = 0 := by
  intro b er h
  unfold OrdIs at h
  rw [if_neg (by simp [kn2_ok]), if_neg (by decide)] at h
  refine ⟨h.2.2 ?_, h.1⟩
  exact (hbC_iff (n := 4) (by decide)).1 (by decide +kernel)
theorem known_ord2 : ∀ b er, OrdIs kn2 3 0 b er → b = false ∧ er = 0 := by
  intro b er h
  unfold OrdIs at h
  rw [if_neg (by simp [kn2_ok]), if_neg (by decide)] at h
  refine ⟨?_, h.1⟩
  cases b
  · rfl
  · exact absurd (h.2.1 rfl).lt (by decide)
theorem known_ord3 : ∀ b er, OrdIs kn2 0 4 b er → b = false ∧ er = 3 := by
  intro b er h
  unfold OrdIs at h
  rw [if_neg (by simp [kn2_ok]), if_pos (by decide)] at h
  exact h
end Go.Proofs.YtahklchfchjmcaaDoor
