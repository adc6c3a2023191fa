/- Plain law of races: happens-before of a list of accesses, vector clocks, and what they say of it. No program in sight. -/
namespace Go.Proofs.YtahklchfchjmcaaDoor
set_option linter.unusedVariables false

structure Acc where
  task : Int
  kind : Int
  var : ByteArray
deriving DecidableEq

/-- An access happens before a later one without a third one. -/
def Direct (a b : Acc) : Prop := a.task = b.task ∨ (a.kind = 4 ∧ b.kind = 3 ∧ a.var = b.var)
instance (a b : Acc) : Decidable (Direct a b) := by unfold Direct; infer_instance

/-- Access i of l happens before access k. -/
inductive HB (l : List Acc) : Nat → Nat → Prop
  | base {i k : Nat} {a b : Acc} : i < k → l[i]? = some a → l[k]? = some b → Direct a b → HB l i k
  | step {i m k : Nat} {a b : Acc} : HB l i m → m < k → l[m]? = some a → l[k]? = some b → Direct a b → HB l i k

theorem HB.lt {l : List Acc} {i k : Nat} (h : HB l i k) : i < k := by
  induction h with
  | base h => exact h
  | step _ h _ _ _ ih => omega

theorem HB.lt_len {l : List Acc} {i k : Nat} (h : HB l i k) : k < l.length := by
  cases h with
  | base _ _ h => exact (List.getElem?_eq_some_iff.1 h).1
  | step _ _ _ h => exact (List.getElem?_eq_some_iff.1 h).1

theorem HB.trans {l : List Acc} {i m k : Nat} (h : HB l i m) (h' : HB l m k) : HB l i k := by
  induction h' with
  | base h1 h2 h3 h4 => exact .step h h1 h2 h3 h4
  | step _ h1 h2 h3 h4 ih => exact .step (ih) h1 h2 h3 h4

/-- It hangs on the accesses up to the second one alone. -/
theorem HB.mono {l l' : List Acc} {i k : Nat} (h : HB l i k) (hl : ∀ j, j ≤ k → l'[j]? = l[j]?) : HB l' i k := by
  induction h with
  | base h1 h2 h3 h4 => exact .base h1 ((hl _ (by omega)).trans h2) ((hl _ (Nat.le_refl _)).trans h3) h4
  | step hb h1 h2 h3 h4 ih => exact .step (ih fun j hj => hl j (by omega)) h1 ((hl _ (by omega)).trans h2) ((hl _ (Nat.le_refl _)).trans h3) h4

theorem hb_take {l : List Acc} {n i k : Nat} (hk : k < n) : HB (l.take n) i k ↔ HB l i k :=
  ⟨fun h => h.mono fun j hj => by rw [List.getElem?_take_of_lt (by omega)], fun h => h.mono fun j hj => by rw [List.getElem?_take_of_lt (by omega)]⟩

/-- What it comes to at one access, through the last step. -/
theorem hb_iff {l : List Acc} {i k : Nat} {b : Acc} (hb : l[k]? = some b) :
    HB l i k ↔ ∃ m a, i ≤ m ∧ m < k ∧ l[m]? = some a ∧ Direct a b ∧ (i = m ∨ HB l i m) := by
  constructor
  · intro h
    cases h with
    | base h1 h2 h3 h4 => rw [hb] at h3; cases h3; exact ⟨i, _, Nat.le_refl _, h1, h2, h4, .inl rfl⟩
    | step h0 h1 h2 h3 h4 => rw [hb] at h3; cases h3; exact ⟨_, _, Nat.le_of_lt h0.lt, h1, h2, h4, .inr h0⟩
  · rintro ⟨m, a, h1, h2, h3, h4, rfl | h5⟩
    · exact .base h2 h3 hb h4
    · exact .step h5 h2 h3 hb h4

/-! ### clocks -/

/-- How many of the first n accesses are of task u. -/
def cnt (l : List Acc) (n : Nat) (u : Int) : Int := ((l.take n).countP fun a => a.task == u : Nat)

theorem cnt_zero (l : List Acc) (u : Int) : cnt l 0 u = 0 := by simp [cnt]
theorem cnt_succ {l : List Acc} {n : Nat} {a : Acc} (h : l[n]? = some a) (u : Int) : cnt l (n + 1) u = cnt l n u + if a.task = u then 1 else 0 := by
  have hn := (List.getElem?_eq_some_iff.1 h).1
  unfold cnt
  rw [List.take_add_one, h]
  simp only [Option.toList_some, List.countP_append, List.countP_singleton]
  by_cases e : a.task = u
  · simp [e]
  · simp [e]
theorem cnt_nonneg (l : List Acc) (n : Nat) (u : Int) : 0 ≤ cnt l n u := by unfold cnt; omega
theorem cnt_le (l : List Acc) (n : Nat) (u : Int) : cnt l n u ≤ n := by
  unfold cnt
  have := List.countP_le_length (p := fun a : Acc => a.task == u) (l := l.take n)
  have := List.length_take_le n l
  omega
theorem cnt_mono (l : List Acc) {m n : Nat} (h : m ≤ n) (u : Int) : cnt l m u ≤ cnt l n u := by
  unfold cnt
  have : (l.take m) <+: (l.take n) := List.take_prefix_take_left h
  have := List.Sublist.countP_le (p := fun a : Acc => a.task == u) this.sublist
  omega

/-- The state of the clocks: of each task, and of each variable that was released. -/
structure CS where
  tc : Int → Int → Int
  vc : ByteArray → Int → Int

def CS.zero : CS := ⟨fun _ _ => 0, fun _ _ => 0⟩

/-- The clock of an access's task behind it. -/
def CS.clk (s : CS) (a : Acc) : Int → Int := fun u =>
  (if a.kind = 3 then max (s.tc a.task u) (s.vc a.var u) else s.tc a.task u) + if u = a.task then 1 else 0

def CS.enter (s : CS) (a : Acc) : CS :=
  ⟨fun t => if t = a.task then s.clk a else s.tc t, fun x => if a.kind = 4 ∧ x = a.var then fun u => max (s.vc x u) (s.clk a u) else s.vc x⟩

def HBe (l : List Acc) (i k : Nat) : Prop := i = k ∨ HB l i k

/-- What the clocks say after the first n accesses. -/
structure CInv (l : List Acc) (n : Nat) (s : CS) : Prop where
  tc : ∀ i a, i < n → l[i]? = some a → ∀ t, (cnt l (i + 1) a.task ≤ s.tc t a.task ↔ ∃ k b, k < n ∧ l[k]? = some b ∧ b.task = t ∧ HBe l i k)
  vc : ∀ i a, i < n → l[i]? = some a → ∀ x, (cnt l (i + 1) a.task ≤ s.vc x a.task ↔ ∃ k b, k < n ∧ l[k]? = some b ∧ b.kind = 4 ∧ b.var = x ∧ HBe l i k)
  tb : ∀ t u, 0 ≤ s.tc t u ∧ s.tc t u ≤ cnt l n u
  vb : ∀ x u, 0 ≤ s.vc x u ∧ s.vc x u ≤ cnt l n u
  own : ∀ t, s.tc t t = cnt l n t

theorem CInv.zero (l : List Acc) : CInv l 0 CS.zero :=
  ⟨fun i a h => absurd h (by omega), fun i a h => absurd h (by omega), fun t u => by simp [CS.zero, cnt_zero], fun t u => by simp [CS.zero, cnt_zero], fun t => by simp [CS.zero, cnt_zero]⟩

theorem CInv.clk_le {l : List Acc} {n : Nat} {s : CS} (h : CInv l n s) {a : Acc} (ha : l[n]? = some a) (u : Int) : 0 ≤ s.clk a u ∧ s.clk a u ≤ cnt l (n + 1) u := by
  have h1 := h.tb a.task u
  have h2 := h.vb a.var u
  rw [cnt_succ ha]
  unfold CS.clk
  by_cases e : u = a.task
  · subst e
    simp only [if_true]
    split <;> omega
  · have e' : ¬ a.task = u := fun h => e h.symm
    rw [if_neg e, if_neg e']
    split <;> omega

/-- The own count is exact. -/
theorem CInv.clk_own {l : List Acc} {n : Nat} {s : CS} (h : CInv l n s) {a : Acc} (ha : l[n]? = some a) : s.clk a a.task = cnt l (n + 1) a.task := by
  have h1 := h.own a.task
  have h2 := h.vb a.var a.task
  rw [cnt_succ ha]
  unfold CS.clk
  simp only [if_true]
  split <;> omega

/-- What the clock of access n says of an earlier one, or of itself. -/
theorem CInv.clk_iff {l : List Acc} {n : Nat} {s : CS} (h : CInv l n s) {a : Acc} (ha : l[n]? = some a) {i : Nat} {b : Acc} (hi : i ≤ n) (hb : l[i]? = some b) :
    cnt l (i + 1) b.task ≤ s.clk a b.task ↔ HBe l i n := by
  by_cases hin : i = n
  · subst hin
    rw [ha] at hb; cases hb
    rw [h.clk_own ha]
    exact ⟨fun _ => .inl rfl, fun _ => Int.le_refl _⟩
  · have hlt : i < n := by omega
    by_cases ht : b.task = a.task
    · have h1 := h.clk_own ha
      rw [ht, h1]
      exact ⟨fun _ => .inr (.base hlt hb ha (.inl ht)), fun _ => cnt_mono l (by omega) _⟩
    · have e : s.clk a b.task = if a.kind = 3 then max (s.tc a.task b.task) (s.vc a.var b.task) else s.tc a.task b.task := by
        unfold CS.clk
        rw [if_neg ht]
        omega
      rw [e]
      have h1 := h.tc i b hlt hb a.task
      have h2 := h.vc i b hlt hb a.var
      have key : HBe l i n ↔ (∃ k b, k < n ∧ l[k]? = some b ∧ b.task = a.task ∧ HBe l i k) ∨ (a.kind = 3 ∧ ∃ k b, k < n ∧ l[k]? = some b ∧ b.kind = 4 ∧ b.var = a.var ∧ HBe l i k) := by
        unfold HBe
        constructor
        · rintro (rfl | h3)
          · omega
          · obtain ⟨m, c, h4, h5, h6, h7, h8⟩ := (hb_iff ha).1 h3
            rcases h7 with h7 | ⟨h7, h9, h10⟩
            · exact .inl ⟨m, c, h5, h6, h7, h8⟩
            · exact .inr ⟨h9, m, c, h5, h6, h7, h10, h8⟩
        · rintro (⟨k, c, h3, h4, h5, h6⟩ | ⟨h0, k, c, h3, h4, h5, h5', h6⟩)
          · right
            refine (hb_iff ha).2 ⟨k, c, ?_, h3, h4, .inl h5, h6⟩
            rcases h6 with rfl | h6
            · exact Nat.le_refl _
            · exact Nat.le_of_lt h6.lt
          · right
            refine (hb_iff ha).2 ⟨k, c, ?_, h3, h4, .inr ⟨h5, h0, h5'⟩, h6⟩
            rcases h6 with rfl | h6
            · exact Nat.le_refl _
            · exact Nat.le_of_lt h6.lt
      rw [key, ← h1, ← h2]
      by_cases e3 : a.kind = 3
      · simp only [e3, if_true, true_and]; omega
      · simp [e3]

theorem CInv.enter {l : List Acc} {n : Nat} {s : CS} (h : CInv l n s) {a : Acc} (ha : l[n]? = some a) : CInv l (n + 1) (s.enter a) := by
  have hup := fun (i : Nat) (b : Acc) (hi : i < n + 1) (hb : l[i]? = some b) => h.clk_iff ha (by omega : i ≤ n) hb
  -- the newest access has happened before no other one
  have hnew : ∀ k, k < n + 1 → HBe l n k → k = n := by
    rintro k hk (rfl | h1)
    · rfl
    · have := h1.lt; omega
  refine ⟨fun i b hi hb t => ?_, fun i b hi hb x => ?_, fun t u => ?_, fun x u => ?_, fun t => ?_⟩
  · by_cases e : t = a.task
    · subst e
      have e1 : (s.enter a).tc a.task = s.clk a := by simp [CS.enter]
      rw [e1, hup i b hi hb]
      constructor
      · intro h1; exact ⟨n, a, by omega, ha, rfl, h1⟩
      · rintro ⟨k, c, h1, h2, h3, h4⟩
        by_cases hk : k = n
        · subst hk; exact h4
        · rcases h4 with rfl | h4
          · exact .inr (.base (by omega) h2 ha (.inl h3))
          · exact .inr (.step h4 (by omega) h2 ha (.inl h3))
    · have e1 : (s.enter a).tc t = s.tc t := by simp [CS.enter, e]
      rw [e1]
      by_cases hin : i = n
      · subst hin
        rw [ha] at hb; cases hb
        constructor
        · intro h1
          have := (h.tb t a.task).2
          rw [cnt_succ ha] at h1
          simp only [if_true] at h1
          omega
        · rintro ⟨k, c, h1, h2, h3, h4⟩
          have := hnew k h1 h4
          subst this
          rw [ha] at h2; cases h2
          exact absurd h3.symm e
      · rw [h.tc i b (by omega) hb t]
        constructor
        · rintro ⟨k, c, h1, h2⟩; exact ⟨k, c, by omega, h2⟩
        · rintro ⟨k, c, h1, h2, h3, h4⟩
          by_cases hk : k = n
          · subst hk; rw [ha] at h2; cases h2; exact absurd h3.symm e
          · exact ⟨k, c, by omega, h2, h3, h4⟩
  · by_cases e : a.kind = 4 ∧ x = a.var
    · obtain ⟨e4, rfl⟩ := e
      have e1 : (s.enter a).vc a.var b.task = max (s.vc a.var b.task) (s.clk a b.task) := by simp [CS.enter, e4]
      rw [e1]
      have h1 := hup i b hi hb
      constructor
      · intro h2
        by_cases h3 : cnt l (i + 1) b.task ≤ s.clk a b.task
        · exact ⟨n, a, by omega, ha, e4, rfl, h1.1 h3⟩
        · by_cases hin : i = n
          · subst hin
            rw [ha] at hb; cases hb
            exact absurd (h1.2 (.inl rfl)) h3
          · obtain ⟨k, c, h4, h5⟩ := (h.vc i b (by omega) hb a.var).1 (by omega)
            exact ⟨k, c, by omega, h5⟩
      · rintro ⟨k, c, h2, h3, h4, h5, h6⟩
        by_cases hk : k = n
        · subst hk
          have := h1.2 h6
          omega
        · by_cases hin : i = n
          · subst hin
            exact absurd (hnew k h2 h6) hk
          · have := (h.vc i b (by omega) hb a.var).2 ⟨k, c, by omega, h3, h4, h5, h6⟩
            omega
    · have e1 : (s.enter a).vc x = s.vc x := by simp only [CS.enter]; rw [if_neg e]
      rw [e1]
      by_cases hin : i = n
      · subst hin
        rw [ha] at hb; cases hb
        constructor
        · intro h1
          have := (h.vb x a.task).2
          rw [cnt_succ ha] at h1
          simp only [if_true] at h1
          omega
        · rintro ⟨k, c, h1, h2, h3, h4, h5⟩
          have := hnew k h1 h5
          subst this
          rw [ha] at h2; cases h2
          exact absurd ⟨h3, h4.symm⟩ e
      · rw [h.vc i b (by omega) hb x]
        constructor
        · rintro ⟨k, c, h1, h2⟩; exact ⟨k, c, by omega, h2⟩
        · rintro ⟨k, c, h1, h2, h3, h4, h5⟩
          by_cases hk : k = n
          · subst hk; rw [ha] at h2; cases h2; exact absurd ⟨h3, h4.symm⟩ e
          · exact ⟨k, c, by omega, h2, h3, h4, h5⟩
  · by_cases e : t = a.task
    · have e1 : (s.enter a).tc t = s.clk a := by simp [CS.enter, e]
      rw [e1]; exact h.clk_le ha u
    · have e1 : (s.enter a).tc t = s.tc t := by simp [CS.enter, e]
      rw [e1]
      have := h.tb t u
      have := cnt_mono l (show n ≤ n + 1 by omega) u
      omega
  · have h1 := h.vb x u
    have h2 := h.clk_le ha u
    have h3 := cnt_mono l (show n ≤ n + 1 by omega) u
    by_cases e : a.kind = 4 ∧ x = a.var
    · have e1 : (s.enter a).vc x u = max (s.vc x u) (s.clk a u) := by simp only [CS.enter]; rw [if_pos e]
      rw [e1]; omega
    · have e1 : (s.enter a).vc x = s.vc x := by simp only [CS.enter]; rw [if_neg e]
      rw [e1]; omega
  · by_cases e : t = a.task
    · subst e
      have e1 : (s.enter a).tc a.task = s.clk a := by simp [CS.enter]
      rw [e1]; exact h.clk_own ha
    · have e1 : (s.enter a).tc t = s.tc t := by simp [CS.enter, e]
      rw [e1, h.own t, cnt_succ ha, if_neg (fun h => e h.symm)]
      omega

/-! ### what is asked of accesses, and races -/

def okAcc (a : Acc) : Bool := decide (0 ≤ a.task) && decide (a.task ≤ 9999) && decide (1 ≤ a.kind) && decide (a.kind ≤ 4) && decide (1 ≤ a.var.size) && decide (a.var.size ≤ 64)
def wrongF (l : List Acc) : Int := if 20000 < l.length then 5 else if l.all okAcc then 0 else 2

def DataK (a : Acc) : Prop := a.kind = 1 ∨ a.kind = 2

/-- Access i and the later access k race. -/
def Races (l : List Acc) (i k : Nat) : Prop :=
  ∃ a b, l[i]? = some a ∧ l[k]? = some b ∧ i < k ∧ a.task ≠ b.task ∧ a.var = b.var ∧ DataK a ∧ DataK b ∧ (a.kind = 2 ∨ b.kind = 2) ∧ ¬ HB l i k

/-- The indices that Check returns. -/
def CheckIs (l : List Acc) (f s : Int) : Prop :=
  (f = -1 ∧ s = -1 ∧ ∀ i k, ¬ Races l i k) ∨
  ∃ i k : Nat, f = i ∧ s = k ∧ Races l i k ∧ (∀ i' k', k' < k → ¬ Races l i' k') ∧ ∀ i', i' < i → ¬ Races l i' k

theorem CheckIs.unique {l : List Acc} {f s f' s' : Int} (h : CheckIs l f s) (h' : CheckIs l f' s') : f = f' ∧ s = s' := by
  rcases h with ⟨rfl, rfl, h⟩ | ⟨i, k, rfl, rfl, h1, h2, h3⟩ <;> rcases h' with ⟨rfl, rfl, h'⟩ | ⟨i', k', rfl, rfl, h1', h2', h3'⟩
  · exact ⟨rfl, rfl⟩
  · exact absurd h1' (h _ _)
  · exact absurd h1 (h' _ _)
  · have : k = k' := by
      rcases Nat.lt_trichotomy k k' with e | e | e
      · exact absurd h1 (h2' _ _ e)
      · exact e
      · exact absurd h1' (h2 _ _ e)
    subst this
    have : i = i' := by
      rcases Nat.lt_trichotomy i i' with e | e | e
      · exact absurd h1 (h3' _ e)
      · exact e
      · exact absurd h1' (h3 _ e)
    subst this
    exact ⟨rfl, rfl⟩

end Go.Proofs.YtahklchfchjmcaaDoor
