/- Plain law of the search for races: the touches that are kept of the accesses so far, and what the search among them finds. -/
import Derived.Test.YtahklchfchjmcaaDoorRm
namespace Go.Proofs.YtahklchfchjmcaaDoor
set_option linter.unusedVariables false

structure Tch where
  pos : Int
  task : Int
  n : Int

def racingF (l : List Tch) (task : Int) (c : Int → Int) : Int := ((l.find? fun x => x.task != task && decide (c x.task < x.n)).map (·.pos)).getD (-1)
def earlierF (a b : Int) : Int := if a < 0 ∨ (0 ≤ b ∧ b < a) then b else a

def isTch (l : List Acc) (kind : Int) (x : ByteArray) (i : Nat) : Option Tch :=
  match l[i]? with
  | some a => if a.kind = kind ∧ a.var = x then some ⟨i, a.task, cnt l (i + 1) a.task⟩ else none
  | none => none

/-- The touches of a kind and a variable among the first m accesses. -/
def tch (l : List Acc) (m : Nat) (kind : Int) (x : ByteArray) : List Tch := (List.range m).filterMap (isTch l kind x)

theorem tch_zero (l : List Acc) (kind : Int) (x : ByteArray) : tch l 0 kind x = [] := rfl
theorem tch_succ (l : List Acc) (m : Nat) (kind : Int) (x : ByteArray) : tch l (m + 1) kind x = tch l m kind x ++ (isTch l kind x m).toList := by
  unfold tch
  rw [List.range_succ, List.filterMap_append]
  congr 1
theorem tch_len (l : List Acc) (m : Nat) (kind : Int) (x : ByteArray) : (tch l m kind x).length ≤ m := by
  have := List.length_filterMap_le (isTch l kind x) (List.range m)
  simpa [tch] using this
theorem tch_push {l : List Acc} {m : Nat} {a : Acc} (h : l[m]? = some a) : tch l (m + 1) a.kind a.var = tch l m a.kind a.var ++ [⟨m, a.task, cnt l (m + 1) a.task⟩] := by
  rw [tch_succ]; simp [isTch, h]
theorem tch_other {l : List Acc} {m : Nat} {a : Acc} (h : l[m]? = some a) {kind : Int} {x : ByteArray} (hn : ¬ (a.kind = kind ∧ a.var = x)) : tch l (m + 1) kind x = tch l m kind x := by
  rw [tch_succ]; simp [isTch, h, hn]

/-- What the search says: the least i below m that meets p, or -1. -/
def Least (m : Nat) (p : Nat → Prop) (r : Int) : Prop := (r = -1 ∧ ∀ i, i < m → ¬ p i) ∨ ∃ i : Nat, r = i ∧ i < m ∧ p i ∧ ∀ i', i' < i → ¬ p i'

def Cand (l : List Acc) (m : Nat) (a : Acc) (kind : Int) (i : Nat) : Prop := ∃ b, l[i]? = some b ∧ b.kind = kind ∧ b.var = a.var ∧ b.task ≠ a.task ∧ ¬ HB l i m

theorem find_least {l : List Acc} (kind : Int) (x : ByteArray) (q : Tch → Bool) (m : Nat) (hm : m ≤ l.length) :
    Least m (fun i => ∃ t, isTch l kind x i = some t ∧ q t = true) ((((tch l m kind x).find? q).map (·.pos)).getD (-1)) := by
  induction m with
  | zero => left; exact ⟨by simp [tch_zero], fun i h => by omega⟩
  | succ m ih =>
    have ih := ih (by omega)
    rw [tch_succ, List.find?_append]
    rcases ih with ⟨h1, h2⟩ | ⟨i, h1, h2, h3, h4⟩
    · have hnone : (tch l m kind x).find? q = none := by
        cases hf : (tch l m kind x).find? q with
        | none => rfl
        | some t =>
          exfalso
          have hmem := List.mem_of_find?_eq_some hf
          have hq := List.find?_some hf
          unfold tch at hmem
          obtain ⟨i, hi, hit⟩ := List.mem_filterMap.1 hmem
          exact h2 i (List.mem_range.1 hi) ⟨t, hit, hq⟩
      rw [hnone]
      simp only [Option.none_or]
      cases ht : isTch l kind x m with
      | none =>
        left
        refine ⟨by simp, fun i hi => ?_⟩
        by_cases e : i = m
        · subst e; rintro ⟨t, h, _⟩; rw [ht] at h; cases h
        · exact h2 i (by omega)
      | some t =>
        cases hq : q t with
        | false =>
          left
          refine ⟨by simp [hq], fun i hi => ?_⟩
          by_cases e : i = m
          · subst e; rintro ⟨t', h, h'⟩; rw [ht] at h; cases h; rw [hq] at h'; cases h'
          · exact h2 i (by omega)
        | true =>
          right
          refine ⟨m, ?_, by omega, ⟨t, ht, hq⟩, fun i hi => h2 i hi⟩
          have : t.pos = m := by
            unfold isTch at ht
            split at ht
            · split at ht
              · cases ht; rfl
              · cases ht
            · cases ht
          simp [hq, this]
    · right
      refine ⟨i, ?_, by omega, h3, h4⟩
      cases hf : (tch l m kind x).find? q with
      | none => rw [hf] at h1; simp at h1
      | some t => rw [hf] at h1; simpa using h1

theorem racing_least {l : List Acc} {m : Nat} {s : CS} (h : CInv l m s) {a : Acc} (ha : l[m]? = some a) (kind : Int) :
    Least m (Cand l m a kind) (racingF (tch l m kind a.var) a.task (s.clk a)) := by
  have hm : m < l.length := (List.getElem?_eq_some_iff.1 ha).1
  have h1 := find_least (l := l) kind a.var (fun x => x.task != a.task && decide (s.clk a x.task < x.n)) m (Nat.le_of_lt hm)
  have key : ∀ i, i < m → ((∃ t, isTch l kind a.var i = some t ∧ (t.task != a.task && decide (s.clk a t.task < t.n)) = true) ↔ Cand l m a kind i) := by
    intro i hi
    have hil : i < l.length := by omega
    have hli : l[i]? = some l[i] := List.getElem?_eq_getElem hil
    have hiff := h.clk_iff ha (Nat.le_of_lt hi) hli
    have hnot : s.clk a l[i].task < cnt l (i + 1) l[i].task ↔ ¬ HB l i m := by
      rw [← Int.not_le, hiff]
      unfold HBe
      exact ⟨fun h1 h2 => h1 (.inr h2), fun h1 h2 => h2.elim (fun e => by omega) h1⟩
    constructor
    · rintro ⟨t, ht, hq⟩
      unfold isTch at ht
      rw [hli] at ht
      simp only at ht
      split at ht
      · rename_i hc
        cases ht
        simp only [Bool.and_eq_true, bne_iff_ne, decide_eq_true_eq] at hq
        exact ⟨l[i], hli, hc.1, hc.2, hq.1, hnot.1 hq.2⟩
      · cases ht
    · rintro ⟨b, hb, h2, h3, h4, h5⟩
      rw [hli] at hb; cases hb
      refine ⟨⟨i, l[i].task, cnt l (i + 1) l[i].task⟩, by simp [isTch, hli, h2, h3], ?_⟩
      simp only [Bool.and_eq_true, bne_iff_ne, decide_eq_true_eq]
      exact ⟨h4, hnot.2 h5⟩
  rcases h1 with ⟨e, h2⟩ | ⟨i, e, h2, h3, h4⟩
  · exact .inl ⟨e, fun i hi hc => h2 i hi ((key i hi).2 hc)⟩
  · exact .inr ⟨i, e, h2, (key i h2).1 h3, fun i' hi' hc => h4 i' hi' ((key i' (by omega)).2 hc)⟩

theorem earlier_least {m : Nat} {p q : Nat → Prop} {a b : Int} (ha : Least m p a) (hb : Least m q b) : Least m (fun i => p i ∨ q i) (earlierF a b) := by
  unfold earlierF
  rcases ha with ⟨rfl, h1⟩ | ⟨i, rfl, h1, h2, h3⟩ <;> rcases hb with ⟨rfl, h4⟩ | ⟨k, rfl, h4, h5, h6⟩
  · rw [if_pos (by omega)]
    exact .inl ⟨rfl, fun i hi h => h.elim (h1 i hi) (h4 i hi)⟩
  · rw [if_pos (by omega)]
    exact .inr ⟨k, rfl, h4, .inr h5, fun i hi h => h.elim (h1 i (by omega)) (h6 i hi)⟩
  · rw [if_neg (by omega)]
    exact .inr ⟨i, rfl, h1, .inl h2, fun i' hi' h => h.elim (h3 i' hi') (h4 i' (by omega))⟩
  · by_cases e : (k : Int) < i
    · rw [if_pos (by omega)]
      exact .inr ⟨k, rfl, h4, .inr h5, fun i' hi' h => h.elim (h3 i' (by omega)) (h6 i' hi')⟩
    · rw [if_neg (by omega)]
      exact .inr ⟨i, rfl, h1, .inl h2, fun i' hi' h => h.elim (h3 i' hi') (h6 i' (by omega))⟩

theorem Least.congr {m : Nat} {p q : Nat → Prop} {r : Int} (h : Least m p r) (e : ∀ i, i < m → (p i ↔ q i)) : Least m q r := by
  rcases h with ⟨h1, h2⟩ | ⟨i, h1, h2, h3, h4⟩
  · exact .inl ⟨h1, fun i hi hq => h2 i hi ((e i hi).2 hq)⟩
  · exact .inr ⟨i, h1, h2, (e i h2).1 h3, fun i' hi' hq => h4 i' hi' ((e i' (by omega)).2 hq)⟩

theorem races_iff {l : List Acc} {m : Nat} {a : Acc} (ha : l[m]? = some a) {i : Nat} (hi : i < m) :
    Races l i m ↔ (a.kind = 2 ∧ (Cand l m a 1 i ∨ Cand l m a 2 i)) ∨ (a.kind = 1 ∧ Cand l m a 2 i) := by
  constructor
  · rintro ⟨b, a', h1, h2, _, h3, h4, h5, h6, h7, h8⟩
    rw [ha] at h2; cases h2
    rcases h6 with h6 | h6
    · right
      refine ⟨h6, b, h1, by omega, h4, h3, h8⟩
    · left
      refine ⟨h6, ?_⟩
      rcases h5 with h5 | h5
      · exact .inl ⟨b, h1, h5, h4, h3, h8⟩
      · exact .inr ⟨b, h1, h5, h4, h3, h8⟩
  · rintro (⟨h6, ⟨b, h1, h2, h3, h4, h5⟩ | ⟨b, h1, h2, h3, h4, h5⟩⟩ | ⟨h6, b, h1, h2, h3, h4, h5⟩)
    · exact ⟨b, a, h1, ha, hi, h4, h3, .inl h2, .inr h6, .inr h6, h5⟩
    · exact ⟨b, a, h1, ha, hi, h4, h3, .inr h2, .inr h6, .inr h6, h5⟩
    · exact ⟨b, a, h1, ha, hi, h4, h3, .inr h2, .inl h6, .inl h2, h5⟩

/-- What is found at a write, and at a read. -/
theorem found_write {l : List Acc} {m : Nat} {s : CS} (h : CInv l m s) {a : Acc} (ha : l[m]? = some a) (hk : a.kind = 2) :
    Least m (fun i => Races l i m) (earlierF (racingF (tch l m 2 a.var) a.task (s.clk a)) (racingF (tch l m 1 a.var) a.task (s.clk a))) :=
  (earlier_least (racing_least h ha 2) (racing_least h ha 1)).congr fun i hi => by
    rw [races_iff ha hi]
    simp [hk, or_comm]
theorem found_read {l : List Acc} {m : Nat} {s : CS} (h : CInv l m s) {a : Acc} (ha : l[m]? = some a) (hk : a.kind = 1) :
    Least m (fun i => Races l i m) (racingF (tch l m 2 a.var) a.task (s.clk a)) :=
  (racing_least h ha 2).congr fun i hi => by
    rw [races_iff ha hi]
    simp [hk]
theorem found_none {l : List Acc} {m : Nat} {a : Acc} (ha : l[m]? = some a) (hk : a.kind ≠ 1 ∧ a.kind ≠ 2) (i : Nat) : ¬ Races l i m := by
  rintro ⟨b, a', h1, h2, _, h3, h4, h5, h6, h7, h8⟩
  rw [ha] at h2; cases h2
  rcases h6 with h6 | h6
  · exact hk.1 h6
  · exact hk.2 h6

theorem races_lt {l : List Acc} {i k : Nat} (h : Races l i k) : i < k ∧ k < l.length := by
  obtain ⟨b, a', h1, h2, h3, _⟩ := h
  exact ⟨h3, (List.getElem?_eq_some_iff.1 h2).1⟩

theorem check_found {l : List Acc} {m : Nat} {r : Int} (hno : ∀ i k, k < m → ¬ Races l i k) (h : Least m (fun i => Races l i m) r) (hr : 0 ≤ r) : CheckIs l r m := by
  rcases h with ⟨h1, _⟩ | ⟨i, h1, h2, h3, h4⟩
  · omega
  · exact .inr ⟨i, m, h1, rfl, h3, hno, h4⟩
theorem check_not {l : List Acc} {m : Nat} {r : Int} (hno : ∀ i k, k < m → ¬ Races l i k) (h : Least m (fun i => Races l i m) r) (hr : r < 0) : ∀ i k, k < m + 1 → ¬ Races l i k := by
  intro i k hk
  by_cases e : k = m
  · subst e
    intro hR
    rcases h with ⟨_, h2⟩ | ⟨j, h1, _⟩
    · exact h2 i (races_lt hR).1 hR
    · omega
  · exact hno i k (by omega)
theorem check_end {l : List Acc} (hno : ∀ i k, k < l.length → ¬ Races l i k) : CheckIs l (-1) (-1) :=
  .inl ⟨rfl, rfl, fun i k h => hno i k (races_lt h).2 h⟩
end Go.Proofs.YtahklchfchjmcaaDoor
