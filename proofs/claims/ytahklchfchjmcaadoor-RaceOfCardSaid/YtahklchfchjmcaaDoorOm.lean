/- Plain law of the accesses of a trace: what the steps so far hold, which steps are allowed, and which accesses they make. -/
import Derived.Test.YtahklchfchjmcaaDoorRm
import GoSem.Core.Value
import Derived.Lib.ItoaNum
namespace Go.Proofs.YtahklchfchjmcaaDoor
set_option linter.unusedVariables false

/-- A step: what a trace says of it; r0 to r12: the parts that nobody looks at. -/
structure Dd where
  task : Int
  step : Int
  stripe : Int
  waits : Bool
  next : Int
  r0 : Value
  r1 : Value
  r2 : Value
  r3 : Value
  r4 : Value
  r5 : Value
  r6 : Value
  r7 : Value
  r8 : Value
  r9 : Value
  r10 : Value
  r11 : Value
  r12 : Value

def taskOk (n : Int) : Bool := decide (0 ≤ n) && decide (n ≤ 9999)
def without (l : List Int) (n : Int) : List Int := l.filter fun x => x != n

def heldStep (t : Int) (out : List Int) (d : Dd) : List Int :=
  if d.task = t then
    if d.step = 2 then out ++ [d.stripe] else if d.step = 5 then without out d.stripe else out
  else out
/-- The stripes of a task after some steps. -/
def heldF (l : List Dd) (t : Int) : List Int := l.foldl (heldStep t) []

theorem heldF_snoc (l : List Dd) (d : Dd) (t : Int) : heldF (l ++ [d]) t = heldStep t (heldF l t) d := by simp [heldF]

def okStep (before : List Dd) (d : Dd) (stripes : Int) : Bool :=
  taskOk d.task && decide (1 ≤ d.step) && decide (d.step ≤ 7) &&
    if d.step = 2 then decide (0 ≤ d.stripe) && decide (d.stripe < stripes) && !(heldF before d.task).contains d.stripe
    else if d.step = 5 then decide (0 ≤ d.stripe) && decide (d.stripe < stripes) && (heldF before d.task).contains d.stripe && (d.next == -1 || taskOk d.next)
    else true

def itoaB (n : Int) : ByteArray := ⟨(Go.Lib.itoa n).toArray⟩
def bytesOf (l : List UInt8) : ByteArray := ⟨l.toArray⟩
def nodeB : ByteArray := bytesOf [110, 111, 100, 101]
def lockB (n : Int) : ByteArray := bytesOf [108, 111, 99, 107, 32] ++ itoaB n
def stripeB (n : Int) : ByteArray := bytesOf [115, 116, 114, 105, 112, 101, 32] ++ itoaB n

def allF (t k : Int) (l : List Int) : List Acc := l.map fun s => ⟨t, k, stripeB s⟩
/-- The accesses of a step. -/
def stepF (before : List Dd) (d : Dd) : List Acc :=
  if d.step = 1 ∨ d.step = 7 then [⟨d.task, 3, nodeB⟩, ⟨d.task, 4, nodeB⟩]
  else if d.step = 2 then (if d.waits then [] else [⟨d.task, 3, lockB d.stripe⟩])
  else if d.step = 3 then allF d.task 1 (heldF before d.task)
  else if d.step = 4 then [⟨d.task, 3, nodeB⟩] ++ allF d.task 2 (heldF before d.task) ++ [⟨d.task, 4, nodeB⟩]
  else if d.step = 5 then [⟨d.task, 4, lockB d.stripe⟩] ++ (if 0 ≤ d.next then [⟨d.next, 3, lockB d.stripe⟩] else [])
  else []

/-- All accesses of the first n steps, and whether these are allowed. -/
def accF (l : List Dd) : Nat → List Acc
  | 0 => []
  | n + 1 => accF l n ++ (match l[n]? with | some d => stepF (l.take n) d | none => [])
def okF (l : List Dd) (stripes : Int) (n : Nat) : Prop := ∀ i d, i < n → l[i]? = some d → okStep (l.take i) d stripes = true

/-- What Of returns: accesses, and an error. -/
def OfIs (l : List Dd) (stripes : Int) (out : List Acc) (er : Int) : Prop :=
  if 4096 < l.length then out = [] ∧ er = 5
  else if stripes < 1 ∨ 1024 < stripes then out = [] ∧ er = 2
  else (okF l stripes l.length ∧ out = accF l l.length ∧ er = 0) ∨ (¬ okF l stripes l.length ∧ out = [] ∧ er = 2)

theorem OfIs.unique {l : List Dd} {stripes : Int} {out out' : List Acc} {er er' : Int} (h : OfIs l stripes out er) (h' : OfIs l stripes out' er') : out = out' ∧ er = er' := by
  unfold OfIs at h h'
  split at h
  · rename_i h1
    rw [if_pos h1] at h'
    exact ⟨h.1.trans h'.1.symm, h.2.trans h'.2.symm⟩
  · rename_i h1
    rw [if_neg h1] at h'
    split at h
    · rename_i h2
      rw [if_pos h2] at h'
      exact ⟨h.1.trans h'.1.symm, h.2.trans h'.2.symm⟩
    · rename_i h2
      rw [if_neg h2] at h'
      rcases h with ⟨a, b, c⟩ | ⟨a, b, c⟩ <;> rcases h' with ⟨a', b', c'⟩ | ⟨a', b', c'⟩
      · exact ⟨b.trans b'.symm, c.trans c'.symm⟩
      · exact absurd a a'
      · exact absurd a' a
      · exact ⟨b.trans b'.symm, c.trans c'.symm⟩

theorem accF_succ {l : List Dd} {n : Nat} {d : Dd} (h : l[n]? = some d) : accF l (n + 1) = accF l n ++ stepF (l.take n) d := by simp [accF, h]

/-- What is held is within the stripes, each one once. -/
theorem held_good {l : List Dd} {stripes : Int} : ∀ {n : Nat}, n ≤ l.length → okF l stripes n → ∀ t, (heldF (l.take n) t).Nodup ∧ ∀ s ∈ heldF (l.take n) t, 0 ≤ s ∧ s < stripes
  | 0, _, _, t => by simp [heldF]
  | n + 1, hn, hok, t => by
    have hd : l[n]? = some l[n] := List.getElem?_eq_getElem (by omega)
    have ih := held_good (n := n) (by omega) (fun i d hi h => hok i d (by omega) h) t
    have hs := hok n l[n] (by omega) hd
    rw [List.take_add_one, hd, Option.toList_some, heldF_snoc]
    generalize l[n] = d at *
    unfold heldStep
    split
    · rename_i ht
      unfold okStep at hs
      rw [ht] at hs
      split
      · rename_i h2
        rw [if_pos h2] at hs
        simp only [Bool.and_eq_true, decide_eq_true_eq, Bool.not_eq_true', List.contains_eq_mem, decide_eq_false_iff_not] at hs
        refine ⟨?_, ?_⟩
        · rw [List.nodup_append]
          refine ⟨ih.1, by simp, ?_⟩
          intro a ha b hb
          simp only [List.mem_singleton] at hb
          subst hb
          rintro rfl
          exact hs.2.2 ha
        · intro s hs'
          rcases List.mem_append.1 hs' with h | h
          · exact ih.2 s h
          · simp only [List.mem_singleton] at h
            subst h
            exact hs.2.1
      · split
        · exact ⟨ih.1.sublist List.filter_sublist, fun s hs' => ih.2 s (List.mem_filter.1 hs').1⟩
        · exact ih
    · exact ih

/-- Removing the first one is removing all, where each is there once. -/
theorem without_erase {l : List Int} (hn : l.Nodup) {n : Int} {i : Nat} (hi : l[i]? = some n) : without l n = l.take i ++ l.drop (i + 1) := by
  have hlt := (List.getElem?_eq_some_iff.1 hi).1
  have e : l = l.take i ++ n :: l.drop (i + 1) := by
    have h1 := List.take_append_drop i l
    have h2 : l.drop i = l[i] :: l.drop (i + 1) := List.drop_eq_getElem_cons hlt
    rw [h2, (List.getElem?_eq_some_iff.1 hi).2] at h1
    exact h1.symm
  have hn2 := hn
  rw [e] at hn2
  rw [List.nodup_append] at hn2
  obtain ⟨_, hn3, hn4⟩ := hn2
  have hn5 := (List.nodup_cons.1 hn3).1
  conv => lhs; rw [e]
  unfold without
  rw [List.filter_append, List.filter_cons]
  simp only [bne_self_eq_false, Bool.false_eq_true, if_false]
  rw [List.filter_eq_self.2, List.filter_eq_self.2]
  · intro a ha
    simp only [bne_iff_ne]
    rintro rfl
    exact hn5 ha
  · intro a ha
    simp only [bne_iff_ne]
    rintro rfl
    exact hn4 a ha a (by simp) rfl

end Go.Proofs.YtahklchfchjmcaaDoor
