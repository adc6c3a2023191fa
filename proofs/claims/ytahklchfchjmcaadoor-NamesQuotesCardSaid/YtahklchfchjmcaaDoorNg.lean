/- The names of chapter 7 in plain Lean: the fields of a line. No program in sight. -/
import Derived.Test.YtahklchfchjmcaaDoorNp
import Derived.Lib.IndexMore
import Derived.Lib.TrimByte
namespace Go.Proofs.YtahklchfchjmcaaDoor
set_option linter.unusedVariables false
set_option linter.unusedSimpArgs false
open Go.Lib

/-- Neither a space nor a mark. -/
def plainB (c : UInt8) : Bool := !(c == 32) && !(c == 34)
/-- The first field of a text that does not begin with a space, and what follows. -/
def fieldL (l : Bs) : Option (Bs × Bs) := if l.head? = some 34 then deqL l else some (l.takeWhile plainB, l.dropWhile plainB)
def okRest (r : Bs) : Bool := r == [] || r.head? == some 32
def fldGo : Nat → Bs → Option (List Bs)
  | 0, _ => some []
  | n + 1, l => match l with
    | [] => some []
    | c :: t => if c = 32 then fldGo n t else match fieldL (c :: t) with
      | none => none
      | some x => if okRest x.2 then (fldGo n x.2).map (x.1 :: ·) else none
def fldL (l : Bs) : Option (List Bs) := fldGo l.length l

theorem plain_len (l : Bs) : (l.takeWhile plainB).length + (l.dropWhile plainB).length = l.length := by
  have := congrArg List.length (List.takeWhile_append_dropWhile (p := plainB) (l := l))
  rw [List.length_append] at this
  exact this
theorem fieldL_length {l : Bs} {x : Bs × Bs} (hl : l ≠ []) (h32 : l.head? ≠ some 32) (h : fieldL l = some x) : x.2.length < l.length ∧ x.1.length ≤ l.length := by
  unfold fieldL at h
  split at h
  · have := deqL_length (x := x.1) (r := x.2) h
    omega
  · rename_i h34
    obtain rfl := Option.some.inj h
    have hp := plain_len l
    match l, hl, h32, h34, hp with
    | c :: t, _, h32, h34, hp =>
      have hc : plainB c = true := by
        have h32' : ¬ c = 32 := by simpa using h32
        have h34' : ¬ c = 34 := by simpa using h34
        simp [plainB, h32', h34']
      have h1 : 1 ≤ ((c :: t).takeWhile plainB).length := by rw [List.takeWhile_cons, if_pos hc]; simp
      dsimp only
      omega
theorem fldGo_fuel : ∀ (n m : Nat) (l : Bs), l.length ≤ n → l.length ≤ m → fldGo n l = fldGo m l
  | 0, m, l, hn, _ => by
    obtain rfl : l = [] := List.eq_nil_of_length_eq_zero (by omega)
    cases m <;> rfl
  | n + 1, 0, l, _, hm => by
    obtain rfl : l = [] := List.eq_nil_of_length_eq_zero (by omega)
    rfl
  | n + 1, m + 1, [], _, _ => rfl
  | n + 1, m + 1, c :: t, hn, hm => by
    rw [List.length_cons] at hn hm
    unfold fldGo
    dsimp only
    by_cases hc : c = 32
    · rw [if_pos hc, if_pos hc]
      exact fldGo_fuel n m t (by omega) (by omega)
    · rw [if_neg hc, if_neg hc]
      cases hf : fieldL (c :: t) with
      | none => rfl
      | some x =>
        have hl := (fieldL_length (by simp) (by simpa using hc) hf).1
        rw [List.length_cons] at hl
        dsimp only
        rw [fldGo_fuel n m x.2 (by omega) (by omega)]
theorem fldL_nil : fldL [] = some [] := rfl
theorem fldL_space (t : Bs) : fldL (32 :: t) = fldL t := by
  unfold fldL
  rw [List.length_cons]
  show fldGo t.length t = _
  rfl
theorem fldL_step {l : Bs} (hl : l ≠ []) (h32 : l.head? ≠ some 32) : fldL l = match fieldL l with
    | none => none
    | some x => if okRest x.2 then (fldL x.2).map (x.1 :: ·) else none := by
  match l, hl, h32 with
  | c :: t, _, h32 =>
    have hc : c ≠ 32 := by simpa using h32
    unfold fldL
    rw [List.length_cons]
    show fldGo (t.length + 1) (c :: t) = _
    rw [fldGo]
    rw [if_neg hc]
    cases hf : fieldL (c :: t) with
    | none => rfl
    | some x =>
      have hl := (fieldL_length (by simp) h32 hf).1
      rw [List.length_cons] at hl
      dsimp only
      rw [fldGo_fuel t.length x.2.length x.2 (by omega) (Nat.le_refl _)]
theorem fldL_trim (l : Bs) : fldL (trimLeftB l 32) = fldL l := by
  unfold trimLeftB
  induction l with
  | nil => rfl
  | cons c t ih =>
    rw [List.dropWhile_cons]
    by_cases hc : c = 32
    · subst hc
      rw [if_pos (by decide), fldL_space, ih]
    · rw [if_neg (by simpa using hc)]
theorem trimLeftB_head (l : Bs) : (trimLeftB l 32).head? ≠ some 32 := by
  unfold trimLeftB
  intro h
  have := List.head?_dropWhile_not (p := (· == (32 : UInt8))) (l := l)
  rw [h] at this
  simp at this
theorem trimLeftB_length (l : Bs) : (trimLeftB l 32).length ≤ l.length := (List.dropWhile_sublist _).length_le

/-- A list that is read already, and the fields of what is left. -/
def withL (acc : List Bs) (o : Option (List Bs)) : Option (List Bs) := o.map (acc ++ ·)
theorem withL_nil (o : Option (List Bs)) : withL [] o = o := by cases o <;> simp [withL]
theorem withL_cons (acc : List Bs) (x : Bs) (o : Option (List Bs)) : withL acc (o.map (x :: ·)) = withL (acc ++ [x]) o := by
  cases o <;> simp [withL]
theorem withL_end (acc : List Bs) : withL acc (fldL []) = some acc := by simp [withL, fldL_nil]
theorem withL_none (acc : List Bs) {l : Bs} (hl : l ≠ []) (h32 : l.head? ≠ some 32) (hf : fieldL l = none) : withL acc (fldL l) = none := by
  rw [fldL_step hl h32, hf]
  rfl
theorem withL_bad (acc : List Bs) {l : Bs} {x : Bs × Bs} (hl : l ≠ []) (h32 : l.head? ≠ some 32) (hf : fieldL l = some x) (hr : okRest x.2 = false) : withL acc (fldL l) = none := by
  rw [fldL_step hl h32, hf]
  dsimp only
  rw [hr]
  rfl
theorem withL_step (acc : List Bs) {l : Bs} {x : Bs × Bs} (hl : l ≠ []) (h32 : l.head? ≠ some 32) (hf : fieldL l = some x) (hr : okRest x.2 = true) : withL acc (fldL l) = withL (acc ++ [x.1]) (fldL x.2) := by
  rw [fldL_step hl h32, hf]
  dsimp only
  rw [if_pos hr, withL_cons]

/-! As the program cuts a word off: up to the first space; a mark in it is an error. -/
def notSp (c : UInt8) : Bool := !(c == 32)
theorem word_plain : ∀ l : Bs, (34 : UInt8) ∉ l.takeWhile notSp → l.takeWhile plainB = l.takeWhile notSp ∧ l.dropWhile plainB = l.dropWhile notSp
  | [], _ => ⟨rfl, rfl⟩
  | c :: t, h => by
    by_cases h32 : c = 32
    · subst h32
      exact ⟨rfl, rfl⟩
    · have hn : notSp c = true := by simp [notSp, h32]
      rw [List.takeWhile_cons, if_pos hn] at h
      simp only [List.mem_cons, not_or] at h
      have hp : plainB c = true := by
        have : c ≠ 34 := fun hc => h.1 hc.symm
        simp [plainB, h32, this]
      obtain ⟨h1, h2⟩ := word_plain t h.2
      simp only [List.takeWhile_cons, List.dropWhile_cons, hn, hp, if_true, h1, h2, and_self]
theorem word_mark : ∀ l : Bs, (34 : UInt8) ∈ l.takeWhile notSp → okRest (l.dropWhile plainB) = false
  | [], h => by simp at h
  | c :: t, h => by
    by_cases h32 : c = 32
    · subst h32
      rw [List.takeWhile_cons, if_neg (by decide)] at h
      simp at h
    · by_cases h34 : c = 34
      · subst h34
        rw [List.dropWhile_cons, if_neg (by decide)]
        rfl
      · have hn : notSp c = true := by simp [notSp, h32]
        have hp : plainB c = true := by simp [plainB, h32, h34]
        rw [List.takeWhile_cons, if_pos hn] at h
        rw [List.dropWhile_cons, if_pos hp]
        refine word_mark t ?_
        rcases List.mem_cons.1 h with h | h
        · exact absurd h.symm h34
        · exact h
theorem okRest_sp (l : Bs) : okRest (l.dropWhile notSp) = true := by
  unfold okRest
  cases h : l.dropWhile notSp with
  | nil => rfl
  | cons c t =>
    have := List.head?_dropWhile_not (p := notSp) (l := l)
    rw [h] at this
    have hc : c = 32 := by simpa [notSp] using this
    subst hc
    rfl
theorem cut_fst (l : Bs) : (cut l [32]).1 = l.takeWhile notSp := by
  have key : ∀ l : Bs, (index l [32] = -1 ∧ l.takeWhile notSp = l) ∨ (∃ i : Nat, index l [32] = i ∧ l.takeWhile notSp = l.take i) := by
    intro l
    induction l with
    | nil => exact .inl ⟨rfl, rfl⟩
    | cons c t ih =>
      by_cases h32 : c = 32
      · subst h32
        refine .inr ⟨0, ?_, rfl⟩
        unfold index
        rw [if_pos (by simp [List.isPrefixOf])]
        rfl
      · have hn : notSp c = true := by simp [notSp, h32]
        have hp : ([32] : Bs).isPrefixOf (c :: t) = false := by
          simp only [List.isPrefixOf, Bool.and_true, beq_eq_false_iff_ne, ne_eq]
          exact fun h => h32 h.symm
        rcases ih with ⟨h1, h2⟩ | ⟨i, h1, h2⟩
        · refine .inl ⟨?_, by rw [List.takeWhile_cons, if_pos hn, h2]⟩
          unfold index
          rw [hp, h1]
          rfl
        · refine .inr ⟨i + 1, ?_, by rw [List.takeWhile_cons, if_pos hn, h2, List.take_succ_cons]⟩
          unfold index
          rw [hp, h1]
          have : ((i : Int) == -1) = false := by rw [beq_eq_false_iff_ne]; omega
          rw [this]
          simp
  unfold cut
  rcases key l with ⟨h1, h2⟩ | ⟨i, h1, h2⟩
  · rw [h1, h2]
    rfl
  · rw [h1, h2, if_pos (by omega)]
    simp
theorem word_drop (l : Bs) : l.drop (l.takeWhile notSp).length = l.dropWhile notSp := by
  have h := List.takeWhile_append_dropWhile (p := notSp) (l := l)
  conv => lhs; arg 2; rw [← h]
  rw [List.drop_left]

/-! Strings in quotes, joined by spaces, are fields again. -/
def spaces (k : Nat) : Bs := List.replicate k 32
def lineL (k : Nat) (xs : List Bs) : Bs := xs.flatMap fun x => spaces k ++ quoteL x
theorem lineL_snoc (k : Nat) (xs : List Bs) (x : Bs) : lineL k (xs ++ [x]) = lineL k xs ++ (spaces k ++ quoteL x) := by simp [lineL]
theorem fldL_spaces : ∀ (k : Nat) (t : Bs), fldL (spaces k ++ t) = fldL t
  | 0, t => rfl
  | k + 1, t => by
    have e : spaces (k + 1) ++ t = 32 :: (spaces k ++ t) := by simp [spaces, List.replicate_succ]
    rw [e, fldL_space, fldL_spaces k t]
theorem fldL_quote (x r : Bs) (hr : okRest r = true) : fldL (quoteL x ++ r) = (fldL r).map (x :: ·) := by
  have h1 : (quoteL x ++ r).head? = some 34 := rfl
  rw [fldL_step (by simp [quoteL]) (by rw [h1]; decide)]
  unfold fieldL
  rw [if_pos h1, deqL_quote]
  dsimp only
  rw [if_pos hr]
theorem okRest_spaces (k : Nat) (t : Bs) : okRest (spaces (k + 1) ++ t) = true := rfl
theorem fldL_line (k m : Nat) (hk : 1 ≤ k) (hm : m = 0 ∨ 1 ≤ m) : ∀ xs : List Bs, fldL (lineL k xs ++ spaces m) = some xs ∧ okRest (lineL k xs ++ spaces m) = true
  | [] => by
    have e : lineL k [] ++ spaces m = spaces m ++ [] := by simp [lineL]
    rw [e, fldL_spaces]
    refine ⟨rfl, ?_⟩
    match m with
    | 0 => rfl
    | m + 1 => exact okRest_spaces m []
  | x :: xs => by
    obtain ⟨h1, h2⟩ := fldL_line k m hk hm xs
    have e : lineL k (x :: xs) ++ spaces m = spaces k ++ (quoteL x ++ (lineL k xs ++ spaces m)) := by simp [lineL, List.append_assoc]
    rw [e, fldL_spaces, fldL_quote _ _ h2, h1]
    refine ⟨rfl, ?_⟩
    obtain ⟨j, rfl⟩ : ∃ j, k = j + 1 := ⟨k - 1, by omega⟩
    exact okRest_spaces j _
theorem fldL_length : ∀ (n : Nat) (l : Bs) (xs : List Bs), l.length ≤ n → fldGo n l = some xs → xs.length ≤ l.length
  | 0, l, xs, _, h => by
    obtain rfl : xs = [] := by simpa [fldGo] using h.symm
    simp
  | n + 1, [], xs, _, h => by
    obtain rfl : xs = [] := by simpa [fldGo] using h.symm
    simp
  | n + 1, c :: t, xs, hn, h => by
    rw [List.length_cons] at hn
    unfold fldGo at h
    dsimp only at h
    by_cases hc : c = 32
    · rw [if_pos hc] at h
      have := fldL_length n t xs (by omega) h
      rw [List.length_cons]
      omega
    · rw [if_neg hc] at h
      cases hf : fieldL (c :: t) with
      | none => rw [hf] at h; cases h
      | some x =>
        rw [hf] at h
        dsimp only at h
        have hl := (fieldL_length (by simp) (by simpa using hc) hf).1
        rw [List.length_cons] at hl
        cases hg : fldGo n x.2 with
        | none => rw [hg] at h; split at h <;> cases h
        | some ys =>
          rw [hg] at h
          split at h
          · obtain rfl : x.1 :: ys = xs := by simpa using h
            have := fldL_length n x.2 ys (by omega) hg
            rw [List.length_cons, List.length_cons]
            omega
          · cases h
end Go.Proofs.YtahklchfchjmcaaDoor
