/- The names of chapter 7 in plain Lean: strings in quotes. No program in sight. -/
import Derived.Lib.Strings
import Derived.Lib.Bytealg
namespace Go.Proofs.YtmocoiamhphhnaaGreatDoor
set_option linter.unusedVariables false
set_option linter.unusedSimpArgs false

abbrev Bs := List UInt8
/-- A hexadecimal digit. -/
def hexD (n : UInt8) : UInt8 := if n < 10 then 48 + n else 87 + n
/-- A byte as it stands in quotes. -/
def oneL (c : UInt8) : Bs := if c = 34 ∨ c = 92 then [92, c] else if c < 32 ∨ 126 < c then [92, 120, hexD (c / 16), hexD (c % 16)] else [c]
def bodyL (x : Bs) : Bs := x.flatMap oneL
def quoteL (x : Bs) : Bs := 34 :: (bodyL x ++ [34])

theorem bodyL_nil : bodyL [] = [] := rfl
theorem bodyL_cons (c : UInt8) (x : Bs) : bodyL (c :: x) = oneL c ++ bodyL x := by simp [bodyL]
theorem bodyL_snoc (x : Bs) (c : UInt8) : bodyL (x ++ [c]) = bodyL x ++ oneL c := by simp [bodyL]
theorem bodyL_append (x y : Bs) : bodyL (x ++ y) = bodyL x ++ bodyL y := by simp [bodyL]
theorem oneL_length (c : UInt8) : 1 ≤ (oneL c).length ∧ (oneL c).length ≤ 4 := by
  unfold oneL
  repeat' split
  all_goals simp
theorem bodyL_length (x : Bs) : x.length ≤ (bodyL x).length ∧ (bodyL x).length ≤ 4 * x.length := by
  induction x with
  | nil => simp [bodyL]
  | cons c x ih =>
    rw [bodyL_cons, List.length_append, List.length_cons]
    have := oneL_length c
    omega
theorem quoteL_length (x : Bs) : x.length + 2 ≤ (quoteL x).length ∧ (quoteL x).length ≤ 4 * x.length + 2 := by
  have := bodyL_length x
  simp only [quoteL, List.length_cons, List.length_append, List.length_nil]
  omega

theorem hexD_toNat (n : UInt8) (h : n.toNat < 16) : (hexD n).toNat = if n.toNat < 10 then 48 + n.toNat else 87 + n.toNat := by
  unfold hexD
  by_cases h10 : n < 10
  · have h1 : n.toNat < 10 := h10
    rw [if_pos h10, if_pos h1, UInt8.toNat_add]
    show (48 + n.toNat) % 256 = _
    omega
  · have h1 : ¬ n.toNat < 10 := h10
    rw [if_neg h10, if_neg h1, UInt8.toNat_add]
    show (87 + n.toNat) % 256 = _
    omega
theorem hexD_inj (a b : UInt8) (ha : a.toNat < 16) (hb : b.toNat < 16) (h : hexD a = hexD b) : a = b := by
  have h1 := congrArg UInt8.toNat h
  rw [hexD_toNat a ha, hexD_toNat b hb] at h1
  apply UInt8.toNat_inj.1
  split at h1 <;> split at h1 <;> omega
theorem div16 (c : UInt8) : (c / 16).toNat = c.toNat / 16 := by rw [UInt8.toNat_div]; rfl
theorem mod16 (c : UInt8) : (c % 16).toNat = c.toNat % 16 := by rw [UInt8.toNat_mod]; rfl
theorem div16_lt (c : UInt8) : (c / 16).toNat < 16 := by rw [div16]; have := c.toNat_lt; omega
theorem mod16_lt (c : UInt8) : (c % 16).toNat < 16 := by rw [mod16]; omega

/-- The three ways to stand in quotes. -/
theorem oneL_cases (c : UInt8) : ((c = 34 ∨ c = 92) ∧ oneL c = [92, c]) ∨ (¬ (c = 34 ∨ c = 92) ∧ (c < 32 ∨ 126 < c) ∧ oneL c = [92, 120, hexD (c / 16), hexD (c % 16)]) ∨ (c ≠ 34 ∧ c ≠ 92 ∧ ¬ (c < 32 ∨ 126 < c) ∧ oneL c = [c]) := by
  unfold oneL
  by_cases h1 : c = 34 ∨ c = 92
  · exact .inl ⟨h1, by rw [if_pos h1]⟩
  · by_cases h2 : c < 32 ∨ 126 < c
    · exact .inr (.inl ⟨h1, h2, by rw [if_neg h1, if_pos h2]⟩)
    · exact .inr (.inr ⟨fun h => h1 (.inl h), fun h => h1 (.inr h), h2, by rw [if_neg h1, if_neg h2]⟩)

theorem oneL_inj {a b : UInt8} {r r' : Bs} (h : oneL a ++ r = oneL b ++ r') : a = b := by
  rcases oneL_cases a with ⟨ha, ea⟩ | ⟨ha, ha2, ea⟩ | ⟨ha, ha2, _, ea⟩ <;> rcases oneL_cases b with ⟨hb, eb⟩ | ⟨hb, hb2, eb⟩ | ⟨hb, hb2, _, eb⟩ <;> rw [ea, eb] at h <;>
    simp only [List.cons_append, List.nil_append, List.cons.injEq] at h
  · exact h.2.1
  · exfalso
    have := h.2.1
    subst this
    rcases ha with h | h <;> exact absurd h (by decide)
  · exact absurd h.1.symm hb2
  · exfalso
    have := h.2.1
    subst this
    rcases hb with h | h <;> exact absurd h (by decide)
  · have h1 := hexD_inj _ _ (div16_lt a) (div16_lt b) h.2.2.1
    have h2 := hexD_inj _ _ (mod16_lt a) (mod16_lt b) h.2.2.2.1
    have e1 := congrArg UInt8.toNat h1
    have e2 := congrArg UInt8.toNat h2
    rw [div16, div16] at e1
    rw [mod16, mod16] at e2
    apply UInt8.toNat_inj.1
    omega
  · exact absurd h.1.symm hb2
  · exact absurd h.1 ha2
  · exact absurd h.1 ha2
  · exact h.1
/-- What stands in quotes does not begin with a mark. -/
theorem oneL_head (c : UInt8) (r r' : Bs) : oneL c ++ r ≠ 34 :: r' := by
  intro h
  rcases oneL_cases c with ⟨_, e⟩ | ⟨_, _, e⟩ | ⟨h34, _, _, e⟩ <;> rw [e] at h <;> simp only [List.cons_append, List.nil_append, List.cons.injEq] at h
  · exact absurd h.1 (by decide)
  · exact absurd h.1 (by decide)
  · exact h34 h.1

/-- What is read already can be taken away. -/
theorem body_cancel : ∀ (out x t r : Bs), bodyL out ++ t = bodyL x ++ 34 :: r → ∃ y, x = out ++ y ∧ t = bodyL y ++ 34 :: r
  | [], x, t, r, h => ⟨x, rfl, h⟩
  | c :: out, [], t, r, h => by
    rw [bodyL_cons, bodyL_nil, List.nil_append, List.append_assoc] at h
    exact absurd h (oneL_head c _ _)
  | c :: out, d :: x, t, r, h => by
    rw [bodyL_cons, bodyL_cons, List.append_assoc, List.append_assoc] at h
    obtain rfl := oneL_inj h
    obtain ⟨y, rfl, hy⟩ := body_cancel out x t r (List.append_cancel_left h)
    exact ⟨y, rfl, hy⟩
theorem quote_unique {x x' r r' : Bs} (h : quoteL x ++ r = quoteL x' ++ r') : x = x' ∧ r = r' := by
  simp only [quoteL, List.cons_append, List.append_assoc, List.nil_append, List.cons.injEq, true_and] at h
  obtain ⟨y, rfl, hy⟩ := body_cancel x x' _ _ h
  cases y with
  | nil =>
    rw [bodyL_nil, List.nil_append] at hy
    exact ⟨by simp, by simpa using hy⟩
  | cons c y =>
    rw [bodyL_cons, List.append_assoc] at hy
    exact absurd hy.symm (oneL_head c _ _)

/-! The string in quotes that a text begins with, and what follows. -/
def findC (t : Bs) : Option UInt8 := ((List.range 256).map UInt8.ofNat).find? fun c => (oneL c).isPrefixOf t
theorem mem256 (c : UInt8) : c ∈ (List.range 256).map UInt8.ofNat := List.mem_map.2 ⟨c.toNat, List.mem_range.2 c.toNat_lt, by simp⟩
theorem findC_of {c : UInt8} {r : Bs} : findC (oneL c ++ r) = some c := by
  unfold findC
  cases hf : ((List.range 256).map UInt8.ofNat).find? fun d => (oneL d).isPrefixOf (oneL c ++ r) with
  | none =>
    have := List.find?_eq_none.1 hf c (mem256 c)
    exact absurd (List.isPrefixOf_iff_prefix.2 (List.prefix_append _ _)) this
  | some d =>
    have h1 : (oneL d).isPrefixOf (oneL c ++ r) = true := List.find?_some (p := fun d => (oneL d).isPrefixOf (oneL c ++ r)) hf
    obtain ⟨q, hq⟩ := List.isPrefixOf_iff_prefix.1 h1
    rw [oneL_inj hq]
theorem findC_some {t : Bs} {c : UInt8} (h : findC t = some c) : ∃ r, t = oneL c ++ r := by
  have h1 : (oneL c).isPrefixOf t = true := List.find?_some (p := fun d => (oneL d).isPrefixOf t) h
  obtain ⟨q, hq⟩ := List.isPrefixOf_iff_prefix.1 h1
  exact ⟨q, hq.symm⟩
def deqGo : Nat → Bs → Option (Bs × Bs)
  | 0, _ => none
  | n + 1, t => match t with
    | [] => none
    | c :: r => if c = 34 then some ([], r) else match findC (c :: r) with
      | none => none
      | some d => (deqGo n ((c :: r).drop (oneL d).length)).map fun x => (d :: x.1, x.2)
def deqL (l : Bs) : Option (Bs × Bs) := match l with
  | [] => none
  | c :: t => if c = 34 then deqGo (t.length + 1) t else none

theorem deqGo_sound : ∀ (n : Nat) (t x r : Bs), deqGo n t = some (x, r) → t = bodyL x ++ 34 :: r
  | 0, t, x, r, h => by cases h
  | n + 1, [], x, r, h => by simp [deqGo] at h
  | n + 1, c :: t, x, r, h => by
    unfold deqGo at h
    dsimp only at h
    split at h
    · rename_i hc
      simp only [Option.some.injEq, Prod.mk.injEq] at h
      obtain ⟨rfl, rfl⟩ := h
      rw [hc]
      rfl
    · split at h
      · cases h
      · rename_i d hd
        obtain ⟨q, hq⟩ := findC_some hd
        rw [hq, List.drop_left] at h
        cases hg : deqGo n q with
        | none => rw [hg] at h; cases h
        | some y =>
          rw [hg] at h
          simp only [Option.map_some, Option.some.injEq, Prod.mk.injEq] at h
          obtain ⟨rfl, rfl⟩ := h
          rw [hq, deqGo_sound n q y.1 y.2 hg, bodyL_cons, List.append_assoc]
theorem deqGo_complete : ∀ (n : Nat) (x r : Bs), (bodyL x ++ 34 :: r).length ≤ n → deqGo n (bodyL x ++ 34 :: r) = some (x, r)
  | 0, x, r, h => by simp at h
  | n + 1, [], r, h => by simp [deqGo, bodyL]
  | n + 1, c :: x, r, h => by
    rw [bodyL_cons, List.append_assoc] at h ⊢
    have hl := oneL_length c
    rw [List.length_append] at h
    unfold deqGo
    cases ht : oneL c ++ (bodyL x ++ 34 :: r) with
    | nil =>
      have := congrArg List.length ht
      rw [List.length_append, List.length_nil] at this
      omega
    | cons d t =>
      dsimp only
      have hd : d ≠ 34 := fun h34 => by rw [h34] at ht; exact oneL_head c _ _ ht
      rw [if_neg hd, ← ht, findC_of]
      dsimp only
      rw [List.drop_left, deqGo_complete n x r (by omega)]
      rfl
theorem deqL_iff (l x r : Bs) : deqL l = some (x, r) ↔ l = quoteL x ++ r := by
  constructor
  · intro h
    match l, h with
    | [], h => cases h
    | c :: t, h =>
      unfold deqL at h
      dsimp only at h
      split at h
      · rename_i hc
        rw [hc, deqGo_sound _ _ _ _ h]
        simp [quoteL]
      · cases h
  · rintro rfl
    have e : quoteL x ++ r = 34 :: (bodyL x ++ 34 :: r) := by simp [quoteL]
    rw [e]
    unfold deqL
    dsimp only
    rw [if_pos rfl]
    exact deqGo_complete _ _ _ (by omega)
theorem deqL_none {l : Bs} (h : ∀ x r, l ≠ quoteL x ++ r) : deqL l = none := by
  cases hd : deqL l with
  | none => rfl
  | some y => exact absurd ((deqL_iff l y.1 y.2).1 hd) (h _ _)
theorem deqL_quote (x r : Bs) : deqL (quoteL x ++ r) = some (x, r) := (deqL_iff _ _ _).2 rfl
theorem deqL_length {l x r : Bs} (h : deqL l = some (x, r)) : r.length < l.length ∧ x.length < l.length := by
  rw [(deqL_iff _ _ _).1 h, List.length_append]
  have := quoteL_length x
  omega
/-- The string of a text that is one in quotes. -/
def unqL (l : Bs) : Option Bs := match deqL l with
  | some (x, []) => some x
  | _ => none
theorem unqL_quote (x : Bs) : unqL (quoteL x) = some x := by
  have := deqL_quote x []
  rw [List.append_nil] at this
  unfold unqL
  rw [this]

/-! What the reference's First keeps. -/
structure FirstAt (l : Bs) (at_ : Nat) (out : Bs) : Prop where
  pos : at_ = 1 + (bodyL out).length
  le : at_ ≤ l.length
  pre : l = 34 :: (bodyL out ++ l.drop at_)
theorem FirstAt.start {l : Bs} (h : l[0]? = some 34) : FirstAt l 1 [] := by
  match l, h with
  | [], h => cases h
  | c :: t, h =>
    obtain rfl : c = 34 := by simpa using h
    exact ⟨rfl, by simp, rfl⟩
theorem FirstAt.none {l : Bs} {i : Nat} {out : Bs} (h : FirstAt l i out) (h34 : l[i]? ≠ some 34) (hc : ∀ c r, l.drop i ≠ oneL c ++ r) : deqL l = Option.none := by
  refine deqL_none fun x r hx => ?_
  have h1 := h.pre
  generalize l.drop i = t at h1 hc
  have hi : l[i]? = t[0]? := by
    rw [h1, h.pos, Nat.add_comm, List.getElem?_cons_succ, List.getElem?_append_right (Nat.le_refl _), Nat.sub_self]
  rw [hi] at h34
  have h2 : 34 :: (bodyL out ++ t) = 34 :: (bodyL x ++ 34 :: r) := by
    rw [← h1, hx]
    simp [quoteL]
  obtain ⟨y, _, hy⟩ := body_cancel out x t r (List.cons.inj h2).2
  cases y with
  | nil =>
    rw [hy] at h34
    exact h34 rfl
  | cons c y =>
    rw [bodyL_cons, List.append_assoc] at hy
    exact hc _ _ hy
theorem FirstAt.step {l : Bs} {i : Nat} {out : Bs} {c : UInt8} {r : Bs} (h : FirstAt l i out) (hc : l.drop i = oneL c ++ r) : FirstAt l (i + (oneL c).length) (out ++ [c]) := by
  have hl : (l.drop i).length = l.length - i := List.length_drop
  rw [hc, List.length_append] at hl
  have hle := h.le
  have := oneL_length c
  refine ⟨by rw [bodyL_snoc, List.length_append, h.pos]; omega, by omega, ?_⟩
  have hd : l.drop (i + (oneL c).length) = r := by rw [← List.drop_drop, hc, List.drop_left]
  rw [hd, bodyL_snoc, List.append_assoc, ← hc]
  exact h.pre
theorem FirstAt.done {l : Bs} {i : Nat} {out : Bs} (h : FirstAt l i out) (h34 : l[i]? = some 34) : deqL l = some (out, l.drop (i + 1)) := by
  rw [deqL_iff]
  have hi : i < l.length := (List.getElem?_eq_some_iff.1 h34).1
  have hd : l.drop i = 34 :: l.drop (i + 1) := by
    rw [List.drop_eq_getElem_cons hi]
    congr 1
    exact (List.getElem?_eq_some_iff.1 h34).2
  have h1 := h.pre
  rw [hd] at h1
  simpa [quoteL] using h1
theorem FirstAt.end {l : Bs} {i : Nat} {out : Bs} (h : FirstAt l i out) (hi : ¬ i < l.length) : deqL l = Option.none := by
  have hd : l.drop i = [] := List.drop_eq_nil_of_le (by omega)
  refine h.none (by rw [List.getElem?_eq_none (by omega)]; simp) fun c r hc => ?_
  rw [hd] at hc
  have := congrArg List.length hc
  have := oneL_length c
  simp only [List.length_nil, List.length_append] at *
  omega

/-! What the program's quoted keeps. -/
def QuotedAt (l : Bs) (i : Nat) (out : Bs) : Prop := ∀ y r, l = quoteL y ++ r → ∃ y2, y = out ++ y2 ∧ i = 1 + (bodyL out).length
theorem QuotedAt.start (l : Bs) : QuotedAt l 1 [] := fun y r _ => ⟨y, rfl, rfl⟩
theorem QuotedAt.left {l : Bs} {i : Nat} {out y r : Bs} (h : QuotedAt l i out) (hl : l = quoteL y ++ r) : ∃ y2, y = out ++ y2 ∧ i = 1 + (bodyL out).length ∧ l.drop i = bodyL y2 ++ 34 :: r := by
  obtain ⟨y2, hy, hi⟩ := h y r hl
  refine ⟨y2, hy, hi, ?_⟩
  have e : l = (34 :: bodyL out) ++ (bodyL y2 ++ 34 :: r) := by rw [hl, hy]; simp [quoteL, bodyL_append]
  have hlen : (34 :: bodyL out).length = i := by rw [hi, List.length_cons]; omega
  rw [e, ← hlen, List.drop_left]
theorem at_drop (l t : Bs) (i j : Nat) (h : l.drop i = t) : l[i + j]? = t[j]? := by rw [← h, List.getElem?_drop]
theorem QuotedAt.fails {l : Bs} {i : Nat} {out : Bs} (h : QuotedAt l i out) (h34 : l[i]? = some 34) (hq : quoteL out ≠ l.take (i + 1)) : deqL l = none := by
  refine deqL_none fun y r hl => ?_
  obtain ⟨y2, rfl, hi, hd⟩ := h.left hl
  have h0 := at_drop l _ i 0 hd
  rw [Nat.add_zero, h34] at h0
  cases y2 with
  | nil =>
    apply hq
    rw [List.append_nil] at hl
    have hlen : (quoteL out).length = i + 1 := by simp [quoteL, hi]; omega
    rw [hl, ← hlen, List.take_left]
  | cons c y2 =>
    rw [bodyL_cons, List.append_assoc] at h0
    cases ht : oneL c ++ (bodyL y2 ++ 34 :: r) with
    | nil => rw [ht] at h0; cases h0
    | cons d t =>
      rw [ht] at h0
      obtain rfl : (34 : UInt8) = d := by simpa using h0
      exact oneL_head c _ _ ht
theorem quoted_good {l : Bs} {i : Nat} {out : Bs} (hq : quoteL out = l.take (i + 1)) : deqL l = some (out, l.drop (i + 1)) := by
  rw [deqL_iff, hq, List.take_append_drop]
theorem QuotedAt.hex {l : Bs} {i : Nat} {out : Bs} {g h z : UInt8} (hj : QuotedAt l i out) (h0 : l[i]? = some 92) (h1 : l[i + 1]? = some 120) (h2 : l[i + 2]? = some g) (h3 : l[i + 3]? = some h)
    (hz : ∀ a b : UInt8, a.toNat < 16 → b.toNat < 16 → g = hexD a → h = hexD b → z.toNat = a.toNat * 16 + b.toNat) : QuotedAt l (i + 4) (out ++ [z]) := by
  intro y r hl
  obtain ⟨y2, rfl, hi, hd⟩ := hj.left hl
  have e0 := at_drop l _ i 0 hd
  have e1 := at_drop l _ i 1 hd
  have e2 := at_drop l _ i 2 hd
  have e3 := at_drop l _ i 3 hd
  rw [Nat.add_zero, h0] at e0
  rw [h1] at e1
  rw [h2] at e2
  rw [h3] at e3
  cases y2 with
  | nil => exact absurd e0 (by simp [bodyL])
  | cons c y2 =>
    rw [bodyL_cons, List.append_assoc] at e0 e1 e2 e3
    rcases oneL_cases c with ⟨hc, e⟩ | ⟨_, _, e⟩ | ⟨_, h92, _, e⟩ <;> rw [e] at e0 e1 e2 e3 <;>
      simp only [List.cons_append, List.nil_append, List.getElem?_cons_zero, List.getElem?_cons_succ, Option.some.injEq] at e0 e1 e2 e3
    · exfalso
      subst e1
      rcases hc with h | h <;> exact absurd h (by decide)
    · have hzc : z = c := by
        have := hz _ _ (div16_lt c) (mod16_lt c) e2 e3
        rw [div16, mod16] at this
        apply UInt8.toNat_inj.1
        omega
      subst hzc
      refine ⟨y2, by simp, ?_⟩
      rw [bodyL_snoc, List.length_append, e, hi]
      simp
      omega
    · exact absurd e0.symm h92
theorem QuotedAt.esc {l : Bs} {i : Nat} {out : Bs} {c : UInt8} (hj : QuotedAt l i out) (h0 : l[i]? = some 92) (h1 : l[i + 1]? = some c) (hn : ¬ (i + 3 < l.length ∧ c = 120)) : QuotedAt l (i + 2) (out ++ [c]) := by
  intro y r hl
  obtain ⟨y2, rfl, hi, hd⟩ := hj.left hl
  have e0 := at_drop l _ i 0 hd
  have e1 := at_drop l _ i 1 hd
  rw [Nat.add_zero, h0] at e0
  rw [h1] at e1
  have hlen : (l.drop i).length = l.length - i := List.length_drop
  rw [hd] at hlen
  cases y2 with
  | nil => exact absurd e0 (by simp [bodyL])
  | cons d y2 =>
    rw [bodyL_cons, List.append_assoc] at e0 e1 hlen
    rcases oneL_cases d with ⟨hc, e⟩ | ⟨_, _, e⟩ | ⟨_, h92, _, e⟩ <;> rw [e] at e0 e1 hlen <;>
      simp only [List.cons_append, List.nil_append, List.getElem?_cons_zero, List.getElem?_cons_succ, Option.some.injEq, List.length_cons] at e0 e1 hlen
    · subst e1
      refine ⟨y2, by simp, ?_⟩
      rw [bodyL_snoc, List.length_append, e, hi]
      simp
      omega
    · exfalso
      apply hn
      refine ⟨?_, e1⟩
      omega
    · exact absurd e0.symm h92
theorem QuotedAt.plain {l : Bs} {i : Nat} {out : Bs} {c : UInt8} (hj : QuotedAt l i out) (h0 : l[i]? = some c) (h34 : c ≠ 34) (hn : ¬ (c = 92 ∧ i + 1 < l.length)) : QuotedAt l (i + 1) (out ++ [c]) := by
  intro y r hl
  obtain ⟨y2, rfl, hi, hd⟩ := hj.left hl
  have e0 := at_drop l _ i 0 hd
  rw [Nat.add_zero, h0] at e0
  have hlen : (l.drop i).length = l.length - i := List.length_drop
  rw [hd] at hlen
  cases y2 with
  | nil => exact absurd e0 (by simpa [bodyL] using h34)
  | cons d y2 =>
    rw [bodyL_cons, List.append_assoc] at e0 hlen
    rcases oneL_cases d with ⟨hc, e⟩ | ⟨_, _, e⟩ | ⟨_, h92, _, e⟩ <;> rw [e] at e0 hlen <;>
      simp only [List.cons_append, List.nil_append, List.getElem?_cons_zero, List.getElem?_cons_succ, Option.some.injEq, List.length_cons] at e0 hlen
    · exfalso
      exact hn ⟨e0, by omega⟩
    · exfalso
      exact hn ⟨e0, by omega⟩
    · subst e0
      refine ⟨y2, by simp, ?_⟩
      rw [bodyL_snoc, List.length_append, e, hi]
      simp
      omega
theorem QuotedAt.end {l : Bs} {i : Nat} {out : Bs} (hj : QuotedAt l i out) (hi : ¬ i < l.length) : deqL l = none := by
  refine deqL_none fun y r hl => ?_
  obtain ⟨y2, _, _, hd⟩ := hj.left hl
  rw [List.drop_eq_nil_of_le (by omega)] at hd
  have := congrArg List.length hd
  simp at this

/-- A string in quotes has only bytes from 32 to 126. -/
theorem quoteL_print (x : Bs) : ∀ c ∈ quoteL x, 32 ≤ c.toNat ∧ c.toNat ≤ 126 := by
  intro c hc
  simp only [quoteL, List.mem_cons, List.mem_append, List.not_mem_nil, or_false] at hc
  rcases hc with rfl | hc | rfl
  · decide
  · obtain ⟨d, _, hd⟩ := List.mem_flatMap.1 hc
    rcases oneL_cases d with ⟨h, e⟩ | ⟨_, _, e⟩ | ⟨_, _, h, e⟩ <;> rw [e] at hd <;> simp only [List.mem_cons, List.not_mem_nil, or_false] at hd
    · rcases hd with rfl | rfl
      · decide
      · rcases h with rfl | rfl <;> decide
    · rcases hd with rfl | rfl | rfl | rfl
      · decide
      · decide
      · rw [hexD_toNat _ (div16_lt d)]
        have := div16_lt d
        split <;> omega
      · rw [hexD_toNat _ (mod16_lt d)]
        have := mod16_lt d
        split <;> omega
    · subst hd
      have h1 : ¬ c.toNat < 32 := fun h' => h (.inl h')
      have h2 : ¬ 126 < c.toNat := fun h' => h (.inr h')
      omega
  · decide
end Go.Proofs.YtmocoiamhphhnaaGreatDoor
