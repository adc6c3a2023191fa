/- The names of chapter 7 in plain Lean: keys, names of items, names that are made canonical. No program in sight. -/
import Derived.Test.YtmocoiamhphhnaaGreatDoorNp
import Derived.Lib.IndexMore
import Derived.Lib.TrimByte
import Derived.Lib.FieldsP
import Derived.Lib.SpaceUEq
import Derived.Lib.Join
namespace Go.Proofs.YtmocoiamhphhnaaGreatDoor
set_option linter.unusedVariables false
set_option linter.unusedSimpArgs false
open Go.Lib

def keyByte (c : UInt8) : Bool := decide ((97 ≤ c.toNat ∧ c.toNat ≤ 122) ∨ (48 ≤ c.toNat ∧ c.toNat ≤ 57) ∨ c.toNat = 45 ∨ c.toNat = 95 ∨ c.toNat = 46 ∨ c.toNat = 47)
def keyL (l : Bs) : Bool := l.all keyByte && (decide (1 ≤ l.length) && decide (l.length ≤ 64))
def printB (c : UInt8) : Bool := decide (32 ≤ c.toNat ∧ c.toNat ≤ 126)
/-- As the reference looks: no two spaces one behind the other, p the byte before. -/
def itemFrom : UInt8 → Bs → Bool
  | _, [] => true
  | p, c :: t => printB c && (!(c == 32 && p == 32) && itemFrom c t)
def itemL (l : Bs) : Bool := decide (1 ≤ l.length) && (decide (l.length ≤ 64) && (!(l[0]? == some 32) && (!(l[l.length - 1]? == some 32) && itemFrom 0 l)))
/-- As the program looks. -/
def itemN (l : Bs) : Bool := l.all printB && (decide (1 ≤ l.length) && (decide (l.length ≤ 64) && (decide (trimB l 32 = l) && !contains l [32, 32])))

theorem dropWhile_self {p : UInt8 → Bool} : ∀ l : Bs, l.dropWhile p = l ↔ ∀ x, l.head? = some x → p x = false
  | [] => by simp
  | a :: t => by
    constructor
    · intro h x hx
      obtain rfl : a = x := by simpa using hx
      cases hp : p a with
      | false => rfl
      | true =>
        rw [List.dropWhile_cons, if_pos hp] at h
        have h1 := congrArg List.length h
        have h2 := (List.dropWhile_sublist p (l := t)).length_le
        rw [List.length_cons] at h1
        omega
    · intro h
      rw [List.dropWhile_cons, if_neg (by rw [h a rfl]; decide)]
theorem trimB_self (l : Bs) (c : UInt8) : trimB l c = l ↔ l[0]? ≠ some c ∧ l[l.length - 1]? ≠ some c := by
  have hr : l.reverse.head? = l[l.length - 1]? := by rw [List.head?_reverse, List.getLast?_eq_getElem?]
  have hlR : (trimRightB l c).length ≤ l.length := by
    unfold trimRightB
    have := (List.dropWhile_sublist (· == c) (l := l.reverse)).length_le
    simpa using this
  have hR : trimRightB l c = l ↔ l[l.length - 1]? ≠ some c := by
    unfold trimRightB
    rw [List.reverse_eq_iff, dropWhile_self, hr]
    constructor
    · intro h hc
      have := h c hc
      simp at this
    · intro h x hx
      simp only [beq_eq_false_iff_ne, ne_eq]
      rintro rfl
      exact h hx
  have hL : ∀ m : Bs, trimLeftB m c = m ↔ m[0]? ≠ some c := by
    intro m
    unfold trimLeftB
    rw [dropWhile_self, List.head?_eq_getElem?]
    constructor
    · intro h hc
      have := h c hc
      simp at this
    · intro h x hx
      simp only [beq_eq_false_iff_ne, ne_eq]
      rintro rfl
      exact h hx
  constructor
  · intro h
    have h1 : trimRightB l c = l := by
      have hl2 : (trimLeftB (trimRightB l c) c).length ≤ (trimRightB l c).length := by
        unfold trimLeftB
        exact (List.dropWhile_sublist (· == c)).length_le
      have h2 : (trimLeftB (trimRightB l c) c).length = l.length := congrArg List.length h
      have hsub : (trimRightB l c).Sublist l := by
        unfold trimRightB
        have := (List.dropWhile_sublist (· == c) (l := l.reverse)).reverse
        rwa [List.reverse_reverse] at this
      exact hsub.eq_of_length (by omega)
    refine ⟨?_, hR.1 h1⟩
    unfold trimB at h
    rw [h1] at h
    exact (hL l).1 h
  · rintro ⟨h0, h1⟩
    unfold trimB
    rw [hR.2 h1]
    exact (hL l).2 h0

def dbl : Bs → Bool
  | a :: b :: t => (a == 32 && b == 32) || dbl (b :: t)
  | _ => false
theorem index_cons (b : UInt8) (l sub : Bs) : index (b :: l) sub = if sub.isPrefixOf (b :: l) then 0 else if index l sub == -1 then -1 else index l sub + 1 := by rw [index]
theorem contains_cons (b : UInt8) (l sub : Bs) : contains (b :: l) sub = (sub.isPrefixOf (b :: l) || contains l sub) := by
  unfold contains
  rw [index_cons]
  cases h : sub.isPrefixOf (b :: l) with
  | true => simp
  | false =>
    simp only [Bool.false_eq_true, if_false, Bool.false_or]
    rcases index_spec l sub with ⟨h1, _⟩ | ⟨i, h1, _⟩
    · rw [h1]; rfl
    · rw [h1]
      have : ((i : Int) == -1) = false := by rw [beq_eq_false_iff_ne]; omega
      rw [this]
      simp only [Bool.false_eq_true, if_false, decide_eq_decide]
      omega
theorem contains_dbl : ∀ l : Bs, contains l [32, 32] = dbl l
  | [] => rfl
  | [a] => by
    rw [contains_cons, show contains [] [32, 32] = false from rfl]
    simp [dbl, List.isPrefixOf]
  | a :: b :: t => by
    rw [contains_cons, contains_dbl (b :: t)]
    have e : ([32, 32] : Bs).isPrefixOf (a :: b :: t) = (a == 32 && b == 32) := by
      simp only [List.isPrefixOf, Bool.and_true]
      rw [Bool.beq_comm (a := (32 : UInt8)) (b := a), Bool.beq_comm (a := (32 : UInt8)) (b := b)]
    rw [e]
    rfl
theorem itemFrom_eq : ∀ (l : Bs) (p : UInt8), itemFrom p l = (l.all printB && !dbl (p :: l))
  | [], p => rfl
  | c :: t, p => by
    unfold itemFrom
    rw [itemFrom_eq t c]
    have e : dbl (p :: c :: t) = ((p == 32 && c == 32) || dbl (c :: t)) := rfl
    rw [e, List.all_cons]
    cases printB c <;> cases t.all printB <;> cases (c == 32) <;> cases (p == 32) <;> cases dbl (c :: t) <;> rfl
theorem itemN_eq (l : Bs) : itemN l = itemL l := by
  unfold itemN itemL
  rw [contains_dbl, itemFrom_eq]
  have e : dbl (0 :: l) = dbl l := by
    cases l with
    | nil => rfl
    | cons a t => show ((0 : UInt8) == 32 && a == 32 || dbl (a :: t)) = _; rfl
  have ht : decide (trimB l 32 = l) = (!(l[0]? == some 32) && !(l[l.length - 1]? == some 32)) := by
    rw [Bool.eq_iff_iff, decide_eq_true_iff, trimB_self]
    simp
  rw [e, ht]
  cases l.all printB <;> cases decide (1 ≤ l.length) <;> cases decide (l.length ≤ 64) <;> cases (l[0]? == some 32) <;> cases (l[l.length - 1]? == some 32) <;> cases dbl l <;> rfl

/-! Names that are made canonical. -/
def spR (r : Nat) : Bool := decide (r = 9 ∨ r = 10 ∨ r = 13 ∨ r = 32)
def canonFrom : Bs → Bool → Bs → Bs
  | out, _, [] => out
  | out, sp, c :: t => if spR c.toNat then canonFrom out true t else canonFrom ((if sp = true ∧ out ≠ [] then out ++ [32] else out) ++ [c]) false t
def canonL (l : Bs) : Bs := canonFrom [] false l

theorem canonFrom_run : ∀ (u t out : Bs), (∀ c ∈ u, spR c.toNat = false) → canonFrom out false (u ++ t) = canonFrom (out ++ u) false t
  | [], t, out, _ => by simp
  | c :: u, t, out, h => by
    rw [List.cons_append]
    have e : canonFrom out false (c :: (u ++ t)) = canonFrom (out ++ [c]) false (u ++ t) := by
      simp only [canonFrom, h c (List.mem_cons_self ..), Bool.false_eq_true, if_false, false_and]
    rw [e, canonFrom_run u t (out ++ [c]) (fun d hd => h d (List.mem_cons_of_mem _ hd)), List.append_assoc, List.singleton_append]
theorem canonFrom_word (u t out : Bs) (sp : Bool) (hu : u ≠ []) (h : ∀ c ∈ u, spR c.toNat = false) : canonFrom out sp (u ++ t) = canonFrom ((if sp = true ∧ out ≠ [] then out ++ [32] else out) ++ u) false t := by
  match u, hu, h with
  | c :: u, _, h =>
    rw [List.cons_append]
    have e : canonFrom out sp (c :: (u ++ t)) = canonFrom ((if sp = true ∧ out ≠ [] then out ++ [32] else out) ++ [c]) false (u ++ t) := by
      simp only [canonFrom, h c (List.mem_cons_self ..), Bool.false_eq_true, if_false]
    rw [e, canonFrom_run u t _ (fun d hd => h d (List.mem_cons_of_mem _ hd)), List.append_assoc, List.singleton_append]

/-- The name of an item is canonical. -/
theorem canonFrom_item : ∀ (n : Nat) (l out : Bs) (p : UInt8), l.length ≤ n → out ≠ [] → itemFrom p l = true → l.getLast? ≠ some 32 → canonFrom out false l = out ++ l
  | _, [], out, p, _, _, _, _ => by simp [canonFrom]
  | 0, c :: t, _, _, h, _, _, _ => by simp at h
  | n + 1, c :: t, out, p, hn, ho, hi, hl => by
    simp only [itemFrom, Bool.and_eq_true] at hi
    obtain ⟨hp, _, hi⟩ := hi
    have hp' : 32 ≤ c.toNat ∧ c.toNat ≤ 126 := of_decide_eq_true hp
    cases hs : spR c.toNat with
    | false =>
      have e : canonFrom out false (c :: t) = canonFrom (out ++ [c]) false t := by simp only [canonFrom, hs, Bool.false_eq_true, if_false, false_and]
      rw [e]
      cases t with
      | nil => simp [canonFrom]
      | cons d t =>
        rw [canonFrom_item n (d :: t) (out ++ [c]) c (by simp at hn ⊢; omega) (by simp) hi (by simpa using hl)]
        simp
    | true =>
      have hc : c = 32 := by
        have := of_decide_eq_true hs
        apply UInt8.toNat_inj.1
        show c.toNat = 32
        omega
      subst hc
      cases t with
      | nil => exact absurd rfl hl
      | cons d t =>
        simp only [itemFrom, Bool.and_eq_true] at hi
        obtain ⟨hpd, h2, hi⟩ := hi
        have hpd' : 32 ≤ d.toNat ∧ d.toNat ≤ 126 := of_decide_eq_true hpd
        have hd : d ≠ 32 := by
          rintro rfl
          simp at h2
        have hsd : spR d.toNat = false := by
          refine decide_eq_false fun h => ?_
          rcases h with h | h | h | h
          · omega
          · omega
          · omega
          · exact hd (UInt8.toNat_inj.1 h)
        have e : canonFrom out false (32 :: d :: t) = canonFrom (out ++ [32] ++ [d]) false t := by
          have h32 : spR (32 : UInt8).toNat = true := rfl
          simp only [canonFrom, hsd, h32, Bool.false_eq_true, if_false, if_true, ho, ne_eq, not_false_eq_true, and_self]
        rw [e]
        cases t with
        | nil => simp [canonFrom]
        | cons b t =>
          rw [canonFrom_item n (b :: t) _ d (by simp at hn ⊢; omega) (by simp) hi (by simpa using hl)]
          simp
theorem canonL_item (l : Bs) (h : itemL l = true) : canonL l = l := by
  unfold itemL at h
  simp only [Bool.and_eq_true, decide_eq_true_eq, Bool.not_eq_true', beq_eq_false_iff_ne, ne_eq] at h
  obtain ⟨h1, h2, h3, h4, h5⟩ := h
  match l, h1, h3, h4, h5 with
  | c :: t, h1, h3, h4, h5 =>
    simp only [itemFrom, Bool.and_eq_true] at h5
    obtain ⟨hp, _, hi⟩ := h5
    have hp' : 32 ≤ c.toNat ∧ c.toNat ≤ 126 := of_decide_eq_true hp
    have hs : spR c.toNat = false := by
      refine decide_eq_false fun h => ?_
      rcases h with h | h | h | h
      · omega
      · omega
      · omega
      · exact h3 (congrArg some (UInt8.toNat_inj.1 h))
    have e : canonL (c :: t) = canonFrom [c] false t := by
      unfold canonL
      simp only [canonFrom, hs, Bool.false_eq_true, if_false, false_and, List.nil_append]
    rw [e]
    rw [List.getLast?_eq_getElem?.symm] at h4
    cases t with
    | nil => rfl
    | cons d t => exact canonFrom_item _ (d :: t) [c] c (Nat.le_refl _) (by simp) hi (by simpa using h4)

/-! As the program makes them: words that are joined. -/
theorem join_snoc (xs : List Bs) (y : Bs) (sep : Bs) : join (xs ++ [y]) sep = if xs = [] then y else join xs sep ++ sep ++ y := by
  cases xs with
  | nil => simp [join_one]
  | cons x r =>
    rw [if_neg (by simp), List.cons_append, join_cons, join_cons]
    simp [joinTail, List.append_assoc]
theorem join_ne {xs : List Bs} {sep : Bs} (h : xs ≠ []) (hx : ∀ x ∈ xs, x ≠ []) : join xs sep ≠ [] := by
  cases xs with
  | nil => exact absurd rfl h
  | cons x r =>
    rw [join_cons]
    have := hx x (List.mem_cons_self ..)
    simp [this]

theorem decodeN_sp (n b0 b1 b2 b3 : Nat) (h : spR (decodeN n b0 b1 b2 b3).1 = true) : (decodeN n b0 b1 b2 b3).2 = 1 ∧ (decodeN n b0 b1 b2 b3).1 = b0 := by
  have h' := of_decide_eq_true h
  clear h
  revert h'
  unfold decodeN
  repeat' split
  all_goals (dsimp only; omega)
theorem decodeN_first (n b0 b1 b2 b3 : Nat) (h : b0 < 128) : (decodeN n b0 b1 b2 b3).2 = 1 ∧ (decodeN n b0 b1 b2 b3).1 = b0 := by rw [decodeN_ascii _ _ _ _ _ h]; exact ⟨rfl, rfl⟩

theorem rune_sp (s : ByteArray) (pos : Nat) (hp : pos < s.size) (h : spR (Utf8.decode s pos).1 = true) :
    (Utf8.decode s pos).2 = 1 ∧ ∃ c, s.data.toList.drop pos = c :: s.data.toList.drop (pos + 1) ∧ spR c.toNat = true := by
  rw [decode_N] at h ⊢
  obtain ⟨h1, h2⟩ := decodeN_sp _ _ _ _ _ h
  rw [h2] at h
  have hl : pos < s.data.toList.length := by rw [← size_eq]; exact hp
  refine ⟨h1, s.data.toList[pos], List.drop_eq_getElem_cons hl, ?_⟩
  have : s.data.toList.getD pos 0 = s.data.toList[pos] := by simp [List.getD, List.getElem?_eq_getElem hl]
  rw [this] at h
  exact h
theorem rune_word (s : ByteArray) (pos : Nat) (hp : pos < s.size) (h : spR (Utf8.decode s pos).1 = false) :
    pos + (Utf8.decode s pos).2 ≤ s.size ∧ ∀ c ∈ (s.data.toList.drop pos).take (Utf8.decode s pos).2, spR c.toNat = false := by
  have hle : pos + (Utf8.decode s pos).2 ≤ s.size := by
    have := decodeN_le_n' (s.size - pos) (s.get! pos).toNat (s.get! (pos + 1)).toNat (s.get! (pos + 2)).toNat (s.get! (pos + 3)).toNat (by omega)
    rw [← decode_at] at this
    omega
  refine ⟨hle, fun c hc => ?_⟩
  rw [decode_N] at h hc hle
  generalize hL : s.data.toList = L at *
  have hsz : s.size = L.length := by rw [← hL]; exact size_eq s
  obtain ⟨j, hj, hcj⟩ := List.mem_iff_getElem.1 hc
  have hjk : j < (decodeN (L.length - pos) (L.getD pos 0).toNat (L.getD (pos + 1) 0).toNat (L.getD (pos + 2) 0).toNat (L.getD (pos + 3) 0).toNat).2 := by
    have := hj
    rw [List.length_take] at this
    omega
  have hpj : pos + j < L.length := by
    have := hj
    rw [List.length_take, List.length_drop] at this
    omega
  have hcd : c = L.getD (pos + j) 0 := by
    rw [← hcj, List.getElem_take, List.getElem_drop]
    simp [List.getD, List.getElem?_eq_getElem hpj]
  have hconts := decodeN_conts (L.length - pos) (L.getD pos 0).toNat (L.getD (pos + 1) 0).toNat (L.getD (pos + 2) 0).toNat (L.getD (pos + 3) 0).toNat
  by_cases h0 : (L.getD pos 0).toNat < 128
  · obtain ⟨e1, e2⟩ := decodeN_first (L.length - pos) (L.getD pos 0).toNat (L.getD (pos + 1) 0).toNat (L.getD (pos + 2) 0).toNat (L.getD (pos + 3) 0).toNat h0
    obtain rfl : j = 0 := by omega
    rw [e2] at h
    rw [hcd]
    exact h
  · refine decide_eq_false fun hsp => ?_
    rw [hcd] at hsp
    match j, hjk, hsp with
    | 0, _, hsp => rw [Nat.add_zero] at hsp; omega
    | 1, hjk, hsp => have := (hconts.1 (by omega)).1; omega
    | 2, hjk, hsp => have := (hconts.2.1 (by omega)).1; omega
    | 3, hjk, hsp => have := (hconts.2.2.1 (by omega)).1; omega
    | j + 4, hjk, hsp => have := hconts.2.2.2; omega

theorem canon_spans (s : ByteArray) : ∀ (f pos : Nat) (st : Option Nat) (acc : List (Nat × Nat)) (sp : Bool), s.size ≤ pos + f → pos ≤ s.size → (∀ a, st = some a → a < pos ∧ sp = false) → (st = none → acc = [] ∨ sp = true) →
    (∀ x ∈ acc.map (fun p => pieceU s.data.toList p.1 p.2), x ≠ []) →
    join ((closeSpans s (spansFromP spR s f pos st acc)).map (fun p => pieceU s.data.toList p.1 p.2)) [32] =
      canonFrom (match st with | some a => join (acc.map (fun p => pieceU s.data.toList p.1 p.2) ++ [pieceU s.data.toList a pos]) [32] | none => join (acc.map (fun p => pieceU s.data.toList p.1 p.2)) [32]) sp (s.data.toList.drop pos)
  | f, pos, st, acc, sp, h, hp, hst, hsn, hne => by
    by_cases hlt : pos < s.size
    · obtain ⟨f, rfl⟩ : ∃ g, f = g + 1 := ⟨f - 1, by omega⟩
      have hw := width_pos s pos
      cases hs : spR (Utf8.decode s pos).1 with
      | true =>
        obtain ⟨hK, c, hc, hcs⟩ := rune_sp s pos hlt hs
        simp only [spansFromP, hlt, hs, if_true, hK]
        rw [hc]
        simp only [canonFrom, hcs, if_true]
        cases st with
        | none => exact canon_spans s f (pos + 1) none acc true (by omega) (by omega) (fun a h => by cases h) (fun _ => .inr rfl) hne
        | some a =>
          have ih := canon_spans s f (pos + 1) none (acc ++ [(a, pos)]) true (by omega) (by omega) (fun a h => by cases h) (fun _ => .inr rfl) (by
            intro x hx
            rw [List.map_append, List.mem_append] at hx
            rcases hx with hx | hx
            · exact hne x hx
            · obtain rfl : x = pieceU s.data.toList a pos := by simpa using hx
              exact pieceU_ne _ _ _ (hst a rfl).1 (by rw [← size_eq]; exact hp))
          rw [List.map_append] at ih
          exact ih
      | false =>
        obtain ⟨hle, hall⟩ := rune_word s pos hlt hs
        simp only [spansFromP, hlt, hs, if_true, Bool.false_eq_true, if_false]
        generalize hK : (Utf8.decode s pos).2 = K at *
        have hspl : s.data.toList.drop pos = (s.data.toList.drop pos).take K ++ s.data.toList.drop (pos + K) := by rw [← List.drop_drop, List.take_append_drop]
        have hu : (s.data.toList.drop pos).take K ≠ [] := by
          intro h0
          have := congrArg List.length h0
          rw [List.length_take, List.length_drop, ← size_eq, List.length_nil] at this
          omega
        rw [hspl, canonFrom_word _ _ _ sp hu hall]
        cases st with
        | none =>
          have ih := canon_spans s f (pos + K) (some pos) acc false (by omega) hle (fun a h => by cases h; exact ⟨by omega, rfl⟩) (fun h => by cases h) hne
          refine ih.trans ?_
          dsimp only
          congr 1
          have e : pieceU s.data.toList pos (pos + K) = (s.data.toList.drop pos).take K := by unfold pieceU; rw [Nat.add_sub_cancel_left]
          rw [e, join_snoc]
          by_cases ha : acc = []
          · rw [ha]
            simp [join_nil]
          · have hsp := (hsn rfl).resolve_left ha
            have hm : acc.map (fun p => pieceU s.data.toList p.1 p.2) ≠ [] := by simpa using ha
            have hj := join_ne (sep := [32]) hm hne
            rw [if_neg hm, if_pos ⟨hsp, hj⟩]
        | some a =>
          have ih := canon_spans s f (pos + K) (some a) acc false (by omega) hle (fun b h => by cases h; exact ⟨by have := (hst a rfl).1; omega, rfl⟩) (fun h => by cases h) hne
          refine ih.trans ?_
          dsimp only
          congr 1
          rw [if_neg (by rw [(hst a rfl).2]; simp), join_snoc, join_snoc, ← pieceU_grow _ _ _ _ (Nat.le_of_lt (hst a rfl).1)]
          split
          · rfl
          · simp [List.append_assoc]
    · obtain rfl : pos = s.size := by omega
      have hd : s.data.toList.drop s.size = [] := List.drop_eq_nil_of_le (by rw [← size_eq]; exact Nat.le_refl _)
      rw [hd, spansFromP_end spR s _ _ _ _ hlt]
      cases st with
      | none => simp [closeSpans, canonFrom]
      | some a => simp [closeSpans, canonFrom]
termination_by f => f

theorem canon_fields (s : ByteArray) : join ((goFieldsP spR s).map (·.data.toList)) [32] = canonL s.data.toList := by
  have h := canon_spans s s.size 0 none [] false (by omega) (Nat.zero_le _) (fun a h => by cases h) (fun _ => .inl rfl) (fun x hx => by cases hx)
  have e : (goFieldsP spR s).map (·.data.toList) = (closeSpans s (spansFromP spR s s.size 0 none [])).map (fun p => pieceU s.data.toList p.1 p.2) := by
    unfold goFieldsP spansOfP
    rw [List.map_map]
    refine List.map_congr_left fun p _ => ?_
    show (s.extract p.1 p.2).data.toList = _
    rw [extract_data]
    rfl
  rw [e, h]
  rfl
theorem canonFrom_length : ∀ (l out : Bs) (sp : Bool), (canonFrom out sp l).length ≤ out.length + 2 * l.length
  | [], out, sp => by simp [canonFrom]
  | c :: t, out, sp => by
    unfold canonFrom
    split
    · have := canonFrom_length t out true
      rw [List.length_cons]
      omega
    · refine Nat.le_trans (canonFrom_length t _ false) ?_
      rw [List.length_append, List.length_cons, List.length_cons]
      split
      · rw [List.length_append]
        simp
        omega
      · simp
        omega
theorem canonL_length (l : Bs) : (canonL l).length ≤ 2 * l.length := by
  have := canonFrom_length l [] false
  simpa [canonL] using this
end Go.Proofs.YtmocoiamhphhnaaGreatDoor
