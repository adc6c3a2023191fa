/- The relation between the evaluator's heap and the world; operands; the first quiet operations. -/
import Derived.Test.YtgjbnebmcmoilaaGreatDoorAxa
import Derived.Laws.Append
import Derived.Laws.CopyRow
import Derived.Laws.OwnMore
import Derived.Laws.StructEq
import Derived.Below
set_option linter.unusedVariables false
set_option linter.unusedSimpArgs false
namespace Go.Proofs.YtgjbnebmcmoilaaGreatDoor.Ax
open Go.RowKit

/-- where a number's block lies, and how many cells it has; what a symbol stands for -/
structure Ev where
  blk : Nat → Option (Nat × Nat)
  sym : Nat → Option Value

mutual
inductive VR (E : Ev) : Value → Value → Prop
  | bool (b : Bool) : VR E (.bool b) (.bool b)
  | int (k : IntKind) (n : Int) : VR E (.int k n) (.int k n)
  | str (s : ByteArray) : VR E (.string s) (.string s)
  | nilp : VR E (.pointer none) (.pointer none)
  | ptr (i b n o : Nat) (h : E.blk i = some (b, n)) : VR E (.pointer (some ⟨i, o, none⟩)) (.pointer (some ⟨b, o, none⟩))
  | nils (l c : Nat) : VR E (.slice none l c) (.slice none l c)
  | sl (i b n o l c : Nat) (h : E.blk i = some (b, n)) : VR E (.slice (some ⟨i, o, none⟩) l c) (.slice (some ⟨b, o, none⟩) l c)
  | sli (i b n es o l c c' : Nat) (h : E.blk i = some (b, n)) (hc : c ≤ c') (hn : o + c' * es ≤ n) : VR E (.slice (some ⟨i, o, some es⟩) l c) (.slice (some ⟨b, o, none⟩) l c')
  | nilm : VR E (.map none) (.map none)
  | mp (i b n : Nat) (h : E.blk i = some (b, n)) : VR E (.map (some i)) (.map (some b))
  | nilf : VR E .nilFunc .nilFunc
  | nili : VR E .nilIface .nilIface
  | fn (f : FuncId) (a b a' b' : List Value) (ha : VRs E a a') (hb : VRs E b b') : VR E (.func (.func f) ⟨a⟩ ⟨b⟩) (.func (.func f) ⟨a'⟩ ⟨b'⟩)
  | agg (a a' : List Value) (ha : VRs E a a') : VR E (.agg ⟨a⟩) (.agg ⟨a'⟩)
  | tup (a a' : List Value) (ha : VRs E a a') : VR E (.tuple ⟨a⟩) (.tuple ⟨a'⟩)
  | sym (k : Nat) (v : Value) (h : E.sym k = some v) (h1 : one v = true) : VR E (.chan (some k)) v
  | emp (p : Addr) (c : Nat) : VR E (.chan none) (.slice (some p) 0 c)
inductive VRs (E : Ev) : List Value → List Value → Prop
  | nil : VRs E [] []
  | cons (v v' : Value) (l l' : List Value) (h : VR E v v') (hs : VRs E l l') : VRs E (v :: l) (v' :: l')
end

structure Ev.Le (E E' : Ev) : Prop where
  blk : ∀ i x, E.blk i = some x → E'.blk i = some x
  sym : ∀ i, E'.sym i = E.sym i
theorem Ev.Le.refl (E : Ev) : E.Le E := ⟨fun _ _ h => h, fun _ => rfl⟩
theorem Ev.Le.trans {E F H : Ev} (h : E.Le F) (k : F.Le H) : E.Le H := ⟨fun i x e => k.blk i x (h.blk i x e), fun i => (k.sym i).trans (h.sym i)⟩

mutual
theorem VR.mono {E E' : Ev} (hE : E.Le E') : ∀ {v v' : Value}, VR E v v' → VR E' v v'
  | _, _, .bool b => .bool b
  | _, _, .int k n => .int k n
  | _, _, .str s => .str s
  | _, _, .nilp => .nilp
  | _, _, .ptr i b n o h => .ptr i b n o (hE.blk _ _ h)
  | _, _, .nils l c => .nils l c
  | _, _, .sl i b n o l c h => .sl i b n o l c (hE.blk _ _ h)
  | _, _, .sli i b n es o l c c' h hc hn => .sli i b n es o l c c' (hE.blk _ _ h) hc hn
  | _, _, .nilm => .nilm
  | _, _, .mp i b n h => .mp i b n (hE.blk _ _ h)
  | _, _, .nilf => .nilf
  | _, _, .nili => .nili
  | _, _, .fn f a b a' b' ha hb => .fn f a b a' b' (VRs.mono hE ha) (VRs.mono hE hb)
  | _, _, .agg a a' ha => .agg a a' (VRs.mono hE ha)
  | _, _, .tup a a' ha => .tup a a' (VRs.mono hE ha)
  | _, _, .sym k v h h1 => .sym k v ((hE.sym k).trans h) h1
  | _, _, .emp p c => .emp p c
theorem VRs.mono {E E' : Ev} (hE : E.Le E') : ∀ {l l' : List Value}, VRs E l l' → VRs E' l l'
  | _, _, .nil => .nil
  | _, _, .cons v v' l l' h hs => .cons v v' l l' (VR.mono hE h) (VRs.mono hE hs)
end

section
variable {E : Ev}
theorem VRs.length {l l' : List Value} (h : VRs E l l') : l'.length = l.length := by
  induction l generalizing l' with
  | nil => cases h; rfl
  | cons v l ih => cases h with | cons _ v' _ l' h hs => simp [ih hs]
theorem VRs.get {l l' : List Value} (h : VRs E l l') : ∀ {j : Nat} {v : Value}, l[j]? = some v → ∃ v', l'[j]? = some v' ∧ VR E v v' := by
  induction l generalizing l' with
  | nil => intro j v hv; simp at hv
  | cons u l ih =>
    cases h with
    | cons _ u' _ l' h hs =>
      intro j v hv
      cases j with
      | zero => simp at hv; subst hv; exact ⟨u', by simp, h⟩
      | succ j => simp at hv; obtain ⟨v', h1, h2⟩ := ih hs hv; exact ⟨v', by simpa using h1, h2⟩
theorem VRs.append {a a' b b' : List Value} (h : VRs E a a') (k : VRs E b b') : VRs E (a ++ b) (a' ++ b') := by
  induction a generalizing a' with
  | nil => cases h; exact k
  | cons u l ih => cases h with | cons _ u' _ l' h hs => exact .cons _ _ _ _ h (ih hs)
theorem VRs.drop {l l' : List Value} (h : VRs E l l') : ∀ n, VRs E (l.drop n) (l'.drop n) := by
  induction l generalizing l' with
  | nil => cases h; intro n; simp; exact .nil
  | cons u l ih =>
    cases h with
    | cons _ u' _ l' h hs => intro n; cases n with
      | zero => exact .cons _ _ _ _ h hs
      | succ n => simpa using ih hs n
theorem VRs.take {l l' : List Value} (h : VRs E l l') : ∀ n, VRs E (l.take n) (l'.take n) := by
  induction l generalizing l' with
  | nil => cases h; intro n; simp; exact .nil
  | cons u l ih =>
    cases h with
    | cons _ u' _ l' h hs => intro n; cases n with
      | zero => simp; exact .nil
      | succ n => simpa using .cons _ _ _ _ h (ih hs n)
theorem closedS_VR {v : Value} (h : closedS v = true) : VR E v v := by
  cases v <;> simp [closedS] at h <;> try constructor
  case pointer a => cases a with | none => exact .nilp | some a => cases h
  case slice a l c => cases a with | none => exact .nils l c | some a => cases h
  case map a => cases a with | none => exact .nilm | some a => cases h
theorem closedL_VRs {l : List Value} (h : closedL l = true) : VRs E l l := by
  induction l with
  | nil => exact .nil
  | cons v l ih => simp [closedL] at h; exact .cons _ _ _ _ (closedS_VR h.1) (ih h.2)
theorem closed_VR {v : Value} (h : closed v = true) : VR E v v := by
  cases v
  case agg a => obtain ⟨l⟩ := a; exact .agg _ _ (closedL_VRs h)
  case tuple a => obtain ⟨l⟩ := a; exact .tup _ _ (closedL_VRs h)
  all_goals exact closedS_VR h
theorem VR.one {v v' : Value} (h : VR E v v') (h1 : one v = true) : Ax.one v' = true := by
  cases h <;> first | rfl | assumption | exact h1
theorem one_oneCell {v : Value} (h : Ax.one v = true) : v.oneCell' = true := by cases v <;> first | rfl | cases h
theorem VRs.ones {l l' : List Value} (h : VRs E l l') (h1 : oneL l = true) : ∀ v ∈ l', v.oneCell' = true := by
  induction l generalizing l' with
  | nil => cases h; intro v hv; cases hv
  | cons u l ih =>
    cases h with
    | cons _ u' _ l' h hs =>
      simp [oneL] at h1
      intro v hv
      cases hv with
      | head => exact one_oneCell (h.one h1.1)
      | tail _ hv => exact ih hs h1.2 v hv
theorem VR.cells {v v' : Value} (h : VR E v v') : VRs E (cellsOf v) v'.cells.toList := by
  cases h <;> first
    | (rename_i ha; exact ha)
    | exact .cons _ _ _ _ (by constructor <;> assumption) .nil
    | skip
  case sym k h h1 => 
    have : v'.cells.toList = [v'] := by cases v' <;> first | rfl | cases h1
    rw [this]
    exact .cons _ _ _ _ (.sym k v' h h1) .nil
end

theorem takeN_spec : ∀ {n : Nat} {l r : List Value}, takeN n l = some r → r = l.take n ∧ n ≤ l.length
  | 0, l, r, h => by simp [takeN] at h; simp [h]
  | n + 1, [], r, h => by simp [takeN] at h
  | n + 1, v :: l, r, h => by
    simp only [takeN, Option.bind_eq_some_iff, Option.some.injEq] at h
    obtain ⟨s, h1, rfl⟩ := h
    obtain ⟨rfl, h2⟩ := takeN_spec h1
    simp; omega
theorem splice_spec : ∀ {n : Nat} {vs l r : List Value}, splice n vs l = some r → r = l.take n ++ vs ++ l.drop (n + vs.length) ∧ n + vs.length ≤ l.length
  | 0, [], l, r, h => by simp [splice] at h; simp [h]
  | 0, v :: vs, [], r, h => by simp [splice] at h
  | 0, v :: vs, x :: l, r, h => by
    simp only [splice, Option.bind_eq_some_iff, Option.some.injEq] at h
    obtain ⟨s, h1, rfl⟩ := h
    obtain ⟨rfl, h2⟩ := splice_spec h1
    simp at h2 ⊢
    omega
  | n + 1, vs, [], r, h => by simp [splice] at h
  | n + 1, vs, x :: l, r, h => by
    simp only [splice, Option.bind_eq_some_iff, Option.some.injEq] at h
    obtain ⟨s, h1, rfl⟩ := h
    obtain ⟨rfl, h2⟩ := splice_spec h1
    rw [show n + 1 + vs.length = (n + vs.length) + 1 by omega]
    simp at h2 ⊢
    omega

end Go.Proofs.YtgjbnebmcmoilaaGreatDoor.Ax

namespace Go.Proofs.YtgjbnebmcmoilaaGreatDoor.Ax
open Go.RowKit

inductive MEs (E : Ev) : List ME → List MapEntry → Prop
  | nil : MEs E [] []
  | cons (k v k' v' : Value) (b : Nat) (l : List ME) (l' : List MapEntry) (hk : VR E k k') (hv : VR E v v') (hs : MEs E l l') : MEs E ((k, v, b) :: l) ({ key := k', val := v', born := b } :: l')
theorem MEs.mono {E E' : Ev} (hE : E.Le E') {l : List ME} {l' : List MapEntry} (h : MEs E l l') : MEs E' l l' := by
  induction h with
  | nil => exact .nil
  | cons k v k' v' b l l' hk hv hs ih => exact .cons _ _ _ _ _ _ _ (hk.mono hE) (hv.mono hE) ih

def OR (E : Ev) (w : World) (i : Nat) : AO → Prop
  | .cells cs rw => ∃ b n arr ty fr, E.blk i = some (b, n) ∧ w.heap[b]? = some (.cells arr ty fr) ∧ arr.size = n ∧ (rw = true → fr = (0, 0)) ∧ cs.length ≤ n ∧ VRs E cs (arr.toList.take cs.length)
  | .map es c => ∃ b n es', E.blk i = some (b, n) ∧ w.heap[b]? = some (.map es' c) ∧ MEs E es es'.toList
  | .iterS s pos => ∃ b n, E.blk i = some (b, n) ∧ w.heap[b]? = some (.stringIter ⟨⟨s⟩⟩ pos)
  | .iterM m since seen stepped => ∃ b n m', E.blk i = some (b, n) ∧ w.heap[b]? = some (.mapIter m' since ⟨seen⟩ stepped) ∧
      (match m with | none => m' = none | some r => ∃ rb rn, E.blk r = some (rb, rn) ∧ m' = some rb)
  | .dead => True
def AO.live : AO → Bool
  | .dead => false
  | _ => true
theorem OR.blk {E : Ev} {w : World} {i : Nat} {o : AO} (h : OR E w i o) (hl : o.live = true) : ∃ b n x, E.blk i = some (b, n) ∧ w.heap[b]? = some x := by
  cases o with
  | cells cs rw => obtain ⟨b, n, arr, ty, fr, h1, h2, _⟩ := h; exact ⟨b, n, _, h1, h2⟩
  | map es c => obtain ⟨b, n, es', h1, h2, _⟩ := h; exact ⟨b, n, _, h1, h2⟩
  | iterS s pos => obtain ⟨b, n, h1, h2⟩ := h; exact ⟨b, n, _, h1, h2⟩
  | iterM m a s t => obtain ⟨b, n, m', h1, h2, _⟩ := h; exact ⟨b, n, _, h1, h2⟩
  | dead => cases hl
theorem OR.mono {E E' : Ev} (hE : E.Le E') {w : World} {i : Nat} {o : AO} (h : OR E w i o) : OR E' w i o := by
  cases o with
  | cells cs rw => obtain ⟨b, n, arr, ty, fr, h1, h2, h3, h4, h5, h6⟩ := h; exact ⟨b, n, arr, ty, fr, hE.blk _ _ h1, h2, h3, h4, h5, h6.mono hE⟩
  | map es c => obtain ⟨b, n, es', h1, h2, h3⟩ := h; exact ⟨b, n, es', hE.blk _ _ h1, h2, h3.mono hE⟩
  | iterS s pos => obtain ⟨b, n, h1, h2⟩ := h; exact ⟨b, n, hE.blk _ _ h1, h2⟩
  | iterM m a s t =>
    obtain ⟨b, n, m', h1, h2, h3⟩ := h
    refine ⟨b, n, m', hE.blk _ _ h1, h2, ?_⟩
    cases m with
    | none => exact h3
    | some r => obtain ⟨rb, rn, h4, h5⟩ := h3; exact ⟨rb, rn, hE.blk _ _ h4, h5⟩
  | dead => trivial
theorem OR.congr {E : Ev} {w w' : World} {i : Nat} {o : AO} (hw : o.live = true → ∀ b n, E.blk i = some (b, n) → w'.heap[b]? = w.heap[b]?) (h : OR E w i o) : OR E w' i o := by
  cases o with
  | cells cs rw => obtain ⟨b, n, arr, ty, fr, h1, h2, h3⟩ := h; exact ⟨b, n, arr, ty, fr, h1, (hw rfl b n h1).trans h2, h3⟩
  | map es c => obtain ⟨b, n, es', h1, h2, h3⟩ := h; exact ⟨b, n, es', h1, (hw rfl b n h1).trans h2, h3⟩
  | iterS s pos => obtain ⟨b, n, h1, h2⟩ := h; exact ⟨b, n, h1, (hw rfl b n h1).trans h2⟩
  | iterM m a s t => obtain ⟨b, n, m', h1, h2, h3⟩ := h; exact ⟨b, n, m', h1, (hw rfl b n h1).trans h2, h3⟩
  | dead => trivial

def HR (E : Ev) (h : Tr AO) (w : World) : Prop := ∀ i o, h.get i = some o → OR E w i o

structure Inv (E : Ev) (σ : St) (ng : Nat) (w : World) : Prop where
  heap : HR E σ.h w
  inj : ∀ i j o o' b n m, σ.h.get i = some o → σ.h.get j = some o' → o.live = true → o'.live = true → E.blk i = some (b, n) → E.blk j = some (b, m) → i = j
  fresh : ∀ i, σ.nx ≤ i → E.blk i = none
  glob : ∀ g, g < ng → ∃ n, E.blk g = some (g, n)
  bnd : ∀ i b n, E.blk i = some (b, n) → b < w.heap.size

structure Stp (E : Ev) (lo nx : Nat) (w : World) (E' : Ev) (w' : World) : Prop where
  le : E.Le E'
  new : ∀ i b n, E'.blk i = some (b, n) → E.blk i = some (b, n) ∨ (nx ≤ i ∧ (w.heap.size ≤ b ∨ ∃ j m, lo ≤ j ∧ E.blk j = some (b, m)))
  size : w.heap.size ≤ w'.heap.size
  os : w'.os = w.os
  tape : w'.tape = w.tape
  output : w'.output = w.output
  frame : ∀ b, b < w.heap.size → (∀ j m, lo ≤ j → E.blk j ≠ some (b, m)) → w'.heap[b]? = w.heap[b]?
structure AStp (lo : Nat) (σ σ' : St) : Prop where
  nx : σ.nx ≤ σ'.nx
  keep : ∀ i, i < lo → σ'.h.get i = σ.h.get i

theorem Stp.refl (E : Ev) (lo nx : Nat) (w : World) : Stp E lo nx w E w := ⟨.refl E, fun _ _ _ h => .inl h, Nat.le_refl _, rfl, rfl, rfl, fun _ _ _ => rfl⟩
theorem AStp.refl (lo : Nat) (σ : St) : AStp lo σ σ := ⟨Nat.le_refl _, fun _ _ => rfl⟩
theorem AStp.trans {lo : Nat} {a b c : St} (h : AStp lo a b) (k : AStp lo b c) : AStp lo a c := ⟨Nat.le_trans h.nx k.nx, fun i hi => (k.keep i hi).trans (h.keep i hi)⟩
theorem Stp.trans {E F H : Ev} {lo nx nx1 : Nat} {a b c : World} (h : Stp E lo nx a F b) (k : Stp F lo nx1 b H c) (hn : nx ≤ nx1) : Stp E lo nx a H c := by
  have key : ∀ j m x, lo ≤ j → F.blk j = some (x, m) → a.heap.size ≤ x ∨ ∃ j m, lo ≤ j ∧ E.blk j = some (x, m) := fun j m x hj hF => by
    rcases h.new j x m hF with h1 | ⟨_, h1⟩
    · exact .inr ⟨j, m, hj, h1⟩
    · exact h1
  refine ⟨h.le.trans k.le, fun i x n hi => ?_, Nat.le_trans h.size k.size, k.os.trans h.os, k.tape.trans h.tape, k.output.trans h.output, fun x hx hj => ?_⟩
  · rcases k.new i x n hi with h1 | ⟨h0, h1 | ⟨j, m, hj, h1⟩⟩
    · exact h.new i x n h1
    · exact .inr ⟨Nat.le_trans hn h0, .inl (Nat.le_trans h.size h1)⟩
    · exact .inr ⟨Nat.le_trans hn h0, key j m x hj h1⟩
  · rw [k.frame x (Nat.lt_of_lt_of_le hx h.size) fun j m hlo hF => ?_, h.frame x hx hj]
    rcases key j m x hlo hF with h1 | ⟨j', m', h1, h2⟩
    · omega
    · exact hj j' m' h1 h2
/-- A world that differs in its draws alone. -/
theorem Inv.drew {E : Ev} {σ : St} {ng : Nat} {w w' : World} (h : Inv E σ ng w) (hw : w'.heap = w.heap) : Inv E σ ng w' :=
  ⟨fun i o hi => (h.heap i o hi).congr fun _ b n _ => by rw [hw], h.inj, h.fresh, h.glob, fun i b n hi => by rw [hw]; exact h.bnd i b n hi⟩

def Ev.ext (E : Ev) (i b n : Nat) : Ev := { E with blk := fun j => if j = i then some (b, n) else E.blk j }
theorem Ev.ext_le {E : Ev} {i b n : Nat} (h : E.blk i = none) : E.Le (E.ext i b n) :=
  ⟨fun j x hj => by
    unfold Ev.ext
    by_cases e : j = i
    · subst e; rw [h] at hj; cases hj
    · simp [e, hj], fun _ => rfl⟩
theorem Ev.ext_here (E : Ev) (i b n : Nat) : (E.ext i b n).blk i = some (b, n) := by simp [Ev.ext]

section
variable {E : Ev} {σ : St} {ng lo : Nat} {w w' : World}
theorem Inv.lt (h : Inv E σ ng w) {i : Nat} {x : Nat × Nat} (hi : E.blk i = some x) : i < σ.nx := by
  rcases Nat.lt_or_ge i σ.nx with h1 | h1
  · exact h1
  · rw [h.fresh i h1] at hi; cases hi
theorem Inv.blk_lt (h : Inv E σ ng w) {i b n : Nat} {o : AO} (hi : σ.h.get i = some o) (hl : o.live = true) (hb : E.blk i = some (b, n)) : b < w.heap.size := by
  obtain ⟨b', n', x, h1, h2⟩ := (h.heap i o hi).blk hl
  rw [hb] at h1
  injection h1 with h1
  injection h1 with h1 h3
  subst h1
  exact (Array.getElem?_eq_some_iff.1 h2).1

/-- A NEW BLOCK. -/
theorem Inv.alloc (h : Inv E σ ng w) (hlo : lo ≤ σ.nx) {o : AO} {x : Obj} {n : Nat} (hh : w'.heap = w.heap.push x) (hos : w'.os = w.os) (hta : w'.tape = w.tape) (hou : w'.output = w.output)
    (ho : OR (E.ext σ.nx w.heap.size n) w' σ.nx o) :
    Inv (E.ext σ.nx w.heap.size n) (put σ o) ng w' ∧ Stp E lo σ.nx w (E.ext σ.nx w.heap.size n) w' ∧ AStp lo σ (put σ o) := by
  have hle := Ev.ext_le (b := w.heap.size) (n := n) (h.fresh σ.nx (Nat.le_refl _))
  have hold : ∀ b, b < w.heap.size → w'.heap[b]? = w.heap[b]? := fun b hb => by rw [hh, Array.getElem?_push]; simp [Nat.ne_of_lt hb]
  have hne : ∀ i o', σ.h.get i = some o' → o'.live = true → i ≠ σ.nx := fun i o' hi hl e => by
    subst e
    obtain ⟨b, m, _, h1, _⟩ := (h.heap _ _ hi).blk hl
    rw [h.fresh _ (Nat.le_refl _)] at h1
    cases h1
  have hext : ∀ i, i ≠ σ.nx → (E.ext σ.nx w.heap.size n).blk i = E.blk i := fun i hi => by simp [Ev.ext, hi]
  refine ⟨⟨fun i o' hi => ?_, fun i j o1 o2 b n1 n2 hi hj l1 l2 e1 e2 => ?_, fun i hi => ?_, fun g hg => ?_, fun i b m hi => ?_⟩, ⟨hle, fun i b m hi => ?_, by rw [hh]; simp, hos, hta, hou, fun b hb _ => hold b hb⟩, ⟨by simp [put], fun i hi => ?_⟩⟩
  · simp only [put, Tr.get_set] at hi
    by_cases e : i = σ.nx
    · subst e; simp at hi; subst hi; exact ho
    · simp [e] at hi
      exact ((h.heap i o' hi).congr fun hl b m hb => hold b (h.blk_lt hi hl hb)).mono hle
  · simp only [put, Tr.get_set] at hi hj
    by_cases ei : i = σ.nx <;> by_cases ej : j = σ.nx
    · rw [ei, ej]
    · simp [ej] at hj
      rw [hext j ej] at e2
      subst ei
      rw [Ev.ext_here] at e1
      injection e1 with e1; injection e1 with e1 _
      have := h.blk_lt hj l2 e2
      omega
    · simp [ei] at hi
      rw [hext i ei] at e1
      subst ej
      rw [Ev.ext_here] at e2
      injection e2 with e2; injection e2 with e2 _
      have := h.blk_lt hi l1 e1
      omega
    · simp [ei] at hi; simp [ej] at hj
      rw [hext i ei] at e1; rw [hext j ej] at e2
      exact h.inj i j o1 o2 b n1 n2 hi hj l1 l2 e1 e2
  · simp only [put] at hi
    rw [hext i (by omega)]
    exact h.fresh i (by omega)
  · obtain ⟨m, hm⟩ := h.glob g hg
    exact ⟨m, hle.blk _ _ hm⟩
  · have hsz : w'.heap.size = w.heap.size + 1 := by rw [hh]; simp
    by_cases e : i = σ.nx
    · subst e
      rw [Ev.ext_here] at hi
      injection hi with hi; injection hi with hi _
      omega
    · rw [hext i e] at hi
      have := h.bnd i b m hi
      omega
  · by_cases e : i = σ.nx
    · subst e
      rw [Ev.ext_here] at hi
      injection hi with hi; injection hi with hi _
      exact .inr ⟨Nat.le_refl _, .inl (by omega)⟩
    · rw [hext i e] at hi; exact .inl hi
  · simp only [put, Tr.get_set]
    simp [show i ≠ σ.nx by omega]

/-- A BLOCK THAT NO NUMBER HAS YET. -/
theorem Inv.adopt (h : Inv E σ ng w) {o : AO} {b n : Nat} (hb : ∀ i m, E.blk i ≠ some (b, m)) (hlt : b < w.heap.size) (ho : OR (E.ext σ.nx b n) w σ.nx o) : Inv (E.ext σ.nx b n) (put σ o) ng w := by
  have hle := Ev.ext_le (b := b) (n := n) (h.fresh σ.nx (Nat.le_refl _))
  have hext : ∀ i, i ≠ σ.nx → (E.ext σ.nx b n).blk i = E.blk i := fun i hi => by simp [Ev.ext, hi]
  refine ⟨fun i o' hi => ?_, fun i j o1 o2 x n1 n2 hi hj l1 l2 e1 e2 => ?_, fun i hi => ?_, fun g hg => ?_, fun i x m hi => ?_⟩
  · simp only [put, Tr.get_set] at hi
    by_cases e : i = σ.nx
    · subst e; simp at hi; subst hi; exact ho
    · simp [e] at hi
      exact (h.heap i o' hi).mono hle
  · simp only [put, Tr.get_set] at hi hj
    by_cases ei : i = σ.nx <;> by_cases ej : j = σ.nx
    · rw [ei, ej]
    · rw [hext j ej] at e2
      subst ei
      rw [Ev.ext_here] at e1
      injection e1 with e1; injection e1 with e1 _
      subst e1
      exact absurd e2 (hb j n2)
    · rw [hext i ei] at e1
      subst ej
      rw [Ev.ext_here] at e2
      injection e2 with e2; injection e2 with e2 _
      subst e2
      exact absurd e1 (hb i n1)
    · simp [ei] at hi; simp [ej] at hj
      rw [hext i ei] at e1; rw [hext j ej] at e2
      exact h.inj i j o1 o2 x n1 n2 hi hj l1 l2 e1 e2
  · simp only [put] at hi
    rw [hext i (by omega)]
    exact h.fresh i (by omega)
  · obtain ⟨m, hm⟩ := h.glob g hg
    exact ⟨m, hle.blk _ _ hm⟩
  · by_cases e : i = σ.nx
    · subst e
      rw [Ev.ext_here] at hi
      injection hi with hi; injection hi with hi _
      omega
    · rw [hext i e] at hi
      exact h.bnd i x m hi
/-- A NEW BLOCK THAT HAS NO NUMBER YET. -/
theorem Inv.push (h : Inv E σ ng w) {x : Obj} (hh : w'.heap = w.heap.push x) : Inv E σ ng w' := by
  have hold : ∀ b, b < w.heap.size → w'.heap[b]? = w.heap[b]? := fun b hb => by rw [hh, Array.getElem?_push]; simp [Nat.ne_of_lt hb]
  refine ⟨fun i o hi => (h.heap i o hi).congr fun hl b n hb => hold b (h.blk_lt hi hl hb), h.inj, h.fresh, h.glob, fun i b n hi => ?_⟩
  have := h.bnd i b n hi
  rw [hh]; simp; omega

/-- WHAT LIES AT A NUMBER IS ANOTHER. -/
theorem Inv.upd (h : Inv E σ ng w) {i b n : Nat} {o o' : AO} (hi : σ.h.get i = some o) (hl : o.live = true) (hlo : lo ≤ i) (hb : E.blk i = some (b, n))
    (hh : ∀ x, x ≠ b → w'.heap[x]? = w.heap[x]?) (hsz : w'.heap.size = w.heap.size) (hos : w'.os = w.os) (hta : w'.tape = w.tape) (hou : w'.output = w.output) (ho : OR E w' i o') :
    Inv E { σ with h := σ.h.set i o' } ng w' ∧ Stp E lo σ.nx w E w' ∧ AStp lo σ { σ with h := σ.h.set i o' } := by
  refine ⟨⟨fun j p hj => ?_, fun j k o1 o2 x n1 n2 hj hk l1 l2 e1 e2 => ?_, h.fresh, h.glob, fun i b n hi => by rw [hsz]; exact h.bnd i b n hi⟩, ⟨.refl E, fun _ _ _ e => .inl e, Nat.le_of_eq hsz.symm, hos, hta, hou, fun x hx hj => ?_⟩, ⟨Nat.le_refl _, fun j hj => ?_⟩⟩
  · simp only [Tr.get_set] at hj
    by_cases e : j = i
    · subst e; simp at hj; subst hj; exact ho
    · simp [e] at hj
      exact (h.heap j p hj).congr fun hlp x m hx => hh x fun ex => e (h.inj j i p o b m n hj hi hlp hl (ex ▸ hx) hb)
  · simp only [Tr.get_set] at hj hk
    by_cases ej : j = i <;> by_cases ek : k = i
    · rw [ej, ek]
    · simp [ek] at hk
      subst ej
      exact h.inj _ _ o o2 x n1 n2 hi hk hl l2 e1 e2
    · simp [ej] at hj
      subst ek
      exact h.inj _ _ o1 o x n1 n2 hj hi l1 hl e1 e2
    · simp [ej] at hj; simp [ek] at hk
      exact h.inj j k o1 o2 x n1 n2 hj hk l1 l2 e1 e2
  · exact hh x fun e => hj i n hlo (e ▸ hb)
  · simp only [Tr.get_set]
    simp [show j ≠ i by omega]

/-- A NUMBER DIES. -/
theorem Inv.kill (h : Inv E σ ng w) {i : Nat} (hlo : lo ≤ i) : Inv E { σ with h := σ.h.set i .dead } ng w ∧ AStp lo σ { σ with h := σ.h.set i .dead } := by
  refine ⟨⟨fun j p hj => ?_, fun j k o1 o2 x n1 n2 hj hk l1 l2 e1 e2 => ?_, h.fresh, h.glob, h.bnd⟩, ⟨Nat.le_refl _, fun j hj => ?_⟩⟩
  · simp only [Tr.get_set] at hj
    by_cases e : j = i
    · subst e; simp at hj; subst hj; trivial
    · simp [e] at hj; exact h.heap j p hj
  · simp only [Tr.get_set] at hj hk
    by_cases ej : j = i
    · subst ej; simp at hj; subst hj; cases l1
    · by_cases ek : k = i
      · subst ek; simp at hk; subst hk; cases l2
      · simp [ej] at hj; simp [ek] at hk
        exact h.inj j k o1 o2 x n1 n2 hj hk l1 l2 e1 e2
  · simp only [Tr.get_set]
    simp [show j ≠ i by omega]

/-- A ROW IS TAKEN OVER BY A NEW NUMBER: its old one has died. -/
theorem Inv.take (h : Inv E σ ng w) {i b n : Nat} {o o' : AO} (hi : σ.h.get i = some o) (hl : o.live = true) (hlo : lo ≤ i) (hb : E.blk i = some (b, n))
    (hh : ∀ x, x ≠ b → w'.heap[x]? = w.heap[x]?) (hsz : w'.heap.size = w.heap.size) (hos : w'.os = w.os) (hta : w'.tape = w.tape) (hou : w'.output = w.output) (ho : OR (E.ext σ.nx b n) w' σ.nx o') :
    Inv (E.ext σ.nx b n) (put { σ with h := σ.h.set i .dead } o') ng w' ∧ Stp E lo σ.nx w (E.ext σ.nx b n) w' ∧ AStp lo σ (put { σ with h := σ.h.set i .dead } o') := by
  have hle := Ev.ext_le (b := b) (n := n) (h.fresh σ.nx (Nat.le_refl _))
  have hin := h.lt hb
  have hext : ∀ j, j ≠ σ.nx → (E.ext σ.nx b n).blk j = E.blk j := fun j hj => by simp [Ev.ext, hj]
  have hget : ∀ j p, (put { σ with h := σ.h.set i .dead } o').h.get j = some p → p.live = true → (j = σ.nx ∧ p = o') ∨ (j ≠ σ.nx ∧ j ≠ i ∧ σ.h.get j = some p) := fun j p hj hp => by
    simp only [put, Tr.get_set] at hj
    by_cases e : j = σ.nx
    · subst e; simp at hj; exact .inl ⟨rfl, hj.symm⟩
    · by_cases e2 : j = i
      · subst e2; simp [e] at hj; subst hj; cases hp
      · simp [e, e2] at hj; exact .inr ⟨e, e2, hj⟩
  refine ⟨⟨fun j p hj => ?_, fun j k o1 o2 x n1 n2 hj hk l1 l2 e1 e2 => ?_, fun j hj => ?_, fun g hg => ?_, fun j x m hj => ?_⟩, ⟨hle, fun j x m hj => ?_, Nat.le_of_eq hsz.symm, hos, hta, hou, fun x hx hj => ?_⟩, ⟨by simp [put], fun j hj => ?_⟩⟩
  · cases hp : p.live with
    | false => cases p <;> first | trivial | cases hp
    | true =>
      rcases hget j p hj hp with ⟨rfl, rfl⟩ | ⟨h1, h2, h3⟩
      · exact ho
      · exact ((h.heap j p h3).congr fun hlp x m hx => hh x fun ex => h2 (h.inj j i p o b m n h3 hi hlp hl (ex ▸ hx) hb)).mono hle
  · rcases hget j o1 hj l1 with ⟨rfl, rfl⟩ | ⟨a1, a2, a3⟩ <;> rcases hget k o2 hk l2 with ⟨rfl, rfl⟩ | ⟨c1, c2, c3⟩
    · rfl
    · rw [Ev.ext_here] at e1
      rw [hext _ c1] at e2
      injection e1 with e1; injection e1 with e1 _
      subst e1
      exact absurd (h.inj k i o2 o b n2 n c3 hi l2 hl e2 hb) c2
    · rw [Ev.ext_here] at e2
      rw [hext _ a1] at e1
      injection e2 with e2; injection e2 with e2 _
      subst e2
      exact absurd (h.inj j i o1 o b n1 n a3 hi l1 hl e1 hb) a2
    · rw [hext _ a1] at e1; rw [hext _ c1] at e2
      exact h.inj j k o1 o2 x n1 n2 a3 c3 l1 l2 e1 e2
  · simp only [put] at hj
    rw [hext j (by omega)]
    exact h.fresh j (by omega)
  · obtain ⟨m, hm⟩ := h.glob g hg
    exact ⟨m, hle.blk _ _ hm⟩
  · rw [hsz]
    by_cases e : j = σ.nx
    · subst e
      rw [Ev.ext_here] at hj
      injection hj with hj; injection hj with hj _
      subst hj
      exact h.bnd _ _ _ hb
    · rw [hext j e] at hj
      exact h.bnd _ _ _ hj
  · by_cases e : j = σ.nx
    · subst e
      rw [Ev.ext_here] at hj
      injection hj with hj; injection hj with hj _
      exact .inr ⟨Nat.le_refl _, .inr ⟨i, n, hlo, hj ▸ hb⟩⟩
    · rw [hext j e] at hj; exact .inl hj
  · exact hh x fun e => hj i n hlo (e ▸ hb)
  · simp only [put, Tr.get_set]
    simp [show j ≠ σ.nx by omega, show j ≠ i by omega]
end

end Go.Proofs.YtgjbnebmcmoilaaGreatDoor.Ax

namespace Go.Proofs.YtgjbnebmcmoilaaGreatDoor.Ax
open Go.RowKit

structure TyOk (P : Program) (t : TypeId) (ti : TI) : Prop where
  info : ∃ i z, P.info? t = some i ∧ i.size = ti.size ∧ i.bytes = ti.bytes ∧ i.zero = some z ∧ wrapV ti.agg ti.zero = some z ∧ z.cells.toList = ti.zero
  und : P.underlying t = some ti.k
  agg : ti.agg = aggK ti.k
  zcl : closedL ti.zero = true
  zlen : ti.zero.length = ti.size
  fields : ∀ fs, ti.k = .struct fs → ti.fs = fs.toList.map (fiOf P) ∧ ∀ f ∈ fs.toList, ∃ i k, P.info? f.type = some i ∧ P.underlying f.type = some k
  cmp : ti.cmp = true → ∀ fs, ti.k = .struct fs → (∀ f ∈ fs.toList, f.name ≠ "_") ∧ P.stoodInHeld t = false ∧ P.eqGuardType P.depth t = false

def TypesOk (P : Program) (G : Gv) : Prop := ∀ t ti, G.types.get t = some ti → TyOk P t ti
/-- the temporaries -/
def TR (E : Ev) (T : Tm) (tm : Array Value) : Prop := tm.size = T.n ∧ ∀ t v, T.t.get t = some v → ∃ v', tm[t]? = some v' ∧ VR E v v'
def Glob (E : Ev) (ng : Nat) : Prop := ∀ g, g < ng → ∃ n, E.blk g = some (g, n)

theorem aggK_run {P : Program} {w : World} {t : TypeId} {k : TypeDesc} (h : P.underlying t = some k) : (isAgg t).run P w = .ok (aggK k) w := by
  unfold isAgg
  rw [Sem.run_bind, run_underlying h]
  cases k <;> rfl

section
variable {P : Program} {G : Gv} {E : Ev} {w : World} {a : Act} {T : Tm} {h : Tr AO}
theorem TyOk.sizeOf {t : TypeId} {ti : TI} (k : TyOk P t ti) : (Go.sizeOf t).run P w = .ok ti.size w := by
  obtain ⟨i, z, h1, h2, _⟩ := k.info
  simp [Go.sizeOf, typeInfo, h1, h2]
theorem TyOk.bytes {t : TypeId} {ti : TI} (k : TyOk P t ti) : ∃ i, (typeInfo t).run P w = .ok i w ∧ i.bytes = ti.bytes := by
  obtain ⟨i, z, h1, _, h2, _⟩ := k.info
  exact ⟨i, by simp [typeInfo, h1], h2⟩
theorem TyOk.isAgg {t : TypeId} {ti : TI} (k : TyOk P t ti) : (Go.isAgg t).run P w = .ok ti.agg w := by rw [k.agg]; exact aggK_run k.und
theorem TyOk.zero {t : TypeId} {ti : TI} (k : TyOk P t ti) : ∃ z, (zeroValue t).run P w = .ok z w ∧ wrapV ti.agg ti.zero = some z ∧ z.cells.toList = ti.zero := by
  obtain ⟨i, z, h1, _, _, h2, h3, h4⟩ := k.info
  exact ⟨z, by simp [zeroValue, typeInfo, h1, h2], h3, h4⟩
theorem TyOk.zeroV {t : TypeId} {ti : TI} (k : TyOk P t ti) {z : Value} (hz : wrapV ti.agg ti.zero = some z) : VR E z z := by
  have hc := k.zcl
  cases ha : ti.agg with
  | true => rw [ha] at hz; simp [wrapV] at hz; subst hz; exact .agg _ _ (closedL_VRs hc)
  | false =>
    rw [ha] at hz
    unfold wrapV at hz
    simp only at hz
    split at hz
    · rename_i v hv
      injection hz with hz; subst hz
      rw [hv] at hc
      simp [closedL] at hc
      exact closedS_VR hc
    · cases hz

theorem ev_sound (hg : Glob E G.ng) (hT : TR E T a.tmps) {x : Operand} {v : Value} (hx : ev G T x = some v) : VR E v (a.eval x) := by
  cases x with
  | tmp t =>
    obtain ⟨v', h1, h2⟩ := hT.2 t v hx
    simpa [Act.eval, h1] using h2
  | const u =>
    simp only [ev] at hx
    split at hx
    · rename_i hc; injection hx with hx; subst hx; exact closed_VR hc
    · cases hx
  | global g =>
    simp only [ev] at hx
    split at hx
    · rename_i hc
      injection hx with hx; subst hx
      obtain ⟨n, hn⟩ := hg g (by simpa using hc)
      exact .ptr _ _ _ _ hn
    · cases hx
  | func f => simp only [ev, Option.some.injEq] at hx; subst hx; exact .fn f [] [] [] [] .nil .nil
theorem evs_sound (hg : Glob E G.ng) (hT : TR E T a.tmps) : ∀ {l : List Operand} {vs : List Value}, evs G T l = some vs → VRs E vs (l.map a.eval)
  | [], vs, hx => by simp [evs] at hx; subst hx; exact .nil
  | x :: l, vs, hx => by
    simp only [evs, Option.bind_eq_some_iff, Option.some.injEq] at hx
    obtain ⟨v, h1, r, h2, rfl⟩ := hx
    exact .cons _ _ _ _ (ev_sound hg hT h1) (evs_sound hg hT h2)
/-- parts of a composite -/
inductive PRs (E : Ev) : List (Nat × Value) → List (Nat × Value) → Prop
  | nil : PRs E [] []
  | cons (i : Nat) (v v' : Value) (l l' : List (Nat × Value)) (h : VR E v v') (hs : PRs E l l') : PRs E ((i, v) :: l) ((i, v') :: l')
theorem evP_sound (hg : Glob E G.ng) (hT : TR E T a.tmps) : ∀ {l : List (Nat × Operand)} {vs : List (Nat × Value)}, evP G T l = some vs → PRs E vs (l.map fun p => (p.1, a.eval p.2))
  | [], vs, hx => by simp [evP] at hx; subst hx; exact .nil
  | (i, x) :: l, vs, hx => by
    simp only [evP, Option.bind_eq_some_iff, Option.some.injEq] at hx
    obtain ⟨v, h1, r, h2, rfl⟩ := hx
    exact .cons _ _ _ _ _ (ev_sound hg hT h1) (evP_sound hg hT h2)

theorem rd_sound (hh : HR E h w) {i b n off m : Nat} {cs : List Value} (hb : E.blk i = some (b, n)) (hr : rd h i off m = some cs) :
    ∃ cs', VRs E cs cs' ∧ cs'.length = m ∧ ∀ j u, cs'[j]? = some u → w.cell? ((⟨b, off, none⟩ : Addr).add j) = some u := by
  unfold rd at hr
  split at hr
  · rename_i cs0 rw0 hi
    obtain ⟨b', n', arr, ty, fr, h1, h2, h3, _, h5, h6⟩ := hh i _ hi
    rw [hb] at h1
    injection h1 with h1
    injection h1 with h1 h1'
    subst h1; subst h1'
    obtain ⟨rfl, h7⟩ := takeN_spec hr
    rw [List.length_drop] at h7
    refine ⟨((arr.toList.take cs0.length).drop off).take m, (h6.drop off).take m, ?_, fun j u hj => ?_⟩
    · simp; omega
    · rw [Addr.add_lit, cell_of_row w b (off + j) arr ty fr h2]
      rw [List.getElem?_take] at hj
      split at hj
      · rw [List.getElem?_drop, List.getElem?_take] at hj
        split at hj
        · simpa using hj
        · cases hj
      · cases hj
  · cases hr
theorem wrapV_sound {agg : Bool} {cs cs' : List Value} {v : Value} (hw : wrapV agg cs = some v) (hv : VRs E cs cs') : ∃ v', wrapV agg cs' = some v' ∧ VR E v v' := by
  cases agg with
  | true => simp only [wrapV, Option.some.injEq] at hw; subst hw; exact ⟨_, rfl, .agg _ _ hv⟩
  | false =>
    simp only [wrapV] at hw
    split at hw
    · injection hw with hw; subst hw
      cases hv with
      | cons _ v' _ l' h1 h2 => cases h2; exact ⟨v', rfl, h1⟩
    · cases hw
theorem addr_add0 (x : Addr) : x.add 0 = x := by unfold Addr.add; simp
theorem load_run {t : TypeId} {ti : TI} (hty : TyOk P t ti) {x : Addr} {cs' : List Value} {v' : Value} (hl : cs'.length = ti.size) (hc : ∀ j u, cs'[j]? = some u → w.cell? (x.add j) = some u) (hw : wrapV ti.agg cs' = some v') :
    (loadVar t x).run P w = .ok v' w := by
  unfold loadVar
  rw [Sem.run_bind, hty.isAgg, Result.andThen_ok]
  cases ha : ti.agg with
  | true =>
    rw [ha] at hw
    simp only [wrapV, Option.some.injEq] at hw
    simp only [if_true, Sem.run_bind, hty.sizeOf, Result.andThen_ok]
    rw [← hl, run_loadCells_list w x cs' hc]
    simp only [Result.andThen_ok, Sem.run_pure]
    rw [← hw]
  | false =>
    rw [ha] at hw
    simp only [wrapV] at hw
    split at hw
    · injection hw with hw; subst hw
      have := hc 0 _ rfl
      rw [addr_add0] at this
      simp only [Bool.false_eq_true, if_false]
      rw [run_load, this]
    · cases hw
theorem qload_sound (hG : TypesOk P G) (hh : HR E h w) {t : TypeId} {x x' v : Value} (hx : VR E x x') (hq : qload G h t x = some v) : ∃ v', VR E v v' ∧ (Instr.loadAt t x').run P w = .ok v' w := by
  unfold qload at hq
  split at hq
  · rename_i i off
    simp only [Option.bind_eq_some_iff] at hq
    obtain ⟨ti, h1, cs, h2, h3⟩ := hq
    cases hx with
    | ptr _ b n _ hb =>
      obtain ⟨cs', a1, a2, a3⟩ := rd_sound hh hb h2
      obtain ⟨v', b1, b2⟩ := wrapV_sound h3 a1
      refine ⟨v', b2, ?_⟩
      unfold Instr.loadAt Instr.sureAddr
      simp only [Sem.run_bind, Sem.run_pure, Result.andThen_ok]
      exact load_run (hG _ _ h1) a2 a3 b1
  · cases hq

theorem part_run {t : TypeId} {k : TypeDesc} {i : TypeInfo} (hk : P.underlying t = some k) (hi : P.info? t = some i) {cs c : List Value} {off : Nat} {v : Value} (hc : takeN i.size (cs.drop off) = some c) (hw : wrapV (aggK k) c = some v) :
    (part t ⟨cs⟩ off).run P w = .ok v w := by
  unfold part
  rw [Sem.run_bind, aggK_run hk, Result.andThen_ok]
  obtain ⟨rfl, hl⟩ := takeN_spec hc
  cases ha : aggK k with
  | true =>
    rw [ha] at hw
    simp only [wrapV, Option.some.injEq] at hw
    subst hw
    have hs : (Go.sizeOf t).run P w = .ok i.size w := by simp [Go.sizeOf, typeInfo, hi]
    simp only [if_true, Sem.run_bind, hs, Result.andThen_ok, Sem.run_pure]
    congr 2
    apply Array.ext'
    simp [List.drop_take]
  | false =>
    rw [ha] at hw
    simp only [wrapV] at hw
    split at hw
    · rename_i u hu
      injection hw with hw; subst hw
      have : cs[off]? = some u := by
        have h0 : (List.take i.size (List.drop off cs))[0]? = some u := by rw [hu]; rfl
        rw [List.getElem?_take] at h0
        split at h0
        · simpa using h0
        · cases h0
      simp [this]
    · cases hw
/-- a field of a struct's type, and what is kept of it -/
theorem TyOk.fi {t : TypeId} {ti : TI} (k : TyOk P t ti) {fs : Array Field} (hk : ti.k = .struct fs) {j : Nat} {f : FI} (hf : ti.fs[j]? = some f) :
    ∃ fl i kk, fs[j]? = some fl ∧ f = fiOf P fl ∧ P.info? fl.type = some i ∧ P.underlying fl.type = some kk ∧ f.size = i.size ∧ f.agg = aggK kk ∧ f.off = fl.offset ∧ f.ty = fl.type := by
  obtain ⟨h1, h2⟩ := k.fields fs hk
  rw [h1, List.getElem?_map] at hf
  cases hfl : fs.toList[j]? with
  | none => rw [hfl] at hf; cases hf
  | some fl =>
    rw [hfl] at hf
    simp at hf
    obtain ⟨i, kk, h3, h4⟩ := h2 fl (List.mem_of_getElem? hfl)
    refine ⟨fl, i, kk, by simpa using hfl, hf.symm, h3, h4, ?_, ?_, ?_, ?_⟩ <;> subst hf <;> simp [fiOf, Program.cellsOf, h3, h4]
theorem part1_run {fl : Field} {i : TypeInfo} {kk : TypeDesc} (hi : P.info? fl.type = some i) (hk : P.underlying fl.type = some kk) {cs : List Value} {v : Value} (hp : part1 (fiOf P fl) cs = some v) :
    (part fl.type ⟨cs⟩ fl.offset).run P w = .ok v w := by
  unfold part1 at hp
  split at hp
  · cases hp
  · simp only [Option.bind_eq_some_iff] at hp
    obtain ⟨c, h1, h2⟩ := hp
    have e1 : (fiOf P fl).size = i.size := by simp [fiOf, Program.cellsOf, hi]
    have e2 : (fiOf P fl).agg = aggK kk := by simp [fiOf, hk]
    rw [e1] at h1
    rw [e2] at h2
    exact part_run hk hi h1 h2
theorem part1_VR {f : FI} {cs cs' : List Value} (hv : VRs E cs cs') {v : Value} (hp : part1 f cs = some v) : ∃ v', part1 f cs' = some v' ∧ VR E v v' := by
  unfold part1 at hp ⊢
  split at hp
  · cases hp
  · simp only [Option.bind_eq_some_iff] at hp
    obtain ⟨c, h1, h2⟩ := hp
    obtain ⟨rfl, hl⟩ := takeN_spec h1
    obtain ⟨v', h3, h4⟩ := wrapV_sound h2 ((hv.drop f.off).take f.size)
    have : takeN f.size (cs'.drop f.off) = some ((cs'.drop f.off).take f.size) := by
      have hl' : f.size ≤ (cs'.drop f.off).length := by rw [List.length_drop] at hl ⊢; rw [hv.length]; exact hl
      clear h3 h1 h2 h4 hl hv
      generalize cs'.drop f.off = l at hl' ⊢
      generalize f.size = m at hl' ⊢
      induction m generalizing l with
      | zero => simp [takeN]
      | succ m ih => cases l with
        | nil => simp at hl'
        | cons u l => simp at hl'; simp [takeN, ih l hl']
    exact ⟨v', by simp only [Option.bind_eq_some_iff]; exact ⟨_, this, h3⟩, h4⟩
theorem qfield_sound (hG : TypesOk P G) {t : TypeId} {f : Nat} {x x' v : Value} (hx : VR E x x') (hq : qfield G t f x = some v) : ∃ v', VR E v v' ∧ (Instr.field t x' f).run P w = .ok v' w := by
  unfold qfield at hq
  split at hq
  · rename_i cs
    simp only [Option.bind_eq_some_iff] at hq
    obtain ⟨ti, h1, h2⟩ := hq
    have hty := hG _ _ h1
    split at h2
    · rename_i fs hk
      simp only [Option.bind_eq_some_iff] at h2
      obtain ⟨fl, h3, h4⟩ := h2
      obtain ⟨fl', i, kk, a1, rfl, a2, a3, _⟩ := hty.fi hk h3
      cases hx with
      | agg _ cs' hcs =>
        obtain ⟨v', b1, b2⟩ := part1_VR hcs h4
        refine ⟨v', b2, ?_⟩
        unfold Instr.field
        rw [Sem.run_bind, run_underlying (hk ▸ hty.und)]
        simp only [Result.andThen_ok, a1, asAgg, Sem.run_bind, Sem.run_pure]
        exact part1_run a2 a3 b1
    · cases h2
  · cases hq
theorem qfieldAddr_sound (hG : TypesOk P G) {t : TypeId} {f : Nat} {x x' v : Value} (hx : VR E x x') (hq : qfieldAddr G t f x = some v) : ∃ v', VR E v v' ∧ (Instr.fieldAt t x' f).run P w = .ok v' w := by
  unfold qfieldAddr at hq
  split at hq
  · rename_i i off
    simp only [Option.bind_eq_some_iff] at hq
    obtain ⟨ti, h1, h2⟩ := hq
    have hty := hG _ _ h1
    split at h2
    · rename_i fs hk
      simp only [Option.bind_eq_some_iff] at h2
      obtain ⟨fl, h3, h4⟩ := h2
      obtain ⟨fl', ii, kk, a1, a0, a2, a3, a4, _, a5, _⟩ := hty.fi hk h3
      split at h4
      · cases h4
      · rename_i hne
        injection h4 with h4; subst h4
        cases hx with
        | ptr _ b n _ hb =>
          refine ⟨_, .ptr _ b n (off + fl.off) hb, ?_⟩
          unfold Instr.fieldAt Instr.sureAddr
          rw [Sem.run_bind, run_underlying (hk ▸ hty.und)]
          have hs : (Go.sizeOf fl'.type).run P w = .ok ii.size w := by simp [Go.sizeOf, typeInfo, a2]
          have h0 : ¬ ii.size = 0 := fun e => hne (a4.trans e)
          simp only [Result.andThen_ok, a1, Sem.run_bind, Sem.run_pure, fieldPlace, hs, h0, if_false, Addr.add_lit, ← a5]
    · cases h2
  · cases hq
end
end Go.Proofs.YtgjbnebmcmoilaaGreatDoor.Ax
