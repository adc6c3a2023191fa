/- The clocks in the heap, as a whole: what becomes of them when one of them is written, or a new one comes. -/
import Derived.Test.YtahklchfchjmcaaDoorRx
namespace Go.Proofs.YtahklchfchjmcaaDoor
set_option linter.unusedVariables false
set_option linter.unusedSimpArgs false
open Go.RowKit Go.MapKept

/-- Only blocks of F, or new ones, are other. -/
structure Fr (w w' : World) (F : Nat → Prop) : Prop where
  os : w'.os = w.os
  tape : w'.tape = w.tape
  output : w'.output = w.output
  size : w.heap.size ≤ w'.heap.size
  block : ∀ k, k < w.heap.size → ¬ F k → w'.heap[k]? = w.heap[k]?

theorem Fr.refl (w : World) (F : Nat → Prop) : Fr w w F := ⟨rfl, rfl, rfl, Nat.le_refl _, fun _ _ _ => rfl⟩
theorem Fr.trans {a b c : World} {F G : Nat → Prop} (h : Fr a b F) (k : Fr b c G) (hG : ∀ j, G j → F j ∨ a.heap.size ≤ j) : Fr a c F :=
  ⟨k.os.trans h.os, k.tape.trans h.tape, k.output.trans h.output, Nat.le_trans h.size k.size, fun i hi hn =>
    (k.block i (Nat.lt_of_lt_of_le hi h.size) (fun e => (hG i e).elim hn fun e => by omega)).trans (h.block i hi hn)⟩
theorem Fr.grown {a b : World} {row : Option Nat} {F : Nat → Prop} (h : a.grownBy b row) (hr : ∀ k, row = some k → F k ∨ a.heap.size ≤ k) : Fr a b F :=
  ⟨h.os, h.tape, h.output, h.size, fun i hi hn => h.block i hi (fun e => (hr i e.symm).elim hn fun e => by omega)⟩
theorem Fr.below {a b : World} (h : Below a.heap.size a b) (F : Nat → Prop) : Fr a b F := ⟨h.os, h.tape, h.output, h.size, fun i hi _ => h.block i hi⟩
theorem Fr.mono {a b : World} {F G : Nat → Prop} (h : Fr a b F) (hG : ∀ k, k < a.heap.size → F k → G k) : Fr a b G :=
  ⟨h.os, h.tape, h.output, h.size, fun i hi hn => h.block i hi (fun e => hn (hG i hi e))⟩
theorem Fr.to_below {a b : World} {F : Nat → Prop} (h : Fr a b F) {B : Nat} (hB : B ≤ a.heap.size) (hF : ∀ k, F k → B ≤ k) : Below B a b :=
  ⟨h.os, h.tape, h.output, h.size, fun k hk => h.block k (by omega) (fun e => by have := hF k e; omega)⟩
theorem Fr.cell {a b : World} {F : Nat → Prop} (h : Fr a b F) {p : Addr} {u : Value} (hc : a.cell? p = some u) (hn : ¬ F p.block) : b.cell? p = some u :=
  (World.cell?_of_block (h.block p.block (World.block_lt_of_cell? a p hc) hn)).trans hc

/-- Block p holds the clocks s; bt, bv: its maps; T, V: where the clocks lie. -/
structure CksAt (w : World) (p bt bv : Nat) (T : Int → Option Nat) (V : ByteArray → Option Nat) (s : CS) : Prop where
  c0 : w.cell? ⟨p, 0, none⟩ = some (.map (some bt))
  c1 : w.cell? ⟨p, 1, none⟩ = some (.map (some bv))
  mt : MapAt ienc w bt (fun t => (T t).map fun b => .map (some b))
  mv : MapAt senc w bv (fun x => (V x).map fun b => .map (some b))
  tc : ∀ t b, T t = some b → ClkAt w b (s.tc t)
  t0 : ∀ t, T t = none → ∀ u, s.tc t u = 0
  vc : ∀ x b, V x = some b → ClkAt w b (s.vc x)
  v0 : ∀ x, V x = none → ∀ u, s.vc x u = 0
  ti : ∀ t t' b, T t = some b → T t' = some b → t = t'
  vi : ∀ t t' b, V t = some b → V t' = some b → t = t'
  tv : ∀ t x b, T t = some b → V x ≠ some b
  tn : ∀ t b, T t = some b → b ≠ bt ∧ b ≠ bv
  vn : ∀ x b, V x = some b → b ≠ bt ∧ b ≠ bv
  ne : bt ≠ bv

def Foot (bt bv : Nat) (T : Int → Option Nat) (V : ByteArray → Option Nat) : Nat → Prop := fun k => k = bt ∨ k = bv ∨ (∃ t, T t = some k) ∨ ∃ x, V x = some k

section
variable {w w' : World} {p bt bv : Nat} {T : Int → Option Nat} {V : ByteArray → Option Nat} {s : CS}

theorem CksAt.lt (h : CksAt w p bt bv T V s) {k : Nat} (hk : Foot bt bv T V k) : k < w.heap.size := by
  rcases hk with rfl | rfl | ⟨t, ht⟩ | ⟨x, hx⟩
  · exact h.mt.lt
  · exact h.mv.lt
  · exact (h.tc t k ht).lt
  · exact (h.vc x k hx).lt
theorem CksAt.plt (h : CksAt w p bt bv T V s) : p < w.heap.size := World.block_lt_of_cell? w _ h.c0
theorem CksAt.p_not (h : CksAt w p bt bv T V s) {b : Nat} (hb : Foot bt bv T V b) : p ≠ b := by
  have hc : ∃ es c, w.heap[b]? = some (.map es c) := by
    rcases hb with rfl | rfl | ⟨t, ht⟩ | ⟨x, hx⟩
    · obtain ⟨es, c, h1, _⟩ := h.mt; exact ⟨es, c, h1⟩
    · obtain ⟨es, c, h1, _⟩ := h.mv; exact ⟨es, c, h1⟩
    · obtain ⟨f, ⟨es, c, h1, _⟩, _⟩ := h.tc t b ht; exact ⟨es, c, h1⟩
    · obtain ⟨f, ⟨es, c, h1, _⟩, _⟩ := h.vc x b hx; exact ⟨es, c, h1⟩
  obtain ⟨es, c, hc⟩ := hc
  rintro rfl
  have := h.c0
  simp [World.cell?, hc] at this

/-- Nothing of them is written. -/
theorem CksAt.keep (h : CksAt w p bt bv T V s) (hk : ∀ k, k < w.heap.size → k = p ∨ Foot bt bv T V k → w'.heap[k]? = w.heap[k]?) : CksAt w' p bt bv T V s where
  c0 := (World.cell?_of_block (hk p h.plt (.inl rfl))).trans h.c0
  c1 := (World.cell?_of_block (hk p h.plt (.inl rfl))).trans h.c1
  mt := h.mt.keep (hk _ h.mt.lt (.inr (.inl rfl)))
  mv := h.mv.keep (hk _ h.mv.lt (.inr (.inr (.inl rfl))))
  tc t b hb := (h.tc t b hb).keep (hk _ (h.tc t b hb).lt (.inr (.inr (.inr (.inl ⟨t, hb⟩)))))
  t0 := h.t0
  vc t b hb := (h.vc t b hb).keep (hk _ (h.vc t b hb).lt (.inr (.inr (.inr (.inr ⟨t, hb⟩)))))
  v0 := h.v0
  ti := h.ti
  vi := h.vi
  tv := h.tv
  tn := h.tn
  vn := h.vn
  ne := h.ne
theorem CksAt.below (h : CksAt w p bt bv T V s) (hb : Below w.heap.size w w') : CksAt w' p bt bv T V s := h.keep fun k hk _ => hb.block k hk
theorem CksAt.fr {F : Nat → Prop} (h : CksAt w p bt bv T V s) (hb : Fr w w' F) (hF : ∀ k, F k → k ≠ p ∧ ¬ Foot bt bv T V k) : CksAt w' p bt bv T V s :=
  h.keep fun k hk hf => hb.block k hk fun e => by
    have := hF k e
    rcases hf with rfl | hf
    · exact this.1 rfl
    · exact this.2 hf

/-- A task's clock is written. -/
theorem CksAt.setT (h : CksAt w p bt bv T V s) {t : Int} {b : Nat} (ht : T t = some b) (hg : w.grownBy w' (some b)) {c : Int → Int} (hc : ClkAt w' b c) :
    CksAt w' p bt bv T V ⟨fun u => if u = t then c else s.tc u, s.vc⟩ := by
  have hb : Foot bt bv T V b := .inr (.inr (.inl ⟨t, ht⟩))
  have hn := h.tn t b ht
  have hk : ∀ k, k < w.heap.size → k ≠ b → w'.heap[k]? = w.heap[k]? := fun k hk hne => hg.block k hk (fun e => hne (by injection e))
  refine ⟨(World.cell?_of_block (hk p h.plt (h.p_not hb))).trans h.c0, (World.cell?_of_block (hk p h.plt (h.p_not hb))).trans h.c1, h.mt.keep (hk _ h.mt.lt hn.1.symm), h.mv.keep (hk _ h.mv.lt hn.2.symm), fun u d hu => ?_, fun u hu => ?_, fun x d hx => ?_, h.v0, h.ti, h.vi, h.tv, h.tn, h.vn, h.ne⟩
  · by_cases e : u = t
    · subst e
      rw [ht] at hu; cases hu
      simpa using hc
    · simp only [if_neg e]
      exact (h.tc u d hu).keep (hk _ (h.tc u d hu).lt (fun e' => e (h.ti u t d hu (by rw [e']; exact ht))))
  · by_cases e : u = t
    · subst e; rw [ht] at hu; cases hu
    · simp only [if_neg e]; exact h.t0 u hu
  · exact (h.vc x d hx).keep (hk _ (h.vc x d hx).lt (fun e' => h.tv t x b ht (by rw [← e']; exact hx)))

/-- A variable's clock is written. -/
theorem CksAt.setV (h : CksAt w p bt bv T V s) {x : ByteArray} {b : Nat} (hx : V x = some b) (hg : w.grownBy w' (some b)) {c : Int → Int} (hc : ClkAt w' b c) :
    CksAt w' p bt bv T V ⟨s.tc, fun y => if y = x then c else s.vc y⟩ := by
  have hb : Foot bt bv T V b := .inr (.inr (.inr ⟨x, hx⟩))
  have hn := h.vn x b hx
  have hk : ∀ k, k < w.heap.size → k ≠ b → w'.heap[k]? = w.heap[k]? := fun k hk hne => hg.block k hk (fun e => hne (by injection e))
  refine ⟨(World.cell?_of_block (hk p h.plt (h.p_not hb))).trans h.c0, (World.cell?_of_block (hk p h.plt (h.p_not hb))).trans h.c1, h.mt.keep (hk _ h.mt.lt hn.1.symm), h.mv.keep (hk _ h.mv.lt hn.2.symm), fun u d hu => ?_, h.t0, fun y d hy => ?_, fun y hy => ?_, h.ti, h.vi, h.tv, h.tn, h.vn, h.ne⟩
  · exact (h.tc u d hu).keep (hk _ (h.tc u d hu).lt (fun e' => h.tv u x d hu (by rw [e']; exact hx)))
  · by_cases e : y = x
    · subst e
      rw [hx] at hy; cases hy
      simpa using hc
    · simp only [if_neg e]
      exact (h.vc y d hy).keep (hk _ (h.vc y d hy).lt (fun e' => e (h.vi y x d hy (by rw [e']; exact hx))))
  · by_cases e : y = x
    · subst e; rw [hx] at hy; cases hy
    · simp only [if_neg e]; exact h.v0 y hy

open Classical in
/-- A new task's clock comes: block b, which is new, and is stored. -/
theorem CksAt.newT (h : CksAt w p bt bv T V s) {t : Int} {b : Nat} (ht : T t = none) (hb : w.heap.size ≤ b) {w1 : World} (hw : Below w.heap.size w w1) (hc : ClkAt w1 b (fun _ => 0))
    {u : Value} (hu : u = .map (some b)) (hm : MapAt ienc w' bt (upd (fun t => (T t).map fun b => .map (some b)) t u)) (hg : w1.grownBy w' (some bt)) :
    CksAt w' p bt bv (fun y => if y = t then some b else T y) V s := by
  subst hu
  have h1 := h.below hw
  have hbt : b ≠ bt := fun e => by have := h.mt.lt; omega
  have hbv : b ≠ bv := fun e => by have := h.mv.lt; omega
  have hk : ∀ k, k < w1.heap.size → k ≠ bt → w'.heap[k]? = w1.heap[k]? := fun k hk hne => hg.block k hk (fun e => hne (by injection e))
  have hp : p ≠ bt := h.p_not (.inl rfl)
  have hTb : ∀ y, T y ≠ some b := fun y e => by have := (h.tc y b e).lt; omega
  have hVb : ∀ y, V y ≠ some b := fun y e => by have := (h.vc y b e).lt; omega
  refine ⟨(World.cell?_of_block (hk p h1.plt hp)).trans h1.c0, (World.cell?_of_block (hk p h1.plt hp)).trans h1.c1, hm.congr fun y => ?_, h1.mv.keep (hk _ h1.mv.lt h.ne.symm), fun y d hy => ?_, fun y hy => ?_, fun x d hx => ?_, h.v0, fun y y' d hy hy' => ?_, h.vi, fun y x d hy hx => ?_, fun y d hy => ?_, h.vn, h.ne⟩
  · by_cases e : y = t
    · subst e; simp
    · rw [upd_ne _ _ e]; simp [e]
  · by_cases e : y = t
    · subst e
      simp only [if_true, Option.some.injEq] at hy
      subst hy
      exact (hc.keep (hk _ hc.lt hbt)).congr fun u => (h.t0 y ht u).symm
    · simp only [if_neg e] at hy
      exact (h1.tc y d hy).keep (hk _ (h1.tc y d hy).lt (h.tn y d hy).1)
  · by_cases e : y = t
    · subst e; simp at hy
    · simp only [if_neg e] at hy; exact h.t0 y hy
  · exact (h1.vc x d hx).keep (hk _ (h1.vc x d hx).lt (h.vn x d hx).1)
  · by_cases e : y = t <;> by_cases e' : y' = t <;> simp only [e, e', if_true, if_false, Option.some.injEq] at hy hy'
    · rw [e, e']
    · subst hy; exact absurd hy' (hTb y')
    · subst hy'; exact absurd hy (hTb y)
    · exact h.ti y y' d hy hy'
  · by_cases e : y = t
    · simp only [e, if_true, Option.some.injEq] at hy
      subst hy; exact hVb x hx
    · simp only [if_neg e] at hy; exact h.tv y x d hy hx
  · by_cases e : y = t
    · simp only [e, if_true, Option.some.injEq] at hy
      subst hy; exact ⟨hbt, hbv⟩
    · simp only [if_neg e] at hy; exact h.tn y d hy

open Classical in
theorem CksAt.newV (h : CksAt w p bt bv T V s) {x : ByteArray} {b : Nat} (hx : V x = none) (hb : w.heap.size ≤ b) {w1 : World} (hw : Below w.heap.size w w1) (hc : ClkAt w1 b (fun _ => 0))
    {u : Value} (hu : u = .map (some b)) (hm : MapAt senc w' bv (upd (fun x => (V x).map fun b => .map (some b)) x u)) (hg : w1.grownBy w' (some bv)) :
    CksAt w' p bt bv T (fun y => if y = x then some b else V y) s := by
  subst hu
  have h1 := h.below hw
  have hbt : b ≠ bt := fun e => by have := h.mt.lt; omega
  have hbv : b ≠ bv := fun e => by have := h.mv.lt; omega
  have hk : ∀ k, k < w1.heap.size → k ≠ bv → w'.heap[k]? = w1.heap[k]? := fun k hk hne => hg.block k hk (fun e => hne (by injection e))
  have hp : p ≠ bv := h.p_not (.inr (.inl rfl))
  have hTb : ∀ y, T y ≠ some b := fun y e => by have := (h.tc y b e).lt; omega
  have hVb : ∀ y, V y ≠ some b := fun y e => by have := (h.vc y b e).lt; omega
  refine ⟨(World.cell?_of_block (hk p h1.plt hp)).trans h1.c0, (World.cell?_of_block (hk p h1.plt hp)).trans h1.c1, h1.mt.keep (hk _ h1.mt.lt h.ne), hm.congr fun y => ?_, fun y d hy => ?_, h.t0, fun y d hy => ?_, fun y hy => ?_, h.ti, fun y y' d hy hy' => ?_, fun y z d hy hz => ?_, h.tn, fun y d hy => ?_, h.ne⟩
  · by_cases e : y = x
    · subst e; simp
    · rw [upd_ne _ _ e]; simp [e]
  · exact (h1.tc y d hy).keep (hk _ (h1.tc y d hy).lt (h.tn y d hy).2)
  · by_cases e : y = x
    · subst e
      simp only [if_true, Option.some.injEq] at hy
      subst hy
      exact (hc.keep (hk _ hc.lt hbv)).congr fun u => (h.v0 y hx u).symm
    · simp only [if_neg e] at hy
      exact (h1.vc y d hy).keep (hk _ (h1.vc y d hy).lt (h.vn y d hy).2)
  · by_cases e : y = x
    · subst e; simp at hy
    · simp only [if_neg e] at hy; exact h.v0 y hy
  · by_cases e : y = x <;> by_cases e' : y' = x <;> simp only [e, e', if_true, if_false, Option.some.injEq] at hy hy'
    · rw [e, e']
    · subst hy; exact absurd hy' (hVb y')
    · subst hy'; exact absurd hy (hVb y)
    · exact h.vi y y' d hy hy'
  · by_cases e : z = x
    · simp only [e, if_true, Option.some.injEq] at hz
      subst hz; exact hTb y hy
    · simp only [if_neg e] at hz; exact h.tv y z d hy hz
  · by_cases e : y = x
    · simp only [e, if_true, Option.some.injEq] at hy
      subst hy; exact ⟨hbt, hbv⟩
    · simp only [if_neg e] at hy; exact h.vn y d hy

theorem CksAt.congr {s' : CS} (h : CksAt w p bt bv T V s) (e1 : ∀ t u, s.tc t u = s'.tc t u) (e2 : ∀ x u, s.vc x u = s'.vc x u) : CksAt w p bt bv T V s' := by
  have e1' : s.tc = s'.tc := funext fun t => funext fun u => e1 t u
  have e2' : s.vc = s'.vc := funext fun t => funext fun u => e2 t u
  obtain ⟨a, b⟩ := s
  obtain ⟨a', b'⟩ := s'
  dsimp only at e1' e2'
  subst e1' e2'
  exact h
end
end Go.Proofs.YtahklchfchjmcaaDoor
