/- The state of a search for races: clocks, and touches of both kinds; what a step makes of it. -/
import Derived.Test.YtahklchfchjmcaaDoorOr
import Derived.Test.YtahklchfchjmcaaDoorTm
namespace Go.Proofs.YtahklchfchjmcaaDoor
set_option linter.unusedVariables false
set_option linter.unusedSimpArgs false
open Go.RowKit Go.MapKept

structure CkInv (B : Nat) (w wr : World) (p br bw : Nat) (l : List Acc) (mr mt : Nat) (bt bv : Nat) (T : Int → Option Nat) (V : ByteArray → Option Nat) (s : CS) (Sr Sw : ByteArray → Option Value) : Prop where
  runs : Runs B p w wr l mr bt bv T V s
  tr : TM wr B br Sr (tch l mt 1)
  tw : TM wr B bw Sw (tch l mt 2)
  xd : ∀ k, TFoot br Sr k → ¬ TFoot bw Sw k
  pn : ¬ TFoot br Sr p ∧ ¬ TFoot bw Sw p
  fn : ∀ k, Foot bt bv T V k → ¬ TFoot br Sr k ∧ ¬ TFoot bw Sw k
  no : ∀ i k, k < mt → ¬ Races l i k

/-- At a round's head. -/
def CkR (w wr : World) (p br bw : Nat) (l : List Acc) (u : Value) : Prop :=
  ∃ (m bt bv : Nat) (T : Int → Option Nat) (V : ByteArray → Option Nat) (s : CS) (Sr Sw : ByteArray → Option Value), m ≤ l.length ∧ u = .int .i64 m ∧ CkInv w.heap.size w wr p br bw l m m bt bv T V s Sr Sw

section
variable {B : Nat} {w wr w' : World} {p br bw : Nat} {l : List Acc} {mr mt bt bv : Nat} {T : Int → Option Nat} {V : ByteArray → Option Nat} {s : CS} {Sr Sw : ByteArray → Option Value}

theorem CkInv.hB (h : CkInv B w wr p br bw l mr mt bt bv T V s Sr Sw) : B ≤ wr.heap.size := by
  have := (h.tr.lt (.inl rfl))
  omega

theorem CkInv.below (h : CkInv B w wr p br bw l mr mt bt bv T V s Sr Sw) (hb : Below wr.heap.size wr w') : CkInv B w w' p br bw l mr mt bt bv T V s Sr Sw :=
  ⟨⟨h.runs.1.below hb, h.runs.2.1, h.runs.2.2.1.trans (hb.mono h.hB), h.runs.2.2.2⟩, h.tr.below hb, h.tw.below hb, h.xd, h.pn, h.fn, h.no⟩

/-- Behind enter. -/
theorem CkInv.entered (h : CkInv B w wr p br bw l mr mt bt bv T V s Sr Sw) {mr' bt' bv' : Nat} {T' : Int → Option Nat} {V' : ByteArray → Option Nat} {s' : CS} (hr : Runs B p w w' l mr' bt' bv' T' V' s')
    (hf : Fr wr w' (Foot bt bv T V)) (hft : ∀ j, Foot bt' bv' T' V' j → Foot bt bv T V j ∨ wr.heap.size < j) : CkInv B w w' p br bw l mr' mt bt' bv' T' V' s' Sr Sw := by
  refine ⟨hr, h.tr.fr hf fun k hk => (h.fn k hk).1, h.tw.fr hf fun k hk => (h.fn k hk).2, h.xd, h.pn, fun k hk => ?_, h.no⟩
  rcases hft k hk with e | e
  · exact h.fn k e
  · exact ⟨fun hx => by have := (h.tr.lt hx).2; omega, fun hx => by have := (h.tw.lt hx).2; omega⟩

/-- A touch of a write is kept. -/
theorem CkInv.pushW (h : CkInv B w wr p br bw l mr mt bt bv T V s Sr Sw) {Sw' : ByteArray → Option Value} (hfr : Fr wr w' (TFoot bw Sw)) (htw : TM w' B bw Sw' (tch l (mt + 1) 2))
    (hsub : ∀ k, TFoot bw Sw' k → TFoot bw Sw k ∨ wr.heap.size ≤ k) (htr : ∀ x, tch l mt 1 x = tch l (mt + 1) 1 x) (hno : ∀ i k, k < mt + 1 → ¬ Races l i k) : CkInv B w w' p br bw l mr (mt + 1) bt bv T V s Sr Sw' := by
  refine ⟨⟨h.runs.1.fr hfr fun k hk => ⟨fun e => h.pn.2 (e ▸ hk), fun e => (h.fn k e).2 hk⟩, h.runs.2.1, h.runs.2.2.1.trans (hfr.to_below h.hB fun k hk => (h.tw.lt hk).1), h.runs.2.2.2⟩,
    (h.tr.fr hfr fun k hk e => h.xd k e hk).congr htr, htw, fun k hk e => ?_, ⟨h.pn.1, fun e => ?_⟩, fun k hk => ⟨(h.fn k hk).1, fun e => ?_⟩, hno⟩
  · rcases hsub k e with e | e
    · exact h.xd k hk e
    · have := (h.tr.lt hk).2; omega
  · rcases hsub p e with e | e
    · exact h.pn.2 e
    · have := h.runs.1.plt; omega
  · rcases hsub k e with e | e
    · exact (h.fn k hk).2 e
    · have := h.runs.1.lt hk; omega

/-- A touch of a read is kept. -/
theorem CkInv.pushR (h : CkInv B w wr p br bw l mr mt bt bv T V s Sr Sw) {Sr' : ByteArray → Option Value} (hfr : Fr wr w' (TFoot br Sr)) (htr : TM w' B br Sr' (tch l (mt + 1) 1))
    (hsub : ∀ k, TFoot br Sr' k → TFoot br Sr k ∨ wr.heap.size ≤ k) (htw : ∀ x, tch l mt 2 x = tch l (mt + 1) 2 x) (hno : ∀ i k, k < mt + 1 → ¬ Races l i k) : CkInv B w w' p br bw l mr (mt + 1) bt bv T V s Sr' Sw := by
  refine ⟨⟨h.runs.1.fr hfr fun k hk => ⟨fun e => h.pn.1 (e ▸ hk), fun e => (h.fn k e).1 hk⟩, h.runs.2.1, h.runs.2.2.1.trans (hfr.to_below h.hB fun k hk => (h.tr.lt hk).1), h.runs.2.2.2⟩,
    htr, (h.tw.fr hfr fun k hk e => h.xd k hk e).congr htw, fun k hk e => ?_, ⟨fun e => ?_, h.pn.2⟩, fun k hk => ⟨fun e => ?_, (h.fn k hk).2⟩, hno⟩
  · rcases hsub k hk with e' | e'
    · exact h.xd k e' e
    · have := (h.tw.lt e).2; omega
  · rcases hsub p e with e | e
    · exact h.pn.1 e
    · have := h.runs.1.plt; omega
  · rcases hsub k e with e | e
    · exact (h.fn k hk).1 e
    · have := h.runs.1.lt hk; omega
end

/-- An append to a row of a touch map, and the store behind it: what is other then. -/
theorem fr_push {w w1 w' : World} {B bm : Nat} {S : ByteArray → Option Value} {m : ByteArray → List Tch} (h : TM w B bm S m) {x : ByteArray} (hg : w.grownBy w1 (((S x).getD (.slice none 0 0)).ownBlock)) (hg2 : w1.grownBy w' (some bm)) :
    Fr w w' (TFoot bm S) := by
  refine (Fr.grown (F := TFoot bm S) hg fun k hk => .inl ?_).trans (Fr.grown (F := fun k => k = bm) hg2 fun k hk => .inl (by injection hk with hk; exact hk.symm)) fun j hj => .inl (.inl hj)
  cases hx : S x with
  | none => rw [hx] at hk; cases hk
  | some v => rw [hx] at hk; exact .inr ⟨x, v, hx, hk⟩

theorem mapTy_touch : MapTy Tryd.prog 96 .string (.slice none 0 0) := ⟨_, _, Tryd.underlying96, Tryd.underlying9, fun w => by kernel_rfl⟩
theorem info_touch : (Tryd.prog.info? 101).map (fun i => (i.zero, i.size, i.bytes)) = some (some (.agg #[.int .i64 0, .int .i64 0, .int .i64 0]), 3, 24) := by kernel_rfl
end Go.Proofs.YtahklchfchjmcaaDoor
