/- The teller of a trace's accesses in the heap, and what its methods add. -/
import Derived.Test.YtahklchfchjmcaaDoorGm
import Derived.Test.YtahklchfchjmcaaDoorOm
import Derived.Test.YtahklchfchjmcaaDoorSh
namespace Go.Proofs.YtahklchfchjmcaaDoor
set_option linter.unusedVariables false
set_option linter.unusedSimpArgs false
open Go.RowKit Go.MapKept

def intCells (n : Int) : List Value := [.int .i64 n]
abbrev HM := GM ienc 3 1 intCells

structure Tell (w : World) (B p bh : Nat) (S : Int → Option Value) (H : Int → List Int) (stripes : Int) (vo : Value) (out : List Acc) : Prop where
  blk : w.heap[p]? = some (.cells #[.int .i64 stripes, .map (some bh), vo] 121 (0, 0))
  gm : HM w B bh S H
  own : w.ownsRow B 55 3 vo out.length (out.flatMap Acc.cells)
  ge : B ≤ p

/-- Blocks of Did stand. -/
def Kp (w w' : World) : Prop := ∀ (X : Nat) (cs : Array Value), w.heap[X]? = some (Obj.cells cs 52 (0, 0)) → w'.heap[X]? = some (Obj.cells cs 52 (0, 0))
theorem Kp.trans {a b c : World} (h : Kp a b) (k : Kp b c) : Kp a c := fun X cs hx => k X cs (h X cs hx)
theorem Kp.refl (a : World) : Kp a a := fun _ _ h => h
theorem Kp.below {a b : World} (h : Below a.heap.size a b) : Kp a b := fun X cs hx => (h.block X (Array.getElem?_eq_some_iff.1 hx).1).trans hx

section
variable {w w' : World} {B p bh : Nat} {S : Int → Option Value} {H : Int → List Int} {stripes : Int} {vo : Value} {out : List Acc}
theorem Tell.c0 (h : Tell w B p bh S H stripes vo out) : w.cell? ⟨p, 0, none⟩ = some (.int .i64 stripes) := by simp [World.cell?, h.blk]
theorem Tell.c1 (h : Tell w B p bh S H stripes vo out) : w.cell? ⟨p, 1, none⟩ = some (.map (some bh)) := by simp [World.cell?, h.blk]
theorem Tell.c2 (h : Tell w B p bh S H stripes vo out) : w.cell? ⟨p, 2, none⟩ = some vo := by simp [World.cell?, h.blk]
theorem Tell.fz (h : Tell w B p bh S H stripes vo out) (j : Nat) : w.frozen? ⟨p, j, none⟩ = false := by simp [World.frozen?, h.blk]
theorem Tell.plt (h : Tell w B p bh S H stripes vo out) : p < w.heap.size := (Array.getElem?_eq_some_iff.1 h.blk).1
theorem Tell.below (h : Tell w B p bh S H stripes vo out) (hb : Below w.heap.size w w') : Tell w' B p bh S H stripes vo out :=
  ⟨(hb.block p h.plt).trans h.blk, h.gm.below hb, own_keep h.own fun g hg => hb.block g (own_block h.own hg).2.1, h.ge⟩
theorem Tell.hB (h : Tell w B p bh S H stripes vo out) : B ≤ w.heap.size := by have := h.ge; have := h.plt; omega

theorem cells_ne {w : World} {g g' t t' : Nat} {a b : Array Value} {f f' : Nat × Nat} (h : w.heap[g]? = some (.cells a t f)) (h' : w.heap[g']? = some (.cells b t' f')) (hne : t ≠ t') : g ≠ g' := by
  rintro rfl
  rw [h] at h'
  injection h' with h'
  injection h' with _ e _
  exact hne e
theorem map_ne {w : World} {g g' t : Nat} {a : Array Value} {f : Nat × Nat} {es : Array MapEntry} {c : Nat} (h : w.heap[g]? = some (.cells a t f)) (h' : w.heap[g']? = some (.map es c)) : g ≠ g' := by
  rintro rfl
  rw [h] at h'
  cases h'

/-- A block of another element type than int is none of the map's. -/
theorem HM.not_foot (h : HM w B bh S H) {g t : Nat} {a : Array Value} {f : Nat × Nat} (hb : w.heap[g]? = some (.cells a t f)) (ht : t ≠ 3) : ¬ GFoot bh S g := by
  rintro (rfl | ⟨x, v, hx, hv⟩)
  · obtain ⟨es, c, h1, _⟩ := h.map
    rw [hb] at h1; cases h1
  · obtain ⟨cur, h1⟩ := (own_block (h.row x v hx) hv).2.2
    exact cells_ne hb h1 ht rfl

/-- The accesses have grown in w1; the teller's field was set then. -/
theorem Tell.more (h : Tell w B p bh S H stripes vo out) {w0 w1 : World} (hw0 : Below w.heap.size w w0) {v' : Value} {a : Acc} (hg : w0.grownBy w1 vo.ownBlock) (ho : w1.ownsRow B 55 3 v' (out.length + 1) (out.flatMap Acc.cells ++ a.cells)) :
    Tell (w1.setCell ⟨p, 2, none⟩ v') B p bh S H stripes v' (out ++ [a]) ∧ Below B w (w1.setCell ⟨p, 2, none⟩ v') ∧ Kp w (w1.setCell ⟨p, 2, none⟩ v') := by
  have h0 := h.below hw0
  have hvn : ∀ g, vo.ownBlock = some g → g ≠ p := fun g hg' => by
    obtain ⟨cur, hc⟩ := (own_block h0.own hg').2.2
    exact cells_ne hc h0.blk (by decide)
  have hp1 : w1.heap[p]? = some (.cells #[.int .i64 stripes, .map (some bh), vo] 121 (0, 0)) := (hg.block p h0.plt (fun e => hvn p e.symm rfl)).trans h0.blk
  have hgm1 : HM w1 B bh S H := h0.gm.keep fun k hk hf => hg.block k hk fun e => by
    obtain ⟨cur, hc⟩ := (own_block h0.own e.symm).2.2
    exact h0.gm.not_foot hc (by decide) hf
  refine ⟨⟨?_, hgm1.keep fun k hk hf => Below.heap_setCell _ _ _ _ fun e => hgm1.not_foot hp1 (by decide) (by have e' : k = p := e; rw [← e']; exact hf), ?_, h.ge⟩, ?_, ?_⟩
  · simp [World.setCell, Array.getElem?_modify, hp1]
  · simp only [List.length_append, List.length_singleton, List.flatMap_append, List.flatMap_singleton]
    exact own_keep ho fun g hg' => Below.heap_setCell _ _ _ _ fun e => by
      obtain ⟨cur, hc⟩ := (own_block ho hg').2.2
      subst e
      exact cells_ne hc hp1 (by decide) rfl
  · exact ((hw0.mono h.hB).grown hg h0.hB fun k hk => (own_block h0.own hk).1).setCell h.ge _
  · intro X cs hX
    have hX0 := (Kp.below hw0) X cs hX
    have hX1 : w1.heap[X]? = some (Obj.cells cs 52 (0, 0)) := (hg.block X (Array.getElem?_eq_some_iff.1 hX0).1 (fun e => by
      obtain ⟨cur, hc⟩ := (own_block h0.own e.symm).2.2
      exact cells_ne hX0 hc (by decide) rfl)).trans hX0
    exact (Below.heap_setCell _ _ _ _ fun e => cells_ne hX1 hp1 (by decide) e).trans hX1
theorem Tell.cells_grown (h : Tell w B p bh S H stripes vo out) {w0 w1 : World} (hw0 : Below w.heap.size w w0) (hg : w0.grownBy w1 vo.ownBlock) : w1.heap[p]? = w.heap[p]? := by
  have h0 := h.below hw0
  exact (hg.block p h0.plt (fun e => by
    obtain ⟨cur, hc⟩ := (own_block h0.own e.symm).2.2
    exact cells_ne hc h0.blk (by decide) rfl)).trans (hw0.block p h.plt)
theorem Tell.cell_grown (h : Tell w B p bh S H stripes vo out) {w0 w1 : World} (hw0 : Below w.heap.size w w0) (hg : w0.grownBy w1 vo.ownBlock) : w1.cell? ⟨p, 2, none⟩ = some vo ∧ w1.frozen? ⟨p, 2, none⟩ = false := by
  have := h.cells_grown hw0 hg
  constructor
  · rw [← h.c2]; simp [World.cell?, this]
  · rw [← h.fz 2]; simp [World.frozen?, this]
end

theorem info_access : (Tryd.prog.info? 55).map (fun i => (i.zero, i.size, i.bytes)) = some (some (.agg #[.int .i64 0, .int .i64 0, .string ⟨#[]⟩]), 3, 32) := by kernel_rfl

def TellOutK (w w' : World) (B p bh : Nat) (S : Int → Option Value) (H : Int → List Int) (stripes : Int) (out : List Acc) : Prop := ∃ vo, Tell w' B p bh S H stripes vo out ∧ Below B w w' ∧ Kp w w'
/-- What a method of the teller leaves. -/
def TellOut (w w' : World) (B p bh : Nat) (S : Int → Option Value) (H : Int → List Int) (stripes : Int) (out : List Acc) : Prop := ∃ vo, Tell w' B p bh S H stripes vo out ∧ Below B w w'

set_option maxRecDepth 100000 in
set_option maxHeartbeats 400000 in
theorem add_any (w : World) (B p bh : Nat) (S : Int → Option Value) (H : Int → List Int) (stripes : Int) (vo : Value) (out : List Acc) (h : Tell w B p bh S H stripes vo out) (hlen : out.length ≤ 1000000000) (t k : Int) (x : ByteArray) :
    Calls Tryd.prog 90 #[.pointer (some ⟨p, 0, none⟩), .int .i64 t, .int .i64 k, .string x] w fun e w' => e = .returned (.tuple #[]) ∧ TellOutK w w' B p bh S H stripes (out ++ [⟨t, k, x⟩]) := by
  obtain ⟨ia, hi0, hi1, hi2, hi3⟩ := info_parts info_access
  have hc2 := h.c2
  have hplt := h.plt
  have hBle := h.hB
  have HT := Lib.hid h
  clear h
  go_enter Tryd.func90, Tryd.ntmps90
  go_wp2_with (at_builtin; refine wpList_append_lies _ rfl (.tmp 12) (.tmp 17) _ rfl B 55 ia _ 3 32 Tryd.underlying24 hi0 hi1 hi2 hi3 rfl (by omega) vo out.length (out.flatMap Acc.cells) rfl (HT.out.own.alloc _) ⟨w.heap.size, 0, none⟩ 1 1 [.int .i64 t, .int .i64 k, .string x] rfl rfl (World.news_of_block (cs := #[.int .i64 t, .int .i64 k, .string x]) (t := 55) (fr := (0, 0)) (heap_alloc_new w _)) (by simp [Value.oneCell']) (by omega) (by simp [maxLen]; omega) (by omega) (by simp; omega) (w.heap.size + 1) (by simp) ?_; intro gg cap1 w6 hown1 hgrow hat hlt1; have hh := HT.out.more (a := ⟨t, k, x⟩) ((Below.refl _ _).alloc (Nat.le_refl _) _) hgrow hown1; have HG := Lib.hid hh; obtain ⟨hp6, hf6⟩ := HT.out.cell_grown ((Below.refl _ _).alloc (Nat.le_refl _) _) hgrow; clear hown1 hgrow hat hlt1 hh)
  refine bodyPost_end (results_none rfl _ _ _) rfl ?_
  exact ⟨rfl, _, HG.out⟩
end Go.Proofs.YtahklchfchjmcaaDoor
