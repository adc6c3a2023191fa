/- An empty node (printed by wip/genEg.py). -/
import Derived.Test.YtmocoiamhphhnaaGreatDoorEf
import Derived.MapKept
namespace Go.Proofs.YtmocoiamhphhnaaGreatDoor
set_option linter.unusedVariables false
set_option linter.unusedSimpArgs false
open Go.RowKit Go.MapKept

theorem nbl_set {B : Nat} {w a : World} {p : Addr} {v : Value} (h : Below B w a) (hp : B ≤ p.block) : Below B w (a.setCell p v) := h.setCell hp v

/-- A table of one stripe that holds nothing; a counter that has given nothing. -/
structure TabE (W : World) (pt ps bm : Nat) : Prop where
  tab : HeapIs W pt (.cells #[.slice (some ⟨ps, 0, none⟩) 1 1, .int .i64 0] 73 (0, 0))
  row : HeapIs W ps (.cells #[.map (some bm)] 74 (0, 0))
  map : HeapIs W bm (.map #[] 0)
def DotE (W : World) (pd : Nat) : Prop := HeapIs W pd (.cells #[.int .i64 1, .int .i64 0] 79 (0, 0))
structure NodeE (W : World) (pn pt pd pi po ps bm : Nat) : Prop where
  node : HeapIs W pn (.cells #[.int .i64 1, .int .i64 1, .int .i64 1, .int .i64 1, .pointer (some ⟨pt, 0, none⟩), .pointer (some ⟨pd, 0, none⟩), .pointer (some ⟨pi, 0, none⟩), .pointer (some ⟨po, 0, none⟩), .bool false] 40 (0, 0))
  tabs : TabE W pt ps bm
  dots : DotE W pd
theorem TabE.later {W W' : World} {pt ps bm : Nat} (h : TabE W pt ps bm) (hb : Below W.heap.size W W') : TabE W' pt ps bm := ⟨h.tab.below hb, h.row.below hb, h.map.below hb⟩
theorem NodeE.later {W W' : World} {pn pt pd pi po ps bm : Nat} (h : NodeE W pn pt pd pi po ps bm) (hb : Below W.heap.size W W') : NodeE W' pn pt pd pi po ps bm := ⟨h.node.below hb, h.tabs.later hb, HeapIs.below h.dots hb⟩
theorem TabE.al {W : World} {pt ps bm : Nat} (h : TabE W pt ps bm) (o : Obj) : TabE (W.alloc o) pt ps bm := ⟨h.tab.al, h.row.al, h.map.al⟩
theorem NodeE.al {W : World} {pn pt pd pi po ps bm : Nat} (h : NodeE W pn pt pd pi po ps bm) (o : Obj) : NodeE (W.alloc o) pn pt pd pi po ps bm := ⟨h.node.al, h.tabs.al o, HeapIs.al h.dots⟩
theorem NodeE.drew {W : World} {pn pt pd pi po ps bm : Nat} (h : NodeE W pn pt pd pi po ps bm) : NodeE W.drew pn pt pd pi po ps bm := ⟨h.node, ⟨h.tabs.tab, h.tabs.row, h.tabs.map⟩, h.dots⟩

theorem look_none (s : ByteArray) (W : World) (bm : Nat) (h : HeapIs W bm (.map #[] 0)) : (Instr.lookup 74 (.map (some bm)) (.string s) false).run Tryz.prog W = .ok (.agg #[.int .i64 0, .slice none 0 0, .slice none 0 0, .slice none 0 0]) W := by
  have hu : (underlying 74).run Tryz.prog W = .ok (.map 9 105) W := by kernel_rfl
  have hu9 : (underlying 9).run Tryz.prog W = .ok .string W := by kernel_rfl
  have hz : (zeroValue 105).run Tryz.prog W = .ok (.agg #[.int .i64 0, .slice none 0 0, .slice none 0 0, .slice none 0 0]) W := by kernel_rfl
  have hg := run_getObj_map (P := Tryz.prog) (w := W) bm #[] 0 h
  have hc : (Instr.checkKey true 10000 9 (.string s)).run Tryz.prog W = .ok () W := by
    show (Instr.checkKey true (9999 + 1) 9 (.string s)).run Tryz.prog W = _
    unfold Instr.checkKey
    simp only [Sem.run_bind, hu9]
    rfl
  have hf : (Instr.findKey 9 (.string s) []).run Tryz.prog W = .ok none W := by
    unfold Instr.findKey
    simp only [Sem.run_bind, hu9, Instr.findNow]
    rfl
  unfold Instr.lookup
  simp [Sem.run_bind, hu, hg, hc, hf, hz]

end Go.Proofs.YtmocoiamhphhnaaGreatDoor

