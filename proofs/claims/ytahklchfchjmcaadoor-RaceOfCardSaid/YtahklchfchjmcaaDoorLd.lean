/- A whole Did out of memory, and into a new block. -/
import Derived.Test.YtahklchfchjmcaaDoorLw
import Derived.Test.YtahklchfchjmcaaDoorTk
namespace Go.Proofs.YtahklchfchjmcaaDoor
set_option linter.unusedVariables false
set_option linter.unusedSimpArgs false
/-- The parts that nobody looks at take a cell each. -/
def Dd.One (d : Dd) : Prop := ∀ v ∈ [d.r0, d.r1, d.r2, d.r3, d.r4, d.r5, d.r6, d.r7, d.r8, d.r9, d.r10, d.r11, d.r12], v.oneCell' = true

theorem isAgg_did (w : World) : (isAgg 52).run Tryd.prog w = .ok true w := by kernel_rfl
theorem sizeOf_did (w : World) : (sizeOf 52).run Tryd.prog w = .ok 18 w := by kernel_rfl

theorem run_load_did (w : World) (b off : Nat) (d : Dd) (h : ∀ j u, d.cells[j]? = some u → w.cell? ⟨b, off + j, none⟩ = some u) :
    (Instr.loadAt 52 (.pointer (some ⟨b, off, none⟩))).run Tryd.prog w = .ok (.agg d.arr) w := by
  have h1 : (loadCells ⟨b, off, none⟩ 18).run Tryd.prog w = .ok d.arr w :=
    run_loadCells_list (P := Tryd.prog) (w := w) ⟨b, off, none⟩ d.cells (fun j v hv => by
      have hadd : (⟨b, off, none⟩ : Addr).add j = ⟨b, off + j, none⟩ := by unfold Addr.add; split <;> simp_all
      rw [hadd]; exact h j v hv)
  simp only [Instr.loadAt, Instr.sureAddr, loadVar, Sem.run_bind, Sem.run_pure, Result.andThen, isAgg_did, sizeOf_did, h1, if_true]

theorem run_store_did (w : World) (c : Array Value) (d : Dd) (ho : d.One) (hc : c.size = 18) :
    (Instr.storeAt 52 (.pointer (some ⟨w.heap.size, 0, none⟩)) (.agg d.arr)).run Tryd.prog (w.alloc (.cells c 52)) = .ok () (w.alloc (.cells d.arr 52)) := by
  refine run_storeAt_new w 52 c d.arr (by kernel_rfl) hc ?_
  simp only [Dd.One, List.forall_mem_cons] at ho
  obtain ⟨o0, o1, o2, o3, o4, o5, o6, o7, o8, o9, o10, o11, o12, _⟩ := ho
  simp [Dd.arr, o0, o1, o2, o3, o4, o5, o6, o7, o8, o9, o10, o11, o12]
  simp [Value.oneCell']

theorem run_load_new (w : World) (d : Dd) :
    (Instr.loadAt 52 (.pointer (some ⟨w.heap.size, 0, none⟩))).run Tryd.prog (w.alloc (.cells d.arr 52)) = .ok (.agg d.arr) (w.alloc (.cells d.arr 52)) := by
  refine run_load_did _ _ _ d fun j u hu => ?_
  rw [Nat.zero_add, World.cell?_alloc_new]
  simpa [Dd.arr, Dd.cells] using hu
end Go.Proofs.YtahklchfchjmcaaDoor
