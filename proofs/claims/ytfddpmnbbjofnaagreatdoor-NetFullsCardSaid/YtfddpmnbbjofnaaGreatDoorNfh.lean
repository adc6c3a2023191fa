/- The net's Do. -/
import Derived.Test.YtfddpmnbbjofnaaGreatDoorNfi
set_option linter.unusedVariables false
set_option linter.unusedSimpArgs false
namespace Go.Proofs.YtfddpmnbbjofnaaGreatDoor
open Go.RowKit Go.MapKept
section
variable {P : Program} {ops : Array Oper} {Q : Exit → Act → World → Prop} {a : Act} {w : World} {rest : List Oper} {o : Oper}
theorem wpList_value (hw : Region.wanted o (yielded ops a.tmps) = true) {v : Value} {w' : World} (hrun : (execOp a.eval o).run P w = .ok (.value v) w')
    (hK : wpList P ops Q rest (a.put o.dst v) w') : wpList P ops Q (o :: rest) a w := by
  refine wpList_step fun K' hK' => ?_
  rw [if_pos hw]
  unfold Oper.wp
  rw [hrun]
  exact hK' _ _ hK

theorem wpList_skips (hw : Region.wanted o (yielded ops a.tmps) = true) {w' : World} (hrun : (execOp a.eval o).run P w = .ok .skip w')
    (hK : wpList P ops Q rest (a.put o.dst undef) w') : wpList P ops Q (o :: rest) a w := by
  refine wpList_step fun K' hK' => ?_
  rw [if_pos hw]
  unfold Oper.wp
  rw [hrun]
  exact hK' _ _ hK

theorem wpList_lookup_eq (hw : Region.wanted o (yielded ops a.tmps) = true) (x i : Operand) (t : TypeId) (ok : Bool) (hop : o.op = Op.lookup t x i ok) (m k v : Value) (hx : a.eval x = m) (hi : a.eval i = k)
    (hrun : (Instr.lookup t m k ok).run P w = .ok v w) (hK : wpList P ops Q rest (a.put o.dst v) w) : wpList P ops Q (o :: rest) a w := by
  refine wpList_value hw (v := v) (w' := w) ?_ hK
  simp [execOp, hop, hx, hi, hrun, Result.andThen]

theorem wpList_load_eq (hw : Region.wanted o (yielded ops a.tmps) = true) (x : Operand) (t : TypeId) (hop : o.op = Op.load t x) (p v : Value) (hx : a.eval x = p)
    (hrun : (Instr.loadAt t p).run P w = .ok v w) (hK : wpList P ops Q rest (a.put o.dst v) w) : wpList P ops Q (o :: rest) a w := by
  refine wpList_value hw (v := v) (w' := w) ?_ hK
  simp [execOp, hop, hx, hrun, Result.andThen]
theorem wpList_store_eq (hw : Region.wanted o (yielded ops a.tmps) = true) (x y : Operand) (t : TypeId) (hop : o.op = Op.store t x y) (p v : Value) (hx : a.eval x = p) (hy : a.eval y = v) {w' : World}
    (hrun : (Instr.storeAt t p v).run P w = .ok () w') (hK : wpList P ops Q rest (a.put o.dst undef) w') : wpList P ops Q (o :: rest) a w := by
  refine wpList_skips hw (w' := w') ?_ hK
  simp [execOp, hop, hx, hy, hrun, Result.andThen]
end
theorem size_setCells (g : Nat) : ∀ (vs : List Value) (o : Nat) (w : World), (w.setCells g o vs).heap.size = w.heap.size
  | [], o, w => rfl
  | v :: vs, o, w => (size_setCells g vs (o + 1) _).trans (by simp [World.setCell])
theorem heap_sets_ne {r g : Nat} (h : r ≠ g) : ∀ (vs : List Value) (o : Nat) (w : World), (w.setCells g o vs).heap[r]? = w.heap[r]?
  | [], o, w => rfl
  | v :: vs, o, w => (heap_sets_ne h vs (o + 1) _).trans (Below.heap_setCell _ _ _ _ h)
theorem results_cell_tmp2 {fn : Func} {p u v : Tmp} {ty : TypeId} (h : fn.results = #[.cell p ty, .tmp u, .tmp v]) (tmps : Array Value) (P : Program) (w : World) :
    (results fn tmps).run P w =
      ((asAddr (tmps.getD p undef)).run P w).andThen fun a w₁ => ((loadVar ty a).run P w₁).andThen fun x w₂ => .ok (.tuple #[x, tmps.getD u undef, tmps.getD v undef]) w₂ := by
  simp only [results, h]
  simp [Sem.run_bind, Result.andThen]
theorem sets_os (g : Nat) : ∀ (vs : List Value) (o : Nat) (w : World), (w.setCells g o vs).os = w.os ∧ (w.setCells g o vs).tape = w.tape ∧ (w.setCells g o vs).output = w.output
  | [], o, w => ⟨rfl, rfl, rfl⟩
  | v :: vs, o, w => by
    have h := sets_os g vs (o + 1) (w.setCell ⟨g, o, none⟩ v)
    exact ⟨h.1.trans rfl, h.2.1.trans rfl, h.2.2.trans rfl⟩
def ansL : List Value := [.int .i64 0, .int .i64 0, .int .i64 0, .slice none 0 0, .slice none 0 0]
theorem ans_fin {W : World} {R : Nat} (h : W.heap[R]? = some (.cells #[.int .i64 0, .int .i64 0, .int .i64 0, .slice none 0 0, .slice none 0 0] 49 (0, 0))) :
    ∃ W3, (Instr.loadAt 49 (.pointer (some ⟨R, 0, none⟩))).run Tryz.prog W = .ok (.agg #[.int .i64 0, .int .i64 0, .int .i64 0, .slice none 0 0, .slice none 0 0]) W ∧ (Instr.storeAt 49 (.pointer (some ⟨R, 0, none⟩)) (.agg #[.int .i64 0, .int .i64 0, .int .i64 0, .slice none 0 0, .slice none 0 0])).run Tryz.prog W = .ok () W3 ∧ (loadVar 49 ⟨R, 0, none⟩).run Tryz.prog W3 = .ok (.agg #[.int .i64 0, .int .i64 0, .int .i64 0, .slice none 0 0, .slice none 0 0]) W3 ∧ W3.heap.size = W.heap.size ∧ (W3.os = W.os ∧ W3.tape = W.tape ∧ W3.output = W.output) ∧ ∀ b, b ≠ R → W3.heap[b]? = W.heap[b]? := by
  have hc : ∀ j, W.cell? ⟨R, 0 + j, none⟩ = (#[.int .i64 0, .int .i64 0, .int .i64 0, .slice none 0 0, .slice none 0 0] : Array Value)[0 + j]? := fun j => by simp [World.cell?, h]
  have ht : W.there R 0 5 := fun j hj => by
    refine ⟨by rw [hc, Array.getElem?_eq_getElem (by simpa using hj)]; rfl, ?_⟩
    simp only [World.frozen?, h]
    simp
  have hr : W.rangeAt R 0 ansL := fun j v hj => by rw [hc, Nat.zero_add]; simpa [ansL] using hj
  refine ⟨W.setCells R 0 ansL, run_loadAt_mid W R 0 49 ansL _ hr Tryz.underlying49 rfl (by kernel_rfl), ?_, run_loadVar_mid _ R 0 49 ansL _ (World.rangeAt_setCells_same W R 0 ansL ht) Tryz.underlying49 rfl (by kernel_rfl), size_setCells _ _ _ _, ?_, fun b hb => heap_sets_ne hb _ _ _⟩
  · refine run_storeAt_mid W R 0 49 _ ht (by kernel_rfl) ?_
    simp [Value.oneCell']
  · exact sets_os R ansL 0 W
theorem LoopS.other {w1 W W3 : World} {P Q cq k R : Nat} {v0 v1 : Value} (h : LoopS w1 W P Q cq v0 v1 k) (hR : w1.heap.size ≤ R) (ho : W.heap[R]? = some (.cells #[.int .i64 0, .int .i64 0, .int .i64 0, .slice none 0 0, .slice none 0 0] 49 (0, 0))) (hs : W3.heap.size = W.heap.size) (hos : W3.os = W.os ∧ W3.tape = W.tape ∧ W3.output = W.output) (hk : ∀ b, b ≠ R → W3.heap[b]? = W.heap[b]?) : LoopS w1 W3 P Q cq v0 v1 k := by
  obtain ⟨pv, xs, h1, h2⟩ := h.pk
  have hb : Below w1.heap.size W W3 := ⟨hos.1, hos.2.1, hos.2.2, Nat.le_of_eq hs.symm, fun b hb => hk b (by omega)⟩
  refine ⟨h.keep.trans (.of hb (Nat.le_refl _)), h.net.below hb h.ltP h.ltQ, h.ltP, h.ltQ, h.nodes, pv, xs, (hb.cell (p := ⟨P, 1, none⟩) h.ltP).trans h1, own_keep h2 fun g hg => hk g fun e => ?_⟩
  obtain ⟨_, _, cur, hcur⟩ := own_block h2 hg
  rw [e, ho] at hcur
  have e2 : (49 : Nat) = 72 := by
    have := Option.some.inj hcur
    cases this
  exact absurd e2 (by decide)
set_option maxRecDepth 100000 in
set_option maxHeartbeats 2000000 in
theorem do_state_ok {w1 W : World} {P Q cq b0 b1 : Nat} {k : Nat} (h : LoopS w1 W P Q cq (.pointer (some ⟨b0, 0, none⟩)) (.pointer (some ⟨b1, 0, none⟩)) k) (hk : k < 10000) :
    Calls Tryz.prog 14 #[.pointer (some ⟨P, 0, none⟩), .agg #[.int .i64 3, .int .i64 0, .int .i64 0, .int .i64 0, .string ⟨#[]⟩, .string ⟨#[]⟩, .string ⟨#[]⟩, .int .i64 0, .slice none 0 0]] W fun e w' => e = .returned (.tuple #[.agg #[.int .i64 0, .int .i64 0, .int .i64 0, .slice none 0 0, .slice none 0 0], .int .i64 1, .int .i64 0]) ∧ LoopS w1 w' P Q cq (.pointer (some ⟨b0, 0, none⟩)) (.pointer (some ⟨b1, 0, none⟩)) (k + 1) := by
  have HL := Lib.hid h
  have HK := Lib.hid hk
  clear hk
  clear h
  have hz2 : ((W.alloc (.cells #[.int .i64 3, .int .i64 0, .int .i64 0, .int .i64 0, .string ⟨#[]⟩, .string ⟨#[]⟩, .string ⟨#[]⟩, .int .i64 0, .slice none 0 0] 33)).alloc (.cells #[.int .i64 0, .int .i64 0, .int .i64 0, .slice none 0 0, .slice none 0 0] 49)).heap.size = W.heap.size + 2 := by simp
  have hl2 : LoopS w1 ((W.alloc (.cells #[.int .i64 3, .int .i64 0, .int .i64 0, .int .i64 0, .string ⟨#[]⟩, .string ⟨#[]⟩, .string ⟨#[]⟩, .int .i64 0, .slice none 0 0] 33)).alloc (.cells #[.int .i64 0, .int .i64 0, .int .i64 0, .slice none 0 0, .slice none 0 0] 49)) P Q cq (.pointer (some ⟨b0, 0, none⟩)) (.pointer (some ⟨b1, 0, none⟩)) k := (HL.out.below (below_alloc _ _)).below (below_alloc _ _)
  have HB2 : Hid (Below W.heap.size W ((W.alloc (.cells #[.int .i64 3, .int .i64 0, .int .i64 0, .int .i64 0, .string ⟨#[]⟩, .string ⟨#[]⟩, .string ⟨#[]⟩, .int .i64 0, .slice none 0 0] 33)).alloc (.cells #[.int .i64 0, .int .i64 0, .int .i64 0, .slice none 0 0, .slice none 0 0] 49))) := Lib.hid (nbl_al (below_alloc _ _))
  have HL2 := Lib.hid hl2
  have HZ := Lib.hid (zero_any hl2)
  have x0 : ((W.alloc (.cells #[.int .i64 3, .int .i64 0, .int .i64 0, .int .i64 0, .string ⟨#[]⟩, .string ⟨#[]⟩, .string ⟨#[]⟩, .int .i64 0, .slice none 0 0] 33)).alloc (.cells #[.int .i64 0, .int .i64 0, .int .i64 0, .slice none 0 0, .slice none 0 0] 49)).cell? ⟨W.heap.size, 0, none⟩ = some (.int .i64 3) := cell_below (below_alloc _ _) (new_cells W _ _ 0)
  have x1 : ((W.alloc (.cells #[.int .i64 3, .int .i64 0, .int .i64 0, .int .i64 0, .string ⟨#[]⟩, .string ⟨#[]⟩, .string ⟨#[]⟩, .int .i64 0, .slice none 0 0] 33)).alloc (.cells #[.int .i64 0, .int .i64 0, .int .i64 0, .slice none 0 0, .slice none 0 0] 49)).cell? ⟨W.heap.size, 1, none⟩ = some (.int .i64 0) := cell_below (below_alloc _ _) (new_cells W _ _ 1)
  have c0 := hl2.net.c0
  have HA0 : Hid (((W.alloc (.cells #[.int .i64 3, .int .i64 0, .int .i64 0, .int .i64 0, .string ⟨#[]⟩, .string ⟨#[]⟩, .string ⟨#[]⟩, .int .i64 0, .slice none 0 0] 33)).alloc (.cells #[.int .i64 0, .int .i64 0, .int .i64 0, .slice none 0 0, .slice none 0 0] 49)).heap[W.heap.size + 1]? = some (.cells #[.int .i64 0, .int .i64 0, .int .i64 0, .slice none 0 0, .slice none 0 0] 49 (0, 0))) := Lib.hid (by
    rw [← show (W.alloc (.cells #[.int .i64 3, .int .i64 0, .int .i64 0, .int .i64 0, .string ⟨#[]⟩, .string ⟨#[]⟩, .string ⟨#[]⟩, .int .i64 0, .slice none 0 0] 33)).heap.size = W.heap.size + 1 from Array.size_push _]
    exact heap_alloc_new _ _)
  have HZ2 := Lib.hid hz2
  clear hl2 hz2
  go_enter Tryz.func14, Tryz.ntmps14
  go_wp2_with (first | (go_at_call 16; refine HZ.out.mono ?_; rintro e W2 ⟨rfl, hw⟩; rw [← hw] at x0 x1 c0 HL2 HB2 HA0 HZ2; clear hw HZ))
  go_quiet (fail)
  have HR : Hid ((W2.drewN nq).heap[W.heap.size + 1]? = some (.cells #[.int .i64 0, .int .i64 0, .int .i64 0, .slice none 0 0, .slice none 0 0] 49 (0, 0)) ∧ W.heap.size + 1 < (W2.drewN nq).heap.size) := Lib.hid ⟨HA0.out, by have := HZ2.out; show W.heap.size + 1 < W2.heap.size; omega⟩
  have HBW : Hid (Below W.heap.size W (W2.drewN nq)) := Lib.hid (nbl_drewN HB2.out)
  have HLW := Lib.hid (HL2.out.below (nbl_drewN (n := nq) (Below.refl _ _)))
  go_wp2_with (first | (go_at_call 25; refine (state_ok HLW.out HK.out ((PkLt.here HL.out).below HL.out HBW.out)).mono ?_; rintro e wc ⟨rfl, hl, hf⟩; have HLC := Lib.hid hl; have hrc := (hf _ (Nat.le_succ _) HR.out.2).trans HR.out.1; clear hl hf; obtain ⟨W3, e1, e2, e3, e4, e5, e6⟩ := ans_fin hrc; have HLX := Lib.hid e1; have HST := Lib.hid e2; have HLD := Lib.hid e3; have HRC := Lib.hid hrc; have H4 := Lib.hid (And.intro e4 (And.intro e5 e6)); clear e1 e2 e3 e4 e5 e6 hrc) | (refine wpList_load_eq (by rfl) (.tmp 4) 49 (by rfl) _ _ (by rfl) HLX.out ?_) | (refine wpList_store_eq (by rfl) (.tmp 4) (.tmp 122) 49 (by rfl) _ _ (by rfl) (by rfl) HST.out ?_))
  refine bodyPost_ret (v := .tuple #[.agg #[.int .i64 0, .int .i64 0, .int .i64 0, .slice none 0 0, .slice none 0 0], .int .i64 1, .int .i64 0]) ?_ rfl ⟨rfl, HLC.out.other (Nat.le_succ_of_le HL.out.keep.size) HRC.out H4.out.1 H4.out.2.1 H4.out.2.2⟩
  rw [results_cell_tmp2 rfl]
  show Result.andThen ((loadVar 49 ⟨W.heap.size + 1, 0, none⟩).run Tryz.prog W3) _ = _
  rw [HLD.out]
  rfl
set_option maxRecDepth 100000 in
set_option maxHeartbeats 2000000 in
theorem do_state_full {w1 W : World} {P Q cq b0 b1 : Nat} (h : LoopS w1 W P Q cq (.pointer (some ⟨b0, 0, none⟩)) (.pointer (some ⟨b1, 0, none⟩)) 10000) :
    Calls Tryz.prog 14 #[.pointer (some ⟨P, 0, none⟩), .agg #[.int .i64 3, .int .i64 0, .int .i64 0, .int .i64 0, .string ⟨#[]⟩, .string ⟨#[]⟩, .string ⟨#[]⟩, .int .i64 0, .slice none 0 0]] W fun e w' => e = .returned (.tuple #[.agg #[.int .i64 0, .int .i64 0, .int .i64 0, .slice none 0 0, .slice none 0 0], .int .i64 0, .int .i64 7]) ∧ Below W.heap.size W w' := by
  have HL := Lib.hid h
  clear h
  have hz2 : ((W.alloc (.cells #[.int .i64 3, .int .i64 0, .int .i64 0, .int .i64 0, .string ⟨#[]⟩, .string ⟨#[]⟩, .string ⟨#[]⟩, .int .i64 0, .slice none 0 0] 33)).alloc (.cells #[.int .i64 0, .int .i64 0, .int .i64 0, .slice none 0 0, .slice none 0 0] 49)).heap.size = W.heap.size + 2 := by simp
  have hl2 : LoopS w1 ((W.alloc (.cells #[.int .i64 3, .int .i64 0, .int .i64 0, .int .i64 0, .string ⟨#[]⟩, .string ⟨#[]⟩, .string ⟨#[]⟩, .int .i64 0, .slice none 0 0] 33)).alloc (.cells #[.int .i64 0, .int .i64 0, .int .i64 0, .slice none 0 0, .slice none 0 0] 49)) P Q cq (.pointer (some ⟨b0, 0, none⟩)) (.pointer (some ⟨b1, 0, none⟩)) 10000 := (HL.out.below (below_alloc _ _)).below (below_alloc _ _)
  have HB2 : Hid (Below W.heap.size W ((W.alloc (.cells #[.int .i64 3, .int .i64 0, .int .i64 0, .int .i64 0, .string ⟨#[]⟩, .string ⟨#[]⟩, .string ⟨#[]⟩, .int .i64 0, .slice none 0 0] 33)).alloc (.cells #[.int .i64 0, .int .i64 0, .int .i64 0, .slice none 0 0, .slice none 0 0] 49))) := Lib.hid (nbl_al (below_alloc _ _))
  have HL2 := Lib.hid hl2
  have HZ := Lib.hid (zero_any hl2)
  have x0 : ((W.alloc (.cells #[.int .i64 3, .int .i64 0, .int .i64 0, .int .i64 0, .string ⟨#[]⟩, .string ⟨#[]⟩, .string ⟨#[]⟩, .int .i64 0, .slice none 0 0] 33)).alloc (.cells #[.int .i64 0, .int .i64 0, .int .i64 0, .slice none 0 0, .slice none 0 0] 49)).cell? ⟨W.heap.size, 0, none⟩ = some (.int .i64 3) := cell_below (below_alloc _ _) (new_cells W _ _ 0)
  have x1 : ((W.alloc (.cells #[.int .i64 3, .int .i64 0, .int .i64 0, .int .i64 0, .string ⟨#[]⟩, .string ⟨#[]⟩, .string ⟨#[]⟩, .int .i64 0, .slice none 0 0] 33)).alloc (.cells #[.int .i64 0, .int .i64 0, .int .i64 0, .slice none 0 0, .slice none 0 0] 49)).cell? ⟨W.heap.size, 1, none⟩ = some (.int .i64 0) := cell_below (below_alloc _ _) (new_cells W _ _ 1)
  have c0 := hl2.net.c0
  have HA0 : Hid (((W.alloc (.cells #[.int .i64 3, .int .i64 0, .int .i64 0, .int .i64 0, .string ⟨#[]⟩, .string ⟨#[]⟩, .string ⟨#[]⟩, .int .i64 0, .slice none 0 0] 33)).alloc (.cells #[.int .i64 0, .int .i64 0, .int .i64 0, .slice none 0 0, .slice none 0 0] 49)).heap[W.heap.size + 1]? = some (.cells #[.int .i64 0, .int .i64 0, .int .i64 0, .slice none 0 0, .slice none 0 0] 49 (0, 0))) := Lib.hid (by
    rw [← show (W.alloc (.cells #[.int .i64 3, .int .i64 0, .int .i64 0, .int .i64 0, .string ⟨#[]⟩, .string ⟨#[]⟩, .string ⟨#[]⟩, .int .i64 0, .slice none 0 0] 33)).heap.size = W.heap.size + 1 from Array.size_push _]
    exact heap_alloc_new _ _)
  have HZ2 := Lib.hid hz2
  clear hl2 hz2
  go_enter Tryz.func14, Tryz.ntmps14
  go_wp2_with (first | (go_at_call 16; refine HZ.out.mono ?_; rintro e W2 ⟨rfl, hw⟩; rw [← hw] at x0 x1 c0 HL2 HB2 HA0 HZ2; clear hw HZ))
  go_quiet (fail)
  have HR : Hid ((W2.drewN nq).heap[W.heap.size + 1]? = some (.cells #[.int .i64 0, .int .i64 0, .int .i64 0, .slice none 0 0, .slice none 0 0] 49 (0, 0)) ∧ W.heap.size + 1 < (W2.drewN nq).heap.size) := Lib.hid ⟨HA0.out, by have := HZ2.out; show W.heap.size + 1 < W2.heap.size; omega⟩
  have HBW : Hid (Below W.heap.size W (W2.drewN nq)) := Lib.hid (nbl_drewN HB2.out)
  have HLW := Lib.hid (HL2.out.below (nbl_drewN (n := nq) (Below.refl _ _)))
  go_wp2_with (first | (go_at_call 25; refine (state_full HLW.out).mono ?_; rintro e wc ⟨rfl, hb⟩; have HBC := Lib.hid (nbl_step HBW.out hb); have hrc := (hb.block _ HR.out.2).trans HR.out.1; clear hb; obtain ⟨W3, e1, e2, e3, e4, e5, e6⟩ := ans_fin hrc; have HLX := Lib.hid e1; have HST := Lib.hid e2; have HLD := Lib.hid e3; have HRC := Lib.hid hrc; have H4 := Lib.hid (And.intro e4 (And.intro e5 e6)); clear e1 e2 e3 e4 e5 e6 hrc) | (refine wpList_load_eq (by rfl) (.tmp 4) 49 (by rfl) _ _ (by rfl) HLX.out ?_) | (refine wpList_store_eq (by rfl) (.tmp 4) (.tmp 120) 49 (by rfl) _ _ (by rfl) (by rfl) HST.out ?_))
  refine bodyPost_ret (v := .tuple #[.agg #[.int .i64 0, .int .i64 0, .int .i64 0, .slice none 0 0, .slice none 0 0], .int .i64 0, .int .i64 7]) ?_ rfl ⟨rfl, ⟨H4.out.2.1.1.trans HBC.out.os, H4.out.2.1.2.1.trans HBC.out.tape, H4.out.2.1.2.2.trans HBC.out.output, by rw [H4.out.1]; exact HBC.out.size, fun b hb => (H4.out.2.2 b (by omega)).trans (HBC.out.block b hb)⟩⟩
  rw [results_cell_tmp2 rfl]
  show Result.andThen ((loadVar 49 ⟨W.heap.size + 1, 0, none⟩).run Tryz.prog W3) _ = _
  rw [HLD.out]
  rfl
set_option maxRecDepth 100000 in
set_option maxHeartbeats 2000000 in
theorem do_drain_full {w1 W : World} {P Q cq b0 b1 : Nat} (h : LoopS w1 W P Q cq (.pointer (some ⟨b0, 0, none⟩)) (.pointer (some ⟨b1, 0, none⟩)) 10000) :
    Calls Tryz.prog 14 #[.pointer (some ⟨P, 0, none⟩), .agg #[.int .i64 2, .int .i64 0, .int .i64 0, .int .i64 0, .string ⟨#[]⟩, .string ⟨#[]⟩, .string ⟨#[]⟩, .int .i64 0, .slice none 0 0]] W fun e w' => e = .returned (.tuple #[.agg #[.int .i64 0, .int .i64 0, .int .i64 0, .slice none 0 0, .slice none 0 0], .int .i64 0, .int .i64 7]) ∧ Below W.heap.size W w' := by
  have HL := Lib.hid h
  clear h
  have hz2 : ((W.alloc (.cells #[.int .i64 2, .int .i64 0, .int .i64 0, .int .i64 0, .string ⟨#[]⟩, .string ⟨#[]⟩, .string ⟨#[]⟩, .int .i64 0, .slice none 0 0] 33)).alloc (.cells #[.int .i64 0, .int .i64 0, .int .i64 0, .slice none 0 0, .slice none 0 0] 49)).heap.size = W.heap.size + 2 := by simp
  have hl2 : LoopS w1 ((W.alloc (.cells #[.int .i64 2, .int .i64 0, .int .i64 0, .int .i64 0, .string ⟨#[]⟩, .string ⟨#[]⟩, .string ⟨#[]⟩, .int .i64 0, .slice none 0 0] 33)).alloc (.cells #[.int .i64 0, .int .i64 0, .int .i64 0, .slice none 0 0, .slice none 0 0] 49)) P Q cq (.pointer (some ⟨b0, 0, none⟩)) (.pointer (some ⟨b1, 0, none⟩)) 10000 := (HL.out.below (below_alloc _ _)).below (below_alloc _ _)
  have HB2 : Hid (Below W.heap.size W ((W.alloc (.cells #[.int .i64 2, .int .i64 0, .int .i64 0, .int .i64 0, .string ⟨#[]⟩, .string ⟨#[]⟩, .string ⟨#[]⟩, .int .i64 0, .slice none 0 0] 33)).alloc (.cells #[.int .i64 0, .int .i64 0, .int .i64 0, .slice none 0 0, .slice none 0 0] 49))) := Lib.hid (nbl_al (below_alloc _ _))
  have HL2 := Lib.hid hl2
  have HZ := Lib.hid (zero_any hl2)
  have x0 : ((W.alloc (.cells #[.int .i64 2, .int .i64 0, .int .i64 0, .int .i64 0, .string ⟨#[]⟩, .string ⟨#[]⟩, .string ⟨#[]⟩, .int .i64 0, .slice none 0 0] 33)).alloc (.cells #[.int .i64 0, .int .i64 0, .int .i64 0, .slice none 0 0, .slice none 0 0] 49)).cell? ⟨W.heap.size, 0, none⟩ = some (.int .i64 2) := cell_below (below_alloc _ _) (new_cells W _ _ 0)
  have x1 : ((W.alloc (.cells #[.int .i64 2, .int .i64 0, .int .i64 0, .int .i64 0, .string ⟨#[]⟩, .string ⟨#[]⟩, .string ⟨#[]⟩, .int .i64 0, .slice none 0 0] 33)).alloc (.cells #[.int .i64 0, .int .i64 0, .int .i64 0, .slice none 0 0, .slice none 0 0] 49)).cell? ⟨W.heap.size, 1, none⟩ = some (.int .i64 0) := cell_below (below_alloc _ _) (new_cells W _ _ 1)
  have c0 := hl2.net.c0
  have HA0 : Hid (((W.alloc (.cells #[.int .i64 2, .int .i64 0, .int .i64 0, .int .i64 0, .string ⟨#[]⟩, .string ⟨#[]⟩, .string ⟨#[]⟩, .int .i64 0, .slice none 0 0] 33)).alloc (.cells #[.int .i64 0, .int .i64 0, .int .i64 0, .slice none 0 0, .slice none 0 0] 49)).heap[W.heap.size + 1]? = some (.cells #[.int .i64 0, .int .i64 0, .int .i64 0, .slice none 0 0, .slice none 0 0] 49 (0, 0))) := Lib.hid (by
    rw [← show (W.alloc (.cells #[.int .i64 2, .int .i64 0, .int .i64 0, .int .i64 0, .string ⟨#[]⟩, .string ⟨#[]⟩, .string ⟨#[]⟩, .int .i64 0, .slice none 0 0] 33)).heap.size = W.heap.size + 1 from Array.size_push _]
    exact heap_alloc_new _ _)
  have HZ2 := Lib.hid hz2
  clear hl2 hz2
  go_enter Tryz.func14, Tryz.ntmps14
  go_wp2_with (first | (go_at_call 16; refine HZ.out.mono ?_; rintro e W2 ⟨rfl, hw⟩; rw [← hw] at x0 x1 c0 HL2 HB2 HA0 HZ2; clear hw HZ))
  go_quiet (fail)
  have HR : Hid ((W2.drewN nq).heap[W.heap.size + 1]? = some (.cells #[.int .i64 0, .int .i64 0, .int .i64 0, .slice none 0 0, .slice none 0 0] 49 (0, 0)) ∧ W.heap.size + 1 < (W2.drewN nq).heap.size) := Lib.hid ⟨HA0.out, by have := HZ2.out; show W.heap.size + 1 < W2.heap.size; omega⟩
  have HBW : Hid (Below W.heap.size W (W2.drewN nq)) := Lib.hid (nbl_drewN HB2.out)
  have HLW := Lib.hid (HL2.out.below (nbl_drewN (n := nq) (Below.refl _ _)))
  go_wp2_with (first | (go_at_call 24; refine (drain_full HLW.out).mono ?_; rintro e wc ⟨rfl, hb⟩; have HBC := Lib.hid (nbl_step HBW.out hb); have hrc := (hb.block _ HR.out.2).trans HR.out.1; clear hb; obtain ⟨W3, e1, e2, e3, e4, e5, e6⟩ := ans_fin hrc; have HLX := Lib.hid e1; have HST := Lib.hid e2; have HLD := Lib.hid e3; have HRC := Lib.hid hrc; have H4 := Lib.hid (And.intro e4 (And.intro e5 e6)); clear e1 e2 e3 e4 e5 e6 hrc) | (refine wpList_load_eq (by rfl) (.tmp 4) 49 (by rfl) _ _ (by rfl) HLX.out ?_) | (refine wpList_store_eq (by rfl) (.tmp 4) (.tmp 120) 49 (by rfl) _ _ (by rfl) (by rfl) HST.out ?_))
  refine bodyPost_ret (v := .tuple #[.agg #[.int .i64 0, .int .i64 0, .int .i64 0, .slice none 0 0, .slice none 0 0], .int .i64 0, .int .i64 7]) ?_ rfl ⟨rfl, ⟨H4.out.2.1.1.trans HBC.out.os, H4.out.2.1.2.1.trans HBC.out.tape, H4.out.2.1.2.2.trans HBC.out.output, by rw [H4.out.1]; exact HBC.out.size, fun b hb => (H4.out.2.2 b (by omega)).trans (HBC.out.block b hb)⟩⟩
  rw [results_cell_tmp2 rfl]
  show Result.andThen ((loadVar 49 ⟨W.heap.size + 1, 0, none⟩).run Tryz.prog W3) _ = _
  rw [HLD.out]
  rfl
set_option maxRecDepth 100000 in
set_option maxHeartbeats 2000000 in
theorem do_drain_one {w1 W : World} {P Q cq b0 b1 : Nat} {k : Nat} (h : LoopS w1 W P Q cq (.pointer (some ⟨b0, 0, none⟩)) (.pointer (some ⟨b1, 0, none⟩)) k) (hk : k ≤ 10000) :
    Calls Tryz.prog 14 #[.pointer (some ⟨P, 0, none⟩), .agg #[.int .i64 2, .int .i64 1, .int .i64 0, .int .i64 0, .string ⟨#[]⟩, .string ⟨#[]⟩, .string ⟨#[]⟩, .int .i64 0, .slice none 0 0]] W fun e w' => e = .returned (.tuple #[.agg #[.int .i64 0, .int .i64 0, .int .i64 0, .slice none 0 0, .slice none 0 0], .int .i64 0, .int .i64 0]) ∧ KeepPQ P Q W.heap.size W w' := by
  have HL := Lib.hid h
  have HK := Lib.hid hk
  clear hk
  clear h
  have hz2 : ((W.alloc (.cells #[.int .i64 2, .int .i64 1, .int .i64 0, .int .i64 0, .string ⟨#[]⟩, .string ⟨#[]⟩, .string ⟨#[]⟩, .int .i64 0, .slice none 0 0] 33)).alloc (.cells #[.int .i64 0, .int .i64 0, .int .i64 0, .slice none 0 0, .slice none 0 0] 49)).heap.size = W.heap.size + 2 := by simp
  have hl2 : LoopS w1 ((W.alloc (.cells #[.int .i64 2, .int .i64 1, .int .i64 0, .int .i64 0, .string ⟨#[]⟩, .string ⟨#[]⟩, .string ⟨#[]⟩, .int .i64 0, .slice none 0 0] 33)).alloc (.cells #[.int .i64 0, .int .i64 0, .int .i64 0, .slice none 0 0, .slice none 0 0] 49)) P Q cq (.pointer (some ⟨b0, 0, none⟩)) (.pointer (some ⟨b1, 0, none⟩)) k := (HL.out.below (below_alloc _ _)).below (below_alloc _ _)
  have HB2 : Hid (Below W.heap.size W ((W.alloc (.cells #[.int .i64 2, .int .i64 1, .int .i64 0, .int .i64 0, .string ⟨#[]⟩, .string ⟨#[]⟩, .string ⟨#[]⟩, .int .i64 0, .slice none 0 0] 33)).alloc (.cells #[.int .i64 0, .int .i64 0, .int .i64 0, .slice none 0 0, .slice none 0 0] 49))) := Lib.hid (nbl_al (below_alloc _ _))
  have HL2 := Lib.hid hl2
  have HZ := Lib.hid (zero_any hl2)
  have x0 : ((W.alloc (.cells #[.int .i64 2, .int .i64 1, .int .i64 0, .int .i64 0, .string ⟨#[]⟩, .string ⟨#[]⟩, .string ⟨#[]⟩, .int .i64 0, .slice none 0 0] 33)).alloc (.cells #[.int .i64 0, .int .i64 0, .int .i64 0, .slice none 0 0, .slice none 0 0] 49)).cell? ⟨W.heap.size, 0, none⟩ = some (.int .i64 2) := cell_below (below_alloc _ _) (new_cells W _ _ 0)
  have x1 : ((W.alloc (.cells #[.int .i64 2, .int .i64 1, .int .i64 0, .int .i64 0, .string ⟨#[]⟩, .string ⟨#[]⟩, .string ⟨#[]⟩, .int .i64 0, .slice none 0 0] 33)).alloc (.cells #[.int .i64 0, .int .i64 0, .int .i64 0, .slice none 0 0, .slice none 0 0] 49)).cell? ⟨W.heap.size, 1, none⟩ = some (.int .i64 1) := cell_below (below_alloc _ _) (new_cells W _ _ 1)
  have c0 := hl2.net.c0
  have HA0 : Hid (((W.alloc (.cells #[.int .i64 2, .int .i64 1, .int .i64 0, .int .i64 0, .string ⟨#[]⟩, .string ⟨#[]⟩, .string ⟨#[]⟩, .int .i64 0, .slice none 0 0] 33)).alloc (.cells #[.int .i64 0, .int .i64 0, .int .i64 0, .slice none 0 0, .slice none 0 0] 49)).heap[W.heap.size + 1]? = some (.cells #[.int .i64 0, .int .i64 0, .int .i64 0, .slice none 0 0, .slice none 0 0] 49 (0, 0))) := Lib.hid (by
    rw [← show (W.alloc (.cells #[.int .i64 2, .int .i64 1, .int .i64 0, .int .i64 0, .string ⟨#[]⟩, .string ⟨#[]⟩, .string ⟨#[]⟩, .int .i64 0, .slice none 0 0] 33)).heap.size = W.heap.size + 1 from Array.size_push _]
    exact heap_alloc_new _ _)
  have HZ2 := Lib.hid hz2
  clear hl2 hz2
  go_enter Tryz.func14, Tryz.ntmps14
  go_wp2_with (first | (go_at_call 16; refine HZ.out.mono ?_; rintro e W2 ⟨rfl, hw⟩; rw [← hw] at x0 x1 c0 HL2 HB2 HA0 HZ2; clear hw HZ))
  go_quiet (fail)
  have HR : Hid ((W2.drewN nq).heap[W.heap.size + 1]? = some (.cells #[.int .i64 0, .int .i64 0, .int .i64 0, .slice none 0 0, .slice none 0 0] 49 (0, 0)) ∧ W.heap.size + 1 < (W2.drewN nq).heap.size) := Lib.hid ⟨HA0.out, by have := HZ2.out; show W.heap.size + 1 < W2.heap.size; omega⟩
  have HBW : Hid (Below W.heap.size W (W2.drewN nq)) := Lib.hid (nbl_drewN HB2.out)
  have HLW := Lib.hid (HL2.out.below (nbl_drewN (n := nq) (Below.refl _ _)))
  go_wp2_with (first | (go_at_call 24; refine (drain_one HLW.out HK.out).mono ?_; rintro e wc ⟨rfl, a, v, hb, hw⟩; have HKP : Hid (KeepPQ P Q W.heap.size W wc) := Lib.hid (by rw [hw]; exact (KeepPQ.of (nbl_step HBW.out hb) (Nat.le_refl _)).trans (.setQ a 1 v)); have hrc : wc.heap[W.heap.size + 1]? = some (.cells #[.int .i64 0, .int .i64 0, .int .i64 0, .slice none 0 0, .slice none 0 0] 49 (0, 0)) := (show wc.heap[W.heap.size + 1]? = a.heap[W.heap.size + 1]? from by rw [hw]; exact (Below.heap_setCell _ _ _ _ (show W.heap.size + 1 ≠ Q by have := HL.out.net.ltQ; omega))).trans ((hb.block _ HR.out.2).trans HR.out.1); clear hb hw; obtain ⟨W3, e1, e2, e3, e4, e5, e6⟩ := ans_fin hrc; have HLX := Lib.hid e1; have HST := Lib.hid e2; have HLD := Lib.hid e3; have HRC := Lib.hid hrc; have H4 := Lib.hid (And.intro e4 (And.intro e5 e6)); clear e1 e2 e3 e4 e5 e6 hrc) | (refine wpList_load_eq (by rfl) (.tmp 4) 49 (by rfl) _ _ (by rfl) HLX.out ?_) | (refine wpList_store_eq (by rfl) (.tmp 4) (.tmp 122) 49 (by rfl) _ _ (by rfl) (by rfl) HST.out ?_))
  refine bodyPost_ret (v := .tuple #[.agg #[.int .i64 0, .int .i64 0, .int .i64 0, .slice none 0 0, .slice none 0 0], .int .i64 0, .int .i64 0]) ?_ rfl ⟨rfl, HKP.out.trans ⟨H4.out.2.1.1, H4.out.2.1.2.1, H4.out.2.1.2.2, Nat.le_of_eq H4.out.1.symm, fun b hb _ _ => H4.out.2.2 b (by omega)⟩⟩
  rw [results_cell_tmp2 rfl]
  show Result.andThen ((loadVar 49 ⟨W.heap.size + 1, 0, none⟩).run Tryz.prog W3) _ = _
  rw [HLD.out]
  rfl
end Go.Proofs.YtfddpmnbbjofnaaGreatDoor
