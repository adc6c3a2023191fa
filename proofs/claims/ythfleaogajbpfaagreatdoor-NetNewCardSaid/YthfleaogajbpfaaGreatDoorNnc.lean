/- A new node's copy. -/
import Derived.Test.YthfleaogajbpfaaGreatDoorNnb
import Derived.Test.YthfleaogajbpfaaGreatDoorIt
set_option linter.unusedVariables false
set_option linter.unusedSimpArgs false
namespace Go.Proofs.YthfleaogajbpfaaGreatDoor
open Go.RowKit Go.MapKept
/-- A table that is being copied: k of its stripes are there. -/
structure TC (b W : World) (S T G k : Nat) : Prop where
  bel : Below b.heap.size b W
  st : Stripes W G S k
  th : W.heap[T]? = some (.cells #[.slice (some ⟨G, 0, none⟩) S S, .int .i64 0] 126 (0, 0))
  hG : b.heap.size ≤ G
  hT : G < T
theorem TC.after {b W W' : World} {S T G k : Nat} (h : TC b W S T G k) (hb : Below W.heap.size W W') : TC b W' S T G k :=
  ⟨nbl_step h.bel hb, h.st.below hb, (hb.block T (Array.getElem?_eq_some_iff.1 h.th).1).trans h.th, h.hG, h.hT⟩
theorem TC.set {b W : World} {S T G k x : Nat} (h : TC b W S T G k) (hk : k < S) (hx : W.heap[x]? = some (.map #[] 0)) (hGx : G < x) : TC b (W.setCell ⟨G, k, none⟩ (.map (some x))) S T G (k + 1) :=
  ⟨below_set h.bel h.hG _, h.st.step hk hx hGx, (heap_setN _ _ _ _ (show T ≠ G by have := h.hT; omega)).trans h.th, h.hG, h.hT⟩
/-- What a cell holds, whatever that is. -/
def oldOf (w : World) (a : Addr) : Value := (w.cell? a).getD (.map none)
theorem oldOf_eq {w : World} {a : Addr} (h : (w.cell? a).isSome = true) : w.cell? a = some (oldOf w a) := by
  unfold oldOf
  obtain ⟨v, hv⟩ := Option.isSome_iff_exists.1 h
  rw [hv]
  rfl
theorem there_at {w : World} {X n j : Nat} (h : w.there X 0 n) (hj : j < n) : (w.cell? ⟨X, j, none⟩).isSome = true ∧ w.frozen? ⟨X, j, none⟩ = false := by
  have := h j hj
  rwa [Nat.zero_add] at this
theorem there_set {w : World} {X n : Nat} (h : w.there X 0 n) (q : Nat) (v : Value) : (w.setCell ⟨X, q, none⟩ v).there X 0 n := by
  have e : w.setCell ⟨X, q, none⟩ v = w.setCells X q [v] := rfl
  rw [e]
  exact World.there_setCells h _ _ _
theorem TC.limbs {b W : World} {S T G k : Nat} (h : TC b W S T G k) (hk : k < S) : W.cell? ⟨T, 0, none⟩ = some (.slice (some ⟨G, 0, none⟩) S S) ∧ W.cell? ⟨G, k, none⟩ = some (oldOf W ⟨G, k, none⟩) ∧ W.frozen? ⟨G, k, none⟩ = false :=
  ⟨cell_at h.th, oldOf_eq (there_at h.st.there hk).1, (there_at h.st.there hk).2⟩
theorem TC.limbs_set {b W : World} {S T G k : Nat} (h : TC b W S T G k) (hk : k < S) (v : Value) : (W.setCell ⟨G, k, none⟩ v).cell? ⟨T, 0, none⟩ = some (.slice (some ⟨G, 0, none⟩) S S) ∧ (W.setCell ⟨G, k, none⟩ v).cell? ⟨G, k, none⟩ = some (oldOf (W.setCell ⟨G, k, none⟩ v) ⟨G, k, none⟩) ∧ (W.setCell ⟨G, k, none⟩ v).frozen? ⟨G, k, none⟩ = false :=
  ⟨(cell_same (heap_setN _ _ _ _ (show T ≠ G by have := h.hT; omega)) 0).trans (cell_at h.th), oldOf_eq (there_at (there_set h.st.there k v) hk).1, (there_at (there_set h.st.there k v) hk).2⟩
set_option maxRecDepth 100000 in
set_option maxHeartbeats 4000000 in
theorem tcopy_new {w : World} {p t g d n u : Nat} {r : Int} {S : Nat} {i o : Int} (h : NodeNew w p t g d n u r S i o) (hk : okN r S i o = true) : Calls Tryz.prog 137 #[.pointer (some ⟨t, 0, none⟩)] w fun e w' => (∃ T G, e = .returned (.pointer (some ⟨T, 0, none⟩)) ∧ w'.heap[T]? = some (.cells #[.slice (some ⟨G, 0, none⟩) S S, .int .i64 0] 126 (0, 0)) ∧ Stripes w' G S S ∧ w.heap.size ≤ G ∧ G < T) ∧ Below w.heap.size w w' := by
  have t0 := h.t0
  have t1 := h.t1
  have HN := Lib.hid (tnone_new h hk)
  have HH := Lib.hid h
  have HL : Hid (S ≤ 1024) := Lib.hid (by have h' : okT S = true := (by unfold okN at hk; revert hk; cases okT (S : Int) <;> simp); have := (okT_true h').2; omega)
  have hmk : ∀ W : World, (Instr.makeSlice 124 (.int .i64 (S : Int)) (.int .i64 (S : Int))).run Tryz.prog W = .ok (.slice (some ⟨W.heap.size, 0, none⟩) S S) (W.alloc (.cells (madeCells #[.map none] S) 127)) := fun W => make_maps S (by have := HL.out; omega) W
  clear h hk
  go_enter Tryz.func137, Tryz.ntmps137
  go_wp2_with (first | (go_at_call 132; refine HN.out.mono ?_; rintro e w0 ⟨rfl, hw0⟩; subst w0))
  go_region_held3 (fun w' => w'.cell? ⟨t, 0, none⟩ = some (.slice (some ⟨g, 0, none⟩) S S) ∧ w'.cell? ⟨t, 1, none⟩ = some (.int .i64 0)) (go_keep) (fail)
  have hTC : TC w (((w.alloc (.cells (madeCells #[.map none] S) 127)).alloc (.cells #[.slice (some ⟨w.heap.size, 0, none⟩) S S, .int .i64 0] 126)).drew) S (w.heap.size + 1) w.heap.size 0 := by
    have sz := size_allocN w (.cells (madeCells #[.map none] S) 127)
    have st : Stripes (w.alloc (.cells (madeCells #[.map none] S) 127)) w.heap.size S 0 := ⟨there_newN (heap_alloc_new w _) S (by rw [size_madeCells]; exact Nat.le_refl _), by omega, fun i hi => absurd hi (Nat.not_lt_zero i), fun i b hi => absurd hi (Nat.not_lt_zero i)⟩
    have th := heap_alloc_new (w.alloc (.cells (madeCells #[.map none] S) 127)) (.cells #[.slice (some ⟨w.heap.size, 0, none⟩) S S, .int .i64 0] 126)
    rw [sz] at th
    exact TC.after ⟨nbl_al (below_alloc _ _), st.below (below_alloc _ _), th, Nat.le_refl _, Nat.lt_succ_self _⟩ (Below.refl _ _).drew
  generalize (((w.alloc (.cells (madeCells #[.map none] S) 127)).alloc (.cells #[.slice (some ⟨w.heap.size, 0, none⟩) S S, .int .i64 0] 126)).drew) = w4 at *
  have t04 : w4.cell? ⟨t, 0, none⟩ = some (.slice (some ⟨g, 0, none⟩) S S) := cell_below hTC.bel t0
  go_wp2_with fail
  go_loopg [25] S (fun gf u wx => ∃ k : Nat, u = .int .i64 (k : Int) ∧ k + gf = S ∧ TC w wx S (w.heap.size + 1) w.heap.size k)
  case atStart => exact ⟨0, rfl, by omega, hTC⟩
  case round =>
    clear hTC t04
    obtain ⟨k, rfl, hi, hT⟩ := hrel
    have HT := Lib.hid hT
    clear hT
    by_cases hlt : k < S
    · obtain ⟨g', rfl⟩ : ∃ g', gk = g' + 1 := ⟨gk - 1, by omega⟩
      have hk3 : k < 1024 := by have := HL.out; omega
      have HST := Lib.hid (HH.out.st.below HT.out.bel)
      obtain ⟨b, hc, hm⟩ := HST.out.full k hlt
      have HM := Lib.hid hm
      have HTS := Lib.hid (fun W (hb : Below wr.heap.size wr W) => TC.limbs (HT.out.after hb) hlt)
      have HTV := Lib.hid (fun W (hb : Below wr.heap.size wr W) v => TC.limbs_set (HT.out.after hb) hlt v)
      clear hm
      go_wp2_with fail
      go_region_held3 (fun w' => w'.cell? ⟨w.heap.size + 1, 0, none⟩ = some (.slice (some ⟨w.heap.size, 0, none⟩) S S) ∧ w'.cell? ⟨w.heap.size, k, none⟩ = some (oldOf w' ⟨w.heap.size, k, none⟩) ∧ w'.frozen? ⟨w.heap.size, k, none⟩ = false) (first | (exact HTS.out _ (Below.refl _ _).drew) | (exact HTS.out _ HB8.out) | (exact HTV.out _ HB8.out _)) (first | (go_at_call 193; refine (AnyW.maps_Clone Tryz.cloneA b #[] 0 _ (((Below.refl _ wr).drew.block b (Array.getElem?_eq_some_iff.1 HM.out).1).trans HM.out)).mono ?_; rintro e w8 ⟨rfl, hw8⟩; have HB8 : Hid (Below wr.heap.size wr w8) := Lib.hid (by rw [hw8]; exact nbl_step (Below.refl _ _).drew (below_alloc _ _)); have HN8 : Hid (w8.heap[wr.drew.heap.size]? = some (.map #[] 0)) := Lib.hid (by rw [hw8]; exact heap_alloc_new _ _); clear hw8) | fail)
      go_wp2_with fail
      go_roundg g'
      case measure => omega
      case rel => exact ⟨k + 1, by first | rfl | go_num, by omega, (HT.out.after HB8.out).set hlt HN8.out (Nat.lt_of_lt_of_le HT.out.st.lt (Nat.le_refl _))⟩
    · have e : k = S := by omega
      subst e
      go_wp2_with fail
      go_ret
      exact ⟨⟨_, _, rfl, HT.out.th, HT.out.st, HT.out.hG, HT.out.hT⟩, HT.out.bel⟩
set_option maxRecDepth 100000 in
set_option maxHeartbeats 1000000 in
theorem ccopy_new {w : World} {p t g d n u : Nat} {r : Int} {S : Nat} {i o : Int} (h : NodeNew w p t g d n u r S i o) (hk : okN r S i o = true) : Calls Tryz.prog 138 #[.pointer (some ⟨d, 0, none⟩)] w fun e w' => (∃ D, e = .returned (.pointer (some ⟨D, 0, none⟩)) ∧ w'.cell? ⟨D, 0, none⟩ = some (.int .i64 r) ∧ w'.cell? ⟨D, 1, none⟩ = some (.int .i64 0) ∧ w.heap.size ≤ D) ∧ Below w.heap.size w w' := by
  have d0 := h.d0
  have d1 := h.d1
  have HN := Lib.hid (cnone_new h hk)
  clear h hk
  go_enter Tryz.func138, Tryz.ntmps138
  go_wp2_with (first | (go_at_call 93; refine HN.out.mono ?_; rintro e w0 ⟨rfl, hw0⟩; subst w0))
  go_ret
  exact ⟨⟨_, rfl, new_cells _ _ _ 0, new_cells _ _ _ 1, Nat.le_refl _⟩, below_alloc _ _⟩
set_option maxRecDepth 100000 in
set_option maxHeartbeats 1000000 in
theorem icopy_new {w : World} {p t g d n u : Nat} {r : Int} {S : Nat} {i o : Int} (h : NodeNew w p t g d n u r S i o) (hk : okN r S i o = true) : Calls Tryz.prog 139 #[.pointer (some ⟨n, 0, none⟩)] w fun e w' => (∃ N, e = .returned (.pointer (some ⟨N, 0, none⟩)) ∧ w'.cell? ⟨N, 0, none⟩ = some (.int .i64 i) ∧ w'.cell? ⟨N, 1, none⟩ = some (.slice none 0 0) ∧ w'.cell? ⟨N, 2, none⟩ = some (.int .i64 0) ∧ w'.cell? ⟨N, 3, none⟩ = some (.int .i64 0) ∧ w.heap.size ≤ N) ∧ Below w.heap.size w w' := by
  have n0 := h.n0
  have n1 := h.n1
  have n2 := h.n2
  have n3 := h.n3
  have HN := Lib.hid (inone_new h hk)
  have HC := Lib.hid (fun W (hb : Below w.heap.size w W) => iall_new (h.below hb) hk)
  clear h hk
  go_enter Tryz.func139, Tryz.ntmps139
  go_wp2_with (first | (go_at_call 123; refine HN.out.mono ?_; rintro e w0 ⟨rfl, hw0⟩; subst w0))
  go_region_held3 (fun w' => w'.cell? ⟨n, 0, none⟩ = some (.int .i64 i) ∧ w'.cell? ⟨n, 3, none⟩ = some (.int .i64 0) ∧ w'.cell? ⟨n, 2, none⟩ = some (.int .i64 0)) (go_keep) (first | (go_at_call 79; refine (HC.out _ (by first | exact Below.refl _ _ | exact (Below.refl _ _).drew)).mono ?_; rintro e w8 ⟨rfl, hw8⟩; subst w8) | fail)
  go_wp2_with fail
  go_ret
  exact ⟨⟨_, rfl, new_cells _ _ _ 0, new_cells _ _ _ 1, new_cells _ _ _ 2, new_cells _ _ _ 3, Nat.le_refl _⟩, nbl_step (Below.refl _ _).drew (below_alloc _ _)⟩
set_option maxRecDepth 100000 in
set_option maxHeartbeats 1000000 in
theorem ocopy_new {w : World} {p t g d n u : Nat} {r : Int} {S : Nat} {i o : Int} (h : NodeNew w p t g d n u r S i o) (hk : okN r S i o = true) : Calls Tryz.prog 140 #[.pointer (some ⟨u, 0, none⟩)] w fun e w' => (∃ U, e = .returned (.pointer (some ⟨U, 0, none⟩)) ∧ w'.cell? ⟨U, 0, none⟩ = some (.int .i64 o) ∧ w'.cell? ⟨U, 1, none⟩ = some (.slice none 0 0) ∧ w'.cell? ⟨U, 2, none⟩ = some (.slice none 0 0) ∧ w.heap.size ≤ U) ∧ Below w.heap.size w w' := by
  have u0 := h.u0
  have u1 := h.u1
  have u2 := h.u2
  have HN := Lib.hid (unone_new h hk)
  have HC := Lib.hid (fun W (hb : Below w.heap.size w W) => udel_new (h.below hb) hk)
  have HD := Lib.hid (fun W (hb : Below w.heap.size w W) => udirty_new (h.below hb) hk)
  clear h hk
  go_enter Tryz.func140, Tryz.ntmps140
  go_wp2_with (first | (go_at_call 94; refine HN.out.mono ?_; rintro e w0 ⟨rfl, hw0⟩; subst w0))
  go_region_held3 (fun w' => w'.cell? ⟨u, 0, none⟩ = some (.int .i64 o)) (go_keep) (first | (go_at_call 80; refine (HC.out _ (by first | exact Below.refl _ _ | exact (Below.refl _ _).drew)).mono ?_; rintro e w8 ⟨rfl, hw8⟩; subst w8) | (go_at_call 59; refine (HD.out _ (by first | exact Below.refl _ _ | exact (Below.refl _ _).drew)).mono ?_; rintro e w8 ⟨rfl, hw8⟩; subst w8) | fail)
  all_goals
    go_wp2_with fail
    go_ret
    exact ⟨⟨_, rfl, new_cells _ _ _ 0, new_cells _ _ _ 1, new_cells _ _ _ 2, Nat.le_refl _⟩, nbl_step (Below.refl _ _).drew (below_alloc _ _)⟩
/-- A copy that is being made, at X. -/
structure XC (b W : World) (X : Nat) : Prop where
  bel : Below b.heap.size b W
  th : W.there X 0 9
  hX : b.heap.size ≤ X
theorem XC.after {b W W' : World} {X : Nat} (h : XC b W X) (hb : Below W.heap.size W W') : XC b W' X :=
  ⟨nbl_step h.bel hb, fun j hj => by
    have := h.th j hj
    obtain ⟨v, hv⟩ := Option.isSome_iff_exists.1 this.1
    have hlt : X < W.heap.size := World.block_lt_of_cell? W _ hv
    rw [hb.cell (p := ⟨X, 0 + j, none⟩) hlt, hb.frozen (p := ⟨X, 0 + j, none⟩) hlt]
    exact this, h.hX⟩
theorem XC.set {b W : World} {X : Nat} (h : XC b W X) (q : Nat) (v : Value) : XC b (W.setCell ⟨X, q, none⟩ v) X := ⟨below_set h.bel h.hX _, there_set h.th q v, h.hX⟩
theorem XC.all {b W : World} {X p t g d n u : Nat} {r : Int} {S : Nat} {i o : Int} (hn : NodeNew b p t g d n u r S i o) (h : XC b W X) : Hid (XC b W X) ∧ W.cell? ⟨p, 4, none⟩ = some (.pointer (some ⟨t, 0, none⟩)) ∧ W.cell? ⟨p, 5, none⟩ = some (.pointer (some ⟨d, 0, none⟩)) ∧ W.cell? ⟨p, 6, none⟩ = some (.pointer (some ⟨n, 0, none⟩)) ∧ W.cell? ⟨p, 7, none⟩ = some (.pointer (some ⟨u, 0, none⟩)) ∧
    W.cell? ⟨X, 4, none⟩ = some (oldOf W ⟨X, 4, none⟩) ∧ W.frozen? ⟨X, 4, none⟩ = false ∧ W.cell? ⟨X, 5, none⟩ = some (oldOf W ⟨X, 5, none⟩) ∧ W.frozen? ⟨X, 5, none⟩ = false ∧ W.cell? ⟨X, 6, none⟩ = some (oldOf W ⟨X, 6, none⟩) ∧ W.frozen? ⟨X, 6, none⟩ = false ∧ W.cell? ⟨X, 7, none⟩ = some (oldOf W ⟨X, 7, none⟩) ∧ W.frozen? ⟨X, 7, none⟩ = false :=
  have k := hn.below h.bel
  ⟨Lib.hid h, k.c4, k.c5, k.c6, k.c7, oldOf_eq (there_at h.th (by omega)).1, (there_at h.th (by omega)).2, oldOf_eq (there_at h.th (by omega)).1, (there_at h.th (by omega)).2, oldOf_eq (there_at h.th (by omega)).1, (there_at h.th (by omega)).2, oldOf_eq (there_at h.th (by omega)).1, (there_at h.th (by omega)).2⟩
theorem copy_end {b W : World} {X T G D N U : Nat} {r : Int} {S : Nat} {i o : Int} {t d n u : Value} {ty : TypeId} (hb : Below b.heap.size b W) (hX : b.heap.size ≤ X) (hx : W.heap[X]? = some (.cells #[.int .i64 r, .int .i64 (S : Int), .int .i64 i, .int .i64 o, t, d, n, u, .bool false] ty (0, 0)))
    (hT : W.heap[T]? = some (.cells #[.slice (some ⟨G, 0, none⟩) S S, .int .i64 0] 126 (0, 0))) (hS : Stripes W G S S) (hD : W.cell? ⟨D, 0, none⟩ = some (.int .i64 r) ∧ W.cell? ⟨D, 1, none⟩ = some (.int .i64 0)) (hN : W.cell? ⟨N, 0, none⟩ = some (.int .i64 i) ∧ W.cell? ⟨N, 1, none⟩ = some (.slice none 0 0) ∧ W.cell? ⟨N, 2, none⟩ = some (.int .i64 0) ∧ W.cell? ⟨N, 3, none⟩ = some (.int .i64 0)) (hU : W.cell? ⟨U, 0, none⟩ = some (.int .i64 o) ∧ W.cell? ⟨U, 1, none⟩ = some (.slice none 0 0) ∧ W.cell? ⟨U, 2, none⟩ = some (.slice none 0 0)) (hne : X < G ∧ X < T ∧ X < D ∧ X < N ∧ X < U) :
    NodeNew ((((W.setCell ⟨X, 4, none⟩ (.pointer (some ⟨T, 0, none⟩))).setCell ⟨X, 5, none⟩ (.pointer (some ⟨D, 0, none⟩))).setCell ⟨X, 6, none⟩ (.pointer (some ⟨N, 0, none⟩))).setCell ⟨X, 7, none⟩ (.pointer (some ⟨U, 0, none⟩))) X T G D N U r S i o ∧ Below b.heap.size b ((((W.setCell ⟨X, 4, none⟩ (.pointer (some ⟨T, 0, none⟩))).setCell ⟨X, 5, none⟩ (.pointer (some ⟨D, 0, none⟩))).setCell ⟨X, 6, none⟩ (.pointer (some ⟨N, 0, none⟩))).setCell ⟨X, 7, none⟩ (.pointer (some ⟨U, 0, none⟩))) := by
  have h1 := heap_set (i := 4) (x := .pointer (some ⟨T, 0, none⟩)) hx
  have h2 := heap_set (i := 5) (x := .pointer (some ⟨D, 0, none⟩)) h1
  have h3 := heap_set (i := 6) (x := .pointer (some ⟨N, 0, none⟩)) h2
  have h4 := heap_set (i := 7) (x := .pointer (some ⟨U, 0, none⟩)) h3
  have ho : ∀ k, k ≠ X → ((((W.setCell ⟨X, 4, none⟩ (.pointer (some ⟨T, 0, none⟩))).setCell ⟨X, 5, none⟩ (.pointer (some ⟨D, 0, none⟩))).setCell ⟨X, 6, none⟩ (.pointer (some ⟨N, 0, none⟩))).setCell ⟨X, 7, none⟩ (.pointer (some ⟨U, 0, none⟩))).heap[k]? = W.heap[k]? := fun k hk => by
    rw [heap_setN _ _ _ _ hk, heap_setN _ _ _ _ hk, heap_setN _ _ _ _ hk, heap_setN _ _ _ _ hk]
  have hsz : W.heap.size ≤ ((((W.setCell ⟨X, 4, none⟩ (.pointer (some ⟨T, 0, none⟩))).setCell ⟨X, 5, none⟩ (.pointer (some ⟨D, 0, none⟩))).setCell ⟨X, 6, none⟩ (.pointer (some ⟨N, 0, none⟩))).setCell ⟨X, 7, none⟩ (.pointer (some ⟨U, 0, none⟩))).heap.size := by
    rw [World.size_setCell, World.size_setCell, World.size_setCell, World.size_setCell]
    exact Nat.le_refl _
  have hbb := below_set (below_set (below_set (below_set hb (p := ⟨X, 4, none⟩) hX (.pointer (some ⟨T, 0, none⟩))) (p := ⟨X, 5, none⟩) hX (.pointer (some ⟨D, 0, none⟩))) (p := ⟨X, 6, none⟩) hX (.pointer (some ⟨N, 0, none⟩))) (p := ⟨X, 7, none⟩) hX (.pointer (some ⟨U, 0, none⟩))
  generalize ((((W.setCell ⟨X, 4, none⟩ (.pointer (some ⟨T, 0, none⟩))).setCell ⟨X, 5, none⟩ (.pointer (some ⟨D, 0, none⟩))).setCell ⟨X, 6, none⟩ (.pointer (some ⟨N, 0, none⟩))).setCell ⟨X, 7, none⟩ (.pointer (some ⟨U, 0, none⟩))) = V at *
  have hT' : V.heap[T]? = _ := (ho T (by omega)).trans hT
  have c := fun {k j : Nat} {v : Value} (hk : X < k) (hc : W.cell? ⟨k, j, none⟩ = some v) => (cell_same (ho k (by omega)) j).trans hc
  exact ⟨⟨cell_at h4, cell_at h4, cell_at h4, cell_at h4, cell_at h4, cell_at h4, cell_at h4, cell_at h4, cell_at h4, cell_at hT', cell_at hT', c (by omega) hD.1, c (by omega) hD.2, c (by omega) hN.1, c (by omega) hN.2.1, c (by omega) hN.2.2.1, c (by omega) hN.2.2.2, c (by omega) hU.1, c (by omega) hU.2.1, c (by omega) hU.2.2, hS.agree hsz fun j hj _ => ho j (by omega)⟩, hbb⟩
set_option maxRecDepth 100000 in
set_option maxHeartbeats 8000000 in
theorem ncopy_new {w : World} {p t g d n u : Nat} {r : Int} {S : Nat} {i o : Int} (h : NodeNew w p t g d n u r S i o) (hk : okN r S i o = true) : Calls Tryz.prog 92 #[.pointer (some ⟨p, 0, none⟩)] w fun e w' => (∃ X T G D N U, e = .returned (.pointer (some ⟨X, 0, none⟩)) ∧ NodeNew w' X T G D N U r S i o) ∧ Below w.heap.size w w' := by
  have HNo := Lib.hid (nnone_new h hk)
  have HTC := Lib.hid (fun W (hb : Below w.heap.size w W) => tcopy_new (h.below hb) hk)
  have HDC := Lib.hid (fun W (hb : Below w.heap.size w W) => ccopy_new (h.below hb) hk)
  have HNC := Lib.hid (fun W (hb : Below w.heap.size w W) => icopy_new (h.below hb) hk)
  have HUC := Lib.hid (fun W (hb : Below w.heap.size w W) => ocopy_new (h.below hb) hk)
  have HH := Lib.hid h
  have c0 := h.c0
  have c1 := h.c1
  have c2 := h.c2
  have c3 := h.c3
  have c4 := h.c4
  have c5 := h.c5
  have c6 := h.c6
  have c7 := h.c7
  have c8 := h.c8
  clear h hk
  go_enter Tryz.func92, Tryz.ntmps92
  go_wp2_with (first | (go_at_call 57; refine HNo.out.mono ?_; rintro e w0 ⟨rfl, hw0⟩; subst w0))
  have HX1 : Hid (XC w (w.alloc (.cells #[.int .i64 r, .int .i64 (S : Int), .int .i64 i, .int .i64 o, .pointer (some ⟨t, 0, none⟩), .pointer (some ⟨d, 0, none⟩), .pointer (some ⟨n, 0, none⟩), .pointer (some ⟨u, 0, none⟩), .bool false] 54)) w.heap.size) := Lib.hid ⟨below_alloc _ _, there_newN (heap_alloc_new w _) 9 (Nat.le_refl 9), Nat.le_refl _⟩
  have HXo : Hid ((w.alloc (.cells #[.int .i64 r, .int .i64 (S : Int), .int .i64 i, .int .i64 o, .pointer (some ⟨t, 0, none⟩), .pointer (some ⟨d, 0, none⟩), .pointer (some ⟨n, 0, none⟩), .pointer (some ⟨u, 0, none⟩), .bool false] 54)).heap[w.heap.size]? = some (.cells #[.int .i64 r, .int .i64 (S : Int), .int .i64 i, .int .i64 o, .pointer (some ⟨t, 0, none⟩), .pointer (some ⟨d, 0, none⟩), .pointer (some ⟨n, 0, none⟩), .pointer (some ⟨u, 0, none⟩), .bool false] 54 (0, 0))) := Lib.hid (heap_alloc_new w _)
  have HXs : Hid ((w.alloc (.cells #[.int .i64 r, .int .i64 (S : Int), .int .i64 i, .int .i64 o, .pointer (some ⟨t, 0, none⟩), .pointer (some ⟨d, 0, none⟩), .pointer (some ⟨n, 0, none⟩), .pointer (some ⟨u, 0, none⟩), .bool false] 54)).heap.size = w.heap.size + 1) := Lib.hid (size_allocN _ _)
  generalize (w.alloc (.cells #[.int .i64 r, .int .i64 (S : Int), .int .i64 i, .int .i64 o, .pointer (some ⟨t, 0, none⟩), .pointer (some ⟨d, 0, none⟩), .pointer (some ⟨n, 0, none⟩), .pointer (some ⟨u, 0, none⟩), .bool false] 54)) = W1 at *
  obtain ⟨_, q0, q1, q2, q3, q4, q5, q6, q7, q8, q9, q10, q11⟩ := XC.all HH.out HX1.out
  go_region_held3 (fun w' => Hid (XC w w' w.heap.size) ∧ w'.cell? ⟨p, 4, none⟩ = some (.pointer (some ⟨t, 0, none⟩)) ∧ w'.cell? ⟨p, 5, none⟩ = some (.pointer (some ⟨d, 0, none⟩)) ∧ w'.cell? ⟨p, 6, none⟩ = some (.pointer (some ⟨n, 0, none⟩)) ∧ w'.cell? ⟨p, 7, none⟩ = some (.pointer (some ⟨u, 0, none⟩)) ∧ w'.cell? ⟨w.heap.size, 4, none⟩ = some (oldOf w' ⟨w.heap.size, 4, none⟩) ∧ w'.frozen? ⟨w.heap.size, 4, none⟩ = false ∧ w'.cell? ⟨w.heap.size, 5, none⟩ = some (oldOf w' ⟨w.heap.size, 5, none⟩) ∧ w'.frozen? ⟨w.heap.size, 5, none⟩ = false ∧ w'.cell? ⟨w.heap.size, 6, none⟩ = some (oldOf w' ⟨w.heap.size, 6, none⟩) ∧ w'.frozen? ⟨w.heap.size, 6, none⟩ = false ∧ w'.cell? ⟨w.heap.size, 7, none⟩ = some (oldOf w' ⟨w.heap.size, 7, none⟩) ∧ w'.frozen? ⟨w.heap.size, 7, none⟩ = false) ((refine XC.all HH.out ?_; (repeat (refine XC.set ?_ _ _)); (first | exact HXU.out | exact HXN.out | exact HXD.out | exact HXT.out | exact HX1.out.after (Below.refl _ _).drew))) (first | (go_at_call 137; refine (HTC.out _ (HX1.out.after (Below.refl _ _).drew).bel).mono ?_; rintro e wT ⟨⟨T, G, rfl, hth, hst, hg, hgt⟩, hb⟩; have HbT := Lib.hid (nbl_step (Below.refl _ _).drew hb); have HXT := Lib.hid (HX1.out.after HbT.out); have HTh := Lib.hid hth; have HTs := Lib.hid hst; have HTg := Lib.hid (And.intro hg hgt); clear hth hst hg hgt hb; obtain ⟨_, q0, q1, q2, q3, q4, q5, q6, q7, q8, q9, q10, q11⟩ := XC.all HH.out HXT.out) | (go_at_call 138; refine (HDC.out _ HXT.out.bel).mono ?_; rintro e wD ⟨⟨D, rfl, h0, h1, hd⟩, hb⟩; have HbD := Lib.hid hb; have HXD := Lib.hid (HXT.out.after hb); have HDd := Lib.hid (And.intro h0 h1); have HDg := Lib.hid hd; clear h0 h1 hd hb; obtain ⟨_, q0, q1, q2, q3, q4, q5, q6, q7, q8, q9, q10, q11⟩ := XC.all HH.out HXD.out) | (go_at_call 139; refine (HNC.out _ HXD.out.bel).mono ?_; rintro e wN ⟨⟨N, rfl, h0, h1, h2, h3, hd⟩, hb⟩; have HbN := Lib.hid hb; have HXN := Lib.hid (HXD.out.after hb); have HNd := Lib.hid (And.intro h0 (And.intro h1 (And.intro h2 h3))); have HNg := Lib.hid hd; clear h0 h1 h2 h3 hd hb; obtain ⟨_, q0, q1, q2, q3, q4, q5, q6, q7, q8, q9, q10, q11⟩ := XC.all HH.out HXN.out) | (go_at_call 140; refine (HUC.out _ HXN.out.bel).mono ?_; rintro e wU ⟨⟨U, rfl, h0, h1, h2, hd⟩, hb⟩; have HbU := Lib.hid hb; have HXU := Lib.hid (HXN.out.after hb); have HUd := Lib.hid (And.intro h0 (And.intro h1 h2)); have HUg := Lib.hid hd; clear h0 h1 h2 hd hb; obtain ⟨_, q0, q1, q2, q3, q4, q5, q6, q7, q8, q9, q10, q11⟩ := XC.all HH.out HXU.out) | fail)
  go_wp2_with fail
  go_ret
  have z1 := HXs.out
  have z2 : W1.heap.size ≤ wT.heap.size := HbT.out.size
  have z3 := HbD.out.size
  have z4 := HbN.out.size
  have z5 := HbU.out.size
  have z6 := HTg.out.1
  have z7 := HTg.out.2
  have z8 := HDg.out
  have z9 := HNg.out
  have z10 := HUg.out
  have z11 : W1.drew.heap.size = W1.heap.size := rfl
  have bDU := nbl_step HbN.out HbU.out
  have bTU := nbl_step HbD.out bDU
  have hxU : wU.heap[w.heap.size]? = some (.cells #[.int .i64 r, .int .i64 (S : Int), .int .i64 i, .int .i64 o, .pointer (some ⟨t, 0, none⟩), .pointer (some ⟨d, 0, none⟩), .pointer (some ⟨n, 0, none⟩), .pointer (some ⟨u, 0, none⟩), .bool false] 54 (0, 0)) := ((nbl_step HbT.out bTU).block _ (by omega)).trans HXo.out
  have hTU : wU.heap[T]? = _ := (bTU.block T (Array.getElem?_eq_some_iff.1 HTh.out).1).trans HTh.out
  have hE := copy_end HXU.out.bel HXU.out.hX hxU hTU (HTs.out.below bTU) ⟨cell_below bDU HDd.out.1, cell_below bDU HDd.out.2⟩ ⟨cell_below HbU.out HNd.out.1, cell_below HbU.out HNd.out.2.1, cell_below HbU.out HNd.out.2.2.1, cell_below HbU.out HNd.out.2.2.2⟩ HUd.out (by omega)
  exact ⟨⟨_, T, G, D, N, U, rfl, hE.1⟩, hE.2⟩
end Go.Proofs.YthfleaogajbpfaaGreatDoor
