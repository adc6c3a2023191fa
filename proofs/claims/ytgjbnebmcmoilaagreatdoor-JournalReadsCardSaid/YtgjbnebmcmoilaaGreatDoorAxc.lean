/- Quiet operations: what the evaluator finds is what the operation yields. -/
import Derived.Test.YtgjbnebmcmoilaaGreatDoorAxb
import Derived.Laws.Strings2
import Derived.MapKept
import Derived.Laws.Concat
set_option linter.unusedVariables false
set_option linter.unusedSimpArgs false
namespace Go.Proofs.YtgjbnebmcmoilaaGreatDoor.Ax
open Go.RowKit

section
variable {P : Program} {G : Gv} {E : Ev} {w : World} {a : Act} {T : Tm} {h : Tr AO}

/-! ## composites -/
theorem set_fold (off : Nat) : ∀ (l : List Value) (k : Nat) (cells : Array Value), off + k + l.length ≤ cells.size →
    ((l.zipIdx k).foldl (fun (cs : Array Value) (p : Value × Nat) => cs.setIfInBounds (off + p.2) p.1) cells).toList = cells.toList.take (off + k) ++ l ++ cells.toList.drop (off + k + l.length)
  | [], k, cells, h => by simp
  | v :: l, k, cells, h => by
    simp only [List.length_cons] at h
    rw [List.zipIdx_cons, List.foldl_cons]
    rw [set_fold off l (k + 1) _ (by simp; omega)]
    have hk : off + k < cells.toList.length := by simp; omega
    simp only [Array.toList_setIfInBounds, List.length_cons]
    have e1 : List.take (off + (k + 1)) (cells.toList.set (off + k) v) = List.take (off + k) cells.toList ++ [v] := by
      rw [show off + (k + 1) = (off + k) + 1 by omega, List.take_set, List.take_add_one, List.getElem?_eq_getElem hk]
      simp only [Option.toList_some]
      rw [List.set_append_right (h := by simp; omega)]
      have hk' : off + k ≤ cells.size := by simp at hk; omega
      simp [Nat.min_eq_left hk']
    have e2 : List.drop (off + (k + 1) + l.length) (cells.toList.set (off + k) v) = List.drop (off + k + (l.length + 1)) cells.toList := by
      rw [List.drop_set_of_lt (hnm := by omega), show off + (k + 1) + l.length = off + k + (l.length + 1) by omega]
    rw [e1, e2]
    simp

theorem fill_sound (pl pl' : Nat → Option (Nat × Nat)) (hpl : ∀ i p, pl i = some p → pl' i = some p) : ∀ {vs vs' : List (Nat × Value)} {cs cs' r : List Value}, PRs E vs vs' → VRs E cs cs' → fill pl vs cs = some r →
    ∃ r', Instr.fill pl' ⟨cs'⟩ vs' = some ⟨r'⟩ ∧ VRs E r r'
  | [], _, cs, cs', r, hp, hc, hf => by
    cases hp
    simp only [fill, Option.some.injEq] at hf
    subst hf
    exact ⟨cs', rfl, hc⟩
  | (i, v) :: vs, _, cs, cs', r, hp, hc, hf => by
    cases hp with
    | cons _ _ v' _ vs' hv hs =>
      simp only [fill, Option.bind_eq_some_iff] at hf
      obtain ⟨p, h1, h2⟩ := hf
      split at h2
      · rename_i hlen
        have hlen := Nat.eq_of_beq_eq_true hlen
        simp only [Option.bind_eq_some_iff] at h2
        obtain ⟨c1, h3, h4⟩ := h2
        obtain ⟨rfl, h5⟩ := splice_spec h3
        have hvc := hv.cells
        have hl' : v'.cells.size = p.2 := by rw [← Array.length_toList, hvc.length]; exact hlen
        have hlc := hc.length
        have hsz : p.1 + v'.cells.size ≤ cs'.length := by rw [hl', hlc, ← hlen]; exact h5
        have hfold := set_fold p.1 v'.cells.toList 0 ⟨cs'⟩ (by simpa using hsz)
        have key : (v'.cells.zipIdx.foldl (fun (cs : Array Value) (q : Value × Nat) => cs.setIfInBounds (p.1 + q.2) q.1) ⟨cs'⟩).toList = cs'.take p.1 ++ v'.cells.toList ++ cs'.drop (p.1 + v'.cells.toList.length) := by
          rw [← Array.foldl_toList, Array.toList_zipIdx]
          simpa using hfold
        have hVRs : VRs E (cs.take p.1 ++ cellsOf v ++ cs.drop (p.1 + (cellsOf v).length)) (cs'.take p.1 ++ v'.cells.toList ++ cs'.drop (p.1 + v'.cells.toList.length)) := by
          refine ((hc.take _).append hvc).append ?_
          rw [hvc.length]
          exact hc.drop _
        obtain ⟨r', h6, h7⟩ := fill_sound pl pl' hpl hs hVRs h4
        refine ⟨r', ?_, h7⟩
        obtain ⟨p1, p2⟩ := p
        simp only at hl' hsz key h6 hlen ⊢
        unfold Instr.fill
        rw [hpl i _ h1]
        simp only
        rw [if_neg (by simp [hl']; rw [← hl']; exact hsz), ← h6]
        congr 1
        exact Array.ext' key
      · cases h2

theorem mapM_places {fs : List Field} (hf : ∀ f ∈ fs, ∃ i k, P.info? f.type = some i ∧ P.underlying f.type = some k) :
    (fs.mapM (m := Sem) fun f => do pure (f.offset, ← Go.sizeOf f.type)).run P w = .ok (fs.map fun f => (f.offset, P.cellsOf f.type)) w := by
  induction fs with
  | nil => simp
  | cons f fs ih =>
    obtain ⟨i, k, h1, h2⟩ := hf f (by simp)
    have hs : (Go.sizeOf f.type).run P w = .ok (P.cellsOf f.type) w := by simp [Go.sizeOf, typeInfo, h1, Program.cellsOf]
    simp only [List.mapM_cons, Sem.run_bind, hs, Result.andThen_ok, Sem.run_pure, ih fun g hg => hf g (by simp [hg]), List.map_cons]

theorem TyOk.zeroCells {t : TypeId} {ti : TI} (k : TyOk P t ti) : ∃ z, (zeroValue t).run P w = .ok z w ∧ z.cells = ⟨ti.zero⟩ := by
  obtain ⟨z, h1, _, h2⟩ := k.zero (w := w)
  exact ⟨z, h1, Array.ext' h2⟩
theorem qbuild_sound (hG : TypesOk P G) {t : TypeId} {vs vs' : List (Nat × Value)} {v : Value} (hp : PRs E vs vs') (hq : qbuild G t vs = some v) : ∃ v', VR E v v' ∧ (Instr.build t ⟨vs'⟩).run P w = .ok v' w := by
  unfold qbuild at hq
  simp only [Option.bind_eq_some_iff] at hq
  obtain ⟨ti, h1, h2⟩ := hq
  have hty := hG _ _ h1
  obtain ⟨z, hz, hzc⟩ := hty.zeroCells (w := w)
  have hzr : VRs E ti.zero ti.zero := closedL_VRs hty.zcl
  split at h2
  · rename_i fs hk
    simp only [Option.bind_eq_some_iff, Option.some.injEq] at h2
    obtain ⟨cs, h3, rfl⟩ := h2
    obtain ⟨hf1, hf2⟩ := hty.fields fs hk
    obtain ⟨r', h4, h5⟩ := fill_sound (E := E) _ (fun i => ((fs.toList.map fun f => (f.offset, P.cellsOf f.type)).toArray)[i]?) (fun i p hi => by
      simp only [Option.bind_eq_some_iff, Option.some.injEq] at hi
      obtain ⟨f, hi1, rfl⟩ := hi
      rw [hf1, List.getElem?_map] at hi1
      cases hfl : fs.toList[i]? with
      | none => rw [hfl] at hi1; cases hi1
      | some fl => rw [hfl] at hi1; simp at hi1; subst hi1; simp only [List.getElem?_toArray, List.getElem?_map, hfl]; rfl) hp hzr h3
    refine ⟨.agg ⟨r'⟩, .agg _ _ h5, ?_⟩
    unfold Instr.build
    rw [Sem.run_bind, hz]
    simp only [Result.andThen_ok, Sem.run_bind, run_underlying (hk ▸ hty.und)]
    rw [Array.mapM_eq_mapM_toList, Sem.run_map, mapM_places hf2]
    simp only [Result.andThen_ok, hzc, h4, Sem.run_pure]
  · rename_i len e hk
    simp only [Option.bind_eq_some_iff, Option.some.injEq] at h2
    obtain ⟨te, h3, cs, h4, rfl⟩ := h2
    obtain ⟨r', h5, h6⟩ := fill_sound (E := E) _ (fun i => some (i * te.size, te.size)) (fun i p hi => hi) hp hzr h4
    refine ⟨.agg ⟨r'⟩, .agg _ _ h6, ?_⟩
    unfold Instr.build
    rw [Sem.run_bind, hz]
    simp only [Result.andThen_ok, Sem.run_bind, run_underlying (hk ▸ hty.und), (hG _ _ h3).sizeOf, hzc, h5, Sem.run_pure]
  · cases h2

/-! ## indices -/
theorem intN_spec {v v' : Value} {n : Nat} (hv : VR E v v') (hn : intN v = some n) : ∃ k, v' = .int k (Int.ofNat n) := by
  unfold intN at hn
  split at hn
  · split at hn
    · injection hn with hn; subst hn
      cases hv
      exact ⟨_, rfl⟩
    · cases hn
  · cases hn
theorem qindexAddr_sound (hG : TypesOk P G) {t : TypeId} {x x' i i' v : Value} {n : Nat} (hx : VR E x x') (hi : VR E i i') (hn : intN i = some n) (hq : qindexAddr G t x n = some v) :
    ∃ v', VR E v v' ∧ (Instr.indexAt t x' i').run P w = .ok v' w := by
  obtain ⟨k, rfl⟩ := intN_spec hi hn
  unfold qindexAddr at hq
  simp only [Option.bind_eq_some_iff] at hq
  obtain ⟨ti, h1, h2⟩ := hq
  have hty := hG _ _ h1
  split at h2
  · rename_i len e j off hk
    split at h2
    · rename_i hlt
      have hlt : n < len := by simpa using hlt
      simp only [Option.bind_eq_some_iff, Option.some.injEq] at h2
      obtain ⟨te, h3, rfl⟩ := h2
      cases hx with
      | ptr _ b m _ hb =>
        refine ⟨_, .ptr _ b m _ hb, ?_⟩
        have hc : 0 ≤ (Int.ofNat n) ∧ (Int.ofNat n) < (len : Int) := ⟨Int.natCast_nonneg n, by exact Int.ofNat_lt.2 hlt⟩
        unfold Instr.indexAt
        simp only [Sem.run_bind, asIntOf, Sem.run_pure, Result.andThen_ok, run_underlying (hk ▸ hty.und), Instr.sureAddr]
        rw [if_pos hc]
        simp only [Sem.run_bind, (hG _ _ h3).sizeOf, Result.andThen_ok, Sem.run_pure, Addr.add_lit]
        rfl
    · cases h2
  · rename_i e j off sp len cap hk
    split at h2
    · rename_i hlt
      have hlt : n < len := by simpa using hlt
      simp only [Option.bind_eq_some_iff, Option.some.injEq] at h2
      obtain ⟨te, h3, rfl⟩ := h2
      have hc : 0 ≤ (Int.ofNat n) ∧ (Int.ofNat n) < (len : Int) := ⟨Int.natCast_nonneg n, by exact Int.ofNat_lt.2 hlt⟩
      have key : ∀ b m c', E.blk j = some (b, m) → ∃ v', VR E (pt j (off + n * te.size)) v' ∧ (Instr.indexAt t (.slice (some ⟨b, off, none⟩) len c') (.int k (Int.ofNat n))).run P w = .ok v' w := fun b m c' hb => by
        refine ⟨_, .ptr _ b m _ hb, ?_⟩
        unfold Instr.indexAt
        simp only [Sem.run_bind, asIntOf, Sem.run_pure, Result.andThen_ok, run_underlying (hk ▸ hty.und)]
        rw [if_pos hc]
        simp only [Sem.run_bind, (hG _ _ h3).sizeOf, Result.andThen_ok, Sem.run_pure, Addr.add_lit]
        rfl
      cases hx with
      | sl _ b m _ _ _ hb => exact key b m _ hb
      | sli _ b m es _ _ _ c' hb _ _ => exact key b m c' hb
    · cases h2
  · cases h2
theorem bytes_get (s : List UInt8) (n : Nat) : (ByteArray.mk ⟨s⟩)[n]? = s[n]? := by
  by_cases h : n < s.length
  · have h1 : n < (ByteArray.mk ⟨s⟩).size := h
    rw [getElem?_pos (ByteArray.mk ⟨s⟩) n h1, getElem?_pos s n h]
    rfl
  · have h1 : ¬ n < (ByteArray.mk ⟨s⟩).size := h
    rw [getElem?_neg (ByteArray.mk ⟨s⟩) n h1, getElem?_neg s n h]
theorem qindex_sound (hG : TypesOk P G) {t : TypeId} {x x' i i' v : Value} {n : Nat} (hx : VR E x x') (hi : VR E i i') (hn : intN i = some n) (hq : qindex G t x n = some v) :
    ∃ v', VR E v v' ∧ (Instr.index t x' i').run P w = .ok v' w := by
  obtain ⟨k, rfl⟩ := intN_spec hi hn
  unfold qindex at hq
  simp only [Option.bind_eq_some_iff] at hq
  obtain ⟨ti, h1, h2⟩ := hq
  have hty := hG _ _ h1
  split at h2
  · rename_i s hk
    simp only [Option.bind_eq_some_iff, Option.some.injEq] at h2
    obtain ⟨b, h3, rfl⟩ := h2
    cases hx with
    | str _ =>
      refine ⟨_, .int _ _, ?_⟩
      unfold Instr.index
      have h0 : (0 : Int) ≤ Int.ofNat n := Int.natCast_nonneg n
      simp only [Sem.run_bind, asIntOf, Sem.run_pure, Result.andThen_ok, run_underlying (hk ▸ hty.und), h0, if_true]
      rw [show (Int.ofNat n).toNat = n from rfl, bytes_get, h3]
      rfl
  · rename_i len e cs hk
    split at h2
    · rename_i hlt
      have hlt : n < len := by simpa using hlt
      simp only [Option.bind_eq_some_iff] at h2
      obtain ⟨te, h3, c, h4, h5⟩ := h2
      cases hx with
      | agg _ cs' hcs =>
        have hte := hG _ _ h3
        have hp : part1 { ty := e, off := n * te.size, size := te.size, agg := te.agg } cs = some v ∨ te.size = 0 := by
          rcases Nat.eq_zero_or_pos te.size with h0 | h0
          · exact .inr h0
          · refine .inl ?_
            unfold part1
            simp only
            split
            · rename_i e0; omega
            · simp only [Option.bind_eq_some_iff]; exact ⟨c, h4, h5⟩
        have hc : 0 ≤ (Int.ofNat n) ∧ (Int.ofNat n) < (len : Int) := ⟨Int.natCast_nonneg n, by exact Int.ofNat_lt.2 hlt⟩
        obtain ⟨rfl, hl⟩ := takeN_spec h4
        obtain ⟨v', b1, b2⟩ := wrapV_sound h5 ((hcs.drop (n * te.size)).take te.size)
        obtain ⟨ii, z, i1, i2, _⟩ := hte.info
        have hl' : te.size ≤ (cs'.drop (n * te.size)).length := by rw [List.length_drop] at hl ⊢; rw [hcs.length]; exact hl
        have htk : ∀ (m : Nat) (l : List Value), m ≤ l.length → takeN m l = some (l.take m) := by
          intro m
          induction m with
          | zero => intro l _; simp [takeN]
          | succ m ih => intro l hm; cases l with
            | nil => simp at hm
            | cons u l => simp at hm; simp [takeN, ih l hm]
        refine ⟨v', b2, ?_⟩
        unfold Instr.index
        simp only [Sem.run_bind, asIntOf, Sem.run_pure, Result.andThen_ok, run_underlying (hk ▸ hty.und)]
        rw [if_pos hc]
        simp only [Sem.run_bind, hte.sizeOf, Result.andThen_ok]
        rw [show (Int.ofNat n).toNat = n from rfl]
        exact part_run hte.und i1 (by rw [i2]; exact htk _ _ hl') (by rw [← hte.agg]; exact b1)
    · cases h2
  · cases h2
end
end Go.Proofs.YtgjbnebmcmoilaaGreatDoor.Ax

namespace Go.Proofs.YtgjbnebmcmoilaaGreatDoor.Ax
open Go.RowKit

section
variable {P : Program} {G : Gv} {E : Ev} {w : World} {a : Act} {T : Tm} {h : Tr AO}

/-! ## slices -/
theorem bound_none {d lim m : Nat} (hb : bound G T none d lim = some m) : m = d := by simpa [bound] using hb.symm
theorem bound_some (hg : Glob E G.ng) (hT : TR E T a.tmps) {x : Operand} {d lim m : Nat} (hb : bound G T (some x) d lim = some m) : m ≤ lim ∧ ∃ k, a.eval x = .int k (Int.ofNat m) := by
  simp only [bound, Option.bind_eq_some_iff] at hb
  obtain ⟨v, h1, n, h2, h3⟩ := hb
  split at h3
  · rename_i hle
    injection h3 with h3; subst h3
    exact ⟨by simpa using hle, intN_spec (ev_sound hg hT h1) h2⟩
  · cases h3
theorem sliceBound_run {k : IntKind} {m y : Nat} {code : BoundsCode} (hm : m ≤ y) : (Instr.sliceBound (.int k (Int.ofNat m)) y code).run P w = .ok m w := by
  have h0 : (0 : Int) ≤ Int.ofNat m ∧ Int.ofNat m ≤ (y : Int) := ⟨Int.natCast_nonneg m, Int.ofNat_le.2 hm⟩
  unfold Instr.sliceBound
  simp only [asIntOf, Sem.run_bind, Sem.run_pure, Result.andThen_ok]
  rw [if_pos h0]
  rfl
def capB (mx : Option Operand) (m c : Nat) : Nat :=
  match mx with
  | some _ => m
  | none => c
/-- the three bounds, as the model finds them: the capacity may be greater than the evaluator's -/
theorem bounds_run (hg : Glob E G.ng) (hT : TR E T a.tmps) {isS : Bool} {lo hi mx : Option Operand} {n c c' m hh l : Nat} (hc : c ≤ c') (hmx : hiOk mx hi = true)
    (h1 : bound G T mx c c = some m) (h2 : bound G T hi n m = some hh) (h3 : bound G T lo 0 hh = some l) :
    l ≤ hh ∧ (hi.isSome = true → hh ≤ m) ∧ (hi = none → hh = n) ∧ (mx.isSome = true → m ≤ c) ∧ (mx = none → m = c) ∧
      (Instr.sliceBounds isS n c' (lo.map a.eval) (hi.map a.eval) (mx.map a.eval)).run P w = .ok (l, hh, capB mx m c') w := by
  have b3 : l ≤ hh := by
    cases lo with
    | none => have := bound_none h3; omega
    | some x => exact (bound_some hg hT h3).1
  refine ⟨b3, ?_, ?_, ?_, ?_, ?_⟩
  · intro hs
    cases hi with
    | none => cases hs
    | some x => exact (bound_some hg hT h2).1
  · intro hn; subst hn; exact bound_none h2
  · intro hs
    cases mx with
    | none => cases hs
    | some x => exact (bound_some hg hT h1).1
  · intro hn; subst hn; exact bound_none h1
  · unfold Instr.sliceBounds
    cases mx with
    | none =>
      have hm := bound_none h1
      subst hm
      cases hi with
      | none =>
        have hn := bound_none h2
        subst hn
        simp only [Option.map_none, Sem.run_bind, Sem.run_pure, Result.andThen_ok, Option.isSome_none, Bool.false_eq_true, if_false]
        cases lo with
        | none => have := bound_none h3; subst this; rfl
        | some x => obtain ⟨hl, kl, hkl⟩ := bound_some hg hT h3; simp only [Option.map_some, hkl, Sem.run_bind, sliceBound_run hl]; rfl
      | some y =>
        obtain ⟨hy, k, hk⟩ := bound_some hg hT h2
        have hy' : hh ≤ c' := Nat.le_trans hy hc
        simp only [Option.map_none, Option.map_some, Sem.run_bind, Sem.run_pure, Result.andThen_ok, Option.isSome_none, Bool.false_eq_true, if_false, hk, sliceBound_run hy']
        cases lo with
        | none => have := bound_none h3; subst this; rfl
        | some x => obtain ⟨hl, kl, hkl⟩ := bound_some hg hT h3; simp only [Option.map_some, hkl, Sem.run_bind, sliceBound_run hl]; rfl
    | some z =>
      obtain ⟨hz, kz, hkz⟩ := bound_some hg hT h1
      cases hi with
      | none => cases hmx
      | some y =>
        obtain ⟨hy, k, hk⟩ := bound_some hg hT h2
        have hz' : m ≤ c' := Nat.le_trans hz hc
        simp only [Option.map_some, Sem.run_bind, Sem.run_pure, Result.andThen_ok, Option.isSome_some, if_true, hk, hkz, sliceBound_run hz', sliceBound_run hy]
        cases lo with
        | none => have := bound_none h3; subst this; rfl
        | some x => obtain ⟨hl, kl, hkl⟩ := bound_some hg hT h3; simp only [Option.map_some, hkl, Sem.run_bind, sliceBound_run hl]; rfl
theorem qslice_sound (hG : TypesOk P G) (hg : Glob E G.ng) (hT : TR E T a.tmps) {t : TypeId} {x x' v : Value} {lo hi mx : Option Operand} (hx : VR E x x') (hq : qslice G T t x lo hi mx = some v) :
    ∃ v', VR E v v' ∧ (Instr.sliceAt t x' (lo.map a.eval) (hi.map a.eval) (mx.map a.eval)).run P w = .ok v' w := by
  unfold qslice at hq
  simp only [Option.bind_eq_some_iff] at hq
  obtain ⟨ti, h1, h2⟩ := hq
  have hty := hG _ _ h1
  split at h2
  · rename_i s hk
    split at h2
    · simp only [Option.bind_eq_some_iff, Option.some.injEq] at h2
      obtain ⟨hh, b1, l, b2, rfl⟩ := h2
      cases hx with
      | str _ =>
        obtain ⟨c1, c2, _, _, _, c3⟩ := bounds_run (P := P) (w := w) (isS := false) (mx := none) hg hT (Nat.le_refl s.length) rfl rfl b1 b2
        refine ⟨_, .str _, ?_⟩
        unfold Instr.sliceAt
        rw [Sem.run_bind, run_underlying (hk ▸ hty.und)]
        simp only [Result.andThen_ok]
        unfold Instr.slice
        rw [Sem.run_bind, run_underlying (hk ▸ hty.und)]
        simp only [Result.andThen_ok, Option.map_none, Option.isSome_none, Bool.false_eq_true, if_false, Sem.run_bind, Sem.run_pure]
        have : (ByteArray.mk ⟨s⟩).size = s.length := rfl
        simp only [Option.map_none] at c3
        rw [this, c3]
        simp only [Result.andThen_ok]
        rw [ByteArray.extract_mk]
    · cases h2
  · rename_i e n c hk
    simp only [Option.bind_eq_some_iff] at h2
    obtain ⟨te, he, h2⟩ := h2
    split at h2
    · rename_i hmx
      simp only [Option.bind_eq_some_iff, Option.some.injEq] at h2
      obtain ⟨m, b0, hh, b1, l, b2, rfl⟩ := h2
      cases hx with
      | nils _ _ =>
        obtain ⟨c1, c2, _, c4, c5, c3⟩ := bounds_run (P := P) (w := w) (isS := true) hg hT (Nat.le_refl c) hmx b0 b1 b2
        have hm : capB mx m c = m := by cases mx with
          | none => exact (c5 rfl).symm
          | some z => rfl
        refine ⟨_, .nils _ _, ?_⟩
        unfold Instr.sliceAt
        rw [Sem.run_bind, run_underlying (hk ▸ hty.und)]
        simp only [Result.andThen_ok]
        unfold Instr.slice
        rw [Sem.run_bind, run_underlying (hk ▸ hty.und)]
        simp only [Result.andThen_ok, Sem.run_bind, c3, (hG _ _ he).sizeOf, Sem.run_pure, Option.map_none, hm, ite_self]
    · cases h2
  · rename_i e j off sp n c hk
    simp only [Option.bind_eq_some_iff] at h2
    obtain ⟨te, he, h2⟩ := h2
    have hte := hG _ _ he
    split at h2
    · rename_i hmx
      have key : ∀ b c' m hh l, c ≤ c' → bound G T mx c c = some m → bound G T hi n m = some hh → bound G T lo 0 hh = some l →
          (Instr.sliceAt t (.slice (some ⟨b, off, none⟩) n c') (lo.map a.eval) (hi.map a.eval) (mx.map a.eval)).run P w =
            .ok (.slice (some ⟨b, off + (if capB mx m c' = l then 0 else l * te.size), none⟩) (hh - l) (capB mx m c' - l)) w := fun b c' m hh l hc b0 b1 b2 => by
        obtain ⟨c1, c2, _, _, c5, c3⟩ := bounds_run (P := P) (w := w) (isS := true) hg hT hc hmx b0 b1 b2
        unfold Instr.sliceAt
        rw [Sem.run_bind, run_underlying (hk ▸ hty.und)]
        simp only [Result.andThen_ok]
        unfold Instr.slice
        rw [Sem.run_bind, run_underlying (hk ▸ hty.und)]
        simp only [Result.andThen_ok, Sem.run_bind, c3, hte.sizeOf, Sem.run_pure, Option.map_some, Addr.add_lit]
        congr 2
        split <;> simp_all
      simp only [Option.bind_eq_some_iff] at h2
      obtain ⟨m, b0, hh, b1, l, b2, h3⟩ := h2
      obtain ⟨c1, c2, c2', c4, c5, _⟩ := bounds_run (P := P) (w := w) (isS := true) hg hT (Nat.le_refl c) hmx b0 b1 b2
      split at h3
      · -- the capacity is known
        cases hx with
        | sl _ b nb _ _ _ hb =>
          have kk := key b c m hh l (Nat.le_refl c) b0 b1 b2
          have hm : capB mx m c = m := by cases mx with
            | none => exact (c5 rfl).symm
            | some z => rfl
          rw [hm] at kk
          split at h3
          · rename_i hml
            have hml := Nat.eq_of_beq_eq_true hml
            injection h3 with h3; subst h3
            rw [if_pos hml] at kk
            exact ⟨_, .sl _ _ _ _ _ _ hb, kk⟩
          · rename_i hml
            have hml := Nat.ne_of_beq_eq_false hml
            injection h3 with h3; subst h3
            rw [if_neg hml] at kk
            exact ⟨_, .sl _ _ _ _ _ _ hb, kk⟩
      · -- a maximum
        rename_i es z
        cases hx with
        | sli _ b nb _ _ _ _ c' hb hc' hn' =>
          have kk := key b c' m hh l hc' b0 b1 b2
          rw [show ∀ z : Operand, capB (some z) m c' = m from fun _ => rfl] at kk
          split at h3
          · rename_i hml
            have hml := Nat.eq_of_beq_eq_true hml
            injection h3 with h3; subst h3
            rw [if_pos hml] at kk
            exact ⟨_, .sl _ _ _ _ _ _ hb, kk⟩
          · rename_i hml
            have hml := Nat.ne_of_beq_eq_false hml
            injection h3 with h3; subst h3
            rw [if_neg hml] at kk
            exact ⟨_, .sl _ _ _ _ _ _ hb, kk⟩
      · -- the capacity is not known
        rename_i es
        cases hx with
        | sli _ b nb _ _ _ _ c' hb hc' hn' =>
          have kk := key b c' m hh l hc' b0 b1 b2
          rw [show capB none m c' = c' from rfl] at kk
          have hmc := c5 rfl
          subst hmc
          split at h3
          · injection h3 with h3; subst h3
            have e0 : off + (if c' = 0 then 0 else 0 * te.size) = off := by simp
            rw [e0] at kk
            exact ⟨_, .sli _ _ _ _ _ _ _ _ hb hc' hn', kk⟩
          · split at h3
            · rename_i hml hes
              have hml : l < m := by simpa using hml
              have hes := Nat.eq_of_beq_eq_true hes
              injection h3 with h3; subst h3
              have hne : ¬ c' = l := by omega
              rw [if_neg hne] at kk
              refine ⟨_, .sli _ _ _ _ _ _ _ _ hb (by omega) ?_, kk⟩
              subst hes
              have : l * te.size + (c' - l) * te.size = c' * te.size := by rw [← Nat.add_mul]; congr 1; omega
              omega
            · split at h3
              · rename_i hhl
                have hhl := Nat.eq_of_beq_eq_true hhl
                injection h3 with h3; subst h3
                rw [show hh - l = 0 by omega] at kk
                exact ⟨_, .emp _ _, kk⟩
              · cases h3
            · cases h3
    · cases h2
  · rename_i e hk
    simp only [Option.bind_eq_some_iff] at h2
    obtain ⟨te, he, h2⟩ := h2
    have hte := hG _ _ he
    split at h2
    · rename_i hmx
      simp only [Option.bind_eq_some_iff, Option.some.injEq] at h2
      obtain ⟨m, b0, hh, b1, l, b2, rfl⟩ := h2
      cases hx with
      | emp p c =>
        obtain ⟨c1, c2, c2', c4, c5, c3⟩ := bounds_run (P := P) (w := w) (isS := true) hg hT (Nat.zero_le c) hmx b0 b1 b2
        have hm0 : m = 0 := by cases mx with
          | none => exact c5 rfl
          | some z => exact Nat.le_zero.1 (c4 rfl)
        have hh0 : hh = 0 := by cases hi with
          | none => exact c2' rfl
          | some z => have := c2 rfl; omega
        have hl0 : hh - l = 0 := by omega
        have hrun : (Instr.sliceAt t (.slice (some p) 0 c) (lo.map a.eval) (hi.map a.eval) (mx.map a.eval)).run P w = .ok (.slice (if capB mx m c = l then some p else some (p.add (l * te.size))) 0 (capB mx m c - l)) w := by
          unfold Instr.sliceAt
          rw [Sem.run_bind, run_underlying (hk ▸ hty.und)]
          simp only [Result.andThen_ok]
          unfold Instr.slice
          rw [Sem.run_bind, run_underlying (hk ▸ hty.und)]
          simp only [Result.andThen_ok, Sem.run_bind, c3, hte.sizeOf, Sem.run_pure, Option.map_some, hl0]
        rw [hrun]
        split
        · exact ⟨_, .emp _ _, rfl⟩
        · exact ⟨_, .emp _ _, rfl⟩
    · cases h2
  · rename_i len e j off hk
    simp only [Option.bind_eq_some_iff] at h2
    obtain ⟨te, he, h2⟩ := h2
    have hte := hG _ _ he
    split at h2
    · rename_i hmx
      simp only [Option.bind_eq_some_iff] at h2
      obtain ⟨m, b0, hh, b1, l, b2, h3⟩ := h2
      obtain ⟨c1, c2, c2', c4, c5, c3⟩ := bounds_run (P := P) (w := w) (isS := false) hg hT (Nat.le_refl len) hmx b0 b1 b2
      have hm : capB mx m len = m := by cases mx with
        | none => exact (c5 rfl).symm
        | some z => rfl
      cases hx with
      | ptr _ b nb _ hb =>
        have kk : (Instr.sliceAt t (.pointer (some ⟨b, off, none⟩)) (lo.map a.eval) (hi.map a.eval) (mx.map a.eval)).run P w =
            .ok (.slice (some ⟨b, off + (if m = l then 0 else l * te.size), none⟩) (hh - l) (m - l)) w := by
          unfold Instr.sliceAt
          rw [Sem.run_bind, run_underlying (hk ▸ hty.und)]
          simp only [Result.andThen_ok, Instr.sureAddr, Sem.run_bind, Sem.run_pure, c3, hte.sizeOf, Addr.add_lit, hm]
          congr 2
          split <;> simp_all
        split at h3
        · rename_i hml
          have hml := Nat.eq_of_beq_eq_true hml
          injection h3 with h3; subst h3
          rw [if_pos hml] at kk
          exact ⟨_, .sl _ _ _ _ _ _ hb, kk⟩
        · rename_i hml
          have hml := Nat.ne_of_beq_eq_false hml
          injection h3 with h3; subst h3
          rw [if_neg hml] at kk
          exact ⟨_, .sl _ _ _ _ _ _ hb, kk⟩
    · cases h2
  · cases h2
end
end Go.Proofs.YtgjbnebmcmoilaaGreatDoor.Ax

namespace Go.Proofs.YtgjbnebmcmoilaaGreatDoor.Ax
open Go.RowKit

section
variable {P : Program} {G : Gv} {E : Ev} {w : World} {a : Act} {T : Tm} {h : Tr AO}

theorem kindN_inj {j k : IntKind} (h : Nat.beq (kindN j) (kindN k) = true) : j = k := by
  cases j <;> cases k <;> first | rfl | cases h
theorem eqB_eq : ∀ (x y : List UInt8), eqB x y = (x == y)
  | [], [] => rfl
  | [], _ :: _ => rfl
  | _ :: _, [] => rfl
  | a :: x, b :: y => by
    rw [eqB, eqB_eq x y, List.cons_beq_cons]
    congr 1
    by_cases h : a = b
    · subst h; simp
    · have : ¬ a.toNat = b.toNat := fun e => h (UInt8.toNat_inj.1 e)
      have h2 : (a == b) = false := by simp [h]
      rw [h2]
      cases hc : Nat.beq a.toNat b.toNat with
      | false => rfl
      | true => exact absurd (Nat.eq_of_beq_eq_true hc) this
theorem bytes_list (s : List UInt8) : (ByteArray.mk ⟨s⟩).toList = s := by rw [ByteArray.toList_eq]
theorem lessB_eq : ∀ (x y : List UInt8), lessB x y = Op.bytesLess x y
  | x, [] => by cases x <;> rfl
  | [], _ :: _ => rfl
  | a :: x, b :: y => by
    rw [lessB, Op.bytesLess, lessB_eq x y]
    have h1 : Nat.blt a.toNat b.toNat = decide (a < b) := by
      by_cases h : a < b
      · have : a.toNat < b.toNat := UInt8.lt_iff_toNat_lt.1 h
        simp [h, this]
      · have : ¬ a.toNat < b.toNat := fun e => h (UInt8.lt_iff_toNat_lt.2 e)
        rw [decide_eq_false h]
        cases hc : Nat.blt a.toNat b.toNat with
        | false => rfl
        | true => exact absurd (by simpa using hc) this
    have h2 : Nat.beq a.toNat b.toNat = (a == b) := by
      by_cases h : a = b
      · subst h; simp
      · have : ¬ a.toNat = b.toNat := fun e => h (UInt8.toNat_inj.1 e)
        have h2 : (a == b) = false := by simp [h]
        rw [h2]
        cases hc : Nat.beq a.toNat b.toNat with
        | false => rfl
        | true => exact absurd (Nat.eq_of_beq_eq_true hc) this
    rw [h1, h2]

/-! ## maps -/
theorem keyEq_sound {d : TypeDesc} {k k' q q' : Value} {r : Bool} (hd : keyOk d k = true) (hk : VR E k k') (hq : VR E q q') (h : keyEq k q = some r) : Instr.sameNow d k' q' = some r := by
  unfold keyEq at h
  split at h
  · split at h
    · rename_i hkk
      injection h with h; subst h
      have := kindN_inj hkk
      subst this
      cases hk; cases hq
      cases d <;> first | (cases hd; done) | simp [Instr.sameNow]
    · cases h
  · injection h with h; subst h
    cases hk; cases hq
    cases d <;> first | (cases hd; done) | skip
    simp only [Instr.sameNow]
    rw [eqB_eq, beq_toListBytes, bytes_list, bytes_list]
  · cases h
theorem findE_sound {d : TypeDesc} {k k' : Value} (hd : keyOk d k = true) (hk : VR E k k') : ∀ {es : List ME} {es' : List MapEntry} {i : Nat} {r : Option (Nat × Value)}, MEs E es es' → findE k es i = some r →
    ∃ r', Instr.findNow d k' es' i = some r' ∧ (match r with | none => r' = none | some p => ∃ v', r' = some (p.1, v') ∧ VR E p.2 v')
  | [], _, i, r, hes, h => by
    cases hes
    simp only [findE, Option.some.injEq] at h
    subst h
    exact ⟨none, rfl, rfl⟩
  | (q, v, b) :: es, _, i, r, hes, h => by
    cases hes with
    | cons _ _ q' v' _ _ es' hq hv hs =>
      simp only [findE, Option.bind_eq_some_iff] at h
      obtain ⟨t, h1, h2⟩ := h
      have hn := keyEq_sound hd hk hq h1
      cases t with
      | true =>
        injection h2 with h2; subst h2
        exact ⟨some (i, v'), by simp [Instr.findNow, hn], v', rfl, hv⟩
      | false =>
        obtain ⟨r', h3, h4⟩ := findE_sound hd hk hs h2
        exact ⟨r', by simp [Instr.findNow, hn, h3], h4⟩
theorem checkKey_run {kt : TypeId} {d : TypeDesc} {k k' : Value} (hd : P.underlying kt = some d) (hk : keyOk d k = true) (hv : VR E k k') (e : Bool) : (Instr.checkKey e 10000 kt k').run P w = .ok () w := by
  rw [show (10000 : Nat) = 9999 + 1 from rfl, Instr.checkKey, Sem.run_bind, run_underlying hd]
  cases d <;> first | (cases hk; done) | skip
  · cases k <;> first | (cases hk; done) | skip
    cases hv; rfl
  · cases k <;> first | (cases hk; done) | skip
    cases hv; rfl
theorem findKey_run {kt : TypeId} {d : TypeDesc} {k' : Value} {es' : List MapEntry} {r' : Option (Nat × Value)} (hd : P.underlying kt = some d) (h : Instr.findNow d k' es' 0 = some r') : (Instr.findKey kt k' es').run P w = .ok r' w := by
  unfold Instr.findKey
  rw [Sem.run_bind, run_underlying hd]
  simp only [Result.andThen_ok, h, Sem.run_pure]
theorem mapOf_sound (hh : HR E h w) {m m' : Value} {es : List ME} (hm : VR E m m') (hq : mapOf h m = some es) :
    (m' = .map none ∧ es = []) ∨ ∃ b es' c, m' = .map (some b) ∧ w.heap[b]? = some (.map es' c) ∧ MEs E es es'.toList := by
  unfold mapOf at hq
  split at hq
  · injection hq with hq; subst hq; cases hm; exact .inl ⟨rfl, rfl⟩
  · split at hq
    · rename_i hr
      injection hq with hq; subst hq
      obtain ⟨b, n, es', h1, h2, h3⟩ := hh _ _ hr
      cases hm with
      | mp _ b' n' hb =>
        rw [h1] at hb
        injection hb with hb; injection hb with hb _
        subst hb
        exact .inr ⟨b, es', _, rfl, h2, h3⟩
    · cases hq
  · cases hq
theorem qlookup_sound (hG : TypesOk P G) (hh : HR E h w) {t : TypeId} {m m' k k' v : Value} {ok : Bool} (hm : VR E m m') (hk : VR E k k') (hq : qlookup G h t m k ok = some v) :
    ∃ v', VR E v v' ∧ (Instr.lookup t m' k' ok).run P w = .ok v' w := by
  unfold qlookup at hq
  simp only [Option.bind_eq_some_iff] at hq
  obtain ⟨ti, h1, h2⟩ := hq
  have hty := hG _ _ h1
  split at h2
  · rename_i kt e hkk
    simp only [Option.bind_eq_some_iff] at h2
    obtain ⟨tk, h3, h4⟩ := h2
    split at h4
    · rename_i hko
      simp only [Option.bind_eq_some_iff] at h4
      obtain ⟨es, h5, f, h6, h7⟩ := h4
      have htk := hG _ _ h3
      have hfin : ∃ r', (match f with | none => r' = none | some p => ∃ v', r' = some (p.1, v') ∧ VR E p.2 v') ∧ (Instr.lookup t m' k' ok).run P w = (do
          let (v, ok') ← match r' with
            | some (_, v) => pure (v, true)
            | none => pure (← zeroValue e, false)
          pure (if ok then .tuple #[v, .bool ok'] else v) : Sem Value).run P w := by
        rcases mapOf_sound hh hm h5 with ⟨rfl, rfl⟩ | ⟨b, es', c, rfl, h8, h9⟩
        · obtain ⟨r', h8, h9⟩ := findE_sound (es' := []) hko hk .nil h6
          refine ⟨r', h9, ?_⟩
          unfold Instr.lookup
          rw [Sem.run_bind, run_underlying (hkk ▸ hty.und)]
          simp only [Result.andThen_ok, Sem.run_bind, Sem.run_pure, checkKey_run htk.und hko hk]
          rw [findKey_run htk.und h8]
          rfl
        · obtain ⟨r', h10, h11⟩ := findE_sound hko hk h9 h6
          refine ⟨r', h11, ?_⟩
          unfold Instr.lookup
          rw [Sem.run_bind, run_underlying (hkk ▸ hty.und)]
          simp only [Result.andThen_ok, Sem.run_bind, MapKept.run_getObj_map h8, Sem.run_pure, checkKey_run htk.und hko hk, findKey_run htk.und h10]
          rcases r' with _ | ⟨_, _⟩ <;> rfl
      obtain ⟨r', h9, hfin⟩ := hfin
      rw [hfin]
      cases f with
      | some p =>
        obtain ⟨v', rfl, hv'⟩ := h9
        cases ok with
        | true => injection h7 with h7; subst h7; exact ⟨_, .tup _ _ (.cons _ _ _ _ hv' (.cons _ _ _ _ (.bool true) .nil)), rfl⟩
        | false => injection h7 with h7; subst h7; exact ⟨_, hv', rfl⟩
      | none =>
        subst h9
        simp only [Option.bind_eq_some_iff] at h7
        obtain ⟨te, h10, z, h11, h12⟩ := h7
        have hte := hG _ _ h10
        obtain ⟨z', hz1, hz2, _⟩ := hte.zero (w := w)
        rw [h11] at hz2
        injection hz2 with hz2; subst hz2
        have hzv : VR E z z := hte.zeroV h11
        cases ok with
        | true =>
          injection h12 with h12; subst h12
          refine ⟨_, .tup _ _ (.cons _ _ _ _ hzv (.cons _ _ _ _ (.bool false) .nil)), ?_⟩
          simp only [Sem.run_bind, hz1, Result.andThen_ok, Sem.run_pure, if_true]
        | false =>
          injection h12 with h12; subst h12
          refine ⟨_, hzv, ?_⟩
          simp only [Sem.run_bind, hz1, Result.andThen_ok, Sem.run_pure, Bool.false_eq_true, if_false]
    · cases h4
  · cases h2

/-! ## conversions -/
theorem bytesOf_loop {f : Value → ByteArray → Sem (ForInStep ByteArray)} (hf : ∀ n r, f (.int .u8 n) r = pure (.yield (r.push (UInt8.ofNat n.toNat)))) : ∀ {cs cs' : List Value} {s : List UInt8}, VRs E cs cs' → bytesOf cs = some s → ∀ (acc : ByteArray),
    (forIn (m := Sem) cs' acc f).run P w = .ok ⟨⟨acc.data.toList ++ s⟩⟩ w
  | [], _, s, hv, h, acc => by
    cases hv
    simp only [bytesOf, Option.some.injEq] at h
    subst h
    simp
  | c :: cs, _, s, hv, h, acc => by
    cases hv with
    | cons _ c' _ cs' hc hs =>
      unfold bytesOf at h
      split at h
      · rename_i e; cases e
      · rename_i n l heq
        injection heq with e1 e2
        subst e1; subst e2
        simp only [Option.bind_eq_some_iff, Option.some.injEq] at h
        obtain ⟨r, h1, rfl⟩ := h
        cases hc
        rw [List.forIn_cons, hf]
        simp only [Sem.run_bind, Sem.run_pure, Result.andThen_ok]
        rw [bytesOf_loop hf hs h1]
        congr 1
        simp [ByteArray.push]
      · cases h
theorem bytesToString_run {x : Addr} {n c : Nat} {cs cs' : List Value} {s : List UInt8} (hv : VRs E cs cs') (hl : cs'.length = n) (hc : ∀ j u, cs'[j]? = some u → w.cell? (x.add j) = some u) (hb : bytesOf cs = some s) :
    (Conv.bytesToString (.slice (some x) n c)).run P w = .ok (.string ⟨⟨s⟩⟩) w := by
  unfold Conv.bytesToString
  simp only [Sem.run_bind]
  rw [← hl, run_loadCells_list w x cs' hc]
  simp only [Result.andThen_ok]
  rw [List.forIn_toArray, bytesOf_loop (fun _ _ => rfl) hv hb ByteArray.empty]
  rfl
theorem qconvert_sound (hG : TypesOk P G) (hh : HR E h w) {src dst : TypeId} {x x' v : Value} (hx : VR E x x') (hq : qconvert G h src dst x = some v) :
    ∃ v', VR E v v' ∧ (convert src dst x').run P w = .ok v' w := by
  unfold qconvert at hq
  simp only [Option.bind_eq_some_iff] at hq
  obtain ⟨ts, h1, td, h2, h3⟩ := hq
  have hs := hG _ _ h1
  have hd := hG _ _ h2
  have hus := hs.und
  split at h3
  · rename_i k q n hk
    injection h3 with h3; subst h3
    cases hx
    refine ⟨_, .int _ _, ?_⟩
    unfold convert
    rw [Sem.run_bind, run_underlying hs.und]
    simp only [Result.andThen_ok]
    rw [Sem.run_bind, run_underlying (hk ▸ hd.und)]
    rfl
  · rename_i s hk
    injection h3 with h3; subst h3
    cases hx
    refine ⟨_, .str _, ?_⟩
    unfold convert
    rw [Sem.run_bind, run_underlying hs.und]
    simp only [Result.andThen_ok]
    rw [Sem.run_bind, run_underlying (hk ▸ hd.und)]
    rfl
  · rename_i ad n c hk
    split at h3
    · rename_i e hks
      simp only [Option.bind_eq_some_iff] at h3
      obtain ⟨te, h4, h5⟩ := h3
      have hte := hG _ _ h4
      split at h5
      · rename_i hke
        injection h5 with h5; subst h5
        cases hx
        refine ⟨_, .str _, ?_⟩
        unfold convert
        rw [Sem.run_bind, run_underlying (hks ▸ hs.und)]
        simp only [Result.andThen_ok]
        rw [Sem.run_bind, run_underlying (hk ▸ hd.und)]
        simp only [Result.andThen_ok]
        rw [Sem.run_bind, run_underlying (hke ▸ hte.und)]
        rfl
      · rename_i i off sp hke
        simp only [Option.bind_eq_some_iff, Option.some.injEq] at h5
        obtain ⟨cs, h6, s, h7, rfl⟩ := h5
        have key : ∀ b m c', E.blk i = some (b, m) → ∃ v', VR E (.string ⟨⟨s⟩⟩) v' ∧ (convert src dst (.slice (some ⟨b, off, none⟩) n c')).run P w = .ok v' w := fun b m c' hb => by
          obtain ⟨cs', a1, a2, a3⟩ := rd_sound hh hb h6
          refine ⟨_, .str _, ?_⟩
          unfold convert
          rw [Sem.run_bind, run_underlying (hks ▸ hs.und)]
          simp only [Result.andThen_ok]
          rw [Sem.run_bind, run_underlying (hk ▸ hd.und)]
          simp only [Result.andThen_ok]
          rw [Sem.run_bind, run_underlying (hke ▸ hte.und)]
          exact bytesToString_run a1 a2 a3 h7
        cases hx with
        | sl _ b m _ _ _ hb => exact key b m _ hb
        | sli _ b m es _ _ _ c' hb _ _ => exact key b m c' hb
      · cases h5
    · cases h3
  · cases h3
end
end Go.Proofs.YtgjbnebmcmoilaaGreatDoor.Ax

namespace Go.Proofs.YtgjbnebmcmoilaaGreatDoor.Ax
open Go.RowKit

section
variable {P : Program} {G : Gv} {E : Ev} {w : World} {a : Act} {T : Tm} {h : Tr AO}

/-! ## equality -/
theorem eqT_sound {k : TypeDesc} {t : TypeId} {x x' y y' : Value} {r : Bool} (hk : P.underlying t = some k) (hx : VR E x x') (hy : VR E y y') (hq : eqT k x y = some r) (D : Nat) :
    (Op.equalIn (D + 1) t x' y').run P w = .ok r w := by
  unfold eqT at hq
  unfold Op.equalIn
  rw [Sem.run_bind, run_underlying hk]
  split at hq <;> first | (cases hq; done) | (injection hq with hq; subst hq; cases hx <;> cases hy <;> rfl)
theorem eqFs_sound {g : TypeId → Value → Value → Option Bool} {D : Nat} (ih : ∀ {t x y x' y' r}, VR E x x' → VR E y y' → g t x y = some r → (Op.equalIn D t x' y').run P w = .ok r w)
    {xs xs' ys ys' : List Value} (hx : VRs E xs xs') (hy : VRs E ys ys') :
    ∀ {fs : List Field} {r : Bool}, (∀ f ∈ fs, f.name ≠ "_") → (∀ f ∈ fs, ∃ i k, P.info? f.type = some i ∧ P.underlying f.type = some k) → eqFs g xs ys (fs.map (fiOf P)) = some r →
      (Op.eqFields D ⟨xs'⟩ ⟨ys'⟩ fs).run P w = .ok r w
  | [], r, _, _, h => by
    simp only [List.map_nil, eqFs, Option.some.injEq] at h
    subst h
    rfl
  | f :: fs, r, hn, hf, h => by
    simp only [List.map_cons, eqFs, Option.bind_eq_some_iff] at h
    obtain ⟨u, h1, v, h2, q, h3, h4⟩ := h
    obtain ⟨i, k, i1, i2⟩ := hf f (by simp)
    obtain ⟨u', u1, u2⟩ := part1_VR hx h1
    obtain ⟨v', v1, v2⟩ := part1_VR hy h2
    have hname := hn f (by simp)
    unfold Op.eqFields
    rw [if_pos hname]
    have e3 := ih u2 v2 h3
    have ety : (fiOf P f).ty = f.type := rfl
    rw [ety] at e3
    simp only [Sem.run_bind, part1_run i1 i2 u1, part1_run i1 i2 v1, Result.andThen_ok, e3]
    cases q with
    | false => injection h4 with h4; subst h4; rfl
    | true =>
      simp only [Bool.not_true, Bool.false_eq_true, if_false]
      exact eqFs_sound ih hx hy (fun g hg => hn g (by simp [hg])) (fun g hg => hf g (by simp [hg])) h4
theorem eqIn_sound (hG : TypesOk P G) : ∀ {d : Nat} {t : TypeId} {x x' y y' : Value} {r : Bool} (D : Nat), d ≤ D → VR E x x' → VR E y y' → eqIn G d t x y = some r → (Op.equalIn D t x' y').run P w = .ok r w
  | 0, _, _, _, _, _, _, _, _, _, _, hq => by cases hq
  | d + 1, t, x, x', y, y', r, 0, hD, hx, hy, hq => absurd hD (by omega)
  | d + 1, t, x, x', y, y', r, D + 1, hD, hx, hy, hq => by
    simp only [eqIn, Option.bind_eq_some_iff] at hq
    obtain ⟨ti, h1, h2⟩ := hq
    have hty := hG _ _ h1
    split at h2
    · split at h2
      · rename_i hk
        split at h2
        · rename_i hkk
          injection h2 with h2; subst h2
          have := kindN_inj hkk
          subst this
          cases hx; cases hy
          unfold Op.equalIn
          rw [Sem.run_bind, run_underlying (hk ▸ hty.und)]
          simp
        · cases h2
      · cases h2
    · split at h2
      · rename_i hk
        injection h2 with h2; subst h2
        cases hx; cases hy
        unfold Op.equalIn
        rw [Sem.run_bind, run_underlying (hk ▸ hty.und), eqB_eq]
        simp only [Result.andThen_ok, Sem.run_pure, beq_toListBytes, bytes_list]
      · cases h2
    · split at h2
      · rename_i fs hk hc
        cases hx with
        | agg _ xs' hxs =>
          cases hy with
          | agg _ ys' hys =>
            obtain ⟨c1, c2, c3⟩ := hty.cmp hc fs hk
            obtain ⟨f1, f2⟩ := hty.fields fs hk
            have hfo : P.fieldsOf t = fs := by simp [Program.fieldsOf, hty.und, hk]
            rw [run_equalIn_struct w D t ⟨xs'⟩ ⟨ys'⟩ (by rw [hfo, hty.und, hk]) c2, hfo]
            rw [f1] at h2
            exact eqFs_sound (fun hx hy hq => eqIn_sound hG D (by omega) hx hy hq) hxs hys c1 f2 h2
      · cases h2
    · exact eqT_sound hty.und hx hy h2 D

/-! ## operators -/
theorem intOp_sound {op : BinOp} {k : IntKind} {x y : Int} {v : Value} {t : TypeId} {ox oy : Operand} (hs : op ≠ .shl ∧ op ≠ .shr) (hq : intOp op k x y = some v) :
    closedS v = true ∧ (do eqGuard op t ox oy (.int k x) (.int k y); binOp op t (.int k x) (.int k y) : Sem Value).run P w = .ok v w := by
  cases op <;> first | (cases hq; done) | (exact absurd rfl hs.1) | (exact absurd rfl hs.2) | skip
  case quo =>
    simp only [intOp] at hq
    split at hq
    · cases hq
    · rename_i hne
      injection hq with hq; subst hq
      have h0 : ¬ y = 0 := fun e => hne (by rw [e]; rfl)
      refine ⟨rfl, ?_⟩
      simp [eqGuard, binOp, Op.intDiv, h0]
  case rem =>
    simp only [intOp] at hq
    split at hq
    · cases hq
    · rename_i hne
      injection hq with hq; subst hq
      have h0 : ¬ y = 0 := fun e => hne (by rw [e]; rfl)
      refine ⟨rfl, ?_⟩
      simp [eqGuard, binOp, Op.intDiv, h0]
  all_goals
    injection hq with hq; subst hq
    refine ⟨rfl, ?_⟩
    simp [eqGuard, binOp, Op.intArith, Op.intBits, Op.intCmp]
theorem strOp_sound {op : BinOp} {x y : List UInt8} {v : Value} {t : TypeId} {ox oy : Operand} (hq : strOp op x y = some v) :
    closedS v = true ∧ (do eqGuard op t ox oy (.string ⟨⟨x⟩⟩) (.string ⟨⟨y⟩⟩); binOp op t (.string ⟨⟨x⟩⟩) (.string ⟨⟨y⟩⟩) : Sem Value).run P w = .ok v w := by
  cases op <;> first | (cases hq; done) | skip
  case add =>
    simp only [strOp] at hq
    split at hq
    · rename_i hle
      have hle : x.length + y.length ≤ 9223372036854775807 := by simpa using hle
      injection hq with hq; subst hq
      refine ⟨rfl, ?_⟩
      have hs : ((⟨⟨x⟩⟩ : ByteArray).size + (⟨⟨y⟩⟩ : ByteArray).size) ≤ 9223372036854775807 := hle
      have := run_string_add_sum (P := P) w ⟨⟨x⟩⟩ ⟨⟨y⟩⟩ hs
      have e : (⟨⟨x⟩⟩ : ByteArray) ++ (⟨⟨y⟩⟩ : ByteArray) = ⟨⟨x ++ y⟩⟩ := by
        apply ByteArray.ext
        simp [ByteArray.data_append]
      rw [e] at this
      simp only [eqGuard, binOp, Sem.run_bind]
      exact this
    · cases hq
  all_goals
    injection hq with hq; subst hq
    refine ⟨rfl, ?_⟩
    simp [eqGuard, binOp, Op.stringOp, eqB_eq, lessB_eq, bytes_list]
def plainPair : Value → Value → Bool
  | .int _ _, .int _ _ => false
  | .float _ _, .float _ _ => false
  | .complex _ _ _, .complex _ _ _ => false
  | .string _, .string _ => false
  | _, _ => true
theorem binOp_eql {t : TypeId} {x y : Value} (hp : plainPair x y = true) : binOp .eql t x y = (do pure (.bool (← Op.equal t x y)) : Sem Value) := by
  cases x <;> cases y <;> first | rfl | cases hp
theorem binOp_neq {t : TypeId} {x y : Value} (hp : plainPair x y = true) : binOp .neq t x y = (do pure (.bool (!(← Op.equal t x y))) : Sem Value) := by
  cases x <;> cases y <;> first | rfl | cases hp
theorem eqIn_guard (hG : TypesOk P G) {op : BinOp} {ox oy : Operand} {d : Nat} {t : TypeId} {x x' y y' : Value} {r : Bool} (hx : VR E x x') (hy : VR E y y') (hq : eqIn G d t x y = some r)
    (h1 : ∀ k a k' b, x = .int k a → y = .int k' b → False) (h2 : ∀ a b, x = .string ⟨⟨a⟩⟩ → y = .string ⟨⟨b⟩⟩ → False) :
    plainPair x' y' = true ∧ (eqGuard op t ox oy x' y').run P w = .ok () w := by
  cases d with
  | zero => cases hq
  | succ d =>
    simp only [eqIn, Option.bind_eq_some_iff] at hq
    obtain ⟨ti, e1, e2⟩ := hq
    have hty := hG _ _ e1
    split at e2
    · exact (h1 _ _ _ _ rfl rfl).elim
    · exact (h2 _ _ rfl rfl).elim
    · split at e2
      · rename_i fs hk hc
        cases hx; cases hy
        exact ⟨rfl, run_eqGuard_agg w op t ox oy _ _ (hty.cmp hc fs hk).2.2⟩
      · cases e2
    · unfold eqT at e2
      split at e2 <;> first
        | (cases e2; done)
        | (cases hx <;> cases hy <;> exact ⟨rfl, by cases op <;> rfl⟩)
theorem bin_sound (hG : TypesOk P G) {op : BinOp} {t : TypeId} {ox oy : Operand} {x x' y y' v : Value} (hx : VR E x x') (hy : VR E y y') (hb : bin G op t x y = some v) :
    closedS v = true ∧ (do eqGuard op t ox oy x' y'; binOp op t x' y' : Sem Value).run P w = .ok v w := by
  unfold bin at hb
  split at hb
  · cases hx; cases hy
    split at hb
    · split at hb
      · rename_i m
        injection hb with hb; subst hb
        refine ⟨rfl, ?_⟩
        have h0 : ¬ Int.ofNat m < 0 := by have := Int.natCast_nonneg m; intro e; simp at e; omega
        simp only [eqGuard, binOp, Op.shift, h0, if_false, Sem.run_bind]
        rfl
      · cases hb
    · split at hb
      · rename_i m
        injection hb with hb; subst hb
        refine ⟨rfl, ?_⟩
        have h0 : ¬ Int.ofNat m < 0 := by have := Int.natCast_nonneg m; intro e; simp at e; omega
        simp only [eqGuard, binOp, Op.shift, h0, if_false, Sem.run_bind]
        rfl
      · cases hb
    · rename_i h1 h2
      split at hb
      · rename_i hk
        have := kindN_inj hk
        subst this
        exact intOp_sound ⟨h1, h2⟩ hb
      · cases hb
  · cases hx; cases hy
    exact strOp_sound hb
  · rename_i h1 h2
    split at hb
    · simp only [Option.bind_eq_some_iff, Option.some.injEq] at hb
      obtain ⟨r, e1, rfl⟩ := hb
      obtain ⟨g1, g2⟩ := eqIn_guard (w := w) (op := .eql) (ox := ox) (oy := oy) hG hx hy e1 (fun k a k' b => h1 k a k' b) (fun a b => h2 a b)
      refine ⟨rfl, ?_⟩
      have := eqIn_sound (P := P) (w := w) hG 10000 (by omega) hx hy e1
      rw [Sem.run_bind, g2, binOp_eql g1]
      simp only [Result.andThen_ok, Sem.run_bind, Op.equal, Op.maxDepth, this, Sem.run_pure]
    · simp only [Option.bind_eq_some_iff, Option.some.injEq] at hb
      obtain ⟨r, e1, rfl⟩ := hb
      obtain ⟨g1, g2⟩ := eqIn_guard (w := w) (op := .neq) (ox := ox) (oy := oy) hG hx hy e1 (fun k a k' b => h1 k a k' b) (fun a b => h2 a b)
      refine ⟨rfl, ?_⟩
      have := eqIn_sound (P := P) (w := w) hG 10000 (by omega) hx hy e1
      rw [Sem.run_bind, g2, binOp_neq g1]
      simp only [Result.andThen_ok, Sem.run_bind, Op.equal, Op.maxDepth, this, Sem.run_pure]
    · cases hb
theorem un_sound {op : UnOp} {x x' v : Value} (hx : VR E x x') (hq : un op x = some v) : closedS v = true ∧ (Op.unary op x').run P w = .ok v w := by
  unfold un at hq
  split at hq
  · injection hq with hq; subst hq; cases hx; exact ⟨rfl, rfl⟩
  · injection hq with hq; subst hq; cases hx; exact ⟨rfl, rfl⟩
  · injection hq with hq; subst hq; cases hx; exact ⟨rfl, rfl⟩
  · cases hq

/-! ## builtins -/
theorem foldV_sound {f : Value → Value → Option Value} {g : Value → Value → Sem Value} (hfg : ∀ {x y x' y' v}, VR E x x' → VR E y y' → f x y = some v → ∃ v', VR E v v' ∧ (g x' y').run P w = .ok v' w) :
    ∀ {l l' : List Value} {x x' v : Value}, VR E x x' → VRs E l l' → foldV f x l = some v → ∃ v', VR E v v' ∧ (l'.foldlM g x').run P w = .ok v' w
  | [], _, x, x', v, hx, hl, hq => by
    cases hl
    injection hq with hq; subst hq
    exact ⟨x', hx, rfl⟩
  | y :: l, _, x, x', v, hx, hl, hq => by
    cases hl with
    | cons _ y' _ l' hy hs =>
      simp only [foldV, Option.bind_eq_some_iff] at hq
      obtain ⟨r, h1, h2⟩ := hq
      obtain ⟨r', h3, h4⟩ := hfg hx hy h1
      obtain ⟨v', h5, h6⟩ := foldV_sound hfg h3 hs h2
      exact ⟨v', h5, by simp only [List.foldlM_cons, Sem.run_bind, h4, Result.andThen_ok, h6]⟩
theorem max2_sound {x y x' y' v : Value} (hx : VR E x x') (hy : VR E y y') (hq : max2 x y = some v) : ∃ v', VR E v v' ∧ (Builtin.max2 x' y').run P w = .ok v' w := by
  unfold max2 at hq
  split at hq
  · injection hq with hq; subst hq; cases hx; cases hy; exact ⟨_, .int _ _, rfl⟩
  · cases hq
theorem min2_sound {x y x' y' v : Value} (hx : VR E x x') (hy : VR E y y') (hq : min2 x y = some v) : ∃ v', VR E v v' ∧ (Builtin.min2 x' y').run P w = .ok v' w := by
  unfold min2 at hq
  split at hq
  · injection hq with hq; subst hq; cases hx; cases hy; exact ⟨_, .int _ _, rfl⟩
  · cases hq
theorem arr0 {α : Type} {ts : Array α} {t : α} (h : ts.toList[0]? = some t) : ts[0]? = some t := by simpa using h
theorem MEs.length {l : List ME} {l' : List MapEntry} (h : MEs E l l') : l'.length = l.length := by
  induction h with
  | nil => rfl
  | cons k v k' v' b l l' hk hv hs ih => simp [ih]
theorem qlen_sound (hh : HR E h w) {ts : Array TypeId} {t : TypeId} {k : TypeDesc} {x x' : Value} {n : Nat} {ty : TypeId} (ht : ts.toList[0]? = some t) (hu : P.underlying t = some k) (hx : VR E x x') (hk : lenOk k x = true) (hq : qlen h x = some n) :
    (Builtin.len_ ts ty #[x']).run P w = .ok (goI n) w := by
  unfold lenOk at hk
  unfold Builtin.len_
  rw [arr0 ht]
  simp only [List.getElem?_toArray, List.getElem?_cons_zero, Sem.run_bind, run_underlying hu, Result.andThen_ok]
  split at hk
  · rename_i s
    cases hx
    obtain ⟨⟨s⟩⟩ := s
    injection hq with hq; subst hq
    rfl
  · injection hq with hq; subst hq
    cases hx <;> rfl
  · injection hq with hq; subst hq
    cases hx; rfl
  · unfold qlen at hq
    split at hq <;> first
      | (cases hq; done)
      | skip
    · rename_i heq; cases heq
    · rename_i heq; cases heq
    · rename_i heq; cases heq
    · rename_i heq
      injection hq with hq; subst hq
      injection heq with heq; subst heq
      cases hx; rfl
    · rename_i r heq
      split at hq
      · rename_i hr
        injection hq with hq; subst hq
        obtain ⟨b, m, es', h1, h2, h3⟩ := hh _ _ hr
        injection heq with heq; subst heq
        cases hx with
        | mp _ b' m' hb =>
          rw [h1] at hb
          injection hb with hb; injection hb with hb _
          subst hb
          simp only [Sem.run_bind, MapKept.run_getObj_map h2, Result.andThen_ok, Sem.run_pure]
          have hsz := MEs.length h3
          rw [Array.length_toList] at hsz
          rw [hsz]
          rfl
      · cases hq
  · cases hk
theorem qbuiltin_sound (hG : TypesOk P G) (hh : HR E h w) {b : Builtin} {ts : Array TypeId} {ty : TypeId} {cs : Array Bool} {args args' : List Value} {v : Value} (ha : VRs E args args') (hq : qbuiltin G h b ts.toList args = some v) :
    ∃ v', VR E v v' ∧ (builtin b ts ty cs ⟨args'⟩).run P w = .ok (.value v') w := by
  unfold qbuiltin at hq
  split at hq
  · rename_i x
    simp only [Option.bind_eq_some_iff] at hq
    obtain ⟨t, h1, ti, h2, h3⟩ := hq
    have hty := hG _ _ h2
    cases ha with
    | cons _ x' _ l' hx hs =>
      cases hs
      split at h3
      · rename_i hk
        simp only [Option.bind_eq_some_iff, Option.some.injEq] at h3
        obtain ⟨n, h4, rfl⟩ := h3
        refine ⟨goI n, .int _ _, ?_⟩
        unfold builtin
        rw [Sem.run_bind, qlen_sound hh h1 hty.und hx hk h4]
        rfl
      · split at h3
        · rename_i n e hk
          injection h3 with h3; subst h3
          refine ⟨goI n, .int _ _, ?_⟩
          unfold builtin Builtin.len_
          rw [arr0 h1]
          simp only [List.getElem?_toArray, List.getElem?_cons_zero, Sem.run_bind, run_underlying (hk ▸ hty.und), Result.andThen_ok]
          rfl
        · cases h3
  · rename_i ad n c
    simp only [Option.bind_eq_some_iff] at hq
    obtain ⟨t, h1, ti, h2, h3⟩ := hq
    have hty := hG _ _ h2
    cases ha with
    | cons _ x' _ l' hx hs =>
      cases hs
      split at h3
      · rename_i e hk
        have key : ∀ ad', (builtin .cap ts ty cs ⟨[.slice ad' n c]⟩).run P w = .ok (.value (goI c)) w := fun ad' => by
          unfold builtin Builtin.cap_
          rw [arr0 h1]
          simp only [List.getElem?_toArray, List.getElem?_cons_zero, Sem.run_bind, run_underlying (hk ▸ hty.und), Result.andThen_ok]
          rfl
        split at h3
        · injection h3 with h3; subst h3
          cases hx
          exact ⟨_, .int _ _, key _⟩
        · injection h3 with h3; subst h3
          cases hx
          exact ⟨_, .int _ _, key _⟩
        · cases h3
      · cases h3
  · cases ha with
    | cons _ x' _ l' hx hs =>
      obtain ⟨v', h1, h2⟩ := foldV_sound (P := P) (w := w) (g := Builtin.max2) max2_sound hx hs hq
      refine ⟨v', h1, ?_⟩
      unfold builtin Builtin.max_
      rw [Sem.run_bind]
      simp only [h2, Result.andThen_ok, Sem.run_pure]
  · cases ha with
    | cons _ x' _ l' hx hs =>
      obtain ⟨v', h1, h2⟩ := foldV_sound (P := P) (w := w) (g := Builtin.min2) min2_sound hx hs hq
      refine ⟨v', h1, ?_⟩
      unfold builtin Builtin.min_
      rw [Sem.run_bind]
      simp only [h2, Result.andThen_ok, Sem.run_pure]
  · cases hq

/-! ## all of them -/
theorem lastN_back : ∀ {l : List Nat} {n : Nat}, lastN l = some n → (⟨l⟩ : Array Nat).back? = some n
  | [], _, h => by cases h
  | [a], _, h => by injection h with h; subst h; rfl
  | a :: b :: l, n, h => by
    have := lastN_back (l := b :: l) (n := n) h
    simpa [Array.back?] using this
theorem bornAt_find : ∀ {es : List ME} {es' : List MapEntry} {n : Nat} {p : Value × Value}, MEs E es es' → bornAt n es = some p → ∃ e, es'.find? (fun e => e.born == n) = some e ∧ VR E p.1 e.key ∧ VR E p.2 e.val
  | _, _, _, _, .nil, h => by cases h
  | _, _, n, p, .cons k v k' v' b l l' hk hv hs, h => by
    rw [bornAt] at h
    rw [List.find?_cons]
    have hb : Nat.beq b n = (b == n) := by rw [Bool.eq_iff_iff]; exact ⟨fun h => by simpa using Nat.eq_of_beq_eq_true h, fun h => by have := eq_of_beq h; subst this; exact Nat.beq_refl b⟩
    cases hc : Nat.beq b n with
    | true =>
      rw [hc] at h
      injection h with h; subst h
      rw [show ((({ key := k', val := v', born := b } : MapEntry).born == n)) = true from by rw [← hb]; exact hc]
      exact ⟨_, rfl, hk, hv⟩
    | false =>
      rw [hc] at h
      rw [show ((({ key := k', val := v', born := b } : MapEntry).born == n)) = false from by rw [← hb]; exact hc]
      exact bornAt_find hs h
theorem qentry_sound (hh : HR E h w) {x x' v : Value} (hx : VR E x x') (hq : qentry h x = some v) : ∃ v', VR E v v' ∧ (Instr.entry x').run P w = .ok v' w := by
  unfold qentry at hq
  split at hq
  · rename_i i
    split at hq
    · rename_i m since seen stepped hi
      split at hq
      · rename_i es clock hm
        split at hq
        · rename_i hc
          have hc := Nat.eq_of_beq_eq_true hc
          subst hc
          simp only [Option.bind_eq_some_iff, Option.some.injEq] at hq
          obtain ⟨n, h1, p, h2, rfl⟩ := hq
          obtain ⟨b, nb, m', e1, e2, rb, rn, e3, rfl⟩ := hh _ _ hi
          obtain ⟨b2, n2, es', f1, f2, f3⟩ := hh _ _ hm
          rw [e3] at f1
          injection f1 with f1; injection f1 with f1 _
          subst f1
          cases hx with
          | ptr _ b' nb' _ hb =>
            rw [e1] at hb
            injection hb with hb; injection hb with hb _
            subst hb
            obtain ⟨e, g1, g2, g3⟩ := bornAt_find f3 h2
            refine ⟨.tuple #[e.key, e.val], .tup _ _ (.cons _ _ _ _ g2 (.cons _ _ _ _ g3 .nil)), ?_⟩
            have hget : (getObj b).run P w = .ok (.mapIter (some rb) since ⟨seen⟩ clock) w := by simp [getObj, Sem.run, e2]
            have g1' : es'.find? (fun e => e.born == n) = some e := by rw [← g1, Array.find?_toList]
            unfold Instr.entry
            simp only [Sem.run_bind, hget, Result.andThen_ok, lastN_back h1, MapKept.run_getObj_map f2, bne_self_eq_false, Bool.false_eq_true, if_false, g1', Sem.run_pure]
        · cases hq
      · cases hq
    · cases hq
  · cases hq
theorem qop_sound (hG : TypesOk P G) (hg : Glob E G.ng) (hT : TR E T a.tmps) (hh : HR E h w) {o : Oper} {v : Value} (hq : qop G T h o.op = some v) :
    ∃ v', VR E v v' ∧ (execOp a.eval o).run P w = .ok (.value v') w := by
  have hval : ∀ {s : Sem Value} {v' : Value}, s.run P w = .ok v' w → (do pure (Next.value (← s)) : Sem Next).run P w = .ok (.value v') w := fun {s v'} e => by
    rw [Sem.run_bind, e]; rfl
  unfold qop at hq
  split at hq
  · rename_i x ho
    exact ⟨_, ev_sound hg hT hq, by unfold execOp; rw [ho]; rfl⟩
  · rename_i x ho
    exact ⟨_, ev_sound hg hT hq, by unfold execOp; rw [ho]; rfl⟩
  · rename_i c x y ho
    simp only [Option.bind_eq_some_iff] at hq
    obtain ⟨b, h1, h2⟩ := hq
    have hb := ev_sound hg hT h1
    split at h2
    · generalize hc : a.eval c = c' at hb
      cases hb
      refine ⟨_, ev_sound hg hT h2, ?_⟩
      unfold execOp
      rw [ho]
      simp only [hc, asBool, Sem.run_bind, Sem.run_pure, Result.andThen_ok, if_true]
    · generalize hc : a.eval c = c' at hb
      cases hb
      refine ⟨_, ev_sound hg hT h2, ?_⟩
      unfold execOp
      rw [ho]
      simp only [hc, asBool, Sem.run_bind, Sem.run_pure, Result.andThen_ok, Bool.false_eq_true, if_false]
    · cases h2
  · rename_i t ps ho
    simp only [Option.bind_eq_some_iff] at hq
    obtain ⟨vs, h1, h2⟩ := hq
    obtain ⟨v', h3, h4⟩ := qbuild_sound (w := w) hG (evP_sound hg hT h1) h2
    refine ⟨v', h3, ?_⟩
    unfold execOp
    rw [ho]
    refine hval ?_
    rw [← h4]
    congr 2
    apply Array.ext'
    simp
  · rename_i t x ho
    simp only [Option.bind_eq_some_iff] at hq
    obtain ⟨u, h1, h2⟩ := hq
    obtain ⟨v', h3, h4⟩ := qload_sound hG hh (ev_sound hg hT h1) h2
    exact ⟨v', h3, by unfold execOp; rw [ho]; exact hval h4⟩
  · rename_i x ho
    simp only [Option.bind_eq_some_iff] at hq
    obtain ⟨u, h1, h2⟩ := hq
    have hb := ev_sound hg hT h1
    split at h2
    · injection h2 with h2; subst h2
      generalize hc : a.eval x = c' at hb
      refine ⟨c', hb, ?_⟩
      unfold execOp
      rw [ho]
      simp only [hc]
      cases hb; rfl
    · injection h2 with h2; subst h2
      generalize hc : a.eval x = c' at hb
      refine ⟨c', hb, ?_⟩
      unfold execOp
      rw [ho]
      simp only [hc]
      cases hb; rfl
    · cases h2
  · rename_i op t x y yt ho
    simp only [Option.bind_eq_some_iff] at hq
    obtain ⟨u, h1, u2, h2, h3⟩ := hq
    obtain ⟨h4, h5⟩ := bin_sound (w := w) (ox := x) (oy := y) hG (ev_sound hg hT h1) (ev_sound hg hT h2) h3
    exact ⟨v, closedS_VR h4, by unfold execOp; rw [ho]; exact hval h5⟩
  · rename_i op t x ho
    simp only [Option.bind_eq_some_iff] at hq
    obtain ⟨u, h1, h2⟩ := hq
    obtain ⟨h4, h5⟩ := un_sound (P := P) (w := w) (ev_sound hg hT h1) h2
    exact ⟨v, closedS_VR h4, by unfold execOp; rw [ho]; exact hval h5⟩
  · rename_i src dst x ho
    simp only [Option.bind_eq_some_iff] at hq
    obtain ⟨u, h1, h2⟩ := hq
    obtain ⟨v', h3, h4⟩ := qconvert_sound hG hh (ev_sound hg hT h1) h2
    exact ⟨v', h3, by unfold execOp; rw [ho]; exact hval h4⟩
  · rename_i f first cap ho
    simp only [Option.bind_eq_some_iff, Option.some.injEq] at hq
    obtain ⟨u, h1, u2, h2, rfl⟩ := hq
    refine ⟨_, .fn f _ _ _ _ (evs_sound hg hT h1) (evs_sound hg hT h2), ?_⟩
    unfold execOp
    rw [ho]
    refine hval ?_
    unfold Instr.makeFunc
    rw [Sem.run_pure]
    congr 2 <;> (apply Array.ext'; simp)
  · rename_i t x lo hi mx ho
    simp only [Option.bind_eq_some_iff] at hq
    obtain ⟨u, h1, h2⟩ := hq
    obtain ⟨v', h3, h4⟩ := qslice_sound (w := w) hG hg hT (ev_sound hg hT h1) h2
    exact ⟨v', h3, by unfold execOp; rw [ho]; exact hval h4⟩
  · rename_i t x f ho
    simp only [Option.bind_eq_some_iff] at hq
    obtain ⟨u, h1, h2⟩ := hq
    obtain ⟨v', h3, h4⟩ := qfieldAddr_sound (w := w) hG (ev_sound hg hT h1) h2
    exact ⟨v', h3, by unfold execOp; rw [ho]; exact hval h4⟩
  · rename_i t x f ho
    simp only [Option.bind_eq_some_iff] at hq
    obtain ⟨u, h1, h2⟩ := hq
    obtain ⟨v', h3, h4⟩ := qfield_sound (w := w) hG (ev_sound hg hT h1) h2
    exact ⟨v', h3, by unfold execOp; rw [ho]; exact hval h4⟩
  · rename_i t x i ho
    simp only [Option.bind_eq_some_iff] at hq
    obtain ⟨u, h1, j, h2, n, h3, h4⟩ := hq
    obtain ⟨v', h5, h6⟩ := qindexAddr_sound (w := w) hG (ev_sound hg hT h1) (ev_sound hg hT h2) h3 h4
    exact ⟨v', h5, by unfold execOp; rw [ho]; exact hval h6⟩
  · rename_i t x i ho
    simp only [Option.bind_eq_some_iff] at hq
    obtain ⟨u, h1, j, h2, n, h3, h4⟩ := hq
    obtain ⟨v', h5, h6⟩ := qindex_sound (w := w) hG (ev_sound hg hT h1) (ev_sound hg hT h2) h3 h4
    exact ⟨v', h5, by unfold execOp; rw [ho]; exact hval h6⟩
  · rename_i t x k ok ho
    simp only [Option.bind_eq_some_iff] at hq
    obtain ⟨u, h1, j, h2, h3⟩ := hq
    obtain ⟨v', h5, h6⟩ := qlookup_sound hG hh (ev_sound hg hT h1) (ev_sound hg hT h2) h3
    exact ⟨v', h5, by unfold execOp; rw [ho]; exact hval h6⟩
  · rename_i t i ho
    simp only [Option.bind_eq_some_iff] at hq
    obtain ⟨u, h1, h2⟩ := hq
    have hb := ev_sound hg hT h1
    split at h2
    · generalize hc : a.eval t = c' at hb
      cases hb with
      | tup _ vs' hvs =>
        obtain ⟨v', h3, h4⟩ := hvs.get h2
        refine ⟨v', h4, ?_⟩
        unfold execOp
        rw [ho]
        refine hval ?_
        rw [hc]
        unfold Instr.extract
        have : (⟨vs'⟩ : Array Value)[i]? = some v' := by simpa using h3
        simp only [this]
        rfl
    · cases h2
  · rename_i it ho
    simp only [Option.bind_eq_some_iff] at hq
    obtain ⟨u, h1, h2⟩ := hq
    obtain ⟨v', h5, h6⟩ := qentry_sound (P := P) hh (ev_sound hg hT h1) h2
    exact ⟨v', h5, by unfold execOp; rw [ho]; exact hval h6⟩
  · rename_i c ho
    split at hq
    · rename_i b hc
      simp only [Option.bind_eq_some_iff] at hq
      obtain ⟨u, h1, h2⟩ := hq
      have hcl : ∀ (op : Op), o.op = op → o.op = op := fun _ e => e
      obtain ⟨v', h3, h4⟩ := qbuiltin_sound (w := w) hG hh (ty := o.type) (cs := c.args.map fun | .const _ => true | _ => false) (evs_sound hg hT h1) h2
      refine ⟨v', h3, ?_⟩
      unfold execOp
      rw [ho]
      simp only [resolve, hc, Sem.run_bind, Sem.run_pure, Result.andThen_ok, invoke]
      rw [← h4]
      congr 2
      apply Array.ext'
      simp
    · cases hq
  · cases hq
end
end Go.Proofs.YtgjbnebmcmoilaaGreatDoor.Ax
