/- Loud operations: maps, iterators, calls; every operation. -/
import Derived.Test.YtgjbnebmcmoilaaGreatDoorAxd
import Derived.Laws.RangeString
set_option linter.unusedVariables false
set_option linter.unusedSimpArgs false
namespace Go.Proofs.YtgjbnebmcmoilaaGreatDoor.Ax
open Go.RowKit

section
variable {P : Program} {G : Gv} {E : Ev} {w : World} {a : Act} {T : Tm} {σ : St} {lo : Nat}

theorem set_other {xs : Array Obj} {b x : Nat} {o : Obj} (h : x ≠ b) : (xs.setIfInBounds b o)[x]? = xs[x]? := Array.getElem?_setIfInBounds_ne (Ne.symm h)
theorem set_here {xs : Array Obj} {b : Nat} {o o' : Obj} (h : xs[b]? = some o') : (xs.setIfInBounds b o)[b]? = some o := by
  have := (Array.getElem?_eq_some_iff.1 h).1
  simp [this]
theorem set_self {xs : Array Obj} {b : Nat} {o : Obj} (h : xs[b]? = some o) : xs.setIfInBounds b o = xs := by
  apply Array.ext'
  rw [Array.toList_setIfInBounds]
  apply List.ext_getElem?
  intro j
  rw [List.getElem?_set]
  by_cases hj : b = j
  · subst hj
    have h1 := (Array.getElem?_eq_some_iff.1 h).1
    have h2 := (Array.getElem?_eq_some_iff.1 h).2
    simp [h1, h2]
  · simp [hj]
/-- an object is put in another's place -/
theorem setObj_sound (hI : Inv E σ G.ng w) {i b n : Nat} {o o' : AO} {x x' : Obj} (hi : σ.h.get i = some o) (hl : o.live = true) (hlo : lo ≤ i) (hb : E.blk i = some (b, n)) (hx : w.heap[b]? = some x)
    (ho : OR E { w with heap := w.heap.setIfInBounds b x' } i o') :
    Inv E { σ with h := σ.h.set i o' } G.ng { w with heap := w.heap.setIfInBounds b x' } ∧ Stp E lo σ.nx w E { w with heap := w.heap.setIfInBounds b x' } ∧ AStp lo σ { σ with h := σ.h.set i o' } :=
  hI.upd hi hl hlo hb (fun y hy => set_other hy) (by simp) rfl rfl rfl ho

/-! ## maps -/
theorem findE_at {k : Value} : ∀ {es : List ME} {i : Nat} {p : Nat × Value}, findE k es i = some (some p) → ∃ n k' b, p.1 = i + n ∧ es[n]? = some (k', p.2, b) ∧ keyEq k k' = some true
  | [], _, _, h => by simp [findE] at h
  | (q, v, b) :: es, i, p, h => by
    simp only [findE, Option.bind_eq_some_iff] at h
    obtain ⟨t, h1, h2⟩ := h
    cases t with
    | true => injection h2 with h2; injection h2 with h2; subst h2; exact ⟨0, q, b, rfl, rfl, h1⟩
    | false =>
      obtain ⟨n, k', b', e1, e2, e3⟩ := findE_at h2
      exact ⟨n + 1, k', b', by omega, by simpa using e2, e3⟩
theorem MEs.get {l : List ME} {l' : List MapEntry} (h : MEs E l l') : ∀ {n : Nat} {k v : Value} {b : Nat}, l[n]? = some (k, v, b) → ∃ e, l'[n]? = some e ∧ VR E k e.key ∧ VR E v e.val ∧ e.born = b := by
  induction h with
  | nil => intro n k v b h; simp at h
  | cons k v k' v' b l l' hk hv hs ih =>
    intro n k1 v1 b1 hn
    cases n with
    | zero => simp at hn; obtain ⟨rfl, rfl, rfl⟩ := hn; exact ⟨_, rfl, hk, hv, rfl⟩
    | succ n => obtain ⟨e, h1, h2⟩ := ih (by simpa using hn); exact ⟨e, by simpa using h1, h2⟩
theorem keyEq_same {k q k' q' : Value} (h : keyEq k q = some true) (hk : VR E k k') (hq : VR E q q') : Instr.sameBits 10000 q' k' = true := by
  unfold keyEq at h
  split at h
  · split at h
    · rename_i hkk
      injection h with h
      have := kindN_inj hkk
      subst this
      cases hk; cases hq
      have : ∀ {x y : Int}, (x == y) = true → (y == x) = true := fun e => by simpa using (eq_of_beq e).symm
      show (_ == _ && _ == _) = true
      rw [this h]
      simp
    · cases h
  · injection h with h
    cases hk; cases hq
    rw [eqB_eq] at h
    have := eq_of_beq h
    subst this
    show (_ == _) = true
    rw [beq_toListBytes]
    simp
  · cases h
theorem setE_sound {k k' v v' : Value} (hk : VR E k k') (hv : VR E v v') : ∀ {l : List ME} {l' : List MapEntry} (n : Nat), MEs E l l' → n < l.length → MEs E (setE k v n l) (l'.modify n fun e => { e with key := k', val := v' })
  | [], _, n, _, hn => by simp at hn
  | e :: l, _, n, h, hn => by
    cases h with
    | cons k1 v1 k1' v1' b _ l' hk1 hv1 hs =>
      cases n with
      | zero => exact .cons _ _ _ _ _ _ _ hk hv hs
      | succ n =>
        rw [setE, List.modify_succ_cons]
        exact .cons _ _ _ _ _ _ _ hk1 hv1 (setE_sound hk hv n hs (by simpa using hn))
theorem delE_sound : ∀ {l : List ME} {l' : List MapEntry} (n : Nat), MEs E l l' → MEs E (delE n l) (l'.eraseIdx n)
  | [], _, n, h => by cases h; cases n <;> exact .nil
  | e :: l, _, n, h => by
    cases h with
    | cons k1 v1 k1' v1' b _ l' hk1 hv1 hs =>
      cases n with
      | zero => exact hs
      | succ n => exact .cons _ _ _ _ _ _ _ hk1 hv1 (delE_sound n hs)
theorem MEs.append {l m : List ME} {l' m' : List MapEntry} (h : MEs E l l') (k : MEs E m m') : MEs E (l ++ m) (l' ++ m') := by
  induction h with
  | nil => exact k
  | cons k v k' v' b l l' hk hv hs ih => exact .cons _ _ _ _ _ _ _ hk hv ih
theorem lmapUpdate_sound (hG : TypesOk P G) (hI : Inv E σ G.ng w) {t : TypeId} {m m' k k' x x' : Value} {σ' : St} (hm : VR E m m') (hk : VR E k k') (hx : VR E x x') (hq : lmapUpdate G lo σ t m k x = some σ') :
    ∃ w', (Instr.mapUpdate t m' k' x').run P w = .ok () w' ∧ Inv E σ' G.ng w' ∧ Stp E lo σ.nx w E w' ∧ AStp lo σ σ' := by
  unfold lmapUpdate at hq
  simp only [Option.bind_eq_some_iff] at hq
  obtain ⟨ti, h1, h2⟩ := hq
  have hty := hG _ _ h1
  split at h2
  · rename_i kt e r hkk
    simp only [Option.bind_eq_some_iff] at h2
    obtain ⟨tk, h3, h4⟩ := h2
    have htk := hG _ _ h3
    split at h4
    · rename_i hko hlo
      have hlo := bltF hlo
      split at h4
      · rename_i es c hr
        simp only [Option.bind_eq_some_iff] at h4
        obtain ⟨f, h5, h6⟩ := h4
        obtain ⟨b, n, es', e1, e2, e3⟩ := hI.heap r _ hr
        cases hm with
        | mp _ b' n' hb =>
          rw [hb] at e1
          injection e1 with e1; injection e1 with e1 _
          subst e1
          obtain ⟨r', h7, h8⟩ := findE_sound hko hk e3 h5
          have hpre : (Instr.mapUpdate t (.map (some b')) k' x').run P w = (match r' with
              | some (i, _) => do
                let key ← Instr.keyThatStays (((es'[i]?).map (·.key)).getD k') k'
                setObj b' (.map (es'.modify i fun e => { e with key, val := x' }) c)
              | none => setObj b' (.map (es'.push { key := k', val := x', born := c }) (c + 1)) : Sem Unit).run P w := by
            unfold Instr.mapUpdate
            rw [Sem.run_bind, run_underlying (hkk ▸ hty.und)]
            simp only [Result.andThen_ok, Sem.run_bind, MapKept.run_getObj_map e2, checkKey_run htk.und hko hk, findKey_run htk.und h7]
            rcases r' with _ | ⟨_, _⟩ <;> rfl
          cases f with
          | some p =>
            injection h6 with h6; subst h6
            obtain ⟨v', rfl, hv'⟩ := h8
            obtain ⟨j, q, bb, j1, j2, j3⟩ := findE_at h5
            obtain ⟨en, f1, f2, f3, f4⟩ := e3.get j2
            have hj : p.1 = j := by omega
            have hlt : j < es.length := (List.getElem?_eq_some_iff.1 j2).1
            have hkey : (((es'[p.1]?).map (·.key)).getD k') = en.key := by
              rw [hj, ← Array.getElem?_toList, f1]; rfl
            have hst : (Instr.keyThatStays en.key k').run P w = .ok k' w := by
              unfold Instr.keyThatStays
              rw [keyEq_same j3 hk f2]
              rfl
            refine ⟨{ w with heap := w.heap.setIfInBounds b' (.map (es'.modify p.1 fun e => { e with key := k', val := x' }) c) }, ?_, setObj_sound hI hr rfl hlo hb e2 ?_⟩
            · rw [hpre]
              simp only [hkey, Sem.run_bind, hst, Result.andThen_ok, MapKept.run_setObj_map _ e2]
            · refine ⟨b', n', es'.modify p.1 fun e => { e with key := k', val := x' }, hb, set_here e2, ?_⟩
              rw [Array.toList_modify, hj]
              exact setE_sound hk hx j e3 hlt
          | none =>
            injection h6 with h6; subst h6
            subst h8
            refine ⟨{ w with heap := w.heap.setIfInBounds b' (.map (es'.push { key := k', val := x', born := c }) (c + 1)) }, ?_, setObj_sound hI hr rfl hlo hb e2 ?_⟩
            · rw [hpre]
              simp only [MapKept.run_setObj_map _ e2]
            · refine ⟨b', n', es'.push { key := k', val := x', born := c }, hb, set_here e2, ?_⟩
              rw [Array.toList_push]
              exact e3.append (.cons _ _ _ _ _ _ _ hk hx .nil)
      · cases h4
    · cases h4
  · cases h2
theorem setK_sound {k k' v : Value} (hk : VR E k k') : ∀ {l : List ME} {l' : List MapEntry} (n : Nat) {q : Value} {b : Nat}, MEs E l l' → l[n]? = some (q, v, b) → MEs E (setE k v n l) (l'.modify n fun e => { e with key := k' })
  | [], _, n, _, _, _, hn => by simp at hn
  | e :: l, _, n, q, b, h, hn => by
    cases h with
    | cons k1 v1 k1' v1' b1 _ l' hk1 hv1 hs =>
      cases n with
      | zero =>
        simp at hn
        obtain ⟨rfl, rfl, rfl⟩ := hn
        exact .cons _ _ _ _ _ _ _ hk hv1 hs
      | succ n =>
        rw [setE, List.modify_succ_cons]
        exact .cons _ _ _ _ _ _ _ hk1 hv1 (setK_sound hk n hs (by simpa using hn))
theorem lmapEntry_sound (hG : TypesOk P G) (hI : Inv E σ G.ng w) {t : TypeId} {m m' k k' v : Value} {σ' : St} (hm : VR E m m') (hk : VR E k k') (hq : lmapEntry G lo σ t m k = some (v, σ')) :
    V1Ok G E lo σ w v σ' ((Instr.mapEntry t m' k').run P w) := by
  unfold lmapEntry at hq
  simp only [Option.bind_eq_some_iff] at hq
  obtain ⟨ti, h1, h2⟩ := hq
  have hty := hG _ _ h1
  split at h2
  · rename_i kt e r hkk
    simp only [Option.bind_eq_some_iff] at h2
    obtain ⟨tk, h3, h4⟩ := h2
    have htk := hG _ _ h3
    split at h4
    · rename_i hko hlo
      have hlo := bltF hlo
      split at h4
      · rename_i es c hr
        simp only [Option.bind_eq_some_iff] at h4
        obtain ⟨f, h5, h6⟩ := h4
        obtain ⟨b, n, es', e1, e2, e3⟩ := hI.heap r _ hr
        cases hm with
        | mp _ b' n' hb =>
          rw [hb] at e1
          injection e1 with e1; injection e1 with e1 _
          subst e1
          obtain ⟨r', h7, h8⟩ := findE_sound hko hk e3 h5
          have hpre : (Instr.mapEntry t (.map (some b')) k').run P w = (match r' with
              | some (i, v) => do
                let key ← Instr.keyThatStays (((es'[i]?).map (·.key)).getD k') k'
                setObj b' (.map (es'.modify i fun e => { e with key }) c)
                pure (.tuple #[v, goInt (((es'[i]?).map (·.born)).getD 0)])
              | none => do
                let zero ← zeroValue e
                setObj b' (.map (es'.push { key := k', val := zero, born := c }) (c + 1))
                pure (.tuple #[zero, goInt c]) : Sem Value).run P w := by
            unfold Instr.mapEntry
            rw [Sem.run_bind, run_underlying (hkk ▸ hty.und)]
            simp only [Result.andThen_ok, Sem.run_bind, MapKept.run_getObj_map e2, checkKey_run htk.und hko hk, findKey_run htk.und h7]
            rcases r' with _ | ⟨_, _⟩ <;> rfl
          cases f with
          | some p =>
            simp only [Option.bind_eq_some_iff, Option.some.injEq, Prod.mk.injEq] at h6
            obtain ⟨x, hx, rfl, rfl⟩ := h6
            obtain ⟨v', rfl, hv'⟩ := h8
            obtain ⟨j, q, bb, j1, j2, j3⟩ := findE_at h5
            obtain ⟨en, f1, f2, f3, f4⟩ := e3.get j2
            have hj : p.1 = j := by omega
            rw [hj, j2] at hx
            injection hx with hx; subst hx
            have hen : es'[p.1]? = some en := by rw [hj, ← Array.getElem?_toList, f1]
            have hst : (Instr.keyThatStays en.key k').run P w = .ok k' w := by
              unfold Instr.keyThatStays
              rw [keyEq_same j3 hk f2]
              rfl
            refine ⟨.tuple #[v', goInt en.born], { w with heap := w.heap.setIfInBounds b' (.map (es'.modify p.1 fun e => { e with key := k' }) c) }, E, ?_, .tup _ _ (.cons _ _ _ _ hv' (.cons _ _ _ _ ?_ .nil)), setObj_sound hI hr rfl hlo hb e2 ?_⟩
            · rw [hpre]
              simp only [hen, Option.map_some, Option.getD_some, Sem.run_bind, hst, Result.andThen_ok, MapKept.run_setObj_map _ e2, Sem.run_pure]
            · rw [f4]; exact .int _ _
            · refine ⟨b', n', es'.modify p.1 fun e => { e with key := k' }, hb, set_here e2, ?_⟩
              rw [Array.toList_modify, hj]
              exact setK_sound hk j e3 j2
          | none =>
            simp only [Option.bind_eq_some_iff, Option.some.injEq, Prod.mk.injEq] at h6
            obtain ⟨te, h10, z, h11, rfl, rfl⟩ := h6
            have hte := hG _ _ h10
            obtain ⟨z', hz1, hz2, _⟩ := hte.zero (w := w)
            rw [h11] at hz2
            injection hz2 with hz2; subst hz2
            have hzv : VR E z z := hte.zeroV h11
            subst h8
            refine ⟨.tuple #[z, goInt c], { w with heap := w.heap.setIfInBounds b' (.map (es'.push { key := k', val := z, born := c }) (c + 1)) }, E, ?_, .tup _ _ (.cons _ _ _ _ hzv (.cons _ _ _ _ (.int _ _) .nil)), setObj_sound hI hr rfl hlo hb e2 ?_⟩
            · rw [hpre]
              simp only [Sem.run_bind, hz1, Result.andThen_ok, MapKept.run_setObj_map _ e2, Sem.run_pure]
            · refine ⟨b', n', es'.push { key := k', val := z, born := c }, hb, set_here e2, ?_⟩
              rw [Array.toList_push]
              exact e3.append (.cons _ _ _ _ _ _ _ hk hzv .nil)
      · cases h4
    · cases h4
  · cases h2
theorem storeB_sound {v v' : Value} (hv : VR E v v') : ∀ {l : List ME} {l' : List MapEntry} {n : Nat} {r : List ME}, MEs E l l' → storeB n v l = some r →
    ∃ i, l'.findIdx? (fun e => (e.born : Int) == Int.ofNat n) = some i ∧ MEs E r (l'.modify i fun e => { e with val := v' })
  | [], _, _, _, _, h => by cases h
  | e :: l, _, n, r, h, hr => by
    cases h with
    | cons k1 v1 k1' v1' b _ l' hk1 hv1 hs =>
      rw [storeB] at hr
      rw [List.findIdx?_cons]
      cases hc : Nat.beq b n with
      | true =>
        have hb := Nat.eq_of_beq_eq_true hc
        subst hb
        rw [hc] at hr
        injection hr with hr; subst hr
        refine ⟨0, ?_, .cons _ _ _ _ _ _ _ hk1 hv hs⟩
        have : ((b : Int) == Int.ofNat b) = true := by simp
        simp only [this, if_true]
      | false =>
        have hb := Nat.ne_of_beq_eq_false hc
        rw [hc] at hr
        simp only [Option.bind_eq_some_iff, Option.some.injEq] at hr
        obtain ⟨r1, h1, rfl⟩ := hr
        obtain ⟨i, h2, h3⟩ := storeB_sound hv hs h1
        refine ⟨i + 1, ?_, ?_⟩
        · have : ((b : Int) == Int.ofNat n) = false := by
            have hb2 : ¬ (b : Int) = Int.ofNat n := fun e => hb (Int.ofNat.inj e)
            simpa using hb2
          simp only [this, Bool.false_eq_true, if_false, h2, Option.map_some]
        · rw [List.modify_succ_cons]
          exact .cons _ _ _ _ _ _ _ hk1 hv1 h3
theorem lentryStore_sound (hI : Inv E σ G.ng w) {t : TypeId} {m m' s s' x x' : Value} {σ' : St} (hm : VR E m m') (hs : VR E s s') (hx : VR E x x') (hq : lentryStore lo σ m s x = some σ') :
    ∃ w', (Instr.entryStore t m' s' x').run P w = .ok () w' ∧ Inv E σ' G.ng w' ∧ Stp E lo σ.nx w E w' ∧ AStp lo σ σ' := by
  unfold lentryStore at hq
  split at hq
  · rename_i r
    split at hq
    · cases hq
    · rename_i hlo
      have hlo := bltF hlo
      split at hq
      · rename_i es c hr
        simp only [Option.bind_eq_some_iff, Option.some.injEq] at hq
        obtain ⟨n, h1, es1, h2, rfl⟩ := hq
        obtain ⟨k, rfl⟩ := intN_spec hs h1
        obtain ⟨b, nb, es', e1, e2, e3⟩ := hI.heap r _ hr
        cases hm with
        | mp _ b' n' hb =>
          rw [hb] at e1
          injection e1 with e1; injection e1 with e1 _
          subst e1
          obtain ⟨i, h3, h4⟩ := storeB_sound hx e3 h2
          have h3' : es'.findIdx? (fun e => (e.born : Int) == Int.ofNat n) = some i := by rw [← h3]; exact (List.findIdx?_toArray _ _).symm ▸ rfl
          refine ⟨{ w with heap := w.heap.setIfInBounds b' (.map (es'.modify i fun e => { e with val := x' }) c) }, ?_, setObj_sound hI hr rfl hlo hb e2 ?_⟩
          · unfold Instr.entryStore
            simp only [Sem.run_bind, MapKept.run_getObj_map e2, Result.andThen_ok, asInt, asIntOf, Sem.run_pure, h3', MapKept.run_setObj_map _ e2]
          · refine ⟨b', n', es'.modify i fun e => { e with val := x' }, hb, set_here e2, ?_⟩
            rw [Array.toList_modify]
            exact h4
      · cases hq
  · cases hq
end
end Go.Proofs.YtgjbnebmcmoilaaGreatDoor.Ax

namespace Go.Proofs.YtgjbnebmcmoilaaGreatDoor.Ax
open Go.RowKit

section
variable {P : Program} {G : Gv} {E : Ev} {w : World} {a : Act} {T : Tm} {σ : St} {lo : Nat}

theorem elemOf_spec (hG : TypesOk P G) {ts : Array TypeId} {e : TypeId} {te : TI} (h : elemOf G ts.toList = some (e, te)) : ∃ t, ts.toList[0]? = some t ∧ P.underlying t = some (.slice e) ∧ TyOk P e te := by
  unfold elemOf at h
  simp only [Option.bind_eq_some_iff] at h
  obtain ⟨t, h1, ti, h2, h3⟩ := h
  split at h3
  · rename_i e' hk
    simp only [Option.bind_eq_some_iff, Option.some.injEq, Prod.mk.injEq] at h3
    obtain ⟨te', h4, rfl, rfl⟩ := h3
    exact ⟨t, h1, hk ▸ (hG _ _ h2).und, hG _ _ h4⟩
  · cases h3
theorem bringOk_spec (hG : TypesOk P G) {ts : Array TypeId} {x : Value} (h : bringOk G ts.toList x = true) : ∃ u k, ts.toList[1]? = some u ∧ P.underlying u = some k ∧ SliceStr k := by
  unfold bringOk at h
  split at h
  · rename_i ti hti
    simp only [Option.bind_eq_some_iff] at hti
    obtain ⟨u, h1, h2⟩ := hti
    have hu := (hG _ _ h2).und
    split at h
    · rename_i e _ _ _ hk
      exact ⟨u, _, h1, hu, .inr ⟨e, hk⟩⟩
    · rename_i e hk
      exact ⟨u, _, h1, hu, .inr ⟨e, hk⟩⟩
    · rename_i hk
      exact ⟨u, _, h1, hu, .inl hk⟩
    · cases h
  · cases h

theorem takeN_take {n : Nat} {l r : List Value} (h : takeN n l = some r) : r = l.take n := (takeN_spec h).1
theorem min_eq' (a b : Nat) : Nat.min a b = min a b := rfl
/-- the builtins that write -/
theorem lbuiltin_sound (hG : TypesOk P G) (hI : Inv E σ G.ng w) (hlo : lo ≤ σ.nx) {b : Builtin} {ts : Array TypeId} {ty : TypeId} {cs : Array Bool} {args args' : List Value} {r : R1} (ha : VRs E args args') (hq : lbuiltin G lo σ b ts.toList args = some r) :
    R1Ok P G E lo σ w r ((builtin b ts ty cs ⟨args'⟩).run P w) := by
  unfold lbuiltin at hq
  split at hq
  · -- append
    rename_i s x
    simp only [Option.bind_eq_some_iff] at hq
    obtain ⟨⟨e, te⟩, h1, h2⟩ := hq
    split at h2
    · rename_i hbr
      simp only [Option.bind_eq_some_iff, Option.some.injEq] at h2
      obtain ⟨⟨n, new⟩, h3, ⟨v, σ'⟩, h4, rfl⟩ := h2
      obtain ⟨t, t1, t2, t3⟩ := elemOf_spec hG h1
      obtain ⟨u, k, u1, u2, u3⟩ := bringOk_spec hG hbr
      cases ha with
      | cons _ s' _ _ hs hrest =>
        cases hrest with
        | cons _ x' _ _ hx hnil =>
          cases hnil
          obtain ⟨b1, b2, new', b3, b4⟩ := brings_sound (P := P) hI hx h3
          have := appendS_sound (ty := ty) hI hlo t1 t2 t3 u1 u2 u3 hs b1 b2 b3 b4 h4
          exact this.r1
    · simp only [Option.bind_eq_some_iff] at h2
      obtain ⟨n, h3, h4⟩ := h2
      split at h4
      · rename_i hb hc
        simp only [Option.bind_eq_some_iff, Option.some.injEq] at h4
        obtain ⟨⟨v, σ'⟩, h5, rfl⟩ := h4
        have hb : n * te.bytes ≤ 140737488355328 := by simpa using hb
        obtain ⟨t, t1, t2, t3⟩ := elemOf_spec hG h1
        unfold zerosOk at h3
        split at h3
        · rename_i tx htx
          simp only [Option.bind_eq_some_iff] at htx
          obtain ⟨u, u1, u2⟩ := htx
          have hu := (hG _ _ u2).und
          split at h3
          · rename_i kk m hk _
            split at h3
            · rename_i hn
              injection h3 with h3; subst h3
              have hn : m ≤ 140737488355328 := by simpa using hn
              cases ha with
              | cons _ s' _ _ hs hrest =>
                cases hrest with
                | cons _ x' _ _ hx hnil =>
                  cases hnil
                  cases hx
                  have hz : ∀ z : Value, z.cells.toList = te.zero → (Builtin.zeroCells z.cells m).toList = rep m te.zero := fun z hz => by
                    have hzs : z.cells.size = te.size := by rw [← Array.length_toList, hz]; exact t3.zlen
                    have := rep_array m te.size z.cells hzs
                    unfold Builtin.zeroCells
                    rw [hzs] at this ⊢
                    rw [this, hz]
                  have hz0 : m * te.size = 0 → rep m te.zero = [] := fun h0 => List.eq_nil_of_length_eq_zero (by rw [rep_length, t3.zlen, h0])
                  have := appendS_gen (e := e) (ty := ty) (ts := ts) (x' := .int .i64 (Int.ofNat m)) hI hlo hs (new' := rep m te.zero) (by rw [rep_length, t3.zlen]) (closedL_VRs (rep_closed t3.zcl))
                    (fun base len cap hr => app_in0 t1 t2 t3 u1 (hk ▸ hu) hn hb hz hz0 hr)
                    (fun base len cap old' ho hr hfit => app_out0 t1 t2 t3 u1 (hk ▸ hu) hn hb hz hz0 ho hr hfit) h5
                  exact this.r1
            · cases h3
          · cases h3
        · cases h3
      · cases h4
  · -- copy
    rename_i base dl dc x
    simp only [Option.bind_eq_some_iff] at hq
    obtain ⟨⟨e, te⟩, h1, h2⟩ := hq
    split at h2
    · rename_i hbr
      simp only [Option.bind_eq_some_iff] at h2
      obtain ⟨⟨n, new⟩, h3, h4⟩ := h2
      obtain ⟨t, t1, t2, t3⟩ := elemOf_spec hG h1
      cases ha with
      | cons _ s' _ _ hs hrest =>
        cases hrest with
        | cons _ x' _ _ hx hnil =>
          cases hnil
          obtain ⟨b1, b2, new', b3, b4⟩ := brings_sound (P := P) hI hx h3
          have hnew : new'.length = n * te.size := by rw [b3.length, b2]
          have hrun : ∀ ad c', (Builtin.copy_ ts ty #[.slice ad dl c', x']).run P w = ((match ad with | some q => storeCells q (new'.take (min n dl * te.size)) | none => pure ()).run P w).andThen fun _ w' => .ok (goI (min n dl)) w' := fun ad c' => by
            unfold Builtin.copy_
            rw [arr0 t1]
            simp only [List.getElem?_toArray, List.getElem?_cons_zero, List.getElem?_cons_succ, Sem.run_bind, run_underlying t2, Result.andThen_ok, b1, t3.sizeOf, min_eq', b4 (min n dl) (Nat.min_le_left _ _) w rfl]
            cases ad with
            | none => rfl
            | some q => simp only [Sem.run_bind, Sem.run_pure]; rfl
          have hfin : ∀ ad c' v' w' E' σ', VR E' (goI (min n dl)) v' → v' = goI (min n dl) → (match ad with | some q => storeCells q (new'.take (min n dl * te.size)) | none => pure () : Sem Unit).run P w = .ok () w' → Inv E' σ' G.ng w' ∧ Stp E lo σ.nx w E' w' ∧ AStp lo σ σ' →
              R1Ok P G E lo σ w (.val (goI (min n dl)) σ') ((builtin .copy ts ty cs ⟨[.slice ad dl c', x']⟩).run P w) := fun ad c' v' w' E' σ' hv he hst hrest => by
            refine V1Ok.r1 ⟨v', w', E', ?_, hv, hrest⟩
            rw [show (⟨[.slice ad dl c', x']⟩ : Array Value) = #[.slice ad dl c', x'] from rfl, hrun ad c', hst, he]
            rfl
          have h0m : min n dl = 0 → new'.take (min n dl * te.size) = [] := fun h0 => by rw [h0]; simp
          simp only [min_eq'] at h4
          split at h4
          · rename_i hm
            injection h4 with h4; subst h4
            have := hfin none dc _ w E σ (.int _ _) rfl rfl ⟨hI, .refl _ _ _ _, .refl _ _⟩
            rw [hm] at this
            cases hs
            exact this
          · cases h4
          · rename_i q hm
            injection h4 with h4; subst h4
            have key : ∀ q' c', R1Ok P G E lo σ w (.val (goI 0) σ) ((builtin .copy ts ty cs ⟨[.slice (some q') dl c', x']⟩).run P w) := fun q' c' => by
              have := hfin (some q') c' _ w E σ (.int _ _) rfl (by simp only [h0m hm]; rfl) ⟨hI, .refl _ _ _ _, .refl _ _⟩
              rwa [hm] at this
            cases hs with
            | sl _ b nb _ _ _ hb => exact key _ _
            | sli _ b nb es _ _ _ c' hb _ _ => exact key _ _
          · rename_i i off sp hm
            simp only [Option.bind_eq_some_iff, Option.some.injEq] at h4
            obtain ⟨c1, h5, σ1, h6, rfl⟩ := h4
            have h5 := takeN_take h5
            subst h5
            have key : ∀ b nb c', E.blk i = some (b, nb) → R1Ok P G E lo σ w (.val (goI (min n dl)) σ1) ((builtin .copy ts ty cs ⟨[.slice (some ⟨b, off, none⟩) dl c', x']⟩).run P w) := fun b nb c' hb => by
              obtain ⟨w', k1, k2⟩ := wr_sound (P := P) hI hb (b3.take _) h6
              exact hfin (some ⟨b, off, none⟩) c' _ w' E σ1 (.int _ _) rfl k1 k2
            cases hs with
            | sl _ b nb _ _ _ hb => exact key b nb _ hb
            | sli _ b nb es _ _ _ c' hb _ _ => exact key b nb c' hb
    · cases h2
  · -- delete
    rename_i rr k
    simp only [Option.bind_eq_some_iff] at hq
    obtain ⟨t, h1, ti, h2, h3⟩ := hq
    have hty := hG _ _ h2
    split at h3
    · rename_i kt e hkk
      simp only [Option.bind_eq_some_iff] at h3
      obtain ⟨tk, h4, h5⟩ := h3
      have htk := hG _ _ h4
      split at h5
      · rename_i hko hil
        have hil := bltF hil
        split at h5
        · rename_i es c hr
          simp only [Option.bind_eq_some_iff] at h5
          obtain ⟨f, h6, h7⟩ := h5
          obtain ⟨b, n, es', e1, e2, e3⟩ := hI.heap rr _ hr
          cases ha with
          | cons _ s' _ _ hs hrest =>
            cases hrest with
            | cons _ k' _ _ hk hnil =>
              cases hnil
              cases hs with
              | mp _ b' n' hb =>
                rw [hb] at e1
                injection e1 with e1; injection e1 with e1 _
                subst e1
                obtain ⟨r', g1, g2⟩ := findE_sound hko hk e3 h6
                have hpre : (Builtin.delete_ ts ty #[.map (some b'), k']).run P w = ((match r' with
                    | some (i, _) => setObj b' (.map (es'.eraseIdxIfInBounds i) c)
                    | none => setObj b' (.map es' c) : Sem Unit).run P w).andThen fun _ w' => .ok (.tuple #[]) w' := by
                  unfold Builtin.delete_
                  rw [arr0 h1]
                  simp only [List.getElem?_toArray, List.getElem?_cons_zero, List.getElem?_cons_succ, Sem.run_bind, run_underlying (hkk ▸ hty.und), Result.andThen_ok, MapKept.run_getObj_map e2, checkKey_run htk.und hko hk, findKey_run htk.und g1]
                  rcases r' with _ | ⟨_, _⟩ <;> simp only [Sem.run_bind, Sem.run_pure]
                cases f with
                | none =>
                  injection h7 with h7; subst h7
                  subst g2
                  refine V1Ok.r1 ⟨.tuple #[], { w with heap := w.heap.setIfInBounds b' (.map es' c) }, E, ?_, .tup _ _ .nil, hI.drew (set_self e2), ⟨.refl E, fun _ _ _ h => .inl h, by simp, rfl, rfl, rfl, fun x _ _ => by rw [set_self e2]⟩, .refl _ _⟩
                  rw [show (⟨[.map (some b'), k']⟩ : Array Value) = #[.map (some b'), k'] from rfl, hpre]
                  simp only [MapKept.run_setObj_map _ e2, Result.andThen_ok]
                | some p =>
                  injection h7 with h7; subst h7
                  obtain ⟨v', rfl, hv'⟩ := g2
                  refine V1Ok.r1 ⟨.tuple #[], { w with heap := w.heap.setIfInBounds b' (.map (es'.eraseIdxIfInBounds p.1) c) }, E, ?_, .tup _ _ .nil, setObj_sound hI hr rfl hil hb e2 ?_⟩
                  · rw [show (⟨[.map (some b'), k']⟩ : Array Value) = #[.map (some b'), k'] from rfl, hpre]
                    simp only [MapKept.run_setObj_map _ e2, Result.andThen_ok]
                  · refine ⟨b', n', es'.eraseIdxIfInBounds p.1, hb, set_here e2, ?_⟩
                    rw [Array.toList_eraseIdxIfInBounds]
                    exact delE_sound p.1 e3
        · cases h5
      · cases h5
    · cases h3
  · -- clear
    rename_i ad n c
    simp only [Option.bind_eq_some_iff] at hq
    obtain ⟨⟨e, te⟩, h1, h2⟩ := hq
    obtain ⟨t, t1, t2, t3⟩ := elemOf_spec hG h1
    obtain ⟨z, hz, hzc⟩ := t3.zeroCells (w := w)
    have hzs : z.cells.size = te.size := by rw [hzc]; exact t3.zlen
    cases ha with
    | cons _ s' _ _ hs hnil =>
      cases hnil
      split at h2
      · injection h2 with h2; subst h2
        cases hs
        refine V1Ok.r1 (V1Ok.same hI (v' := .tuple #[]) ?_ (.tup _ _ .nil))
        unfold Builtin.clear_
        rw [arr0 t1]
        simp only [List.getElem?_toArray, List.getElem?_cons_zero, Sem.run_bind, run_underlying t2, Result.andThen_ok]
        rfl
      · injection h2 with h2; subst h2
        refine V1Ok.r1 (V1Ok.same hI (v' := .tuple #[]) ?_ (.tup _ _ .nil))
        unfold Builtin.clear_
        rw [arr0 t1]
        simp only [List.getElem?_toArray, List.getElem?_cons_zero, Sem.run_bind, run_underlying t2, Result.andThen_ok]
        cases hs <;> rfl
      · rename_i i off sp hne
        simp only [Option.bind_eq_some_iff, Option.some.injEq] at h2
        obtain ⟨σ1, h6, rfl⟩ := h2
        have key : ∀ b nb c', E.blk i = some (b, nb) → R1Ok P G E lo σ w (.val (.tuple ⟨[]⟩) σ1) ((builtin .clear ts ty cs ⟨[.slice (some ⟨b, off, none⟩) n c']⟩).run P w) := fun b nb c' hb => by
          obtain ⟨w', k1, k2⟩ := wr_sound (P := P) hI hb (closedL_VRs (rep_closed t3.zcl)) h6
          refine V1Ok.r1 ⟨.tuple #[], w', E, ?_, .tup _ _ .nil, k2⟩
          have hzl : (Builtin.zeroCells z.cells n).toList = rep n te.zero := by
            unfold Builtin.zeroCells
            have := rep_array n te.size z.cells hzs
            rw [hzs] at this ⊢
            rw [this, hzc]
          unfold Builtin.clear_
          rw [arr0 t1]
          cases n with
          | zero => exact absurd rfl hne
          | succ n => simp only [List.getElem?_toArray, List.getElem?_cons_zero, Sem.run_bind, run_underlying t2, Result.andThen_ok, hz, hzl, k1, Sem.run_pure]
        cases hs with
        | sl _ b nb _ _ _ hb => exact key b nb _ hb
        | sli _ b nb es _ _ _ c' hb _ _ => exact key b nb c' hb
  · cases hq
end
end Go.Proofs.YtgjbnebmcmoilaaGreatDoor.Ax

namespace Go.Proofs.YtgjbnebmcmoilaaGreatDoor.Ax
open Go.RowKit

section
variable {P : Program} {G : Gv} {E : Ev} {w : World} {a : Act} {T : Tm} {σ : St} {lo : Nat}

theorem newIter_sound (hI : Inv E σ G.ng w) (hlo : lo ≤ σ.nx) {o : AO} {x : Obj} (ho : ∀ E' w', E.Le E' → E'.blk σ.nx = some (w.heap.size, 0) → w'.heap[w.heap.size]? = some x → OR E' w' σ.nx o) :
    V1Ok G E lo σ w (pt σ.nx 0) (put σ o) ((do pure (Value.pointer (some ⟨← newObj x, 0, none⟩)) : Sem Value).run P w) := by
  have hle := Ev.ext_le (b := w.heap.size) (n := 0) (hI.fresh σ.nx (Nat.le_refl _))
  have h := hI.alloc (lo := lo) (n := 0) (o := o) (x := x) (w' := w.alloc x) hlo rfl rfl rfl rfl (ho _ _ hle (Ev.ext_here _ _ _ _) (heap_alloc_new w x))
  refine ⟨_, _, _, ?_, .ptr _ _ _ _ (Ev.ext_here _ _ _ _), h⟩
  simp only [Sem.run_bind, run_newObj_alloc, Result.andThen_ok, Sem.run_pure]

theorem born_all : ∀ {es : List ME} {es' : List MapEntry} {n : Nat}, MEs E es es' → bornB n es = true → ∀ e ∈ es', e.born < n
  | [], _, n, h, _ => by cases h; intro e he; cases he
  | x :: es, _, n, h, hb => by
    cases h with
    | cons k v k' v' b _ es' hk hv hs =>
      simp only [bornB, Bool.and_eq_true] at hb
      intro e he
      cases he with
      | head => simpa using hb.1
      | tail _ he => exact born_all hs hb.2 e he
theorem left_sound {seen : List Nat} : ∀ {es : List ME} {es' : List MapEntry}, MEs E es es' → MEs E (leftE seen es) (es'.filter fun e => !(⟨seen⟩ : Array Nat).contains e.born)
  | [], _, h => by cases h; exact .nil
  | x :: es, _, h => by
    cases h with
    | cons k v k' v' b _ es' hk hv hs =>
      rw [leftE, List.filter_cons]
      have : (⟨seen⟩ : Array Nat).contains b = seen.contains b := by simp
      cases hc : seen.contains b with
      | true => simp only [this, hc]; exact left_sound hs
      | false => simp only [this, hc]; exact .cons _ _ _ _ _ _ _ hk hv (left_sound hs)
theorem lnext_sound (hI : Inv E σ G.ng w) {i b n : Nat} {isS : Bool} {ty : TypeId} {r : R1} (hb : E.blk i = some (b, n)) (hq : lnext lo σ i isS = some r) :
    ∃ v σ', r = .val v σ' ∧ V1Ok G E lo σ w v σ' ((Instr.next (.pointer (some ⟨b, 0, none⟩)) isS ty).run P w) := by
  unfold lnext at hq
  split at hq
  · cases hq
  · rename_i hil
    have hil := bltF hil
    split at hq
    · rename_i s pos hi
      obtain ⟨b', n', e1, e2⟩ := hI.heap i _ hi
      rw [hb] at e1
      injection e1 with e1; injection e1 with e1 e1'
      subst e1; subst e1'
      have hget : (getObj b).run P w = .ok (.stringIter ⟨⟨s⟩⟩ pos) w := by simp [getObj, Sem.run, e2]
      have hset : ∀ o, (setObj b o).run P w = .ok () { w with heap := w.heap.setIfInBounds b o } := fun o => by simp [setObj, Sem.run, e2]
      split at hq
      · rename_i hs
        injection hq with hq; subst hq
        refine ⟨_, _, rfl, V1Ok.same hI (v' := .tuple #[.bool false]) ?_ (.tup _ _ (.cons _ _ _ _ (.bool false) .nil))⟩
        have : ¬ pos < (⟨⟨s⟩⟩ : ByteArray).size := fun h => by
          have h' : pos < s.length := h
          rw [List.getElem?_eq_getElem h'] at hs
          cases hs
        unfold Instr.next
        simp only [Sem.run_bind, hget, Result.andThen_ok]
        rw [if_neg this]
        rfl
      · rename_i u hs
        split at hq
        · rename_i hu
          have hu : u.toNat < 128 := by simpa using hu
          injection hq with hq; subst hq
          have hlt : pos < s.length := (List.getElem?_eq_some_iff.1 hs).1
          have hlt' : pos < (⟨⟨s⟩⟩ : ByteArray).size := hlt
          have hval : (⟨⟨s⟩⟩ : ByteArray)[pos]'hlt' = u := by
            have := bytes_get s pos
            rw [hs, getElem?_pos (ByteArray.mk ⟨s⟩) pos hlt'] at this
            injection this
          have hdec : Utf8.decode ⟨⟨s⟩⟩ pos = (u.toNat, 1) := by
            have := decode_ascii ⟨⟨s⟩⟩ pos hlt' (by rw [hval]; exact hu)
            rw [hval] at this
            exact this
          refine ⟨_, _, rfl, .tuple #[.bool true, goInt pos, .int .i32 (u.toNat : Int)], { w with heap := w.heap.setIfInBounds b (.stringIter ⟨⟨s⟩⟩ (pos + 1)) }, E, ?_,
            .tup _ _ (.cons _ _ _ _ (.bool true) (.cons _ _ _ _ (.int _ _) (.cons _ _ _ _ (.int _ _) .nil))), setObj_sound hI hi rfl hil hb e2 ⟨b, n, hb, set_here e2⟩⟩
          unfold Instr.next
          simp only [Sem.run_bind, hget, Result.andThen_ok]
          rw [if_pos hlt']
          simp only [hdec, Sem.run_bind, hset, Result.andThen_ok, Sem.run_pure]
        · cases hq
    · rename_i since seen stepped hi
      injection hq with hq; subst hq
      obtain ⟨b', n', m', e1, e2, e3⟩ := hI.heap i _ hi
      simp only at e3
      subst e3
      rw [hb] at e1
      injection e1 with e1; injection e1 with e1 e1'
      subst e1; subst e1'
      have hget : (getObj b).run P w = .ok (.mapIter none since ⟨seen⟩ stepped) w := by simp [getObj, Sem.run, e2]
      refine ⟨_, _, rfl, V1Ok.same hI (v' := .tuple #[.bool false]) ?_ (.tup _ _ (.cons _ _ _ _ (.bool false) .nil))⟩
      unfold Instr.next
      simp only [Sem.run_bind, hget, Result.andThen_ok]
      rfl
    · rename_i m since seen stepped hi
      split at hq
      · rename_i es clock hm
        split at hq
        · rename_i hcl hst
          have hcl := Nat.eq_of_beq_eq_true hcl
          simp only [Bool.and_eq_true] at hst
          have hst1 := Nat.eq_of_beq_eq_true hst.1
          subst hcl
          subst hst1
          obtain ⟨b', n', m', e1, e2, rb, rn, e3, e4⟩ := hI.heap i _ hi
          subst e4
          rw [hb] at e1
          injection e1 with e1; injection e1 with e1 e1'
          subst e1; subst e1'
          obtain ⟨bm, nm, es', f1, f2, f3⟩ := hI.heap m _ hm
          rw [e3] at f1
          injection f1 with f1; injection f1 with f1 f1'
          subst f1; subst f1'
          have hget : (getObj b).run P w = .ok (.mapIter (some rb) stepped ⟨seen⟩ stepped) w := by simp [getObj, Sem.run, e2]
          have hset : ∀ o, (setObj b o).run P w = .ok () { w with heap := w.heap.setIfInBounds b o } := fun o => by simp [setObj, Sem.run, e2]
          have hborn := born_all f3 hst.2
          have hany : (!(⟨seen⟩ : Array Nat).isEmpty && !es'.isEmpty && es'.all (·.born ≥ stepped)) = false := by
            cases he : es'.isEmpty with
            | true => simp
            | false =>
              have : es'.all (·.born ≥ stepped) = false := by
                rw [Bool.eq_false_iff]
                intro hall
                rw [Array.all_eq_true] at hall
                have h0 : 0 < es'.size := by
                  rcases Nat.eq_zero_or_pos es'.size with h | h
                  · simp [Array.isEmpty, h] at he
                  · exact h
                have h1 := hall 0 h0
                have h2 := hborn es'[0] (by simp)
                simp at h1
                omega
              simp [this]
          have hleft := left_sound (seen := seen) f3
          have hfil : ∀ (l : List MapEntry), (∀ e ∈ l, e.born < stepped) → l.filter (fun e => decide (e.born < stepped)) = l ∧ l.filter (fun e => decide (e.born ≥ stepped)) = [] := fun l hl =>
            ⟨List.filter_eq_self.2 fun e he => by simpa using hl e he, List.filter_eq_nil_iff.2 fun e he => by have := hl e he; simp; omega⟩
          have hmem : ∀ e ∈ es'.toList.filter (fun e => !(⟨seen⟩ : Array Nat).contains e.born), e.born < stepped := fun e he => hborn e ((List.mem_filter.1 he).1)
          obtain ⟨q1, q2⟩ := hfil _ hmem
          have hrun : ∀ L : List MapEntry, es'.toList.filter (fun e => !(⟨seen⟩ : Array Nat).contains e.born) = L → (Instr.next (.pointer (some ⟨b, 0, none⟩)) false ty).run P w = (do
              let candidates := (if L.isEmpty then #[none] else #[]) ++ (L.map some).toArray
              match candidates[← choose (.mapNext candidates.size)]? with
              | some (some e) =>
                setObj b (.mapIter (some rb) stepped ((⟨seen⟩ : Array Nat).push e.born) stepped)
                pure (.tuple #[.bool true, e.key, e.val])
              | some none => pure (.tuple #[.bool false])
              | none => stuck "Next: no such candidate" : Sem Value).run P w := fun L hL => by
            rw [hL] at q1 q2
            have ea : es'.filter (fun e => !(⟨seen⟩ : Array Nat).contains e.born) = ⟨L⟩ := by
              apply Array.ext'
              rw [Array.toList_filter, hL]
            have eb : (⟨L⟩ : Array MapEntry).filter (fun e => decide (e.born < stepped)) = ⟨L⟩ := by
              apply Array.ext'
              rw [Array.toList_filter]; exact q1
            have ec : (⟨L⟩ : Array MapEntry).filter (fun e => decide (e.born ≥ stepped)) = #[] := by
              apply Array.ext'
              rw [Array.toList_filter]; exact q2
            unfold Instr.next
            simp only [Sem.run_bind, hget, Result.andThen_ok, MapKept.run_getObj_map f2, hany, Bool.false_eq_true, if_false, ea, eb, ec]
            have e1 : (⟨L⟩ : Array MapEntry).isEmpty = L.isEmpty := by simp
            have e2 : ((⟨L⟩ : Array MapEntry) ++ #[]).map some = (L.map some).toArray := by apply Array.ext'; simp
            rw [e1, e2]
            rfl
          split at hq
          · rename_i hl0
            injection hq with hq; subst hq
            rw [hl0] at hleft
            generalize hL : es'.toList.filter (fun e => !(⟨seen⟩ : Array Nat).contains e.born) = L at hleft
            cases hleft
            refine ⟨_, _, rfl, V1Ok.same hI (v' := .tuple #[.bool false]) ?_ (.tup _ _ (.cons _ _ _ _ (.bool false) .nil))⟩
            rw [hrun [] hL]
            rfl
          · rename_i e hl1
            injection hq with hq; subst hq
            rw [hl1] at hleft
            generalize hL : es'.toList.filter (fun e => !(⟨seen⟩ : Array Nat).contains e.born) = L at hleft
            cases hleft with
            | cons k v k' v' bn _ l' hk hv hs =>
              cases hs
              refine ⟨_, _, rfl, .tuple #[.bool true, k', v'], { w with heap := w.heap.setIfInBounds b (.mapIter (some rb) stepped ((⟨seen⟩ : Array Nat).push bn) stepped) }, E, ?_,
                .tup _ _ (.cons _ _ _ _ (.bool true) (.cons _ _ _ _ hk (.cons _ _ _ _ hv .nil))), setObj_sound hI hi rfl hil hb e2 ⟨b, n, some rb, hb, ?_, rb, rn, e3, rfl⟩⟩
              · rw [hrun _ hL]
                simp [choose, Question.forced, Sem.run, hset]
              · rw [set_here e2]
                simp
          · cases hq
        · cases hq
      · cases hq
    · cases hq

/-! ## calls -/
theorem callFunc_run {f : FuncId} {fn : Func} {c : Code} {args : Array Value} (hf : P.funcs[f]? = some fn) (hn : fn.name ≠ "runtime.NumGoroutine") (hb : fn.body = some c) : (callFunc f args).run P w = .ok (.enter f args) w := by
  unfold callFunc
  rw [Sem.run_bind, run_program]
  simp only [Result.andThen_ok, hf]
  have : (fn.name == "runtime.NumGoroutine") = false := by simpa using hn
  rw [this, hb]
  rfl
theorem lcall_sound (hF : FunsOk P G) (hI : Inv E σ G.ng w) (hlo : lo ≤ σ.nx) {f : FuncId} {args args' : List Value} {r : R1} (ha : VRs E args args') (hq : lcall G lo σ f args = some r) : R1Ok P G E lo σ w r ((callFunc f ⟨args'⟩).run P w) := by
  unfold lcall at hq
  simp only [Option.bind_eq_some_iff] at hq
  obtain ⟨fn, h1, h2⟩ := hq
  obtain ⟨hf, hn⟩ := hF.funcs f fn h1
  split at h2
  · rename_i c hc
    split at h2
    · rename_i x hx
      simp only [Option.bind_eq_some_iff, Option.some.injEq] at h2
      obtain ⟨v, h3, rfl⟩ := h2
      exact ⟨args', callFunc_run hf hn hc, ha, hF.libs f x hx E w σ.h args args' v hI.heap hI.glob h3 ha⟩
    · split at h2
      · rename_i s hs
        simp only [Option.bind_eq_some_iff, Option.some.injEq] at h2
        obtain ⟨⟨v, σ'⟩, h3, rfl⟩ := h2
        exact ⟨args', callFunc_run hf hn hc, ha, hF.sums f s hs E w lo σ args args' v σ' hI hlo h3 ha⟩
      · split at h2
        · rename_i l hl
          split at h2
          · rename_i q h3
            obtain ⟨v, σ'⟩ := q
            injection h2 with h2; subst h2
            exact ⟨args', callFunc_run hf hn hc, ha, hF.memos f l hl E w lo σ args args' v σ' hI hlo h3 ha⟩
          · injection h2 with h2; subst h2
            exact ⟨args', callFunc_run hf hn hc, ha, hf, hc⟩
        · injection h2 with h2; subst h2
          exact ⟨args', callFunc_run hf hn hc, ha, hf, hc⟩
  · rename_i hc
    simp only [Option.bind_eq_some_iff, Option.some.injEq] at h2
    obtain ⟨x, h3, v, h4, rfl⟩ := h2
    obtain ⟨v', h5, h6⟩ := hF.exts f fn x h1 hc h3 E w σ.h args args' v hI.heap hI.glob h4 ha
    exact ⟨v', w, E, h6, h5, hI, .refl _ _ _ _, .refl _ _⟩

/-! ## all of them -/
theorem lop_sound (hG : TypesOk P G) (hF : FunsOk P G) (hI : Inv E σ G.ng w) (hT : TR E T a.tmps) (hlo : lo ≤ σ.nx) {o : Oper} {r : R1} (hq : lop G T lo σ o.op = some r) : R1Ok P G E lo σ w r ((execOp a.eval o).run P w) := by
  have hg := hI.glob
  unfold lop at hq
  unfold execOp
  split at hq
  · rename_i e ho
    rw [ho]
    simp only [Option.bind_eq_some_iff, Option.some.injEq] at hq
    obtain ⟨ti, h1, rfl⟩ := hq
    exact (lalloc_sound hG hI hlo h1).r1
  · rename_i e x ho
    rw [ho]
    simp only [Option.bind_eq_some_iff] at hq
    obtain ⟨v, h1, h2⟩ := hq
    split at h2
    · injection h2 with h2; subst h2
      exact (lbox_sound hI hlo (ev_sound hg hT h1)).r1
    · cases h2
  · rename_i t n ps ho
    rw [ho]
    simp only [Option.bind_eq_some_iff] at hq
    obtain ⟨ti, h1, vs, h2, h3⟩ := hq
    split at h3
    · rename_i e hk
      simp only [Option.bind_eq_some_iff] at h3
      obtain ⟨te, h4, h5⟩ := h3
      split at h5
      · rename_i hn
        have hn : n * te.size ≤ 16777216 := by simpa using hn
        simp only [Option.bind_eq_some_iff] at h5
        obtain ⟨cs, h6, h7⟩ := h5
        split at h7
        · injection h7 with h7; subst h7
          have := (lbuildSlice_sound hG hI hlo h1 hk h4 hn (evP_sound hg hT h2) h6).r1
          have e1 : (⟨List.map (fun p => (p.1, a.eval p.2)) ps.toList⟩ : Array (Nat × Value)) = ps.map fun (i, x) => (i, a.eval x) := by apply Array.ext'; simp
          rw [e1] at this
          exact this
        · cases h7
      · cases h5
    · cases h3
  · rename_i t x y ho
    rw [ho]
    simp only [Option.bind_eq_some_iff] at hq
    obtain ⟨p, h1, v, h2, h3⟩ := hq
    split at h3
    · simp only [Option.bind_eq_some_iff] at h3
      obtain ⟨ti, h4, h5⟩ := h3
      split at h5
      · rename_i hl
        have hl := Nat.eq_of_beq_eq_true hl
        simp only [Option.bind_eq_some_iff, Option.some.injEq] at h5
        obtain ⟨σ', h6, rfl⟩ := h5
        obtain ⟨w', k1, k2⟩ := lstore_sound hG hI h4 (ev_sound hg hT h1) (ev_sound hg hT h2) hl h6
        refine ⟨w', E, ?_, k2⟩
        simp only [Sem.run_bind, k1, Result.andThen_ok, Sem.run_pure]
      · cases h5
    · cases h3
  · rename_i t ho
    rw [ho]
    injection hq with hq; subst hq
    have hle := Ev.ext_le (b := w.heap.size) (n := 0) (hI.fresh σ.nx (Nat.le_refl _))
    have h := hI.alloc (lo := lo) (n := 0) (o := .map [] 0) (x := .map #[] 0) (w' := w.alloc (.map #[] 0)) hlo rfl rfl rfl rfl ⟨w.heap.size, 0, #[], Ev.ext_here _ _ _ _, heap_alloc_new w _, .nil⟩
    exact V1Ok.r1 ⟨_, _, _, rfl, .mp _ _ _ (Ev.ext_here _ _ _ _), h⟩
  · rename_i t l c ho
    rw [ho]
    simp only [Option.bind_eq_some_iff] at hq
    obtain ⟨lv, h1, l', h2, cv, h3, c', h4, ti, h5, h6⟩ := hq
    split at h6
    · rename_i e hk
      simp only [Option.bind_eq_some_iff] at h6
      obtain ⟨te, h7, h8⟩ := h6
      split at h8
      · rename_i b1 b2 b3
        injection h8 with h8; subst h8
        obtain ⟨kl, hl⟩ := intN_spec (ev_sound hg hT h1) h2
        obtain ⟨kc, hc⟩ := intN_spec (ev_sound hg hT h3) h4
        have := (lmakeSlice_sound (P := P) (kl := kl) (kc := kc) hG hI hlo h5 hk h7 (by simpa using b1) (by simpa using b2) (by simpa using b3)).r1
        rw [← hl, ← hc] at this
        exact this
      · cases h8
    · cases h6
  · rename_i src dst x ho
    rw [ho]
    simp only [Option.bind_eq_some_iff] at hq
    obtain ⟨v, h1, ts, h2, td, h3, h4⟩ := hq
    split at h4
    · rename_i e s hk
      simp only [Option.bind_eq_some_iff] at h4
      obtain ⟨te, h5, h6⟩ := h4
      split at h6
      · rename_i hke
        injection h6 with h6; subst h6
        have hx := ev_sound hg hT h1
        generalize hc : a.eval x = x' at hx
        cases hx
        have := (lbytes_sound (P := P) (s := s) hI hlo (hG _ _ h2).und (hk ▸ (hG _ _ h3).und) (hke ▸ (hG _ _ h5).und)).r1
        rw [← hc] at this
        exact this
      · cases h6
    · cases h4
  · rename_i t m k x ho
    rw [ho]
    simp only [Option.bind_eq_some_iff, Option.some.injEq] at hq
    obtain ⟨mv, h1, kv, h2, xv, h3, σ', h4, rfl⟩ := hq
    obtain ⟨w', k1, k2⟩ := lmapUpdate_sound hG hI (ev_sound hg hT h1) (ev_sound hg hT h2) (ev_sound hg hT h3) h4
    refine ⟨w', E, ?_, k2⟩
    simp only [Sem.run_bind, k1, Result.andThen_ok, Sem.run_pure]
  · rename_i t m k x ho
    rw [ho]
    simp only [Option.bind_eq_some_iff, Option.some.injEq] at hq
    obtain ⟨mv, h1, kv, h2, xv, h3, σ', h4, rfl⟩ := hq
    obtain ⟨w', k1, k2⟩ := lmapUpdate_sound hG hI (ev_sound hg hT h1) (ev_sound hg hT h2) (ev_sound hg hT h3) h4
    refine ⟨w', E, ?_, k2⟩
    simp only [Sem.run_bind, k1, Result.andThen_ok, Sem.run_pure]
  · rename_i t m k ho
    rw [ho]
    simp only [Option.bind_eq_some_iff, Option.some.injEq] at hq
    obtain ⟨mv, h1, kv, h2, ⟨v, σ'⟩, h4, rfl⟩ := hq
    exact (lmapEntry_sound hG hI (ev_sound hg hT h1) (ev_sound hg hT h2) h4).r1
  · rename_i t m s x ho
    rw [ho]
    simp only [Option.bind_eq_some_iff, Option.some.injEq] at hq
    obtain ⟨mv, h1, kv, h2, xv, h3, σ', h4, rfl⟩ := hq
    obtain ⟨w', k1, k2⟩ := lentryStore_sound (P := P) (t := t) hI (ev_sound hg hT h1) (ev_sound hg hT h2) (ev_sound hg hT h3) h4
    refine ⟨w', E, ?_, k2⟩
    simp only [Sem.run_bind, k1, Result.andThen_ok, Sem.run_pure]
  · rename_i t x ho
    rw [ho]
    simp only [Option.bind_eq_some_iff] at hq
    obtain ⟨v, h1, ti, h2, h3⟩ := hq
    have hty := hG _ _ h2
    have hx := ev_sound hg hT h1
    generalize hc : a.eval x = x' at hx
    split at h3
    · rename_i s hk
      injection h3 with h3; subst h3
      cases hx
      suffices hh : V1Ok G E lo σ w (pt σ.nx 0) (put σ (.iterS s 0)) ((Instr.range t (.string ⟨⟨s⟩⟩)).run P w) by
        have := hh.r1
        rw [← hc] at this
        exact this
      have := newIter_sound (P := P) (G := G) (o := .iterS s 0) (x := .stringIter ⟨⟨s⟩⟩ 0) hI hlo fun E' w' _ hb hx => ⟨_, _, hb, hx⟩
      obtain ⟨v', w', E', k1, k2⟩ := this
      refine ⟨v', w', E', ?_, k2⟩
      unfold Instr.range
      simp only [Sem.run_bind, run_underlying (hk ▸ hty.und), Result.andThen_ok, Sem.run_pure] at k1 ⊢
      exact k1
    · rename_i kt et hk
      injection h3 with h3; subst h3
      cases hx
      suffices hh : V1Ok G E lo σ w (pt σ.nx 0) (put σ (.iterM none 0 [] 0)) ((Instr.range t (.map none)).run P w) by
        have := hh.r1
        rw [← hc] at this
        exact this
      have := newIter_sound (P := P) (G := G) (o := .iterM none 0 [] 0) (x := .mapIter none 0 #[] 0) hI hlo fun E' w' _ hb hx => ⟨_, _, none, hb, hx, rfl⟩
      obtain ⟨v', w', E', k1, k2⟩ := this
      refine ⟨v', w', E', ?_, k2⟩
      unfold Instr.range
      simp only [Sem.run_bind, run_underlying (hk ▸ hty.und), Result.andThen_ok, Sem.run_pure] at k1 ⊢
      exact k1
    · rename_i kt et m hk
      split at h3
      · rename_i es c hm
        injection h3 with h3; subst h3
        obtain ⟨bm, nm, es', f1, f2, f3⟩ := hI.heap m _ hm
        cases hx with
        | mp _ b' n' hb =>
          rw [f1] at hb
          injection hb with hb; injection hb with hb _
          subst hb
          suffices hh : V1Ok G E lo σ w (pt σ.nx 0) (put σ (.iterM (some m) c [] c)) ((Instr.range t (.map (some bm))).run P w) by
            have := hh.r1
            rw [← hc] at this
            exact this
          have := newIter_sound (P := P) (G := G) (o := .iterM (some m) c [] c) (x := .mapIter (some bm) c #[] c) hI hlo fun E' w' hE hb hx => ⟨_, _, some bm, hb, hx, bm, nm, hE.blk _ _ f1, rfl⟩
          obtain ⟨v', w', E', k1, k2⟩ := this
          refine ⟨v', w', E', ?_, k2⟩
          unfold Instr.range
          simp only [Sem.run_bind, run_underlying (hk ▸ hty.und), Result.andThen_ok, Sem.run_pure, MapKept.run_getObj_map f2] at k1 ⊢
          exact k1
      · cases h3
    · cases h3
  · rename_i it b ho
    rw [ho]
    simp only [Option.bind_eq_some_iff] at hq
    obtain ⟨v, h1, h2⟩ := hq
    have hx := ev_sound hg hT h1
    generalize hc : a.eval it = x' at hx
    split at h2
    · cases hx with
      | ptr _ bb n _ hb =>
        obtain ⟨v, σ', rfl, h3⟩ := lnext_sound (P := P) (ty := o.type) hI hb h2
        have := h3.r1
        rw [← hc] at this
        exact this
    · cases h2
  · rename_i c ho
    rw [ho]
    simp only [Option.bind_eq_some_iff] at hq
    obtain ⟨args, h1, h2⟩ := hq
    have ha := evs_sound hg hT h1
    have hargs : (⟨List.map a.eval c.args.toList⟩ : Array Value) = c.args.map a.eval := by apply Array.ext'; simp
    split at h2
    · rename_i b hc
      have := lbuiltin_sound (ty := o.type) (cs := c.args.map fun | .const _ => true | _ => false) hG hI hlo ha h2
      simp only [resolve, hc, Sem.run_bind, Sem.run_pure, Result.andThen_ok, invoke]
      rw [← hargs]
      exact this
    · rename_i f hc
      simp only [Option.bind_eq_some_iff] at h2
      obtain ⟨fv, h3, h4⟩ := h2
      have hx := ev_sound hg hT h3
      split at h4
      · rename_i f' cap
        generalize hfv : a.eval f = x' at hx
        cases hx with
        | fn _ _ _ a' b' hfa hfb =>
          cases hfa
          have := lcall_sound (lo := lo) hF hI hlo (ha.append hfb) h4
          simp only [resolve, hc, hfv, Deferred.ofValue, Sem.run_bind, Sem.run_pure, Result.andThen_ok, invoke]
          have e1 : (#[] ++ c.args.map a.eval ++ (⟨b'⟩ : Array Value)) = ⟨List.map a.eval c.args.toList ++ b'⟩ := by apply Array.ext'; simp
          rw [e1]
          exact this
      · cases h4
    · cases h2
  · cases hq
theorem step1_sound (hG : TypesOk P G) (hF : FunsOk P G) (hI : Inv E σ G.ng w) (hT : TR E T a.tmps) (hlo : lo ≤ σ.nx) {o : Oper} {r : R1} (hq : step1 G T lo σ o.op = some r) : R1Ok P G E lo σ w r ((execOp a.eval o).run P w) := by
  unfold step1 at hq
  split at hq
  · split at hq
    · rename_i v hv
      injection hq with hq; subst hq
      obtain ⟨v', h1, h2⟩ := qop_sound hG hI.glob hT hI.heap hv
      exact ⟨v', w, E, h2, h1, hI, .refl _ _ _ _, .refl _ _⟩
    · exact lop_sound hG hF hI hT hlo hq
  · exact lop_sound hG hF hI hT hlo hq
end
end Go.Proofs.YtgjbnebmcmoilaaGreatDoor.Ax
