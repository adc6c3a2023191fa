/- Code, regions whose order is drawn, calls: what the evaluator finds is what the call comes to. -/
import Derived.Test.YtgjbnebmcmoilaaGreatDoorAxf
import Derived.Scope
import Derived.Orders
import Derived.LoopN
import GoSem.ClaimJoined
set_option linter.unusedVariables false
set_option linter.unusedSimpArgs false
namespace Go.Proofs.YtgjbnebmcmoilaaGreatDoor.Ax
open Go.RowKit

section
variable {P : Program} {G : Gv} {E : Ev} {w : World} {a : Act} {T : Tm} {σ : St} {lo : Nat}

theorem TR.mono {E E' : Ev} (hE : E.Le E') {tm : Array Value} (h : TR E T tm) : TR E' T tm := ⟨h.1, fun t v ht => by obtain ⟨v', h1, h2⟩ := h.2 t v ht; exact ⟨v', h1, h2.mono hE⟩⟩
theorem TR.put (h : TR E T a.tmps) {d : Option Tmp} {v v' : Value} {T' : Tm} (hp : putT T d v = some T') (hv : VR E v v') : TR E T' (a.put d v').tmps := by
  unfold putT at hp
  split at hp
  · rename_i t
    split at hp
    · rename_i hlt
      have hlt : t < T.n := by simpa using hlt
      injection hp with hp; subst hp
      refine ⟨by simp [Act.put, h.1], fun s u hs => ?_⟩
      simp only [Tr.get_set] at hs
      by_cases e : s = t
      · subst e
        simp at hs
        subst hs
        exact ⟨v', by simp [Act.put, h.1, hlt], hv⟩
      · simp [e] at hs
        obtain ⟨u', h1, h2⟩ := h.2 s u hs
        exact ⟨u', by simp only [Act.put]; rw [Array.getElem?_setIfInBounds_ne (Ne.symm e)]; exact h1, h2⟩
    · cases hp
  · injection hp with hp; subst hp
    exact h
theorem put_defers (a : Act) (d : Option Tmp) (v : Value) : (a.put d v).defers = a.defers := by cases d <;> rfl
theorem undef_VR : VR E undef undef := .tup _ _ .nil
theorem want_sound {ops : Array Oper} {o : Oper} {b : Bool} (hT : TR E T a.tmps) (h : want ops.toList T o.guard = some b) : Region.wanted o (yielded ops a.tmps) = b := by
  unfold want at h
  unfold Region.wanted
  split at h
  · rename_i hg
    rw [hg]
    injection h
  · rename_i p hg
    rw [hg]
    have hop : ops[p.1]? = ops.toList[p.1]? := by simp
    simp only [yielded, hop]
    split at h
    · rename_i d hd
      simp only [Option.bind_eq_some_iff] at h
      obtain ⟨v, h1, h2⟩ := h
      obtain ⟨v', h3, h4⟩ := hT.2 d v h1
      rw [hd]
      simp only [Option.bind_some, h3]
      split at h2
      · rename_i b0
        cases h4
        simp only [Option.some.injEq] at h2
        rw [← h2]
        simp only
        cases b0 <;> cases p.2 <;> rfl
      · cases h4
        simp only [Option.some.injEq] at h2
        rw [← h2]
        rfl
      · cases h2
    · rename_i hd
      rw [hd]
      simp only [Option.some.injEq] at h
      rw [← h]
      rfl

/-- a deferred call that does nothing where nothing panics -/
def QD (P : Program) (d : Deferred) : Prop := ∃ f, d.target = .fn (.func f) #[] ∧ (∀ w, (invoke d.target d.args).run P w = .ok (.enter f d.args) w) ∧
  ∀ w, CallsD P f d.args .returning w fun e u' w' => (∃ v, e = .returned v) ∧ u' = .returning ∧ w' = w
def DF (P : Program) (df l : List Deferred) : Prop := ∃ ds, l = ds ++ df ∧ ∀ d ∈ ds, QD P d
theorem DF.refl (P : Program) (l : List Deferred) : DF P l l := ⟨[], rfl, fun d h => by cases h⟩
theorem DF.trans {P : Program} {a b c : List Deferred} (h : DF P a b) (k : DF P b c) : DF P a c := by
  obtain ⟨x, rfl, hx⟩ := h
  obtain ⟨y, rfl, hy⟩ := k
  exact ⟨y ++ x, by rw [List.append_assoc], fun d hd => by rcases List.mem_append.1 hd with h | h; exact hy d h; exact hx d h⟩
theorem leaves_quiet {P : Program} {fn : Func} {tmps : Array Value} {R : Ending → World → Prop} {w : World} {v : Value} (hr : (results fn tmps).run P w = .ok v w) (hR : R (.returned v) w) : ∀ l : List Deferred, (∀ d ∈ l, QD P d) → Leaves P fn tmps R l .returning w
  | [], _ => ⟨v, hr, hR⟩
  | d :: l, h => by
    obtain ⟨f, h1, h2, h3⟩ := h d (by simp)
    refine ⟨by simp, .func f, #[], f, d.args, h1, h2 w, (h3 w).mono ?_⟩
    rintro e u' w' ⟨⟨x, rfl⟩, rfl, rfl⟩
    exact leaves_quiet hr hR l fun d' hd => h d' (by simp [hd])
/-- how code may end -/
def XR : Ex → Exit → Prop
  | .normal, .normal => True
  | .exit i, .exit j => i = j
  | .ret, .ret => True
  | _, _ => False
def Post (P : Program) (G : Gv) (df : List Deferred) (E : Ev) (lo : Nat) (σ : St) (w : World) (e : Ex) (T' : Tm) (σ' : St) : Exit → Act → World → Prop := fun x a' w' =>
  XR e x ∧ DF P df a'.defers ∧ ∃ E', TR E' T' a'.tmps ∧ Inv E' σ' G.ng w' ∧ Stp E lo σ.nx w E' w' ∧ AStp lo σ σ'
def Sound (P : Program) (G : Gv) (ih : Code → Tm → Nat → St → Option (Ex × Tm × St)) : Prop := ∀ c T lo σ e T' σ', ih c T lo σ = some (e, T', σ') → ∀ ⦃df : List Deferred⦄ E w a, Inv E σ G.ng w → TR E T a.tmps → DF P df a.defers → lo ≤ σ.nx → c.wp P (Post P G df E lo σ w e T' σ') a w

theorem initT_get : ∀ (l : List Value) (i : Nat) (T : Tr Value) (t : Nat), (initT l i T).get t = if i ≤ t ∧ t < i + l.length then l[t - i]? else T.get t
  | [], i, T, t => by simp [initT]; omega
  | v :: l, i, T, t => by
    rw [initT, initT_get l (i + 1) (T.set i v) t, Tr.get_set]
    by_cases h : t = i
    · subst h
      simp; omega
    · by_cases h2 : i + 1 ≤ t ∧ t < i + 1 + l.length
      · rw [if_pos h2, if_pos (by simp; omega), show t - i = (t - (i + 1)) + 1 by omega, List.getElem?_cons_succ]
      · rw [if_neg h2, if_neg h, if_neg (by simp; omega)]
def resF (tmps : Array Value) : ResultVar → Sem Value
  | .tmp t => pure (tmps.getD t undef)
  | .cell a t => do loadVar t (← asAddr (tmps.getD a undef))
theorem resOf_sound (hG : TypesOk P G) {fn : Func} {h : Tr AO} {vs : List Value} (hh : HR E h w) (hT : TR E T a.tmps) (hr : resOf G T h fn.results.toList = some vs) : ∃ v', VR E (tup vs) v' ∧ (results fn a.tmps).run P w = .ok v' w := by
  have key : ∀ (l : List ResultVar) (vs : List Value), resOf G T h l = some vs → ∃ vs', VRs E vs vs' ∧ (l.mapM (m := Sem) (resF a.tmps)).run P w = .ok vs' w := by
    intro l
    induction l with
    | nil => intro vs hv; simp only [resOf, Option.some.injEq] at hv; subst hv; exact ⟨[], .nil, rfl⟩
    | cons x l ih =>
      intro vs hv
      cases x with
      | tmp t =>
        simp only [resOf, Option.bind_eq_some_iff, Option.some.injEq] at hv
        obtain ⟨v, h1, us, h2, rfl⟩ := hv
        obtain ⟨v', h3, h4⟩ := hT.2 t v h1
        obtain ⟨us', h5, h6⟩ := ih us h2
        refine ⟨v' :: us', .cons _ _ _ _ h4 h5, ?_⟩
        have : a.tmps.getD t undef = v' := by simp [h3]
        simp only [List.mapM_cons, resF, Sem.run_bind, Sem.run_pure, Result.andThen_ok, h6, this]
      | cell p t =>
        simp only [resOf, Option.bind_eq_some_iff, Option.some.injEq] at hv
        obtain ⟨q, h1, v, h2, us, h3, rfl⟩ := hv
        obtain ⟨q', h4, h5⟩ := hT.2 p q h1
        obtain ⟨v', h6, h7⟩ := qload_sound hG hh h5 h2
        obtain ⟨us', h8, h9⟩ := ih us h3
        refine ⟨v' :: us', .cons _ _ _ _ h6 h8, ?_⟩
        have hq : a.tmps.getD p undef = q' := by simp [h4]
        have hld : (do loadVar t (← asAddr q') : Sem Value).run P w = .ok v' w := by
          unfold Instr.loadAt Instr.sureAddr at h7
          unfold qload at h2
          split at h2
          · cases h5
            exact h7
          · cases h2
        simp only [List.mapM_cons, resF, hq]
        rw [Sem.run_bind, hld]
        simp only [Result.andThen_ok, Sem.run_bind, h9, Sem.run_pure]
  obtain ⟨vs', h1, h2⟩ := key _ _ hr
  have hres : results fn a.tmps = (do
      let vs ← fn.results.mapM (resF a.tmps)
      pure (if h : vs.size = 1 then vs[0] else .tuple vs)) := rfl
  rw [hres, Sem.run_bind, Array.mapM_eq_mapM_toList, Sem.run_map, h2]
  simp only [Result.andThen_ok, Sem.run_pure]
  refine ⟨_, ?_, rfl⟩
  cases h1 with
  | nil => exact .tup _ _ .nil
  | cons v v' l l' hv hs =>
    cases hs with
    | nil => exact hv
    | cons u u' m m' hu hm => exact .tup _ _ (.cons _ _ _ _ hv (.cons _ _ _ _ hu hm))
end
end Go.Proofs.YtgjbnebmcmoilaaGreatDoor.Ax

namespace Go.Proofs.YtgjbnebmcmoilaaGreatDoor.Ax
open Go.RowKit

section
variable {P : Program} {G : Gv} {E : Ev} {w : World} {a : Act} {T : Tm} {σ : St} {lo : Nat}

theorem calls_sound (hG : TypesOk P G) {ih : Code → Tm → Nat → St → Option (Ex × Tm × St)} (hS : Sound P G ih) (hI : Inv E σ G.ng w) (hlo : lo ≤ σ.nx) {f : FuncId} {fn : Func} {c : Code} {args args' : List Value} (hf : P.funcs[f]? = some fn) (hc : fn.body = some c) (ha : VRs E args args')
    {e : Ex} {T' : Tm} {σ' : St} {vs : List Value} (hx : ih c { t := initT args 0 .nil, n := max args.length fn.ntmps } lo σ = some (e, T', σ')) (he : ∀ i, e ≠ .exit i) (hr : resOf G T' σ'.h fn.results.toList = some vs) :
    Calls P f ⟨args'⟩ w fun e w' => ∃ v' E', e = .returned v' ∧ VR E' (tup vs) v' ∧ Inv E' σ' G.ng w' ∧ Stp E lo σ.nx w E' w' ∧ AStp lo σ σ' := by
  refine calls_of_wp_defers hf hc ?_
  have hl := ha.length
  have hT0 : TR E { t := initT args 0 .nil, n := max args.length fn.ntmps } ((⟨args'⟩ : Array Value) ++ Array.replicate (fn.ntmps - (⟨args'⟩ : Array Value).size) undef) := by
    refine ⟨by simp; omega, fun t v ht => ?_⟩
    simp only [initT_get] at ht
    split at ht
    · rename_i hlt
      obtain ⟨v', h1, h2⟩ := ha.get ht
      refine ⟨v', ?_, h2⟩
      rw [Nat.sub_zero] at h1
      have : t < args'.length := (List.getElem?_eq_some_iff.1 h1).1
      rw [Array.getElem?_append_left (by simpa using this)]
      simpa using h1
    · simp [Tr.get_nil] at ht
  refine wp_mono (hS _ _ _ _ _ _ _ hx E w { tmps := (⟨args'⟩ : Array Value) ++ Array.replicate (fn.ntmps - (⟨args'⟩ : Array Value).size) undef, defers := [] } hI hT0 (DF.refl P []) hlo) ?_
  rintro x a' w' ⟨hxr, hd, E', hT', hI', hst, has⟩
  obtain ⟨v', h1, h2⟩ := resOf_sound (fn := fn) hG hI'.heap hT' hr
  obtain ⟨ds, hds, hq⟩ := hd
  rw [List.append_nil] at hds
  subst hds
  have hL := leaves_quiet (R := fun e w' => ∃ v' E', e = .returned v' ∧ VR E' (tup vs) v' ∧ Inv E' σ' G.ng w' ∧ Stp E lo σ.nx w E' w' ∧ AStp lo σ σ') h2 ⟨v', E', rfl, h1, hI', hst, has⟩ _ hq
  cases e with
  | normal => cases x <;> first | exact hxr.elim | exact hL
  | exit i => exact absurd rfl (he i)
  | ret => cases x <;> first | exact hxr.elim | exact hL

theorem op1_sound (hG : TypesOk P G) (hF : FunsOk P G) {ih : Code → Tm → Nat → St → Option (Ex × Tm × St)} (hS : Sound P G ih) (hI : Inv E σ G.ng w) (hT : TR E T a.tmps) (hlo : lo ≤ σ.nx) {o : Oper} {ov : Option Value} {σ' : St} (hq : op1 G ih T lo σ o.op = some (ov, σ'))
    {K : Act → World → Prop} {Q : Exit → Act → World → Prop} (hK : ∀ v' w' E', VR E' (ov.getD undef) v' → Inv E' σ' G.ng w' → Stp E lo σ.nx w E' w' → AStp lo σ σ' → K (a.put o.dst v') w') : o.wp P a w K Q := by
  unfold op1 at hq
  simp only [Option.bind_eq_some_iff] at hq
  obtain ⟨r, h1, h2⟩ := hq
  have hs := step1_sound (o := o) hG hF hI hT hlo h1
  unfold Oper.wp
  split at h2
  · injection h2 with h2; injection h2 with e1 e2; subst e1; subst e2
    obtain ⟨v', w', E', k1, k2, k3, k4, k5⟩ := hs
    rw [k1, Oper.upon_value]
    exact hK v' w' E' k2 k3 k4 k5
  · injection h2 with h2; injection h2 with e1 e2; subst e1; subst e2
    obtain ⟨w', E', k1, k3, k4, k5⟩ := hs
    rw [k1, Oper.upon_skip]
    exact hK undef w' E' undef_VR k3 k4 k5
  · injection h2 with h2; injection h2 with e1 e2; subst e1; subst e2
    obtain ⟨args', k1, k2, k3⟩ := hs
    rw [k1, Oper.upon_enter]
    refine Calls.mono k3 ?_
    rintro e w' ⟨v', rfl, hv, hh, hos, hta, hou⟩
    refine hK v' w' E hv (hI.drew hh) ⟨.refl E, fun _ _ _ h => .inl h, by rw [hh]; exact Nat.le_refl _, hos, hta, hou, fun b _ _ => by rw [hh]⟩ (.refl _ _)
  · injection h2 with h2; injection h2 with e1 e2; subst e1; subst e2
    obtain ⟨args', k1, k2, k3⟩ := hs
    rw [k1, Oper.upon_enter]
    refine Calls.mono k3 ?_
    rintro e w' ⟨v', E', rfl, g1, g2, g3, g4⟩
    exact hK v' w' E' g1 g2 g3 g4
  · rename_i f fn c args
    simp only [Option.bind_eq_some_iff] at h2
    obtain ⟨⟨e, T', σ1⟩, h3, h4⟩ := h2
    obtain ⟨args', k1, k2, k3, k4⟩ := hs
    rw [k1, Oper.upon_enter]
    have key : ∀ (he : ∀ i, e ≠ .exit i), ((resOf G T' σ1.h fn.results.toList).bind fun vs => some (some (tup vs), σ1)) = some (ov, σ') → Calls P f ⟨args'⟩ w fun
        | .returned v, w'' => K (a.put o.dst v) w''
        | .panicked chain, w'' => Q (.panic chain) a w''
        | .outgrown, _ => LetsOut Q := fun he h4 => by
      simp only [Option.bind_eq_some_iff, Option.some.injEq, Prod.mk.injEq] at h4
      obtain ⟨vs, h5, rfl, rfl⟩ := h4
      refine Calls.mono (calls_sound hG hS hI hlo k3 k4 k2 h3 he h5) ?_
      rintro x w' ⟨v', E', rfl, g1, g2, g3, g4⟩
      exact hK v' w' E' g1 g2 g3 g4
    split at h4
    · cases h4
    · rename_i hne
      exact key (fun i hi => hne i hi) h4

theorem dfOk_sound (hF : FunsOk P G) {o : Oper} (h : dfOk G o.op = true) : ∃ d, (∀ w, (execOp a.eval o).run P w = .ok (.defer d) w) ∧ QD P d := by
  unfold dfOk at h
  split at h
  · rename_i c hop
    split at h
    · rename_i f hc
      cases hk : G.dfs.get f with
      | none => rw [hk] at h; cases h
      | some k =>
        obtain ⟨⟨fn, b, g1, g2, g3⟩, g4⟩ := hF.dfs f k hk
        refine ⟨{ target := .fn (.func f) #[], args := #[] ++ c.args.map a.eval }, fun w => ?_, f, rfl, fun w => ?_, fun w => g4 _ w⟩
        · unfold execOp
          rw [hop]
          simp only [resolve, hc, Sem.run_bind]
          rfl
        · have := callFunc_run (P := P) g1 g2 g3 (args := #[] ++ c.args.map a.eval) (w := w)
          simpa [invoke] using this
    · cases h
  · cases h
theorem regF_sound (hG : TypesOk P G) (hF : FunsOk P G) {ih : Code → Tm → Nat → St → Option (Ex × Tm × St)} (hS : Sound P G ih) {ops : Array Oper} {Q : Exit → Act → World → Prop} : ∀ (l : List Oper) (i : Nat), ops.toList.drop i = l → ∀ (T : Tm) (σ : St) (E : Ev) (w : World) (a : Act) (T' : Tm) (σ' : St),
    regF G ih ops.toList lo l T σ = some (T', σ') → Inv E σ G.ng w → TR E T a.tmps → lo ≤ σ.nx →
    (∀ a' w' E', TR E' T' a'.tmps → DF P a.defers a'.defers → Inv E' σ' G.ng w' → Stp E lo σ.nx w E' w' → AStp lo σ σ' → Q .normal a' w') →
    wpOps P ops Q (List.range' i (ops.size - i)) a w
  | [], i, hl, T, σ, E, w, a, T', σ', hq, hI, hT, hlo, hK => by
    simp only [regF, Option.some.injEq, Prod.mk.injEq] at hq
    obtain ⟨rfl, rfl⟩ := hq
    have : ops.size ≤ i := by simpa using List.drop_eq_nil_iff.1 hl
    rw [Nat.sub_eq_zero_of_le this]
    exact hK a w E hT (DF.refl _ _) hI (.refl _ _ _ _) (.refl _ _)
  | o :: l, i, hl, T, σ, E, w, a, T', σ', hq, hI, hT, hlo, hK => by
    have hlt : i < ops.size := by
      rcases Nat.lt_or_ge i ops.size with h | h
      · exact h
      · rw [List.drop_eq_nil_of_le (by simpa using h)] at hl; cases hl
    have ho : ops[i]? = some o := by
      have : (ops.toList.drop i)[0]? = some o := by rw [hl]; rfl
      simpa using this
    have hl' : ops.toList.drop (i + 1) = l := by
      have : (ops.toList.drop i).drop 1 = l := by rw [hl]; rfl
      simpa using this
    rw [show ops.size - i = (ops.size - (i + 1)) + 1 by omega, List.range'_succ]
    unfold wpOps
    rw [ho]
    simp only
    simp only [regF, Option.bind_eq_some_iff] at hq
    obtain ⟨b, h1, h2⟩ := hq
    have hw := want_sound (o := o) hT h1
    cases b with
    | false =>
      simp only [Option.bind_eq_some_iff] at h2
      obtain ⟨T1, h3, h4⟩ := h2
      rw [if_neg (by simp [hw])]
      have hT1 := hT.put h3 (undef_VR (E := E))
      exact regF_sound hG hF hS l (i + 1) hl' T1 σ E w (a.put o.dst undef) T' σ' h4 hI hT1 hlo fun a' w' E' k1 k2 k3 k4 k5 => hK a' w' E' k1 (put_defers a o.dst undef ▸ k2) k3 k4 k5
    | true =>
      rw [if_pos (by simp [hw])]
      dsimp only at h2
      split at h2
      · rename_i r h3
        obtain ⟨ov, σ1⟩ := r
        simp only [Option.bind_eq_some_iff] at h2
        obtain ⟨T1, h4, h5⟩ := h2
        refine .inl (op1_sound hG hF hS hI hT hlo h3 fun v' w' E' g1 g2 g3 g4 => ?_)
        have hT1 : TR E' T1 (a.put o.dst v').tmps := (hT.mono g3.le).put h4 g1
        refine regF_sound hG hF hS l (i + 1) hl' T1 σ1 E' w' (a.put o.dst v') T' σ' h5 g2 hT1 (Nat.le_trans hlo g4.nx) fun a' w2 E2 k1 k2 k3 k4 k5 => ?_
        exact hK a' w2 E2 k1 (put_defers a o.dst v' ▸ k2) k3 (g3.trans k4 g4.nx) (g4.trans k5)
      · split at h2
        · rename_i hdf
          simp only [Option.bind_eq_some_iff] at h2
          obtain ⟨T1, h4, h5⟩ := h2
          obtain ⟨d, hd1, hd2⟩ := dfOk_sound (o := o) (a := a) hF hdf
          refine .inl ?_
          unfold Oper.wp
          rw [hd1 w, Oper.upon_defer]
          have hT1 : TR E T1 ({ a with defers := d :: a.defers }.put o.dst undef).tmps := by
            have := hT.put h4 (undef_VR (E := E))
            cases hdst : o.dst <;> (rw [hdst] at this; exact this)
          refine regF_sound hG hF hS l (i + 1) hl' T1 σ E w _ T' σ' h5 hI hT1 hlo fun a' w2 E2 k1 k2 k3 k4 k5 => ?_
          refine hK a' w2 E2 k1 (DF.trans ⟨[d], ?_, fun d' h' => by simp at h'; rw [h']; exact hd2⟩ k2) k3 k4 k5
          rw [put_defers]; rfl
        · cases h2
end
end Go.Proofs.YtgjbnebmcmoilaaGreatDoor.Ax

namespace Go.Proofs.YtgjbnebmcmoilaaGreatDoor.Ax
noncomputable section
open Go.RowKit

/-! ## the order -/
theorem masks_acc : ∀ (l : List Oper) (acc : List Nat), ∃ r, masks l acc = acc ++ r ∧ r.length = l.length
  | [], acc => ⟨[], by simp [masks], rfl⟩
  | o :: l, acc => by
    obtain ⟨r, h1, h2⟩ := masks_acc l (acc ++ [maskOf acc o.after.toList])
    exact ⟨maskOf acc o.after.toList :: r, by rw [masks, h1]; simp, by simp [h2]⟩
theorem masks_get : ∀ (l : List Oper) (acc : List Nat) (i : Nat) (o : Oper), l[i]? = some o → (masks l acc).getD (acc.length + i) 0 = maskOf ((masks l acc).take (acc.length + i)) o.after.toList
  | [], _, _, _, h => by simp at h
  | o :: l, acc, 0, o', h => by
    simp at h; subst h
    obtain ⟨r, h1, _⟩ := masks_acc l (acc ++ [maskOf acc o.after.toList])
    rw [masks, h1]
    simp
  | o :: l, acc, i + 1, o', h => by
    have := masks_get l (acc ++ [maskOf acc o.after.toList]) i o' (by simpa using h)
    rw [masks]
    simp only [List.length_append, List.length_cons, List.length_nil] at this
    rw [show acc.length + (i + 1) = acc.length + (0 + 1) + i by omega]
    exact this
theorem maskOf_bit (acc : List Nat) (j : Nat) : ∀ (l : List Edge), (maskOf acc l).testBit j = true ↔ ∃ e ∈ l, Region.binds .any e = true ∧ (e.on = j ∨ (acc.getD e.on 0).testBit j = true)
  | [] => by simp [maskOf]
  | e :: l => by
    have ih := maskOf_bit acc j l
    rw [maskOf]
    split
    · rename_i hb
      show (((2 ^ e.on) ||| (acc.getD e.on 0)) ||| (maskOf acc l)).testBit j = true ↔ _
      rw [Nat.testBit_or, Nat.testBit_or, Bool.or_eq_true, Bool.or_eq_true, ih, Nat.testBit_two_pow]
      constructor
      · rintro ((h | h) | ⟨e', h1, h2⟩)
        · exact ⟨e, by simp, hb, .inl (by simpa using h)⟩
        · exact ⟨e, by simp, hb, .inr h⟩
        · exact ⟨e', by simp [h1], h2⟩
      · rintro ⟨e', h1, h2, h3⟩
        rcases List.mem_cons.1 h1 with rfl | h1
        · rcases h3 with h3 | h3
          · exact .inl (.inl (by simpa using h3))
          · exact .inl (.inr h3)
        · exact .inr ⟨e', h1, h2, h3⟩
    · rename_i hb
      rw [ih]
      constructor
      · rintro ⟨e', h1, h2⟩; exact ⟨e', by simp [h1], h2⟩
      · rintro ⟨e', h1, h2, h3⟩
        rcases List.mem_cons.1 h1 with rfl | h1
        · rw [hb] at h2; cases h2
        · exact ⟨e', h1, h2, h3⟩

/-- what okD says -/
structure OkD (G : Gv) (L : List Oper) (ms : List Nat) (n N : Nat) : Prop where
  op : ∀ i, i < n → ∃ o, L[i]? = some o ∧ (∀ e ∈ o.after.toList, Region.binds .any e = true → e.on < i) ∧ (∀ p, o.guard = some p → bit ms i p.1 = true) ∧ (∀ t, o.dst = some t → t < N)
  loud : ∀ i j, i < n → j < i → loudAt G L i = true → loudAt G L j = true → bit ms i j = true ∨ floatAt L ms n i = true
  dst : ∀ i j t, i < n → j < i → dstOf L i = some t → dstOf L j = some t → bit ms i j = true
  rank : ∀ i j, i < n → j < n → loudAt G L i = false → loudAt G L j = true → (bit ms i j = true ↔ rankOf G L j < qOf G L ms n i)
theorem okD_spec {G : Gv} {L : List Oper} {ms : List Nat} {n N : Nat} (h : okD G L ms n N = true) : OkD G L ms n N := by
  unfold okD at h
  rw [List.all_eq_true] at h
  have key : ∀ i, i < n → ∃ o, L[i]? = some o ∧ ((o.after.toList.all fun e => !Region.binds .any e || Nat.blt e.on i) &&
      ((match o.guard with | some p => bit ms i p.1 | none => true) &&
      ((match o.dst with | some t => Nat.blt t N | none => true) &&
      (List.range n).all fun j =>
        (!Nat.blt j i || ((!(loudAt G L i && loudAt G L j) || (bit ms i j || floatAt L ms n i)) && (!sameDst (dstOf L i) (dstOf L j) || bit ms i j))) &&
        (loudAt G L i || (!loudAt G L j || (bit ms i j == Nat.blt (rankOf G L j) (qOf G L ms n i))))))) = true := fun i hi => by
    have := h i (List.mem_range.2 hi)
    cases ho : L[i]? with
    | none => rw [ho] at this; cases this
    | some o => rw [ho] at this; exact ⟨o, rfl, this⟩
  have row : ∀ i j, i < n → j < n → ((!Nat.blt j i || ((!(loudAt G L i && loudAt G L j) || (bit ms i j || floatAt L ms n i)) && (!sameDst (dstOf L i) (dstOf L j) || bit ms i j))) = true) ∧
      (loudAt G L i || (!loudAt G L j || (bit ms i j == Nat.blt (rankOf G L j) (qOf G L ms n i)))) = true := fun i j hi hj => by
    obtain ⟨o, _, h2⟩ := key i hi
    simp only [Bool.and_eq_true] at h2
    have := List.all_eq_true.1 h2.2.2.2 j (List.mem_range.2 hj)
    simpa only [Bool.and_eq_true] using this
  refine ⟨fun i hi => ?_, fun i j hi hj h1 h2 => ?_, fun i j t hi hj h1 h2 => ?_, fun i j hi hj h1 h2 => ?_⟩
  · obtain ⟨o, h1, h2⟩ := key i hi
    simp only [Bool.and_eq_true] at h2
    obtain ⟨a1, a2, a3, _⟩ := h2
    refine ⟨o, h1, fun e he hb => ?_, fun p hp => ?_, fun t ht => ?_⟩
    · have := List.all_eq_true.1 a1 e he
      rw [hb] at this
      simpa using this
    · rw [hp] at a2; exact a2
    · rw [ht] at a3; simpa using a3
  · have := (row i j hi (by omega)).1
    have hb : Nat.blt j i = true := by simpa using hj
    rw [hb, h1, h2] at this
    simp at this
    exact this.1
  · have := (row i j hi (by omega)).1
    have hb : Nat.blt j i = true := by simpa using hj
    have hs : sameDst (dstOf L i) (dstOf L j) = true := by rw [h1, h2]; simp [sameDst]
    rw [hb, hs] at this
    simp at this
    exact this.2
  · have := (row i j hi hj).2
    rw [h1, h2] at this
    simp only [Bool.false_or, Bool.not_true, beq_iff_eq] at this
    rw [this]
    simp

section
variable {G : Gv} {L : List Oper} {N : Nat}
theorem bit_spec (h : OkD G L (masks L []) L.length N) {i j : Nat} (hi : i < L.length) {o : Oper} (ho : L[i]? = some o) : bit (masks L []) i j = true ↔ ∃ e ∈ o.after.toList, Region.binds .any e = true ∧ (e.on = j ∨ bit (masks L []) e.on j = true) := by
  have hm := masks_get L [] i o ho
  simp only [List.length_nil, Nat.zero_add] at hm
  unfold bit
  rw [hm, maskOf_bit]
  obtain ⟨o', ho', hb, _⟩ := h.op i hi
  rw [ho] at ho'
  injection ho' with ho'
  subst ho'
  have : ∀ e ∈ o.after.toList, Region.binds .any e = true → ((masks L []).take i).getD e.on 0 = (masks L []).getD e.on 0 := fun e he hbe => by
    have := hb e he hbe
    simp only [List.getD_eq_getElem?_getD, List.getElem?_take, this, if_true]
  constructor
  · rintro ⟨e, h1, h2, h3⟩; exact ⟨e, h1, h2, by rwa [this e h1 h2] at h3⟩
  · rintro ⟨e, h1, h2, h3⟩; exact ⟨e, h1, h2, by rwa [this e h1 h2]⟩
theorem bit_lt (h : OkD G L (masks L []) L.length N) : ∀ {i j : Nat}, i < L.length → bit (masks L []) i j = true → j < i := by
  intro i
  induction i using Nat.strongRecOn with
  | _ i ih =>
    intro j hi hb
    obtain ⟨o, ho, h1, _⟩ := h.op i hi
    obtain ⟨e, h2, h3, h4⟩ := (bit_spec h hi ho).1 hb
    have := h1 e h2 h3
    rcases h4 with h4 | h4
    · omega
    · have := ih e.on this (by omega) h4; omega

/-! ## temporaries -/
/-- who wrote a temporary last -/
def lastW (L : List Oper) (V T : Tr Value) (D : Nat → Bool) (t : Nat) : Nat → Option Value
  | 0 => T.get t
  | m + 1 => if D m = true ∧ dstOf L m = some t then V.get m else lastW L V T D t m
theorem putD_append (V : Tr Value) : ∀ (l k : List Nat) (T : Tr Value), putD L V (l ++ k) T = putD L V k (putD L V l T)
  | [], _, _ => rfl
  | j :: l, k, T => by
    simp only [List.cons_append, putD]
    split <;> exact putD_append V l k _
theorem putD_get (V T : Tr Value) (D : Nat → Bool) (t : Nat) : ∀ m, (putD L V ((List.range m).filter D) T).get t = lastW L V T D t m
  | 0 => rfl
  | m + 1 => by
    rw [List.range_succ, List.filter_append, putD_append, lastW]
    have ih := putD_get V T D t m
    cases hD : D m with
    | false => simp [hD, putD, ih]
    | true =>
      simp only [List.filter_cons, hD, if_true, List.filter_nil, putD]
      cases hd : dstOf L m with
      | none => simp [ih]
      | some s =>
        simp only [Tr.get_setO, ih]
        by_cases e : t = s
        · simp [e]
        · simp [e, Ne.symm e]
theorem putD_congr {V V' : Tr Value} : ∀ {l : List Nat} {T : Tr Value}, (∀ j ∈ l, V.get j = V'.get j) → putD L V l T = putD L V' l T
  | [], _, _ => rfl
  | j :: l, T, h => by
    rw [putD, putD, h j (by simp)]
    split <;> exact putD_congr fun i hi => h i (by simp [hi])
theorem delD_get (t : Nat) : ∀ (l : List Nat) (T : Tr Value), (delD L l T).get t = none ∨ ((∀ j ∈ l, dstOf L j ≠ some t) ∧ (delD L l T).get t = T.get t)
  | [], T => .inr ⟨by simp, rfl⟩
  | j :: l, T => by
    rw [delD]
    split
    · rename_i s hs
      rcases delD_get t l (T.setO s none) with h | ⟨h1, h2⟩
      · exact .inl h
      · by_cases e : t = s
        · left; rw [h2, Tr.get_setO]; simp [e]
        · right
          refine ⟨fun i hi => ?_, by rw [h2, Tr.get_setO]; simp [e]⟩
          rcases List.mem_cons.1 hi with rfl | hi
          · rw [hs]; simpa using Ne.symm e
          · exact h1 i hi
    · rename_i hs
      rcases delD_get t l T with h | ⟨h1, h2⟩
      · exact .inl h
      · refine .inr ⟨fun i hi => ?_, h2⟩
        rcases List.mem_cons.1 hi with rfl | hi
        · rw [hs]; simp
        · exact h1 i hi
theorem mem_cl {ms : List Nat} {n i j : Nat} : j ∈ clOf ms n i ↔ j < n ∧ bit ms i j = true := by simp [clOf]
theorem mem_un {ms : List Nat} {n i j : Nat} : j ∈ unOf ms n i ↔ j < n ∧ j ≠ i ∧ bit ms i j = false ∧ bit ms j i = false := by
  have : Nat.beq j i = false ↔ j ≠ i := ⟨fun h e => by subst e; simp at h, fun h => by
    cases hb : Nat.beq j i with
    | false => rfl
    | true => exact absurd (Nat.eq_of_beq_eq_true hb) h⟩
  simp [unOf, this]
theorem tmD_congr (h : OkD G L (masks L []) L.length N) {T0 : Tm} {V V' : Tr Value} {i : Nat} (hi : i < L.length) (hV : ∀ j, j < i → V.get j = V'.get j) : tmD L (masks L []) L.length T0 V i = tmD L (masks L []) L.length T0 V' i := by
  unfold tmD
  rw [putD_congr fun j hj => hV j (bit_lt h hi (mem_cl.1 hj).2)]

/-! ## ranks -/
theorem rank_succ (i : Nat) : rankOf G L (i + 1) = rankOf G L i + (if loudAt G L i = true then 1 else 0) := by
  unfold rankOf
  rw [List.range_succ, List.filter_append, List.length_append]
  congr 1
  cases h : loudAt G L i <;> simp [h]
theorem rank_mono {i j : Nat} (h : i ≤ j) : rankOf G L i ≤ rankOf G L j := by
  induction h with
  | refl => exact Nat.le_refl _
  | step _ ih => rw [rank_succ]; omega
theorem rank_lt {i j : Nat} (hi : loudAt G L i = true) (h : i < j) : rankOf G L i < rankOf G L j := by
  have := rank_mono (G := G) (L := L) (show i + 1 ≤ j from h)
  rw [rank_succ, hi] at this
  simp at this
  omega
theorem rank_ex : ∀ (i r : Nat), r < rankOf G L i → ∃ l, l < i ∧ loudAt G L l = true ∧ rankOf G L l = r
  | 0, r, h => by simp [rankOf] at h
  | i + 1, r, h => by
    rw [rank_succ] at h
    by_cases hr : r < rankOf G L i
    · obtain ⟨l, h1, h2⟩ := rank_ex i r hr; exact ⟨l, by omega, h2⟩
    · cases hl : loudAt G L i with
      | false => rw [hl] at h; simp at h; omega
      | true => rw [hl] at h; simp at h; exact ⟨i, by omega, hl, by omega⟩

/-! ## the run, operation by operation -/
def Fact (G : Gv) (ih : Code → Tm → Nat → St → Option (Ex × Tm × St)) (L : List Oper) (T0 : Tm) (lo : Nat) (V : Tr Value) (S : Tr St) (i : Nat) : Prop :=
  ∃ o b, L[i]? = some o ∧ want L (tmD L (masks L []) L.length T0 V i) o.guard = some b ∧ match loudT G o.op, b with
    | false, false => V.get i = some undef
    | false, true => ∃ v, V.get i = some v ∧ ((pureQ o.op = true ∧ qop G (tmD L (masks L []) L.length T0 V i) .nil o.op = some v) ∨
        (pureQ o.op = false ∧ ∃ σ, S.get (qOf G L (masks L []) L.length i) = some σ ∧ qop G (tmD L (masks L []) L.length T0 V i) σ.h o.op = some v))
    | true, false => ∃ σ, S.get (rankOf G L i) = some σ ∧ V.get i = some undef ∧ S.get (rankOf G L i + 1) = some σ
    | true, true => ∃ σ r, S.get (rankOf G L i) = some σ ∧ op1 G ih (tmD L (masks L []) L.length T0 V i) lo σ o.op = some r ∧
        V.get i = some (r.1.getD undef) ∧ S.get (rankOf G L i + 1) = some r.2
theorem qOf_le (h : OkD G L (masks L []) L.length N) {i : Nat} (hi : i < L.length) : qOf G L (masks L []) L.length i ≤ rankOf G L i := by
  unfold qOf rankOf clOf
  rw [List.filter_filter]
  have hsub : ∀ m, m ≤ L.length → ((List.range m).filter fun j => loudAt G L j && bit (masks L []) i j).length ≤ ((List.range (min m i)).filter fun j => loudAt G L j).length := by
    intro m
    induction m with
    | zero => intro _; simp
    | succ m ihm =>
      intro hm
      have := ihm (by omega)
      rw [List.range_succ, List.filter_append, List.length_append]
      by_cases hb : bit (masks L []) i m = true
      · have hlt := bit_lt h hi hb
        have e1 : min (m + 1) i = m + 1 := by omega
        have e2 : min m i = m := by omega
        rw [e1, List.range_succ, List.filter_append, List.length_append]
        rw [e2] at this
        have e3 : (List.filter (fun j => loudAt G L j && bit (masks L []) i j) [m]).length = (List.filter (fun j => loudAt G L j) [m]).length := by simp [List.filter_cons, hb]
        omega
      · have e3 : (List.filter (fun j => loudAt G L j && bit (masks L []) i j) [m]).length = 0 := by simp [List.filter_cons, hb]
        have e4 : ((List.range (min m i)).filter fun j => loudAt G L j).length ≤ ((List.range (min (m + 1) i)).filter fun j => loudAt G L j).length := rank_mono (G := G) (L := L) (by omega)
        omega
  have := hsub L.length (Nat.le_refl _)
  rwa [Nat.min_eq_right (Nat.le_of_lt hi)] at this
theorem regD_facts (hok : OkD G L (masks L []) L.length N) {ih : Code → Tm → Nat → St → Option (Ex × Tm × St)} {T0 : Tm} {lo : Nat} : ∀ (l : List Oper) (i : Nat) (V : Tr Value) (S : Tr St) (k : Nat) (V' : Tr Value) (S' : Tr St) (k' : Nat), L.drop i = l → k = rankOf G L i →
    regD G ih L (masks L []) L.length T0 lo l i V S k = some (V', S', k') → (∀ j, j < i → V'.get j = V.get j) ∧ (∀ r, r ≤ k → S'.get r = S.get r) ∧ k' = rankOf G L L.length ∧ ∀ j, i ≤ j → j < L.length → Fact G ih L T0 lo V' S' j
  | [], i, V, S, k, V', S', k', hl, hk, hq => by
    simp only [regD, Option.some.injEq, Prod.mk.injEq] at hq
    obtain ⟨rfl, rfl, rfl⟩ := hq
    have hi : L.length ≤ i := List.drop_eq_nil_iff.1 hl
    refine ⟨fun _ _ => rfl, fun _ _ => rfl, ?_, fun j h1 h2 => by omega⟩
    rw [hk]
    have : ∀ d, rankOf G L (L.length + d) = rankOf G L L.length := by
      intro d
      induction d with
      | zero => rfl
      | succ d ihd =>
        rw [show L.length + (d + 1) = (L.length + d) + 1 by omega, rank_succ, ihd]
        have : loudAt G L (L.length + d) = false := by unfold loudAt; rw [List.getElem?_eq_none (by omega)]
        simp [this]
    have := this (i - L.length)
    rwa [show L.length + (i - L.length) = i by omega] at this
  | o :: l, i, V, S, k, V', S', k', hl, hk, hq => by
    have hlt : i < L.length := by
      rcases Nat.lt_or_ge i L.length with h | h
      · exact h
      · rw [List.drop_eq_nil_of_le h] at hl; cases hl
    have ho : L[i]? = some o := by
      have : (L.drop i)[0]? = some o := by rw [hl]; rfl
      simpa using this
    have hl' : L.drop (i + 1) = l := by
      have : (L.drop i).drop 1 = l := by rw [hl]; rfl
      simpa using this
    have hla : loudAt G L i = loudT G o.op := by unfold loudAt; rw [ho]
    simp only [regD, Option.bind_eq_some_iff] at hq
    obtain ⟨b, h1, h2⟩ := hq
    -- what the rest of the run keeps
    have fin : ∀ (v : Value) (S1 : Tr St) (k1 : Nat), k1 = rankOf G L (i + 1) → (∀ r, r ≤ k → S1.get r = S.get r) → k ≤ k1 → regD G ih L (masks L []) L.length T0 lo l (i + 1) (V.set i v) S1 k1 = some (V', S', k') →
        (∀ j, j < i → V'.get j = V.get j) ∧ (∀ r, r ≤ k → S'.get r = S.get r) ∧ k' = rankOf G L L.length ∧ V'.get i = some v ∧ (∀ r, r ≤ k1 → S'.get r = S1.get r) ∧ (∀ j, i + 1 ≤ j → j < L.length → Fact G ih L T0 lo V' S' j) ∧
        tmD L (masks L []) L.length T0 V i = tmD L (masks L []) L.length T0 V' i := fun v S1 k1 e1 e2 e3 hr => by
      obtain ⟨g1, g2, g3, g4⟩ := regD_facts hok l (i + 1) (V.set i v) S1 k1 V' S' k' hl' e1 hr
      have gV : ∀ j, j < i → V'.get j = V.get j := fun j hj => by rw [g1 j (by omega), Tr.get_set]; simp [show j ≠ i by omega]
      exact ⟨gV, fun r hr => by rw [g2 r (by omega), e2 r hr], g3, by rw [g1 i (by omega), Tr.get_set]; simp, g2, g4, tmD_congr hok hlt fun j hj => (gV j hj).symm⟩
    have one : ∀ (j : Nat), i ≤ j → j = i ∨ i + 1 ≤ j := fun j hj => by omega
    rcases hlo : loudT G o.op with _ | _ <;> rcases b with _ | _
    all_goals (rw [hlo] at h2; simp only at h2)
    · obtain ⟨g1, g2, g3, g4, g5, g6, g7⟩ := fin undef S k (by rw [rank_succ, hla, hlo, hk]; simp) (fun _ _ => rfl) (Nat.le_refl _) h2
      refine ⟨g1, g2, g3, fun j hj hjn => ?_⟩
      rcases one j hj with rfl | hj
      · exact ⟨o, false, ho, by rw [← g7]; exact h1, by rw [hlo]; exact g4⟩
      · exact g6 j hj hjn
    · split at h2
      · rename_i hp
        simp only [Option.bind_eq_some_iff] at h2
        obtain ⟨v, h3, h4⟩ := h2
        obtain ⟨g1, g2, g3, g4, g5, g6, g7⟩ := fin v S k (by rw [rank_succ, hla, hlo, hk]; simp) (fun _ _ => rfl) (Nat.le_refl _) h4
        refine ⟨g1, g2, g3, fun j hj hjn => ?_⟩
        rcases one j hj with rfl | hj
        · refine ⟨o, true, ho, by rw [← g7]; exact h1, ?_⟩
          rw [hlo]
          exact ⟨v, g4, .inl ⟨hp, by rw [← g7]; exact h3⟩⟩
        · exact g6 j hj hjn
      · rename_i hp
        simp only [Option.bind_eq_some_iff] at h2
        obtain ⟨σ, h3, v, h4, h5⟩ := h2
        obtain ⟨g1, g2, g3, g4, g5, g6, g7⟩ := fin v S k (by rw [rank_succ, hla, hlo, hk]; simp) (fun _ _ => rfl) (Nat.le_refl _) h5
        refine ⟨g1, g2, g3, fun j hj hjn => ?_⟩
        rcases one j hj with rfl | hj
        · refine ⟨o, true, ho, by rw [← g7]; exact h1, ?_⟩
          rw [hlo]
          exact ⟨v, g4, .inr ⟨hp, σ, by rw [g2 _ (by rw [hk]; exact qOf_le hok hlt)]; exact h3, by rw [← g7]; exact h4⟩⟩
        · exact g6 j hj hjn
    · simp only [Option.bind_eq_some_iff] at h2
      obtain ⟨σ, h3, h4⟩ := h2
      obtain ⟨g1, g2, g3, g4, g5, g6, g7⟩ := fin undef (S.set (k + 1) σ) (k + 1) (by rw [rank_succ, hla, hlo, hk]; simp) (fun r hr => by rw [Tr.get_set]; simp [show r ≠ k + 1 by omega]) (by omega) h4
      refine ⟨g1, g2, g3, fun j hj hjn => ?_⟩
      rcases one j hj with rfl | hj
      · refine ⟨o, false, ho, by rw [← g7]; exact h1, ?_⟩
        rw [hlo]
        refine ⟨σ, by rw [← hk, g2 k (Nat.le_refl _)]; exact h3, g4, ?_⟩
        rw [← hk, g5 (k + 1) (Nat.le_refl _), Tr.get_set]
        simp
      · exact g6 j hj hjn
    · simp only [Option.bind_eq_some_iff] at h2
      obtain ⟨σ, h3, r, h4, h5⟩ := h2
      obtain ⟨g1, g2, g3, g4, g5, g6, g7⟩ := fin (r.1.getD undef) (S.set (k + 1) r.2) (k + 1) (by rw [rank_succ, hla, hlo, hk]; simp) (fun r hr => by rw [Tr.get_set]; simp [show r ≠ k + 1 by omega]) (by omega) h5
      refine ⟨g1, g2, g3, fun j hj hjn => ?_⟩
      rcases one j hj with rfl | hj
      · refine ⟨o, true, ho, by rw [← g7]; exact h1, ?_⟩
        rw [hlo]
        refine ⟨σ, r, by rw [← hk, g2 k (Nat.le_refl _)]; exact h3, by rw [← g7]; exact h4, g4, ?_⟩
        rw [← hk, g5 (k + 1) (Nat.le_refl _), Tr.get_set]
        simp
      · exact g6 j hj hjn

/-! ## readers -/
theorem eqA_sound {a b : Addr} (h : eqA a b = true) : a = b := by
  obtain ⟨x, y, z⟩ := a
  obtain ⟨x', y', z'⟩ := b
  simp only [eqA, Bool.and_eq_true] at h
  obtain ⟨h1, h2, h3⟩ := h
  have h1 := Nat.eq_of_beq_eq_true h1
  have h2 := Nat.eq_of_beq_eq_true h2
  subst h1; subst h2
  cases z <;> cases z' <;> simp only at h3 <;> first | rfl | (cases h3; done) | (have h3 := Nat.eq_of_beq_eq_true h3; subst h3; rfl)
theorem eqS_sound {a b : Value} (h : eqS a b = true) : a = b := by
  unfold eqS at h
  split at h <;> first
    | rfl
    | (cases h; done)
    | skip
  · rw [eq_of_beq h]
  · simp only [Bool.and_eq_true] at h; rw [kindN_inj h.1, eq_of_beq h.2]
  · rw [eqB_eq] at h; rw [eq_of_beq h]
  · rw [eqA_sound h]
  · simp only [Bool.and_eq_true] at h; rw [Nat.eq_of_beq_eq_true h.1, Nat.eq_of_beq_eq_true h.2]
  · simp only [Bool.and_eq_true] at h; rw [eqA_sound h.1, Nat.eq_of_beq_eq_true h.2.1, Nat.eq_of_beq_eq_true h.2.2]
  · rw [Nat.eq_of_beq_eq_true h]
theorem eqSL_sound : ∀ {a b : List Value}, eqSL a b = true → a = b
  | [], [], _ => rfl
  | [], _ :: _, h => by cases h
  | _ :: _, [], h => by cases h
  | a :: l, b :: k, h => by
    simp only [eqSL, Bool.and_eq_true] at h
    rw [eqS_sound h.1, eqSL_sound h.2]
theorem eqF_sound {a b : Value} (h : eqF a b = true) : a = b := by
  unfold eqF at h
  split at h
  · simp only [Bool.and_eq_true] at h; rw [Nat.eq_of_beq_eq_true h.1, eqSL_sound h.2.1, eqSL_sound h.2.2]
  · exact eqS_sound h
theorem eqFL_sound : ∀ {a b : List Value}, eqFL a b = true → a = b
  | [], [], _ => rfl
  | [], _ :: _, h => by cases h
  | _ :: _, [], h => by cases h
  | a :: l, b :: k, h => by
    simp only [eqFL, Bool.and_eq_true] at h
    rw [eqF_sound h.1, eqFL_sound h.2]
theorem eqG_sound {a b : Value} (h : eqG a b = true) : a = b := by
  unfold eqG at h
  split at h
  · rw [eqFL_sound h]
  · exact eqF_sound h
theorem eqGL_sound : ∀ {a b : List Value}, eqGL a b = true → a = b
  | [], [], _ => rfl
  | [], _ :: _, h => by cases h
  | _ :: _, [], h => by cases h
  | a :: l, b :: k, h => by
    simp only [eqGL, Bool.and_eq_true] at h
    rw [eqG_sound h.1, eqGL_sound h.2]
theorem eqV_sound {a b : Value} (h : eqV a b = true) : a = b := by
  unfold eqV at h
  split at h
  · rw [eqGL_sound h]
  · exact eqG_sound h
def RdFact (G : Gv) (L : List Oper) (T0 : Tm) (V : Tr Value) (S : Tr St) (i : Nat) : Prop :=
  ∀ o v, L[i]? = some o → loudT G o.op = false → pureQ o.op = false → want L (tmD L (masks L []) L.length T0 V i) o.guard = some true → V.get i = some v →
    ∀ l, l < L.length → loudAt G L l = true → qOf G L (masks L []) L.length i ≤ rankOf G L l → bit (masks L []) l i = false → ∃ σ, S.get (rankOf G L l + 1) = some σ ∧ qop G (tmD L (masks L []) L.length T0 V i) σ.h o.op = some v
theorem rdAll_facts {T0 : Tm} {V : Tr Value} {S : Tr St} : ∀ (l : List Oper) (i : Nat), L.drop i = l → rdAll G L (masks L []) L.length T0 V S l i = true → ∀ j, i ≤ j → RdFact G L T0 V S j
  | [], i, hl, _, j, hj => fun o v ho => by
    have hi : L.length ≤ i := List.drop_eq_nil_iff.1 hl
    rw [List.getElem?_eq_none (by omega)] at ho
    cases ho
  | o :: l, i, hl, h, j, hj => by
    have ho : L[i]? = some o := by
      have : (L.drop i)[0]? = some o := by rw [hl]; rfl
      simpa using this
    have hl' : L.drop (i + 1) = l := by
      have : (L.drop i).drop 1 = l := by rw [hl]; rfl
      simpa using this
    simp only [rdAll, Bool.and_eq_true] at h
    rcases Nat.lt_or_ge i j with hij | hij
    · exact rdAll_facts l (i + 1) hl' h.2 j hij
    · have e : j = i := by omega
      subst e
      intro o' v ho' hq hp hw hV k hk hlk hqk hb
      rw [ho] at ho'; injection ho' with ho'; subst ho'
      have h1 := h.1
      rw [hq, hp] at h1
      simp only [Bool.or_self] at h1
      rw [hw] at h1
      simp only at h1
      rw [hV] at h1
      simp only [rdAt, List.all_eq_true, List.mem_range] at h1
      have h2 := h1 k hk
      have hlt : Nat.blt (rankOf G L k) (qOf G L (masks L []) L.length j) = false := by
        cases hx : Nat.blt (rankOf G L k) (qOf G L (masks L []) L.length j) with
        | false => rfl
        | true => have hx : rankOf G L k < qOf G L (masks L []) L.length j := by simpa using hx
                  omega
      rw [hlk, hlt, hb] at h2
      simp only [Bool.or_self, Bool.not_false, Bool.and_self] at h2
      split at h2
      · rename_i σ hσ
        split at h2
        · rename_i v' hv'
          rw [eqV_sound h2] at hv'
          exact ⟨σ, hσ, hv'⟩
        · cases h2
      · cases h2
end
end
end Go.Proofs.YtgjbnebmcmoilaaGreatDoor.Ax

namespace Go.Proofs.YtgjbnebmcmoilaaGreatDoor.Ax
noncomputable section
open Go.RowKit

theorem Stp.weaken {E : Ev} {lo lo' nx : Nat} {w : World} {E' : Ev} {w' : World} (h : Stp E lo' nx w E' w') (hl : lo ≤ lo') : Stp E lo nx w E' w' :=
  ⟨h.le, fun i b n hi => (h.new i b n hi).imp id fun ⟨h0, h1⟩ => ⟨h0, h1.imp id fun ⟨j, m, hj, hm⟩ => ⟨j, m, Nat.le_trans hl hj, hm⟩⟩, h.size, h.os, h.tape, h.output, fun b hb hj => h.frame b hb fun j m hj' => hj j m (Nat.le_trans hl hj')⟩
theorem AStp.weaken {lo lo' : Nat} {σ σ' : St} (h : AStp lo' σ σ') (hl : lo ≤ lo') : AStp lo σ σ' := ⟨h.nx, fun i hi => h.keep i (Nat.lt_of_lt_of_le hi hl)⟩
def WfS (σ : St) : Prop := ∀ i o, σ.h.get i = some o → o.live = true → i < σ.nx
theorem Inv.wf {E : Ev} {σ : St} {ng : Nat} {w : World} (h : Inv E σ ng w) : WfS σ := fun i o hi hl => by
  obtain ⟨b, n, x, h1, _⟩ := (h.heap i o hi).blk hl
  exact h.lt h1

section
variable {P : Program} {G : Gv} {lo : Nat} {ops : Array Oper} {T0 : Tm} {V : Tr Value} {S : Tr St} {E0 : Ev} {w0 : World} {σ0 : St} {df : List Deferred}

/-- a new block that has come up ahead of its turn -/
def PendAt (G : Gv) (L : List Oper) (V : Tr Value) (S : Tr St) (w0 : World) (E : Ev) (w : World) (tm : Array Value) (f b : Nat) : Prop :=
  ∃ σ v cs arr ty, S.get (rankOf G L f) = some σ ∧ V.get f = some v ∧ S.get (rankOf G L f + 1) = some (put σ (.cells cs true)) ∧ w.heap[b]? = some (.cells ⟨arr⟩ ty) ∧ VRs E cs arr ∧ w0.heap.size ≤ b ∧ (∀ i n, E.blk i ≠ some (b, n)) ∧
    ∃ v', (∀ t, dstOf L f = some t → tm[t]? = some v') ∧ ∀ E' : Ev, E'.blk σ.nx = some (b, arr.length) → VR E' v v'
/-- what holds when those of D have come up, and those of Q, new blocks, ahead of their turn -/
structure MI (G : Gv) (L : List Oper) (T0 : Tm) (lo : Nat) (V : Tr Value) (S : Tr St) (E0 : Ev) (w0 : World) (σ0 : St) (df : List Deferred) (D Q : Nat → Bool) (β : Nat → Nat) (k : Nat) (E : Ev) (w : World) (a : Act) : Prop where
  cl : ∀ i j, i < L.length → D i = true → bit (masks L []) i j = true → D j = true
  kk : ∀ l, l < L.length → loudAt G L l = true → (D l = true ↔ rankOf G L l < k)
  tm : a.tmps.size = T0.n ∧ ∀ t v, (∀ f, Q f = true → dstOf L f ≠ some t) → lastW L V T0.t D t L.length = some v → ∃ v', a.tmps[t]? = some v' ∧ VR E v v'
  st : ∃ σ, S.get k = some σ ∧ Inv E σ G.ng w ∧ AStp lo σ0 σ
  stp : Stp E0 lo σ0.nx w0 E w
  chain : ∀ l, l < L.length → loudAt G L l = true → D l = true → ∃ σ σ', S.get (rankOf G L l) = some σ ∧ S.get (rankOf G L l + 1) = some σ' ∧ WfS σ ∧ σ.nx ≤ σ'.nx
  df : a.defers = df
  kn : k ≤ rankOf G L L.length
  pd : ∀ f, Q f = true → f < L.length ∧ loudAt G L f = true ∧ D f = false ∧ (∃ o, L[f]? = some o ∧ floatK o.op = true) ∧ (∀ j, bit (masks L []) f j = true → D j = true) ∧ PendAt G L V S w0 E w a.tmps f (β f)
  pi : ∀ f g, Q f = true → Q g = true → β f = β g → f = g

theorem lastW_insert {L : List Oper} {N : Nat} (hok : OkD G L (masks L []) L.length N) {T : Tr Value} {D : Nat → Bool} {i : Nat} (hi : i < L.length) (hD : D i = false) (hcl : ∀ i j, i < L.length → D i = true → bit (masks L []) i j = true → D j = true) (t : Nat) :
    lastW L V T (fun j => j == i || D j) t L.length = if dstOf L i = some t then V.get i else lastW L V T D t L.length := by
  have key : ∀ m, m ≤ L.length → lastW L V T (fun j => j == i || D j) t m = if i < m ∧ dstOf L i = some t then V.get i else lastW L V T D t m := by
    intro m
    induction m with
    | zero => intro _; simp [lastW]
    | succ m ih =>
      intro hm
      have ih := ih (by omega)
      rw [lastW, lastW]
      by_cases e : m = i
      · subst e
        by_cases hd : dstOf L m = some t
        · simp [hd]
        · simp only [hd, and_false, if_false]
          rw [ih]
          simp
      · have hb : (m == i) = false := by simpa using e
        simp only [hb, Bool.false_or]
        by_cases hc : D m = true ∧ dstOf L m = some t
        · rw [if_pos hc, if_pos hc]
          by_cases hx : i < m + 1 ∧ dstOf L i = some t
          · have : bit (masks L []) m i = true := hok.dst m i t (by omega) (by omega) hc.2 hx.2
            have := hcl m i (by omega) hc.1 this
            rw [hD] at this
            cases this
          · rw [if_neg hx]
        · rw [if_neg hc, if_neg hc, ih]
          by_cases hx : i < m
          · simp [hx, show i < m + 1 by omega]
          · have : ¬ i < m + 1 := by omega
            simp [hx, this]
  rw [key L.length (Nat.le_refl _)]
  simp [hi]
theorem tmD_sub {L : List Oper} {N : Nat} (hok : OkD G L (masks L []) L.length N) {D : Nat → Bool} {i : Nat} (hi : i < L.length) (hD : D i = false) (hcl : ∀ i j, i < L.length → D i = true → bit (masks L []) i j = true → D j = true)
    (hci : ∀ j, bit (masks L []) i j = true → D j = true) {t : Nat} {v : Value} (h : (tmD L (masks L []) L.length T0 V i).t.get t = some v) : lastW L V T0.t D t L.length = some v := by
  unfold tmD at h
  simp only at h
  rcases delD_get t (unOf (masks L []) L.length i) (putD L V (clOf (masks L []) L.length i) T0.t) with h1 | ⟨h1, h2⟩
  · rw [h1] at h; cases h
  · rw [h2, clOf, putD_get] at h
    rw [← h]
    have key : ∀ m, m ≤ L.length → lastW L V T0.t D t m = lastW L V T0.t (fun j => bit (masks L []) i j) t m := by
      intro m
      induction m with
      | zero => intro _; rfl
      | succ m ih =>
        intro hm
        rw [lastW, lastW, ih (by omega)]
        by_cases hd : dstOf L m = some t
        · have : D m = bit (masks L []) i m := by
            cases hb : bit (masks L []) i m with
            | true => exact hci m hb
            | false =>
              cases hDm : D m with
              | false => rfl
              | true =>
                have hne : m ≠ i := fun e => by subst e; rw [hD] at hDm; cases hDm
                cases hb2 : bit (masks L []) m i with
                | true => have := hcl m i (by omega) hDm hb2; rw [hD] at this; cases this
                | false => exact absurd hd (h1 m (mem_un.2 ⟨by omega, hne, hb, hb2⟩))
          rw [this]
        · simp [hd]
    exact key L.length (Nat.le_refl _)

theorem rank_inj {L : List Oper} {l f : Nat} (hl : loudAt G L l = true) (hf : loudAt G L f = true) (h : rankOf G L l = rankOf G L f) : l = f := by
  rcases Nat.lt_trichotomy l f with h1 | h1 | h1
  · have := rank_lt (G := G) hl h1; omega
  · exact h1
  · have := rank_lt (G := G) hf h1; omega
/-- its turn has come -/
theorem MI.commit {L : List Oper} (hlo0 : lo ≤ σ0.nx) {D Q : Nat → Bool} {β : Nat → Nat} {k : Nat} {E : Ev} {w : World} {a : Act} (hok : OkD G L (masks L []) L.length T0.n) (hm : MI G L T0 lo V S E0 w0 σ0 df D Q β k E w a) {f : Nat} (hf : Q f = true) (hr : rankOf G L f = k) :
    ∃ E', MI G L T0 lo V S E0 w0 σ0 df (fun j => j == f || D j) (fun j => Q j && !(j == f)) β (k + 1) E' w a := by
  obtain ⟨hfl, hfloud, hDf, hfo, hfc, σ, v, cs, arr, ty, p1, p2, p3, p4, p5, p6, p7, v', p8, p9⟩ := hm.pd f hf
  obtain ⟨σk, s1, s2, s3⟩ := hm.st
  rw [hr] at p1 p3
  rw [s1] at p1; injection p1 with p1; subst p1
  have hle := Ev.ext_le (b := β f) (n := arr.length) (s2.fresh σk.nx (Nat.le_refl _))
  have hlt : β f < w.heap.size := (Array.getElem?_eq_some_iff.1 p4).1
  refine ⟨E.ext σk.nx (β f) arr.length, ⟨fun i j hi h2 h3 => ?_, fun l hl h2 => ?_, ⟨hm.tm.1, fun t u hq ht => ?_⟩, ⟨_, p3, ?_, ?_⟩, ?_, fun l hl h2 h3 => ?_, hm.df, ?_, fun g hg => ?_, fun g h hg hh hb => ?_⟩⟩
  · by_cases e : i = f
    · subst e; rw [hfc j h3]; simp
    · have : D i = true := by simpa [e] using h2
      rw [hm.cl i j hi this h3]; simp
  · by_cases e : l = f
    · subst e; simp [hr]
    · have h4 := hm.kk l hl h2
      have h5 : rankOf G L l ≠ k := fun h => e (rank_inj h2 hfloud (by rw [h, hr]))
      have h6 : (l == f) = false := by simpa using e
      simp only [h6, Bool.false_or]
      rw [h4]
      omega
  · rw [lastW_insert hok hfl hDf hm.cl] at ht
    split at ht
    · rename_i hd
      rw [p2] at ht; injection ht with ht; subst ht
      exact ⟨v', p8 t hd, p9 _ (Ev.ext_here _ _ _ _)⟩
    · rename_i hd
      obtain ⟨u', h1, h2⟩ := hm.tm.2 t u (fun g hg => by
        by_cases e : g = f
        · subst e; exact hd
        · exact hq g (by simp [hg, e])) ht
      exact ⟨u', h1, h2.mono hle⟩
  · refine s2.adopt p7 hlt ?_
    refine ⟨β f, arr.length, ⟨arr⟩, ty, (0, 0), Ev.ext_here _ _ _ _, p4, by simp, fun _ => rfl, by rw [p5.length]; exact Nat.le_refl _, ?_⟩
    simp only
    rw [← p5.length, List.take_length]
    exact p5.mono hle
  · exact ⟨by simp only [put]; have := s3.nx; omega, fun i hi => by
      simp only [put, Tr.get_set]
      by_cases e : i = σk.nx
      · subst e
        have h1 := s3.nx
        have h2 := s3.keep _ hi
        exfalso
        have := hlo0
        omega
      · simp [e, s3.keep i hi]⟩
  · refine ⟨hm.stp.le.trans hle, fun i x n hi => ?_, hm.stp.size, hm.stp.os, hm.stp.tape, hm.stp.output, hm.stp.frame⟩
    by_cases e : i = σk.nx
    · subst e
      rw [Ev.ext_here] at hi
      injection hi with hi; injection hi with hi _
      subst hi
      exact .inr ⟨s3.nx, .inl p6⟩
    · have : (E.ext σk.nx (β f) arr.length).blk i = E.blk i := by simp [Ev.ext, e]
      rw [this] at hi
      exact hm.stp.new i x n hi
  · by_cases e : l = f
    · subst e
      exact ⟨σk, _, by rw [hr]; exact s1, by rw [hr]; exact p3, s2.wf, by simp [put]⟩
    · exact hm.chain l hl h2 (by simpa [e] using h3)
  · have := rank_lt (G := G) (L := L) hfloud hfl
    omega
  · have hgQ : Q g = true := by simp only [Bool.and_eq_true] at hg; exact hg.1
    have hgf : g ≠ f := by simp only [Bool.and_eq_true] at hg; simpa using hg.2
    obtain ⟨g1, g2, g3, g4, g5, σ', u, cs', arr', ty', q1, q2, q3, q4, q5, q6, q7, q8⟩ := hm.pd g hgQ
    refine ⟨g1, g2, by simp [g3, hgf], g4, fun j hj => by rw [g5 j hj]; simp, σ', u, cs', arr', ty', q1, q2, q3, q4, q5.mono hle, q6, fun i n hi => ?_, q8⟩
    by_cases e : i = σk.nx
    · subst e
      rw [Ev.ext_here] at hi
      injection hi with hi; injection hi with hi _
      exact hgf (hm.pi g f hgQ hf hi.symm)
    · have : (E.ext σk.nx (β f) arr.length).blk i = E.blk i := by simp [Ev.ext, e]
      rw [this] at hi
      exact q7 i n hi
  · simp only [Bool.and_eq_true] at hg hh
    exact hm.pi g h hg.1 hh.1 hb
/-- all those whose turn has come -/
theorem MI.commits {L : List Oper} (hlo0 : lo ≤ σ0.nx) (hok : OkD G L (masks L []) L.length T0.n) {β : Nat → Nat} {w : World} {a : Act} {r : Nat} (hr : r ≤ rankOf G L L.length) : ∀ (d : Nat) (D Q : Nat → Bool) (k : Nat) (E : Ev), r - k = d → MI G L T0 lo V S E0 w0 σ0 df D Q β k E w a →
    (∀ l, l < L.length → loudAt G L l = true → rankOf G L l < r → D l = true ∨ Q l = true) →
    ∃ D' Q' k' E', MI G L T0 lo V S E0 w0 σ0 df D' Q' β k' E' w a ∧ r ≤ k' ∧ ∀ i, (D' i || Q' i) = (D i || Q i)
  | 0, D, Q, k, E, hd, hm, _ => ⟨D, Q, k, E, hm, by omega, fun _ => rfl⟩
  | d + 1, D, Q, k, E, hd, hm, hall => by
    obtain ⟨l, l1, l2, l3⟩ := rank_ex (G := G) (L := L) L.length k (by omega)
    have hDl : D l = false := by
      cases h : D l with
      | false => rfl
      | true => have := (hm.kk l l1 l2).1 h; omega
    have hQl : Q l = true := by
      rcases hall l l1 l2 (by omega) with h | h
      · rw [hDl] at h; cases h
      · exact h
    obtain ⟨E1, hm1⟩ := hm.commit hlo0 hok hQl l3
    have hsame : ∀ i, ((i == l || D i) || (Q i && !(i == l))) = (D i || Q i) := fun i => by
      by_cases e : i = l
      · subst e; simp [hQl]
      · have h6 : (i == l) = false := beq_false_of_ne e
        rw [h6]; cases D i <;> cases Q i <;> rfl
    obtain ⟨D', Q', k', E', h1, h2, h3⟩ := MI.commits hlo0 hok hr d _ _ (k + 1) E1 (by omega) hm1 fun i hi hil hir => by
      rcases hall i hi hil hir with h | h
      · exact .inl (by simp [h])
      · by_cases e : i = l
        · subst e; exact .inl (by simp)
        · exact .inr (by simp [h, e])
    exact ⟨D', Q', k', E', h1, h2, fun i => by rw [h3 i]; exact hsame i⟩

/-- what such an operation does -/
theorem float_sound (hG : TypesOk P G) (hg : Glob E0 G.ng) {ih : Code → Tm → Nat → St → Option (Ex × Tm × St)} {T : Tm} {a : Act} (hT : TR E0 T a.tmps) {o : Oper} (hk : floatK o.op = true) {lo : Nat} {σ : St} {r : Option Value × St} (hq : op1 G ih T lo σ o.op = some r) :
    ∃ v cs arr ty, r = (some v, put σ (.cells cs true)) ∧ VRs E0 cs arr ∧ ∀ w : World, ∃ v', (execOp a.eval o).run P w = .ok (.value v') (w.alloc (.cells ⟨arr⟩ ty)) ∧ ∀ E' : Ev, E'.blk σ.nx = some (w.heap.size, arr.length) → VR E' v v' := by
  unfold op1 step1 at hq
  generalize hop : o.op = op at hk hq
  cases op <;> first | (cases hk; done) | skip
  case alloc e =>
    simp only [quiet, lop, Option.bind_eq_some_iff] at hq
    obtain ⟨x, ⟨ti, h1, h2⟩, h3⟩ := hq
    injection h2 with h2; subst h2
    injection h3 with h3; subst h3
    have hte := hG _ _ h1
    obtain ⟨i, z, i1, i2, i3, i4, i5, i6⟩ := hte.info
    refine ⟨_, _, z.cells.toList, e, rfl, by rw [i6]; exact closedL_VRs hte.zcl, fun w => ⟨_, ?_, fun E' h' => .ptr _ _ _ _ h'⟩⟩
    have hz : (zeroValue e).run P w = .ok z w := by simp [zeroValue, typeInfo, i1, i4]
    unfold execOp
    rw [hop]
    unfold Instr.alloc newVar newRow
    simp only [Sem.run_bind, hz, run_newObj_alloc, Result.andThen_ok, Sem.run_pure]
  case box e x =>
    simp only [quiet, lop, Option.bind_eq_some_iff] at hq
    obtain ⟨y, ⟨v, h1, h2⟩, h3⟩ := hq
    split at h2
    · injection h2 with h2; subst h2
      injection h3 with h3; subst h3
      have hv := ev_sound hg hT h1
      refine ⟨_, _, (a.eval x).cells.toList, e, rfl, hv.cells, fun w => ⟨_, ?_, fun E' h' => .ptr _ _ _ _ h'⟩⟩
      unfold execOp
      rw [hop]
      unfold Instr.box newVar newRow
      simp only [Sem.run_bind, run_newObj_alloc, Result.andThen_ok, Sem.run_pure]
    · cases h2
  case buildSlice t n ps =>
    simp only [quiet, lop, Option.bind_eq_some_iff] at hq
    obtain ⟨y, ⟨ti, h1, vs, h2, h3⟩, h8⟩ := hq
    split at h3
    · rename_i e hk
      simp only [Option.bind_eq_some_iff] at h3
      obtain ⟨te, h4, h5⟩ := h3
      split at h5
      · rename_i hn
        have hn : n * te.size ≤ 16777216 := by simpa using hn
        simp only [Option.bind_eq_some_iff] at h5
        obtain ⟨cs, h6, h7⟩ := h5
        split at h7
        · injection h7 with h7; subst h7
          injection h8 with h8; subst h8
          have hty := hG _ _ h1
          have hte := hG _ _ h4
          obtain ⟨i, z, i1, i2, i3, i4, i5, i6⟩ := hte.info
          have hzs : z.cells.size = te.size := by rw [← Array.length_toList, i6]; exact hte.zlen
          obtain ⟨r', g4, g5⟩ := fill_sound (E := E0) _ (fun i => some (i * te.size, te.size)) (fun i p hi => hi) (evP_sound hg hT h2) (closedL_VRs (rep_closed hte.zcl)) h6
          refine ⟨_, _, r', e, rfl, g5, fun w => ⟨_, ?_, fun E' h' => .sl _ _ _ _ _ _ h'⟩⟩
          have hz : (zeroValue e).run P w = .ok z w := by simp [zeroValue, typeInfo, i1, i4]
          have e1 : (⟨List.map (fun p => (p.1, a.eval p.2)) ps.toList⟩ : Array (Nat × Value)) = ps.map fun (i, x) => (i, a.eval x) := by apply Array.ext'; simp
          unfold execOp
          rw [hop]
          simp only
          rw [← e1]
          unfold Instr.buildSlice
          rw [Sem.run_bind, Sem.run_bind, run_underlying (hk ▸ hty.und)]
          simp only [Result.andThen_ok, Sem.run_bind, hte.sizeOf]
          rw [if_neg (by omega)]
          have hcells : (Array.range (n * te.size)).map (fun i => z.cells[i % z.cells.size]!) = ⟨rep n te.zero⟩ := by rw [rep_array n te.size z.cells hzs, i6]
          by_cases h0 : n * te.size = 0
          · rw [if_pos h0]
            have hnil : rep n te.zero = [] := List.eq_nil_of_length_eq_zero (by rw [rep_length, hte.zlen, h0])
            have he0 : ∀ f : Nat → Value, (Array.range (n * te.size)).map f = ⟨rep n te.zero⟩ := fun f => by rw [h0, hnil]; apply Array.ext'; simp
            simp only [Sem.run_bind, Sem.run_pure, Result.andThen_ok, he0, g4, newRow, run_newObj_alloc]
          · rw [if_neg h0]
            simp only [Sem.run_bind, hz, Result.andThen_ok, Sem.run_pure, hcells, g4, newRow, run_newObj_alloc]
        · cases h7
      · cases h5
    · cases h3

theorem drawn_sound (hG : TypesOk P G) (hF : FunsOk P G) {ih : Code → Tm → Nat → St → Option (Ex × Tm × St)} (hS : Sound P G ih) (hok : OkD G ops.toList (masks ops.toList []) ops.toList.length T0.n)
    (hfact : ∀ i, i < ops.toList.length → Fact G ih ops.toList T0 lo V S i) (hrd : ∀ i, RdFact G ops.toList T0 V S i) (hlo : lo ≤ σ0.nx) {Q : Exit → Act → World → Prop}
    (hQ : ∀ β k E w a, MI G ops.toList T0 lo V S E0 w0 σ0 df (fun _ => true) (fun _ => false) β k E w a → Q .normal a w) :
    ∀ (fuel : Nat) (listed : Array Bool) (D Pf : Nat → Bool) (β : Nat → Nat) (k : Nat) (E : Ev) (w : World) (a : Act), listed.size = ops.toList.length → ((List.range ops.toList.length).filter fun i => !listed.getD i false).length = fuel → (∀ i, listed.getD i false = (D i || Pf i)) →
      MI G ops.toList T0 lo V S E0 w0 σ0 df D Pf β k E w a → wpAny P .any ops Q fuel listed a w := by
  have hops : ∀ i : Nat, ops[i]? = ops.toList[i]? := fun i => by simp
  -- if nothing may come up, all have
  have hdone : ∀ (listed : Array Bool) (D Pf : Nat → Bool) (β : Nat → Nat) (k : Nat) (E : Ev) (w : World) (a : Act), (∀ i, listed.getD i false = (D i || Pf i)) → MI G ops.toList T0 lo V S E0 w0 σ0 df D Pf β k E w a →
      (∀ i, i < ops.toList.length → listed.getD i false = true) → Q .normal a w := fun listed D Pf β k E w a hls hm hall => by
    obtain ⟨D', Q', k', E', hm, hk', hsame⟩ := MI.commits hlo hok (Nat.le_refl _) _ D Pf k E rfl hm fun l hl _ _ => by
      have := hall l hl
      rw [hls] at this
      simpa using this
    have hD' : ∀ i, i < ops.toList.length → D' i = true := fun i hi => by
      have h1 := hall i hi
      rw [hls, ← hsame] at h1
      cases h2 : D' i with
      | true => rfl
      | false =>
        rw [h2] at h1
        have h3 : Q' i = true := by simpa using h1
        obtain ⟨_, h4, h5, _⟩ := hm.pd i h3
        have := (hm.kk i hi h4).2 (Nat.lt_of_lt_of_le (rank_lt (G := G) h4 hi) hk')
        rw [this] at h5
        cases h5
    have hQ' : ∀ i, Q' i = false := fun i => by
      cases h2 : Q' i with
      | false => rfl
      | true =>
        obtain ⟨h3, _, h5, _⟩ := hm.pd i h2
        rw [hD' i h3] at h5; cases h5
    refine hQ β k' E' w a ⟨fun i j _ _ _ => rfl, fun l hl h1 => ⟨fun _ => (hm.kk l hl h1).1 (hD' l hl), fun _ => rfl⟩, ⟨hm.tm.1, fun t v _ ht => hm.tm.2 t v (fun f hf => by rw [hQ' f] at hf; cases hf) ?_⟩, hm.st, hm.stp, fun l hl h1 _ => hm.chain l hl h1 (hD' l hl), hm.df, hm.kn, (fun f hf => by cases hf), (fun f g hf => by cases hf)⟩
    rw [← ht]
    have key : ∀ m, m ≤ ops.toList.length → lastW ops.toList V T0.t D' t m = lastW ops.toList V T0.t (fun _ => true) t m := by
      intro m
      induction m with
      | zero => intro _; rfl
      | succ m ihm => intro hm'; rw [lastW, lastW, ihm (by omega)]; simp only [hD' m (by omega)]
    exact key _ (Nat.le_refl _)
  have hready0 : ∀ (listed : Array Bool), listed.size = ops.toList.length → Region.ready .any ops listed = [] → ∀ i, i < ops.toList.length → listed.getD i false = true := fun listed hsz hr i => by
    induction i using Nat.strongRecOn with
    | _ i ihi =>
      intro hi
      cases hl : listed.getD i false with
      | true => rfl
      | false =>
        obtain ⟨o, ho, h1, _⟩ := hok.op i hi
        have hlt : i < listed.size := by omega
        have : i ∈ Region.ready .any ops listed := mem_ready.2 ⟨by simpa [hlt] using hl, o, by rw [hops, ho], fun e he hb => ihi e.on (h1 e (by simpa using he) hb) (by have := h1 e (by simpa using he) hb; omega)⟩
        rw [hr] at this
        cases this
  intro fuel
  induction fuel with
  | zero =>
    intro listed D Pf β k E w a hsz hf hls hm
    have hall : ∀ i, i < ops.toList.length → listed.getD i false = true := fun i hi => by
      have := List.eq_nil_of_length_eq_zero hf
      rw [List.filter_eq_nil_iff] at this
      simpa using this i (List.mem_range.2 hi)
    refine ⟨?_, hdone listed D Pf β k E w a hls hm hall⟩
    apply List.eq_nil_iff_forall_not_mem.2
    intro i hi
    obtain ⟨h1, o, ho, _⟩ := mem_ready.1 hi
    have hlt : i < ops.toList.length := by
      rw [hops] at ho
      exact (List.getElem?_eq_some_iff.1 ho).1
    have h2 := hall i hlt
    have h3 : i < listed.size := by omega
    simp [h3] at h1 h2
    rw [h1] at h2
    cases h2
  | succ fuel ihf =>
    intro listed D Pf β k E w a hsz hf hls hm
    refine ⟨fun hr => hdone listed D Pf β k E w a hls hm (hready0 listed hsz hr), fun i hi => ?_⟩
    obtain ⟨h1, o, ho, hedge⟩ := mem_ready.1 hi
    have hoL : ops.toList[i]? = some o := by rw [← hops]; exact ho
    have hlt : i < ops.toList.length := (List.getElem?_eq_some_iff.1 hoL).1
    have hlt2 : i < listed.size := by omega
    have hLi : listed.getD i false = false := by simpa [hlt2] using h1
    have hla : loudAt G ops.toList i = loudT G o.op := by unfold loudAt; rw [hoL]
    have hedge' : ∀ j, bit (masks ops.toList []) i j = true → listed.getD j false = true ∨ ∃ m, listed.getD m false = true ∧ bit (masks ops.toList []) m j = true ∧ m < ops.toList.length := fun j hj => by
      obtain ⟨e, he, hb, h3⟩ := (bit_spec hok hlt hoL).1 hj
      have hon := hedge e (by simpa using he) hb
      rcases h3 with h3 | h3
      · rw [← h3]; exact .inl hon
      · obtain ⟨o', ho', hlt', _⟩ := hok.op i hlt
        rw [hoL] at ho'; injection ho' with ho'; subst ho'
        exact .inr ⟨e.on, hon, h3, by have := hlt' e he hb; omega⟩
    -- those whose turn must have come
    obtain ⟨D', Pf', k', E', hm', hsame, hci, hkk⟩ : ∃ D' Pf' k' E', MI G ops.toList T0 lo V S E0 w0 σ0 df D' Pf' β k' E' w a ∧ (∀ i, (D' i || Pf' i) = (D i || Pf i)) ∧ (∀ j, bit (masks ops.toList []) i j = true → D' j = true) ∧
        ((loudAt G ops.toList i = true → floatAt ops.toList (masks ops.toList []) ops.toList.length i = false → k' = rankOf G ops.toList i) ∧ (loudAt G ops.toList i = false → qOf G ops.toList (masks ops.toList []) ops.toList.length i ≤ k')) := by
      have closed : ∀ (D' Pf' : Nat → Bool) (k' : Nat) (E' : Ev), MI G ops.toList T0 lo V S E0 w0 σ0 df D' Pf' β k' E' w a → (∀ i, (D' i || Pf' i) = (D i || Pf i)) → (∀ j, bit (masks ops.toList []) i j = true → Pf' j = false) → ∀ j, bit (masks ops.toList []) i j = true → D' j = true := fun D' Pf' k' E' hm' hs hp j hj => by
        rcases hedge' j hj with h | ⟨m, h3, h4, h5⟩
        · rw [hls, ← hs, hp j hj] at h
          simpa using h
        · rw [hls, ← hs] at h3
          rcases Bool.or_eq_true_iff.1 h3 with h6 | h6
          · exact hm'.cl m j h5 h6 h4
          · exact (hm'.pd m h6).2.2.2.2.1 j h4
      have hlisted : ∀ j, bit (masks ops.toList []) i j = true → D j = true ∨ Pf j = true := fun j hj => by
        rcases hedge' j hj with h | ⟨m, h3, h4, h5⟩
        · rw [hls] at h; simpa using h
        · rw [hls] at h3
          rcases Bool.or_eq_true_iff.1 h3 with h6 | h6
          · exact .inl (hm.cl m j h5 h6 h4)
          · exact .inl ((hm.pd m h6).2.2.2.2.1 j h4)
      have pflt : ∀ (D' Pf' : Nat → Bool) (k' : Nat) (E' : Ev), MI G ops.toList T0 lo V S E0 w0 σ0 df D' Pf' β k' E' w a → ∀ j, Pf' j = true → k' ≤ rankOf G ops.toList j := fun D' Pf' k' E' hm' j hj => by
        obtain ⟨g1, g2, g3, _⟩ := hm'.pd j hj
        rcases Nat.lt_or_ge (rankOf G ops.toList j) k' with h | h
        · rw [(hm'.kk j g1 g2).2 h] at g3; cases g3
        · exact h
      cases hq : loudAt G ops.toList i with
      | false =>
        have hqle := Nat.le_trans (qOf_le (G := G) hok hlt) (rank_mono (G := G) (L := ops.toList) (Nat.le_of_lt hlt))
        obtain ⟨D', Q', k', E', g1, g2, g3⟩ := MI.commits hlo hok hqle _ D Pf k E rfl hm fun l hl h2 h3 => hlisted l ((hok.rank i l hlt hl hq h2).2 h3)
        refine ⟨D', Q', k', E', g1, g3, closed D' Q' k' E' g1 g3 fun j hj => ?_, (fun h => by cases h), fun _ => g2⟩
        cases hp : Q' j with
        | false => rfl
        | true =>
          have h5 := pflt D' Q' k' E' g1 j hp
          obtain ⟨g4, g5, _⟩ := g1.pd j hp
          have := (hok.rank i j hlt g4 hq g5).1 hj
          omega
      | true =>
        cases hfl : floatAt ops.toList (masks ops.toList []) ops.toList.length i with
        | true =>
          refine ⟨D, Pf, k, E, hm, fun _ => rfl, closed D Pf k E hm (fun _ => rfl) fun j hj => ?_, (fun _ h => by cases h), fun h => by cases h⟩
          cases hp : Pf j with
          | false => rfl
          | true =>
            obtain ⟨g4, _, _, ⟨oj, g6, g7⟩, _⟩ := hm.pd j hp
            unfold floatAt at hfl
            rw [hoL] at hfl
            simp only at hfl
            split at hfl
            · have := List.all_eq_true.1 hfl j (List.mem_range.2 g4)
              rw [hj] at this
              simp only [g6, g7] at this
              cases this
            · cases hfl
        | false =>
          obtain ⟨D', Q', k', E', g1, g2, g3⟩ := MI.commits hlo hok (rank_mono (G := G) (L := ops.toList) (Nat.le_of_lt hlt)) _ D Pf k E rfl hm fun l hl h2 h3 => by
            have hli : l < i := by
              rcases Nat.lt_or_ge l i with h | h
              · exact h
              · have := rank_mono (G := G) (L := ops.toList) h; omega
            rcases hok.loud i l hlt hli hq h2 with h | h
            · exact hlisted l h
            · rw [hfl] at h; cases h
          have hcl := closed D' Q' k' E' g1 g3 fun j hj => by
            cases hp : Q' j with
            | false => rfl
            | true =>
              have h5 := pflt D' Q' k' E' g1 j hp
              obtain ⟨g4, g5, _⟩ := g1.pd j hp
              have := rank_lt (G := G) g5 (bit_lt hok hlt hj)
              omega
          refine ⟨D', Q', k', E', g1, g3, hcl, (fun _ _ => ?_), fun h => by cases h⟩
          rcases Nat.lt_or_ge (rankOf G ops.toList i) k' with h | h
          · have h6 := (g1.kk i hlt hq).2 h
            have h7 := hls i
            rw [hLi, ← g3, h6] at h7
            cases h7
          · omega
    clear hm
    have hm := hm'
    clear hm'
    have hls : ∀ i, listed.getD i false = (D' i || Pf' i) := fun i => by rw [hls, hsame]
    clear hsame
    have hD : D' i = false := by
      have := hls i
      rw [hLi] at this
      cases h : D' i with
      | false => rfl
      | true => rw [h] at this; cases this
    have hPi : Pf' i = false := by
      have := hls i
      rw [hLi, hD] at this
      simpa using this.symm
    have hcl := hm.cl
    have hpd : ∀ f, Pf' f = true → ∀ t, o.dst = some t → dstOf ops.toList f ≠ some t := fun f hf t ht hd => by
      obtain ⟨g1, g2, g3, g4, g5, _⟩ := hm.pd f hf
      have hdi : dstOf ops.toList i = some t := by unfold dstOf; rw [hoL]; exact ht
      rcases Nat.lt_trichotomy f i with h | h | h
      · have := hci f (hok.dst i f t hlt h hdi hd)
        rw [g3] at this; cases this
      · subst h; rw [hPi] at hf; cases hf
      · have := g5 i (hok.dst f i t g1 h hd hdi)
        rw [hD] at this; cases this
    -- the temporaries that it sees
    have hTi : TR E' (tmD ops.toList (masks ops.toList []) ops.toList.length T0 V i) a.tmps := ⟨hm.tm.1, fun t v ht => hm.tm.2 t v (fun f hf hd => by
      obtain ⟨g1, g2, g3, g4, g5, _⟩ := hm.pd f hf
      have hun : f ∈ unOf (masks ops.toList []) ops.toList.length i := by
        refine mem_un.2 ⟨g1, (fun e => by subst e; rw [hPi] at hf; cases hf), ?_, ?_⟩
        · cases hb : bit (masks ops.toList []) i f with
          | false => rfl
          | true => rw [hci f hb] at g3; cases g3
        · cases hb : bit (masks ops.toList []) f i with
          | false => rfl
          | true => have := g5 i hb; rw [hD] at this; cases this
      unfold tmD at ht
      simp only at ht
      rcases delD_get t (unOf (masks ops.toList []) ops.toList.length i) (putD ops.toList V (clOf (masks ops.toList []) ops.toList.length i) T0.t) with h1 | ⟨h1, _⟩
      · rw [h1] at ht; cases ht
      · exact h1 f hun hd) (tmD_sub hok hlt hD hcl hci ht)⟩
    obtain ⟨o', b, ho', hwant, hfa⟩ := hfact i hlt
    rw [hoL] at ho'; injection ho' with ho'; subst ho'
    have hw := want_sound (o := o) hTi hwant
    have hset : ∀ j, (listed.setIfInBounds i true).getD j false = (j == i || listed.getD j false) := fun j => by
      by_cases e : j = i
      · subst e; simp [hlt2]
      · rw [getD_set_ne false (Ne.symm e)]; simp [e]
    have hfu : ((List.range ops.toList.length).filter fun j => !(listed.setIfInBounds i true).getD j false).length = fuel := by
      have e1 : ∀ m, ((List.range m).filter fun j => !(listed.setIfInBounds i true).getD j false).length + (if i < m then 1 else 0) = ((List.range m).filter fun j => !listed.getD j false).length := by
        intro m
        induction m with
        | zero => simp
        | succ m ihm =>
          rw [List.range_succ, List.filter_append, List.filter_append, List.length_append, List.length_append, ← ihm]
          by_cases e : m = i
          · subst e
            have a1 : (!(listed.setIfInBounds m true).getD m false) = false := by rw [hset]; simp
            have a2 : (!listed.getD m false) = true := by rw [hLi]; rfl
            simp only [List.filter_cons, a1, a2, List.filter_nil]
            simp
          · have a1 : (!(listed.setIfInBounds i true).getD m false) = (!listed.getD m false) := by rw [hset]; simp [e]
            simp only [List.filter_cons, a1, List.filter_nil]
            by_cases hx : i < m
            · simp [hx, show i < m + 1 by omega]; omega
            · have : ¬ i < m + 1 := by omega
              simp [hx, this]
      have := e1 ops.toList.length
      rw [hf, if_pos hlt] at this
      omega
    have hcl' : ∀ i' j, i' < ops.toList.length → (i' == i || D' i') = true → bit (masks ops.toList []) i' j = true → (j == i || D' j) = true := fun i' j hi' h2 h3 => by
      by_cases e : i' = i
      · subst e; rw [hci j h3]; simp
      · have : D' i' = true := by simpa [e] using h2
        rw [hcl i' j hi' this h3]; simp
    have hls' : ∀ j, (listed.setIfInBounds i true).getD j false = ((j == i || D' j) || Pf' j) := fun j => by rw [hset, hls, Bool.or_assoc]
    have hpput : ∀ (E1 : Ev) (w1 : World) (v' : Value), E'.Le E1 → (∀ b, b < w.heap.size → (∀ j m, E'.blk j ≠ some (b, m)) → w1.heap[b]? = w.heap[b]?) → (∀ b, b < w.heap.size → (∀ j m, E'.blk j ≠ some (b, m)) → ∀ j m, E1.blk j ≠ some (b, m)) →
        ∀ f, Pf' f = true → f < ops.toList.length ∧ loudAt G ops.toList f = true ∧ (f == i || D' f) = false ∧ (∃ o, ops.toList[f]? = some o ∧ floatK o.op = true) ∧ (∀ j, bit (masks ops.toList []) f j = true → (j == i || D' j) = true) ∧ PendAt G ops.toList V S w0 E1 w1 (a.put o.dst v').tmps f (β f) := fun E1 w1 v' hle hheap hrange f hf => by
      obtain ⟨g1, g2, g3, g4, g5, σ', u, cs, arr, ty, q1, q2, q3, q4, q5, q6, q7, v2, q8, q9⟩ := hm.pd f hf
      have hlt3 : β f < w.heap.size := (Array.getElem?_eq_some_iff.1 q4).1
      have hne : (f == i) = false := by
        have : f ≠ i := fun e => by subst e; rw [hPi] at hf; cases hf
        simpa using this
      refine ⟨g1, g2, by rw [hne, g3]; rfl, g4, fun j hj => by rw [g5 j hj]; simp, σ', u, cs, arr, ty, q1, q2, q3, by rw [hheap _ hlt3 q7]; exact q4, q5.mono hle, q6, hrange _ hlt3 q7, v2, fun t ht => ?_, q9⟩
      cases hdo : o.dst with
      | none => exact q8 t ht
      | some s =>
        have : s ≠ t := fun e => hpd f hf s hdo (by rw [ht, e])
        simp only [Act.put]
        rw [Array.getElem?_setIfInBounds_ne this]; exact q8 t ht
    -- the step of a quiet one
    have quietStep : loudAt G ops.toList i = false → ∀ (v v' : Value), V.get i = some v → VR E' v v' → wpAny P .any ops Q fuel (listed.setIfInBounds i true) (a.put o.dst v') w := fun hq v v' hV hv => by
      refine ihf (listed.setIfInBounds i true) (fun j => j == i || D' j) Pf' β k' E' w (a.put o.dst v') (by simpa using hsz) hfu hls' ⟨hcl', fun l hl h2 => ?_, ?_, hm.st, hm.stp, fun l hl h2 h3 => ?_, (put_defers a o.dst v').trans hm.df, hm.kn, hpput E' w v' (.refl E') (fun _ _ _ => rfl) (fun _ _ h => h), hm.pi⟩
      · have hne : l ≠ i := fun e => by subst e; rw [hq] at h2; cases h2
        simpa [hne] using hm.kk l hl h2
      · refine ⟨?_, fun t u hq ht => ?_⟩
        · cases o.dst <;> simp [Act.put, hm.tm.1]
        · rw [lastW_insert hok hlt hD hcl] at ht
          have hdd : dstOf ops.toList i = o.dst := by unfold dstOf; rw [hoL]; rfl
          rw [hdd] at ht
          split at ht
          · rename_i hd
            rw [hV] at ht; injection ht with ht; subst ht
            obtain ⟨o', ho', _, _, hN⟩ := hok.op i hlt
            rw [hoL] at ho'; injection ho' with ho'; subst ho'
            have := hN t hd
            exact ⟨v', by rw [hd]; simp [Act.put, hm.tm.1, this], hv⟩
          · rename_i hd
            obtain ⟨u', h5, h6⟩ := hm.tm.2 t u hq ht
            refine ⟨u', ?_, h6⟩
            cases hdo : o.dst with
            | none => exact h5
            | some s =>
              have : s ≠ t := fun e => hd (by rw [hdo, e])
              simp only [Act.put]
              rw [Array.getElem?_setIfInBounds_ne this]; exact h5
      · have hne : l ≠ i := fun e => by subst e; rw [hq] at h2; cases h2
        have : D' l = true := by simpa [hne] using h3
        exact hm.chain l hl h2 this
    have loudStep : loudAt G ops.toList i = true → k' = rankOf G ops.toList i → ∀ (σ σ' : St) (v v' : Value) (E1 : Ev) (w' : World), S.get k' = some σ → S.get (k' + 1) = some σ' → Inv E' σ G.ng w → V.get i = some v → VR E1 v v' → Inv E1 σ' G.ng w' → Stp E' lo σ.nx w E1 w' → AStp lo σ0 σ → AStp lo σ σ' → wpAny P .any ops Q fuel (listed.setIfInBounds i true) (a.put o.dst v') w' := fun hq hkr σ σ' v v' E1 w' hk hk1 hI hV hv hI' hst hA0 hA => by
      refine ihf (listed.setIfInBounds i true) (fun j => j == i || D' j) Pf' β (k' + 1) E1 w' (a.put o.dst v') (by simpa using hsz) hfu hls' ⟨hcl', fun l hl h2 => ?_, ?_, ⟨σ', hk1, hI', hA0.trans hA⟩, hm.stp.trans hst hA0.nx, fun l hl h2 h3 => ?_, (put_defers a o.dst v').trans hm.df, by have := rank_lt (G := G) (L := ops.toList) hq hlt; omega, hpput E1 w' v' hst.le (fun b hb hr => hst.frame b hb fun j m _ => hr j m) (fun b hb hr j m hj => by
        rcases hst.new j b m hj with h | ⟨_, h | ⟨j2, m2, _, h⟩⟩
        · exact hr j m h
        · omega
        · exact hr j2 m2 h), hm.pi⟩
      · by_cases hne : l = i
        · subst hne; simp [hkr]
        · have h4 := hm.kk l hl h2
          have h5 : rankOf G ops.toList l ≠ k' := fun e => by
            rcases Nat.lt_or_ge l i with h6 | h6
            · have := rank_lt (G := G) h2 h6; omega
            · have := rank_lt (G := G) hq (show i < l by omega); omega
          have h6 : (l == i) = false := by simpa using hne
          simp only [h6, Bool.false_or]
          rw [h4]
          omega
      · refine ⟨?_, fun t u hq ht => ?_⟩
        · cases o.dst <;> simp [Act.put, hm.tm.1]
        · rw [lastW_insert hok hlt hD hcl] at ht
          have hdd : dstOf ops.toList i = o.dst := by unfold dstOf; rw [hoL]; rfl
          rw [hdd] at ht
          split at ht
          · rename_i hd
            rw [hV] at ht; injection ht with ht; subst ht
            obtain ⟨o', ho', _, _, hN⟩ := hok.op i hlt
            rw [hoL] at ho'; injection ho' with ho'; subst ho'
            have := hN t hd
            exact ⟨v', by rw [hd]; simp [Act.put, hm.tm.1, this], hv⟩
          · rename_i hd
            obtain ⟨u', h5, h6⟩ := hm.tm.2 t u hq ht
            refine ⟨u', ?_, h6.mono hst.le⟩
            cases hdo : o.dst with
            | none => exact h5
            | some s =>
              have : s ≠ t := fun e => hd (by rw [hdo, e])
              simp only [Act.put]
              rw [Array.getElem?_setIfInBounds_ne this]; exact h5
      · by_cases hne : l = i
        · subst hne
          exact ⟨σ, σ', by rw [← hkr]; exact hk, by rw [← hkr]; exact hk1, hI.wf, hA.nx⟩
        · have : D' l = true := by simpa [hne] using h3
          exact hm.chain l hl h2 this
    unfold wpOp
    rw [ho]
    simp only
    obtain ⟨σk, hk, hIk, hAk⟩ := hm.st
    rcases hlo' : loudT G o.op with _ | _ <;> rcases b with _ | _
    all_goals (rw [hlo'] at hfa; simp only at hfa)
    · rw [if_neg (by simp [hw])]
      exact quietStep (hla.trans hlo') undef undef hfa undef_VR
    · rw [if_pos (by simp [hw])]
      obtain ⟨v, hV, hq⟩ := hfa
      have hgl : Glob E' G.ng := hIk.glob
      have hrun : ∃ v', VR E' v v' ∧ (execOp a.eval o).run P w = .ok (.value v') w := by
        rcases hq with ⟨_, hq⟩ | ⟨hp, σ, hσ, hq⟩
        · exact qop_sound hG hgl hTi (fun x o' hx => by simp [Tr.get_nil] at hx) hq
        · have hql : loudAt G ops.toList i = false := hla.trans hlo'
          have hqk := hkk.2 hql
          rcases Nat.lt_or_ge (qOf G ops.toList (masks ops.toList []) ops.toList.length i) k' with hlt' | hge
          · obtain ⟨l, l1, l2, l3⟩ := rank_ex (G := G) (L := ops.toList) ops.toList.length (k' - 1) (by have := hm.kn; omega)
            have hDl : D' l = true := (hm.kk l l1 l2).2 (by omega)
            have hb2 : bit (masks ops.toList []) l i = false := by
              cases hb : bit (masks ops.toList []) l i with
              | false => rfl
              | true => have := hcl l i l1 hDl hb; rw [hD] at this; cases this
            obtain ⟨σr, s1, s2⟩ := hrd i o v hoL hlo' hp hwant hV l l1 l2 (by omega) hb2
            rw [show rankOf G ops.toList l + 1 = k' by omega, hk] at s1
            injection s1 with s1; subst s1
            exact qop_sound hG hgl hTi hIk.heap s2
          · rw [show qOf G ops.toList (masks ops.toList []) ops.toList.length i = k' by omega, hk] at hσ
            injection hσ with hσ; subst hσ
            exact qop_sound hG hgl hTi hIk.heap hq
      obtain ⟨v', hv, hr⟩ := hrun
      refine .inl ?_
      unfold Oper.wp
      rw [hr, Oper.upon_value]
      exact quietStep (hla.trans hlo') v v' hV hv
    · rw [if_neg (by simp [hw])]
      obtain ⟨σ, h2, h3, h4⟩ := hfa
      have hnf : floatAt ops.toList (masks ops.toList []) ops.toList.length i = false := by
        cases hfl : floatAt ops.toList (masks ops.toList []) ops.toList.length i with
        | false => rfl
        | true =>
          unfold floatAt at hfl
          rw [hoL] at hfl
          simp only at hfl
          split at hfl
          · rename_i hgn
            unfold want at hwant
            rw [hgn] at hwant
            cases hwant
          · cases hfl
      have hkr := hkk.1 (hla.trans hlo') hnf
      rw [← hkr] at h2 h4
      rw [hk] at h2; injection h2 with h2; subst h2
      exact loudStep (hla.trans hlo') hkr σk σk undef undef E' w hk h4 hIk h3 undef_VR hIk (.refl _ _ _ _) hAk (.refl _ _)
    · rw [if_pos (by simp [hw])]
      obtain ⟨σ, r, h2, h3, h4, h5⟩ := hfa
      cases hfl : floatAt ops.toList (masks ops.toList []) ops.toList.length i with
      | false =>
        have hkr := hkk.1 (hla.trans hlo') hfl
        rw [← hkr] at h2 h5
        rw [hk] at h2; injection h2 with h2; subst h2
        obtain ⟨ov, σ'⟩ := r
        have hlo2 : lo ≤ σk.nx := Nat.le_trans hlo hAk.nx
        exact .inl (op1_sound hG hF hS hIk hTi hlo2 h3 fun v' w' E2 g1 g2 g3 g4 => loudStep (hla.trans hlo') hkr σk σ' (ov.getD undef) v' E2 w' hk h5 hIk h4 g1 g2 g3 hAk g4)
      | true =>
        have hfK : floatK o.op = true := by
          unfold floatAt at hfl
          rw [hoL] at hfl
          simp only at hfl
          split at hfl
          · rename_i h6 _
            exact h6
          · cases hfl
        obtain ⟨v, cs, arr, ty, rfl, q1, q2⟩ := float_sound (o := o) hG hIk.glob hTi hfK h3
        obtain ⟨v', r1, r2⟩ := q2 w
        refine .inl ?_
        unfold Oper.wp
        rw [r1, Oper.upon_value]
        have hold : ∀ b, b < w.heap.size → (w.alloc (.cells ⟨arr⟩ ty)).heap[b]? = w.heap[b]? := fun b hb => by
          show (w.heap.push _)[b]? = _
          rw [Array.getElem?_push]; simp [Nat.ne_of_lt hb]
        have hnei : ∀ f, Pf' f = true → f ≠ i := fun f hf e => by subst e; rw [hPi] at hf; cases hf
        have hbd : ∀ f, Pf' f = true → β f < w.heap.size := fun f hf => by
          obtain ⟨_, _, _, _, _, _, _, _, _, _, _, _, _, p4, _⟩ := hm.pd f hf
          exact (Array.getElem?_eq_some_iff.1 p4).1
        refine ihf (listed.setIfInBounds i true) D' (fun j => j == i || Pf' j) (fun j => if j = i then w.heap.size else β j) k' E' (w.alloc (.cells ⟨arr⟩ ty)) (a.put o.dst v') (by simpa using hsz) hfu (fun j => ?_)
          ⟨hm.cl, hm.kk, ⟨?_, fun t u hq ht => ?_⟩, ⟨σk, hk, hIk.push rfl, hAk⟩, hm.stp.trans (⟨.refl E', fun _ _ _ h => .inl h, by show _ ≤ (w.heap.push _).size; simp, rfl, rfl, rfl, fun b hb _ => hold b hb⟩ : Stp E' lo σk.nx w E' (w.alloc (.cells ⟨arr⟩ ty))) hAk.nx, hm.chain, (put_defers a o.dst v').trans hm.df, hm.kn, fun f hf => ?_, fun f g hf hg hb => ?_⟩
        · rw [hset, hls]
          cases j == i <;> cases D' j <;> cases Pf' j <;> rfl
        · cases o.dst <;> simp [Act.put, hm.tm.1]
        · obtain ⟨u', h5, h6⟩ := hm.tm.2 t u (fun f hf => hq f (by simp [hf])) ht
          refine ⟨u', ?_, h6⟩
          cases hdo : o.dst with
          | none => exact h5
          | some s =>
            have : s ≠ t := fun e => hq i (by simp) (by unfold dstOf; rw [hoL]; simp [hdo, e])
            simp only [Act.put]
            rw [Array.getElem?_setIfInBounds_ne this]; exact h5
        · by_cases e : f = i
          · subst e
            refine ⟨hlt, hla.trans hlo', hD, ⟨o, hoL, hfK⟩, hci, σ, v, cs, arr, ty, h2, h4, h5, ?_, q1, ?_, fun j n hj => ?_, v', fun t ht => ?_, ?_⟩
            · rw [if_pos rfl]; exact heap_alloc_new w _
            · rw [if_pos rfl]; exact hm.stp.size
            · rw [if_pos rfl] at hj
              have := hIk.bnd j _ n hj
              omega
            · have hdo : o.dst = some t := by unfold dstOf at ht; rw [hoL] at ht; exact ht
              obtain ⟨o', ho', _, _, hN⟩ := hok.op f hlt
              rw [hoL] at ho'; injection ho' with ho'; subst ho'
              have := hN t hdo
              rw [hdo]; simp [Act.put, hm.tm.1, this]
            · rw [if_pos rfl]; exact r2
          · have hf' : Pf' f = true := by simpa [e] using hf
            obtain ⟨g1, g2, g3, g4, g5, _⟩ := hm.pd f hf'
            refine ⟨g1, g2, g3, g4, g5, ?_⟩
            rw [if_neg e]
            exact (hpput E' (w.alloc (.cells ⟨arr⟩ ty)) v' (.refl E') (fun b hb _ => hold b hb) (fun _ _ h => h) f hf').2.2.2.2.2
        · by_cases ef : f = i <;> by_cases eg : g = i
          · rw [ef, eg]
          · have hg' : Pf' g = true := by simpa [eg] using hg
            rw [if_pos ef, if_neg eg] at hb
            have := hbd g hg'
            omega
          · have hf' : Pf' f = true := by simpa [ef] using hf
            rw [if_neg ef, if_pos eg] at hb
            have := hbd f hf'
            omega
          · rw [if_neg ef, if_neg eg] at hb
            exact hm.pi f g (by simpa [ef] using hf) (by simpa [eg] using hg) hb

theorem regDraw_sound (hG : TypesOk P G) (hF : FunsOk P G) (hmix : P.follows .mixedOrders = true) {ih : Code → Tm → Nat → St → Option (Ex × Tm × St)} (hS : Sound P G ih) {id : Nat} {T T' : Tm} {σ σ' : St} {E : Ev} {w : World} {a : Act}
    (hq : regDraw G ih ops.toList T lo σ = some (T', σ')) (hI : Inv E σ G.ng w) (hT : TR E T a.tmps) (hd : DF P df a.defers) (hlo : lo ≤ σ.nx) : (Code.region id ops true).wp P (Post P G df E lo σ w .normal T' σ') a w := by
  unfold regDraw at hq
  split at hq
  · rename_i hok
    have hok := okD_spec hok
    simp only [Option.bind_eq_some_iff, Option.some.injEq, Prod.mk.injEq] at hq
    obtain ⟨⟨V, S, k⟩, h1, hq⟩ := hq
    split at hq
    case h_2 => cases hq
    rename_i hrd
    simp only [Option.bind_eq_some_iff, Option.some.injEq, Prod.mk.injEq] at hq
    obtain ⟨σ1, h2, rfl, rfl⟩ := hq
    obtain ⟨_, g2, g3, g4⟩ := regD_facts hok ops.toList 0 .nil (Tr.nil.set 0 σ) 0 V S k rfl (by simp [rankOf]) h1
    have hS0 : S.get 0 = some σ := by rw [g2 0 (Nat.le_refl _), Tr.get_set]; simp
    refine wp_region_any hmix ?_
    refine drawn_sound (E0 := E) (w0 := w) (σ0 := σ) (df := a.defers) (T0 := T) (V := V) (S := S) hG hF hS hok (fun i hi => g4 i (Nat.zero_le _) hi) (fun i => rdAll_facts ops.toList 0 rfl hrd i (Nat.zero_le _)) hlo ?_ ops.size (Array.replicate ops.size false) (fun _ => false) (fun _ => false) (fun _ => 0) 0 E { w with drawn := w.drawn + 1 } a (by simp) ?_ (fun i => ?_) ?_
    · intro β k' E' w' a' hm
      refine ⟨trivial, hm.df.symm ▸ hd, E', ⟨hm.tm.1, fun t v ht => ?_⟩, ?_⟩
      · refine hm.tm.2 t v (fun f hf => by cases hf) ?_
        have := putD_get V T.t (fun _ => true) t ops.toList.length (L := ops.toList)
        rw [← this]
        have e : (List.range ops.toList.length).filter (fun _ => true) = List.range ops.toList.length := List.filter_eq_self.2 fun _ _ => rfl
        rw [e]
        exact ht
      · obtain ⟨σk, s1, s2, s3⟩ := hm.st
        have hk' : k' = k := by
          have hle := hm.kn
          rw [← g3] at hle
          rcases Nat.lt_or_ge k' k with h | h
          · obtain ⟨l, l1, l2, l3⟩ := rank_ex (G := G) (L := ops.toList) ops.toList.length k' (by rw [← g3]; exact h)
            have := (hm.kk l l1 l2).1 rfl
            omega
          · omega
        subst hk'
        rw [h2] at s1; injection s1 with s1; subst s1
        exact ⟨s2, hm.stp, s3⟩
    · have : ∀ m, ((List.range m).filter fun i => !(Array.replicate ops.size false).getD i false).length = m := fun m => by
        have : (List.range m).filter (fun i => !(Array.replicate ops.size false).getD i false) = List.range m := List.filter_eq_self.2 fun i _ => by
          by_cases h : i < ops.size <;> simp [h]
        rw [this, List.length_range]
      rw [this]
      simp
    · by_cases h : i < ops.size <;> simp [h]
    · refine ⟨(fun i j _ h => by cases h), (fun l _ _ => by simp), ⟨hT.1, fun t v _ ht => hT.2 t v ?_⟩, ⟨σ, hS0, hI.drew rfl, .refl _ _⟩, ⟨.refl E, fun _ _ _ h => .inl h, Nat.le_refl _, rfl, rfl, rfl, fun _ _ _ => rfl⟩, (fun l _ _ h => by cases h), rfl, Nat.zero_le _, (fun f hf => by cases hf), (fun f g hf => by cases hf)⟩
      have : ∀ m, lastW ops.toList V T.t (fun _ => false) t m = T.t.get t := by
        intro m
        induction m with
        | zero => rfl
        | succ m ihm => rw [lastW, if_neg (by simp)]; exact ihm
      rw [← this]
      exact ht
  · cases hq

/-- a loop, round by round -/
theorem loop_sound {n : Nat} (hS : ∀ m, m < n → Sound P G (exec G m)) {b : Code} {e : Ex} {T' : Tm} {σ' : St} : ∀ m, m ≤ n → ∀ (T : Tm) (lo : Nat) (σ : St) (E : Ev) (w : World) (a : Act), exec G m (.loop b) T lo σ = some (e, T', σ') → Inv E σ G.ng w → TR E T a.tmps → DF P df a.defers → lo ≤ σ.nx →
    ∀ (Q : Exit → Act → World → Prop), (∀ x a' w', Post P G df E lo σ w e T' σ' x a' w' → Q x a' w') → Code.rounds P b Q m a w
  | 0, _, T, lo, σ, E, w, a, hq, _, _, _, _, _, _ => by cases hq
  | m + 1, hm, T, lo, σ, E, w, a, hq, hI, hT, hd, hlo, Q, hQ => by
    simp only [exec, Option.bind_eq_some_iff] at hq
    obtain ⟨⟨e1, T1, σ1⟩, h1, h2⟩ := hq
    rw [rounds_succ]
    refine wp_mono (hS m (by omega) _ _ _ _ _ _ _ h1 E w a hI hT hd hlo) ?_
    rintro z a' w' ⟨k1, k2, E', k3, k4, k5, k6⟩
    cases e1 with
    | normal =>
      cases z <;> first | exact k1.elim | skip
      simp only at h2
      refine loop_sound hS m (by omega) T1 lo σ1 E' w' a' h2 k4 k3 k2 (Nat.le_trans hlo k6.nx) Q fun x a2 w2 hx => hQ x a2 w2 ?_
      obtain ⟨g1, g2, E2, g3, g4, g5, g6⟩ := hx
      exact ⟨g1, g2, E2, g3, g4, k5.trans g5 k6.nx, k6.trans g6⟩
    | exit i =>
      injection h2 with h2; injection h2 with e1 h2; injection h2 with e2 e3
      subst e1; subst e2; subst e3
      cases z <;> first | exact k1.elim | exact hQ _ _ _ ⟨k1, k2, E', k3, k4, k5, k6⟩
    | ret =>
      injection h2 with h2; injection h2 with e1 h2; injection h2 with e2 e3
      subst e1; subst e2; subst e3
      cases z <;> first | exact k1.elim | exact hQ _ _ _ ⟨k1, k2, E', k3, k4, k5, k6⟩
theorem exec_step (hG : TypesOk P G) (hF : FunsOk P G) (hmix : P.follows .mixedOrders = true) (n : Nat) (hS : ∀ m, m < n + 1 → Sound P G (exec G m)) : Sound P G (exec G (n + 1)) :=
  fun c T lo σ e T' σ' hq df E w a hI hT hd hlo => by
    have ih := hS n (Nat.lt_succ_self n)
    have hq0 := hq
    have refl : Inv E σ G.ng w ∧ Stp E lo σ.nx w E w ∧ AStp lo σ σ := ⟨hI, .refl _ _ _ _, .refl _ _⟩
    -- one after the other
    have both : ∀ {σ1 : St} {E1 : Ev} {w1 : World} {x : Exit} {a' : Act} {w' : World}, Stp E lo σ.nx w E1 w1 → AStp lo σ σ1 → Post P G df E1 lo σ1 w1 e T' σ' x a' w' → Post P G df E lo σ w e T' σ' x a' w' := fun h1 h2 h3 => by
      obtain ⟨k1, k2, E', k3, k4, k5, k6⟩ := h3
      exact ⟨k1, k2, E', k3, k4, h1.trans k5 h2.nx, h2.trans k6⟩
    simp only [exec] at hq
    split at hq
    · injection hq with hq; injection hq with e1 hq; injection hq with e2 e3
      subst e1; subst e2; subst e3
      exact wp_skip ⟨trivial, hd, E, hT, refl⟩
    · rename_i id ops
      simp only [Option.bind_eq_some_iff, Option.some.injEq, Prod.mk.injEq] at hq
      obtain ⟨⟨T1, σ1⟩, h1, rfl, rfl, rfl⟩ := hq
      refine wp_region ?_
      rw [List.range_eq_range']
      exact regF_sound hG hF ih ops.toList 0 rfl T σ E w a T1 σ1 h1 hI hT hlo fun a' w' E' k1 k2 k3 k4 k5 => ⟨trivial, hd.trans k2, E', k1, k3, k4, k5⟩
    · rename_i id ops
      simp only [Option.bind_eq_some_iff, Option.some.injEq, Prod.mk.injEq] at hq
      obtain ⟨⟨T1, σ1⟩, h1, rfl, rfl, rfl⟩ := hq
      exact regDraw_sound hG hF hmix ih h1 hI hT hd hlo
    · rename_i x y
      simp only [Option.bind_eq_some_iff] at hq
      obtain ⟨⟨e1, T1, σ1⟩, h1, h2⟩ := hq
      refine wp_seq (wp_mono (ih _ _ _ _ _ _ _ h1 E w a hI hT hd hlo) ?_)
      rintro z a' w' ⟨k1, k2, E', k3, k4, k5, k6⟩
      cases e1 with
      | normal =>
        cases z <;> first | exact k1.elim | skip
        simp only at h2
        exact wp_mono (ih _ _ _ _ _ _ _ h2 E' w' a' k4 k3 k2 (Nat.le_trans hlo k6.nx)) fun z a2 w2 hz => both k5 k6 hz
      | exit i =>
        injection h2 with h2; injection h2 with e1 h2; injection h2 with e2 e3
        subst e1; subst e2; subst e3
        cases z <;> first | exact k1.elim | exact ⟨k1, k2, E', k3, k4, k5, k6⟩
      | ret =>
        injection h2 with h2; injection h2 with e1 h2; injection h2 with e2 e3
        subst e1; subst e2; subst e3
        cases z <;> first | exact k1.elim | exact ⟨k1, k2, E', k3, k4, k5, k6⟩
    · rename_i c x y
      simp only [Option.bind_eq_some_iff] at hq
      obtain ⟨v, h1, h2⟩ := hq
      have hv := ev_sound hI.glob hT h1
      split at h2
      · generalize hc : a.eval c = c' at hv
        cases hv
        exact wp_cond_true hc (ih _ _ _ _ _ _ _ h2 E w a hI hT hd hlo)
      · generalize hc : a.eval c = c' at hv
        cases hv
        exact wp_cond_false hc (ih _ _ _ _ _ _ _ h2 E w a hI hT hd hlo)
      · cases h2
    · rename_i id b
      simp only [Option.bind_eq_some_iff] at hq
      obtain ⟨⟨e1, T1, σ1⟩, h1, h2⟩ := hq
      refine wp_block (wp_mono (ih _ _ _ _ _ _ _ h1 E w a hI hT hd hlo) ?_)
      rintro z a' w' ⟨k1, k2, E', k3, k4, k5, k6⟩
      cases e1 with
      | normal =>
        injection h2 with h2; injection h2 with e1 h2; injection h2 with e2 e3
        subst e1; subst e2; subst e3
        cases z <;> first | exact k1.elim | exact ⟨trivial, k2, E', k3, k4, k5, k6⟩
      | exit i =>
        cases z <;> first | exact k1.elim | skip
        rename_i j
        have k1 : i = j := k1
        subst k1
        simp only at h2
        split at h2
        · rename_i hj
          have hj := Nat.eq_of_beq_eq_true hj
          injection h2 with h2; injection h2 with e1 h2; injection h2 with e2 e3
          subst e1; subst e2; subst e3
          simp only [Exit.inBlock, hj, if_true]
          exact ⟨trivial, k2, E', k3, k4, k5, k6⟩
        · rename_i hj
          have hj := Nat.ne_of_beq_eq_false hj
          injection h2 with h2; injection h2 with e1 h2; injection h2 with e2 e3
          subst e1; subst e2; subst e3
          simp only [Exit.inBlock, hj, if_false]
          exact ⟨rfl, k2, E', k3, k4, k5, k6⟩
      | ret =>
        injection h2 with h2; injection h2 with e1 h2; injection h2 with e2 e3
        subst e1; subst e2; subst e3
        cases z <;> first | exact k1.elim | exact ⟨trivial, k2, E', k3, k4, k5, k6⟩
    · rename_i b
      exact wp_loop_rounds (n + 1) (loop_sound hS (n + 1) (Nat.le_refl _) T lo σ E w a hq0 hI hT hd hlo _ fun x a' w' h => h)
    · rename_i b
      refine wp_scope_straight (wp_mono (ih _ _ _ _ _ _ _ hq E w a hI hT hd hlo) ?_)
      rintro z a' w' hz
      cases z <;> first | exact hz | (exact hz.1.elim) | (cases e <;> exact hz.1.elim)
    · injection hq with hq; injection hq with e1 hq; injection hq with e2 e3
      subst e1; subst e2; subst e3
      exact wp_label ⟨trivial, hd, E, hT, refl⟩
    · injection hq with hq; injection hq with e1 hq; injection hq with e2 e3
      subst e1; subst e2; subst e3
      exact wp_exit ⟨rfl, hd, E, hT, refl⟩
    · injection hq with hq; injection hq with e1 hq; injection hq with e2 e3
      subst e1; subst e2; subst e3
      exact wp_ret ⟨trivial, hd, E, hT, refl⟩
    · cases hq
theorem exec_sound (hG : TypesOk P G) (hF : FunsOk P G) (hmix : P.follows .mixedOrders = true) (n : Nat) : Sound P G (exec G n) := by
  have : ∀ n m, m < n → Sound P G (exec G m) := by
    intro n
    induction n with
    | zero => intro m hm; omega
    | succ n ih =>
      intro m hm
      cases m with
      | zero => intro c T lo σ e T' σ' hq; cases hq
      | succ m => exact exec_step hG hF hmix m fun k hk => ih k (by omega)
  exact this (n + 1) n (Nat.lt_succ_self n)
end
end
end Go.Proofs.YtgjbnebmcmoilaaGreatDoor.Ax

namespace Go.Proofs.YtgjbnebmcmoilaaGreatDoor.Ax
noncomputable section
open Go.RowKit

theorem tiOf_ok {P : Program} {t : Nat} {ti : TI} (h : tiOf P t = some ti) : TyOk P t ti := by
  unfold tiOf at h
  split at h
  · rename_i hg
    split at h
    · rename_i i hi
      injection h with h
      subst h
      unfold tyGood at hg
      split at hg
      · rename_i i' k hi' hk
        rw [hi] at hi'
        injection hi' with hi'
        subst hi'
        split at hg
        · rename_i z hz
          simp only [Bool.and_eq_true] at hg
          obtain ⟨g1, g2, g3, g4⟩ := hg
          have hlen : (cellsOf z).length = i.size := by simpa using g2
          refine ⟨⟨i, z, hi, rfl, rfl, hz, ?_, ?_⟩, by simp [hk], rfl, by simp only [hz]; exact g1, by simp only [hz]; exact hlen, ?_, ?_⟩
          · simp only [hz, hk, Option.getD_some]
            cases z with
            | agg c => obtain ⟨c⟩ := c; simp only at g3; rw [g3]; rfl
            | tuple c => cases g3
            | _ =>
              have : aggK k = false := by simpa using g3
              rw [this]; rfl
          · simp only [hz]
            cases z with
            | agg c => obtain ⟨c⟩ := c; rfl
            | tuple c => cases g3
            | _ => rfl
          · intro fs hfs
            simp only [hk, Option.getD_some] at hfs ⊢
            subst hfs
            refine ⟨rfl, fun f hf => ?_⟩
            have := List.all_eq_true.1 g4 f hf
            simp only [Bool.and_eq_true, Option.isSome_iff_exists] at this
            obtain ⟨⟨a, ha⟩, b, hb⟩ := this
            exact ⟨a, b, ha, hb⟩
          · intro hc fs hfs
            simp only [hk, Option.getD_some] at hc hfs
            subst hfs
            simp only [Bool.and_eq_true, List.all_eq_true] at hc
            obtain ⟨c1, c2, c3⟩ := hc
            exact ⟨fun f hf => by simpa using c1 f hf, by simpa using c2, by simpa using c3⟩
        · cases hg
      · cases hg
    · cases h
  · cases h
theorem tysOf_ok {P : Program} {n : Nat} {t : TypeId} {ti : TI} (h : (tysOf P n).get t = some ti) : TyOk P t ti := by
  have := Tr.get_buildF _ _ _ _ h
  rw [List.getElem?_map] at this
  cases hr : (List.range n)[t]? with
  | none => rw [hr] at this; cases this
  | some u =>
    rw [hr] at this
    have hu : u = t := by
      have := List.getElem?_eq_some_iff.1 hr
      obtain ⟨h1, h2⟩ := this
      simpa using h2.symm
    subst hu
    injection this with this
    exact tiOf_ok this
theorem funsOf_ok {P : Program} {f : FuncId} {fn : Func} (h : (funsOf P).get f = some fn) : P.funcs[f]? = some fn := by
  have := Tr.get_buildF _ _ _ _ h
  rw [List.getElem?_map] at this
  cases hr : P.funcs.toList[f]? with
  | none => rw [hr] at this; cases this
  | some u =>
    rw [hr] at this
    simp at this
    subst this
    simpa using hr
/-- no function has the name that the model answers by itself -/
theorem names_ok {P : Program} (h : (P.funcs.toList.all fun f => f.name != "runtime.NumGoroutine") = true) {f : FuncId} {fn : Func} (hf : P.funcs[f]? = some fn) : fn.name ≠ "runtime.NumGoroutine" := by
  have hm : fn ∈ P.funcs.toList := by
    rw [← Array.getElem?_toList] at hf
    exact List.mem_of_getElem? hf
  simpa using List.all_eq_true.1 h fn hm

/-- a function with a Go body, called -/
def callB (G : Gv) (n : Nat) (f : Nat) (args : List Value) (lo : Nat) (σ : St) : Option (Value × St) :=
  (G.funcs.get f).bind fun fn => fn.body.bind fun c => (exec G n c { t := initT args 0 .nil, n := max args.length fn.ntmps } lo σ).bind fun r => match r.1 with
    | .exit _ => none
    | _ => (resOf G r.2.1 r.2.2.h fn.results.toList).bind fun vs => some (tup vs, r.2.2)
theorem callB_sound {P : Program} {G : Gv} (hG : TypesOk P G) (hF : FunsOk P G) (hmix : P.follows .mixedOrders = true) {n : Nat} {f : FuncId} {args args' : List Value} {lo : Nat} {σ σ' : St} {v : Value} {E : Ev} {w : World}
    (hq : callB G n f args lo σ = some (v, σ')) (hI : Inv E σ G.ng w) (hlo : lo ≤ σ.nx) (ha : VRs E args args') :
    Calls P f ⟨args'⟩ w fun e w' => ∃ v' E', e = .returned v' ∧ VR E' v v' ∧ Inv E' σ' G.ng w' ∧ Stp E lo σ.nx w E' w' ∧ AStp lo σ σ' := by
  unfold callB at hq
  simp only [Option.bind_eq_some_iff] at hq
  obtain ⟨fn, h1, c, h2, ⟨e, T', σ1⟩, h3, h4⟩ := hq
  have hf := (hF.funcs f fn h1).1
  have key : ∀ (he : ∀ i, e ≠ .exit i), ((resOf G T' σ1.h fn.results.toList).bind fun vs => some (tup vs, σ1)) = some (v, σ') →
      Calls P f ⟨args'⟩ w fun e w' => ∃ v' E', e = .returned v' ∧ VR E' v v' ∧ Inv E' σ' G.ng w' ∧ Stp E lo σ.nx w E' w' ∧ AStp lo σ σ' := fun he h4 => by
    simp only [Option.bind_eq_some_iff, Option.some.injEq, Prod.mk.injEq] at h4
    obtain ⟨vs, h5, rfl, rfl⟩ := h4
    exact calls_sound hG (exec_sound hG hF hmix n) hI hlo hf h2 ha h3 he h5
  split at h4
  · cases h4
  · rename_i hne
    exact key (fun i hi => hne i hi) h4
/-- nothing that was there has turned -/
theorem Stp.below {E : Ev} {lo nx : Nat} {w : World} {E' : Ev} {w' : World} (h : Stp E lo nx w E' w') (hlo : ∀ j m b, lo ≤ j → E.blk j ≠ some (b, m)) : Below w.heap.size w w' :=
  ⟨h.os, h.tape, h.output, h.size, fun b hb => h.frame b hb fun j m hj => hlo j m b hj⟩
/-- A CALL THAT RETURNS A CLOSED VALUE, and lets all that was there as it was -/
theorem callB_closed {P : Program} {G : Gv} (hG : TypesOk P G) (hF : FunsOk P G) (hmix : P.follows .mixedOrders = true) {n : Nat} {f : FuncId} {args args' : List Value} {σ : St} {v : Value} {E : Ev} {w : World}
    (hq : (callB G n f args σ.nx σ).map (·.1) = some v) (hv : closedS v = true) (hI : Inv E σ G.ng w) (ha : VRs E args args') :
    Calls P f ⟨args'⟩ w fun e w' => e = .returned v ∧ Below w.heap.size w w' := by
  simp only [Option.map_eq_some_iff] at hq
  obtain ⟨⟨v0, σ'⟩, h1, rfl⟩ := hq
  refine Calls.mono (callB_sound hG hF hmix h1 hI (Nat.le_refl _) ha) ?_
  rintro e w' ⟨v', E', rfl, h2, h3, h4, _⟩
  refine ⟨?_, h4.below fun j m b hj => by rw [hI.fresh j hj]; simp⟩
  congr 1
  cases h2 <;> first | rfl | cases hv

/-! ## the beginning: the package's variables alone -/
def E0 (w : World) (ng : Nat) : Ev := { blk := fun g => if g < ng then some (g, match w.heap[g]? with | some (.cells c _ _) => c.size | _ => 0) else none, sym := fun _ => none }
theorem E0_glob (w : World) (ng : Nat) : Glob (E0 w ng) ng := fun g hg => ⟨_, by unfold E0; simp only [hg, if_true]; rfl⟩
/-- what is known of the variables -/
def VarsAre (w : World) (l : List (Nat × List Value)) : Prop := ∀ p ∈ l, closedL p.2 = true ∧ ∃ arr ty fr rest, w.heap[p.1]? = some (.cells arr ty fr) ∧ arr.toList = p.2 ++ rest
def h0Of : List (Nat × List Value) → Tr AO
  | [] => .nil
  | p :: l => (h0Of l).set p.1 (.cells p.2 false)
theorem h0Of_get : ∀ {l : List (Nat × List Value)} {i : Nat} {o : AO}, (h0Of l).get i = some o → ∃ cs, (i, cs) ∈ l ∧ o = .cells cs false
  | [], i, o, h => by simp [h0Of, Tr.get_nil] at h
  | p :: l, i, o, h => by
    rw [h0Of, Tr.get_set] at h
    by_cases e : i = p.1
    · simp [e] at h; subst h; exact ⟨p.2, by simp [e], rfl⟩
    · simp [e] at h; obtain ⟨cs, h1, h2⟩ := h0Of_get h; exact ⟨cs, by simp [h1], h2⟩
theorem Inv0 {w : World} {l : List (Nat × List Value)} {ng nx : Nat} (h : VarsAre w l) (hl : ∀ p ∈ l, p.1 < ng) (hn : ng ≤ nx) (hs : ng ≤ w.heap.size) : Inv (E0 w ng) { h := h0Of l, nx } ng w := by
  refine ⟨fun i o hi => ?_, fun i j o o' b n m hi hj _ _ e1 e2 => ?_, fun i hi => ?_, E0_glob w ng, fun i b n hi => ?_⟩
  · obtain ⟨cs, h1, rfl⟩ := h0Of_get hi
    obtain ⟨h2, arr, ty, fr, rest, h3, h4⟩ := h _ h1
    simp only at h2 h3 h4
    have hlt := hl _ h1
    simp only at hlt
    refine ⟨i, arr.size, arr, ty, fr, by simp [E0, hlt, h3], h3, rfl, (fun h => by cases h), ?_, ?_⟩
    · rw [← Array.length_toList, h4, List.length_append]; omega
    · rw [h4, List.take_left]; exact closedL_VRs h2
  · simp only [E0] at e1 e2
    split at e1
    · split at e2
      · injection e1 with e1; injection e1 with e1 _
        injection e2 with e2; injection e2 with e2 _
        omega
      · cases e2
    · cases e1
  · have : ¬ i < ng := by simp only at hi; omega
    simp [E0, this]
  · simp only [E0] at hi
    split at hi
    · injection hi with hi; injection hi with hi _
      omega
    · cases hi

/-! ## what a variable that is laid holds, cell for cell -/
def tile {H : Type} (P : Program) (f : TypeId → DataW H → Option (List Value)) : List (Nat × TypeId) → List (DataW H) → Nat → Option (List Value × Nat)
  | [], [], off => some ([], off)
  | it :: l, d :: ds, off => match Nat.beq it.1 off with
    | true => (f it.2 d).bind fun c => match Nat.beq c.length (P.cellsOf it.2) with
      | true => (tile P f l ds (off + P.cellsOf it.2)).bind fun r => some (c ++ r.1, r.2)
      | false => none
    | false => none
  | _, _, _ => none
def cellsFor {H : Type} (P : Program) : Nat → TypeId → DataW H → Option (List Value)
  | 0, _, _ => none
  | n + 1, t, d => match P.underlying t, d with
    | some .bool, .lit (.bool b) => some [.bool b]
    | some (.int _), .lit (.int k m) => some [.int k m]
    | some .string, .lit (.string s) => some [.string ⟨⟨s⟩⟩]
    | some (.struct fs), .agg ds => (tile P (cellsFor P n) (fs.toList.map fun f => (f.offset, f.type)) ds 0).bind fun r => match Nat.beq r.2 (P.cellsOf t) with | true => some r.1 | false => none
    | some (.array m e), .agg ds => (tile P (cellsFor P n) ((List.range m).map fun i => (i * P.cellsOf e, e)) ds 0).bind fun r => match Nat.beq r.2 (P.cellsOf t) with | true => some r.1 | false => none
    | _, _ => none
theorem tile_sound {H : Type} {P : Program} {f : TypeId → DataW H → Option (List Value)} {g : TypeId → List Value → Option (DataW H × List MemPlace)} {cs : List Value} (hfg : ∀ t c d p l, g t c = some (d, p) → f t d = some l → c = l) :
    ∀ (its : List (Nat × TypeId)) (xs : List (DataW H × List MemPlace)) (off : Nat) (r : List Value × Nat), its.mapM (fun it => g it.2 ((cs.drop it.1).take (P.cellsOf it.2))) = some xs → tile P f its (xs.map (·.1)) off = some r →
      cs.drop off = r.1 ++ cs.drop r.2 ∧ off ≤ r.2
  | [], xs, off, r, hm, ht => by
    simp at hm
    subst hm
    simp only [List.map_nil, tile, Option.some.injEq] at ht
    subst ht
    simp
  | it :: its, xs, off, r, hm, ht => by
    rw [List.mapM_cons] at hm
    simp only [Option.bind_eq_bind, Option.bind_eq_some_iff, Option.pure_def, Option.some.injEq] at hm
    obtain ⟨⟨d, p⟩, h1, ys, h2, rfl⟩ := hm
    simp only [List.map_cons, tile] at ht
    split at ht
    · rename_i ho
      have ho := Nat.eq_of_beq_eq_true ho
      simp only [Option.bind_eq_some_iff] at ht
      obtain ⟨c, h3, h4⟩ := ht
      split at h4
      · rename_i hl
        have hl := Nat.eq_of_beq_eq_true hl
        simp only [Option.bind_eq_some_iff, Option.some.injEq] at h4
        obtain ⟨r', h5, rfl⟩ := h4
        have hc := hfg _ _ _ _ _ h1 h3
        obtain ⟨h6, h7⟩ := tile_sound hfg its ys (off + P.cellsOf it.2) r' h2 h5
        rw [ho] at hc
        refine ⟨?_, by simp only; omega⟩
        simp only
        rw [List.append_assoc, ← h6, ← hc, ← List.drop_drop, List.take_append_drop]
      · cases h4
    · cases ht
theorem cellsFor_sound {H : Type} {enc : TypeId × Value → H} {P : Program} {w : World} {base : Nat} {sp : Nat → Bool} {held : Bool} : ∀ (n : Nat) (fuel : Nat) (t : TypeId) (cs : List Value) (d : DataW H) (p : List MemPlace) (l : List Value),
    DataW.trod enc P w base sp held fuel t cs = some (d, p) → cellsFor P n t d = some l → cs = l
  | 0, _, _, _, _, _, _, _, h => by cases h
  | n + 1, 0, _, _, _, _, _, h, _ => by simp [DataW.trod] at h
  | n + 1, fuel + 1, t, cs, d, p, l, h, hc => by
    have ih := fun (t : TypeId) (c : List Value) (d : DataW H) (p : List MemPlace) (l : List Value) (h1 : DataW.trod enc P w base sp held fuel t c = some (d, p)) (h2 : cellsFor P n t d = some l) => cellsFor_sound n fuel t c d p l h1 h2
    unfold cellsFor at hc
    split at hc
    · rename_i b hu
      injection hc with hc; subst hc
      unfold DataW.trod at h
      rw [hu] at h
      rcases cs with _ | ⟨c, _ | ⟨c', r⟩⟩
      · cases h
      · cases c <;> first | (cases h; done) | (injection h with h; injection h with h _; injection h with h; injection h with h; subst h; rfl)
      · cases c <;> cases h
    · rename_i k k' m hu
      injection hc with hc; subst hc
      unfold DataW.trod at h
      rw [hu] at h
      rcases cs with _ | ⟨c, _ | ⟨c', r⟩⟩
      · cases h
      · cases c <;> first | (cases h; done) | skip
        rename_i k2 m2
        simp only at h
        split at h
        · rename_i hk
          injection h with h; injection h with h _; injection h with h; injection h with h1 h2
          subst h1; subst h2
          rw [hk.1]
        · cases h
      · cases c <;> cases h
    · rename_i s hu
      injection hc with hc; subst hc
      unfold DataW.trod at h
      rw [hu] at h
      rcases cs with _ | ⟨c, _ | ⟨c', r⟩⟩
      · cases h
      · cases c <;> first | (cases h; done) | skip
        rename_i s2
        simp only at h
        split at h
        · injection h with h; injection h with h _; injection h with h; injection h with h
          subst h
          rfl
        · cases h
      · cases c <;> cases h
    · rename_i fs ds hu
      simp only [Option.bind_eq_some_iff] at hc
      obtain ⟨r, h1, h2⟩ := hc
      split at h2
      · rename_i hr
        have hr := Nat.eq_of_beq_eq_true hr
        injection h2 with h2; subst h2
        have h' : (if cs.length = P.cellsOf t then (fs.toList.mapM fun f => DataW.trod enc P w base sp held fuel f.type ((cs.drop f.offset).take (P.cellsOf f.type))).map fun xs => ((DataW.agg (xs.map (·.1)) : DataW H), xs.flatMap (·.2)) else none) = some (DataW.agg ds, p) := by
          unfold DataW.trod at h
          rw [hu] at h
          exact h
        split at h'
        · rename_i hlen
          rw [Option.map_eq_some_iff] at h'
          obtain ⟨xs, h3, h4⟩ := h'
          injection h4 with h4 _
          injection h4 with h4
          subst h4
          have h3' : (fs.toList.map fun f => (f.offset, f.type)).mapM (fun it => DataW.trod enc P w base sp held fuel it.2 ((cs.drop it.1).take (P.cellsOf it.2))) = some xs := by
            rw [List.mapM_map]; exact h3
          obtain ⟨h5, _⟩ := tile_sound (fun t c d p l a b => ih t c d p l a b) _ xs 0 r h3' h1
          rw [hr, ← hlen, List.drop_length, List.append_nil, List.drop_zero] at h5
          exact h5
        · cases h'
      · cases h2
    · rename_i m e ds hu
      simp only [Option.bind_eq_some_iff] at hc
      obtain ⟨r, h1, h2⟩ := hc
      split at h2
      · rename_i hr
        have hr := Nat.eq_of_beq_eq_true hr
        injection h2 with h2; subst h2
        have h' : (if cs.length = P.cellsOf t then ((List.range m).mapM fun i => DataW.trod enc P w base sp held fuel e ((cs.drop (i * P.cellsOf e)).take (P.cellsOf e))).map fun xs => ((DataW.agg (xs.map (·.1)) : DataW H), xs.flatMap (·.2)) else none) = some (DataW.agg ds, p) := by
          unfold DataW.trod at h
          rw [hu] at h
          exact h
        split at h'
        · rename_i hlen
          rw [Option.map_eq_some_iff] at h'
          obtain ⟨xs, h3, h4⟩ := h'
          injection h4 with h4 _
          injection h4 with h4
          subst h4
          have h3' : ((List.range m).map fun i => (i * P.cellsOf e, e)).mapM (fun it => DataW.trod enc P w base sp held fuel it.2 ((cs.drop it.1).take (P.cellsOf it.2))) = some xs := by
            rw [List.mapM_map]; exact h3
          obtain ⟨h5, _⟩ := tile_sound (fun t c d p l a b => ih t c d p l a b) _ xs 0 r h3' h1
          rw [hr, ← hlen, List.drop_length, List.append_nil, List.drop_zero] at h5
          exact h5
        · cases h'
      · cases h2
    · cases hc
/-- a variable that is laid: its number, its cells -/
def varOf (P : Program) (x : String × DataW Unit) : Option (Nat × List Value) :=
  (P.globalNamed x.1).bind fun g => ((P.globals[g]?).map (·.type)).bind fun t => (cellsFor P 20 t x.2).bind fun l => match closedL l with | true => some (g, l) | false => none
theorem vars_of_laidVars {P : Program} {w : World} : ∀ {laid : List (String × DataW Unit)} {ps : List MemPlace}, DataW.LaidVars P w laid ps → VarsAre w (laid.filterMap (varOf P))
  | [], _, _ => fun p hp => by simp at hp
  | x :: laid, ps, h => by
    obtain ⟨g, t, cs, fuel, p, q, h1, h2, h3, h4, h5, h6⟩ := h
    have ih := vars_of_laidVars h5
    intro y hy
    rw [List.filterMap_cons] at hy
    cases hv : varOf P x with
    | none => rw [hv] at hy; exact ih y hy
    | some z =>
      rw [hv] at hy
      rcases List.mem_cons.1 hy with rfl | hy
      · unfold varOf at hv
        rw [h1, Option.bind_some, h2, Option.bind_some] at hv
        simp only [Option.bind_eq_some_iff] at hv
        obtain ⟨l, h7, h8⟩ := hv
        split at h8
        · rename_i hc
          injection h8 with h8
          subst h8
          have hl := cellsFor_sound 20 fuel t cs.toList x.2 p l h4 h7
          refine ⟨hc, ?_⟩
          unfold World.var? at h3
          rw [h1, Option.bind_some] at h3
          split at h3
          · rename_i c ty fr hh
            injection h3 with h3
            subst h3
            exact ⟨c, ty, fr, [], hh, by rw [List.append_nil]; exact hl⟩
          · cases h3
        · cases h8
      · exact ih y hy
/-- MaxLen holds a number: one variable more -/
theorem VarsAre.cons {w : World} {l : List (Nat × List Value)} (h : VarsAre w l) {g : Nat} {v : Value} (hv : closedS v = true) (hc : w.cell? ⟨g, 0, none⟩ = some v) : VarsAre w ((g, [v]) :: l) := by
  intro p hp
  rcases List.mem_cons.1 hp with rfl | hp
  · refine ⟨by simp [closedL, hv], ?_⟩
    unfold World.cell? at hc
    simp only at hc
    split at hc
    · rename_i c ty fr hh
      rw [if_neg (by simp)] at hc
      refine ⟨c, ty, fr, c.toList.drop 1, hh, ?_⟩
      have hc' : c.toList[0]? = some v := by simpa using hc
      show c.toList = [v] ++ c.toList.drop 1
      generalize c.toList = l' at hc'
      cases l' with
      | nil => simp at hc'
      | cons u l' => simp at hc'; subst hc'; rfl
    · cases hc
  · exact h p hp
end
end Go.Proofs.YtgjbnebmcmoilaaGreatDoor.Ax
