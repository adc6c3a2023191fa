/- Ranges over maps with more entries than one: all orders. -/
import Derived.Test.YthfleaogajbpfaaGreatDoorAxi
set_option linter.unusedVariables false
set_option linter.unusedSimpArgs false
namespace Go.Proofs.YthfleaogajbpfaaGreatDoor.Ax
noncomputable section
open Go.RowKit

def catM {α β : Type} (f : α → Option (List β)) : List α → Option (List β)
  | [] => some []
  | a :: l => (f a).bind fun x => (catM f l).bind fun y => some (x ++ y)
theorem catM_mem {α β : Type} {f : α → Option (List β)} : ∀ {l : List α} {L : List β}, catM f l = some L → ∀ a ∈ l, ∃ x, f a = some x ∧ ∀ b ∈ x, b ∈ L
  | [], L, h, a, ha => by cases ha
  | c :: l, L, h, a, ha => by
    simp only [catM, Option.bind_eq_some_iff, Option.some.injEq] at h
    obtain ⟨x, h1, y, h2, rfl⟩ := h
    rcases List.mem_cons.1 ha with rfl | ha
    · exact ⟨x, h1, fun b hb => List.mem_append_left _ hb⟩
    · obtain ⟨z, h3, h4⟩ := catM_mem h2 a ha
      exact ⟨z, h3, fun b hb => List.mem_append_right _ (h4 b hb)⟩
/-- an iterator's step where more entries than one are left: any of them -/
def lnextM (lo : Nat) (σ : St) (i : Nat) : Option (List (Value × St)) :=
  match Nat.blt i lo with
  | true => none
  | false => match σ.h.get i with
    | some (.iterM (some m) since seen stepped) => match σ.h.get m with
      | some (.map es clock) => match Nat.beq clock since, Nat.beq stepped since && bornB since es with
        | true, true => match leftE seen es with
          | e :: e' :: l => some ((e :: e' :: l).map fun e => (.tuple ⟨[.bool true, e.1, e.2.1]⟩, { σ with h := σ.h.set i (.iterM (some m) since (seen ++ [e.2.2]) clock) }))
          | _ => none
        | _, _ => none
      | _ => none
    | _ => none

section
variable {P : Program} {G : Gv} {E : Ev} {w : World} {a : Act} {T : Tm} {σ : St} {lo : Nat}
theorem MEs.getM {l : List ME} {l' : List MapEntry} (h : MEs E l l') : l'.length = l.length ∧ ∀ (k : Nat) (e' : MapEntry), l'[k]? = some e' → ∃ x y, l[k]? = some (x, y, e'.born) ∧ VR E x e'.key ∧ VR E y e'.val := by
  induction h with
  | nil => exact ⟨rfl, fun k e' h => by simp at h⟩
  | cons x y x' y' b l l' hx hy hs ih =>
    refine ⟨by simp [ih.1], fun k e' h => ?_⟩
    cases k with
    | zero => simp at h; subst h; exact ⟨x, y, rfl, hx, hy⟩
    | succ k => simp at h; simpa using ih.2 k e' h
theorem lnextM_sound (hI : Inv E σ G.ng w) {i b n : Nat} {ty : TypeId} {L0 : List (Value × St)} (hb : E.blk i = some (b, n)) (hq : lnextM lo σ i = some L0) :
    ∃ r ∈ L0, V1Ok G E lo σ w r.1 r.2 ((Instr.next (.pointer (some ⟨b, 0, none⟩)) false ty).run P w) := by
  unfold lnextM at hq
  split at hq
  · cases hq
  · rename_i hil
    have hil := bltF hil
    split at hq
    · rename_i m since seen stepped hi
      split at hq
      · rename_i es clock hm
        split at hq
        · rename_i hcl hst
          have hcl := Nat.eq_of_beq_eq_true hcl
          simp only [Bool.and_eq_true] at hst
          have hst1 := Nat.eq_of_beq_eq_true hst.1
          subst hcl
          subst hst1
          obtain ⟨b', n', m', e1, e2, rb, rn, e3, e4⟩ := hI.heap i _ hi
          subst e4
          rw [hb] at e1
          injection e1 with e1; injection e1 with e1 e1'
          subst e1; subst e1'
          obtain ⟨bm, nm, es', f1, f2, f3⟩ := hI.heap m _ hm
          rw [e3] at f1
          injection f1 with f1; injection f1 with f1 f1'
          subst f1; subst f1'
          have hget : (getObj b).run P w = .ok (.mapIter (some rb) stepped ⟨seen⟩ stepped) w := by simp [getObj, Sem.run, e2]
          have hset : ∀ o (W : World), W.heap = w.heap → (setObj b o).run P W = .ok () { W with heap := W.heap.setIfInBounds b o } := fun o W hW => by simp [setObj, Sem.run, hW, e2]
          have hD : ∀ {σ' : St} {w' : World}, (Inv E σ' G.ng w' ∧ Stp E lo σ.nx w.drew E w' ∧ AStp lo σ σ') → (Inv E σ' G.ng w' ∧ Stp E lo σ.nx w E w' ∧ AStp lo σ σ') := fun h => ⟨h.1, ⟨h.2.1.le, h.2.1.new, h.2.1.size, h.2.1.os, h.2.1.tape, h.2.1.output, h.2.1.frame⟩, h.2.2⟩
          have hborn := born_all f3 hst.2
          have hany : (!(⟨seen⟩ : Array Nat).isEmpty && !es'.isEmpty && es'.all (·.born ≥ stepped)) = false := by
            cases he : es'.isEmpty with
            | true => simp
            | false =>
              have : es'.all (·.born ≥ stepped) = false := by
                rw [Bool.eq_false_iff]
                intro hall
                rw [Array.all_eq_true] at hall
                have h0 : 0 < es'.size := by
                  rcases Nat.eq_zero_or_pos es'.size with h | h
                  · simp [Array.isEmpty, h] at he
                  · exact h
                have h1 := hall 0 h0
                have h2 := hborn es'[0] (by simp)
                simp at h1
                omega
              simp [this]
          have hleft := left_sound (seen := seen) f3
          have hfil : ∀ (l : List MapEntry), (∀ e ∈ l, e.born < stepped) → l.filter (fun e => decide (e.born < stepped)) = l ∧ l.filter (fun e => decide (e.born ≥ stepped)) = [] := fun l hl =>
            ⟨List.filter_eq_self.2 fun e he => by simpa using hl e he, List.filter_eq_nil_iff.2 fun e he => by have := hl e he; simp; omega⟩
          have hmem : ∀ e ∈ es'.toList.filter (fun e => !(⟨seen⟩ : Array Nat).contains e.born), e.born < stepped := fun e he => hborn e ((List.mem_filter.1 he).1)
          obtain ⟨q1, q2⟩ := hfil _ hmem
          have hrun : ∀ L : List MapEntry, es'.toList.filter (fun e => !(⟨seen⟩ : Array Nat).contains e.born) = L → (Instr.next (.pointer (some ⟨b, 0, none⟩)) false ty).run P w = (do
              let candidates := (if L.isEmpty then #[none] else #[]) ++ (L.map some).toArray
              match candidates[← choose (.mapNext candidates.size)]? with
              | some (some e) =>
                setObj b (.mapIter (some rb) stepped ((⟨seen⟩ : Array Nat).push e.born) stepped)
                pure (.tuple #[.bool true, e.key, e.val])
              | some none => pure (.tuple #[.bool false])
              | none => stuck "Next: no such candidate" : Sem Value).run P w := fun L hL => by
            rw [hL] at q1 q2
            have ea : es'.filter (fun e => !(⟨seen⟩ : Array Nat).contains e.born) = ⟨L⟩ := by
              apply Array.ext'
              rw [Array.toList_filter, hL]
            have eb : (⟨L⟩ : Array MapEntry).filter (fun e => decide (e.born < stepped)) = ⟨L⟩ := by
              apply Array.ext'
              rw [Array.toList_filter]; exact q1
            have ec : (⟨L⟩ : Array MapEntry).filter (fun e => decide (e.born ≥ stepped)) = #[] := by
              apply Array.ext'
              rw [Array.toList_filter]; exact q2
            unfold Instr.next
            simp only [Sem.run_bind, hget, Result.andThen_ok, MapKept.run_getObj_map f2, hany, Bool.false_eq_true, if_false, ea, eb, ec]
            have e1 : (⟨L⟩ : Array MapEntry).isEmpty = L.isEmpty := by simp
            have e2 : ((⟨L⟩ : Array MapEntry) ++ #[]).map some = (L.map some).toArray := by apply Array.ext'; simp
            rw [e1, e2]
            rfl
          split at hq
          · rename_i e1 e2' l hl
            injection hq with hq; subst hq
            rw [hl] at hleft
            generalize hL : es'.toList.filter (fun e => !(⟨seen⟩ : Array Nat).contains e.born) = L at hleft
            obtain ⟨hlen, hgetL⟩ := hleft.getM
            have hne : L.isEmpty = false := by cases L with | nil => simp at hlen | cons _ _ => rfl
            have hsz : ((if L.isEmpty then #[none] else #[]) ++ (L.map some).toArray : Array (Option MapEntry)).size = L.length := by simp [hne]
            have hat : ∀ k : Nat, ((if L.isEmpty then #[none] else #[]) ++ (L.map some).toArray : Array (Option MapEntry))[k]? = (L[k]?).map some := fun k => by simp [hne]
            have hnf : (Question.mapNext L.length).forced = false := by
              simp [Question.forced, hlen]
            obtain ⟨k, hk, hch⟩ : ∃ k, k < L.length ∧ (choose (.mapNext L.length)).run P w = .ok k w.drew := by
              refine ⟨_, ?_, by rw [run_choose_drew, hnf]; rfl⟩
              exact Nat.mod_lt _ (by simp [hlen])
            obtain ⟨x, y, h1, h2, h3⟩ := hgetL k L[k] (List.getElem?_eq_getElem hk)
            refine ⟨_, List.mem_map.2 ⟨_, List.mem_of_getElem? h1, rfl⟩, .tuple #[.bool true, L[k].key, L[k].val], { w.drew with heap := w.heap.setIfInBounds b (.mapIter (some rb) stepped ((⟨seen⟩ : Array Nat).push L[k].born) stepped) }, E, ?_,
                .tup _ _ (.cons _ _ _ _ (.bool true) (.cons _ _ _ _ h2 (.cons _ _ _ _ h3 .nil))), ?_⟩
            · rw [hrun _ hL]
              simp only [Sem.run_bind, hsz, hch, Result.andThen_ok, hat, List.getElem?_eq_getElem hk, Option.map_some, Sem.run_pure]
              rw [hset _ w.drew rfl]
              rfl
            · exact hD (setObj_sound (hI.drew (w' := w.drew) rfl) hi rfl hil hb (x := .mapIter (some rb) stepped ⟨seen⟩ stepped) e2 ⟨b, n, some rb, hb, by show (w.heap.setIfInBounds b _)[b]? = _; rw [set_here e2]; simp, rb, rn, e3, rfl⟩)
          · cases hq
        · cases hq
      · cases hq
    · cases hq

/-- the region's operations one by one, in all orders of what is ranged over -/
def regM (G : Gv) (ih : Code → Tm → Nat → St → Option (Ex × Tm × St)) (all : List Oper) (lo : Nat) : List Oper → Tm → St → Option (List (Tm × St))
  | [], T, σ => some [(T, σ)]
  | o :: l, T, σ => (want all T o.guard).bind fun w => match w with
    | false => (putT T o.dst undef).bind fun T' => regM G ih all lo l T' σ
    | true => match op1 G ih T lo σ o.op with
      | some r => (putT T o.dst (r.1.getD undef)).bind fun T' => regM G ih all lo l T' r.2
      | none => match o.op with
        | .next it false => (ev G T it).bind fun v => match v with
          | .pointer (some ⟨i, 0, none⟩) => (lnextM lo σ i).bind fun L => catM (fun r => (putT T o.dst r.1).bind fun T' => regM G ih all lo l T' r.2) L
          | _ => none
        | _ => none
theorem regM_sound (hG : TypesOk P G) (hF : FunsOk P G) {ih : Code → Tm → Nat → St → Option (Ex × Tm × St)} (hS : Sound P G ih) {ops : Array Oper} {Q : Exit → Act → World → Prop} : ∀ (l : List Oper) (i : Nat), ops.toList.drop i = l → ∀ (T : Tm) (σ : St) (E : Ev) (w : World) (a : Act) (L : List (Tm × St)),
    regM G ih ops.toList lo l T σ = some L → Inv E σ G.ng w → TR E T a.tmps → lo ≤ σ.nx →
    (∀ r ∈ L, ∀ a' w' E', TR E' r.1 a'.tmps → DF P a.defers a'.defers → Inv E' r.2 G.ng w' → Stp E lo σ.nx w E' w' → AStp lo σ r.2 → Q .normal a' w') →
    wpOps P ops Q (List.range' i (ops.size - i)) a w
  | [], i, hl, T, σ, E, w, a, L, hq, hI, hT, hlo, hK => by
    simp only [regM, Option.some.injEq] at hq
    subst hq
    have : ops.size ≤ i := by simpa using List.drop_eq_nil_iff.1 hl
    rw [Nat.sub_eq_zero_of_le this]
    exact hK (T, σ) (List.mem_singleton.2 rfl) a w E hT (DF.refl _ _) hI (.refl _ _ _ _) (.refl _ _)
  | o :: l, i, hl, T, σ, E, w, a, L, hq, hI, hT, hlo, hK => by
    have hlt : i < ops.size := by
      rcases Nat.lt_or_ge i ops.size with h | h
      · exact h
      · rw [List.drop_eq_nil_of_le (by simpa using h)] at hl; cases hl
    have ho : ops[i]? = some o := by
      have : (ops.toList.drop i)[0]? = some o := by rw [hl]; rfl
      simpa using this
    have hl' : ops.toList.drop (i + 1) = l := by
      have : (ops.toList.drop i).drop 1 = l := by rw [hl]; rfl
      simpa using this
    rw [show ops.size - i = (ops.size - (i + 1)) + 1 by omega, List.range'_succ]
    unfold wpOps
    rw [ho]
    simp only
    simp only [regM, Option.bind_eq_some_iff] at hq
    obtain ⟨b, h1, h2⟩ := hq
    have hw := want_sound (o := o) hT h1
    cases b with
    | false =>
      simp only [Option.bind_eq_some_iff] at h2
      obtain ⟨T1, h3, h4⟩ := h2
      rw [if_neg (by simp [hw])]
      have hT1 := hT.put h3 (undef_VR (E := E))
      exact regM_sound hG hF hS l (i + 1) hl' T1 σ E w (a.put o.dst undef) L h4 hI hT1 hlo fun r hr a' w' E' k1 k2 k3 k4 k5 => hK r hr a' w' E' k1 (put_defers a o.dst undef ▸ k2) k3 k4 k5
    | true =>
      rw [if_pos (by simp [hw])]
      dsimp only at h2
      split at h2
      · rename_i r h3
        obtain ⟨ov, σ1⟩ := r
        simp only [Option.bind_eq_some_iff] at h2
        obtain ⟨T1, h4, h5⟩ := h2
        refine .inl (op1_sound hG hF hS hI hT hlo h3 fun v' w' E' g1 g2 g3 g4 => ?_)
        have hT1 : TR E' T1 (a.put o.dst v').tmps := (hT.mono g3.le).put h4 g1
        refine regM_sound hG hF hS l (i + 1) hl' T1 σ1 E' w' (a.put o.dst v') L h5 g2 hT1 (Nat.le_trans hlo g4.nx) fun r hr a' w2 E2 k1 k2 k3 k4 k5 => ?_
        exact hK r hr a' w2 E2 k1 (put_defers a o.dst v' ▸ k2) k3 (g3.trans k4 g4.nx) (g4.trans k5)
      · split at h2
        · rename_i it hop
          simp only [Option.bind_eq_some_iff] at h2
          obtain ⟨v, h3, h4⟩ := h2
          have hx := ev_sound hI.glob hT h3
          split at h4
          · rename_i j
            simp only [Option.bind_eq_some_iff] at h4
            obtain ⟨L0, h5, h6⟩ := h4
            generalize hc : a.eval it = x' at hx
            cases hx with
            | ptr _ bb n _ hb =>
              obtain ⟨r, hr, v', w', E', g0, g1, g2, g3, g4⟩ := lnextM_sound (P := P) (ty := o.type) hI hb h5
              obtain ⟨L1, h7, h8⟩ := catM_mem h6 r hr
              simp only [Option.bind_eq_some_iff] at h7
              obtain ⟨T1, h9, h10⟩ := h7
              refine .inl ?_
              unfold Oper.wp
              have hrun : (execOp a.eval o).run P w = .ok (.value v') w' := by
                unfold execOp
                rw [hop]
                simp only [hc, Sem.run_bind, g0, Result.andThen_ok, Sem.run_pure]
              rw [hrun, Oper.upon_value]
              have hT1 : TR E' T1 (a.put o.dst v').tmps := (hT.mono g3.le).put h9 g1
              refine regM_sound hG hF hS l (i + 1) hl' T1 r.2 E' w' (a.put o.dst v') L1 h10 g2 hT1 (Nat.le_trans hlo g4.nx) fun r2 hr2 a' w2 E2 k1 k2 k3 k4 k5 => ?_
              exact hK r2 (h8 r2 hr2) a' w2 E2 k1 (put_defers a o.dst v' ▸ k2) k3 (g3.trans k4 g4.nx) (g4.trans k5)
          · cases h4
        · cases h2

def execM (G : Gv) : Nat → Code → Tm → Nat → St → Option (List (Ex × Tm × St))
  | 0, _, _, _, _ => none
  | n + 1, c, T, lo, σ =>
    match c with
    | .skip => some [(.normal, T, σ)]
    | .region _ ops false => (regM G (exec G n) ops.toList lo ops.toList T σ).bind fun L => some (L.map fun r => (.normal, r.1, r.2))
    | .region _ ops true => (regDraw G (exec G n) ops.toList T lo σ).bind fun r => some [(.normal, r.1, r.2)]
    | .seq a b => (execM G n a T lo σ).bind fun L => catM (fun r => match r.1 with
      | .normal => execM G n b r.2.1 lo r.2.2
      | e => some [(e, r.2.1, r.2.2)]) L
    | .cond c t e => (ev G T c).bind fun v => match v with
      | .bool true => execM G n t T lo σ
      | .bool false => execM G n e T lo σ
      | _ => none
    | .block id b => (execM G n b T lo σ).bind fun L => some (L.map fun r => match r.1 with
      | .exit j => match Nat.beq j id with | true => (.normal, r.2.1, r.2.2) | false => (.exit j, r.2.1, r.2.2)
      | e => (e, r.2.1, r.2.2))
    | .loop b => (execM G n b T lo σ).bind fun L => catM (fun r => match r.1 with
      | .normal => execM G n (.loop b) r.2.1 lo r.2.2
      | e => some [(e, r.2.1, r.2.2)]) L
    | .scope b => execM G n b T lo σ
    | .label _ => some [(.normal, T, σ)]
    | .exit id => some [(.exit id, T, σ)]
    | .ret => some [(.ret, T, σ)]
    | _ => none
def PostM (P : Program) (G : Gv) (df : List Deferred) (E : Ev) (lo : Nat) (σ : St) (w : World) (L : List (Ex × Tm × St)) : Exit → Act → World → Prop := fun x a' w' =>
  ∃ r ∈ L, Post P G df E lo σ w r.1 r.2.1 r.2.2 x a' w'
def SoundM (P : Program) (G : Gv) (ih : Code → Tm → Nat → St → Option (List (Ex × Tm × St))) : Prop := ∀ c T lo σ L, ih c T lo σ = some L → ∀ ⦃df : List Deferred⦄ E w a, Inv E σ G.ng w → TR E T a.tmps → DF P df a.defers → lo ≤ σ.nx → c.wp P (PostM P G df E lo σ w L) a w
theorem Post.after {df : List Deferred} {E E1 : Ev} {σ1 : St} {w1 : World} {e : Ex} {T' : Tm} {σ' : St} {x : Exit} {a' : Act} {w' : World} (h1 : Stp E lo σ.nx w E1 w1) (h2 : AStp lo σ σ1) (h3 : Post P G df E1 lo σ1 w1 e T' σ' x a' w') : Post P G df E lo σ w e T' σ' x a' w' := by
  obtain ⟨k1, k2, E', k3, k4, k5, k6⟩ := h3
  exact ⟨k1, k2, E', k3, k4, h1.trans k5 h2.nx, h2.trans k6⟩
theorem loopM_sound {n : Nat} (hS : ∀ m, m < n → SoundM P G (execM G m)) {b : Code} : ∀ m, m ≤ n → ∀ (T : Tm) (lo : Nat) (σ : St) (E : Ev) (w : World) (a : Act) (L : List (Ex × Tm × St)) {df : List Deferred}, execM G m (.loop b) T lo σ = some L → Inv E σ G.ng w → TR E T a.tmps → DF P df a.defers → lo ≤ σ.nx →
    ∀ (Q : Exit → Act → World → Prop), (∀ x a' w', PostM P G df E lo σ w L x a' w' → Q x a' w') → Code.rounds P b Q m a w
  | 0, _, T, lo, σ, E, w, a, L, df, hq, _, _, _, _, _, _ => by cases hq
  | m + 1, hm, T, lo, σ, E, w, a, L, df, hq, hI, hT, hd, hlo, Q, hQ => by
    simp only [execM, Option.bind_eq_some_iff] at hq
    obtain ⟨L1, h1, h2⟩ := hq
    rw [rounds_succ]
    refine wp_mono (hS m (by omega) _ _ _ _ _ h1 E w a hI hT hd hlo) ?_
    rintro z a' w' ⟨⟨e1, T1, σ1⟩, hr, k1, k2, E', k3, k4, k5, k6⟩
    obtain ⟨L2, h3, h4⟩ := catM_mem h2 _ hr
    cases e1 with
    | normal =>
      cases z <;> first | exact k1.elim | skip
      simp only at h3
      refine loopM_sound hS m (by omega) T1 lo σ1 E' w' a' L2 h3 k4 k3 k2 (Nat.le_trans hlo k6.nx) Q fun x a2 w2 hx => hQ x a2 w2 ?_
      obtain ⟨r, hr2, hp⟩ := hx
      exact ⟨r, h4 r hr2, hp.after k5 k6⟩
    | exit i =>
      injection h3 with h3
      subst h3
      cases z <;> first | exact k1.elim | exact hQ _ _ _ ⟨_, h4 _ (List.mem_singleton.2 rfl), k1, k2, E', k3, k4, k5, k6⟩
    | ret =>
      injection h3 with h3
      subst h3
      cases z <;> first | exact k1.elim | exact hQ _ _ _ ⟨_, h4 _ (List.mem_singleton.2 rfl), k1, k2, E', k3, k4, k5, k6⟩
theorem execM_step (hG : TypesOk P G) (hF : FunsOk P G) (hmix : P.follows .mixedOrders = true) (n : Nat) (hS : ∀ m, m < n + 1 → SoundM P G (execM G m)) : SoundM P G (execM G (n + 1)) :=
  fun c T lo σ L hq df E w a hI hT hd hlo => by
    have ih := hS n (Nat.lt_succ_self n)
    have hx := exec_sound hG hF hmix n
    have hq0 := hq
    have refl : Inv E σ G.ng w ∧ Stp E lo σ.nx w E w ∧ AStp lo σ σ := ⟨hI, .refl _ _ _ _, .refl _ _⟩
    simp only [execM] at hq
    split at hq
    · injection hq with hq; subst hq
      exact wp_skip ⟨_, List.mem_singleton.2 rfl, trivial, hd, E, hT, refl⟩
    · rename_i id ops
      simp only [Option.bind_eq_some_iff, Option.some.injEq] at hq
      obtain ⟨L1, h1, rfl⟩ := hq
      refine wp_region ?_
      rw [List.range_eq_range']
      exact regM_sound hG hF hx ops.toList 0 rfl T σ E w a L1 h1 hI hT hlo fun r hr a' w' E' k1 k2 k3 k4 k5 => ⟨_, List.mem_map.2 ⟨r, hr, rfl⟩, trivial, hd.trans k2, E', k1, k3, k4, k5⟩
    · rename_i id ops
      simp only [Option.bind_eq_some_iff, Option.some.injEq] at hq
      obtain ⟨r1, h1, rfl⟩ := hq
      obtain ⟨T1, σ1⟩ := r1
      exact wp_mono (regDraw_sound hG hF hmix hx h1 hI hT hd hlo) fun x a' w' h => ⟨_, List.mem_singleton.2 rfl, h⟩
    · rename_i x y
      simp only [Option.bind_eq_some_iff] at hq
      obtain ⟨L1, h1, h2⟩ := hq
      refine wp_seq (wp_mono (ih _ _ _ _ _ h1 E w a hI hT hd hlo) ?_)
      rintro z a' w' ⟨⟨e1, T1, σ1⟩, hr, k1, k2, E', k3, k4, k5, k6⟩
      obtain ⟨L2, h3, h4⟩ := catM_mem h2 _ hr
      cases e1 with
      | normal =>
        cases z <;> first | exact k1.elim | skip
        simp only at h3
        exact wp_mono (ih _ _ _ _ _ h3 E' w' a' k4 k3 k2 (Nat.le_trans hlo k6.nx)) fun z a2 w2 ⟨r, hr2, hz⟩ => ⟨r, h4 r hr2, hz.after k5 k6⟩
      | exit i =>
        injection h3 with h3
        subst h3
        cases z <;> first | exact k1.elim | exact ⟨_, h4 _ (List.mem_singleton.2 rfl), k1, k2, E', k3, k4, k5, k6⟩
      | ret =>
        injection h3 with h3
        subst h3
        cases z <;> first | exact k1.elim | exact ⟨_, h4 _ (List.mem_singleton.2 rfl), k1, k2, E', k3, k4, k5, k6⟩
    · rename_i c x y
      simp only [Option.bind_eq_some_iff] at hq
      obtain ⟨v, h1, h2⟩ := hq
      have hv := ev_sound hI.glob hT h1
      split at h2
      · generalize hc : a.eval c = c' at hv
        cases hv
        exact wp_cond_true hc (ih _ _ _ _ _ h2 E w a hI hT hd hlo)
      · generalize hc : a.eval c = c' at hv
        cases hv
        exact wp_cond_false hc (ih _ _ _ _ _ h2 E w a hI hT hd hlo)
      · cases h2
    · rename_i id b
      simp only [Option.bind_eq_some_iff, Option.some.injEq] at hq
      obtain ⟨L1, h1, rfl⟩ := hq
      refine wp_block (wp_mono (ih _ _ _ _ _ h1 E w a hI hT hd hlo) ?_)
      rintro z a' w' ⟨⟨e1, T1, σ1⟩, hr, k1, k2, E', k3, k4, k5, k6⟩
      have hm := List.mem_map_of_mem (f := fun r : Ex × Tm × St => match r.1 with
        | .exit j => match Nat.beq j id with | true => ((.normal : Ex), r.2.1, r.2.2) | false => (.exit j, r.2.1, r.2.2)
        | e => (e, r.2.1, r.2.2)) hr
      cases e1 with
      | normal => cases z <;> first | exact k1.elim | exact ⟨_, hm, trivial, k2, E', k3, k4, k5, k6⟩
      | exit i =>
        cases z <;> first | exact k1.elim | skip
        rename_i j
        have k1 : i = j := k1
        subst k1
        cases hj : Nat.beq i id with
        | true =>
          have hj' := Nat.eq_of_beq_eq_true hj
          simp only [hj] at hm
          simp only [Exit.inBlock, hj', if_true]
          exact ⟨_, hm, trivial, k2, E', k3, k4, k5, k6⟩
        | false =>
          have hj' := Nat.ne_of_beq_eq_false hj
          simp only [hj] at hm
          simp only [Exit.inBlock, hj', if_false]
          exact ⟨_, hm, rfl, k2, E', k3, k4, k5, k6⟩
      | ret => cases z <;> first | exact k1.elim | exact ⟨_, hm, trivial, k2, E', k3, k4, k5, k6⟩
    · rename_i b
      exact wp_loop_rounds (n + 1) (loopM_sound hS (n + 1) (Nat.le_refl _) T lo σ E w a L hq0 hI hT hd hlo _ fun x a' w' h => h)
    · rename_i b
      refine wp_scope_straight (wp_mono (ih _ _ _ _ _ hq E w a hI hT hd hlo) ?_)
      rintro z a' w' ⟨r, hr, hz⟩
      obtain ⟨e, T1, σ1⟩ := r
      cases z <;> first | exact ⟨_, hr, hz⟩ | (exact hz.1.elim) | (cases e <;> exact hz.1.elim)
    · injection hq with hq; subst hq
      exact wp_label ⟨_, List.mem_singleton.2 rfl, trivial, hd, E, hT, refl⟩
    · injection hq with hq; subst hq
      exact wp_exit ⟨_, List.mem_singleton.2 rfl, rfl, hd, E, hT, refl⟩
    · injection hq with hq; subst hq
      exact wp_ret ⟨_, List.mem_singleton.2 rfl, trivial, hd, E, hT, refl⟩
    · cases hq
theorem execM_sound (hG : TypesOk P G) (hF : FunsOk P G) (hmix : P.follows .mixedOrders = true) (n : Nat) : SoundM P G (execM G n) := by
  have : ∀ n m, m < n → SoundM P G (execM G m) := by
    intro n
    induction n with
    | zero => intro m hm; omega
    | succ n ih =>
      intro m hm
      cases m with
      | zero => intro c T lo σ L hq; cases hq
      | succ m => exact execM_step hG hF hmix m fun k hk => ih k (by omega)
  exact this (n + 1) n (Nat.lt_succ_self n)

/-! ## a call, in all orders -/
def callM (G : Gv) (n : Nat) (f : Nat) (args : List Value) (lo : Nat) (σ : St) : Option (List (Value × St)) :=
  (G.funcs.get f).bind fun fn => fn.body.bind fun c => (execM G n c { t := initT args 0 .nil, n := max args.length fn.ntmps } lo σ).bind fun L =>
    catM (fun r => match r.1 with
      | .exit _ => none
      | _ => (resOf G r.2.1 r.2.2.h fn.results.toList).bind fun vs => some [(tup vs, r.2.2)]) L
theorem callM_sound (hG : TypesOk P G) (hF : FunsOk P G) (hmix : P.follows .mixedOrders = true) {n : Nat} {f : FuncId} {args args' : List Value} {L : List (Value × St)}
    (hq : callM G n f args lo σ = some L) (hI : Inv E σ G.ng w) (hlo : lo ≤ σ.nx) (ha : VRs E args args') :
    Calls P f ⟨args'⟩ w fun e w' => ∃ r ∈ L, ∃ v' E', e = .returned v' ∧ VR E' r.1 v' ∧ Inv E' r.2 G.ng w' ∧ Stp E lo σ.nx w E' w' ∧ AStp lo σ r.2 := by
  unfold callM at hq
  simp only [Option.bind_eq_some_iff] at hq
  obtain ⟨fn, h1, c, h2, L0, h3, h4⟩ := hq
  have hf := (hF.funcs f fn h1).1
  refine calls_of_wp_defers hf h2 ?_
  have hl := ha.length
  have hT0 : TR E { t := initT args 0 .nil, n := max args.length fn.ntmps } ((⟨args'⟩ : Array Value) ++ Array.replicate (fn.ntmps - (⟨args'⟩ : Array Value).size) undef) := by
    refine ⟨by simp; omega, fun t v ht => ?_⟩
    simp only [initT_get] at ht
    split at ht
    · rename_i hlt
      obtain ⟨v', h1, h2⟩ := ha.get ht
      refine ⟨v', ?_, h2⟩
      rw [Nat.sub_zero] at h1
      have : t < args'.length := (List.getElem?_eq_some_iff.1 h1).1
      rw [Array.getElem?_append_left (by simpa using this)]
      simpa using h1
    · simp [Tr.get_nil] at ht
  refine wp_mono (execM_sound hG hF hmix n _ _ _ _ _ h3 E w { tmps := (⟨args'⟩ : Array Value) ++ Array.replicate (fn.ntmps - (⟨args'⟩ : Array Value).size) undef, defers := [] } hI hT0 (DF.refl P []) hlo) ?_
  rintro x a' w' ⟨⟨e, T', σ'⟩, hr, hxr, hd, E', hT', hI', hst, has⟩
  obtain ⟨L1, h5, h6⟩ := catM_mem h4 _ hr
  have key : ((resOf G T' σ'.h fn.results.toList).bind fun vs => some [(tup vs, σ')]) = some L1 → Leaves P fn a'.tmps (fun e w' => ∃ r ∈ L, ∃ v' E', e = .returned v' ∧ VR E' r.1 v' ∧ Inv E' r.2 G.ng w' ∧ Stp E lo σ.nx w E' w' ∧ AStp lo σ r.2) a'.defers .returning w' := fun h5 => by
    simp only [Option.bind_eq_some_iff, Option.some.injEq] at h5
    obtain ⟨vs, h7, rfl⟩ := h5
    obtain ⟨v', h8, h9⟩ := resOf_sound (fn := fn) hG hI'.heap hT' h7
    obtain ⟨ds, hds, hqd⟩ := hd
    rw [List.append_nil] at hds
    subst hds
    exact leaves_quiet h9 ⟨_, h6 _ (List.mem_singleton.2 rfl), v', E', rfl, h8, hI', hst, has⟩ _ hqd
  cases e with
  | normal => cases x <;> first | exact hxr.elim | exact key h5
  | exit i => cases h5
  | ret => cases x <;> first | exact hxr.elim | exact key h5
def memoRunM (r : Option (List (Value × St))) (m : Memo) : Bool :=
  match r with
  | some L => L.all fun p => memoRun (some p) m
  | none => false
theorem memo_runM (hG : TypesOk P G) (hF : FunsOk P G) (hmix : P.follows .mixedOrders = true) {N : Nat} {f : FuncId} {m : Memo} {base : Nat} (hst : memoOk base G.ng m = true) (hr : ∀ n, memoRunM (callM G N f m.args base (m.st n)) m = true)
    (n : Int) (E : Ev) (w : World) (args' : List Value) (hI : Inv E (m.st n) G.ng w) (ha : VRs E m.args args') : Calls P f ⟨args'⟩ w fun e w' => ∃ v' E' σ', e = .returned v' ∧ VR E' m.v v' ∧ Inv E' σ' G.ng w' ∧ σ'.nx = m.nx' ∧
      (∀ i o, (i, o) ∈ m.post → o.live = true → σ'.h.get i = some o) ∧ Stp E base m.nx w E' w' := by
  have h := hr n
  unfold memoRunM at h
  split at h
  · rename_i L hc
    refine (callM_sound hG hF hmix hc hI (memoOk_spec hst).bn ha).mono ?_
    rintro e w' ⟨⟨v, σ'⟩, hrL, v', E', rfl, h1, h2, h3, _⟩
    have h := List.all_eq_true.1 h _ hrL
    simp only [memoRun, Bool.and_eq_true] at h
    have hv := eqV_sound h.1
    simp only at h1
    rw [hv] at h1
    exact ⟨v', E', σ', rfl, h1, h2, Nat.eq_of_beq_eq_true h.2.1, fun i o => hasLive_sound h.2.2 i o, h3⟩
  · cases h
end
end
end Go.Proofs.YthfleaogajbpfaaGreatDoor.Ax
