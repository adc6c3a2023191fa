/- Calls whose runs are known; the frame. -/
import Derived.Test.YtgjbnebmcmoilaaGreatDoorAxh
set_option linter.unusedVariables false
set_option linter.unusedSimpArgs false
namespace Go.Proofs.YtgjbnebmcmoilaaGreatDoor.Ax
noncomputable section
open Go.RowKit

/-! ## does a value speak of these numbers alone? -/
def vinA (D : Nat → Bool) : Option Addr → Bool
  | none => true
  | some a => D a.block
def vinS (D : Nat → Bool) : Value → Bool
  | .pointer a => vinA D a
  | .slice a _ _ => vinA D a
  | .map (some r) => D r
  | .func _ _ _ => false
  | .agg _ | .tuple _ => false
  | _ => true
def vinSL (D : Nat → Bool) : List Value → Bool
  | [] => true
  | v :: l => vinS D v && vinSL D l
def vinF (D : Nat → Bool) : Value → Bool
  | .func _ ⟨a⟩ ⟨b⟩ => vinSL D a && vinSL D b
  | v => vinS D v
def vinFL (D : Nat → Bool) : List Value → Bool
  | [] => true
  | v :: l => vinF D v && vinFL D l
def vin (D : Nat → Bool) : Value → Bool
  | .agg ⟨l⟩ => vinFL D l
  | .tuple ⟨l⟩ => vinFL D l
  | v => vinF D v
def vinL (D : Nat → Bool) : List Value → Bool
  | [] => true
  | v :: l => vin D v && vinL D l
def vinML (D : Nat → Bool) : List ME → Bool
  | [] => true
  | (k, v, _) :: l => vin D k && (vin D v && vinML D l)
def vinO (D : Nat → Bool) : AO → Bool
  | .cells cs _ => vinL D cs
  | .map es _ => vinML D es
  | _ => false
def Ev.restrict (E : Ev) (D : Nat → Bool) : Ev := { blk := fun i => if D i = true then E.blk i else none, sym := E.sym }
variable {E : Ev} {D : Nat → Bool}
theorem Ev.restrict_get {i : Nat} (h : D i = true) : (E.restrict D).blk i = E.blk i := by simp [Ev.restrict, h]
theorem Ev.restrict_some {i : Nat} {x : Nat × Nat} (h : (E.restrict D).blk i = some x) : D i = true ∧ E.blk i = some x := by
  unfold Ev.restrict at h
  simp only at h
  split at h
  · rename_i hd; exact ⟨hd, h⟩
  · cases h
theorem VR.resS {v v' : Value} (h : VR E v v') (hv : vinS D v = true) : VR (E.restrict D) v v' := by
  cases h with
  | bool b => exact .bool b
  | int k n => exact .int k n
  | str s => exact .str s
  | nilp => exact .nilp
  | ptr i b n o h => exact .ptr i b n o ((Ev.restrict_get hv).trans h)
  | nils l c => exact .nils l c
  | sl i b n o l c h => exact .sl i b n o l c ((Ev.restrict_get hv).trans h)
  | sli i b n es o l c c' h hc hn => exact .sli i b n es o l c c' ((Ev.restrict_get hv).trans h) hc hn
  | nilm => exact .nilm
  | mp i b n h => exact .mp i b n ((Ev.restrict_get hv).trans h)
  | nilf => exact .nilf
  | nili => exact .nili
  | fn f a b a' b' ha hb => cases hv
  | agg a a' ha => cases hv
  | tup a a' ha => cases hv
  | sym k v h h1 => exact .sym k v' h h1
  | emp p c => exact .emp p c
theorem VRs.resS : ∀ {l l' : List Value}, VRs E l l' → vinSL D l = true → VRs (E.restrict D) l l'
  | [], _, h, _ => by cases h; exact .nil
  | v :: l, _, h, hv => by
    cases h with
    | cons _ v' _ l' h1 h2 =>
      simp only [vinSL, Bool.and_eq_true] at hv
      exact .cons _ _ _ _ (h1.resS hv.1) (VRs.resS h2 hv.2)
theorem VR.resF {v v' : Value} (h : VR E v v') (hv : vinF D v = true) : VR (E.restrict D) v v' := by
  cases h with
  | fn f a b a' b' ha hb =>
    simp only [vinF, Bool.and_eq_true] at hv
    exact .fn f a b a' b' (ha.resS hv.1) (hb.resS hv.2)
  | bool b => exact VR.resS (.bool b) hv
  | int k n => exact VR.resS (.int k n) hv
  | str s => exact VR.resS (.str s) hv
  | nilp => exact VR.resS .nilp hv
  | ptr i b n o h => exact VR.resS (.ptr i b n o h) hv
  | nils l c => exact VR.resS (.nils l c) hv
  | sl i b n o l c h => exact VR.resS (.sl i b n o l c h) hv
  | sli i b n es o l c c' h hc hn => exact VR.resS (.sli i b n es o l c c' h hc hn) hv
  | nilm => exact VR.resS .nilm hv
  | mp i b n h => exact VR.resS (.mp i b n h) hv
  | nilf => exact VR.resS .nilf hv
  | nili => exact VR.resS .nili hv
  | agg a a' ha => cases hv
  | tup a a' ha => cases hv
  | sym k v h h1 => exact VR.resS (.sym k v' h h1) hv
  | emp p c => exact VR.resS (.emp p c) hv
theorem VRs.resF : ∀ {l l' : List Value}, VRs E l l' → vinFL D l = true → VRs (E.restrict D) l l'
  | [], _, h, _ => by cases h; exact .nil
  | v :: l, _, h, hv => by
    cases h with
    | cons _ v' _ l' h1 h2 =>
      simp only [vinFL, Bool.and_eq_true] at hv
      exact .cons _ _ _ _ (h1.resF hv.1) (VRs.resF h2 hv.2)
theorem VR.res {v v' : Value} (h : VR E v v') (hv : vin D v = true) : VR (E.restrict D) v v' := by
  cases h with
  | agg a a' ha => exact .agg _ _ (ha.resF hv)
  | tup a a' ha => exact .tup _ _ (ha.resF hv)
  | bool b => exact VR.resF (.bool b) hv
  | int k n => exact VR.resF (.int k n) hv
  | str s => exact VR.resF (.str s) hv
  | nilp => exact VR.resF .nilp hv
  | ptr i b n o h => exact VR.resF (.ptr i b n o h) hv
  | nils l c => exact VR.resF (.nils l c) hv
  | sl i b n o l c h => exact VR.resF (.sl i b n o l c h) hv
  | sli i b n es o l c c' h hc hn => exact VR.resF (.sli i b n es o l c c' h hc hn) hv
  | nilm => exact VR.resF .nilm hv
  | mp i b n h => exact VR.resF (.mp i b n h) hv
  | nilf => exact VR.resF .nilf hv
  | nili => exact VR.resF .nili hv
  | fn f a b a' b' ha hb => exact VR.resF (.fn f a b a' b' ha hb) hv
  | sym k v h h1 => exact VR.resF (.sym k v' h h1) hv
  | emp p c => exact VR.resF (.emp p c) hv
theorem VRs.res : ∀ {l l' : List Value}, VRs E l l' → vinL D l = true → VRs (E.restrict D) l l'
  | [], _, h, _ => by cases h; exact .nil
  | v :: l, _, h, hv => by
    cases h with
    | cons _ v' _ l' h1 h2 =>
      simp only [vinL, Bool.and_eq_true] at hv
      exact .cons _ _ _ _ (h1.res hv.1) (VRs.res h2 hv.2)
theorem MEs.res {l : List ME} {l' : List MapEntry} (h : MEs E l l') (hv : vinML D l = true) : MEs (E.restrict D) l l' := by
  induction h with
  | nil => exact .nil
  | cons k v k' v' b l l' hk hv' hs ih =>
    simp only [vinML, Bool.and_eq_true] at hv
    exact .cons _ _ _ _ _ _ _ (hk.res hv.1) (hv'.res hv.2.1) (ih hv.2.2)
theorem OR.res {w : World} {i : Nat} {o : AO} (h : OR E w i o) (hi : D i = true) (hv : vinO D o = true) : OR (E.restrict D) w i o := by
  cases o with
  | cells cs rw => obtain ⟨b, n, arr, ty, fr, h1, h2, h3, h4, h5, h6⟩ := h; exact ⟨b, n, arr, ty, fr, (Ev.restrict_get hi).trans h1, h2, h3, h4, h5, h6.res hv⟩
  | map es c => obtain ⟨b, n, es', h1, h2, h3⟩ := h; exact ⟨b, n, es', (Ev.restrict_get hi).trans h1, h2, h3.res hv⟩
  | iterS s pos => cases hv
  | iterM m a s t => cases hv
  | dead => cases hv

/-! ## lists of numbers -/
theorem eqVL_sound : ∀ {a b : List Value}, eqVL a b = true → a = b
  | [], [], _ => rfl
  | [], _ :: _, h => by cases h
  | _ :: _, [], h => by cases h
  | a :: l, b :: k, h => by
    simp only [eqVL, Bool.and_eq_true] at h
    rw [eqV_sound h.1, eqVL_sound h.2]
theorem eqML_sound : ∀ {a b : List ME}, eqML a b = true → a = b
  | [], [], _ => rfl
  | [], _ :: _, h => by cases h
  | _ :: _, [], h => by cases h
  | (a, b, n) :: l, (c, d, m) :: k, h => by
    simp only [eqML, Bool.and_eq_true] at h
    rw [eqV_sound h.1, eqV_sound h.2.1, Nat.eq_of_beq_eq_true h.2.2.1, eqML_sound h.2.2.2]
theorem eqO_sound {a b : AO} (h : eqO a b = true) : a = b := by
  unfold eqO at h
  split at h
  · simp only [Bool.and_eq_true] at h; rw [eq_of_beq h.1, eqVL_sound h.2]
  · simp only [Bool.and_eq_true] at h; rw [Nat.eq_of_beq_eq_true h.1, eqML_sound h.2]
  · rfl
  · cases h
theorem hasAll_sound {h : Tr AO} : ∀ {l : List (Nat × AO)}, hasAll h l = true → ∀ i o, (i, o) ∈ l → h.get i = some o
  | [], _, i, o, hm => by cases hm
  | (j, p) :: l, hq, i, o, hm => by
    simp only [hasAll] at hq
    split at hq
    · rename_i o' ho'
      split at hq
      · rename_i he
        rcases List.mem_cons.1 hm with hm | hm
        · injection hm with h1 h2; subst h1; subst h2
          rw [ho', eqO_sound he]
        · exact hasAll_sound hq i o hm
      · cases hq
    · cases hq
def inL : List (Nat × AO) → Nat → Bool
  | [], _ => false
  | (j, _) :: l, i => Nat.beq j i || inL l i
theorem inL_iff : ∀ {l : List (Nat × AO)} {i : Nat}, inL l i = true ↔ ∃ o, (i, o) ∈ l
  | [], i => by simp [inL]
  | (j, o) :: l, i => by
    simp only [inL, Bool.or_eq_true, inL_iff (l := l), List.mem_cons, Prod.mk.injEq]
    constructor
    · rintro (h | ⟨p, hp⟩)
      · exact ⟨o, .inl ⟨(Nat.eq_of_beq_eq_true h).symm, rfl⟩⟩
      · exact ⟨p, .inr hp⟩
    · rintro ⟨p, ⟨rfl, rfl⟩ | hp⟩
      · exact .inl (by simp)
      · exact .inr ⟨p, hp⟩
theorem setAll_get : ∀ (l : List (Nat × AO)) (h : Tr AO) (i : Nat) (o : AO), (setAll h l).get i = some o → (i, o) ∈ l ∨ (inL l i = false ∧ h.get i = some o)
  | [], h, i, o, hg => .inr ⟨rfl, hg⟩
  | (j, p) :: l, h, i, o, hg => by
    rcases setAll_get l (h.set j p) i o hg with h1 | ⟨h1, h2⟩
    · exact .inl (List.mem_cons_of_mem _ h1)
    · rw [Tr.get_set] at h2
      split at h2
      · rename_i e
        injection h2 with h2
        subst e; subst h2
        exact .inl (by simp)
      · rename_i e
        exact .inr ⟨by simp only [inL, h1, Bool.or_false]; exact Bool.eq_false_iff.2 fun hb => e (Nat.eq_of_beq_eq_true hb).symm, h2⟩
theorem setAll_none : ∀ (l : List (Nat × AO)) (h : Tr AO) (i : Nat), inL l i = false → (setAll h l).get i = h.get i
  | [], h, i, _ => rfl
  | (j, p) :: l, h, i, hi => by
    simp only [inL, Bool.or_eq_false_iff] at hi
    rw [setAll, setAll_none l _ i hi.2, Tr.get_set, if_neg]
    intro e
    subst e
    simp at hi

/-! ## one known call -/
/-- what it sees at first: the variables and pre -/
def Memo.st (m : Memo) (n : Int) : St := { h := setAll (Tr.nil.set m.mx (.cells [.int .i64 n] false)) m.pre, nx := m.nx }
/-- what is asked of its text -/
def memoOk (base ng : Nat) (m : Memo) : Bool :=
  Nat.blt m.mx ng && (Nat.ble ng base && (Nat.ble base m.nx && (Nat.ble m.nx m.nx' && ((m.pre.all fun p => match Nat.blt p.1 base with
    | true => Nat.blt p.1 ng && vinO (fun i => Nat.blt i ng || inL m.pre i) p.2
    | false => Nat.blt p.1 m.nx && (vinO (fun i => Nat.blt i ng || inL m.pre i) p.2 && inL m.post p.1)) &&
    ((m.post.all fun p => Nat.ble base p.1 && (Nat.blt p.1 m.nx' && (Nat.ble m.nx p.1 || inL m.pre p.1))) && (!inL m.pre m.mx && vinL (fun i => Nat.blt i ng || inL m.pre i) m.args))))))
/-- what is asked of its run -/
def memoRun (r : Option (Value × St)) (m : Memo) : Bool :=
  match r with
  | some (v, σ) => eqV v m.v && (Nat.beq σ.nx m.nx' && hasLive σ.h m.post)
  | none => false
where hasLive (h : Tr AO) : List (Nat × AO) → Bool
  | [] => true
  | (i, .dead) :: l => hasLive h l
  | (i, o) :: l => match h.get i with
    | some o' => eqO o' o && hasLive h l
    | none => false
theorem hasLive_sound {h : Tr AO} : ∀ {l : List (Nat × AO)}, memoRun.hasLive h l = true → ∀ i o, (i, o) ∈ l → o.live = true → h.get i = some o
  | [], _, i, o, hm, _ => by cases hm
  | (j, p) :: l, hq, i, o, hm, hl => by
    cases p with
    | dead =>
      rcases List.mem_cons.1 hm with hm | hm
      · injection hm with h1 h2; subst h2; cases hl
      · exact hasLive_sound (l := l) hq i o hm hl
    | cells a b =>
      simp only [memoRun.hasLive] at hq
      split at hq
      · rename_i o' ho'
        simp only [Bool.and_eq_true] at hq
        rcases List.mem_cons.1 hm with hm | hm
        · injection hm with h1 h2; subst h1; subst h2; rw [ho', eqO_sound hq.1]
        · exact hasLive_sound hq.2 i o hm hl
      · cases hq
    | map a b =>
      simp only [memoRun.hasLive] at hq
      split at hq
      · rename_i o' ho'
        simp only [Bool.and_eq_true] at hq
        rcases List.mem_cons.1 hm with hm | hm
        · injection hm with h1 h2; subst h1; subst h2; rw [ho', eqO_sound hq.1]
        · exact hasLive_sound hq.2 i o hm hl
      · cases hq
    | iterS a b =>
      simp only [memoRun.hasLive] at hq
      split at hq
      · rename_i o' ho'
        simp only [Bool.and_eq_true] at hq
        rcases List.mem_cons.1 hm with hm | hm
        · injection hm with h1 h2; subst h1; subst h2; rw [ho', eqO_sound hq.1]
        · exact hasLive_sound hq.2 i o hm hl
      · cases hq
    | iterM a b c d =>
      simp only [memoRun.hasLive] at hq
      split at hq
      · rename_i o' ho'
        simp only [Bool.and_eq_true] at hq
        rcases List.mem_cons.1 hm with hm | hm
        · injection hm with h1 h2; subst h1; subst h2; rw [ho', eqO_sound hq.1]
        · exact hasLive_sound hq.2 i o hm hl
      · cases hq

theorem vinO_live {o : AO} (h : vinO D o = true) : o.live = true := by cases o <;> first | rfl | cases h
structure MemoOk (base ng : Nat) (m : Memo) : Prop where
  mx : m.mx < ng
  nb : ng ≤ base
  bn : base ≤ m.nx
  nn : m.nx ≤ m.nx'
  pre : ∀ i o, (i, o) ∈ m.pre → vinO (fun i => Nat.blt i ng || inL m.pre i) o = true ∧ (base ≤ i → inL m.post i = true)
  post : ∀ i o, (i, o) ∈ m.post → base ≤ i
  nmx : inL m.pre m.mx = false
  args : vinL (fun i => Nat.blt i ng || inL m.pre i) m.args = true
theorem memoOk_spec {base ng : Nat} {m : Memo} (h : memoOk base ng m = true) : MemoOk base ng m := by
  simp only [memoOk, Bool.and_eq_true, List.all_eq_true] at h
  obtain ⟨h1, h2, h3, h4, h5, h6, h7, h8⟩ := h
  refine ⟨by simpa using h1, by simpa using h2, by simpa using h3, by simpa using h4, fun i o hm => ?_, fun i o hm => ?_, by simpa using h7, h8⟩
  · have := h5 (i, o) hm
    simp only at this
    split at this
    · rename_i hb
      simp only [Bool.and_eq_true] at this
      have hb : i < base := by simpa using hb
      exact ⟨this.2, fun hi => by omega⟩
    · simp only [Bool.and_eq_true] at this
      exact ⟨this.2.1, fun _ => this.2.2⟩
  · have := h6 (i, o) hm
    simp only [Bool.and_eq_true] at this
    simpa using this.1

/-- THE FRAME: what was not in sight stays as it is -/
theorem memo_frame {P : Program} {G : Gv} {f : FuncId} {m : Memo} {base : Nat} (hst : memoOk base G.ng m = true)
    (hrun : ∀ (n : Int) (E : Ev) (w : World) (args' : List Value), Inv E (m.st n) G.ng w → VRs E m.args args' → Calls P f ⟨args'⟩ w fun e w' => ∃ v' E' σ', e = .returned v' ∧ VR E' m.v v' ∧ Inv E' σ' G.ng w' ∧ σ'.nx = m.nx' ∧
      (∀ i o, (i, o) ∈ m.post → o.live = true → σ'.h.get i = some o) ∧ Stp E base m.nx w E' w')
    {E : Ev} {w : World} {lo : Nat} {σ : St} {args args' : List Value} {v : Value} {σ' : St} (hI : Inv E σ G.ng w) (hlo : lo ≤ σ.nx) (hq : memo1 base lo m σ args = some (v, σ')) (ha : VRs E args args') :
    Calls P f ⟨args'⟩ w fun e w' => ∃ v' E', e = .returned v' ∧ VR E' v v' ∧ Inv E' σ' G.ng w' ∧ Stp E lo σ.nx w E' w' ∧ AStp lo σ σ' := by
  have hok := memoOk_spec hst
  unfold memo1 at hq
  split at hq
  case h_2 => cases hq
  rename_i q1
  split at hq
  case h_2 => cases hq
  rename_i q2
  split at hq
  case h_2 => cases hq
  rename_i q3
  split at hq
  case h_2 => cases hq
  rename_i q4
  injection hq with hq
  injection hq with e1 e2
  subst e1
  subst e2
  simp only [Bool.and_eq_true] at q1
  have hnx : σ.nx = m.nx := Nat.eq_of_beq_eq_true q1.1
  have hlb : lo ≤ base := by simpa using q1.2
  have hargs := eqVL_sound q2
  subst hargs
  have hpre := hasAll_sound q4
  obtain ⟨n, hn⟩ : ∃ n, σ.h.get m.mx = some (.cells [.int .i64 n] false) := by
    cases hg : σ.h.get m.mx with
    | none => rw [hg] at q3; cases q3
    | some o =>
      rw [hg] at q3
      unfold isInt at q3
      split at q3
      · rename_i n he; injection he with he; exact ⟨n, by rw [he]⟩
      · cases q3
  have hD : ∀ i o, (i, o) ∈ m.pre → (Nat.blt i G.ng || inL m.pre i) = true := fun i o hm => by
    rw [inL_iff.2 ⟨o, hm⟩]; simp
  have hget : ∀ i o, (m.st n).h.get i = some o → σ.h.get i = some o ∧ (Nat.blt i G.ng || inL m.pre i) = true ∧ vinO (fun i => Nat.blt i G.ng || inL m.pre i) o = true := fun i o hg => by
    rcases setAll_get _ _ _ _ hg with h1 | ⟨h1, h2⟩
    · exact ⟨hpre i o h1, hD i o h1, (hok.pre i o h1).1⟩
    · rw [Tr.get_set] at h2
      split at h2
      · rename_i e
        injection h2 with h2
        subst e; subst h2
        have hb : Nat.blt m.mx G.ng = true := by simpa using hok.mx
        exact ⟨hn, by rw [hb]; rfl, rfl⟩
      · cases h2
  have hI1 : Inv (E.restrict fun i => Nat.blt i G.ng || inL m.pre i) (m.st n) G.ng w := by
    refine ⟨fun i o hg => ?_, fun i j o o' b x y h1 h2 h3 h4 h5 h6 => ?_, fun i hi => ?_, fun g hg => ?_, fun i b x hb => ?_⟩
    · obtain ⟨g1, g2, g3⟩ := hget i o hg
      exact (hI.heap i o g1).res g2 g3
    · exact hI.inj i j o o' b x y (hget i o h1).1 (hget j o' h2).1 h3 h4 (Ev.restrict_some h5).2 (Ev.restrict_some h6).2
    · have : E.blk i = none := hI.fresh i (by rw [hnx]; exact hi)
      unfold Ev.restrict
      simp only
      split
      · exact this
      · rfl
    · obtain ⟨x, hx⟩ := hI.glob g hg
      have hb : Nat.blt g G.ng = true := by simpa using hg
      exact ⟨x, (Ev.restrict_get (by rw [hb]; rfl)).trans hx⟩
    · exact hI.bnd i b x (Ev.restrict_some hb).2
  refine (hrun n _ w args' hI1 (ha.res hok.args)).mono ?_
  rintro e w' ⟨v', E1, σp, rfl, hv, hIp, hpx, hpost, hst1⟩
  -- those in sight
  have hin : ∀ j b x, base ≤ j → (E.restrict fun i => Nat.blt i G.ng || inL m.pre i).blk j = some (b, x) → ∃ o, (j, o) ∈ m.pre ∧ σ.h.get j = some o ∧ o.live = true ∧ E.blk j = some (b, x) := fun j b x hj hb => by
    obtain ⟨h1, h2⟩ := Ev.restrict_some hb
    have hnb := hok.nb
    have hlt : Nat.blt j G.ng = false := by
      cases hx : Nat.blt j G.ng with
      | false => rfl
      | true =>
        have : j < G.ng := by simpa using hx
        omega
    rw [hlt, Bool.false_or] at h1
    obtain ⟨o, ho⟩ := inL_iff.1 h1
    exact ⟨o, ho, hpre j o ho, vinO_live (hok.pre j o ho).1, h2⟩
  have hnew : ∀ i b x, E1.blk i = some (b, x) → E.blk i = some (b, x) ∨ (σ.nx ≤ i ∧ E.blk i = none ∧ (w.heap.size ≤ b ∨ ∃ j y, base ≤ j ∧ (E.restrict fun i => Nat.blt i G.ng || inL m.pre i).blk j = some (b, y))) := fun i b x hb => by
    rcases hst1.new i b x hb with h | ⟨h1, h2⟩
    · exact .inl (Ev.restrict_some h).2
    · exact .inr ⟨by omega, hI.fresh i (by omega), h2⟩
  let E2 : Ev := { blk := fun i => match E.blk i with | some x => some x | none => E1.blk i, sym := E.sym }
  have hle : E.Le E2 := ⟨fun i x h => by show (match E.blk i with | some x => some x | none => E1.blk i) = _; rw [h], fun _ => rfl⟩
  have hle1 : E1.Le E2 := ⟨fun i x h => by
    show (match E.blk i with | some x => some x | none => E1.blk i) = _
    obtain ⟨b, y⟩ := x
    rcases hnew i b y h with h1 | ⟨_, h1, _⟩
    · rw [h1]
    · rw [h1]; exact h, fun i => by
    show E.sym i = _
    exact (hst1.le.sym i).symm⟩
  have hE2 : ∀ i x, E2.blk i = some x → E.blk i = some x ∨ (E.blk i = none ∧ E1.blk i = some x) := fun i x h => by
    have h : (match E.blk i with | some x => some x | none => E1.blk i) = some x := h
    cases hb : E.blk i with
    | some y => rw [hb] at h; exact .inl h
    | none => rw [hb] at h; exact .inr ⟨rfl, h⟩
  have hkeep : ∀ i o b x, σ.h.get i = some o → o.live = true → E.blk i = some (b, x) → ¬ (inL m.pre i = true ∧ base ≤ i) → w'.heap[b]? = w.heap[b]? := fun i o b x hg hl hb hni => by
    refine hst1.frame b (hI.bnd i b x hb) fun j y hj hbj => ?_
    obtain ⟨o', g1, g2, g3, g4⟩ := hin j b y hj hbj
    have := hI.inj i j o o' b x y hg g2 hl g3 hb g4
    subst this
    exact hni ⟨inL_iff.2 ⟨o', g1⟩, hj⟩
  have hold : ∀ i, inL m.post i = false → ¬ (inL m.pre i = true ∧ base ≤ i) := fun i hi ⟨h1, h2⟩ => by
    obtain ⟨o, ho⟩ := inL_iff.1 h1
    rw [(hok.pre i o ho).2 h2] at hi
    cases hi
  refine ⟨v', E2, rfl, hv.mono hle1, ⟨fun i o hg => ?_, fun i j o o' b x y h1 h2 h3 h4 h5 h6 => ?_, fun i hi => ?_, fun g hg => ?_, fun i b x hb => ?_⟩, ⟨hle, fun i b x hb => ?_, hst1.size, hst1.os, hst1.tape, hst1.output, fun b hb hj => hst1.frame b hb fun j y h1 h2 => hj j y (by omega) (Ev.restrict_some h2).2⟩, ⟨by simp only; rw [hnx]; exact hok.nn, fun i hi => ?_⟩⟩
  · cases hl : o.live with
    | false => cases o <;> first | trivial | cases hl
    | true =>
      rcases setAll_get _ _ _ _ hg with h1 | ⟨h1, h2⟩
      · exact (hIp.heap i o (hpost i o h1 hl)).mono hle1
      · exact ((hI.heap i o h2).congr fun _ b x hb => hkeep i o b x h2 hl hb (hold i h1)).mono hle
  · have cls : ∀ i o b x, (setAll σ.h m.post).get i = some o → o.live = true → E2.blk i = some (b, x) → (inL m.post i = true ∧ σp.h.get i = some o ∧ base ≤ i ∧ E1.blk i = some (b, x)) ∨ (inL m.post i = false ∧ σ.h.get i = some o ∧ E.blk i = some (b, x)) := fun i o b x hg hl hb => by
      rcases setAll_get _ _ _ _ hg with k1 | ⟨k1, k2⟩
      · have k3 := hpost i o k1 hl
        obtain ⟨b', x', _, k4, _⟩ := (hIp.heap i o k3).blk hl
        have k5 := hle1.blk i _ k4
        rw [hb] at k5
        exact .inl ⟨inL_iff.2 ⟨o, k1⟩, k3, hok.post i o k1, by rw [k4, ← k5]⟩
      · obtain ⟨b', x', _, k4, _⟩ := (hI.heap i o k2).blk hl
        have k5 := hle.blk i _ k4
        rw [hb] at k5
        exact .inr ⟨k1, k2, by rw [k4, ← k5]⟩
    have mixed : ∀ i j o o' b x y, (inL m.post i = true ∧ σp.h.get i = some o ∧ base ≤ i ∧ E1.blk i = some (b, x)) → (inL m.post j = false ∧ σ.h.get j = some o' ∧ E.blk j = some (b, y)) → o.live = true → o'.live = true → False := fun i j o o' b x y ⟨c1, c2, c3, c4⟩ ⟨d1, d2, d3⟩ hl hl' => by
      rcases hnew i b x c4 with k1 | ⟨k1, k2, k3 | ⟨j2, y2, k3, k4⟩⟩
      · rcases hst1.new i b x c4 with k2 | ⟨k2, _⟩
        · obtain ⟨o2, g1, g2, g3, g4⟩ := hin i b x c3 k2
          have := hI.inj i j o2 o' b x y g2 d2 g3 hl' g4 d3
          subst this
          rw [c1] at d1; cases d1
        · rw [hI.fresh i (by omega)] at k1; cases k1
      · have := hI.bnd j b y d3
        omega
      · obtain ⟨o2, g1, g2, g3, g4⟩ := hin j2 b y2 k3 k4
        have := hI.inj j2 j o2 o' b y2 y g2 d2 g3 hl' g4 d3
        subst this
        exact hold j2 d1 ⟨inL_iff.2 ⟨o2, g1⟩, k3⟩
    rcases cls i o b x h1 h3 h5 with c | c <;> rcases cls j o' b y h2 h4 h6 with d | d
    · exact hIp.inj i j o o' b x y c.2.1 d.2.1 h3 h4 c.2.2.2 d.2.2.2
    · exact (mixed i j o o' b x y c d h3 h4).elim
    · exact (mixed j i o' o b y x d c h4 h3).elim
    · exact hI.inj i j o o' b x y c.2.1 d.2.1 h3 h4 c.2.2 d.2.2
  · have hi : m.nx' ≤ i := hi
    have k1 : E.blk i = none := hI.fresh i (by have := hok.nn; omega)
    have k2 : E1.blk i = none := hIp.fresh i (by omega)
    show (match E.blk i with | some x => some x | none => E1.blk i) = none
    rw [k1]; exact k2
  · obtain ⟨x, hx⟩ := hI.glob g hg
    exact ⟨x, hle.blk _ _ hx⟩
  · rcases hE2 i _ hb with k | ⟨_, k⟩
    · exact Nat.lt_of_lt_of_le (hI.bnd i b x k) hst1.size
    · exact hIp.bnd i b x k
  · rcases hE2 i _ hb with k | ⟨k1, k2⟩
    · exact .inl k
    · rcases hnew i b x k2 with k | ⟨k3, _, k4 | ⟨j, y, k4, k5⟩⟩
      · exact .inl k
      · exact .inr ⟨k3, .inl k4⟩
      · exact .inr ⟨k3, .inr ⟨j, y, by omega, (Ev.restrict_some k5).2⟩⟩
  · refine setAll_none _ _ _ (Bool.eq_false_iff.2 fun h => ?_)
    obtain ⟨o, ho⟩ := inL_iff.1 h
    have := hok.post i o ho
    omega
/-- from its run -/
theorem memo_run {P : Program} {G : Gv} (hG : TypesOk P G) (hF : FunsOk P G) (hmix : P.follows .mixedOrders = true) {N : Nat} {f : FuncId} {m : Memo} {base : Nat} (hst : memoOk base G.ng m = true) (hr : ∀ n, memoRun (callB G N f m.args base (m.st n)) m = true)
    (n : Int) (E : Ev) (w : World) (args' : List Value) (hI : Inv E (m.st n) G.ng w) (ha : VRs E m.args args') : Calls P f ⟨args'⟩ w fun e w' => ∃ v' E' σ', e = .returned v' ∧ VR E' m.v v' ∧ Inv E' σ' G.ng w' ∧ σ'.nx = m.nx' ∧
      (∀ i o, (i, o) ∈ m.post → o.live = true → σ'.h.get i = some o) ∧ Stp E base m.nx w E' w' := by
  have h := hr n
  unfold memoRun at h
  split at h
  · rename_i v σ' hc
    simp only [Bool.and_eq_true] at h
    have hv := eqV_sound h.1
    subst hv
    refine (callB_sound hG hF hmix hc hI (memoOk_spec hst).bn ha).mono ?_
    rintro e w' ⟨v', E', rfl, h1, h2, h3, _⟩
    exact ⟨v', E', σ', rfl, h1, h2, Nat.eq_of_beq_eq_true h.2.1, fun i o => hasLive_sound h.2.2 i o, h3⟩
  · cases h
/-- many of them -/
theorem memoF_of {P : Program} {G : Gv} {f : FuncId} {base : Nat} : ∀ (l : List Memo), (∀ m ∈ l, ∀ (E : Ev) (w : World) (lo : Nat) (σ : St) (args args' : List Value) (v : Value) (σ' : St), Inv E σ G.ng w → lo ≤ σ.nx → memo1 base lo m σ args = some (v, σ') → VRs E args args' →
      Calls P f ⟨args'⟩ w fun e w' => ∃ v' E', e = .returned v' ∧ VR E' v v' ∧ Inv E' σ' G.ng w' ∧ Stp E lo σ.nx w E' w' ∧ AStp lo σ σ') →
    ∀ (E : Ev) (w : World) (lo : Nat) (σ : St) (args args' : List Value) (v : Value) (σ' : St), Inv E σ G.ng w → lo ≤ σ.nx → memoF base lo σ args l = some (v, σ') → VRs E args args' →
      Calls P f ⟨args'⟩ w fun e w' => ∃ v' E', e = .returned v' ∧ VR E' v v' ∧ Inv E' σ' G.ng w' ∧ Stp E lo σ.nx w E' w' ∧ AStp lo σ σ'
  | [], _, _, _, _, _, _, _, _, _, _, _, h, _ => by cases h
  | m :: l, hm, E, w, lo, σ, args, args', v, σ', hI, hlo, h, ha => by
    unfold memoF at h
    split at h
    · rename_i r hr
      injection h with h
      subst h
      exact hm m (by simp) E w lo σ args args' v σ' hI hlo hr ha
    · exact memoF_of l (fun m' h' => hm m' (by simp [h'])) E w lo σ args args' v σ' hI hlo h ha
end
end Go.Proofs.YtgjbnebmcmoilaaGreatDoor.Ax
