/- Loud operations: writes, appends, new blocks. -/
import Derived.Test.YtgjbnebmcmoilaaGreatDoorAxc
import Derived.Laws.NewFold
import Derived.Defers
import Derived.Laws.MakeOwn
set_option linter.unusedVariables false
set_option linter.unusedSimpArgs false
namespace Go.Proofs.YtgjbnebmcmoilaaGreatDoor.Ax
open Go.RowKit

section
variable {P : Program} {G : Gv} {E : Ev} {w : World} {a : Act} {T : Tm} {σ : St} {lo : Nat}

theorem splice_take {A V : List Value} {off c : Nat} (h1 : off + V.length ≤ c) (h2 : c ≤ A.length) :
    (A.take off ++ V ++ A.drop (off + V.length)).take c = (A.take c).take off ++ V ++ (A.take c).drop (off + V.length) := by
  have e1 : (A.take off ++ V).length = off + V.length := by simp; omega
  rw [List.take_append, List.take_of_length_le (by omega), e1, List.take_take, Nat.min_eq_left (by omega), List.drop_take]
/-- a write into a row -/
theorem wr_sound (hI : Inv E σ G.ng w) {i b n off : Nat} {vs vs' : List Value} {σ' : St} (hb : E.blk i = some (b, n)) (hv : VRs E vs vs') (hw : wr lo σ i off vs = some σ') :
    ∃ w', (storeCells ⟨b, off, none⟩ vs').run P w = .ok () w' ∧ Inv E σ' G.ng w' ∧ Stp E lo σ.nx w E w' ∧ AStp lo σ σ' := by
  unfold wr at hw
  split at hw
  · cases hw
  · rename_i hlo
    have hlo : lo ≤ i := Nat.not_lt.1 fun e => by rw [show Nat.blt i lo = true by simpa using e] at hlo; cases hlo
    split at hw
    · rename_i cs hi
      split at hw
      · rename_i ho
        simp only [Option.bind_eq_some_iff, Option.some.injEq] at hw
        obtain ⟨cs1, h1, rfl⟩ := hw
        obtain ⟨rfl, h2⟩ := splice_spec h1
        obtain ⟨b', n', arr, ty, fr, e1, e2, e3, e4, e5, e6⟩ := hI.heap i _ hi
        rw [hb] at e1
        injection e1 with e1; injection e1 with e1 e1'
        subst e1; subst e1'
        have e4 := e4 rfl
        subst e4
        have hl := hv.length
        have hfit : off + 0 + vs'.length ≤ arr.size := by omega
        have hrun := run_storeCells_at P b off ty vs' 0 arr w e2 hfit (hv.ones ho)
        simp only [Nat.add_zero] at hrun
        refine ⟨_, hrun, ?_⟩
        refine hI.upd hi rfl hlo hb (fun x hx => setRow_other w b x _ hx) (setRow_size w b _) rfl rfl rfl ?_
        refine ⟨b, n, _, ty, (0, 0), hb, setRow_heap w b arr _ ty (0, 0) e2, ?_, fun _ => rfl, ?_, ?_⟩
        · simp; omega
        · simp; omega
        · have hlen : (cs.take off ++ vs ++ cs.drop (off + vs.length)).length = cs.length := by simp; omega
          rw [hlen]
          rw [splice_take (by omega) (by simp; omega), hl]
          exact ((e6.take off).append hv).append (e6.drop _)
      · cases hw
    · cases hw

/-- a block that is kept whole -/
theorem OR.cellsOf_new {E : Ev} {w : World} {i b : Nat} {cs cs' : List Value} {ty : TypeId} {rest : List Value} (hb : E.blk i = some (b, cs'.length + rest.length)) (hw : w.heap[b]? = some (.cells ⟨cs' ++ rest⟩ ty (0, 0))) (hv : VRs E cs cs') : OR E w i (.cells cs true) := by
  refine ⟨b, _, ⟨cs' ++ rest⟩, ty, (0, 0), hb, hw, by simp, fun _ => rfl, by have := hv.length; omega, ?_⟩
  have := hv.length
  simp only
  rw [← this, List.take_left]
  exact hv
/-- new cells -/
theorem put_sound (hI : Inv E σ G.ng w) (hlo : lo ≤ σ.nx) {cs cs' rest : List Value} {ty : TypeId} {w' : World} (hv : VRs E cs cs') (hh : w'.heap = w.heap.push (.cells ⟨cs' ++ rest⟩ ty)) (hos : w'.os = w.os) (hta : w'.tape = w.tape) (hou : w'.output = w.output) :
    let E' := E.ext σ.nx w.heap.size (cs'.length + rest.length)
    Inv E' (put σ (.cells cs true)) G.ng w' ∧ Stp E lo σ.nx w E' w' ∧ AStp lo σ (put σ (.cells cs true)) := by
  have hle := Ev.ext_le (b := w.heap.size) (n := cs'.length + rest.length) (hI.fresh σ.nx (Nat.le_refl _))
  refine hI.alloc hlo hh hos hta hou ?_
  exact OR.cellsOf_new (ty := ty) (rest := rest) (Ev.ext_here _ _ _ _) (by rw [hh, Array.getElem?_push]; simp) (hv.mono hle)

/-- what an operation that is not quiet comes to -/
def R1Ok (P : Program) (G : Gv) (E : Ev) (lo : Nat) (σ : St) (w : World) (r : R1) (x : Result Next) : Prop :=
  match r with
  | .val v σ' => ∃ v' w' E', x = .ok (.value v') w' ∧ VR E' v v' ∧ Inv E' σ' G.ng w' ∧ Stp E lo σ.nx w E' w' ∧ AStp lo σ σ'
  | .skip σ' => ∃ w' E', x = .ok .skip w' ∧ Inv E' σ' G.ng w' ∧ Stp E lo σ.nx w E' w' ∧ AStp lo σ σ'
  | .call f fn c args => ∃ args', x = .ok (.enter f ⟨args'⟩) w ∧ VRs E args args' ∧ P.funcs[f]? = some fn ∧ fn.body = some c
  | .lib f args v => ∃ args', x = .ok (.enter f ⟨args'⟩) w ∧ VRs E args args' ∧ Calls P f ⟨args'⟩ w fun e w' => ∃ v', e = .returned v' ∧ VR E v v' ∧ w'.heap = w.heap ∧ w'.os = w.os ∧ w'.tape = w.tape ∧ w'.output = w.output
  | .sum f args v σ' => ∃ args', x = .ok (.enter f ⟨args'⟩) w ∧ VRs E args args' ∧ Calls P f ⟨args'⟩ w fun e w' => ∃ v' E', e = .returned v' ∧ VR E' v v' ∧ Inv E' σ' G.ng w' ∧ Stp E lo σ.nx w E' w' ∧ AStp lo σ σ'
def V1Ok (G : Gv) (E : Ev) (lo : Nat) (σ : St) (w : World) (v : Value) (σ' : St) (x : Result Value) : Prop :=
  ∃ v' w' E', x = .ok v' w' ∧ VR E' v v' ∧ Inv E' σ' G.ng w' ∧ Stp E lo σ.nx w E' w' ∧ AStp lo σ σ'
theorem V1Ok.r1 {v : Value} {σ' : St} {s : Sem Value} (h : V1Ok G E lo σ w v σ' (s.run P w)) : R1Ok P G E lo σ w (.val v σ') ((do pure (Next.value (← s)) : Sem Next).run P w) := by
  obtain ⟨v', w', E', h1, h2⟩ := h
  exact ⟨v', w', E', by rw [Sem.run_bind, h1]; rfl, h2⟩
theorem V1Ok.same (hI : Inv E σ G.ng w) {v v' : Value} {x : Result Value} (hx : x = .ok v' w) (hv : VR E v v') : V1Ok G E lo σ w v σ x := ⟨v', w, E, hx, hv, hI, .refl _ _ _ _, .refl _ _⟩

/-! ## appends -/
/-- what an append or a copy takes its cells from -/
theorem brings_sound (hI : Inv E σ G.ng w) {size n : Nat} {x x' : Value} {new : List Value} (hx : VR E x x') (hb : brings σ.h size x = some (n, new)) :
    (Builtin.lenOf x').run P w = .ok n w ∧ new.length = n * size ∧ ∃ new', VRs E new new' ∧ ∀ m, m ≤ n → ∀ w2 : World, w2.heap = w.heap → (Builtin.firstCells size m x').run P w2 = .ok ⟨new'.take (m * size)⟩ w2 := by
  unfold brings at hb
  split at hb
  · split at hb
    · injection hb with hb; injection hb with e1 e2
      subst e1; subst e2
      cases hx
      exact ⟨rfl, by simp, [], .nil, fun m hm w2 _ => by have : m = 0 := by omega
                                                         subst this; simp [Builtin.firstCells]⟩
    · cases hb
  · injection hb with hb; injection hb with e1 e2
    subst e1; subst e2
    cases hx
    exact ⟨rfl, by simp, [], .nil, fun m hm w2 _ => by
      have : m = 0 := by omega
      subst this
      unfold Builtin.firstCells
      rw [Nat.zero_mul]
      exact run_loadCells_list (P := P) w2 _ [] (fun j q hj => by simp at hj)⟩
  · rename_i i off sp n1 c
    simp only [Option.bind_eq_some_iff, Option.some.injEq, Prod.mk.injEq] at hb
    obtain ⟨cs, h1, rfl, rfl⟩ := hb
    have key : ∀ b nb c', E.blk i = some (b, nb) → (Builtin.lenOf (.slice (some ⟨b, off, none⟩) n1 c')).run P w = .ok n1 w ∧ cs.length = n1 * size ∧
        ∃ new', VRs E cs new' ∧ ∀ m, m ≤ n1 → ∀ w2 : World, w2.heap = w.heap → (Builtin.firstCells size m (.slice (some ⟨b, off, none⟩) n1 c')).run P w2 = .ok ⟨new'.take (m * size)⟩ w2 := fun b nb c' hb => by
      obtain ⟨cs', a1, a2, a3⟩ := rd_sound hI.heap hb h1
      refine ⟨rfl, by rw [← a1.length, a2], cs', a1, fun m hm w2 hw2 => ?_⟩
      have hmm : m * size ≤ n1 * size := Nat.mul_le_mul_right _ hm
      have hl : (cs'.take (m * size)).length = m * size := by simp; omega
      unfold Builtin.firstCells
      have := run_loadCells_list (P := P) w2 ⟨b, off, none⟩ (cs'.take (m * size)) (fun j u hj => by
        rw [List.getElem?_take] at hj
        split at hj
        · have := a3 j u hj
          unfold World.cell? at this ⊢
          rw [hw2]
          exact this
        · cases hj)
      rw [hl] at this
      exact this
    cases hx with
    | sl _ b nb _ _ _ hb => exact key b nb _ hb
    | sli _ b nb es _ _ _ c' hb _ _ => exact key b nb c' hb
  · rename_i s
    split at hb
    · rename_i hs
      have hs := Nat.eq_of_beq_eq_true hs
      subst hs
      injection hb with hb; injection hb with e1 e2
      subst e1; subst e2
      cases hx
      refine ⟨rfl, by simp, s.map fun b => .int .u8 (Int.ofNat b.toNat), ?_, fun m hm w2 _ => ?_⟩
      · induction s with
        | nil => exact .nil
        | cons u s ih => exact .cons _ _ _ _ (.int _ _) ih
      · unfold Builtin.firstCells
        have : ((⟨⟨s⟩⟩ : ByteArray).extract 0 m).data = ⟨s.take m⟩ := by
          have := ByteArray.extract_mk s 0 m
          rw [this]
          simp
        simp only [this, Sem.run_pure, Nat.mul_one]
        congr 1
        apply Array.ext'
        simp [List.map_take]
    · cases hb
  · cases hb

/-- what append asks of its second argument's type -/
def SliceStr (k : TypeDesc) : Prop := k = .string ∨ ∃ e, k = .slice e
theorem app_in {ts : Array TypeId} {t u e : TypeId} {ty : TypeId} {te : TI} {k : TypeDesc} (h0 : ts.toList[0]? = some t) (hu : P.underlying t = some (.slice e)) (hte : TyOk P e te) (h1 : ts.toList[1]? = some u) (hk : P.underlying u = some k) (hni : SliceStr k)
    {base : Option Addr} {len cap n : Nat} {x' : Value} {new' : List Value} (hlen : (Builtin.lenOf x').run P w = .ok n w) (hf : (Builtin.firstCells te.size n x').run P w = .ok ⟨new'⟩ w) (hroom : len + n ≤ cap) :
    (Builtin.append_ ts ty #[.slice base len cap, x']).run P w = ((match base with | some b => storeCells (b.add (len * te.size)) new' | none => pure ()).run P w).andThen fun _ w' => .ok (.slice base (len + n) cap) w' := by
  have e1 : ts[1]? = some u := by simpa using h1
  rcases hni with rfl | ⟨e2, rfl⟩
  all_goals
    unfold Builtin.append_
    rw [arr0 h0, e1]
    simp only [List.getElem?_toArray, List.getElem?_cons_zero, List.getElem?_cons_succ, Sem.run_bind, run_underlying hu, Result.andThen_ok, hte.sizeOf, run_underlying hk, Sem.run_pure, Bool.false_eq_true, if_false, hlen, hroom, if_true, Bool.not_false, hf]
    cases base with
    | none => rfl
    | some b => simp only [Sem.run_bind, Sem.run_pure]
theorem app_out {ts : Array TypeId} {t u e : TypeId} {ty : TypeId} {te : TI} {k : TypeDesc} (h0 : ts.toList[0]? = some t) (hu : P.underlying t = some (.slice e)) (hte : TyOk P e te) (h1 : ts.toList[1]? = some u) (hk : P.underlying u = some k) (hni : SliceStr k)
    {base : Option Addr} {len cap n : Nat} {x' : Value} {new' old' : List Value} (hlen : (Builtin.lenOf x').run P w = .ok n w) (hf : (Builtin.firstCells te.size n x').run P w.drew = .ok ⟨new'⟩ w.drew)
    (ho : (Builtin.firstCells te.size len (.slice base len cap)).run P w.drew = .ok ⟨old'⟩ w.drew) (hroom : ¬ len + n ≤ cap) (hfit : (len + n) * (te.bytes + 1) ≤ 140737488355328) :
    ∃ rest : List Value, (len + n ≤ grownCap w (len + n) cap e) ∧ rest.length = (grownCap w (len + n) cap e - (len + n)) * te.size ∧
      (Builtin.append_ ts ty #[.slice base len cap, x']).run P w = .ok (.slice (some ⟨w.heap.size, 0, none⟩) (len + n) (grownCap w (len + n) cap e)) (w.drew.alloc (.cells ⟨(old' ++ new') ++ rest⟩ e)) := by
  have e1 : ts[1]? = some u := by simpa using h1
  obtain ⟨i, z, i1, i2, i3, i4, i5, i6⟩ := hte.info
  have hzs : z.cells.size = te.size := by rw [← Array.length_toList, i6]; exact hte.zlen
  have hb : (len + n) * te.bytes ≤ 140737488355328 := Nat.le_trans (Nat.mul_le_mul_left _ (Nat.le_succ _)) hfit
  have hn : len + n ≤ 140737488355328 := Nat.le_trans (Nat.le_mul_of_pos_right _ (Nat.succ_pos _)) hfit
  have h48 := growslice_fits (need := len + n) (old := cap) (bytes := te.bytes) (by omega) hb
  refine ⟨(Builtin.zeroCells z.cells (grownCap w (len + n) cap e - (len + n))).toList, grownCap_ge w _ _ _, by rw [Array.length_toList, size_zeroCells, hzs], ?_⟩
  have hty : ∀ w2 : World, (typeInfo e).run P w2 = .ok i w2 := fun w2 => by simp [typeInfo, i1]
  have hzv : ∀ w2 : World, (zeroValue e).run P w2 = .ok z w2 := fun w2 => by simp [zeroValue, typeInfo, i1, i4]
  have c1 : ¬ (((len + n : Nat) : Int) > IntKind.i64.max ∧ (False ∨ i.bytes = 0)) := fun hh => by
    have : (IntKind.i64.max : Int) = 9223372036854775807 := rfl
    rw [this] at hh
    omega
  have c2 : ¬ Builtin.nextslicecap (len + n) cap * i.bytes > 2 ^ 48 := by rw [i3]; omega
  have hz0 : newRow e (old' ++ new' ++ (Builtin.zeroCells z.cells (grownCap w (len + n) cap e - (len + n))).toList).toArray = newRow e ((⟨old'⟩ : Array Value) ++ (⟨new'⟩ : Array Value) ++ Builtin.zeroCells z.cells (grownCap w (len + n) cap e - (len + n))) := by
    congr 1
    simp
  rcases hni with rfl | ⟨e2, rfl⟩
  all_goals
    unfold Builtin.append_
    rw [arr0 h0, e1]
    simp only [List.getElem?_toArray, List.getElem?_cons_zero, List.getElem?_cons_succ, Sem.run_bind, run_underlying hu, Result.andThen_ok, hte.sizeOf, run_underlying hk, Sem.run_pure, Bool.false_eq_true, if_false, hlen, hroom, hty, c1, c2]
    rw [run_choose_drew]
    simp only [Question.forced, Bool.false_eq_true, if_false, Result.andThen_ok, hty, run_askRoom, ho, hf, hzv, Bool.not_false, if_true, Sem.run_bind]
    have : (Question.appendCap (len + n) cap e).cut (w.tape w.drawn (Question.appendCap (len + n) cap e)) = grownCap w (len + n) cap e := rfl
    rw [this, ← hz0]
    rfl
/-- append(s, make([]T, n)...) -/
theorem app_in0 {ts : Array TypeId} {t u e : TypeId} {ty : TypeId} {te : TI} {kk : IntKind} (h0 : ts.toList[0]? = some t) (hu : P.underlying t = some (.slice e)) (hte : TyOk P e te) (h1 : ts.toList[1]? = some u) (hk : P.underlying u = some (.int kk))
    {base : Option Addr} {len cap n : Nat} {new' : List Value} (hn : n ≤ 140737488355328) (hnb : n * te.bytes ≤ 140737488355328) (hz : ∀ z : Value, z.cells.toList = te.zero → (Builtin.zeroCells z.cells n).toList = new') (hz0 : n * te.size = 0 → new' = []) (hroom : len + n ≤ cap) :
    (Builtin.append_ ts ty #[.slice base len cap, .int .i64 (Int.ofNat n)]).run P w = ((match base with | some b => storeCells (b.add (len * te.size)) new' | none => pure ()).run P w).andThen fun _ w' => .ok (.slice base (len + n) cap) w' := by
  have e1 : ts[1]? = some u := by simpa using h1
  obtain ⟨i, z, i1, i2, i3, i4, i5, i6⟩ := hte.info
  have hty : ∀ w2 : World, (typeInfo e).run P w2 = .ok i w2 := fun w2 => by simp [typeInfo, i1]
  have hzv : ∀ w2 : World, (zeroValue e).run P w2 = .ok z w2 := fun w2 => by simp [zeroValue, typeInfo, i1, i4]
  have hwr : IntKind.i64.wrap (Int.ofNat n) = (n : Int) := by simp [IntKind.wrap, IntKind.bits, IntKind.signed]; omega
  have c1 : ¬ ((n : Int) < 0) := by omega
  have c2 : ¬ ((n : Int) * (i.bytes : Int) > 2 ^ 48) := by
    have : ((n * i.bytes : Nat) : Int) ≤ 140737488355328 := by rw [i3]; exact Int.ofNat_le.2 hnb
    rw [Int.natCast_mul] at this
    omega
  unfold Builtin.append_
  rw [arr0 h0, e1]
  by_cases hs0 : n * te.size = 0
  · have := hz0 hs0
    subst this
    simp only [List.getElem?_toArray, List.getElem?_cons_zero, List.getElem?_cons_succ, Sem.run_bind, run_underlying hu, Result.andThen_ok, hte.sizeOf, run_underlying hk, Sem.run_pure, if_true, asInt, asIntOf, hwr, c1, if_false, hty, c2, Int.toNat_natCast, hroom, Bool.not_true, Bool.false_eq_true, hs0]
    cases base with
    | none => rfl
    | some b => simp only [Sem.run_bind, Sem.run_pure]
  · have hzz := hz z i6
    subst hzz
    simp only [List.getElem?_toArray, List.getElem?_cons_zero, List.getElem?_cons_succ, Sem.run_bind, run_underlying hu, Result.andThen_ok, hte.sizeOf, run_underlying hk, Sem.run_pure, if_true, asInt, asIntOf, hwr, c1, if_false, hty, c2, Int.toNat_natCast, hroom, Bool.not_true, Bool.false_eq_true, hs0, hzv]
    cases base with
    | none => rfl
    | some b => simp only [Sem.run_bind, Sem.run_pure]
theorem app_out0 {ts : Array TypeId} {t u e : TypeId} {ty : TypeId} {te : TI} {kk : IntKind} (h0 : ts.toList[0]? = some t) (hu : P.underlying t = some (.slice e)) (hte : TyOk P e te) (h1 : ts.toList[1]? = some u) (hk : P.underlying u = some (.int kk))
    {base : Option Addr} {len cap n : Nat} {new' old' : List Value} (hn0 : n ≤ 140737488355328) (hnb : n * te.bytes ≤ 140737488355328) (hz : ∀ z : Value, z.cells.toList = te.zero → (Builtin.zeroCells z.cells n).toList = new') (hz0 : n * te.size = 0 → new' = [])
    (ho : (Builtin.firstCells te.size len (.slice base len cap)).run P w.drew = .ok ⟨old'⟩ w.drew) (hroom : ¬ len + n ≤ cap) (hfit : (len + n) * (te.bytes + 1) ≤ 140737488355328) :
    ∃ rest : List Value, (len + n ≤ grownCap w (len + n) cap e) ∧ rest.length = (grownCap w (len + n) cap e - (len + n)) * te.size ∧
      (Builtin.append_ ts ty #[.slice base len cap, .int .i64 (Int.ofNat n)]).run P w = .ok (.slice (some ⟨w.heap.size, 0, none⟩) (len + n) (grownCap w (len + n) cap e)) (w.drew.alloc (.cells ⟨(old' ++ new') ++ rest⟩ e)) := by
  have e1 : ts[1]? = some u := by simpa using h1
  obtain ⟨i, z, i1, i2, i3, i4, i5, i6⟩ := hte.info
  have hzs : z.cells.size = te.size := by rw [← Array.length_toList, i6]; exact hte.zlen
  have hb : (len + n) * te.bytes ≤ 140737488355328 := Nat.le_trans (Nat.mul_le_mul_left _ (Nat.le_succ _)) hfit
  have hn : len + n ≤ 140737488355328 := Nat.le_trans (Nat.le_mul_of_pos_right _ (Nat.succ_pos _)) hfit
  have h48 := growslice_fits (need := len + n) (old := cap) (bytes := te.bytes) (by omega) hb
  refine ⟨(Builtin.zeroCells z.cells (grownCap w (len + n) cap e - (len + n))).toList, grownCap_ge w _ _ _, by rw [Array.length_toList, size_zeroCells, hzs], ?_⟩
  have hty : ∀ w2 : World, (typeInfo e).run P w2 = .ok i w2 := fun w2 => by simp [typeInfo, i1]
  have hzv : ∀ w2 : World, (zeroValue e).run P w2 = .ok z w2 := fun w2 => by simp [zeroValue, typeInfo, i1, i4]
  have hwr : IntKind.i64.wrap (Int.ofNat n) = (n : Int) := by simp [IntKind.wrap, IntKind.bits, IntKind.signed]; omega
  have d1 : ¬ ((n : Int) < 0) := by omega
  have d2 : ¬ ((n : Int) * (i.bytes : Int) > 2 ^ 48) := by
    have : ((n * i.bytes : Nat) : Int) ≤ 140737488355328 := by rw [i3]; exact Int.ofNat_le.2 hnb
    rw [Int.natCast_mul] at this
    omega
  have c1 : ¬ (((len + n : Nat) : Int) > IntKind.i64.max ∧ (True ∨ i.bytes = 0)) := fun hh => by
    have : (IntKind.i64.max : Int) = 9223372036854775807 := rfl
    rw [this] at hh
    omega
  have c2 : ¬ Builtin.nextslicecap (len + n) cap * i.bytes > 2 ^ 48 := by rw [i3]; omega
  have hz1 : newRow e (old' ++ new' ++ (Builtin.zeroCells z.cells (grownCap w (len + n) cap e - (len + n))).toList).toArray = newRow e ((⟨old'⟩ : Array Value) ++ (⟨new'⟩ : Array Value) ++ Builtin.zeroCells z.cells (grownCap w (len + n) cap e - (len + n))) := by
    congr 1
    simp
  have hcut : (Question.appendCap (len + n) cap e).cut (w.tape w.drawn (Question.appendCap (len + n) cap e)) = grownCap w (len + n) cap e := rfl
  by_cases hs0 : n * te.size = 0
  · have := hz0 hs0
    subst this
    unfold Builtin.append_
    rw [arr0 h0, e1]
    simp only [List.getElem?_toArray, List.getElem?_cons_zero, List.getElem?_cons_succ, Sem.run_bind, run_underlying hu, Result.andThen_ok, hte.sizeOf, run_underlying hk, Sem.run_pure, if_true, asInt, asIntOf, hwr, d1, if_false, hty, d2, Int.toNat_natCast, hroom, c1, c2]
    rw [run_choose_drew]
    simp only [Question.forced, Bool.false_eq_true, if_false, Result.andThen_ok, hty, run_askRoom, ho, hzv, Bool.not_true, Sem.run_bind, hs0, if_true, Sem.run_pure]
    rw [hcut]
    have e0 : (#[] : Array Value) = ⟨[]⟩ := rfl
    rw [e0, ← hz1]
    rfl
  · have hzz := hz z i6
    have hzz' : Builtin.zeroCells z.cells n = ⟨new'⟩ := by rw [← hzz]
    unfold Builtin.append_
    rw [arr0 h0, e1]
    simp only [List.getElem?_toArray, List.getElem?_cons_zero, List.getElem?_cons_succ, Sem.run_bind, run_underlying hu, Result.andThen_ok, hte.sizeOf, run_underlying hk, Sem.run_pure, if_true, asInt, asIntOf, hwr, d1, if_false, hty, d2, Int.toNat_natCast, hroom, c1, c2]
    rw [run_choose_drew]
    simp only [Question.forced, Bool.false_eq_true, if_false, Result.andThen_ok, hty, run_askRoom, ho, hzv, Bool.not_true, Sem.run_bind, hs0, if_true, hzz', Sem.run_pure]
    rw [hcut, ← hz1]
    rfl
end
end Go.Proofs.YtgjbnebmcmoilaaGreatDoor.Ax

namespace Go.Proofs.YtgjbnebmcmoilaaGreatDoor.Ax
open Go.RowKit

section
variable {P : Program} {G : Gv} {E : Ev} {w : World} {a : Act} {T : Tm} {σ : St} {lo : Nat}

theorem bltF {i lo : Nat} (h : Nat.blt i lo = false) : lo ≤ i := Nat.not_lt.1 fun e => by rw [show Nat.blt i lo = true by simpa using e] at h; cases h
theorem oneL_append : ∀ {x y : List Value}, oneL (x ++ y) = (oneL x && oneL y)
  | [], y => by simp [oneL]
  | v :: x, y => by simp [oneL, oneL_append (x := x), Bool.and_assoc]

/-- a new row of an append -/
theorem grown_sound (hI : Inv E σ G.ng w) (hlo : lo ≤ σ.nx) {size m : Nat} {cs cs' rest : List Value} {ty : TypeId} {c : Nat} (hv : VRs E cs cs') (hl : cs'.length = m * size) (hr : rest.length = (c - m) * size) (hm : m ≤ c) :
    V1Ok G E lo σ w (grown σ size m cs).1 (grown σ size m cs).2 (.ok (.slice (some ⟨w.heap.size, 0, none⟩) m c) (w.drew.alloc (.cells ⟨cs' ++ rest⟩ ty))) := by
  have h := put_sound (lo := lo) (w' := w.drew.alloc (.cells ⟨cs' ++ rest⟩ ty)) (rest := rest) (ty := ty) hI hlo hv rfl rfl rfl rfl
  refine ⟨_, _, _, rfl, ?_, h⟩
  refine .sli _ _ _ _ _ _ _ _ (Ev.ext_here _ _ _ _) hm ?_
  rw [hl, hr, ← Nat.add_mul, Nat.zero_add]
  exact Nat.mul_le_mul_right _ (by omega)

theorem appendS_gen (hI : Inv E σ G.ng w) (hlo : lo ≤ σ.nx) {ts : Array TypeId} {e : TypeId} {ty : TypeId} {te : TI}
    {s s' x' v : Value} {n : Nat} {new new' : List Value} {σ' : St} (hs : VR E s s') (hnl : new.length = n * te.size) (hv : VRs E new new')
    (hin : ∀ (base : Option Addr) (len cap : Nat), len + n ≤ cap →
      (Builtin.append_ ts ty #[.slice base len cap, x']).run P w = ((match base with | some b => storeCells (b.add (len * te.size)) new' | none => pure ()).run P w).andThen fun _ w' => .ok (.slice base (len + n) cap) w')
    (hout0 : ∀ (base : Option Addr) (len cap : Nat) (old' : List Value), (Builtin.firstCells te.size len (.slice base len cap)).run P w.drew = .ok ⟨old'⟩ w.drew → ¬ len + n ≤ cap → (len + n) * (te.bytes + 1) ≤ 140737488355328 →
      ∃ rest : List Value, (len + n ≤ grownCap w (len + n) cap e) ∧ rest.length = (grownCap w (len + n) cap e - (len + n)) * te.size ∧
        (Builtin.append_ ts ty #[.slice base len cap, x']).run P w = .ok (.slice (some ⟨w.heap.size, 0, none⟩) (len + n) (grownCap w (len + n) cap e)) (w.drew.alloc (.cells ⟨(old' ++ new') ++ rest⟩ e)))
    (hq : appendS lo σ te.size te.bytes s n new = some (v, σ')) : V1Ok G E lo σ w v σ' ((Builtin.append_ ts ty #[s', x']).run P w) := by
  have hnl' : new'.length = n * te.size := by rw [hv.length, hnl]
  unfold appendS at hq
  split at hq
  · rename_i len cap
    cases hs
    split at hq
    · injection hq with hq; injection hq with e1 e2; subst e1; subst e2
      refine V1Ok.same hI ?_ (.nils _ _)
      rw [hin none _ _ (by omega)]
      rfl
    · rename_i hne
      split at hq
      · rename_i hfit hone
        injection hq with hq; injection hq with e1 e2; subst e1; subst e2
        have hn0 : ¬ 0 + n ≤ 0 := fun h => hne (by omega)
        obtain ⟨rest, r1, r2, r3⟩ := hout0 none 0 0 [] (by simp [Builtin.firstCells]) hn0 (by simpa using hfit)
        rw [r3]
        have hg := grown_sound (G := G) (size := te.size) (m := n) (ty := e) (c := grownCap w (0 + n) 0 e) (rest := rest) hI hlo hv hnl' (by rw [r2]; simp) (by omega)
        simp only [Nat.zero_add, List.nil_append] at hg ⊢
        exact hg
      · cases hq
    · cases hq
  · rename_i i off sp len cap
    obtain ⟨b, nb, c', hb, rfl, hcc, hsp⟩ : ∃ b nb c', E.blk i = some (b, nb) ∧ s' = .slice (some ⟨b, off, none⟩) len c' ∧ cap ≤ c' ∧ (match sp with | none => c' = cap | some es => off + c' * es ≤ nb) := by
      cases hs with
      | sl _ b nb _ _ _ hb => exact ⟨b, nb, cap, hb, rfl, Nat.le_refl _, rfl⟩
      | sli _ b nb es _ _ _ c' hb h2 h3 => exact ⟨b, nb, c', hb, rfl, h2, h3⟩
    have hsl : ∀ (E' : Ev), E.Le E' → ∀ m, VR E' (.slice (some ⟨i, off, sp⟩) m cap) (.slice (some ⟨b, off, none⟩) m c') := fun E' hE m => by
      cases sp with
      | none => simp only at hsp; subst hsp; exact .sl _ _ _ _ _ _ (hE.blk _ _ hb)
      | some es => exact .sli _ _ _ _ _ _ _ _ (hE.blk _ _ hb) hcc hsp
    split at hq
    · rename_i hroom
      have hroom : len + n ≤ cap := by simpa using hroom
      have hrun := hin (some ⟨b, off, none⟩) _ _ (Nat.le_trans hroom hcc)
      split at hq
      · injection hq with hq; injection hq with e1 e2; subst e1; subst e2
        have hnil : new' = [] := List.eq_nil_of_length_eq_zero (by rw [hnl']; simp)
        refine V1Ok.same hI ?_ (hsl E (.refl E) len)
        rw [hrun, hnil]
        rfl
      · simp only [Option.bind_eq_some_iff, Option.some.injEq, Prod.mk.injEq] at hq
        obtain ⟨σ1, h2, rfl, rfl⟩ := hq
        obtain ⟨w', k1, k2, k3, k4⟩ := wr_sound (P := P) hI hb hv h2
        refine ⟨_, w', E, ?_, hsl E (.refl E) (len + n), k2, k3, k4⟩
        rw [hrun]
        simp only [Addr.add_lit, k1, Result.andThen_ok]
    · rename_i hroom
      have hroom : ¬ len + n ≤ cap := fun e => by rw [show Nat.ble (len + n) cap = true by simpa using e] at hroom; cases hroom
      split at hq
      · rename_i hfit hone
        have hfit : (len + n) * (te.bytes + 1) ≤ 140737488355328 := by simpa using hfit
        simp only [Option.bind_eq_some_iff] at hq
        obtain ⟨old, h2, h3⟩ := hq
        obtain ⟨old', o1, o2, o3⟩ := rd_sound hI.heap hb h2
        have hold : ∀ w2 : World, w2.heap = w.heap → (Builtin.firstCells te.size len (.slice (some ⟨b, off, none⟩) len c')).run P w2 = .ok ⟨old'⟩ w2 := fun w2 hw2 => by
          unfold Builtin.firstCells
          have := run_loadCells_list (P := P) w2 ⟨b, off, none⟩ old' (fun j q hj => by
            have := o3 j q hj
            unfold World.cell? at this ⊢
            rw [hw2]; exact this)
          rw [o2] at this
          exact this
        have hout : ¬ len + n ≤ c' → ∃ rest : List Value, (len + n ≤ grownCap w (len + n) c' e) ∧ rest.length = (grownCap w (len + n) c' e - (len + n)) * te.size ∧
            (Builtin.append_ ts ty #[.slice (some ⟨b, off, none⟩) len c', x']).run P w = .ok (.slice (some ⟨w.heap.size, 0, none⟩) (len + n) (grownCap w (len + n) c' e)) (w.drew.alloc (.cells ⟨(old' ++ new') ++ rest⟩ e)) := fun hr =>
          hout0 _ _ _ _ (hold w.drew rfl) hr hfit
        have hcs : VRs E (old ++ new) (old' ++ new') := o1.append hv
        have hcl : (old' ++ new').length = (len + n) * te.size := by rw [List.length_append, o2, hnl', Nat.add_mul]
        split at h3
        · injection h3 with h3; injection h3 with e1 e2; subst e1; subst e2
          simp only at hsp
          subst hsp
          obtain ⟨rest, r1, r2, r3⟩ := hout hroom
          rw [r3]
          exact grown_sound hI hlo hcs hcl r2 r1
        · rename_i es
          split at h3
          · rename_i hes hil
            have hes := Nat.eq_of_beq_eq_true hes
            have hil := bltF hil
            subst hes
            split at h3
            · rename_i cs0 hi
              injection h3 with h3; injection h3 with e1 e2; subst e1; subst e2
              by_cases hr : len + n ≤ c'
              · -- in place: the row is taken over
                obtain ⟨b', n', arr, ety, fr, f1, f2, f3, f4, f5, f6⟩ := hI.heap i _ hi
                rw [hb] at f1
                injection f1 with f1; injection f1 with f1 f1'
                subst f1; subst f1'
                have f4 := f4 rfl
                subst f4
                have hsz : (len + n) * te.size ≤ nb := by
                  have : c' * te.size ≤ nb := by simpa using hsp
                  exact Nat.le_trans (Nat.mul_le_mul_right _ hr) this
                have hln : len * te.size + n * te.size = (len + n) * te.size := (Nat.add_mul _ _ _).symm
                have hrun := hin (some ⟨b, 0, none⟩) _ _ hr
                have hst := run_storeCells_at P b (len * te.size) ety new' 0 arr w f2 (by omega) (hv.ones hone)
                simp only [Nat.add_zero] at hst
                have hw' : (Builtin.append_ ts ty #[.slice (some ⟨b, 0, none⟩) len c', x']).run P w = .ok (.slice (some ⟨b, 0, none⟩) (len + n) c') (w.setRow b (arr.toList.take (len * te.size) ++ new' ++ arr.toList.drop (len * te.size + new'.length)).toArray) := by
                  rw [hrun]
                  simp only [Addr.add_lit, Nat.zero_add, hst, Result.andThen_ok]
                rw [hw']
                have hle := Ev.ext_le (b := b) (n := nb) (hI.fresh σ.nx (Nat.le_refl _))
                have htake : arr.toList.take (len * te.size) = old' := by
                  apply List.ext_getElem?
                  intro j
                  by_cases hj : j < len * te.size
                  · have hj2 : j < old'.length := by omega
                    have := o3 j old'[j] (by simp [hj2])
                    rw [Addr.add_lit, Nat.zero_add, cell_of_row w b j arr ety (0, 0) f2] at this
                    rw [List.getElem?_take, if_pos hj, List.getElem?_eq_getElem hj2]
                    simpa using this
                  · rw [List.getElem?_take, if_neg hj, List.getElem?_eq_none (by omega)]
                have h := hI.take (lo := lo) (o' := .cells (old ++ new) true) (w' := w.setRow b (arr.toList.take (len * te.size) ++ new' ++ arr.toList.drop (len * te.size + new'.length)).toArray) hi rfl hil hb
                  (fun x hx => setRow_other w b x _ hx) (setRow_size w b _) rfl rfl rfl (by
                    have hw2 := setRow_heap w b arr (arr.toList.take (len * te.size) ++ new' ++ arr.toList.drop (len * te.size + new'.length)).toArray ety (0, 0) f2
                    rw [htake] at hw2 ⊢
                    refine OR.cellsOf_new (cs' := old' ++ new') (rest := arr.toList.drop (len * te.size + new'.length)) ?_ hw2 (hcs.mono hle)
                    rw [Ev.ext_here]
                    congr 2
                    simp
                    omega)
                refine ⟨_, _, _, rfl, ?_, h⟩
                exact .sli _ _ _ _ _ _ _ _ (Ev.ext_here _ _ _ _) hr (by simpa using hsp)
              · obtain ⟨rest, r1, r2, r3⟩ := hout hr
                rw [r3]
                obtain ⟨hK, hA⟩ := hI.kill (lo := lo) hil
                obtain ⟨v', w', E', g1, g2, g3, g4, g5⟩ := grown_sound (G := G) (lo := lo) (ty := e) (c := grownCap w (len + n) c' e) hK (by exact hlo) hcs hcl r2 r1
                exact ⟨v', w', E', g1, g2, g3, g4, hA.trans g5⟩
            · cases h3
          · cases h3
      · cases hq
  · cases hq
theorem appendS_sound (hI : Inv E σ G.ng w) (hlo : lo ≤ σ.nx) {ts : Array TypeId} {t u e : TypeId} {ty : TypeId} {te : TI} {k : TypeDesc} (h0 : ts.toList[0]? = some t) (hu : P.underlying t = some (.slice e)) (hte : TyOk P e te) (h1 : ts.toList[1]? = some u) (hk : P.underlying u = some k) (hni : SliceStr k)
    {s s' x' v : Value} {n : Nat} {new new' : List Value} {σ' : St} (hs : VR E s s') (hlen : (Builtin.lenOf x').run P w = .ok n w) (hnl : new.length = n * te.size) (hv : VRs E new new')
    (hf : ∀ m, m ≤ n → ∀ w2 : World, w2.heap = w.heap → (Builtin.firstCells te.size m x').run P w2 = .ok ⟨new'.take (m * te.size)⟩ w2)
    (hq : appendS lo σ te.size te.bytes s n new = some (v, σ')) : V1Ok G E lo σ w v σ' ((Builtin.append_ ts ty #[s', x']).run P w) := by
  have hnl' : new'.length = n * te.size := by rw [hv.length, hnl]
  have hfull : ∀ w2 : World, w2.heap = w.heap → (Builtin.firstCells te.size n x').run P w2 = .ok ⟨new'⟩ w2 := fun w2 hw2 => by
    have := hf n (Nat.le_refl _) w2 hw2
    rwa [← hnl', List.take_length] at this
  exact appendS_gen (e := e) hI hlo hs hnl hv (fun base len cap hr => app_in h0 hu hte h1 hk hni hlen (hfull w rfl) hr)
    (fun base len cap old' ho hr hfit => app_out h0 hu hte h1 hk hni hlen (hfull w.drew rfl) ho hr hfit) hq
end
end Go.Proofs.YtgjbnebmcmoilaaGreatDoor.Ax

namespace Go.Proofs.YtgjbnebmcmoilaaGreatDoor.Ax
open Go.RowKit

/-- what is known of the functions -/
structure FunsOk (P : Program) (G : Gv) : Prop where
  funcs : ∀ f fn, G.funcs.get f = some fn → P.funcs[f]? = some fn ∧ fn.name ≠ "runtime.NumGoroutine"
  exts : ∀ f fn x, G.funcs.get f = some fn → fn.body = none → G.exts.get f = some x → ∀ (E : Ev) (w : World) (h : Tr AO) (args args' : List Value) (v : Value), HR E h w → Glob E G.ng → extF x h args = some v → VRs E args args' → ∃ v', VR E v v' ∧ (callFunc f ⟨args'⟩).run P w = .ok (.value v') w
  libs : ∀ f x, G.libs.get f = some x → ∀ (E : Ev) (w : World) (h : Tr AO) (args args' : List Value) (v : Value), HR E h w → Glob E G.ng → extF x h args = some v → VRs E args args' →
    Calls P f ⟨args'⟩ w fun e w' => ∃ v', e = .returned v' ∧ VR E v v' ∧ w'.heap = w.heap ∧ w'.os = w.os ∧ w'.tape = w.tape ∧ w'.output = w.output
  sums : ∀ f s, G.sums.get f = some s → ∀ (E : Ev) (w : World) (lo : Nat) (σ : St) (args args' : List Value) (v : Value) (σ' : St), Inv E σ G.ng w → lo ≤ σ.nx → sumF s σ args = some (v, σ') → VRs E args args' →
    Calls P f ⟨args'⟩ w fun e w' => ∃ v' E', e = .returned v' ∧ VR E' v v' ∧ Inv E' σ' G.ng w' ∧ Stp E lo σ.nx w E' w' ∧ AStp lo σ σ'
  memos : ∀ f l, G.memos.get f = some l → ∀ (E : Ev) (w : World) (lo : Nat) (σ : St) (args args' : List Value) (v : Value) (σ' : St), Inv E σ G.ng w → lo ≤ σ.nx → memoF G.base lo σ args l = some (v, σ') → VRs E args args' →
    Calls P f ⟨args'⟩ w fun e w' => ∃ v' E', e = .returned v' ∧ VR E' v v' ∧ Inv E' σ' G.ng w' ∧ Stp E lo σ.nx w E' w' ∧ AStp lo σ σ'
  dfs : ∀ f k, G.dfs.get f = some k → (∃ fn c, P.funcs[f]? = some fn ∧ fn.name ≠ "runtime.NumGoroutine" ∧ fn.body = some c) ∧
    ∀ (args : Array Value) (w : World), CallsD P f args .returning w fun e u' w' => (∃ v, e = .returned v) ∧ u' = .returning ∧ w' = w

theorem rep_range (s : Nat) (z : Array Value) (hz : z.size = s) : ∀ n, (List.range (n * s)).map (fun i => z[i % z.size]!) = rep n z.toList
  | 0 => by simp [rep]
  | n + 1 => by
    rw [rep, ← rep_range s z hz n, Nat.succ_mul, Nat.add_comm, List.range_add, List.map_append, List.map_map]
    congr 1
    · apply List.ext_getElem?
      intro j
      rw [List.getElem?_map]
      by_cases hj : j < s
      · rw [List.getElem?_range hj]
        have h2 : j < z.size := by omega
        simp only [Option.map_some]
        rw [Nat.mod_eq_of_lt h2, getElem!_pos z j h2]
        simp [h2]
      · rw [List.getElem?_eq_none (by simp; omega), List.getElem?_eq_none (by simp; omega)]
        rfl
    · congr 1
      funext i
      simp [hz]
theorem rep_array (n s : Nat) (z : Array Value) (hz : z.size = s) : (Array.range (n * s)).map (fun i => z[i % z.size]!) = ⟨rep n z.toList⟩ := by
  apply Array.ext'
  rw [Array.toList_map, Array.toList_range]
  exact rep_range s z hz n
theorem rep_closed {n : Nat} {z : List Value} (h : closedL z = true) : closedL (rep n z) = true := by
  induction n with
  | zero => rfl
  | succ n ih =>
    rw [rep]
    have : ∀ {x y : List Value}, closedL x = true → closedL y = true → closedL (x ++ y) = true := fun {x y} hx hy => by
      induction x with
      | nil => exact hy
      | cons v x ihx => simp [closedL] at hx ⊢; exact ⟨hx.1, ihx hx.2⟩
    exact this h ih
theorem rep_length (n : Nat) (z : List Value) : (rep n z).length = n * z.length := by
  induction n with
  | zero => simp [rep]
  | succ n ih => rw [rep, List.length_append, ih, Nat.succ_mul, Nat.add_comm]

section
variable {P : Program} {G : Gv} {E : Ev} {w : World} {a : Act} {T : Tm} {σ : St} {lo : Nat}

/-- a new variable -/
theorem newVar_sound (hI : Inv E σ G.ng w) (hlo : lo ≤ σ.nx) {t : TypeId} {v' : Value} {cs : List Value} (hv : VRs E cs v'.cells.toList) :
    V1Ok G E lo σ w (pt σ.nx 0) (put σ (.cells cs true)) ((do pure (Value.pointer (some (← newVar t v'))) : Sem Value).run P w) := by
  have h := put_sound (lo := lo) (w' := w.alloc (.cells v'.cells t)) (rest := []) (ty := t) hI hlo hv (by show w.heap.push (.cells v'.cells t) = w.heap.push (.cells ⟨v'.cells.toList ++ []⟩ t); rw [List.append_nil]) rfl rfl rfl
  refine ⟨_, _, _, ?_, .ptr _ _ _ _ (Ev.ext_here _ _ _ _), h⟩
  unfold newVar newRow
  simp only [Sem.run_bind, run_newObj_alloc, Result.andThen_ok, Sem.run_pure]
theorem lalloc_sound (hG : TypesOk P G) (hI : Inv E σ G.ng w) (hlo : lo ≤ σ.nx) {e : TypeId} {te : TI} (he : G.types.get e = some te) :
    V1Ok G E lo σ w (pt σ.nx 0) (put σ (.cells te.zero true)) ((Instr.alloc e true (.tuple #[])).run P w) := by
  have hte := hG _ _ he
  obtain ⟨z, hz, hzc⟩ := hte.zeroCells (w := w)
  have h := newVar_sound (P := P) (t := e) (v' := z) hI hlo (cs := te.zero) (by rw [hzc]; exact closedL_VRs hte.zcl)
  obtain ⟨v', w', E', h1, h2⟩ := h
  refine ⟨v', w', E', ?_, h2⟩
  unfold Instr.alloc
  rw [Sem.run_bind, hz]
  exact h1
theorem lbox_sound (hI : Inv E σ G.ng w) (hlo : lo ≤ σ.nx) {e : TypeId} {v v' : Value} (hv : VR E v v') :
    V1Ok G E lo σ w (pt σ.nx 0) (put σ (.cells (cellsOf v) true)) ((Instr.box e v').run P w) := newVar_sound hI hlo hv.cells
theorem lbuildSlice_sound (hG : TypesOk P G) (hI : Inv E σ G.ng w) (hlo : lo ≤ σ.nx) {t e : TypeId} {ti te : TI} {n : Nat} {vs vs' : List (Nat × Value)} {cs : List Value} (ht : G.types.get t = some ti) (hk : ti.k = .slice e) (he : G.types.get e = some te) (hn : n * te.size ≤ 16777216)
    (hp : PRs E vs vs') (hf : fill (fun i => some (i * te.size, te.size)) vs (rep n te.zero) = some cs) :
    V1Ok G E lo σ w (.slice (some ⟨σ.nx, 0, none⟩) n n) (put σ (.cells cs true)) ((Instr.buildSlice t n ⟨vs'⟩).run P w) := by
  have hty := hG _ _ ht
  have hte := hG _ _ he
  obtain ⟨z, hz, hzc⟩ := hte.zeroCells (w := w)
  have hzs : z.cells.size = te.size := by rw [hzc]; exact hte.zlen
  obtain ⟨r', h4, h5⟩ := fill_sound (E := E) _ (fun i => some (i * te.size, te.size)) (fun i p hi => hi) hp (closedL_VRs (rep_closed hte.zcl)) hf
  have h := put_sound (lo := lo) (w' := w.alloc (.cells ⟨r'⟩ e)) (rest := []) (ty := e) hI hlo h5 (by show w.heap.push (.cells ⟨r'⟩ e) = w.heap.push (.cells ⟨r' ++ []⟩ e); rw [List.append_nil]) rfl rfl rfl
  refine ⟨_, _, _, ?_, .sl _ _ _ _ _ _ (Ev.ext_here _ _ _ _), h⟩
  unfold Instr.buildSlice
  rw [Sem.run_bind, run_underlying (hk ▸ hty.und)]
  simp only [Result.andThen_ok, Sem.run_bind, hte.sizeOf]
  rw [if_neg (by omega)]
  have hcells : (Array.range (n * te.size)).map (fun i => z.cells[i % z.cells.size]!) = ⟨rep n te.zero⟩ := by rw [rep_array n te.size z.cells hzs, hzc]
  by_cases h0 : n * te.size = 0
  · rw [if_pos h0]
    have hnil : rep n te.zero = [] := List.eq_nil_of_length_eq_zero (by rw [rep_length, hte.zlen, h0])
    have he0 : ∀ f : Nat → Value, (Array.range (n * te.size)).map f = ⟨rep n te.zero⟩ := fun f => by rw [h0, hnil]; apply Array.ext'; simp
    simp only [Sem.run_bind, Sem.run_pure, Result.andThen_ok, he0, h4, newRow, run_newObj_alloc]
  · rw [if_neg h0]
    simp only [Sem.run_bind, hz, Result.andThen_ok, Sem.run_pure, hcells, h4, newRow, run_newObj_alloc]
theorem lstore_sound (hG : TypesOk P G) (hI : Inv E σ G.ng w) {t : TypeId} {ti : TI} {i off : Nat} {v v' x' : Value} {σ' : St} (ht : G.types.get t = some ti) (hx : VR E (.pointer (some ⟨i, off, none⟩)) x') (hv : VR E v v') (hl : (cellsOf v).length = ti.size) (hw : wr lo σ i off (cellsOf v) = some σ') :
    ∃ w', (Instr.storeAt t x' v').run P w = .ok () w' ∧ Inv E σ' G.ng w' ∧ Stp E lo σ.nx w E w' ∧ AStp lo σ σ' := by
  cases hx with
  | ptr _ b n _ hb =>
    obtain ⟨w', h1, h2⟩ := wr_sound (P := P) hI hb hv.cells hw
    refine ⟨w', ?_, h2⟩
    have hs : v'.cells.size = ti.size := by rw [← Array.length_toList, hv.cells.length, hl]
    unfold Instr.storeAt Instr.sureAddr storeVar
    simp only [Sem.run_bind, Sem.run_pure, Result.andThen_ok, (hG _ _ ht).sizeOf]
    rw [if_neg (by simp [hs])]
    exact h1
theorem modify_push {α : Type} (xs : Array α) (x : α) (f : α → α) : (xs.push x).modify xs.size f = xs.push (f x) := by
  apply Array.ext
  · simp
  · intro i h1 h2
    rw [Array.getElem_modify, Array.getElem_push, Array.getElem_push]
    by_cases hi : i < xs.size
    · simp [hi, show ¬ xs.size = i by omega]
    · have : xs.size = i := by simp at h2; omega
      simp [this]
theorem freeze_alloc (w : World) (arr : Array Value) (e : TypeId) (n : Nat) : ((w.alloc (.cells arr e)).freeze ⟨w.heap.size, n, none⟩ 1).heap = w.heap.push (.cells arr e (n, n + 1)) := by
  unfold World.freeze
  rw [if_neg (by omega)]
  have h1 : (w.alloc (.cells arr e)).heap = w.heap.push (.cells arr e) := rfl
  simp only [h1]
  rw [modify_push]
  rfl
theorem lmakeSlice_sound (hG : TypesOk P G) (hI : Inv E σ G.ng w) (hlo : lo ≤ σ.nx) {t e : TypeId} {ti te : TI} {l c : Nat} {kl kc : IntKind} (ht : G.types.get t = some ti) (hk : ti.k = .slice e) (he : G.types.get e = some te) (hlc : l ≤ c) (hb : c * te.bytes ≤ 140737488355328) (hc : c ≤ 16777216) :
    V1Ok G E lo σ w (.slice (some ⟨σ.nx, 0, none⟩) l c) (put σ (.cells (rep c te.zero) true)) ((Instr.makeSlice t (.int kl (Int.ofNat l)) (.int kc (Int.ofNat c))).run P w) := by
  have hty := hG _ _ ht
  have hte := hG _ _ he
  obtain ⟨z, hz, hzc⟩ := hte.zeroCells (w := w)
  have hzs : z.cells.size = te.size := by rw [hzc]; exact hte.zlen
  obtain ⟨i, i1, i2⟩ := hte.bytes (w := w)
  have h := put_sound (lo := lo) (w' := w.alloc (.cells ⟨rep c te.zero⟩ e)) (rest := []) (ty := e) hI hlo (closedL_VRs (E := E) (rep_closed hte.zcl)) (by show w.heap.push (.cells ⟨rep c te.zero⟩ e) = w.heap.push (.cells ⟨rep c te.zero ++ []⟩ e); rw [List.append_nil]) rfl rfl rfl
  refine ⟨_, _, _, ?_, .sl _ _ _ _ _ _ (Ev.ext_here _ _ _ _), h⟩
  obtain ⟨ii, z', j1, j2, j3, j4, _, j6⟩ := hte.info
  have hz' : z'.cells = ⟨te.zero⟩ := Array.ext' j6
  have hbc : (ii.bytes : Int) * Int.ofNat c ≤ 281474976710656 := by
    have : ((ii.bytes * c : Nat) : Int) ≤ 281474976710656 := by rw [j3, Nat.mul_comm]; omega
    rwa [Int.natCast_mul] at this
  have hc63 : Int.ofNat c ≤ 9223372036854775807 := by
    have : ((c : Nat) : Int) ≤ 16777216 := by omega
    exact Int.le_trans this (by decide)
  have hr := run_make (P := P) w t e ii z' (hk ▸ hty.und) j1 j4 kl kc (Int.ofNat l) (Int.ofNat c) (Int.natCast_nonneg l) (Int.ofNat_le.2 hlc) hbc hc63
  rw [hr]
  have hcells : madeCells z'.cells (c * ii.size) = ⟨rep c te.zero⟩ := by
    rw [j2, ← show z'.cells.toList = te.zero from j6]
    exact rep_array c te.size z'.cells (by rw [hz']; exact hte.zlen)
  have e1 : (Int.ofNat c).toNat = c := rfl
  have e2 : (Int.ofNat l).toNat = l := rfl
  rw [e1, e2, hcells]
/-- []byte(s) -/
theorem lbytes_sound (hI : Inv E σ G.ng w) (hlo : lo ≤ σ.nx) {src dst e : TypeId} {s : List UInt8} {ks : TypeDesc} (hs : P.underlying src = some ks) (hd : P.underlying dst = some (.slice e)) (he : P.underlying e = some (.int .u8)) :
    V1Ok G E lo σ w (.slice (some ⟨σ.nx, 0, some 1⟩) s.length s.length) (put σ (.cells (s.map fun b => .int .u8 (Int.ofNat b.toNat)) false)) ((convert src dst (.string ⟨⟨s⟩⟩)).run P w) := by
  have hcell : VRs E (s.map fun b => (.int .u8 (Int.ofNat b.toNat) : Value)) (s.map fun b => .int .u8 (Int.ofNat b.toNat)) := by
    induction s with
    | nil => exact .nil
    | cons u s ih => exact .cons _ _ _ _ (.int _ _) ih
  let cap := (Question.appendCap s.length 0 e).cut (w.tape w.drawn (.appendCap s.length 0 e))
  have hcap : s.length ≤ cap := by simp [cap, Question.cut]
  let arr : Array Value := ⟨s.map fun b => .int .u8 (Int.ofNat b.toNat)⟩ ++ Array.replicate (cap - s.length) (.int .u8 0)
  have hsz : arr.size = cap := by simp [arr]; omega
  let w1 := w.drew.alloc (.cells arr e)
  let w' := w1.freeze ⟨w.heap.size, cap, none⟩ 1
  have hrun : (convert src dst (.string ⟨⟨s⟩⟩)).run P w = .ok (.slice (some ⟨w.heap.size, 0, none⟩) s.length cap) w' := by
    unfold convert
    rw [Sem.run_bind, run_underlying hs]
    simp only [Result.andThen_ok]
    rw [Sem.run_bind, run_underlying hd]
    simp only [Result.andThen_ok]
    rw [Sem.run_bind, run_underlying he]
    simp only [Result.andThen_ok]
    unfold Conv.stringToBytes
    rw [Sem.run_bind, run_choose_drew]
    simp only [Question.forced, Bool.false_eq_true, if_false, Result.andThen_ok]
    unfold newRow markStringish
    simp only [Sem.run_bind, run_newObj_alloc, Result.andThen_ok, Sem.run_pure, run_shape]
    have harr : (Array.map (fun b : UInt8 => (Value.int .u8 b.toNat)) (⟨⟨s⟩⟩ : ByteArray).data) ++ Array.replicate (cap - s.length) (.int .u8 0) = arr := by
      simp [arr]
    have hcs : (Question.appendCap (⟨⟨s⟩⟩ : ByteArray).size 0 e).cut (w.tape w.drawn (.appendCap (⟨⟨s⟩⟩ : ByteArray).size 0 e)) = cap := rfl
    have hss : (⟨⟨s⟩⟩ : ByteArray).size = s.length := rfl
    rw [hcs, hss, harr]
    have hshape : w1.shape? w.heap.size = some (e, cap) := by
      unfold World.shape?
      rw [show w1.heap[w.heap.size]? = some (.cells arr e) from heap_alloc_new w.drew _]
      simp [hsz]
    rw [show (World.alloc w.drew (Obj.cells arr e)) = w1 from rfl, show w.drew.heap.size = w.heap.size from rfl, hshape]
    simp only [run_freeze, Result.andThen_ok, Sem.run_pure]
    rfl
  have hheap : w'.heap = w.heap.push (.cells arr e (cap, cap + 1)) := freeze_alloc w.drew arr e cap
  have hle := Ev.ext_le (b := w.heap.size) (n := cap) (hI.fresh σ.nx (Nat.le_refl _))
  have h := hI.alloc (lo := lo) (n := cap) (o := .cells (s.map fun b => .int .u8 (Int.ofNat b.toNat)) false) (w' := w') hlo hheap (by show (w1.freeze _ 1).os = _; unfold World.freeze; rw [if_neg (by omega)]; rfl)
    (by show (w1.freeze _ 1).tape = _; unfold World.freeze; rw [if_neg (by omega)]; rfl) (by show (w1.freeze _ 1).output = _; unfold World.freeze; rw [if_neg (by omega)]; rfl)
    ⟨w.heap.size, cap, arr, e, (cap, cap + 1), Ev.ext_here _ _ _ _, by rw [hheap, Array.getElem?_push]; simp, hsz, (fun h => by cases h), by simp; exact hcap, by
      have : arr.toList.take (s.map fun b => (.int .u8 (Int.ofNat b.toNat) : Value)).length = s.map fun b => .int .u8 (Int.ofNat b.toNat) := by
        simp [arr]
      rw [this]
      exact hcell.mono hle⟩
  exact ⟨_, _, _, hrun, .sli _ _ _ _ _ _ _ _ (Ev.ext_here _ _ _ _) hcap (by omega), h⟩
end
end Go.Proofs.YtgjbnebmcmoilaaGreatDoor.Ax
