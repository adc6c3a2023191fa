/- The evaluator over this program: what is asked of the library's functions. -/
import Derived.Test.YtecnchmcdbcofaaGreatDoorAk
import Derived.Test.YtecnchmcdbcofaaGreatDoorSh
import Derived.Test.YtecnchmcdbcofaaGreatDoorIt
set_option linter.unusedVariables false
set_option linter.unusedSimpArgs false
namespace Go.Proofs.YtecnchmcdbcofaaGreatDoor
open Go.RowKit Go.Maps Go.Sort Go.Shelf

/-- a function of Go's library whose contract the shelf has -/
def LibOk (f : FuncId) (x : Ax.Xt) : Prop := ∀ (E : Ax.Ev) (w : World) (h : Ax.Tr Ax.AO) (args args' : List Value) (v : Value), Ax.HR E h w → Ax.Glob E gv.ng → Ax.extF x h args = some v → Ax.VRs E args args' →
    Calls Tryz.prog f ⟨args'⟩ w fun e w' => ∃ v', e = .returned v' ∧ Ax.VR E v v' ∧ w'.heap = w.heap ∧ w'.os = w.os ∧ w'.tape = w.tape ∧ w'.output = w.output
theorem lib_contains : LibOk 66 (.contains 2) := by
  intro E w h args args' v hh hg hq ha
  unfold Ax.extF at hq
  split at hq
  · rename_i heq; cases heq
  · rename_i mx s t heq
    injection heq with heq
    subst heq
    split at hq
    · rename_i m hr hs
      injection hq with hq
      subst hq
      obtain ⟨n, hn⟩ := hg 2 gv_ng
      · obtain ⟨cs', c1, c2, c3⟩ := Ax.rd_sound hh hn hr
        cases c1 with
        | cons _ u _ _ hu hnil =>
          cases hnil
          cases hu
          have hm := c3 0 _ rfl
          cases ha with
          | cons _ _ _ _ hs1 h2 =>
            cases h2 with
            | cons _ _ _ _ ht1 h3 =>
              cases h3
              cases hs1; cases ht1
              refine (Tryz.strings_Contains s t m w (by simpa using hs) hm).mono ?_
              rintro e w' ⟨rfl, rfl⟩
              exact ⟨_, rfl, .bool _, rfl, rfl, rfl, rfl⟩
    · cases hq
  · rename_i heq; cases heq
  · rename_i heq; cases heq
  · cases hq
/-- slices.Sort's two contracts at this dump, at the fence that asks nothing. -/
theorem sortsA (m : Nat) : AnyZI.SortsIn Tryz.prog Tryz.sortedA_ren Fence.wide m :=
  ⟨fun blk off cap ss W hH hblk hsz => callsIn_wide.2 (AnyM.slices_Sort_int Tryz.sortA blk off cap ss W hH hblk hsz),
   fun p cap W => callsIn_wide.2 (AnyM.slices_Sort_int_none Tryz.sortA p cap W)⟩
theorem sorted_keys {H : Type} (bm b nn : Nat) (D0 : DataW H) (R : Value → Option (DataW H × List MemPlace)) (w : World) (hbm : w.cell? ⟨bm, 0, none⟩ = some (.map (some b))) (hown : w.ownsMap Tryz.prog (Tryz.keysA_ren.t 26) R b nn D0) (hmax : Maps.size D0 ≤ maxLen) (hbytes : Maps.size D0 * 8 ≤ 140737488355328) :
    Calls Tryz.prog 61 #[.func (.func 113) #[] #[.pointer (some ⟨bm, 0, none⟩)]] w fun e w' => ∃ (v : Value) (ss : List Int), e = .returned v ∧ ss.Perm (intKeys D0) ∧
      w'.ownsRow w.heap.size (Tryz.sortedA_ren.t 26) 1 v ss.length ((ss.mergeSort (fun x y => decide (x ≤ y))).map encZ) ∧ (v = .slice none 0 0 ↔ ss = []) ∧ Below w.heap.size w w' := by
  refine (callsIn_wide (n := 5)).1 ?_
  have hlt : bm < w.heap.size := by
    unfold World.cell? at hbm
    cases h : w.heap[bm]? with
    | none => simp [h] at hbm
    | some o => exact (Array.getElem?_eq_some_iff.1 h).1
  have hseq : SeqGives Fence.wide 2 Tryz.prog 113 #[.pointer (some ⟨bm, 0, none⟩)] encZ (fun ss => ss.Perm (intKeys D0)) (Maps.size D0) w :=
    AnyZI.keys_gives (ρ := Tryz.keysA_ren) { Tryz.keysA with } Fence.wide _ trivial rfl (by omega) bm b nn D0 w hlt hbm hown
  exact AnyZI.sorted_in Tryz.sortedA Fence.wide 5 trivial trivial trivial trivial rfl (by omega) (sortsA _) (enters_of Tryz.func112 (by kernel_rfl) rfl) 113 #[.pointer (some ⟨bm, 0, none⟩)] trivial (enters_of Tryz.func113 (by kernel_rfl) rfl) _ _ hmax hbytes _ hseq
def SumOk (f : FuncId) (s : Ax.Sm) : Prop := ∀ (E : Ax.Ev) (w : World) (lo : Nat) (σ : Ax.St) (args args' : List Value) (v : Value) (σ' : Ax.St), Ax.Inv E σ gv.ng w → lo ≤ σ.nx → Ax.sumF s σ args = some (v, σ') → Ax.VRs E args args' →
    Calls Tryz.prog f ⟨args'⟩ w fun e w' => ∃ v' E', e = .returned v' ∧ Ax.VR E' v v' ∧ Ax.Inv E' σ' gv.ng w' ∧ Ax.Stp E lo σ.nx w E' w' ∧ Ax.AStp lo σ σ'
theorem sum_sorted : SumOk 61 (.sortedKeys 113) := by
  intro E w lo σ args args' v σ' hI hlo hq ha
  unfold Ax.sumF at hq
  split at hq
  · rename_i heq; cases heq
  · rename_i heq; cases heq
  · rename_i heq; cases heq
  · rename_i g f i heq
    injection heq with heq
    subst heq
    cases ha with
    | cons _ _ _ _ h1 h2 =>
      cases h2
      cases h1 with
      | fn _ _ _ a' b' hfa hfb =>
        cases hfa
        cases hfb with
        | cons _ p' _ _ hp hn =>
          cases hn
          cases hp with
          | ptr _ b nb _ hb =>
            split at hq
            · rename_i r hf hr
              have hf := Nat.eq_of_beq_eq_true hf
              subst hf
              obtain ⟨cs', c1, c2, c3⟩ := Ax.rd_sound hI.heap hb hr
              cases c1 with
              | cons _ u _ _ hu hnil =>
                cases hnil
                cases hu with
                | mp _ rb rn hrb =>
                  have hcell := c3 0 _ rfl
                  split at hq
                  · rename_i es c hes
                    simp only [Option.bind_eq_some_iff] at hq
                    obtain ⟨ks, k1, hq⟩ := hq
                    split at hq
                    · rename_i k2 k3
                      split at hq
                      · rename_i n l hlen hsort
                        injection hq with hq
                        injection hq with e1 e2
                        subst e1; subst e2
                        obtain ⟨rb', rn', es', d1, d2, d3⟩ := hI.heap r _ hes
                        rw [hrb] at d1
                        injection d1 with d1; injection d1 with d1 _
                        subst d1
                        have hlen : (Ax.sortI ks).length ≤ 4294967296 := by simpa using hlen
                        rw [(Ax.sortI_perm ks).length_eq] at hlen
                        obtain ⟨D0, o1, o2, o3⟩ := Ax.owns_of (P := Tryz.prog) (k := Tryz.keysA_ren.t 26) Tryz.keysA.t26 d2 d3 k1 k2 k3 hlen
                        have hm : ks.length ≤ maxLen := Nat.le_trans hlen (by decide)
                        refine (sorted_keys b rb ks.length D0 _ w hcell o1 (by rw [o2]; exact hm) (by rw [o2]; omega)).mono ?_
                        rintro e w' ⟨v', ss, rfl, hp, hr, _, hbl⟩
                        obtain ⟨E', g1, g2⟩ := Ax.sorted_post hI hlo (hp.trans o3) hsort hr hbl
                        exact ⟨v', E', rfl, g1, g2⟩
                      · cases hq
                    · cases hq
                  · cases hq
            · cases hq
  · cases hq

set_option maxRecDepth 100000 in
theorem gv_names : (Tryz.prog.funcs.toList.all fun f => f.name != "runtime.NumGoroutine") = true := by kernel_rfl
theorem gv_mixed : Tryz.prog.follows .mixedOrders = true := by kernel_rfl
theorem gv_lib (f : FuncId) (x : Ax.Xt) (hx : gv.libs.get f = some x) : LibOk f x := by
  simp only [gv, Ax.Tr.get_set] at hx
  split at hx
  · rename_i hf
    subst hf
    injection hx with hx
    subst hx
    exact lib_contains
  · simp [Ax.Tr.get] at hx
theorem gv_sum (f : FuncId) (s : Ax.Sm) (hx : gv.sums.get f = some s) : SumOk f s := by
  simp only [gv, Ax.Tr.get_set] at hx
  split at hx
  · rename_i hf
    subst hf
    injection hx with hx
    subst hx
    exact sum_sorted
  · simp [Ax.Tr.get] at hx
theorem gv_fun (f : FuncId) (fn : Func) (h : gv.funcs.get f = some fn) : Tryz.prog.funcs[f]? = some fn ∧ fn.name ≠ "runtime.NumGoroutine" := by
  unfold gv at h
  dsimp only at h
  exact ⟨gfuncs_ok f fn h, Ax.names_ok gv_names (gfuncs_ok f fn h)⟩
theorem gv_funs : Ax.FunsOk Tryz.prog gv := by
  refine ⟨fun f fn h => gv_fun f fn h, fun f fn x _ _ h => ?_, fun f x hx E w h args args' v hh hg hq ha => gv_lib f x hx E w h args args' v hh hg hq ha, fun f s hx E w lo σ args args' v σ' hI hlo hq ha => gv_sum f s hx E w lo σ args args' v σ' hI hlo hq ha, fun f l h => ?_, fun f k h => ?_⟩
  · simp [gv, Ax.Tr.get] at h
  · simp [gv, Ax.Tr.get] at h
  · simp [gv, Ax.Tr.get] at h
/-- the package's variables, as the row lays them -/
def Env (W : World) : Prop := ∃ m, Ax.VarsAre W (vars m) ∧ gv.ng ≤ W.heap.size
end Go.Proofs.YtecnchmcdbcofaaGreatDoor
