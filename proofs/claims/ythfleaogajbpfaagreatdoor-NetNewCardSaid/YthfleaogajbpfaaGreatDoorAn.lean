/- More of the library's functions: strings.Compare, strings.ContainsRune. -/
import Derived.Test.YthfleaogajbpfaaGreatDoorAl
import Derived.Test.YthfleaogajbpfaaGreatDoorAxj
set_option linter.unusedVariables false
set_option linter.unusedSimpArgs false
namespace Go.Proofs.YthfleaogajbpfaaGreatDoor
open Go.RowKit
theorem eqB_self : ∀ a : List UInt8, Ax.eqB a a = true := fun a => by rw [Ax.eqB_eq]; simp
theorem compare_eq : ∀ (a b : List UInt8), Lib.compareBytes a b = (match Ax.lessB a b, Ax.eqB a b with | true, _ => -1 | _, true => 0 | _, _ => 1)
  | [], [] => rfl
  | [], _ :: _ => rfl
  | _ :: _, [] => rfl
  | a :: l, b :: k => by
    have ih := compare_eq l k
    unfold Lib.compareBytes Ax.lessB Ax.eqB
    by_cases h1 : a < b
    · have h1' : Nat.blt a.toNat b.toNat = true := by simpa using UInt8.lt_iff_toNat_lt.1 h1
      rw [if_pos h1, h1']
      rfl
    · have h1' : Nat.blt a.toNat b.toNat = false := by
        cases hx : Nat.blt a.toNat b.toNat with
        | false => rfl
        | true => exact absurd (UInt8.lt_iff_toNat_lt.2 (by simpa using hx)) h1
      by_cases h2 : b < a
      · have h3 : Nat.beq a.toNat b.toNat = false := by
          cases hx : Nat.beq a.toNat b.toNat with
          | false => rfl
          | true =>
            have h4 := UInt8.lt_iff_toNat_lt.1 h2
            have h5 := Nat.eq_of_beq_eq_true hx
            omega
        rw [if_neg h1, if_pos h2, h1', h3]
        rfl
      · have h3 : Nat.beq a.toNat b.toNat = true := by
          have h4 : ¬ a.toNat < b.toNat := fun h => h1 (UInt8.lt_iff_toNat_lt.2 h)
          have h5 : ¬ b.toNat < a.toNat := fun h => h2 (UInt8.lt_iff_toNat_lt.2 h)
          have : a.toNat = b.toNat := by omega
          simp [this]
        rw [if_neg h1, if_neg h2, h1', h3, ih]
        simp
theorem lib_compare : LibOk 182 .compare := by
  intro E w h args args' v hh hg hq ha
  unfold Ax.extF at hq
  split at hq
  · rename_i s t heq
    injection hq with hq
    subst hq
    cases ha with
    | cons _ _ _ _ hs1 h2 =>
      cases h2 with
      | cons _ _ _ _ ht1 h3 =>
        cases h3
        cases hs1; cases ht1
        refine (Tryz.strings_Compare ⟨⟨s⟩⟩ ⟨⟨t⟩⟩ w).mono ?_
        rintro e w' ⟨rfl, rfl⟩
        refine ⟨_, rfl, ?_, rfl, rfl, rfl, rfl⟩
        rw [compare_eq]
        exact .int _ _
  · rename_i heq; cases heq
  · rename_i heq; cases heq
  · rename_i heq; cases heq
  · cases hq
theorem lib_containsRune : LibOk 141 .containsRune := by
  intro E w h args args' v hh hg hq ha
  unfold Ax.extF at hq
  split at hq
  · rename_i heq; cases heq
  · rename_i heq; cases heq
  · rename_i s r heq
    split at hq
    · rename_i hr
      have hr : r < 128 := by simpa using hr
      injection hq with hq
      subst hq
      cases ha with
      | cons _ _ _ _ hs1 h2 =>
        cases h2 with
        | cons _ _ _ _ ht1 h3 =>
          cases h3
          cases hs1; cases ht1
          refine (Tryz.strings_ContainsRune_ascii s (Int.ofNat r) w (Int.natCast_nonneg r) (by have : ((r : Nat) : Int) < 128 := by omega
                                                                                               exact this)).mono ?_
          rintro e w' ⟨rfl, rfl⟩
          exact ⟨_, rfl, .bool _, rfl, rfl, rfl, rfl⟩
    · cases hq
  · rename_i heq; cases heq
  · cases hq
noncomputable def gvc : Ax.Gv := { gv with libs := (gv.libs.set 182 .compare).set 141 .containsRune }
theorem gvc_lib (f : FuncId) (x : Ax.Xt) (hx : gvc.libs.get f = some x) : LibOk f x := by
  simp only [gvc, Ax.Tr.get_set] at hx
  split at hx
  · rename_i hf
    subst hf
    injection hx with hx
    subst hx
    exact lib_containsRune
  · split at hx
    · rename_i hf
      subst hf
      injection hx with hx
      subst hx
      exact lib_compare
    · exact gv_lib f x hx
theorem gvc_funs : Ax.FunsOk Tryz.prog gvc := by
  refine ⟨?_, ?_, ?_, ?_, ?_, ?_⟩
  · have h := gv_funs.funcs; simpa only [gvc] using h
  · have h := gv_funs.exts; simpa only [gvc] using h
  · intro f x hx
    have h := gvc_lib f x hx
    unfold LibOk at h
    exact h
  · have h := gv_funs.sums; simpa only [gvc] using h
  · have h := gv_funs.memos; simpa only [gvc] using h
  · have h := gv_funs.dfs; simpa only [gvc] using h
theorem gvc_types : Ax.TypesOk Tryz.prog gvc := by
  have h := gv_types
  unfold Ax.TypesOk at h ⊢
  simpa only [gvc] using h
def MemoDone (f : FuncId) (m : Ax.Memo) : Prop := ∀ (E : Ax.Ev) (w : World) (lo : Nat) (σ : Ax.St) (args args' : List Value) (v : Value) (σ' : Ax.St), Ax.Inv E σ gv.ng w → lo ≤ σ.nx → Ax.memo1 1000 lo m σ args = some (v, σ') → Ax.VRs E args args' →
    Calls Tryz.prog f ⟨args'⟩ w fun e w' => ∃ v' E', e = .returned v' ∧ Ax.VR E' v v' ∧ Ax.Inv E' σ' gv.ng w' ∧ Ax.Stp E lo σ.nx w E' w' ∧ Ax.AStp lo σ σ'
end Go.Proofs.YthfleaogajbpfaaGreatDoor
