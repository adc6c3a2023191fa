/- Names that are made canonical: the reference's Canon, the program's, and the law's canon. -/
import Derived.Test.YtahklchfchjmcaaDoorNe
namespace Go.Proofs.YtahklchfchjmcaaDoor
set_option linter.unusedVariables false
set_option linter.unusedSimpArgs false
open Go.RowKit Go.MapKept

theorem add_str (T U : ByteArray) (h : T.size + U.size ≤ 1000000) (W : World) : (Op.stringOp .add T U).run Tryd.prog W = .ok (.string (T ++ U)) W := run_string_add_sum W T U (by omega)
theorem slice_str {s : ByteArray} {a b : Nat} (hab : a ≤ b) (hb : b ≤ s.size) (W : World) : (Instr.slice 9 (.string s) (some (.int .i64 (a : Int))) (some (.int .i64 (b : Int))) none).run Tryd.prog W = .ok (.string (s.extract a b)) W :=
  run_slice_string W 9 s .i64 .i64 a b (by kernel_rfl) (by omega) (by omega) (by omega)
theorem extract_one {s : ByteArray} {k : Nat} {x : UInt8} (hx : s.data.toList[k]? = some x) : s.extract k (k + 1) = ⟨#[x]⟩ := by
  rw [Lib.extract_eq]
  have hk : k < s.data.toList.length := (List.getElem?_eq_some_iff.1 hx).1
  have e : (s.data.toList.drop k).take (k + 1 - k) = [x] := by
    rw [List.drop_eq_getElem_cons hk, Nat.add_sub_cancel_left, List.take_succ_cons, List.take_zero]
    congr 1
    exact (List.getElem?_eq_some_iff.1 hx).2
  rw [e]
theorem app_data (T U : ByteArray) : (T ++ U).data.toList = T.data.toList ++ U.data.toList := by simp
theorem empty_of (T : ByteArray) (h : T.data.toList = []) : T = ⟨#[]⟩ := by rw [← Lib.mk_data T, h]
theorem canonFrom_sp {l out : Bs} {sp : Bool} {k : Nat} {x : UInt8} (hx : l[k]? = some x) (hs : spR x.toNat = true) : canonFrom out sp (l.drop k) = canonFrom out true (l.drop (k + 1)) := by
  have hk : k < l.length := (List.getElem?_eq_some_iff.1 hx).1
  have e : l.drop k = x :: l.drop (k + 1) := by
    rw [List.drop_eq_getElem_cons hk]
    congr 1
    exact (List.getElem?_eq_some_iff.1 hx).2
  rw [e]
  simp only [canonFrom, hs, if_true]
theorem canonFrom_no {l out : Bs} {sp : Bool} {k : Nat} {x : UInt8} (hx : l[k]? = some x) (hs : spR x.toNat = false) : canonFrom out sp (l.drop k) = canonFrom ((if sp = true ∧ out ≠ [] then out ++ [32] else out) ++ [x]) false (l.drop (k + 1)) := by
  have hk : k < l.length := (List.getElem?_eq_some_iff.1 hx).1
  have e : l.drop k = x :: l.drop (k + 1) := by
    rw [List.drop_eq_getElem_cons hk]
    congr 1
    exact (List.getElem?_eq_some_iff.1 hx).2
  rw [e]
  simp only [canonFrom, hs, Bool.false_eq_true, if_false]

set_option maxRecDepth 100000 in
set_option maxHeartbeats 1000000 in
theorem refCanon_any (s : ByteArray) (hs : s.size ≤ 100000) (w : World) :
    Calls Tryd.prog 31 #[.string s] w fun e w' => e = .returned (.string ⟨(canonL s.data.toList).toArray⟩) ∧ w' = w := by
  obtain ⟨N, hN⟩ : ∃ N, s.size = N := ⟨_, rfl⟩
  have HL : Hid (s.data.toList.length = N) := Lib.hid (by rw [← hN]; exact (Lib.size_eq s).symm)
  go_enter Tryd.func31, Tryd.ntmps31
  go_wp2
  go_loopg [3, 4, 5] N (fun gf s3 s4 s5 wx => ∃ (k : Nat) (T : ByteArray) (sp : Bool), s5 = .int .i64 (k : Int) ∧ s3 = .string T ∧ s4 = .bool sp ∧ k + gf = N ∧ wx = w ∧ T.size ≤ 2 * k ∧ canonL s.data.toList = canonFrom T.data.toList sp (s.data.toList.drop k))
  case atStart => exact ⟨0, ⟨#[]⟩, false, rfl, rfl, rfl, by omega, rfl, Nat.le_refl _, rfl⟩
  case round =>
    obtain ⟨k, T, sp, rfl, rfl, rfl, hk, rfl, hT, hfrom⟩ := hrel
    have HF := Lib.hid hfrom
    have HT := Lib.hid hT
    clear hfrom hT
    by_cases hlt : k < N
    · obtain ⟨g', rfl⟩ : ∃ g', gk = g' + 1 := ⟨gk - 1, by omega⟩
      have hkL : k < s.data.toList.length := by rw [HL.out]; exact hlt
      have hx0 : s.data.toList[k]? = some s.data.toList[k] := List.getElem?_eq_getElem hkL
      generalize s.data.toList[k] = x at hx0
      have hix := index_str hx0
      have hsl : ∀ W, (Instr.slice 9 (.string s) (some (.int .i64 (k : Int))) (some (.int .i64 ((k : Int) + 1))) none).run Tryd.prog W = .ok (.string ⟨#[x]⟩) W := fun W => by
        rw [← extract_one hx0]
        exact slice_str (a := k) (b := k + 1) (by omega) (by omega) W
      have HX := Lib.hid hx0
      clear hx0
      have hx256 : x.toNat < 256 := x.toNat_lt
      have hwk : IntKind.i64.wrap ((k : Int) + 1) = (k : Int) + 1 := wrap_small _ (by omega) (by omega)
      cases hsp : spR x.toNat with
      | true =>
        have HN : Hid (canonL s.data.toList = canonFrom T.data.toList true (s.data.toList.drop (k + 1))) := Lib.hid (by rw [HF.out]; exact canonFrom_sp HX.out hsp)
        have hz : (x.toNat : Int) = 9 ∨ (x.toNat : Int) = 10 ∨ (x.toNat : Int) = 13 ∨ (x.toNat : Int) = 32 := by
          have := of_decide_eq_true hsp
          omega
        clear hsp hsl
        rcases hz with hz | hz | hz | hz
        all_goals
          rw [hz] at hix
          clear hz
          go_wp2
          go_roundg g'
          case measure => omega
          case rel => exact ⟨k + 1, T, true, by go_num, rfl, rfl, by omega, rfl, by have := HT.out; omega, HN.out⟩
      | false =>
        have hz := of_decide_eq_false hsp
        have h9 : ((x.toNat : Int) == 9) = false := by rw [beq_eq_false_iff_ne]; omega
        have h10 : ((x.toNat : Int) == 10) = false := by rw [beq_eq_false_iff_ne]; omega
        have h13 : ((x.toNat : Int) == 13) = false := by rw [beq_eq_false_iff_ne]; omega
        have h32 : ((x.toNat : Int) == 32) = false := by rw [beq_eq_false_iff_ne]; omega
        have i9 : ¬ (x.toNat : Int) = 9 := by omega
        have i10 : ¬ (x.toNat : Int) = 10 := by omega
        have i13 : ¬ (x.toNat : Int) = 13 := by omega
        have i32 : ¬ (x.toNat : Int) = 32 := by omega
        have HN : Hid (canonL s.data.toList = canonFrom ((if sp = true ∧ T.data.toList ≠ [] then T.data.toList ++ [32] else T.data.toList) ++ [x]) false (s.data.toList.drop (k + 1))) := Lib.hid (by rw [HF.out]; exact canonFrom_no HX.out hsp)
        clear hsp hz
        have hadd := fun W => add_str T ⟨#[x]⟩ (by have := HT.out; show T.size + 1 ≤ _; omega) W
        have hd1 := app_data T ⟨#[x]⟩
        have hs1 : (T ++ ⟨#[x]⟩).size ≤ 2 * (k + 1) := by have := HT.out; rw [ByteArray.size_append]; show T.size + 1 ≤ _; omega
        cases sp with
        | false =>
          have HN2 : Hid (canonL s.data.toList = canonFrom (T ++ ⟨#[x]⟩).data.toList false (s.data.toList.drop (k + 1))) := Lib.hid (by rw [HN.out, hd1, if_neg (by simp)])
          have HS1 := Lib.hid hs1
          generalize T ++ ⟨#[x]⟩ = T1 at *
          clear hd1 hs1
          go_wp2
          go_roundg g'
          case measure => omega
          case rel => exact ⟨k + 1, T1, false, by go_num, rfl, rfl, by omega, rfl, HS1.out, HN2.out⟩
        | true =>
          cases hTl : T.data.toList with
          | nil =>
            have HN2 : Hid (canonL s.data.toList = canonFrom (T ++ ⟨#[x]⟩).data.toList false (s.data.toList.drop (k + 1))) := Lib.hid (by rw [HN.out, hd1, hTl, if_neg (by simp)])
            have HS1 := Lib.hid hs1
            obtain rfl := empty_of T hTl
            generalize (⟨#[]⟩ : ByteArray) ++ ⟨#[x]⟩ = T1 at *
            clear hd1 hs1 hTl
            go_wp2
            go_roundg g'
            case measure => omega
            case rel => exact ⟨k + 1, T1, false, by go_num, rfl, rfl, by omega, rfl, HS1.out, HN2.out⟩
          | cons a r =>
            have hTt : T.toList = a :: r := by rw [ByteArray.toList_eq]; exact hTl
            have hadd0 := fun W => add_str T ⟨#[32]⟩ (by have := HT.out; show T.size + 1 ≤ _; omega) W
            have hd0 := app_data T ⟨#[32]⟩
            have hs0 : (T ++ ⟨#[32]⟩).size = T.size + 1 := by rw [ByteArray.size_append]; rfl
            clear hadd hd1 hs1
            generalize T ++ ⟨#[32]⟩ = T0 at *
            have hadd := fun W => add_str T0 ⟨#[x]⟩ (by have := HT.out; show T0.size + 1 ≤ _; omega) W
            have hd1 := app_data T0 ⟨#[x]⟩
            have hs1 : (T0 ++ ⟨#[x]⟩).size ≤ 2 * (k + 1) := by have := HT.out; rw [ByteArray.size_append]; show T0.size + 1 ≤ _; omega
            have HN2 : Hid (canonL s.data.toList = canonFrom (T0 ++ ⟨#[x]⟩).data.toList false (s.data.toList.drop (k + 1))) := Lib.hid (by rw [HN.out, hd1, hd0, hTl, if_pos ⟨rfl, by simp⟩])
            have HS1 := Lib.hid hs1
            generalize T0 ++ ⟨#[x]⟩ = T1 at *
            clear hd1 hs1 hd0 hs0 hTl
            go_wp2
            go_roundg g'
            case measure => omega
            case rel => exact ⟨k + 1, T1, false, by go_num, rfl, rfl, by omega, rfl, HS1.out, HN2.out⟩
    · have hfin : canonL s.data.toList = T.data.toList := by
        rw [HF.out, List.drop_eq_nil_of_le (by rw [HL.out]; omega)]
        rfl
      have HN := Lib.hid hfin
      clear hfin
      go_wp2
      go_ret
      refine ⟨?_, rfl⟩
      rw [HN.out, Lib.mk_data]
      rfl
end Go.Proofs.YtahklchfchjmcaaDoor
