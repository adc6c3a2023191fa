/- names.Unquote and the law's unquotes; names.Canon and the law's canon. -/
import Derived.Test.YtahklchfchjmcaaDoorNk
namespace Go.Proofs.YtahklchfchjmcaaDoor
set_option linter.unusedVariables false
set_option linter.unusedSimpArgs false
open Go.RowKit Go.MapKept

def unqV (l : Bs) : Value := match unqL l with
  | some x => .tuple #[.string ⟨x.toArray⟩, .int .i64 0]
  | none => .tuple #[.string ⟨#[]⟩, .int .i64 6]

theorem mk_of {s : ByteArray} {l : Bs} (h : s.data.toList = l) : s = ⟨l.toArray⟩ := by rw [← h, Lib.mk_data]

set_option maxRecDepth 100000 in
set_option maxHeartbeats 1000000 in
theorem unquote_any (s : ByteArray) (hs : s.size ≤ 100000) (w : World) :
    Calls Tryd.prog 55 #[.string s] w fun e w' => e = .returned (unqV s.data.toList) ∧ Below w.heap.size w w' := by
  cases hl : s.data.toList with
  | nil =>
    obtain rfl := mk_of hl
    have HV : Hid (unqV [] = .tuple #[.string ⟨#[]⟩, .int .i64 6]) := Lib.hid rfl
    clear hl
    go_enter Tryd.func55, Tryd.ntmps55
    go_wp2
    go_ret2
    exact ⟨by rw [HV.out]; rfl, Below.refl _ _⟩
  | cons c t =>
    have hi0 : ∀ W, (Instr.index 9 (.string s) (.int .i64 0)).run Tryd.prog W = .ok (.int .u8 (c.toNat : Int)) W := fun W => index_str (k := 0) (by rw [hl]; rfl) W
    have hne : s.toList = c :: t := by rw [ByteArray.toList_eq]; exact hl
    have HL := Lib.hid hl
    have HQ := Lib.hid (fun W => quoted_any s hs W)
    clear hl
    by_cases h34 : c = 34
    · subst h34
      cases hd : deqL (34 :: t) with
      | none =>
        have HV : Hid (unqV (34 :: t) = .tuple #[.string ⟨#[]⟩, .int .i64 6]) := Lib.hid (by unfold unqV unqL; rw [hd])
        have hqv : quotedV s.data.toList = .tuple #[.string ⟨#[]⟩, .string ⟨#[]⟩, .int .i64 6] := by rw [HL.out]; unfold quotedV; rw [hd]
        rw [hqv] at HQ
        clear hd hqv
        go_enter Tryd.func55, Tryd.ntmps55
        go_wp2_with fail
        refine (HQ.out _).mono ?_
        rintro e w' ⟨rfl, hb⟩
        have HB := Lib.hid hb
        clear hb
        go_wp2
        go_ret2
        exact ⟨by rw [HV.out]; rfl, HB.out⟩
      | some y =>
        obtain ⟨x, r⟩ := y
        have hqv : quotedV s.data.toList = .tuple #[.string ⟨x.toArray⟩, .string ⟨r.toArray⟩, .int .i64 0] := by rw [HL.out]; unfold quotedV; rw [hd]
        rw [hqv] at HQ
        cases r with
        | nil =>
          have HV : Hid (unqV (34 :: t) = .tuple #[.string ⟨x.toArray⟩, .int .i64 0]) := Lib.hid (by unfold unqV unqL; rw [hd])
          clear hd hqv
          generalize (⟨x.toArray⟩ : ByteArray) = X at *
          go_enter Tryd.func55, Tryd.ntmps55
          go_wp2_with fail
          refine (HQ.out _).mono ?_
          rintro e w' ⟨rfl, hb⟩
          have HB := Lib.hid hb
          clear hb
          go_wp2
          go_ret2
          exact ⟨by rw [HV.out]; rfl, HB.out⟩
        | cons a r =>
          have HV : Hid (unqV (34 :: t) = .tuple #[.string ⟨#[]⟩, .int .i64 6]) := Lib.hid (by unfold unqV unqL; rw [hd])
          have hR : (⟨(a :: r).toArray⟩ : ByteArray).toList = a :: r := by rw [ByteArray.toList_eq]
          clear hd hqv
          generalize (⟨x.toArray⟩ : ByteArray) = X at *
          generalize (⟨(a :: r).toArray⟩ : ByteArray) = R at *
          go_enter Tryd.func55, Tryd.ntmps55
          go_wp2_with fail
          refine (HQ.out _).mono ?_
          rintro e w' ⟨rfl, hb⟩
          have HB := Lib.hid hb
          clear hb
          go_wp2
          go_ret2
          exact ⟨by rw [HV.out]; rfl, HB.out⟩
    · have n34 : ((c.toNat : Int) == 34) = false := by
        rw [beq_eq_false_iff_ne]
        intro h
        exact h34 (UInt8.toNat_inj.1 (show c.toNat = 34 by omega))
      have m34 : ¬ (c.toNat : Int) = 34 := by simpa using n34
      have HV : Hid (unqV (c :: t) = .tuple #[.string ⟨#[]⟩, .int .i64 6]) := Lib.hid (by
        unfold unqV unqL deqL
        dsimp only
        rw [if_neg h34])
      clear h34
      go_enter Tryd.func55, Tryd.ntmps55
      go_wp2
      go_ret2
      exact ⟨by rw [HV.out]; rfl, Below.refl _ _⟩

set_option maxRecDepth 100000 in
set_option maxHeartbeats 1000000 in
theorem unquotes_yes (s want : ByteArray) (no : Int) (hs : s.size ≤ 100000) (w : World) (h : unqV s.data.toList = .tuple #[.string want, .int .i64 no]) :
    Calls Tryd.prog 35 #[.string s, .string want, .int .i64 no] w fun e w' => e = .returned (.bool true) ∧ Below w.heap.size w w' := by
  have HQ := Lib.hid (fun W => unquote_any s hs W)
  rw [h] at HQ
  clear h
  go_enter Tryd.func35, Tryd.ntmps35
  go_wp2_with fail
  refine (HQ.out _).mono ?_
  rintro e w' ⟨rfl, hb⟩
  have HB := Lib.hid hb
  clear hb
  go_wp2
  go_ret
  exact ⟨rfl, HB.out⟩

/-! Canon. -/
def canonV (l : Bs) : Value := if itemL (canonL l) = true then .tuple #[.string ⟨(canonL l).toArray⟩, .int .i64 0] else .tuple #[.string ⟨#[]⟩, .int .i64 2]
theorem spans_count (s : ByteArray) : ∀ (f pos : Nat) (st : Option Nat) (acc : List (Nat × Nat)), (Lib.spansFromP spR s f pos st acc).1.length ≤ acc.length + f
  | 0, pos, st, acc => by simp [Lib.spansFromP]
  | f + 1, pos, st, acc => by
    unfold Lib.spansFromP
    split
    · split
      · cases st with
        | none => have := spans_count s f (pos + (Utf8.decode s pos).2) none acc; dsimp only; omega
        | some a => have := spans_count s f (pos + (Utf8.decode s pos).2) none (acc ++ [(a, pos)]); simp at this ⊢; omega
      · cases st with
        | none => have := spans_count s f (pos + (Utf8.decode s pos).2) (some pos) acc; dsimp only; omega
        | some a => have := spans_count s f (pos + (Utf8.decode s pos).2) (some a) acc; dsimp only; omega
    · simp
theorem fields_count (s : ByteArray) : (Lib.goFieldsP spR s).length ≤ s.size + 1 := by
  have h := spans_count s s.size 0 none []
  unfold Lib.goFieldsP Lib.spansOfP Lib.closeSpans
  rw [List.length_map]
  split
  · rw [List.length_append]
    simp at h ⊢
    omega
  · simp at h
    omega

theorem join_any (w : World) (B A : Nat) (s : ByteArray) (hs : s.size ≤ 10000)
    (hown : w.ownsRow B 9 1 (.slice (some ⟨A, 0, none⟩) (Lib.goFieldsP spR s).length (Lib.goFieldsP spR s).length) (Lib.goFieldsP spR s).length ((Lib.goFieldsP spR s).map Value.string)) :
    Calls Tryd.prog 61 #[.slice (some ⟨A, 0, none⟩) (Lib.goFieldsP spR s).length (Lib.goFieldsP spR s).length, .string ⟨#[32]⟩] w fun e w' => e = .returned (.string ⟨(canonL s.data.toList).toArray⟩) ∧ Below w.heap.size w w' := by
  have hc := fields_count s
  have hj : Lib.join ((Lib.goFieldsP spR s).map (·.data.toList)) (⟨#[32]⟩ : ByteArray).data.toList = canonL s.data.toList := canon_fields s
  have hlen := canonL_length s.data.toList
  rw [← Lib.size_eq] at hlen
  refine (Tryd.strings_Join A 0 (Lib.goFieldsP spR s).length (Lib.goFieldsP spR s) ⟨#[32]⟩ w ?_ ?_ (by omega) (Nat.le_refl _) ?_).mono fun e w' ⟨he, hb⟩ => ⟨by rw [he, hj], hb⟩
  · intro j x hx
    have hj : j < (Lib.goFieldsP spR s).length := (List.getElem?_eq_some_iff.1 hx).1
    obtain ⟨g, cap, hv, _, _, hcell⟩ := nown_cell hown (by omega)
    injection hv with h1 h2 h3
    injection h1 with h1
    injection h1 with h1
    subst h1
    rw [Nat.zero_add]
    exact hcell j _ (by rw [List.getElem?_map, hx]; rfl)
  · exact (nown_block hown (g := A) rfl).2
  · rw [hj]
    omega

set_option maxRecDepth 100000 in
set_option maxHeartbeats 1000000 in
theorem canon_any (s : ByteArray) (hs : s.size ≤ 10000) (w : World) (hm : MaxIs w) :
    Calls Tryd.prog 39 #[.string s] w fun e w' => e = .returned (canonV s.data.toList) ∧ Below w.heap.size w w' := by
  have HM := Lib.hid hm
  clear hm
  have HF := Lib.hid (fun W => Tryd.strings_FieldsFunc_grows 60 #[] (enters_of Tryd.func60 (by kernel_rfl) rfl) spR s W (by omega) (canon_pred W))
  have HJ := Lib.hid (fun W B A h => join_any W B A s hs h)
  have hlen := canonL_length s.data.toList
  rw [← Lib.size_eq] at hlen
  have HI := Lib.hid (fun W h => item_any ⟨(canonL s.data.toList).toArray⟩ (by rw [Lib.size_mk]; omega) W h)
  obtain ⟨b, hb⟩ : ∃ b, itemL (canonL s.data.toList) = b := ⟨_, rfl⟩
  have HI : Hid (∀ W, MaxIs W → Calls Tryd.prog 29 #[.string ⟨(canonL s.data.toList).toArray⟩] W fun e w' => e = .returned (.bool b) ∧ Below W.heap.size W w') := by rw [← hb]; exact HI
  have HV : Hid (canonV s.data.toList = if itemL (canonL s.data.toList) = true then .tuple #[.string ⟨(canonL s.data.toList).toArray⟩, .int .i64 0] else .tuple #[.string ⟨#[]⟩, .int .i64 2]) := Lib.hid rfl
  rw [hb] at HV
  clear hb
  generalize (⟨(canonL s.data.toList).toArray⟩ : ByteArray) = X at *
  go_enter Tryd.func39, Tryd.ntmps39
  go_wp2_with fail
  refine (HF.out _).mono ?_
  rintro e w1 ⟨A, rfl, hA, hown, hb1⟩
  have HJ1 := Lib.hid (HJ.out w1 _ A hown)
  have HB1 := Lib.hid hb1
  clear hA hown hb1
  go_wp2_with fail
  refine HJ1.out.mono ?_
  rintro e w2 ⟨rfl, hb2⟩
  have HB2 := Lib.hid hb2
  clear hb2
  go_wp2_with fail
  refine (HI.out _ ((HM.out.later HB1.out).later HB2.out)).mono ?_
  rintro e w3 ⟨rfl, hb3⟩
  have HB := Lib.hid (HB1.out.trans ((HB2.out.trans (hb3.mono HB2.out.size)).mono HB1.out.size))
  clear hb3
  cases b with
  | true =>
    go_wp2
    go_ret2
    exact ⟨by rw [HV.out]; rfl, HB.out⟩
  | false =>
    go_wp2
    go_ret2
    exact ⟨by rw [HV.out]; rfl, HB.out⟩

set_option maxRecDepth 100000 in
set_option maxHeartbeats 1000000 in
theorem canon_yes (s want : ByteArray) (no : Int) (hs : s.size ≤ 10000) (w : World) (hm : MaxIs w) (h : canonV s.data.toList = .tuple #[.string want, .int .i64 no]) :
    Calls Tryd.prog 32 #[.string s, .string want, .int .i64 no] w fun e w' => e = .returned (.bool true) ∧ Below w.heap.size w w' := by
  have HQ := Lib.hid (canon_any s hs w hm)
  rw [h] at HQ
  clear h hm
  go_enter Tryd.func32, Tryd.ntmps32
  go_wp2_with fail
  refine HQ.out.mono ?_
  rintro e w' ⟨rfl, hb⟩
  have HB := Lib.hid hb
  clear hb
  go_wp2
  go_ret
  exact ⟨rfl, HB.out⟩
end Go.Proofs.YtahklchfchjmcaaDoor
