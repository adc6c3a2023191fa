/- The reference's Unquote; the law NamesQuotes. -/
import Derived.Test.YtahklchfchjmcaaDoorOc
import Derived.Test.YtahklchfchjmcaaDoorOb
namespace Go.Proofs.YtahklchfchjmcaaDoor
set_option linter.unusedVariables false
set_option linter.unusedSimpArgs false
open Go.RowKit Go.MapKept

def refUnqV (l : Bs) : Value := match unqL l with
  | some x => .tuple #[.string (bsOf x), .bool true]
  | none => .tuple #[.string ⟨#[]⟩, .bool false]

set_option maxRecDepth 100000 in
set_option maxHeartbeats 1000000 in
theorem refUnquote_any (s : ByteArray) (hs : s.size ≤ 100000) (w : World) :
    Calls Tryd.prog 36 #[.string s] w fun e w' => e = .returned (refUnqV s.data.toList) ∧ Below w.heap.size w w' := by
  obtain ⟨N, hN⟩ : ∃ N, s.size = N := ⟨_, rfl⟩
  have hL : s.data.toList.length = N := by rw [← hN]; exact (Lib.size_eq s).symm
  have hq : ∀ W, _ := fun W => first_any s hs W
  cases hd : deqL s.data.toList with
  | none =>
    have hv : firstV s.data.toList = .tuple #[.string ⟨#[]⟩, .int .i64 0, .bool false] := by unfold firstV; rw [hd]
    have HV : Hid (refUnqV s.data.toList = .tuple #[.string ⟨#[]⟩, .bool false]) := Lib.hid (by unfold refUnqV unqL; rw [hd])
    rw [hv] at hq
    have HQ := Lib.hid hq
    clear hq hv hd hL
    go_enter Tryd.func36, Tryd.ntmps36
    go_wp2_with fail
    refine (HQ.out _).mono ?_
    rintro e w1 ⟨rfl, hb⟩
    have HB := Lib.hid hb
    clear hb
    go_wp2
    go_ret2
    exact ⟨by rw [HV.out]; rfl, HB.out⟩
  | some y =>
    obtain ⟨x, r⟩ := y
    have hv : firstV s.data.toList = .tuple #[.string (bsOf x), .int .i64 ((quoteL x).length : Int), .bool true] := by unfold firstV; rw [hd]
    rw [hv] at hq
    have HQ := Lib.hid hq
    have hlen : (quoteL x).length + r.length = N := by
      have := congrArg List.length ((deqL_iff _ _ _).1 hd)
      rw [List.length_append, hL] at this
      exact this.symm
    clear hq hv hL
    cases r with
    | nil =>
      have HV : Hid (refUnqV s.data.toList = .tuple #[.string (bsOf x), .bool true]) := Lib.hid (by unfold refUnqV unqL; rw [hd])
      generalize bsOf x = X at *
      generalize (quoteL x).length = m at *
      obtain rfl : m = N := by simpa using hlen
      clear hd hlen
      go_enter Tryd.func36, Tryd.ntmps36
      go_wp2_with fail
      refine (HQ.out _).mono ?_
      rintro e w1 ⟨rfl, hb⟩
      have HB := Lib.hid hb
      clear hb
      go_wp2
      go_ret2
      exact ⟨by rw [HV.out]; rfl, HB.out⟩
    | cons a r =>
      have HV : Hid (refUnqV s.data.toList = .tuple #[.string ⟨#[]⟩, .bool false]) := Lib.hid (by unfold refUnqV unqL; rw [hd])
      generalize bsOf x = X at *
      generalize (quoteL x).length = m at *
      have hne : ((m : Int) == N) = false := by rw [beq_eq_false_iff_ne]; rw [List.length_cons] at hlen; omega
      have hnn : ¬ (m : Int) = N := by simpa using hne
      have hnb : ((m : Int) != N) = true := by rw [bne, hne]; rfl
      clear hd hlen
      go_enter Tryd.func36, Tryd.ntmps36
      go_wp2_with fail
      refine (HQ.out _).mono ?_
      rintro e w1 ⟨rfl, hb⟩
      have HB := Lib.hid hb
      clear hb
      go_wp2
      go_ret2
      exact ⟨by rw [HV.out]; rfl, HB.out⟩

set_option maxRecDepth 100000 in
set_option maxHeartbeats 2000000 in
theorem quotes_law (w : World) (s t : ByteArray) (hm : MaxIs w) :
    Calls Tryd.prog 11 #[.string s, .string t] w fun e w' => e = .returned (.bool true) ∧ Below w.heap.size w w' := by
  have HM := Lib.hid hm
  clear hm
  obtain ⟨N, hN⟩ : ∃ N, s.size = N := ⟨_, rfl⟩
  obtain ⟨M, hM⟩ : ∃ M, t.size = M := ⟨_, rfl⟩
  go_enter Tryd.func11, Tryd.ntmps11
  by_cases h300 : (300 : Int) < N
  · have h300d : decide ((300 : Int) < N) = true := decide_eq_true h300
    go_wp2_with fail
    refine (nknown_yes _ HM.out).mono ?_
    rintro e w1 ⟨rfl, hb⟩
    have HB := Lib.hid hb
    clear hb
    go_wp2
    go_ret
    exact ⟨rfl, HB.out⟩
  have h300d : decide ((300 : Int) < N) = false := decide_eq_false h300
  by_cases h301 : (300 : Int) < M
  · have h301d : decide ((300 : Int) < M) = true := decide_eq_true h301
    go_wp2_with fail
    refine (nknown_yes _ HM.out).mono ?_
    rintro e w1 ⟨rfl, hb⟩
    have HB := Lib.hid hb
    clear hb
    go_wp2
    go_ret
    exact ⟨rfl, HB.out⟩
  have h301d : decide ((300 : Int) < M) = false := decide_eq_false h301
  have HQ := Lib.hid (fun W => quote_any s (by omega) W)
  have hbs : (⟨(quoteL s.data.toList).toArray⟩ : ByteArray) = bsOf (quoteL s.data.toList) := rfl
  rw [hbs] at HQ
  have HRQ := Lib.hid (fun W => refQuote_any s (by omega) W)
  have HRU := Lib.hid (fun W => refUnquote_any t (by omega) W)
  have HUY : Hid (∀ W want no, unqV t.data.toList = .tuple #[.string want, .int .i64 no] → Calls Tryd.prog 35 #[.string t, .string want, .int .i64 no] W fun e w' => e = .returned (.bool true) ∧ Below W.heap.size W w') := Lib.hid (fun W want no h => unquotes_yes t want no (by omega) W h)
  generalize bsOf (quoteL s.data.toList) = T at *
  clear hbs
  go_wp2_with fail
  refine (HQ.out _).mono ?_
  rintro e w1 ⟨rfl, hb⟩
  have HB := Lib.hid hb
  clear hb
  go_wp2_with fail
  refine (HRQ.out _).mono ?_
  rintro e w2 ⟨rfl, hb⟩
  replace HB := Lib.hid (nbl_step HB.out hb)
  clear hb
  cases hu : unqL t.data.toList with
  | none =>
    have hv : refUnqV t.data.toList = .tuple #[.string ⟨#[]⟩, .bool false] := by unfold refUnqV; rw [hu]
    rw [hv] at HRU
    have HV : Hid (unqV t.data.toList = .tuple #[.string ⟨#[]⟩, .int .i64 6]) := Lib.hid (by unfold unqV; rw [hu])
    clear hv hu
    go_wp2_with fail
    refine (HRU.out _).mono ?_
    rintro e w3 ⟨rfl, hb⟩
    replace HB := Lib.hid (nbl_step HB.out hb)
    clear hb
    go_wp2_with fail
    refine (HUY.out _ ⟨#[]⟩ 6 HV.out).mono ?_
    rintro e w4 ⟨rfl, hb⟩
    replace HB := Lib.hid (nbl_step HB.out hb)
    clear hb
    go_wp2_with fail
    refine (nknown_yes _ (HM.out.later HB.out)).mono ?_
    rintro e w5 ⟨rfl, hb⟩
    replace HB := Lib.hid (nbl_step HB.out hb)
    clear hb
    go_wp2
    go_ret
    exact ⟨rfl, HB.out⟩
  | some x =>
    have hv : refUnqV t.data.toList = .tuple #[.string (bsOf x), .bool true] := by unfold refUnqV; rw [hu]
    rw [hv] at HRU
    have HV : Hid (unqV t.data.toList = .tuple #[.string (bsOf x), .int .i64 0]) := Lib.hid (by unfold unqV; rw [hu]; rfl)
    generalize bsOf x = X at *
    clear hv hu
    go_wp2_with fail
    refine (HRU.out _).mono ?_
    rintro e w3 ⟨rfl, hb⟩
    replace HB := Lib.hid (nbl_step HB.out hb)
    clear hb
    go_wp2_with fail
    refine (HUY.out _ X 0 HV.out).mono ?_
    rintro e w4 ⟨rfl, hb⟩
    replace HB := Lib.hid (nbl_step HB.out hb)
    clear hb
    go_wp2_with fail
    refine (nknown_yes _ (HM.out.later HB.out)).mono ?_
    rintro e w5 ⟨rfl, hb⟩
    replace HB := Lib.hid (nbl_step HB.out hb)
    clear hb
    go_wp2
    go_ret
    exact ⟨rfl, HB.out⟩
end Go.Proofs.YtahklchfchjmcaaDoor
