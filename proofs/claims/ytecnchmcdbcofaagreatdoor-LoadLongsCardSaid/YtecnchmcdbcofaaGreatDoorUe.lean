/- A slice of calls: light, and whether one is not valid. -/
import Derived.Test.YtecnchmcdbcofaaGreatDoorUc
import Derived.Test.YtecnchmcdbcofaaGreatDoorUd
set_option linter.unusedVariables false
set_option linter.unusedSimpArgs false
namespace Go.Proofs.YtecnchmcdbcofaaGreatDoor
open Go.RowKit Go.MapKept
structure CallV where
  o : Int
  k : ByteArray
  t : ByteArray
  j : ByteArray
  q : Int
  A : Option Addr
  n : Nat
  c : Nat
def CallV.cells (x : CallV) : List Value := [.int .i64 x.o, .string x.k, .string x.t, .string x.j, .int .i64 x.q, .slice x.A x.n x.c]
abbrev CallsAt (w : World) (v : Value) (l : List CallV) : Prop := SlAt 6 CallV.cells w v l
def CallV.valid (x : CallV) : Bool := validB x.o x.q x.k x.t x.j x.n
structure CallV.Small (x : CallV) : Prop where
  k : x.k.size ≤ 300
  t : x.t.size ≤ 300
  j : x.j.size ≤ 300
  n : x.n ≤ 300
def LightTo (l : List CallV) (k : Nat) : Prop := ∀ i x, i < k → l[i]? = some x → x.Small
theorem LightTo.zero (l : List CallV) : LightTo l 0 := fun i x h => absurd h (by omega)
theorem LightTo.succ {l : List CallV} {k : Nat} {x : CallV} (h : LightTo l k) (hx : l[k]? = some x) (hs : x.Small) : LightTo l (k + 1) := by
  intro i y hi hy
  by_cases e : i = k
  · subst e
    rw [hx] at hy
    cases hy
    exact hs
  · exact h i y (by omega) hy
def LightB (l : List CallV) (b : Bool) : Prop := b = true → l.length ≤ 60 ∧ LightTo l l.length
def LightE (l : List CallV) (e : Ending) : Prop := ∃ b, e = .returned (.bool b) ∧ LightB l b
theorem CallsAt.row {w : World} {A : Option Addr} {n cap : Nat} {l : List CallV} (h : CallsAt w (.slice A n cap) l) {i : Nat} {x : CallV} (hx : l[i]? = some x) :
    ∃ b off, A = some ⟨b, off, none⟩ ∧ w.cell? ⟨b, off + i * 6, none⟩ = some (.int .i64 x.o) ∧ w.cell? ⟨b, off + i * 6 + 1, none⟩ = some (.string x.k) ∧ w.cell? ⟨b, off + i * 6 + 2, none⟩ = some (.string x.t) ∧ w.cell? ⟨b, off + i * 6 + 3, none⟩ = some (.string x.j) ∧ w.cell? ⟨b, off + i * 6 + 4, none⟩ = some (.int .i64 x.q) ∧ w.cell? ⟨b, off + i * 6 + 5, none⟩ = some (.slice x.A x.n x.c) := by
  obtain ⟨hk, rfl⟩ := List.getElem?_eq_some_iff.1 hx
  obtain ⟨b, off, rfl, hcs⟩ := SlAt.elem h hk
  exact ⟨b, off, rfl, hcs 0 _ rfl, hcs 1 _ rfl, hcs 2 _ rfl, hcs 3 _ rfl, hcs 4 _ rfl, hcs 5 _ rfl⟩
set_option maxRecDepth 100000 in
set_option maxHeartbeats 2000000 in
theorem light_any (w : World) (v : Value) (l : List CallV) (h : CallsAt w v l) : Calls Tryz.prog 9 #[v, .int .i64 60] w
    fun e w' => LightE l e ∧ w' = w := by
  obtain ⟨A, cap, rfl, hcap, hcm, _⟩ := id h
  have HA := Lib.hid h
  have hlen : l.length ≤ 9223372036854775807 := by omega
  clear h
  obtain ⟨N, hN⟩ : ∃ N, l.length = N := ⟨_, rfl⟩
  have HN := Lib.hid hN
  rw [hN] at hcap hlen HA ⊢
  clear hN
  go_enter Tryz.func9, Tryz.ntmps9
  go_wp2_with fail
  go_loop [5] (fun u => ∃ k : Nat, k ≤ N ∧ k ≤ 60 ∧ u = .int .i64 k ∧ Hid (LightTo l k)) (fun u => N - (intOf u).toNat)
  case atStart => exact ⟨0, Nat.zero_le _, by omega, rfl, Lib.hid (LightTo.zero l)⟩
  case round =>
    obtain ⟨k, hk, hk60, rfl, hok⟩ := hrel
    by_cases hlt : k < N
    · by_cases hl6 : k < 60
      · have hkl : k < l.length := by rw [HN.out]; exact hlt
        have hx : l[k]? = some l[k] := List.getElem?_eq_getElem hkl
        generalize l[k] = x at hx
        have HX := Lib.hid hx
        obtain ⟨b, off, rfl, c0, c1, c2, c3, c4, c5⟩ := HA.out.row hx
        clear hx c0 c4
        have d0 : decide ((k : Int) < N) = true := decide_eq_true (by omega)
        have d00 : decide ((k : Int) < 60) = true := decide_eq_true (by omega)
        by_cases h1 : 300 < x.k.size
        · have d1 : decide ((300 : Int) < (x.k.size : Int)) = true := decide_eq_true (by omega)
          clear h1
          go_wp2_with fail
          go_ret
          exact ⟨⟨false, rfl, fun h => by cases h⟩, rfl⟩
        · have d1 : decide ((300 : Int) < (x.k.size : Int)) = false := decide_eq_false (by omega)
          have H1 := Lib.hid h1
          clear h1
          by_cases h2 : 300 < x.t.size
          · have d2 : decide ((300 : Int) < (x.t.size : Int)) = true := decide_eq_true (by omega)
            clear h2
            go_wp2_with fail
            go_ret
            exact ⟨⟨false, rfl, fun h => by cases h⟩, rfl⟩
          · have d2 : decide ((300 : Int) < (x.t.size : Int)) = false := decide_eq_false (by omega)
            have H2 := Lib.hid h2
            clear h2
            by_cases h3 : 300 < x.j.size
            · have d3 : decide ((300 : Int) < (x.j.size : Int)) = true := decide_eq_true (by omega)
              clear h3
              go_wp2_with fail
              go_ret
              exact ⟨⟨false, rfl, fun h => by cases h⟩, rfl⟩
            · have d3 : decide ((300 : Int) < (x.j.size : Int)) = false := decide_eq_false (by omega)
              have H3 := Lib.hid h3
              clear h3
              by_cases h4 : 300 < x.n
              · have d4 : decide ((300 : Int) < (x.n : Int)) = true := decide_eq_true (by omega)
                clear h4
                go_wp2_with fail
                go_ret
                exact ⟨⟨false, rfl, fun h => by cases h⟩, rfl⟩
              · have d4 : decide ((300 : Int) < (x.n : Int)) = false := decide_eq_false (by omega)
                have H4 := Lib.hid h4
                clear h4
                go_wp2_with fail
                refine ⟨⟨k + 1, by omega, by omega, by go_num, Lib.hid (hok.out.succ HX.out ⟨by have := H1.out; omega, by have := H2.out; omega, by have := H3.out; omega, by have := H4.out; omega⟩)⟩, by simp [intOf]; omega⟩
      · have d0 : decide ((k : Int) < N) = true := decide_eq_true (by omega)
        have d00 : decide ((k : Int) < 60) = false := decide_eq_false (by omega)
        go_wp2_with fail
        go_ret
        exact ⟨⟨_, rfl, fun h => ⟨by rw [HN.out]; have := of_decide_eq_true h; omega, by
          have := of_decide_eq_true h
          have e : k = N := by omega
          rw [HN.out, ← e]
          exact hok.out⟩⟩, rfl⟩
    · have e : k = N := by omega
      subst e
      have d0 : decide ((k : Int) < k) = false := decide_eq_false (by omega)
      go_wp2_with fail
      go_ret
      exact ⟨⟨_, rfl, fun h => ⟨by rw [HN.out]; omega, by rw [HN.out]; exact hok.out⟩⟩, rfl⟩
set_option maxRecDepth 100000 in
theorem check1_any (x : CallV) (hs : x.Small) (w : World) (hE : Env w) : Calls Tryz.prog 109 #[.agg #[.int .i64 x.o, .string x.k, .string x.t, .string x.j, .int .i64 x.q, .slice x.A x.n x.c]] w
    fun e w' => e = .returned (.bool (!x.valid)) ∧ Below w.heap.size w w' := by
  have HV : Hid (∀ W, Env W → Calls Tryz.prog 29 #[.agg #[.int .i64 x.o, .string x.k, .string x.t, .string x.j, .int .i64 x.q, .slice x.A x.n x.c]] W fun e w' => e = .returned (.bool x.valid) ∧ Below W.heap.size W w') := Lib.hid fun W h => valid_any x.o x.q x.k x.t x.j x.A x.n x.c (by have := hs.k; omega) (by have := hs.t; omega) (by have := hs.j; omega) W h
  have HE := Lib.hid hE
  clear hE
  generalize x.valid = vb at *
  go_enter Tryz.func109, Tryz.ntmps109
  go_wp2_with (first | (go_at_call 29; refine (HV.out _ (HE.out.later (below_alloc _ _))).mono ?_; rintro e w' ⟨rfl, hb⟩; have HB := Lib.hid (nbl_step (below_alloc _ _) hb); clear hb))
  go_ret
  exact ⟨rfl, HB.out⟩
def badC (x : CallV) : Bool := !x.valid
def OkCs (l : List CallV) (k : Nat) : Prop := ∀ i x, i < k → l[i]? = some x → badC x = false
theorem OkCs.zero (l : List CallV) : OkCs l 0 := fun i x h => absurd h (by omega)
theorem OkCs.succ {l : List CallV} {k : Nat} {x : CallV} (h : OkCs l k) (hx : l[k]? = some x) (hs : badC x = false) : OkCs l (k + 1) := by
  intro i y hi hy
  by_cases e : i = k
  · subst e
    rw [hx] at hy
    cases hy
    exact hs
  · exact h i y (by omega) hy
theorem any_of_okc {l : List CallV} (h : OkCs l l.length) : l.any badC = false := by
  rw [List.any_eq_false]
  intro x hx
  obtain ⟨i, hi⟩ := List.mem_iff_getElem?.1 hx
  rw [h i x (List.getElem?_eq_some_iff.1 hi).1 hi]
  simp
theorem any_of_badc {l : List CallV} {k : Nat} {x : CallV} (hx : l[k]? = some x) (h : badC x = true) : l.any badC = true :=
  List.any_eq_true.2 ⟨x, List.mem_of_getElem? hx, h⟩
def IndexE (l : List CallV) (e : Ending) : Prop := ∃ k : Int, e = .returned (.int .i64 k) ∧ decide (0 ≤ k) = l.any badC
set_option maxRecDepth 100000 in
set_option maxHeartbeats 2000000 in
theorem indexc_any (w : World) (v : Value) (l : List CallV) (h : CallsAt w v l) (hl : LightTo l l.length) (hE : Env w) : Calls Tryz.prog 169 #[v, .func (.func 109) #[] #[]] w
    fun e w' => IndexE l e ∧ Below w.heap.size w w' := by
  obtain ⟨A, cap, rfl, hcap, hcm, _⟩ := id h
  have HA := Lib.hid h
  have hlen : l.length ≤ 9223372036854775807 := by omega
  have HE := Lib.hid hE
  have HL := Lib.hid hl
  clear h hE hl
  obtain ⟨N, hN⟩ : ∃ N, l.length = N := ⟨_, rfl⟩
  have HN := Lib.hid hN
  rw [hN] at hcap hlen HA HL ⊢
  clear hN
  go_enter Tryz.func169, Tryz.ntmps169
  go_wp2_with fail
  go_loopg [5, 8] N (fun gf _ u wx => ∃ k : Nat, k + gf = N ∧ u = .int .i64 k ∧ OkCs l k ∧ Below w.heap.size w wx)
  case atStart => exact ⟨0, by omega, rfl, OkCs.zero l, Below.refl _ _⟩
  case round =>
    obtain ⟨k, hk, rfl, hok, hbw⟩ := hrel
    have HW := Lib.hid hbw
    have HOK := Lib.hid hok
    clear hok
    by_cases hlt : k < N
    · obtain ⟨g', rfl⟩ : ∃ g', gk = g' + 1 := ⟨gk - 1, by omega⟩
      have hkl : k < l.length := by rw [HN.out]; exact hlt
      have hx : l[k]? = some l[k] := List.getElem?_eq_getElem hkl
      generalize l[k] = x at hx
      have HX := Lib.hid hx
      obtain ⟨b, off, rfl, c0, c1, c2, c3, c4, c5⟩ := CallsAt.row (SlAt.below HA.out hbw) hx
      have HC : Hid (∀ W, Env W → Calls Tryz.prog 109 #[.agg #[.int .i64 x.o, .string x.k, .string x.t, .string x.j, .int .i64 x.q, .slice x.A x.n x.c]] W fun e w' => e = .returned (.bool (!x.valid)) ∧ Below W.heap.size W w') := Lib.hid fun W h => check1_any x (HL.out k x hlt hx) W h
      clear hx hbw
      cases hbad : badC x with
      | true =>
        have HB := Lib.hid hbad
        clear hbad
        go_wp2_with (first | (go_at_call 109; refine (HC.out _ (HE.out.later HW.out)).mono ?_; rintro e w' ⟨rfl, hb⟩; have HBW := Lib.hid hb; clear hb; rw [show (!x.valid) = true from HB.out]))
        go_ret
        refine ⟨⟨k, rfl, ?_⟩, nbl_step HW.out HBW.out⟩
        rw [any_of_badc HX.out HB.out]
        simp
      | false =>
        have HB := Lib.hid hbad
        clear hbad
        go_wp2_with (first | (go_at_call 109; refine (HC.out _ (HE.out.later HW.out)).mono ?_; rintro e w' ⟨rfl, hb⟩; have HBW := Lib.hid hb; clear hb; rw [show (!x.valid) = false from HB.out]))
        go_roundg g'
        case measure => omega
        case rel => exact ⟨k + 1, by omega, by go_num, HOK.out.succ HX.out HB.out, nbl_step HW.out HBW.out⟩
    · clear hbw
      go_wp2_with fail
      go_ret
      refine ⟨⟨-1, rfl, ?_⟩, HW.out⟩
      have e : k = N := by omega
      rw [any_of_okc (by rw [HN.out, ← e]; exact HOK.out)]
      rfl
theorem containsc_any (w : World) (v : Value) (l : List CallV) (h : CallsAt w v l) (hl : LightTo l l.length) (hE : Env w) : Calls Tryz.prog 108 #[v, .func (.func 109) #[] #[]] w
    fun e w' => e = .returned (.bool (l.any badC)) ∧ Below w.heap.size w w' := by
  have HA := Lib.hid (indexc_any w v l h hl hE)
  clear h hE hl
  go_enter Tryz.func108, Tryz.ntmps108
  go_wp2_with (first | (go_at_call 169; refine HA.out.mono ?_; rintro e w' ⟨⟨k, rfl, hk⟩, hb⟩; have HK := Lib.hid hk; have HB := Lib.hid hb; clear hk hb))
  go_ret
  exact ⟨by rw [← HK.out]; rfl, HB.out⟩
theorem lcheck_any (w : World) (v : Value) (l : List CallV) (h : CallsAt w v l) (h6 : l.length ≤ 20000) (hl : LightTo l l.length) (hE : Env w) : Calls Tryz.prog 56 #[v] w
    fun e w' => e = .returned (.int .i64 (if l.any badC then 2 else 0)) ∧ Below w.heap.size w w' := by
  obtain ⟨A, cap, rfl, hcap, hcm, _⟩ := id h
  have HA := Lib.hid (containsc_any w _ l h hl hE)
  have d : decide ((20000 : Int) < l.length) = false := decide_eq_false (by omega)
  clear h hE hl
  clear hcap hcm
  rename_i hempty
  clear hempty
  generalize l.length = N at *
  cases hb : l.any badC with
  | true =>
    rw [hb] at HA
    clear hb
    go_enter Tryz.func56, Tryz.ntmps56
    go_wp2_with (first | (go_at_call 108; refine HA.out.mono ?_; rintro e w' ⟨rfl, hb⟩; have HB := Lib.hid hb; clear hb))
    go_ret
    exact ⟨rfl, HB.out⟩
  | false =>
    rw [hb] at HA
    clear hb
    go_enter Tryz.func56, Tryz.ntmps56
    go_wp2_with (first | (go_at_call 108; refine HA.out.mono ?_; rintro e w' ⟨rfl, hb⟩; have HB := Lib.hid hb; clear hb))
    go_ret
    exact ⟨rfl, HB.out⟩
set_option maxRecDepth 100000 in
set_option maxHeartbeats 2000000 in
theorem badl_any (w : World) (v : Value) (l : List CallV) (h : CallsAt w v l) (hl : LightTo l l.length) (hE : Env w) : Calls Tryz.prog 11 #[v] w
    fun e w' => e = .returned (.bool (l.any badC)) ∧ Below w.heap.size w w' := by
  obtain ⟨A, cap, rfl, hcap, hcm, _⟩ := id h
  have HA := Lib.hid h
  have hlen : l.length ≤ 9223372036854775807 := by omega
  have HE := Lib.hid hE
  have HL := Lib.hid hl
  clear h hE hl
  obtain ⟨N, hN⟩ : ∃ N, l.length = N := ⟨_, rfl⟩
  have HN := Lib.hid hN
  rw [hN] at hcap hlen HA HL ⊢
  clear hN
  go_enter Tryz.func11, Tryz.ntmps11
  go_wp2_with fail
  go_loopg [3] N (fun gf u wx => ∃ k : Nat, k + gf = N ∧ u = .int .i64 k ∧ OkCs l k ∧ Below w.heap.size w wx)
  case atStart => exact ⟨0, by omega, rfl, OkCs.zero l, Below.refl _ _⟩
  case round =>
    obtain ⟨k, hk, rfl, hok, hbw⟩ := hrel
    have HW := Lib.hid hbw
    have HOK := Lib.hid hok
    clear hok
    by_cases hlt : k < N
    · obtain ⟨g', rfl⟩ : ∃ g', gk = g' + 1 := ⟨gk - 1, by omega⟩
      have hkl : k < l.length := by rw [HN.out]; exact hlt
      have hx : l[k]? = some l[k] := List.getElem?_eq_getElem hkl
      generalize l[k] = x at hx
      have HX := Lib.hid hx
      obtain ⟨b, off, rfl, c0, c1, c2, c3, c4, c5⟩ := CallsAt.row (SlAt.below HA.out hbw) hx
      have hs := HL.out k x hlt hx
      have HV : Hid (∀ W, Env W → Calls Tryz.prog 29 #[.agg #[.int .i64 x.o, .string x.k, .string x.t, .string x.j, .int .i64 x.q, .slice x.A x.n x.c]] W fun e w' => e = .returned (.bool x.valid) ∧ Below W.heap.size W w') := Lib.hid fun W h => valid_any x.o x.q x.k x.t x.j x.A x.n x.c (by have := hs.k; omega) (by have := hs.t; omega) (by have := hs.j; omega) W h
      clear hx hbw hs
      have HB0 : Hid (badC x = !x.valid) := Lib.hid rfl
      cases hbad : x.valid with
      | false =>
        rw [hbad] at HV HB0
        clear hbad
        go_wp2_with (first | (go_at_call 29; refine (HV.out _ (HE.out.later HW.out)).mono ?_; rintro e w' ⟨rfl, hb⟩; have HBW := Lib.hid hb; clear hb))
        go_ret
        exact ⟨by rw [any_of_badc HX.out HB0.out]; rfl, nbl_step HW.out HBW.out⟩
      | true =>
        rw [hbad] at HV HB0
        clear hbad
        go_wp2_with (first | (go_at_call 29; refine (HV.out _ (HE.out.later HW.out)).mono ?_; rintro e w' ⟨rfl, hb⟩; have HBW := Lib.hid hb; clear hb))
        go_roundg g'
        case measure => omega
        case rel => exact ⟨k + 1, by omega, by go_num, HOK.out.succ HX.out HB0.out, nbl_step HW.out HBW.out⟩
    · clear hbw
      go_wp2_with fail
      go_ret
      refine ⟨?_, HW.out⟩
      have e : k = N := by omega
      rw [any_of_okc (by rw [HN.out, ← e]; exact HOK.out)]
      rfl
end Go.Proofs.YtecnchmcdbcofaaGreatDoor
