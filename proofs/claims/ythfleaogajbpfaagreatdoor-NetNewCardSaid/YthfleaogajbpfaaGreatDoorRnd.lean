/- A new node's methods. -/
import Derived.Test.YthfleaogajbpfaaGreatDoorRnc
set_option linter.unusedVariables false
set_option linter.unusedSimpArgs false
namespace Go.Proofs.YthfleaogajbpfaaGreatDoor
open Go.RowKit Go.MapKept
theorem okN_facts {r i o : Int} {S : Nat} (h : okN r S i o = true) : ¬ (S : Int) = 0 ∧ ¬ r = 0 ∧ ¬ i = 0 ∧ ¬ o = 0 := by
  unfold okN at h
  have h' : okT S = true ∧ okR r = true ∧ okI i = true ∧ okO o = true := by simpa using h
  obtain ⟨h1, h2, h3, h4⟩ := h'
  have a1 := (okT_true h1).1
  have a3 := (okI_true h3).1
  have a4 := (okO_true h4).1
  have a2 : 1 ≤ r ∧ r ≤ 65535 := by simpa [okR] using h2
  omega
set_option maxRecDepth 100000 in
theorem clone_str_nil (w : World) : Calls Tryz.prog 95 #[.slice none 0 0] w fun e w' => e = .returned (.slice none 0 0) ∧ w' = w := by
  have hnil : ∀ W, (binOp .eql 69 (.slice none 0 0) (.slice none 0 0)).run Tryz.prog W = .ok (.bool true) W := fun W => Lib.run_eql_slice_nil W _ _ none 0 0 0 0 Tryz.underlying69
  go_enter Tryz.func95, Tryz.ntmps95
  go_wp2_with fail
  go_ret
  exact ⟨rfl, rfl⟩
set_option maxRecDepth 100000 in
theorem clone_ent_nil (w : World) : Calls Tryz.prog 124 #[.slice none 0 0] w fun e w' => e = .returned (.slice none 0 0) ∧ w' = w := by
  have hnil : ∀ W, (binOp .eql 74 (.slice none 0 0) (.slice none 0 0)).run Tryz.prog W = .ok (.bool true) W := fun W => Lib.run_eql_slice_nil W _ _ none 0 0 0 0 Tryz.underlying74
  go_enter Tryz.func124, Tryz.ntmps124
  go_wp2_with fail
  go_ret
  exact ⟨rfl, rfl⟩
set_option maxRecDepth 100000 in
set_option maxHeartbeats 1000000 in
theorem nnone_new {w : World} {p t g d n u : Nat} {r : Int} {S : Nat} {i o : Int} (h : NodeNew w p t g d n u r S i o) (hk : okN r S i o = true) : Calls Tryz.prog 57 #[.pointer (some ⟨p, 0, none⟩)] w fun e w' => e = .returned (.bool false) ∧ w' = w := by
  obtain ⟨c0, c1, c2, c3, c4, c5, c6, c7, c8, t0, t1, d0, d1, n0, n1, n2, n3, u0, u1, u2, st⟩ := h
  have HST := Lib.hid st
  clear st
  obtain ⟨hS, hr, hi, ho⟩ := okN_facts hk
  have fS1 : ((S : Int) == 0) = false := by simpa using hS
  have fS2 : decide ((S : Int) = 0) = false := decide_eq_false hS
  have fr1 : (r == 0) = false := by simpa using hr
  have fr2 : decide (r = 0) = false := decide_eq_false hr
  have fi1 : (i == 0) = false := by simpa using hi
  have fi2 : decide (i = 0) = false := decide_eq_false hi
  have fo1 : (o == 0) = false := by simpa using ho
  have fo2 : decide (o = 0) = false := decide_eq_false ho
  clear hk
  go_enter Tryz.func57, Tryz.ntmps57
  go_wp2_with fail
  go_ret
  exact ⟨rfl, rfl⟩
set_option maxRecDepth 100000 in
set_option maxHeartbeats 1000000 in
theorem cnone_new {w : World} {p t g d n u : Nat} {r : Int} {S : Nat} {i o : Int} (h : NodeNew w p t g d n u r S i o) (hk : okN r S i o = true) : Calls Tryz.prog 93 #[.pointer (some ⟨d, 0, none⟩)] w fun e w' => e = .returned (.bool false) ∧ w' = w := by
  obtain ⟨c0, c1, c2, c3, c4, c5, c6, c7, c8, t0, t1, d0, d1, n0, n1, n2, n3, u0, u1, u2, st⟩ := h
  have HST := Lib.hid st
  clear st
  obtain ⟨hS, hr, hi, ho⟩ := okN_facts hk
  have fS1 : ((S : Int) == 0) = false := by simpa using hS
  have fS2 : decide ((S : Int) = 0) = false := decide_eq_false hS
  have fr1 : (r == 0) = false := by simpa using hr
  have fr2 : decide (r = 0) = false := decide_eq_false hr
  have fi1 : (i == 0) = false := by simpa using hi
  have fi2 : decide (i = 0) = false := decide_eq_false hi
  have fo1 : (o == 0) = false := by simpa using ho
  have fo2 : decide (o = 0) = false := decide_eq_false ho
  clear hk
  go_enter Tryz.func93, Tryz.ntmps93
  go_wp2_with fail
  go_ret
  exact ⟨rfl, rfl⟩
set_option maxRecDepth 100000 in
set_option maxHeartbeats 1000000 in
theorem tnone_new {w : World} {p t g d n u : Nat} {r : Int} {S : Nat} {i o : Int} (h : NodeNew w p t g d n u r S i o) (hk : okN r S i o = true) : Calls Tryz.prog 132 #[.pointer (some ⟨t, 0, none⟩)] w fun e w' => e = .returned (.bool false) ∧ w' = w := by
  obtain ⟨c0, c1, c2, c3, c4, c5, c6, c7, c8, t0, t1, d0, d1, n0, n1, n2, n3, u0, u1, u2, st⟩ := h
  have HST := Lib.hid st
  clear st
  obtain ⟨hS, hr, hi, ho⟩ := okN_facts hk
  have fS1 : ((S : Int) == 0) = false := by simpa using hS
  have fS2 : decide ((S : Int) = 0) = false := decide_eq_false hS
  have fr1 : (r == 0) = false := by simpa using hr
  have fr2 : decide (r = 0) = false := decide_eq_false hr
  have fi1 : (i == 0) = false := by simpa using hi
  have fi2 : decide (i = 0) = false := decide_eq_false hi
  have fo1 : (o == 0) = false := by simpa using ho
  have fo2 : decide (o = 0) = false := decide_eq_false ho
  clear hk
  go_enter Tryz.func132, Tryz.ntmps132
  go_wp2_with fail
  go_ret
  exact ⟨rfl, rfl⟩
set_option maxRecDepth 100000 in
set_option maxHeartbeats 1000000 in
theorem inone_new {w : World} {p t g d n u : Nat} {r : Int} {S : Nat} {i o : Int} (h : NodeNew w p t g d n u r S i o) (hk : okN r S i o = true) : Calls Tryz.prog 123 #[.pointer (some ⟨n, 0, none⟩)] w fun e w' => e = .returned (.bool false) ∧ w' = w := by
  obtain ⟨c0, c1, c2, c3, c4, c5, c6, c7, c8, t0, t1, d0, d1, n0, n1, n2, n3, u0, u1, u2, st⟩ := h
  have HST := Lib.hid st
  clear st
  obtain ⟨hS, hr, hi, ho⟩ := okN_facts hk
  have fS1 : ((S : Int) == 0) = false := by simpa using hS
  have fS2 : decide ((S : Int) = 0) = false := decide_eq_false hS
  have fr1 : (r == 0) = false := by simpa using hr
  have fr2 : decide (r = 0) = false := decide_eq_false hr
  have fi1 : (i == 0) = false := by simpa using hi
  have fi2 : decide (i = 0) = false := decide_eq_false hi
  have fo1 : (o == 0) = false := by simpa using ho
  have fo2 : decide (o = 0) = false := decide_eq_false ho
  clear hk
  go_enter Tryz.func123, Tryz.ntmps123
  go_wp2_with fail
  go_ret
  exact ⟨rfl, rfl⟩
set_option maxRecDepth 100000 in
set_option maxHeartbeats 1000000 in
theorem unone_new {w : World} {p t g d n u : Nat} {r : Int} {S : Nat} {i o : Int} (h : NodeNew w p t g d n u r S i o) (hk : okN r S i o = true) : Calls Tryz.prog 94 #[.pointer (some ⟨u, 0, none⟩)] w fun e w' => e = .returned (.bool false) ∧ w' = w := by
  obtain ⟨c0, c1, c2, c3, c4, c5, c6, c7, c8, t0, t1, d0, d1, n0, n1, n2, n3, u0, u1, u2, st⟩ := h
  have HST := Lib.hid st
  clear st
  obtain ⟨hS, hr, hi, ho⟩ := okN_facts hk
  have fS1 : ((S : Int) == 0) = false := by simpa using hS
  have fS2 : decide ((S : Int) = 0) = false := decide_eq_false hS
  have fr1 : (r == 0) = false := by simpa using hr
  have fr2 : decide (r = 0) = false := decide_eq_false hr
  have fi1 : (i == 0) = false := by simpa using hi
  have fi2 : decide (i = 0) = false := decide_eq_false hi
  have fo1 : (o == 0) = false := by simpa using ho
  have fo2 : decide (o = 0) = false := decide_eq_false ho
  clear hk
  go_enter Tryz.func94, Tryz.ntmps94
  go_wp2_with fail
  go_ret
  exact ⟨rfl, rfl⟩
set_option maxRecDepth 100000 in
set_option maxHeartbeats 1000000 in
theorem clast_new {w : World} {p t g d n u : Nat} {r : Int} {S : Nat} {i o : Int} (h : NodeNew w p t g d n u r S i o) (hk : okN r S i o = true) : Calls Tryz.prog 58 #[.pointer (some ⟨d, 0, none⟩)] w fun e w' => e = .returned (.int .i64 0) ∧ w' = w := by
  have HC0 := Lib.hid (cnone_new h hk)
  obtain ⟨c0, c1, c2, c3, c4, c5, c6, c7, c8, t0, t1, d0, d1, n0, n1, n2, n3, u0, u1, u2, st⟩ := h
  have HST := Lib.hid st
  clear st
  obtain ⟨hS, hr, hi, ho⟩ := okN_facts hk
  have fS1 : ((S : Int) == 0) = false := by simpa using hS
  have fS2 : decide ((S : Int) = 0) = false := decide_eq_false hS
  have fr1 : (r == 0) = false := by simpa using hr
  have fr2 : decide (r = 0) = false := decide_eq_false hr
  have fi1 : (i == 0) = false := by simpa using hi
  have fi2 : decide (i = 0) = false := decide_eq_false hi
  have fo1 : (o == 0) = false := by simpa using ho
  have fo2 : decide (o = 0) = false := decide_eq_false ho
  clear hk
  go_enter Tryz.func58, Tryz.ntmps58
  go_wp2_with (first | (go_at_call 93; refine HC0.out.mono ?_; rintro e w1 ⟨rfl, rfl⟩))
  go_ret
  exact ⟨rfl, rfl⟩
set_option maxRecDepth 100000 in
set_option maxHeartbeats 1000000 in
theorem troom_new {w : World} {p t g d n u : Nat} {r : Int} {S : Nat} {i o : Int} (h : NodeNew w p t g d n u r S i o) (hk : okN r S i o = true) : Calls Tryz.prog 78 #[.pointer (some ⟨t, 0, none⟩)] w fun e w' => e = .returned (.int .i64 1024) ∧ w' = w := by
  have HC0 := Lib.hid (tnone_new h hk)
  obtain ⟨c0, c1, c2, c3, c4, c5, c6, c7, c8, t0, t1, d0, d1, n0, n1, n2, n3, u0, u1, u2, st⟩ := h
  have HST := Lib.hid st
  clear st
  obtain ⟨hS, hr, hi, ho⟩ := okN_facts hk
  have fS1 : ((S : Int) == 0) = false := by simpa using hS
  have fS2 : decide ((S : Int) = 0) = false := decide_eq_false hS
  have fr1 : (r == 0) = false := by simpa using hr
  have fr2 : decide (r = 0) = false := decide_eq_false hr
  have fi1 : (i == 0) = false := by simpa using hi
  have fi2 : decide (i = 0) = false := decide_eq_false hi
  have fo1 : (o == 0) = false := by simpa using ho
  have fo2 : decide (o = 0) = false := decide_eq_false ho
  clear hk
  go_enter Tryz.func78, Tryz.ntmps78
  go_wp2_with (first | (go_at_call 132; refine HC0.out.mono ?_; rintro e w1 ⟨rfl, rfl⟩))
  go_ret
  exact ⟨rfl, rfl⟩
set_option maxRecDepth 100000 in
set_option maxHeartbeats 1000000 in
theorem udirty_new {w : World} {p t g d n u : Nat} {r : Int} {S : Nat} {i o : Int} (h : NodeNew w p t g d n u r S i o) (hk : okN r S i o = true) : Calls Tryz.prog 59 #[.pointer (some ⟨u, 0, none⟩)] w fun e w' => e = .returned (.slice none 0 0) ∧ w' = w := by
  have HC0 := Lib.hid (unone_new h hk)
  have HC1 := Lib.hid (clone_str_nil w)
  obtain ⟨c0, c1, c2, c3, c4, c5, c6, c7, c8, t0, t1, d0, d1, n0, n1, n2, n3, u0, u1, u2, st⟩ := h
  have HST := Lib.hid st
  clear st
  obtain ⟨hS, hr, hi, ho⟩ := okN_facts hk
  have fS1 : ((S : Int) == 0) = false := by simpa using hS
  have fS2 : decide ((S : Int) = 0) = false := decide_eq_false hS
  have fr1 : (r == 0) = false := by simpa using hr
  have fr2 : decide (r = 0) = false := decide_eq_false hr
  have fi1 : (i == 0) = false := by simpa using hi
  have fi2 : decide (i = 0) = false := decide_eq_false hi
  have fo1 : (o == 0) = false := by simpa using ho
  have fo2 : decide (o = 0) = false := decide_eq_false ho
  clear hk
  go_enter Tryz.func59, Tryz.ntmps59
  go_wp2_with (first | (go_at_call 94; refine HC0.out.mono ?_; rintro e w1 ⟨rfl, rfl⟩) | (go_at_call 95; refine HC1.out.mono ?_; rintro e w1 ⟨rfl, rfl⟩))
  go_ret
  exact ⟨rfl, rfl⟩
set_option maxRecDepth 100000 in
set_option maxHeartbeats 1000000 in
theorem ilen_new {w : World} {p t g d n u : Nat} {r : Int} {S : Nat} {i o : Int} (h : NodeNew w p t g d n u r S i o) (hk : okN r S i o = true) : Calls Tryz.prog 133 #[.pointer (some ⟨n, 0, none⟩)] w fun e w' => e = .returned (.int .i64 0) ∧ w' = w := by
  have HC0 := Lib.hid (inone_new h hk)
  obtain ⟨c0, c1, c2, c3, c4, c5, c6, c7, c8, t0, t1, d0, d1, n0, n1, n2, n3, u0, u1, u2, st⟩ := h
  have HST := Lib.hid st
  clear st
  obtain ⟨hS, hr, hi, ho⟩ := okN_facts hk
  have fS1 : ((S : Int) == 0) = false := by simpa using hS
  have fS2 : decide ((S : Int) = 0) = false := decide_eq_false hS
  have fr1 : (r == 0) = false := by simpa using hr
  have fr2 : decide (r = 0) = false := decide_eq_false hr
  have fi1 : (i == 0) = false := by simpa using hi
  have fi2 : decide (i = 0) = false := decide_eq_false hi
  have fo1 : (o == 0) = false := by simpa using ho
  have fo2 : decide (o = 0) = false := decide_eq_false ho
  clear hk
  go_enter Tryz.func133, Tryz.ntmps133
  go_wp2_with (first | (go_at_call 123; refine HC0.out.mono ?_; rintro e w1 ⟨rfl, rfl⟩))
  go_ret
  exact ⟨rfl, rfl⟩
set_option maxRecDepth 100000 in
set_option maxHeartbeats 1000000 in
theorem iall_new {w : World} {p t g d n u : Nat} {r : Int} {S : Nat} {i o : Int} (h : NodeNew w p t g d n u r S i o) (hk : okN r S i o = true) : Calls Tryz.prog 79 #[.pointer (some ⟨n, 0, none⟩)] w fun e w' => e = .returned (.slice none 0 0) ∧ w' = w := by
  have HC0 := Lib.hid (ilen_new h hk)
  obtain ⟨c0, c1, c2, c3, c4, c5, c6, c7, c8, t0, t1, d0, d1, n0, n1, n2, n3, u0, u1, u2, st⟩ := h
  have HST := Lib.hid st
  clear st
  obtain ⟨hS, hr, hi, ho⟩ := okN_facts hk
  have fS1 : ((S : Int) == 0) = false := by simpa using hS
  have fS2 : decide ((S : Int) = 0) = false := decide_eq_false hS
  have fr1 : (r == 0) = false := by simpa using hr
  have fr2 : decide (r = 0) = false := decide_eq_false hr
  have fi1 : (i == 0) = false := by simpa using hi
  have fi2 : decide (i = 0) = false := decide_eq_false hi
  have fo1 : (o == 0) = false := by simpa using ho
  have fo2 : decide (o = 0) = false := decide_eq_false ho
  clear hk
  go_enter Tryz.func79, Tryz.ntmps79
  go_wp2_with (first | (go_at_call 133; refine HC0.out.mono ?_; rintro e w1 ⟨rfl, rfl⟩))
  refine wp_loop_rounds 1 ?_
  rw [rounds_succ]
  go_wp2_with (first | (go_at_call 133; refine HC0.out.mono ?_; rintro e w1 ⟨rfl, rfl⟩))
  go_ret
  exact ⟨rfl, rfl⟩
set_option maxRecDepth 100000 in
set_option maxHeartbeats 1000000 in
theorem udel_new {w : World} {p t g d n u : Nat} {r : Int} {S : Nat} {i o : Int} (h : NodeNew w p t g d n u r S i o) (hk : okN r S i o = true) : Calls Tryz.prog 80 #[.pointer (some ⟨u, 0, none⟩)] w fun e w' => e = .returned (.slice none 0 0) ∧ w' = w := by
  have HC0 := Lib.hid (unone_new h hk)
  have HC1 := Lib.hid (clone_ent_nil w)
  obtain ⟨c0, c1, c2, c3, c4, c5, c6, c7, c8, t0, t1, d0, d1, n0, n1, n2, n3, u0, u1, u2, st⟩ := h
  have HST := Lib.hid st
  clear st
  obtain ⟨hS, hr, hi, ho⟩ := okN_facts hk
  have fS1 : ((S : Int) == 0) = false := by simpa using hS
  have fS2 : decide ((S : Int) = 0) = false := decide_eq_false hS
  have fr1 : (r == 0) = false := by simpa using hr
  have fr2 : decide (r = 0) = false := decide_eq_false hr
  have fi1 : (i == 0) = false := by simpa using hi
  have fi2 : decide (i = 0) = false := decide_eq_false hi
  have fo1 : (o == 0) = false := by simpa using ho
  have fo2 : decide (o = 0) = false := decide_eq_false ho
  clear hk
  go_enter Tryz.func80, Tryz.ntmps80
  go_wp2_with (first | (go_at_call 94; refine HC0.out.mono ?_; rintro e w1 ⟨rfl, rfl⟩) | (go_at_call 124; refine HC1.out.mono ?_; rintro e w1 ⟨rfl, rfl⟩))
  refine wp_loop_rounds 1 ?_
  rw [rounds_succ]
  go_wp2_with (first | (go_at_call 94; refine HC0.out.mono ?_; rintro e w1 ⟨rfl, rfl⟩) | (go_at_call 124; refine HC1.out.mono ?_; rintro e w1 ⟨rfl, rfl⟩))
  go_ret
  exact ⟨rfl, rfl⟩
set_option maxRecDepth 100000 in
set_option maxHeartbeats 1000000 in
theorem last_new {w : World} {p t g d n u : Nat} {r : Int} {S : Nat} {i o : Int} (h : NodeNew w p t g d n u r S i o) (hk : okN r S i o = true) : Calls Tryz.prog 20 #[.pointer (some ⟨p, 0, none⟩)] w fun e w' => e = .returned (.int .i64 0) ∧ w' = w := by
  have HC0 := Lib.hid (nnone_new h hk)
  have HC1 := Lib.hid (clast_new h hk)
  obtain ⟨c0, c1, c2, c3, c4, c5, c6, c7, c8, t0, t1, d0, d1, n0, n1, n2, n3, u0, u1, u2, st⟩ := h
  have HST := Lib.hid st
  clear st
  obtain ⟨hS, hr, hi, ho⟩ := okN_facts hk
  have fS1 : ((S : Int) == 0) = false := by simpa using hS
  have fS2 : decide ((S : Int) = 0) = false := decide_eq_false hS
  have fr1 : (r == 0) = false := by simpa using hr
  have fr2 : decide (r = 0) = false := decide_eq_false hr
  have fi1 : (i == 0) = false := by simpa using hi
  have fi2 : decide (i = 0) = false := decide_eq_false hi
  have fo1 : (o == 0) = false := by simpa using ho
  have fo2 : decide (o = 0) = false := decide_eq_false ho
  clear hk
  go_enter Tryz.func20, Tryz.ntmps20
  go_wp2_with (first | (go_at_call 57; refine HC0.out.mono ?_; rintro e w1 ⟨rfl, rfl⟩) | (go_at_call 58; refine HC1.out.mono ?_; rintro e w1 ⟨rfl, rfl⟩))
  go_ret
  exact ⟨rfl, rfl⟩
set_option maxRecDepth 100000 in
set_option maxHeartbeats 1000000 in
theorem closed_new {w : World} {p t g d n u : Nat} {r : Int} {S : Nat} {i o : Int} (h : NodeNew w p t g d n u r S i o) (hk : okN r S i o = true) : Calls Tryz.prog 24 #[.pointer (some ⟨p, 0, none⟩)] w fun e w' => e = .returned (.bool false) ∧ w' = w := by
  have HC0 := Lib.hid (nnone_new h hk)
  obtain ⟨c0, c1, c2, c3, c4, c5, c6, c7, c8, t0, t1, d0, d1, n0, n1, n2, n3, u0, u1, u2, st⟩ := h
  have HST := Lib.hid st
  clear st
  obtain ⟨hS, hr, hi, ho⟩ := okN_facts hk
  have fS1 : ((S : Int) == 0) = false := by simpa using hS
  have fS2 : decide ((S : Int) = 0) = false := decide_eq_false hS
  have fr1 : (r == 0) = false := by simpa using hr
  have fr2 : decide (r = 0) = false := decide_eq_false hr
  have fi1 : (i == 0) = false := by simpa using hi
  have fi2 : decide (i = 0) = false := decide_eq_false hi
  have fo1 : (o == 0) = false := by simpa using ho
  have fo2 : decide (o = 0) = false := decide_eq_false ho
  clear hk
  go_enter Tryz.func24, Tryz.ntmps24
  go_wp2_with (first | (go_at_call 57; refine HC0.out.mono ?_; rintro e w1 ⟨rfl, rfl⟩))
  go_ret
  exact ⟨rfl, rfl⟩
set_option maxRecDepth 100000 in
set_option maxHeartbeats 1000000 in
theorem room_new {w : World} {p t g d n u : Nat} {r : Int} {S : Nat} {i o : Int} (h : NodeNew w p t g d n u r S i o) (hk : okN r S i o = true) : Calls Tryz.prog 25 #[.pointer (some ⟨p, 0, none⟩)] w fun e w' => e = .returned (.int .i64 1024) ∧ w' = w := by
  have HC0 := Lib.hid (nnone_new h hk)
  have HC1 := Lib.hid (troom_new h hk)
  obtain ⟨c0, c1, c2, c3, c4, c5, c6, c7, c8, t0, t1, d0, d1, n0, n1, n2, n3, u0, u1, u2, st⟩ := h
  have HST := Lib.hid st
  clear st
  obtain ⟨hS, hr, hi, ho⟩ := okN_facts hk
  have fS1 : ((S : Int) == 0) = false := by simpa using hS
  have fS2 : decide ((S : Int) = 0) = false := decide_eq_false hS
  have fr1 : (r == 0) = false := by simpa using hr
  have fr2 : decide (r = 0) = false := decide_eq_false hr
  have fi1 : (i == 0) = false := by simpa using hi
  have fi2 : decide (i = 0) = false := decide_eq_false hi
  have fo1 : (o == 0) = false := by simpa using ho
  have fo2 : decide (o = 0) = false := decide_eq_false ho
  clear hk
  go_enter Tryz.func25, Tryz.ntmps25
  go_wp2_with (first | (go_at_call 57; refine HC0.out.mono ?_; rintro e w1 ⟨rfl, rfl⟩) | (go_at_call 78; refine HC1.out.mono ?_; rintro e w1 ⟨rfl, rfl⟩))
  go_ret
  exact ⟨rfl, rfl⟩
set_option maxRecDepth 100000 in
set_option maxHeartbeats 1000000 in
theorem dirty_new {w : World} {p t g d n u : Nat} {r : Int} {S : Nat} {i o : Int} (h : NodeNew w p t g d n u r S i o) (hk : okN r S i o = true) : Calls Tryz.prog 22 #[.pointer (some ⟨p, 0, none⟩)] w fun e w' => e = .returned (.slice none 0 0) ∧ w' = w := by
  have HC0 := Lib.hid (nnone_new h hk)
  have HC1 := Lib.hid (udirty_new h hk)
  obtain ⟨c0, c1, c2, c3, c4, c5, c6, c7, c8, t0, t1, d0, d1, n0, n1, n2, n3, u0, u1, u2, st⟩ := h
  have HST := Lib.hid st
  clear st
  obtain ⟨hS, hr, hi, ho⟩ := okN_facts hk
  have fS1 : ((S : Int) == 0) = false := by simpa using hS
  have fS2 : decide ((S : Int) = 0) = false := decide_eq_false hS
  have fr1 : (r == 0) = false := by simpa using hr
  have fr2 : decide (r = 0) = false := decide_eq_false hr
  have fi1 : (i == 0) = false := by simpa using hi
  have fi2 : decide (i = 0) = false := decide_eq_false hi
  have fo1 : (o == 0) = false := by simpa using ho
  have fo2 : decide (o = 0) = false := decide_eq_false ho
  clear hk
  go_enter Tryz.func22, Tryz.ntmps22
  go_wp2_with (first | (go_at_call 57; refine HC0.out.mono ?_; rintro e w1 ⟨rfl, rfl⟩) | (go_at_call 59; refine HC1.out.mono ?_; rintro e w1 ⟨rfl, rfl⟩))
  go_ret
  exact ⟨rfl, rfl⟩
set_option maxRecDepth 100000 in
set_option maxHeartbeats 1000000 in
theorem inbox_new {w : World} {p t g d n u : Nat} {r : Int} {S : Nat} {i o : Int} (h : NodeNew w p t g d n u r S i o) (hk : okN r S i o = true) : Calls Tryz.prog 28 #[.pointer (some ⟨p, 0, none⟩)] w fun e w' => e = .returned (.slice none 0 0) ∧ w' = w := by
  have HC0 := Lib.hid (nnone_new h hk)
  have HC1 := Lib.hid (iall_new h hk)
  obtain ⟨c0, c1, c2, c3, c4, c5, c6, c7, c8, t0, t1, d0, d1, n0, n1, n2, n3, u0, u1, u2, st⟩ := h
  have HST := Lib.hid st
  clear st
  obtain ⟨hS, hr, hi, ho⟩ := okN_facts hk
  have fS1 : ((S : Int) == 0) = false := by simpa using hS
  have fS2 : decide ((S : Int) = 0) = false := decide_eq_false hS
  have fr1 : (r == 0) = false := by simpa using hr
  have fr2 : decide (r = 0) = false := decide_eq_false hr
  have fi1 : (i == 0) = false := by simpa using hi
  have fi2 : decide (i = 0) = false := decide_eq_false hi
  have fo1 : (o == 0) = false := by simpa using ho
  have fo2 : decide (o = 0) = false := decide_eq_false ho
  clear hk
  go_enter Tryz.func28, Tryz.ntmps28
  go_wp2_with (first | (go_at_call 57; refine HC0.out.mono ?_; rintro e w1 ⟨rfl, rfl⟩) | (go_at_call 79; refine HC1.out.mono ?_; rintro e w1 ⟨rfl, rfl⟩))
  go_ret
  exact ⟨rfl, rfl⟩
set_option maxRecDepth 100000 in
set_option maxHeartbeats 1000000 in
theorem deltas_new {w : World} {p t g d n u : Nat} {r : Int} {S : Nat} {i o : Int} (h : NodeNew w p t g d n u r S i o) (hk : okN r S i o = true) : Calls Tryz.prog 29 #[.pointer (some ⟨p, 0, none⟩)] w fun e w' => e = .returned (.slice none 0 0) ∧ w' = w := by
  have HC0 := Lib.hid (nnone_new h hk)
  have HC1 := Lib.hid (udel_new h hk)
  obtain ⟨c0, c1, c2, c3, c4, c5, c6, c7, c8, t0, t1, d0, d1, n0, n1, n2, n3, u0, u1, u2, st⟩ := h
  have HST := Lib.hid st
  clear st
  obtain ⟨hS, hr, hi, ho⟩ := okN_facts hk
  have fS1 : ((S : Int) == 0) = false := by simpa using hS
  have fS2 : decide ((S : Int) = 0) = false := decide_eq_false hS
  have fr1 : (r == 0) = false := by simpa using hr
  have fr2 : decide (r = 0) = false := decide_eq_false hr
  have fi1 : (i == 0) = false := by simpa using hi
  have fi2 : decide (i = 0) = false := decide_eq_false hi
  have fo1 : (o == 0) = false := by simpa using ho
  have fo2 : decide (o = 0) = false := decide_eq_false ho
  clear hk
  go_enter Tryz.func29, Tryz.ntmps29
  go_wp2_with (first | (go_at_call 57; refine HC0.out.mono ?_; rintro e w1 ⟨rfl, rfl⟩) | (go_at_call 80; refine HC1.out.mono ?_; rintro e w1 ⟨rfl, rfl⟩))
  go_ret
  exact ⟨rfl, rfl⟩
theorem results_cell1 {fn : Func} {p : Tmp} {ty : TypeId} (h : fn.results = #[.cell p ty]) (tmps : Array Value) (P : Program) (w : World) :
    (results fn tmps).run P w = ((asAddr (tmps.getD p undef)).run P w).andThen fun a w₁ => (loadVar ty a).run P w₁ := by
  simp only [results, h]
  simp [Sem.run_bind, Result.andThen]
theorem conf_load {w : World} {p t g d n u : Nat} {r : Int} {S : Nat} {i o : Int} (h : NodeNew w p t g d n u r S i o) : (Instr.loadAt 23 (.pointer (some ⟨p, 0, none⟩))).run Tryz.prog w = .ok (.agg #[.int .i64 r, .int .i64 (S : Int), .int .i64 i, .int .i64 o]) w :=
  run_loadAt_mid w p 0 23 [.int .i64 r, .int .i64 (S : Int), .int .i64 i, .int .i64 o] _ (fun j v hj => by
    match j with
    | 0 => injection hj with hj; subst hj; exact h.c0
    | 1 => injection hj with hj; subst hj; exact h.c1
    | 2 => injection hj with hj; subst hj; exact h.c2
    | 3 => injection hj with hj; subst hj; exact h.c3
    | k + 4 => simp at hj) Tryz.underlying23 rfl (by kernel_rfl)
theorem nnone_at {w : World} {p t g d n u : Nat} {r : Int} {S : Nat} {i o : Int} (h : NodeNew w p t g d n u r S i o) (hk : okN r S i o = true) : ∀ W, Below w.heap.size w W → Calls Tryz.prog 57 #[.pointer (some ⟨p, 0, none⟩)] W fun e w' => e = .returned (.bool false) ∧ w' = W := fun W hW => nnone_new (h.below hW) hk
set_option maxRecDepth 100000 in
set_option maxHeartbeats 1000000 in
theorem config_new {w : World} {p t g d n u : Nat} {r : Int} {S : Nat} {i o : Int} (h : NodeNew w p t g d n u r S i o) (hk : okN r S i o = true) : Calls Tryz.prog 26 #[.pointer (some ⟨p, 0, none⟩)] w fun e w' => e = .returned (.agg #[.int .i64 r, .int .i64 (S : Int), .int .i64 i, .int .i64 o]) ∧ Below w.heap.size w w' := by
  have HC0 := Lib.hid (nnone_at h hk)
  have q0 := cell_below (below_alloc w (.cells #[.int .i64 0, .int .i64 0, .int .i64 0, .int .i64 0] 23)) h.c0
  have q1 := cell_below (below_alloc w (.cells #[.int .i64 0, .int .i64 0, .int .i64 0, .int .i64 0] 23)) h.c1
  have q2 := cell_below (below_alloc w (.cells #[.int .i64 0, .int .i64 0, .int .i64 0, .int .i64 0] 23)) h.c2
  have q3 := cell_below (below_alloc w (.cells #[.int .i64 0, .int .i64 0, .int .i64 0, .int .i64 0] 23)) h.c3
  obtain ⟨c0, c1, c2, c3, c4, c5, c6, c7, c8, t0, t1, d0, d1, n0, n1, n2, n3, u0, u1, u2, st⟩ := h
  have HST := Lib.hid st
  clear st
  obtain ⟨hS, hr, hi, ho⟩ := okN_facts hk
  have fS1 : ((S : Int) == 0) = false := by simpa using hS
  have fS2 : decide ((S : Int) = 0) = false := decide_eq_false hS
  have fr1 : (r == 0) = false := by simpa using hr
  have fr2 : decide (r = 0) = false := decide_eq_false hr
  have fi1 : (i == 0) = false := by simpa using hi
  have fi2 : decide (i = 0) = false := decide_eq_false hi
  have fo1 : (o == 0) = false := by simpa using ho
  have fo2 : decide (o = 0) = false := decide_eq_false ho
  clear hk
  go_enter Tryz.func26, Tryz.ntmps26
  go_wp2_with (first | (go_at_call 57; refine (HC0.out _ (below_alloc _ _)).mono ?_; rintro e w1 ⟨rfl, rfl⟩))
  refine bodyPost_ret (v := .agg #[.int .i64 r, .int .i64 (S : Int), .int .i64 i, .int .i64 o]) ?_ rfl ⟨rfl, ?_⟩
  · rw [results_cell1 rfl]
    simp [go_sem]
  · exact nbl_al (Below.refl _ _)
end Go.Proofs.YthfleaogajbpfaaGreatDoor
