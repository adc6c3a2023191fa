/- LoadMakes: a source, its calls one by one. -/
import Derived.Test.YtecnchmcdbcofaaGreatDoorMkm
import Derived.Test.YtecnchmcdbcofaaGreatDoorMkc
set_option linter.unusedVariables false
set_option linter.unusedSimpArgs false
namespace Go.Proofs.YtecnchmcdbcofaaGreatDoor
open Go.RowKit Go.MapKept
theorem ConfAt.step {w w' : World} {b : Nat} {c : LC} (h : ConfAt w b c) (hb : Below w.heap.size w w') : ConfAt w' b c := h.below hb h.lt
theorem OwnC.row {w : World} {B : Nat} {A : Option Addr} {n cap : Nat} {l : List CV} (h : OwnC w B (.slice A n cap) l) {i : Nat} {x : CV} (hx : l[i]? = some x) : ∃ g, A = some ⟨g, 0, Option.none⟩ ∧ B ≤ g ∧ g < w.heap.size ∧ ∀ j v, x.cells[j]? = some v → w.cell? ⟨g, i * 6 + j, Option.none⟩ = some v := by
  have hs := h.sl
  have hi := (List.getElem?_eq_some_iff.1 hx).1
  obtain ⟨bb, off, rfl, hcs⟩ := hs.elem hi
  have hb : (Value.slice (some ⟨bb, off, Option.none⟩) n cap).ownBlock = some bb := rfl
  have ho := own_block h hb
  have h0 : off = 0 := by
    rcases h.2 with ⟨h0, _⟩ | ⟨g, cap', cur, e, _⟩
    · cases h0
    · injection e with e
      injection e with e
      injection e
  subst h0
  refine ⟨bb, rfl, ho.1, ho.2.1, fun j v hj => ?_⟩
  have := hcs j v (by rw [show l[i] = x from (List.getElem?_eq_some_iff.1 hx).2]; exact hj)
  simpa using this
theorem range_below {w w' : World} {b o : Nat} {cs : List Value} (h : w.rangeAt b o cs) (hb : Below w.heap.size w w') (hl : b < w.heap.size) : w'.rangeAt b o cs := fun j v hj => (hb.cell (p := ⟨b, o + j, none⟩) hl).trans (h j v hj)
theorem range_kbut {w w' : World} {b o p : Nat} {cs : List Value} (h : w.rangeAt b o cs) (hb : Kbut p w w') (hl : b < w.heap.size) (hp : b ≠ p) : w'.rangeAt b o cs := fun j v hj => (hb.cell (q := ⟨b, o + j, none⟩) hl hp).trans (h j v hj)
theorem want_kept {w3 w6 : World} {p : Nat} {cs : Array Value} {ty : TypeId} (hk : Kbut p (w3.alloc (.cells cs ty)) w6) (hp : p < w3.heap.size) (o : Obj) {j : Nat} {v : Value} (hv : cs[j]? = some v) : (w6.alloc o).cell? ⟨w3.heap.size, j, none⟩ = some v :=
  cell_below (below_alloc _ _) ((hk.cell (q := ⟨w3.heap.size, j, none⟩) (by show w3.heap.size < (w3.heap.push _).size; rw [Array.size_push]; omega) (by show w3.heap.size ≠ p; omega)).trans ((new_cells w3 cs ty j).trans hv))
set_option maxRecDepth 100000 in
set_option maxHeartbeats 4000000 in
theorem loadMakes_neg (w : World) (c : LC) (F : Nat) (hF : F ≤ 100) (many : Int) (hm : many < 0) (hE : Env w) (hT : Tab w) (hb : okB4 c = true) :
    Calls Tryz.prog 8 #[.agg c.arr, .int .u8 (F : Int), .int .i64 many] w fun e w' => e = .returned (.bool true) ∧ Below w.heap.size w w' := by
  have hc := okB4_ok hb
  have HOK := Lib.hid hc
  have HNW : Hid (∀ W, Calls Tryz.prog 20 #[.agg c.arr] W fun e w' => (∃ p, e = .returned (.tuple #[.pointer (some ⟨p, 0, none⟩), .int .i64 0]) ∧ W.heap.size ≤ p ∧ SrcAt w' p c c.seed) ∧ Below W.heap.size W w') := Lib.hid fun W => lnew_any W c hc
  have HLV : Hid (∀ W, Calls Tryz.prog 19 #[.agg c.arr] W fun e w' => e = .returned (.bool true) ∧ Below W.heap.size W w') := Lib.hid fun W => by rw [← hb]; exact lvalid_any W c
  have HLN : Hid (∀ W s, Below w.heap.size w W → Calls Tryz.prog 27 #[.agg c.arr, .int .u64 s] W fun e w' => e = .returned (.tuple #[.agg (nextF c s).arr, .int .u64 (stateF s)]) ∧ Below W.heap.size W w') := Lib.hid fun W s hW => lawnext_any W c s hc (hE.below hW)
  have HALL := Lib.hid (next_all w c hc hT)
  have HSM : Hid (∀ W o k t j q, Calls Tryz.prog 23 #[.agg #[.int .i64 o, .string k, .string t, .string j, .int .i64 q, .slice none 0 0], .agg #[.int .i64 o, .string k, .string t, .string j, .int .i64 q, .slice none 0 0]] W fun e w' => e = .returned (.bool true) ∧ Below W.heap.size W w') := Lib.hid fun W o k t j q => same_eq W ⟨o, k, t, j, q⟩
  have HE := Lib.hid hE
  have HCN : Hid (∀ W : World, ConfAt (W.alloc (.cells #[.int .u64 c.seed, .int .i64 c.keys, .int .i64 c.items, .int .i64 c.reads] 57)) W.heap.size c) := Lib.hid fun W => ConfAt.new W c _
  clear hE hb hT
  unfold LC.arr at HNW HLV HLN ⊢
  have HMA : Hid (∀ σ p, w.heap.size ≤ p → ∀ W, Below w.heap.size w W → SrcAt W p c σ → Calls Tryz.prog 21 #[.pointer (some ⟨p, 0, none⟩), .int .i64 many] W fun e w' => (∃ v, e = .returned (.tuple #[v, .int .i64 2]) ∧ OwnC w' W.heap.size v (callsF c σ 0)) ∧ Kbut p W w' ∧ SrcAt w' p c (statesF σ 0)) := Lib.hid fun σ p hp W hW hS => (many_bad W p c σ hc hS many (.inl hm)).mono (by rintro e w' ⟨rfl, rfl⟩; exact ⟨⟨_, rfl, OwnC.none _ _⟩, .refl _ _, hS⟩)
  clear hc
  have d2 : decide ((200 : Int) < many) = false := decide_eq_false (by omega)
  have d4 : decide (many < 0) = true := decide_eq_true hm
  clear hm
  have d1 : decide ((100 : Int) < (F : Int)) = false := decide_eq_false (by omega)
  go_enter Tryz.func8, Tryz.ntmps8
  go_wp2_with (first | (go_at_call 20; refine (HNW.out _).mono ?_; rintro e w1 ⟨⟨p, rfl, hp1, hs1⟩, hb1⟩; have HP1 := Lib.hid hp1; have HS1 := Lib.hid hs1; have HB1 := Lib.hid hb1; have hcf := (HCN.out w).below hb1 (by simp); have HCF1 := Lib.hid hcf; have q0 := hcf.c0; have q1 := hcf.c1; have q2 := hcf.c2; have q3 := hcf.c3; clear hcf hb1 hs1 hp1) | (go_at_call 19; refine (HLV.out _).mono ?_; rintro e w2 ⟨rfl, hb2⟩; have HB2 := Lib.hid hb2; have r0 : w2.cell? ⟨w.heap.size, 0, none⟩ = some (.int .u64 c.seed) := cell_below hb2 q0; clear hb2))
  clear q0 q1 q2 q3 r0
  have HPP : Hid (w.heap.size < p ∧ p < w2.heap.size) := Lib.hid (by
    have h1 := HP1.out
    have h2 := HS1.out.lt
    have h3 := HB2.out.size
    have h4 : (w.alloc (.cells #[.int .u64 c.seed, .int .i64 c.keys, .int .i64 c.items, .int .i64 c.reads] 57)).heap.size = w.heap.size + 1 := Array.size_push _
    omega)
  have HB0 : Hid (Below w.heap.size w w2) := Lib.hid (nbl_step (nbl_step (below_alloc _ _) HB1.out) HB2.out)
  have HC0 : Hid (ConfAt w2 w.heap.size c) := Lib.hid (HCF1.out.below HB2.out HCF1.out.lt)
  have HS0 : Hid (SrcAt w2 p c c.seed) := Lib.hid (HS1.out.below HB2.out)
  clear HP1 HS1 HB1 HCF1 HB2 HNW HLV
  go_loopg [9, 10] F (fun gf u9 u10 wx => ∃ i : Nat, u10 = .int .i64 (i : Int) ∧ u9 = .int .u64 (statesF c.seed i) ∧ i + gf = F ∧ ConfAt wx w.heap.size c ∧ SrcAt wx p c (statesF c.seed i) ∧ Below w.heap.size w wx)
  case atStart => exact ⟨0, rfl, rfl, by omega, HC0.out, HS0.out, HB0.out⟩
  case round =>
    obtain ⟨i, rfl, rfl, hi, hC, hS, hW⟩ := hrel
    have HC := Lib.hid hC
    have HS := Lib.hid hS
    have HW := Lib.hid hW
    have q0 := hC.c0
    have q1 := hC.c1
    have q2 := hC.c2
    have q3 := hC.c3
    clear hC hS hW
    by_cases hlt : i < F
    · obtain ⟨g', rfl⟩ : ∃ g', gk = g' + 1 := ⟨gk - 1, by omega⟩
      have hl1 := HLN.out wr (statesF c.seed i) HW.out
      have hn1 : ∀ W, Below w.heap.size w W → SrcAt W p c (statesF c.seed i) → _ := fun W h1 h2 => HALL.out p (Nat.le_of_lt HPP.out.1) W (statesF c.seed i) h1 h2
      obtain ⟨x, hx⟩ : ∃ x, nextF c (statesF c.seed i) = x := ⟨_, rfl⟩
      obtain ⟨σ', hσ⟩ : ∃ s', stateF (statesF c.seed i) = s' := ⟨_, rfl⟩
      have HSS : Hid (statesF c.seed (i + 1) = σ') := Lib.hid hσ
      have HXX : Hid (nextF c (statesF c.seed i) = x) := Lib.hid hx
      rw [hx, hσ] at hl1 hn1
      clear hx hσ
      obtain ⟨o, k, t, j, q⟩ := x
      unfold CV.arr at hl1 hn1
      dsimp only at hl1 hn1
      have HL1 := Lib.hid hl1
      have HN1 := Lib.hid hn1
      clear hl1 hn1
      generalize statesF c.seed i = σi at *
      go_wp2_with (first | (go_at_call 27; refine HL1.out.mono ?_; rintro e w3 ⟨rfl, hb3⟩; have HB3 := Lib.hid hb3; have HPW : Hid (p < w3.heap.size) := Lib.hid (Nat.lt_of_lt_of_le HS.out.lt hb3.size); clear hb3) | (go_at_call 22; refine (HN1.out _ (nbl_al (nbl_step HW.out HB3.out)) ((HS.out.below HB3.out).below (below_alloc _ _))).mono ?_; rintro e w6 ⟨rfl, hk6, hs6⟩; have HK6 := Lib.hid hk6; have HS6 := Lib.hid hs6; have f0 := want_kept hk6 HPW.out (.cells #[.int .i64 o, .string k, .string t, .string j, .int .i64 q, .slice none 0 0] 33) (j := 0) rfl; have f1 := want_kept hk6 HPW.out (.cells #[.int .i64 o, .string k, .string t, .string j, .int .i64 q, .slice none 0 0] 33) (j := 1) rfl; have f2 := want_kept hk6 HPW.out (.cells #[.int .i64 o, .string k, .string t, .string j, .int .i64 q, .slice none 0 0] 33) (j := 2) rfl; have f3 := want_kept hk6 HPW.out (.cells #[.int .i64 o, .string k, .string t, .string j, .int .i64 q, .slice none 0 0] 33) (j := 3) rfl; have f4 := want_kept hk6 HPW.out (.cells #[.int .i64 o, .string k, .string t, .string j, .int .i64 q, .slice none 0 0] 33) (j := 4) rfl; have f5 := want_kept hk6 HPW.out (.cells #[.int .i64 o, .string k, .string t, .string j, .int .i64 q, .slice none 0 0] 33) (j := 5) rfl; clear hk6 hs6) | (go_at_call 23; refine (HSM.out _ _ _ _ _ _).mono ?_; rintro e w8 ⟨rfl, hb8⟩; have HB8 := Lib.hid hb8; clear hb8))
      go_roundg g'
      case measure => omega
      case rel =>
        have hba := (below_alloc w6 (.cells #[.int .i64 o, .string k, .string t, .string j, .int .i64 q, .slice none 0 0] 33))
        have hkb : Below w.heap.size (w3.alloc (.cells #[.int .i64 o, .string k, .string t, .string j, .int .i64 q, .slice none 0 0] 33)) w6 := HK6.out.below (Nat.le_of_lt HPP.out.1) (nbl_al (nbl_step HW.out HB3.out)).size
        have hcc : ConfAt w8 w.heap.size c := (((((HC.out.step HB3.out).step (below_alloc _ _)).kbut HK6.out (Nat.ne_of_lt HPP.out.1)).step hba).step HB8.out)
        have hww : Below w.heap.size w w8 := nbl_step (nbl_step ((nbl_al (nbl_step HW.out HB3.out)).trans hkb) hba) HB8.out
        exact ⟨i + 1, by go_num, by rw [HSS.out], by omega, hcc, by rw [HSS.out]; exact (HS6.out.below hba).below HB8.out, hww⟩
    · have e : i = F := by omega
      subst e
      clear HC0 HS0 HB0
      have HMN := Lib.hid (HMA.out (statesF c.seed i))
      generalize statesF c.seed i = σ at *
      go_wp2_with (first | (go_at_call 28; refine (copy_any _ p c σ HOK.out HS.out).mono ?_; rintro e w3 ⟨⟨z, rfl, hz, hsz⟩, hb3⟩; have HZ : Hid (w.heap.size < z ∧ p ≠ z ∧ z < w3.heap.size ∧ p < w3.heap.size) := Lib.hid (by have h1 := HPP.out; have h2 := HS.out.lt; have h3 := hsz.lt; have h4 := hb3.size; omega); have HSZ := Lib.hid hsz; have HB3 := Lib.hid hb3; clear hz hsz hb3) | (go_at_call 21; refine (HMN.out p (Nat.le_of_lt HPP.out.1) w3 (nbl_step HW.out HB3.out) (HS.out.below HB3.out)).mono ?_; rintro e w4 ⟨⟨v, rfl, ho⟩, hk4, hs4⟩; obtain ⟨A, cap, rfl, hcap, hcm, hemp⟩ := id ho.sl; have HO := Lib.hid ho; have HK4 := Lib.hid hk4; have HS4 := Lib.hid hs4; clear ho hk4 hs4 hemp; rw [callsF_len] at *))
      have HSZ4 : Hid (SrcAt w4 z c σ) := Lib.hid (HSZ.out.kbut HK4.out (fun e => HZ.out.2.1 e.symm))
      have HC4 : Hid (ConfAt w4 w.heap.size c) := Lib.hid ((HC.out.step HB3.out).kbut HK4.out (Nat.ne_of_lt HPP.out.1))
      have HW4 : Hid (Below w.heap.size w w4) := Lib.hid ((nbl_step HW.out HB3.out).trans (HK4.out.below (Nat.le_of_lt HPP.out.1) (nbl_step HW.out HB3.out).size))
      have HFI := Lib.hid hF
      clear HB3 HK4 HSZ HC HW HS HMN HMA hF
      generalize w3.heap.size = B at *
      go_loopg [9, 17] 0 (fun gf u9 u17 wx => ∃ m : Nat, u17 = .int .i64 (m : Int) ∧ u9 = .int .u64 (statesF σ m) ∧ m + gf = 0 ∧ ConfAt wx w.heap.size c ∧ SrcAt wx p c (statesF σ 0) ∧ SrcAt wx z c (statesF σ m) ∧ OwnC wx B (.slice A 0 cap) (callsF c σ 0) ∧ Below w.heap.size w wx)
      case atStart => exact ⟨0, rfl, rfl, by omega, HC4.out, HS4.out, HSZ4.out, HO.out, HW4.out⟩
      case round =>
        obtain ⟨m, rfl, rfl, hm6, hC, hSp, hS, hO, hW⟩ := hrel
        have HC := Lib.hid hC
        have HSP := Lib.hid hSp
        have HS := Lib.hid hS
        have HOX := Lib.hid hO
        have HW := Lib.hid hW
        have q0 := hC.c0
        have q1 := hC.c1
        have q2 := hC.c2
        have q3 := hC.c3
        clear hC hS hW hSp hO HC4 HS4 HSZ4 HO HW4
        by_cases hlt : m < 0
        · exact absurd hlt (Nat.not_lt_zero _)
        · have e : m = 0 := by omega
          subst e
          have HS := HSP
          clear HSP HOX
          have hl1 := HLN.out wr (statesF σ 0) HW.out
          have hn1 : ∀ W, Below w.heap.size w W → SrcAt W p c (statesF σ 0) → _ := fun W h1 h2 => HALL.out p (Nat.le_of_lt HPP.out.1) W (statesF σ 0) h1 h2
          obtain ⟨x, hx⟩ : ∃ x, nextF c (statesF σ 0) = x := ⟨_, rfl⟩
          obtain ⟨σ', hσ⟩ : ∃ s', stateF (statesF σ 0) = s' := ⟨_, rfl⟩
          have HSS : Hid (statesF σ (0 + 1) = σ') := Lib.hid hσ
          have HXX : Hid (nextF c (statesF σ 0) = x) := Lib.hid hx
          rw [hx, hσ] at hl1 hn1
          clear hx hσ
          obtain ⟨o, k, t, j, q⟩ := x
          unfold CV.arr at hl1 hn1
          dsimp only at hl1 hn1
          have HL1 := Lib.hid hl1
          have HN1 := Lib.hid hn1
          clear hl1 hn1
          generalize statesF σ 0 = σi at *
          go_wp2_with (first | (go_at_call 27; refine HL1.out.mono ?_; rintro e w3 ⟨rfl, hb3⟩; have HB3 := Lib.hid hb3; have HPW : Hid (p < w3.heap.size) := Lib.hid (Nat.lt_of_lt_of_le HS.out.lt hb3.size); clear hb3) | (go_at_call 22; refine (HN1.out _ (nbl_al (nbl_step HW.out HB3.out)) ((HS.out.below HB3.out).below (below_alloc _ _))).mono ?_; rintro e w6 ⟨rfl, hk6, hs6⟩; have HK6 := Lib.hid hk6; have HS6 := Lib.hid hs6; have f0 := want_kept hk6 HPW.out (.cells #[.int .i64 o, .string k, .string t, .string j, .int .i64 q, .slice none 0 0] 33) (j := 0) rfl; have f1 := want_kept hk6 HPW.out (.cells #[.int .i64 o, .string k, .string t, .string j, .int .i64 q, .slice none 0 0] 33) (j := 1) rfl; have f2 := want_kept hk6 HPW.out (.cells #[.int .i64 o, .string k, .string t, .string j, .int .i64 q, .slice none 0 0] 33) (j := 2) rfl; have f3 := want_kept hk6 HPW.out (.cells #[.int .i64 o, .string k, .string t, .string j, .int .i64 q, .slice none 0 0] 33) (j := 3) rfl; have f4 := want_kept hk6 HPW.out (.cells #[.int .i64 o, .string k, .string t, .string j, .int .i64 q, .slice none 0 0] 33) (j := 4) rfl; have f5 := want_kept hk6 HPW.out (.cells #[.int .i64 o, .string k, .string t, .string j, .int .i64 q, .slice none 0 0] 33) (j := 5) rfl; clear hk6 hs6) | (go_at_call 23; refine (HSM.out _ _ _ _ _ _).mono ?_; rintro e w8 ⟨rfl, hb8⟩; have HB8 := Lib.hid hb8; have HW8 : Hid (Below w.heap.size w w8) := Lib.hid (nbl_step (nbl_al ((nbl_al (nbl_step HW.out HB3.out)).trans (HK6.out.below (Nat.le_of_lt HPP.out.1) (nbl_al (nbl_step HW.out HB3.out)).size))) hb8); clear hb8) | (go_at_call 10; refine (known_yes _ (HE.out.later HW8.out)).mono ?_; rintro e w9 ⟨rfl, hb9⟩; have HB9 := Lib.hid hb9; clear hb9))
          go_ret
          exact ⟨rfl, nbl_step HW8.out HB9.out⟩

set_option maxRecDepth 100000 in
set_option maxHeartbeats 4000000 in
theorem loadMakes_big (w : World) (c : LC) (F : Nat) (hF : F ≤ 100) (many : Int) (hm : 20000 < many) (hE : Env w) (hT : Tab w) (hb : okB4 c = true) :
    Calls Tryz.prog 8 #[.agg c.arr, .int .u8 (F : Int), .int .i64 many] w fun e w' => e = .returned (.bool true) ∧ Below w.heap.size w w' := by
  have hc := okB4_ok hb
  have HOK := Lib.hid hc
  have HNW : Hid (∀ W, Calls Tryz.prog 20 #[.agg c.arr] W fun e w' => (∃ p, e = .returned (.tuple #[.pointer (some ⟨p, 0, none⟩), .int .i64 0]) ∧ W.heap.size ≤ p ∧ SrcAt w' p c c.seed) ∧ Below W.heap.size W w') := Lib.hid fun W => lnew_any W c hc
  have HLV : Hid (∀ W, Calls Tryz.prog 19 #[.agg c.arr] W fun e w' => e = .returned (.bool true) ∧ Below W.heap.size W w') := Lib.hid fun W => by rw [← hb]; exact lvalid_any W c
  have HLN : Hid (∀ W s, Below w.heap.size w W → Calls Tryz.prog 27 #[.agg c.arr, .int .u64 s] W fun e w' => e = .returned (.tuple #[.agg (nextF c s).arr, .int .u64 (stateF s)]) ∧ Below W.heap.size W w') := Lib.hid fun W s hW => lawnext_any W c s hc (hE.below hW)
  have HALL := Lib.hid (next_all w c hc hT)
  have HSM : Hid (∀ W o k t j q, Calls Tryz.prog 23 #[.agg #[.int .i64 o, .string k, .string t, .string j, .int .i64 q, .slice none 0 0], .agg #[.int .i64 o, .string k, .string t, .string j, .int .i64 q, .slice none 0 0]] W fun e w' => e = .returned (.bool true) ∧ Below W.heap.size W w') := Lib.hid fun W o k t j q => same_eq W ⟨o, k, t, j, q⟩
  have HE := Lib.hid hE
  have HCN : Hid (∀ W : World, ConfAt (W.alloc (.cells #[.int .u64 c.seed, .int .i64 c.keys, .int .i64 c.items, .int .i64 c.reads] 57)) W.heap.size c) := Lib.hid fun W => ConfAt.new W c _
  clear hE hb hT
  unfold LC.arr at HNW HLV HLN ⊢
  have HMA : Hid (∀ σ p, w.heap.size ≤ p → ∀ W, Below w.heap.size w W → SrcAt W p c σ → Calls Tryz.prog 21 #[.pointer (some ⟨p, 0, none⟩), .int .i64 many] W fun e w' => (∃ v, e = .returned (.tuple #[v, .int .i64 2]) ∧ OwnC w' W.heap.size v (callsF c σ 0)) ∧ Kbut p W w' ∧ SrcAt w' p c (statesF σ 0)) := Lib.hid fun σ p hp W hW hS => (many_bad W p c σ hc hS many (.inr hm)).mono (by rintro e w' ⟨rfl, rfl⟩; exact ⟨⟨_, rfl, OwnC.none _ _⟩, .refl _ _, hS⟩)
  clear hc
  have d2 : decide ((200 : Int) < many) = true := decide_eq_true (by omega)
  have d3 : decide (many ≤ 20000) = false := decide_eq_false (by omega)
  have d4 : decide (many < 0) = false := decide_eq_false (by omega)
  have d5 : decide ((20000 : Int) < many) = true := decide_eq_true hm
  clear hm
  have d1 : decide ((100 : Int) < (F : Int)) = false := decide_eq_false (by omega)
  go_enter Tryz.func8, Tryz.ntmps8
  go_wp2_with (first | (go_at_call 20; refine (HNW.out _).mono ?_; rintro e w1 ⟨⟨p, rfl, hp1, hs1⟩, hb1⟩; have HP1 := Lib.hid hp1; have HS1 := Lib.hid hs1; have HB1 := Lib.hid hb1; have hcf := (HCN.out w).below hb1 (by simp); have HCF1 := Lib.hid hcf; have q0 := hcf.c0; have q1 := hcf.c1; have q2 := hcf.c2; have q3 := hcf.c3; clear hcf hb1 hs1 hp1) | (go_at_call 19; refine (HLV.out _).mono ?_; rintro e w2 ⟨rfl, hb2⟩; have HB2 := Lib.hid hb2; have r0 : w2.cell? ⟨w.heap.size, 0, none⟩ = some (.int .u64 c.seed) := cell_below hb2 q0; clear hb2))
  clear q0 q1 q2 q3 r0
  have HPP : Hid (w.heap.size < p ∧ p < w2.heap.size) := Lib.hid (by
    have h1 := HP1.out
    have h2 := HS1.out.lt
    have h3 := HB2.out.size
    have h4 : (w.alloc (.cells #[.int .u64 c.seed, .int .i64 c.keys, .int .i64 c.items, .int .i64 c.reads] 57)).heap.size = w.heap.size + 1 := Array.size_push _
    omega)
  have HB0 : Hid (Below w.heap.size w w2) := Lib.hid (nbl_step (nbl_step (below_alloc _ _) HB1.out) HB2.out)
  have HC0 : Hid (ConfAt w2 w.heap.size c) := Lib.hid (HCF1.out.below HB2.out HCF1.out.lt)
  have HS0 : Hid (SrcAt w2 p c c.seed) := Lib.hid (HS1.out.below HB2.out)
  clear HP1 HS1 HB1 HCF1 HB2 HNW HLV
  go_loopg [9, 10] F (fun gf u9 u10 wx => ∃ i : Nat, u10 = .int .i64 (i : Int) ∧ u9 = .int .u64 (statesF c.seed i) ∧ i + gf = F ∧ ConfAt wx w.heap.size c ∧ SrcAt wx p c (statesF c.seed i) ∧ Below w.heap.size w wx)
  case atStart => exact ⟨0, rfl, rfl, by omega, HC0.out, HS0.out, HB0.out⟩
  case round =>
    obtain ⟨i, rfl, rfl, hi, hC, hS, hW⟩ := hrel
    have HC := Lib.hid hC
    have HS := Lib.hid hS
    have HW := Lib.hid hW
    have q0 := hC.c0
    have q1 := hC.c1
    have q2 := hC.c2
    have q3 := hC.c3
    clear hC hS hW
    by_cases hlt : i < F
    · obtain ⟨g', rfl⟩ : ∃ g', gk = g' + 1 := ⟨gk - 1, by omega⟩
      have hl1 := HLN.out wr (statesF c.seed i) HW.out
      have hn1 : ∀ W, Below w.heap.size w W → SrcAt W p c (statesF c.seed i) → _ := fun W h1 h2 => HALL.out p (Nat.le_of_lt HPP.out.1) W (statesF c.seed i) h1 h2
      obtain ⟨x, hx⟩ : ∃ x, nextF c (statesF c.seed i) = x := ⟨_, rfl⟩
      obtain ⟨σ', hσ⟩ : ∃ s', stateF (statesF c.seed i) = s' := ⟨_, rfl⟩
      have HSS : Hid (statesF c.seed (i + 1) = σ') := Lib.hid hσ
      have HXX : Hid (nextF c (statesF c.seed i) = x) := Lib.hid hx
      rw [hx, hσ] at hl1 hn1
      clear hx hσ
      obtain ⟨o, k, t, j, q⟩ := x
      unfold CV.arr at hl1 hn1
      dsimp only at hl1 hn1
      have HL1 := Lib.hid hl1
      have HN1 := Lib.hid hn1
      clear hl1 hn1
      generalize statesF c.seed i = σi at *
      go_wp2_with (first | (go_at_call 27; refine HL1.out.mono ?_; rintro e w3 ⟨rfl, hb3⟩; have HB3 := Lib.hid hb3; have HPW : Hid (p < w3.heap.size) := Lib.hid (Nat.lt_of_lt_of_le HS.out.lt hb3.size); clear hb3) | (go_at_call 22; refine (HN1.out _ (nbl_al (nbl_step HW.out HB3.out)) ((HS.out.below HB3.out).below (below_alloc _ _))).mono ?_; rintro e w6 ⟨rfl, hk6, hs6⟩; have HK6 := Lib.hid hk6; have HS6 := Lib.hid hs6; have f0 := want_kept hk6 HPW.out (.cells #[.int .i64 o, .string k, .string t, .string j, .int .i64 q, .slice none 0 0] 33) (j := 0) rfl; have f1 := want_kept hk6 HPW.out (.cells #[.int .i64 o, .string k, .string t, .string j, .int .i64 q, .slice none 0 0] 33) (j := 1) rfl; have f2 := want_kept hk6 HPW.out (.cells #[.int .i64 o, .string k, .string t, .string j, .int .i64 q, .slice none 0 0] 33) (j := 2) rfl; have f3 := want_kept hk6 HPW.out (.cells #[.int .i64 o, .string k, .string t, .string j, .int .i64 q, .slice none 0 0] 33) (j := 3) rfl; have f4 := want_kept hk6 HPW.out (.cells #[.int .i64 o, .string k, .string t, .string j, .int .i64 q, .slice none 0 0] 33) (j := 4) rfl; have f5 := want_kept hk6 HPW.out (.cells #[.int .i64 o, .string k, .string t, .string j, .int .i64 q, .slice none 0 0] 33) (j := 5) rfl; clear hk6 hs6) | (go_at_call 23; refine (HSM.out _ _ _ _ _ _).mono ?_; rintro e w8 ⟨rfl, hb8⟩; have HB8 := Lib.hid hb8; clear hb8))
      go_roundg g'
      case measure => omega
      case rel =>
        have hba := (below_alloc w6 (.cells #[.int .i64 o, .string k, .string t, .string j, .int .i64 q, .slice none 0 0] 33))
        have hkb : Below w.heap.size (w3.alloc (.cells #[.int .i64 o, .string k, .string t, .string j, .int .i64 q, .slice none 0 0] 33)) w6 := HK6.out.below (Nat.le_of_lt HPP.out.1) (nbl_al (nbl_step HW.out HB3.out)).size
        have hcc : ConfAt w8 w.heap.size c := (((((HC.out.step HB3.out).step (below_alloc _ _)).kbut HK6.out (Nat.ne_of_lt HPP.out.1)).step hba).step HB8.out)
        have hww : Below w.heap.size w w8 := nbl_step (nbl_step ((nbl_al (nbl_step HW.out HB3.out)).trans hkb) hba) HB8.out
        exact ⟨i + 1, by go_num, by rw [HSS.out], by omega, hcc, by rw [HSS.out]; exact (HS6.out.below hba).below HB8.out, hww⟩
    · have e : i = F := by omega
      subst e
      clear HC0 HS0 HB0
      have HMN := Lib.hid (HMA.out (statesF c.seed i))
      generalize statesF c.seed i = σ at *
      go_wp2_with (first | (go_at_call 28; refine (copy_any _ p c σ HOK.out HS.out).mono ?_; rintro e w3 ⟨⟨z, rfl, hz, hsz⟩, hb3⟩; have HZ : Hid (w.heap.size < z ∧ p ≠ z ∧ z < w3.heap.size ∧ p < w3.heap.size) := Lib.hid (by have h1 := HPP.out; have h2 := HS.out.lt; have h3 := hsz.lt; have h4 := hb3.size; omega); have HSZ := Lib.hid hsz; have HB3 := Lib.hid hb3; clear hz hsz hb3) | (go_at_call 21; refine (HMN.out p (Nat.le_of_lt HPP.out.1) w3 (nbl_step HW.out HB3.out) (HS.out.below HB3.out)).mono ?_; rintro e w4 ⟨⟨v, rfl, ho⟩, hk4, hs4⟩; obtain ⟨A, cap, rfl, hcap, hcm, hemp⟩ := id ho.sl; have HO := Lib.hid ho; have HK4 := Lib.hid hk4; have HS4 := Lib.hid hs4; clear ho hk4 hs4 hemp; rw [callsF_len] at *))
      have HSZ4 : Hid (SrcAt w4 z c σ) := Lib.hid (HSZ.out.kbut HK4.out (fun e => HZ.out.2.1 e.symm))
      have HC4 : Hid (ConfAt w4 w.heap.size c) := Lib.hid ((HC.out.step HB3.out).kbut HK4.out (Nat.ne_of_lt HPP.out.1))
      have HW4 : Hid (Below w.heap.size w w4) := Lib.hid ((nbl_step HW.out HB3.out).trans (HK4.out.below (Nat.le_of_lt HPP.out.1) (nbl_step HW.out HB3.out).size))
      have HFI := Lib.hid hF
      clear HB3 HK4 HSZ HC HW HS HMN HMA hF
      generalize w3.heap.size = B at *
      go_loopg [9, 17] 0 (fun gf u9 u17 wx => ∃ m : Nat, u17 = .int .i64 (m : Int) ∧ u9 = .int .u64 (statesF σ m) ∧ m + gf = 0 ∧ ConfAt wx w.heap.size c ∧ SrcAt wx p c (statesF σ 0) ∧ SrcAt wx z c (statesF σ m) ∧ OwnC wx B (.slice A 0 cap) (callsF c σ 0) ∧ Below w.heap.size w wx)
      case atStart => exact ⟨0, rfl, rfl, by omega, HC4.out, HS4.out, HSZ4.out, HO.out, HW4.out⟩
      case round =>
        obtain ⟨m, rfl, rfl, hm6, hC, hSp, hS, hO, hW⟩ := hrel
        have HC := Lib.hid hC
        have HSP := Lib.hid hSp
        have HS := Lib.hid hS
        have HOX := Lib.hid hO
        have HW := Lib.hid hW
        have q0 := hC.c0
        have q1 := hC.c1
        have q2 := hC.c2
        have q3 := hC.c3
        clear hC hS hW hSp hO HC4 HS4 HSZ4 HO HW4
        by_cases hlt : m < 0
        · exact absurd hlt (Nat.not_lt_zero _)
        · have e : m = 0 := by omega
          subst e
          have HS := HSP
          clear HSP HOX
          have hl1 := HLN.out wr (statesF σ 0) HW.out
          have hn1 : ∀ W, Below w.heap.size w W → SrcAt W p c (statesF σ 0) → _ := fun W h1 h2 => HALL.out p (Nat.le_of_lt HPP.out.1) W (statesF σ 0) h1 h2
          obtain ⟨x, hx⟩ : ∃ x, nextF c (statesF σ 0) = x := ⟨_, rfl⟩
          obtain ⟨σ', hσ⟩ : ∃ s', stateF (statesF σ 0) = s' := ⟨_, rfl⟩
          have HSS : Hid (statesF σ (0 + 1) = σ') := Lib.hid hσ
          have HXX : Hid (nextF c (statesF σ 0) = x) := Lib.hid hx
          rw [hx, hσ] at hl1 hn1
          clear hx hσ
          obtain ⟨o, k, t, j, q⟩ := x
          unfold CV.arr at hl1 hn1
          dsimp only at hl1 hn1
          have HL1 := Lib.hid hl1
          have HN1 := Lib.hid hn1
          clear hl1 hn1
          generalize statesF σ 0 = σi at *
          go_wp2_with (first | (go_at_call 27; refine HL1.out.mono ?_; rintro e w3 ⟨rfl, hb3⟩; have HB3 := Lib.hid hb3; have HPW : Hid (p < w3.heap.size) := Lib.hid (Nat.lt_of_lt_of_le HS.out.lt hb3.size); clear hb3) | (go_at_call 22; refine (HN1.out _ (nbl_al (nbl_step HW.out HB3.out)) ((HS.out.below HB3.out).below (below_alloc _ _))).mono ?_; rintro e w6 ⟨rfl, hk6, hs6⟩; have HK6 := Lib.hid hk6; have HS6 := Lib.hid hs6; have f0 := want_kept hk6 HPW.out (.cells #[.int .i64 o, .string k, .string t, .string j, .int .i64 q, .slice none 0 0] 33) (j := 0) rfl; have f1 := want_kept hk6 HPW.out (.cells #[.int .i64 o, .string k, .string t, .string j, .int .i64 q, .slice none 0 0] 33) (j := 1) rfl; have f2 := want_kept hk6 HPW.out (.cells #[.int .i64 o, .string k, .string t, .string j, .int .i64 q, .slice none 0 0] 33) (j := 2) rfl; have f3 := want_kept hk6 HPW.out (.cells #[.int .i64 o, .string k, .string t, .string j, .int .i64 q, .slice none 0 0] 33) (j := 3) rfl; have f4 := want_kept hk6 HPW.out (.cells #[.int .i64 o, .string k, .string t, .string j, .int .i64 q, .slice none 0 0] 33) (j := 4) rfl; have f5 := want_kept hk6 HPW.out (.cells #[.int .i64 o, .string k, .string t, .string j, .int .i64 q, .slice none 0 0] 33) (j := 5) rfl; clear hk6 hs6) | (go_at_call 23; refine (HSM.out _ _ _ _ _ _).mono ?_; rintro e w8 ⟨rfl, hb8⟩; have HB8 := Lib.hid hb8; have HW8 : Hid (Below w.heap.size w w8) := Lib.hid (nbl_step (nbl_al ((nbl_al (nbl_step HW.out HB3.out)).trans (HK6.out.below (Nat.le_of_lt HPP.out.1) (nbl_al (nbl_step HW.out HB3.out)).size))) hb8); clear hb8) | (go_at_call 10; refine (known_yes _ (HE.out.later HW8.out)).mono ?_; rintro e w9 ⟨rfl, hb9⟩; have HB9 := Lib.hid hb9; clear hb9))
          go_ret
          exact ⟨rfl, nbl_step HW8.out HB9.out⟩

set_option maxRecDepth 100000 in
set_option maxHeartbeats 4000000 in
theorem loadMakes_in (w : World) (c : LC) (F : Nat) (hF : F ≤ 100) (n : Nat) (hn : n ≤ 200) (hE : Env w) (hT : Tab w) (hb : okB4 c = true) :
    Calls Tryz.prog 8 #[.agg c.arr, .int .u8 (F : Int), .int .i64 (n : Int)] w fun e w' => e = .returned (.bool true) ∧ Below w.heap.size w w' := by
  have hc := okB4_ok hb
  have HOK := Lib.hid hc
  have HNW : Hid (∀ W, Calls Tryz.prog 20 #[.agg c.arr] W fun e w' => (∃ p, e = .returned (.tuple #[.pointer (some ⟨p, 0, none⟩), .int .i64 0]) ∧ W.heap.size ≤ p ∧ SrcAt w' p c c.seed) ∧ Below W.heap.size W w') := Lib.hid fun W => lnew_any W c hc
  have HLV : Hid (∀ W, Calls Tryz.prog 19 #[.agg c.arr] W fun e w' => e = .returned (.bool true) ∧ Below W.heap.size W w') := Lib.hid fun W => by rw [← hb]; exact lvalid_any W c
  have HLN : Hid (∀ W s, Below w.heap.size w W → Calls Tryz.prog 27 #[.agg c.arr, .int .u64 s] W fun e w' => e = .returned (.tuple #[.agg (nextF c s).arr, .int .u64 (stateF s)]) ∧ Below W.heap.size W w') := Lib.hid fun W s hW => lawnext_any W c s hc (hE.below hW)
  have HALL := Lib.hid (next_all w c hc hT)
  have HSM : Hid (∀ W o k t j q, Calls Tryz.prog 23 #[.agg #[.int .i64 o, .string k, .string t, .string j, .int .i64 q, .slice none 0 0], .agg #[.int .i64 o, .string k, .string t, .string j, .int .i64 q, .slice none 0 0]] W fun e w' => e = .returned (.bool true) ∧ Below W.heap.size W w') := Lib.hid fun W o k t j q => same_eq W ⟨o, k, t, j, q⟩
  have HE := Lib.hid hE
  have HCN : Hid (∀ W : World, ConfAt (W.alloc (.cells #[.int .u64 c.seed, .int .i64 c.keys, .int .i64 c.items, .int .i64 c.reads] 57)) W.heap.size c) := Lib.hid fun W => ConfAt.new W c _
  clear hE hb hT
  unfold LC.arr at HNW HLV HLN ⊢
  have HMA : Hid (∀ σ p, w.heap.size ≤ p → ∀ W, Below w.heap.size w W → SrcAt W p c σ → Calls Tryz.prog 21 #[.pointer (some ⟨p, 0, none⟩), .int .i64 (n : Int)] W fun e w' => (∃ v, e = .returned (.tuple #[v, .int .i64 0]) ∧ OwnC w' W.heap.size v (callsF c σ n)) ∧ Kbut p W w' ∧ SrcAt w' p c (statesF σ n)) := Lib.hid fun σ p hp W hW hS => many_all hc HALL.out hp hW hS n (by omega)
  clear hc
  have d2 : decide ((200 : Int) < (n : Int)) = false := decide_eq_false (by omega)
  have d4 : decide ((n : Int) < 0) = false := decide_eq_false (by omega)
  have d5 : decide ((20000 : Int) < (n : Int)) = false := decide_eq_false (by omega)
  have d1 : decide ((100 : Int) < (F : Int)) = false := decide_eq_false (by omega)
  go_enter Tryz.func8, Tryz.ntmps8
  go_wp2_with (first | (go_at_call 20; refine (HNW.out _).mono ?_; rintro e w1 ⟨⟨p, rfl, hp1, hs1⟩, hb1⟩; have HP1 := Lib.hid hp1; have HS1 := Lib.hid hs1; have HB1 := Lib.hid hb1; have hcf := (HCN.out w).below hb1 (by simp); have HCF1 := Lib.hid hcf; have q0 := hcf.c0; have q1 := hcf.c1; have q2 := hcf.c2; have q3 := hcf.c3; clear hcf hb1 hs1 hp1) | (go_at_call 19; refine (HLV.out _).mono ?_; rintro e w2 ⟨rfl, hb2⟩; have HB2 := Lib.hid hb2; have r0 : w2.cell? ⟨w.heap.size, 0, none⟩ = some (.int .u64 c.seed) := cell_below hb2 q0; clear hb2))
  clear q0 q1 q2 q3 r0
  have HPP : Hid (w.heap.size < p ∧ p < w2.heap.size) := Lib.hid (by
    have h1 := HP1.out
    have h2 := HS1.out.lt
    have h3 := HB2.out.size
    have h4 : (w.alloc (.cells #[.int .u64 c.seed, .int .i64 c.keys, .int .i64 c.items, .int .i64 c.reads] 57)).heap.size = w.heap.size + 1 := Array.size_push _
    omega)
  have HB0 : Hid (Below w.heap.size w w2) := Lib.hid (nbl_step (nbl_step (below_alloc _ _) HB1.out) HB2.out)
  have HC0 : Hid (ConfAt w2 w.heap.size c) := Lib.hid (HCF1.out.below HB2.out HCF1.out.lt)
  have HS0 : Hid (SrcAt w2 p c c.seed) := Lib.hid (HS1.out.below HB2.out)
  clear HP1 HS1 HB1 HCF1 HB2 HNW HLV
  go_loopg [9, 10] F (fun gf u9 u10 wx => ∃ i : Nat, u10 = .int .i64 (i : Int) ∧ u9 = .int .u64 (statesF c.seed i) ∧ i + gf = F ∧ ConfAt wx w.heap.size c ∧ SrcAt wx p c (statesF c.seed i) ∧ Below w.heap.size w wx)
  case atStart => exact ⟨0, rfl, rfl, by omega, HC0.out, HS0.out, HB0.out⟩
  case round =>
    obtain ⟨i, rfl, rfl, hi, hC, hS, hW⟩ := hrel
    have HC := Lib.hid hC
    have HS := Lib.hid hS
    have HW := Lib.hid hW
    have q0 := hC.c0
    have q1 := hC.c1
    have q2 := hC.c2
    have q3 := hC.c3
    clear hC hS hW
    by_cases hlt : i < F
    · obtain ⟨g', rfl⟩ : ∃ g', gk = g' + 1 := ⟨gk - 1, by omega⟩
      have hl1 := HLN.out wr (statesF c.seed i) HW.out
      have hn1 : ∀ W, Below w.heap.size w W → SrcAt W p c (statesF c.seed i) → _ := fun W h1 h2 => HALL.out p (Nat.le_of_lt HPP.out.1) W (statesF c.seed i) h1 h2
      obtain ⟨x, hx⟩ : ∃ x, nextF c (statesF c.seed i) = x := ⟨_, rfl⟩
      obtain ⟨σ', hσ⟩ : ∃ s', stateF (statesF c.seed i) = s' := ⟨_, rfl⟩
      have HSS : Hid (statesF c.seed (i + 1) = σ') := Lib.hid hσ
      have HXX : Hid (nextF c (statesF c.seed i) = x) := Lib.hid hx
      rw [hx, hσ] at hl1 hn1
      clear hx hσ
      obtain ⟨o, k, t, j, q⟩ := x
      unfold CV.arr at hl1 hn1
      dsimp only at hl1 hn1
      have HL1 := Lib.hid hl1
      have HN1 := Lib.hid hn1
      clear hl1 hn1
      generalize statesF c.seed i = σi at *
      go_wp2_with (first | (go_at_call 27; refine HL1.out.mono ?_; rintro e w3 ⟨rfl, hb3⟩; have HB3 := Lib.hid hb3; have HPW : Hid (p < w3.heap.size) := Lib.hid (Nat.lt_of_lt_of_le HS.out.lt hb3.size); clear hb3) | (go_at_call 22; refine (HN1.out _ (nbl_al (nbl_step HW.out HB3.out)) ((HS.out.below HB3.out).below (below_alloc _ _))).mono ?_; rintro e w6 ⟨rfl, hk6, hs6⟩; have HK6 := Lib.hid hk6; have HS6 := Lib.hid hs6; have f0 := want_kept hk6 HPW.out (.cells #[.int .i64 o, .string k, .string t, .string j, .int .i64 q, .slice none 0 0] 33) (j := 0) rfl; have f1 := want_kept hk6 HPW.out (.cells #[.int .i64 o, .string k, .string t, .string j, .int .i64 q, .slice none 0 0] 33) (j := 1) rfl; have f2 := want_kept hk6 HPW.out (.cells #[.int .i64 o, .string k, .string t, .string j, .int .i64 q, .slice none 0 0] 33) (j := 2) rfl; have f3 := want_kept hk6 HPW.out (.cells #[.int .i64 o, .string k, .string t, .string j, .int .i64 q, .slice none 0 0] 33) (j := 3) rfl; have f4 := want_kept hk6 HPW.out (.cells #[.int .i64 o, .string k, .string t, .string j, .int .i64 q, .slice none 0 0] 33) (j := 4) rfl; have f5 := want_kept hk6 HPW.out (.cells #[.int .i64 o, .string k, .string t, .string j, .int .i64 q, .slice none 0 0] 33) (j := 5) rfl; clear hk6 hs6) | (go_at_call 23; refine (HSM.out _ _ _ _ _ _).mono ?_; rintro e w8 ⟨rfl, hb8⟩; have HB8 := Lib.hid hb8; clear hb8))
      go_roundg g'
      case measure => omega
      case rel =>
        have hba := (below_alloc w6 (.cells #[.int .i64 o, .string k, .string t, .string j, .int .i64 q, .slice none 0 0] 33))
        have hkb : Below w.heap.size (w3.alloc (.cells #[.int .i64 o, .string k, .string t, .string j, .int .i64 q, .slice none 0 0] 33)) w6 := HK6.out.below (Nat.le_of_lt HPP.out.1) (nbl_al (nbl_step HW.out HB3.out)).size
        have hcc : ConfAt w8 w.heap.size c := (((((HC.out.step HB3.out).step (below_alloc _ _)).kbut HK6.out (Nat.ne_of_lt HPP.out.1)).step hba).step HB8.out)
        have hww : Below w.heap.size w w8 := nbl_step (nbl_step ((nbl_al (nbl_step HW.out HB3.out)).trans hkb) hba) HB8.out
        exact ⟨i + 1, by go_num, by rw [HSS.out], by omega, hcc, by rw [HSS.out]; exact (HS6.out.below hba).below HB8.out, hww⟩
    · have e : i = F := by omega
      subst e
      clear HC0 HS0 HB0
      have HMN := Lib.hid (HMA.out (statesF c.seed i))
      generalize statesF c.seed i = σ at *
      go_wp2_with (first | (go_at_call 28; refine (copy_any _ p c σ HOK.out HS.out).mono ?_; rintro e w3 ⟨⟨z, rfl, hz, hsz⟩, hb3⟩; have HZ : Hid (w.heap.size < z ∧ p ≠ z ∧ z < w3.heap.size ∧ p < w3.heap.size) := Lib.hid (by have h1 := HPP.out; have h2 := HS.out.lt; have h3 := hsz.lt; have h4 := hb3.size; omega); have HSZ := Lib.hid hsz; have HB3 := Lib.hid hb3; clear hz hsz hb3) | (go_at_call 21; refine (HMN.out p (Nat.le_of_lt HPP.out.1) w3 (nbl_step HW.out HB3.out) (HS.out.below HB3.out)).mono ?_; rintro e w4 ⟨⟨v, rfl, ho⟩, hk4, hs4⟩; obtain ⟨A, cap, rfl, hcap, hcm, hemp⟩ := id ho.sl; have HO := Lib.hid ho; have HK4 := Lib.hid hk4; have HS4 := Lib.hid hs4; clear ho hk4 hs4 hemp; rw [callsF_len] at *))
      have HSZ4 : Hid (SrcAt w4 z c σ) := Lib.hid (HSZ.out.kbut HK4.out (fun e => HZ.out.2.1 e.symm))
      have HC4 : Hid (ConfAt w4 w.heap.size c) := Lib.hid ((HC.out.step HB3.out).kbut HK4.out (Nat.ne_of_lt HPP.out.1))
      have HW4 : Hid (Below w.heap.size w w4) := Lib.hid ((nbl_step HW.out HB3.out).trans (HK4.out.below (Nat.le_of_lt HPP.out.1) (nbl_step HW.out HB3.out).size))
      have HFI := Lib.hid hF
      clear HB3 HK4 HSZ HC HW HS HMN HMA hF
      generalize w3.heap.size = B at *
      go_loopg [9, 17] n (fun gf u9 u17 wx => ∃ m : Nat, u17 = .int .i64 (m : Int) ∧ u9 = .int .u64 (statesF σ m) ∧ m + gf = n ∧ ConfAt wx w.heap.size c ∧ SrcAt wx p c (statesF σ n) ∧ SrcAt wx z c (statesF σ m) ∧ OwnC wx B (.slice A n cap) (callsF c σ n) ∧ Below w.heap.size w wx)
      case atStart => exact ⟨0, rfl, rfl, by omega, HC4.out, HS4.out, HSZ4.out, HO.out, HW4.out⟩
      case round =>
        obtain ⟨m, rfl, rfl, hm6, hC, hSp, hS, hO, hW⟩ := hrel
        have HC := Lib.hid hC
        have HSP := Lib.hid hSp
        have HS := Lib.hid hS
        have HOX := Lib.hid hO
        have HW := Lib.hid hW
        have q0 := hC.c0
        have q1 := hC.c1
        have q2 := hC.c2
        have q3 := hC.c3
        clear hC hS hW hSp hO HC4 HS4 HSZ4 HO HW4
        by_cases hlt : m < n
        · obtain ⟨g', rfl⟩ : ∃ g', gk = g' + 1 := ⟨gk - 1, by omega⟩
          have hrow := callsF_at c σ hlt
          have hl1 := HLN.out wr (statesF σ m) HW.out
          have hn1 : ∀ W, Below w.heap.size w W → SrcAt W z c (statesF σ m) → _ := fun W h1 h2 => HALL.out z (Nat.le_of_lt HZ.out.1) W (statesF σ m) h1 h2
          obtain ⟨x, hx⟩ : ∃ x, nextF c (statesF σ m) = x := ⟨_, rfl⟩
          obtain ⟨σ', hσ⟩ : ∃ s', stateF (statesF σ m) = s' := ⟨_, rfl⟩
          have HSS : Hid (statesF σ (m + 1) = σ') := Lib.hid hσ
          have HXX : Hid (nextF c (statesF σ m) = x) := Lib.hid hx
          rw [hx, hσ] at hl1 hn1
          rw [hx] at hrow
          clear hx hσ
          obtain ⟨o, k, t, j, q⟩ := x
          unfold CV.arr at hl1 hn1
          dsimp only at hl1 hn1
          have HL1 := Lib.hid hl1
          have HN1 := Lib.hid hn1
          clear hl1 hn1
          obtain ⟨g, rfl, hg1, hg2, hgc⟩ := OwnC.row HOX.out hrow
          have HGC := Lib.hid hgc
          have HGG : Hid (B ≤ g ∧ g < wr.heap.size) := Lib.hid ⟨hg1, hg2⟩
          clear hrow hgc hg1 hg2
          generalize statesF σ m = σi at *
          go_wp2_with (first | (go_at_call 27; refine HL1.out.mono ?_; rintro e w3 ⟨rfl, hb3⟩; have HB3 := Lib.hid hb3; have HPW : Hid (z < w3.heap.size) := Lib.hid (Nat.lt_of_lt_of_le HS.out.lt hb3.size); clear hb3) | (go_at_call 22; refine (HN1.out _ (nbl_al (nbl_step HW.out HB3.out)) ((HS.out.below HB3.out).below (below_alloc _ _))).mono ?_; rintro e w6 ⟨rfl, hk6, hs6⟩; have HK6 := Lib.hid hk6; have HS6 := Lib.hid hs6; have f0 := want_kept hk6 HPW.out (.cells #[.int .i64 o, .string k, .string t, .string j, .int .i64 q, .slice none 0 0] 33) (j := 0) rfl; have f1 := want_kept hk6 HPW.out (.cells #[.int .i64 o, .string k, .string t, .string j, .int .i64 q, .slice none 0 0] 33) (j := 1) rfl; have f2 := want_kept hk6 HPW.out (.cells #[.int .i64 o, .string k, .string t, .string j, .int .i64 q, .slice none 0 0] 33) (j := 2) rfl; have f3 := want_kept hk6 HPW.out (.cells #[.int .i64 o, .string k, .string t, .string j, .int .i64 q, .slice none 0 0] 33) (j := 3) rfl; have f4 := want_kept hk6 HPW.out (.cells #[.int .i64 o, .string k, .string t, .string j, .int .i64 q, .slice none 0 0] 33) (j := 4) rfl; have f5 := want_kept hk6 HPW.out (.cells #[.int .i64 o, .string k, .string t, .string j, .int .i64 q, .slice none 0 0] 33) (j := 5) rfl; have HGL : Hid (g < (w3.alloc (.cells #[.int .i64 o, .string k, .string t, .string j, .int .i64 q, .slice none 0 0] 33)).heap.size ∧ g ≠ z) := Lib.hid ⟨Nat.lt_of_lt_of_le HGG.out.2 (nbl_al HB3.out).size, by have h1 := HGG.out; have h2 := HZ.out; omega⟩; have fa0 : (w6.alloc (.cells #[.int .i64 o, .string k, .string t, .string j, .int .i64 q, .slice none 0 0] 33)).cell? ⟨w6.heap.size, 0, none⟩ = some (.int .i64 o) := new_cells w6 _ _ 0; have fa1 : (w6.alloc (.cells #[.int .i64 o, .string k, .string t, .string j, .int .i64 q, .slice none 0 0] 33)).cell? ⟨w6.heap.size, 1, none⟩ = some (.string k) := new_cells w6 _ _ 1; have fa2 : (w6.alloc (.cells #[.int .i64 o, .string k, .string t, .string j, .int .i64 q, .slice none 0 0] 33)).cell? ⟨w6.heap.size, 2, none⟩ = some (.string t) := new_cells w6 _ _ 2; have fa3 : (w6.alloc (.cells #[.int .i64 o, .string k, .string t, .string j, .int .i64 q, .slice none 0 0] 33)).cell? ⟨w6.heap.size, 3, none⟩ = some (.string j) := new_cells w6 _ _ 3; have fa4 : (w6.alloc (.cells #[.int .i64 o, .string k, .string t, .string j, .int .i64 q, .slice none 0 0] 33)).cell? ⟨w6.heap.size, 4, none⟩ = some (.int .i64 q) := new_cells w6 _ _ 4; have fa5 : (w6.alloc (.cells #[.int .i64 o, .string k, .string t, .string j, .int .i64 q, .slice none 0 0] 33)).cell? ⟨w6.heap.size, 5, none⟩ = some (.slice none 0 0) := new_cells w6 _ _ 5; have fc0 : (w6.alloc (.cells #[.int .i64 o, .string k, .string t, .string j, .int .i64 q, .slice none 0 0] 33)).cell? ⟨g, m * 6, none⟩ = some (.int .i64 o) := cell_below (below_alloc _ _) ((hk6.cell (q := ⟨g, m * 6, none⟩) HGL.out.1 HGL.out.2).trans (cell_below (below_alloc _ _) (cell_below HB3.out (HGC.out 0 _ rfl)))); have fc1 : (w6.alloc (.cells #[.int .i64 o, .string k, .string t, .string j, .int .i64 q, .slice none 0 0] 33)).cell? ⟨g, m * 6 + 1, none⟩ = some (.string k) := cell_below (below_alloc _ _) ((hk6.cell (q := ⟨g, m * 6 + 1, none⟩) HGL.out.1 HGL.out.2).trans (cell_below (below_alloc _ _) (cell_below HB3.out (HGC.out 1 _ rfl)))); have fc2 : (w6.alloc (.cells #[.int .i64 o, .string k, .string t, .string j, .int .i64 q, .slice none 0 0] 33)).cell? ⟨g, m * 6 + 2, none⟩ = some (.string t) := cell_below (below_alloc _ _) ((hk6.cell (q := ⟨g, m * 6 + 2, none⟩) HGL.out.1 HGL.out.2).trans (cell_below (below_alloc _ _) (cell_below HB3.out (HGC.out 2 _ rfl)))); have fc3 : (w6.alloc (.cells #[.int .i64 o, .string k, .string t, .string j, .int .i64 q, .slice none 0 0] 33)).cell? ⟨g, m * 6 + 3, none⟩ = some (.string j) := cell_below (below_alloc _ _) ((hk6.cell (q := ⟨g, m * 6 + 3, none⟩) HGL.out.1 HGL.out.2).trans (cell_below (below_alloc _ _) (cell_below HB3.out (HGC.out 3 _ rfl)))); have fc4 : (w6.alloc (.cells #[.int .i64 o, .string k, .string t, .string j, .int .i64 q, .slice none 0 0] 33)).cell? ⟨g, m * 6 + 4, none⟩ = some (.int .i64 q) := cell_below (below_alloc _ _) ((hk6.cell (q := ⟨g, m * 6 + 4, none⟩) HGL.out.1 HGL.out.2).trans (cell_below (below_alloc _ _) (cell_below HB3.out (HGC.out 4 _ rfl)))); have fc5 : (w6.alloc (.cells #[.int .i64 o, .string k, .string t, .string j, .int .i64 q, .slice none 0 0] 33)).cell? ⟨g, m * 6 + 5, none⟩ = some (.slice none 0 0) := cell_below (below_alloc _ _) ((hk6.cell (q := ⟨g, m * 6 + 5, none⟩) HGL.out.1 HGL.out.2).trans (cell_below (below_alloc _ _) (cell_below HB3.out (HGC.out 5 _ rfl)))); clear hk6 hs6))
          go_region_held3 (fun w' => w'.cell? ⟨w6.heap.size, 0, none⟩ = some (.int .i64 o) ∧ w'.cell? ⟨w6.heap.size, 1, none⟩ = some (.string k) ∧ w'.cell? ⟨w6.heap.size, 2, none⟩ = some (.string t) ∧ w'.cell? ⟨w6.heap.size, 3, none⟩ = some (.string j) ∧ w'.cell? ⟨w6.heap.size, 4, none⟩ = some (.int .i64 q) ∧ w'.cell? ⟨w6.heap.size, 5, none⟩ = some (.slice none 0 0) ∧ w'.cell? ⟨w3.heap.size, 0, none⟩ = some (.int .i64 o) ∧ w'.cell? ⟨w3.heap.size, 1, none⟩ = some (.string k) ∧ w'.cell? ⟨w3.heap.size, 2, none⟩ = some (.string t) ∧ w'.cell? ⟨w3.heap.size, 3, none⟩ = some (.string j) ∧ w'.cell? ⟨w3.heap.size, 4, none⟩ = some (.int .i64 q) ∧ w'.cell? ⟨w3.heap.size, 5, none⟩ = some (.slice none 0 0) ∧ w'.cell? ⟨g, m * 6, none⟩ = some (.int .i64 o) ∧ w'.cell? ⟨g, m * 6 + 1, none⟩ = some (.string k) ∧ w'.cell? ⟨g, m * 6 + 2, none⟩ = some (.string t) ∧ w'.cell? ⟨g, m * 6 + 3, none⟩ = some (.string j) ∧ w'.cell? ⟨g, m * 6 + 4, none⟩ = some (.int .i64 q) ∧ w'.cell? ⟨g, m * 6 + 5, none⟩ = some (.slice none 0 0)) (go_keep) (first | (go_at_call 23; refine (HSM.out _ _ _ _ _ _).mono ?_; rintro e w8 ⟨rfl, hb8⟩; have HB8 := Lib.hid hb8; have ma0 : w8.cell? ⟨w6.heap.size, 0, none⟩ = some (.int .i64 o) := (by first | exact cell_below hb8 fa0 | exact cell_below hb8 ma0); have ma1 : w8.cell? ⟨w6.heap.size, 1, none⟩ = some (.string k) := (by first | exact cell_below hb8 fa1 | exact cell_below hb8 ma1); have ma2 : w8.cell? ⟨w6.heap.size, 2, none⟩ = some (.string t) := (by first | exact cell_below hb8 fa2 | exact cell_below hb8 ma2); have ma3 : w8.cell? ⟨w6.heap.size, 3, none⟩ = some (.string j) := (by first | exact cell_below hb8 fa3 | exact cell_below hb8 ma3); have ma4 : w8.cell? ⟨w6.heap.size, 4, none⟩ = some (.int .i64 q) := (by first | exact cell_below hb8 fa4 | exact cell_below hb8 ma4); have ma5 : w8.cell? ⟨w6.heap.size, 5, none⟩ = some (.slice none 0 0) := (by first | exact cell_below hb8 fa5 | exact cell_below hb8 ma5); have mb0 : w8.cell? ⟨w3.heap.size, 0, none⟩ = some (.int .i64 o) := (by first | exact cell_below hb8 f0 | exact cell_below hb8 mb0); have mb1 : w8.cell? ⟨w3.heap.size, 1, none⟩ = some (.string k) := (by first | exact cell_below hb8 f1 | exact cell_below hb8 mb1); have mb2 : w8.cell? ⟨w3.heap.size, 2, none⟩ = some (.string t) := (by first | exact cell_below hb8 f2 | exact cell_below hb8 mb2); have mb3 : w8.cell? ⟨w3.heap.size, 3, none⟩ = some (.string j) := (by first | exact cell_below hb8 f3 | exact cell_below hb8 mb3); have mb4 : w8.cell? ⟨w3.heap.size, 4, none⟩ = some (.int .i64 q) := (by first | exact cell_below hb8 f4 | exact cell_below hb8 mb4); have mb5 : w8.cell? ⟨w3.heap.size, 5, none⟩ = some (.slice none 0 0) := (by first | exact cell_below hb8 f5 | exact cell_below hb8 mb5); have mc0 : w8.cell? ⟨g, m * 6, none⟩ = some (.int .i64 o) := (by first | exact cell_below hb8 fc0 | exact cell_below hb8 mc0); have mc1 : w8.cell? ⟨g, m * 6 + 1, none⟩ = some (.string k) := (by first | exact cell_below hb8 fc1 | exact cell_below hb8 mc1); have mc2 : w8.cell? ⟨g, m * 6 + 2, none⟩ = some (.string t) := (by first | exact cell_below hb8 fc2 | exact cell_below hb8 mc2); have mc3 : w8.cell? ⟨g, m * 6 + 3, none⟩ = some (.string j) := (by first | exact cell_below hb8 fc3 | exact cell_below hb8 mc3); have mc4 : w8.cell? ⟨g, m * 6 + 4, none⟩ = some (.int .i64 q) := (by first | exact cell_below hb8 fc4 | exact cell_below hb8 mc4); have mc5 : w8.cell? ⟨g, m * 6 + 5, none⟩ = some (.slice none 0 0) := (by first | exact cell_below hb8 fc5 | exact cell_below hb8 mc5); have HBS : Hid (Below (w6.alloc (.cells #[.int .i64 o, .string k, .string t, .string j, .int .i64 q, .slice none 0 0] 33)).heap.size (w6.alloc (.cells #[.int .i64 o, .string k, .string t, .string j, .int .i64 q, .slice none 0 0] 33)) w8) := Lib.hid (by first | exact nbl_step (Below.refl _ _).drew hb8 | exact nbl_step (nbl_drewN (Below.refl _ _)) hb8 | exact hb8 | exact nbl_step HBS.out.drew hb8 | exact nbl_step (nbl_drewN HBS.out) hb8 | exact nbl_step HBS.out hb8); clear hb8) | fail)
          go_wp2_with fail
          go_roundg g'
          case measure => omega
          case rel =>
            have hba := (below_alloc w6 (.cells #[.int .i64 o, .string k, .string t, .string j, .int .i64 q, .slice none 0 0] 33))
            have hkb : Below w.heap.size (w3.alloc (.cells #[.int .i64 o, .string k, .string t, .string j, .int .i64 q, .slice none 0 0] 33)) w6 := HK6.out.below (Nat.le_of_lt HZ.out.1) (nbl_al (nbl_step HW.out HB3.out)).size
            have hcc : ConfAt w8 w.heap.size c := (((((HC.out.step HB3.out).step (below_alloc _ _)).kbut HK6.out (Nat.ne_of_lt HZ.out.1)).step hba).step HBS.out)
            have hpp : SrcAt w8 p c (statesF σ n) := ((((HSP.out.below HB3.out).below (below_alloc _ _)).kbut HK6.out HZ.out.2.1).below hba).below HBS.out
            have hoo : OwnC w8 B (.slice (some ⟨g, 0, none⟩) n cap) (callsF c σ n) := OwnC.below (OwnC.below (OwnC.kbut (OwnC.below (OwnC.below HOX.out HB3.out) (below_alloc _ _)) HK6.out HZ.out.2.2.1) hba) HBS.out
            have hww : Below w.heap.size w w8 := nbl_step (nbl_step ((nbl_al (nbl_step HW.out HB3.out)).trans hkb) hba) HBS.out
            exact ⟨m + 1, by first | rfl | go_num, by rw [HSS.out], by omega, hcc, hpp, by rw [HSS.out]; exact (HS6.out.below hba).below HBS.out, hoo, hww⟩
        · have e : m = n := by omega
          subst e
          have HS := HSP
          clear HSP HOX
          have hl1 := HLN.out wr (statesF σ m) HW.out
          have hn1 : ∀ W, Below w.heap.size w W → SrcAt W p c (statesF σ m) → _ := fun W h1 h2 => HALL.out p (Nat.le_of_lt HPP.out.1) W (statesF σ m) h1 h2
          obtain ⟨x, hx⟩ : ∃ x, nextF c (statesF σ m) = x := ⟨_, rfl⟩
          obtain ⟨σ', hσ⟩ : ∃ s', stateF (statesF σ m) = s' := ⟨_, rfl⟩
          have HSS : Hid (statesF σ (m + 1) = σ') := Lib.hid hσ
          have HXX : Hid (nextF c (statesF σ m) = x) := Lib.hid hx
          rw [hx, hσ] at hl1 hn1
          clear hx hσ
          obtain ⟨o, k, t, j, q⟩ := x
          unfold CV.arr at hl1 hn1
          dsimp only at hl1 hn1
          have HL1 := Lib.hid hl1
          have HN1 := Lib.hid hn1
          clear hl1 hn1
          generalize statesF σ m = σi at *
          go_wp2_with (first | (go_at_call 27; refine HL1.out.mono ?_; rintro e w3 ⟨rfl, hb3⟩; have HB3 := Lib.hid hb3; have HPW : Hid (p < w3.heap.size) := Lib.hid (Nat.lt_of_lt_of_le HS.out.lt hb3.size); clear hb3) | (go_at_call 22; refine (HN1.out _ (nbl_al (nbl_step HW.out HB3.out)) ((HS.out.below HB3.out).below (below_alloc _ _))).mono ?_; rintro e w6 ⟨rfl, hk6, hs6⟩; have HK6 := Lib.hid hk6; have HS6 := Lib.hid hs6; have f0 := want_kept hk6 HPW.out (.cells #[.int .i64 o, .string k, .string t, .string j, .int .i64 q, .slice none 0 0] 33) (j := 0) rfl; have f1 := want_kept hk6 HPW.out (.cells #[.int .i64 o, .string k, .string t, .string j, .int .i64 q, .slice none 0 0] 33) (j := 1) rfl; have f2 := want_kept hk6 HPW.out (.cells #[.int .i64 o, .string k, .string t, .string j, .int .i64 q, .slice none 0 0] 33) (j := 2) rfl; have f3 := want_kept hk6 HPW.out (.cells #[.int .i64 o, .string k, .string t, .string j, .int .i64 q, .slice none 0 0] 33) (j := 3) rfl; have f4 := want_kept hk6 HPW.out (.cells #[.int .i64 o, .string k, .string t, .string j, .int .i64 q, .slice none 0 0] 33) (j := 4) rfl; have f5 := want_kept hk6 HPW.out (.cells #[.int .i64 o, .string k, .string t, .string j, .int .i64 q, .slice none 0 0] 33) (j := 5) rfl; clear hk6 hs6) | (go_at_call 23; refine (HSM.out _ _ _ _ _ _).mono ?_; rintro e w8 ⟨rfl, hb8⟩; have HB8 := Lib.hid hb8; have HW8 : Hid (Below w.heap.size w w8) := Lib.hid (nbl_step (nbl_al ((nbl_al (nbl_step HW.out HB3.out)).trans (HK6.out.below (Nat.le_of_lt HPP.out.1) (nbl_al (nbl_step HW.out HB3.out)).size))) hb8); clear hb8) | (go_at_call 10; refine (known_yes _ (HE.out.later HW8.out)).mono ?_; rintro e w9 ⟨rfl, hb9⟩; have HB9 := Lib.hid hb9; clear hb9))
          go_ret
          exact ⟨rfl, nbl_step HW8.out HB9.out⟩

end Go.Proofs.YtecnchmcdbcofaaGreatDoor
