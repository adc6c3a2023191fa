/- JournalAppends: many calls, no such configuration. JournalAppends: the loops. -/
import Derived.Test.YtgjbnebmcmoilaaGreatDoorVf
import Derived.Test.YtgjbnebmcmoilaaGreatDoorKa
namespace Go.Proofs.YtgjbnebmcmoilaaGreatDoor
set_option linter.unusedVariables false
set_option linter.unusedSimpArgs false
open Go.RowKit Go.MapKept
set_option maxRecDepth 100000 in
theorem appends_heavy (w : World) (hE : Env1 w) (r s i o : Int) (v : Value) (l : List JC) (h : JSl w v l) (hl : lightB l 30 = false) (at_ cut : Int) :
    Calls Tryz.prog 5 #[.agg #[.int .i64 r, .int .i64 s, .int .i64 i, .int .i64 o], v, .int .u8 at_, .int .i64 cut] w fun e w' => e = .returned (.bool true) ∧ Below w.heap.size w w' := by
  have HL : Hid (∀ W, Below w.heap.size w W → Calls Tryz.prog 16 #[v, .int .i64 30] W fun e w' => e = .returned (.bool false) ∧ w' = W) := Lib.hid fun W hb => by
    have := light_any W v l 30 (by omega) (h.below hb)
    rw [hl] at this
    exact this
  have HE := Lib.hid hE
  clear h hl hE
  go_enter Tryz.func5, Tryz.ntmps5
  go_wp2_with (first | (go_at_call 16; refine (HL.out _ (below_alloc _ _)).mono ?_; rintro e w1 ⟨rfl, hw⟩; obtain rfl := hw.symm; clear hw) | (go_at_call 6; refine (known41_yes _ (HE.out.below (below_alloc _ _))).mono ?_; rintro e w2 ⟨rfl, hb⟩; have HB := Lib.hid (nbl_step (below_alloc _ _) hb); clear hb))
  go_ret
  exact ⟨rfl, HB.out⟩
set_option maxRecDepth 100000 in
set_option maxHeartbeats 2000000 in
theorem appends_bad (w : World) (hE : Env1 w) (r s i o : Int) (v : Value) (l : List JC) (h : JSl w v l) (hl : lightB l 30 = true) (hok : okN r s i o = false) (at_ cut : Int) :
    Calls Tryz.prog 5 #[.agg #[.int .i64 r, .int .i64 s, .int .i64 i, .int .i64 o], v, .int .u8 at_, .int .i64 cut] w fun e w' => e = .returned (.bool true) ∧ Below w.heap.size w w' := by
  have HL : Hid (∀ W, Below w.heap.size w W → Calls Tryz.prog 16 #[v, .int .i64 30] W fun e w' => e = .returned (.bool true) ∧ w' = W) := Lib.hid fun W hb => by
    have := light_any W v l 30 (by omega) (h.below hb)
    rw [hl] at this
    exact this
  have HN := Lib.hid (fun W => jnew_bad W r s i o hok)
  have HH := Lib.hid (fun W => has_bad W r s i o hok)
  have HE := Lib.hid hE
  clear h hl hE hok
  go_enter Tryz.func5, Tryz.ntmps5
  go_wp2_with (first | (go_at_call 16; refine (HL.out _ (below_alloc _ _)).mono ?_; rintro e w1 ⟨rfl, hw⟩; obtain rfl := hw.symm; clear hw) | (go_at_call 7; refine (HN.out _).mono ?_; rintro e w2 ⟨rfl, hb⟩; have HB2 := Lib.hid (nbl_step (below_alloc _ _) hb); have q0 : w2.cell? ⟨w.heap.size, 0, none⟩ = some (.int .i64 r) := cell_below hb (new_cells w _ _ 0); have q1 : w2.cell? ⟨w.heap.size, 1, none⟩ = some (.int .i64 s) := cell_below hb (new_cells w _ _ 1); have q2 : w2.cell? ⟨w.heap.size, 2, none⟩ = some (.int .i64 i) := cell_below hb (new_cells w _ _ 2); have q3 : w2.cell? ⟨w.heap.size, 3, none⟩ = some (.int .i64 o) := cell_below hb (new_cells w _ _ 3); clear hb) | (go_at_call 17; refine (HH.out _).mono ?_; rintro e w3 ⟨rfl, hb⟩; have HB3 := Lib.hid (nbl_step HB2.out hb); clear hb) | (go_at_call 6; refine (known41_yes _ (HE.out.below HB3.out)).mono ?_; rintro e w4 ⟨rfl, hb⟩; have HB4 := Lib.hid (nbl_step HB3.out hb); clear hb))
  go_ret
  exact ⟨rfl, HB4.out⟩
end Go.Proofs.YtgjbnebmcmoilaaGreatDoor
namespace Go.Proofs.YtgjbnebmcmoilaaGreatDoor
set_option linter.unusedVariables false
set_option linter.unusedSimpArgs false
open Go.RowKit Go.MapKept
theorem sep_new {lo p pm : Nat} (h : p ≠ pm) : Sep lo p pm (.slice none 0 0) (.slice none 0 0) (.slice none 0 0) (.slice none 0 0) [] [] :=
  ⟨h, by simp [Value.ownBlock], by simp [Value.ownBlock], fun x hx => (by cases hx), fun g hg => (by cases hg), fun g hg => (by cases hg), fun x hx => (by cases hx)⟩
theorem law_start {w w1 w2 w3 : World} {p pm : Nat} {r s i o s0 : Int} (hb1 : Below w.heap.size w w1) (hj : JrAt w2 w1.heap.size p r s i o [] s0 [] (.slice none 0 0) (.slice none 0 0)) (hb2 : Below w2.heap.size w2 w3) (w4 : World) (hm : MdAt w4 w3.heap.size pm r s i o [] s0 [] (.slice none 0 0) (.slice none 0 0)) (hb3 : Below w3.heap.size w3 w4) (hw2 : Below w.heap.size w w2) : LawS w w4 p pm r s i o s0 [] [] := by
  have h1 := hj.lt
  have h2 := hm.le
  have h3 := hb2.size
  exact ⟨_, _, _, _, [], [], ⟨((hj.below hb2).below hb3).base hb1.size, hm.base (Nat.le_trans hw2.size hb2.size), rfl, rfl, sep_new (by omega), nbl_step (nbl_step hw2 hb2) hb3, fun κ hκ => (by cases hκ), fun κ hκ => (by cases hκ)⟩⟩
def getJ : JC := ⟨4, 0, ⟨#[107]⟩, ⟨#[]⟩, ⟨#[]⟩, none, 0, 0, []⟩
theorem get_ok : KeyOk getJ.key := ⟨by kernel_rfl, by decide, by decide, by decide, by decide⟩
theorem get_bat (W : World) : BAt W (.slice getJ.A getJ.n getJ.c) getJ.d := OwnB.sl (B := W.heap.size) (nown_none _ _ _ _)
structure ArgC (w : World) (x : JC) : Prop where
  bat : BAt w (.slice x.A x.n x.c) x.d
  lt : ∀ a, x.A = some a → 0 < x.n → a.block < w.heap.size
theorem key_ok {w : World} {x : JC} (h : ArgC w x) (hs : x.small = true) (hv : validB x.o x.q x.k x.t x.j x.n = true) : KeyOk x.key := by
  have hn := bat_len h.bat
  have h4 := (JC.small_iff x).1 hs
  exact ⟨by unfold JC.key; dsimp only; rw [← hn]; exact hv, h4.1, h4.2.1, h4.2.2.1, by unfold JC.key; dsimp only; omega⟩
theorem law_cut {W0 wr w9 w10 : World} {p pm p9 pn : Nat} {r s i o s0 : Int} {ks : List Key} {dv cv dm cm : Value} {lj lm lo : List JC} {dv9 cv9 : Value} {c : Nat} (hX : LawX W0 wr p pm r s i o s0 ks ks dv cv dm cm lj lm) (hj : JrAt w9 wr.heap.size p9 r s i o (jst s0 ((lj.take c).map JC.key)).1 (jst s0 ((lj.take c).map JC.key)).2 lo dv9 cv9) (hk : lo.map JC.key = (lj.take c).map JC.key) (hb9 : Below wr.heap.size wr w9)
    (hm : MdAt w10 w9.heap.size pn r s i o [] s0 [] (.slice none 0 0) (.slice none 0 0)) (hb10 : Below w9.heap.size w9 w10) : LawS W0 w10 p9 pn r s i o s0 (ks.take c) [] := by
  have e : (lj.take c).map JC.key = ks.take c := by rw [List.map_take, hX.jk]
  rw [e] at hj hk
  have hpn := hm.le
  have hp9 := hj.lt
  refine ⟨dv9, cv9, _, _, lo, [], ⟨(hj.below hb10).base hX.bel.size, hm.base (Nat.le_trans hX.bel.size hb9.size), hk, rfl, ⟨by omega, fun e => ?_, fun e => ?_, fun x hx a ha => ?_, fun g hg => (by cases hg), fun g hg => (by cases hg), fun x hx => (by cases hx)⟩, nbl_step (nbl_step hX.bel hb9) hb10, fun κ hκ => hX.ok1 κ (List.mem_of_mem_take hκ), fun κ hκ => (by cases hκ)⟩⟩
  · have := (nown_block hj.dat e).2
    omega
  · have := (nown_block hj.cls e).2
    omega
  · have := ((hj.each x hx).2 a ha).1
    omega
end Go.Proofs.YtgjbnebmcmoilaaGreatDoor
