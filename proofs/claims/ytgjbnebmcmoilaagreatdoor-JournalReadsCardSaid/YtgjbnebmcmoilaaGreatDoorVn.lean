/- The law's right: its state. JournalReads: the model alone; parts of its bytes. JournalReads: long bytes, many calls, no such configuration. -/
import Derived.Test.YtgjbnebmcmoilaaGreatDoorVm
import Derived.Test.YtgjbnebmcmoilaaGreatDoorVg
namespace Go.Proofs.YtgjbnebmcmoilaaGreatDoor
set_option linter.unusedVariables false
set_option linter.unusedSimpArgs false
open Go.RowKit Go.MapKept
/-- A journal and its model that lie from B on, and bytes below B. -/
structure RtI (w W : World) (B pj pm : Nat) (r s i o : Int) (data : Bs) (sum : Int) (lj lm : List JC) (dj cj dm cm : Value) (ov : Value) (n : Nat) : Prop where
  j : JrAt W B pj r s i o data sum lj dj cj
  m : MdAt W B pm r s i o data sum lm dm cm
  fj : ∀ x ∈ lj, ∀ a, x.A = some a → B ≤ a.block
  fm : ∀ x ∈ lm, ∀ a, x.A = some a → B ≤ a.block
  lo : ∀ g, ov.ownBlock = some g → g < B
  own : Shp W w.heap.size ov n
  bel : Below w.heap.size w W
theorem RtI.below {w W W' : World} {B pj pm : Nat} {r s i o : Int} {data : Bs} {sum : Int} {lj lm : List JC} {dj cj dm cm : Value} {ov : Value} {n : Nat} (h : RtI w W B pj pm r s i o data sum lj lm dj cj dm cm ov n) (hb : Below W.heap.size W W') : RtI w W' B pj pm r s i o data sum lj lm dj cj dm cm ov n :=
  ⟨h.j.below hb, h.m.below hb, h.fj, h.fm, h.lo, h.own.below hb, nbl_step h.bel hb⟩
theorem RtI.poke {w W : World} {B pj pm : Nat} {r s i o : Int} {data : Bs} {sum : Int} {lj lm : List JC} {dj cj dm cm : Value} {ov : Value} {n : Nat} (h : RtI w W B pj pm r s i o data sum lj lm dj cj dm cm ov n) {g : Nat} (hg : ov.ownBlock = some g) (k : Nat) (X : Int) (h0 : 0 ≤ X) (h1 : X < 256) : RtI w (W.setCell ⟨g, k, none⟩ (.int .u8 X)) B pj pm r s i o data sum lj lm dj cj dm cm ov n := by
  have hlo := h.lo g hg
  have hpj := h.j.le
  have hpm := h.m.le
  have hk : Kbut g W (W.setCell ⟨g, k, none⟩ (.int .u8 X)) := Kbut.set g k W _
  obtain ⟨d, hl, ho⟩ := id h.own
  refine ⟨h.j.kbut hk (by omega) (fun e => ?_) (fun e => ?_) (fun x hx a ha => ?_), h.m.kjr (p := g) (o1 := none) (o2 := none) ⟨hk.os, hk.tape, hk.output, hk.size, fun k2 h2 h3 _ _ => hk.block k2 h2 h3⟩ ⟨by omega, by simp, by simp⟩ (fun g' e => ⟨?_, by simp, by simp⟩) (fun g' e => ⟨?_, by simp, by simp⟩) (fun x hx a ha h0 => ⟨?_, by simp, by simp⟩), h.fj, h.fm, h.lo, h.own.poke g k X h0 h1, wbelow_set h.bel (nown_block ho hg).1 _⟩
  · have := (nown_block h.j.dat e).1; omega
  · have := (nown_block h.j.cls e).1; omega
  · have := h.fj x hx a ha; omega
  · have := (nown_block h.m.dat e).1; omega
  · have := (nown_block h.m.cls e).1; omega
  · have := h.fm x hx a ha; omega
theorem rt_start {w w1 w2 w3 : World} {pj pm : Nat} {r s i o s0 : Int} {b : Bs} {ks : List Key} {dm cm dj cj : Value} {lm lj : List JC} {ov : Value} {n : Nat} (hm : RdM w1 w2 pm r s i o s0 b ks dm cm lm) (hj : RdJ w2 w3 pj r s i o s0 b ks dj cj lj) (hb : Below w.heap.size w w1) (hlo : ∀ g, ov.ownBlock = some g → g < w1.heap.size) (ho : Shp w1 w.heap.size ov n) : RtI w w3 w1.heap.size pj pm r s i o (jst s0 ks).1 (jst s0 ks).2 lj lm dj cj dm cm ov n := by
  have hb3 := nbl_step hm.bel hj.bel
  exact ⟨hj.j.base hm.bel.size, hm.m.below hj.bel, fun x hx a ha => Nat.le_trans hm.bel.size (hj.fr x hx a ha), hm.fr, hlo, ho.below hb3, nbl_step hb hb3⟩
theorem rt_alike {w w1 w2 w3 W : World} {pj pm : Nat} {r s i o s0 : Int} {b : Bs} {ks : List Key} {dm cm dj cj : Value} {lm lj : List JC} {ov : Value} {n B : Nat} (hm : RdM w1 w2 pm r s i o s0 b ks dm cm lm) (hj : RdJ w2 w3 pj r s i o s0 b ks dj cj lj) (hbl : b.length ≤ 1000000) (hI : RtI w W B pj pm r s i o (jst s0 ks).1 (jst s0 ks).2 lj lm dj cj dm cm ov n) :
    Calls Tryz.prog 20 #[.pointer (some ⟨pj, 0, none⟩), .pointer (some ⟨pm, 0, none⟩)] W fun e w' => e = .returned (.bool true) ∧ Below W.heap.size W w' := by
  have hlj : lj.length = ks.length := by rw [← hj.jk, List.length_map]
  have h1 := hj.le
  have h2 := hj.len
  exact alike_true W _ pj _ pm r s i o _ _ lj dj cj lm dm cm hI.j hI.m (hj.jk.trans hm.mkk.symm) (by omega) (fun x hx => by
    have h4 := (hj.ok x.key (by rw [← hj.jk]; exact List.mem_map_of_mem hx)).d
    have h5 : x.d.length ≤ 65536 := h4
    omega) (by omega)
set_option maxRecDepth 100000 in
set_option maxHeartbeats 8000000 in
theorem right_any (w : World) (hE : Env1 w) (r : Int) (S : Nat) (i o : Int) (A : Option Addr) (m c : Nat) (b : Bs) (h : BAt w (.slice A m c) b) (hf : FormB A c) (hbl : b.length ≤ 1000000) (hok : okN r S i o = true) (s0 : Int) (hs0 : crcU 0 (firstB r S i o) = s0) :
    Calls Tryz.prog 19 #[.agg #[.int .i64 r, .int .i64 (S : Int), .int .i64 i, .int .i64 o], .slice A m c] w fun e w' => e = .returned (.bool true) ∧ Below w.heap.size w w' := by
  obtain ⟨W0, hW0⟩ : ∃ W0, w.alloc (.cells #[.int .i64 r, .int .i64 (S : Int), .int .i64 i, .int .i64 o] 28) = W0 := ⟨_, rfl⟩
  have hb0 : Below w.heap.size w W0 := by rw [← hW0]; exact below_alloc _ _
  have hbox : W0.heap[w.heap.size]? = some (.cells #[.int .i64 r, .int .i64 (S : Int), .int .i64 i, .int .i64 o] 28 (0, 0)) := by rw [← hW0]; exact heap_alloc_new w _
  have hlt0 : w.heap.size < W0.heap.size := (Array.getElem?_eq_some_iff.1 hbox).1
  have hba0 := h.below hb0
  obtain ⟨v1, w1, hr, ho, hg, hv⟩ := app_at (none_own W0 W0.heap.size) hba0 (by simp; omega) (Nat.le_refl _)
  obtain ⟨A1, n1, c1, rfl⟩ := own_slice ho
  rw [List.nil_append] at ho
  have hb1 : Below W0.heap.size W0 w1 := Below.grown (Below.refl _ _) hg (Nat.le_refl _) fun k hk => by cases hk
  have hw1 : Below w.heap.size w w1 := nbl_step hb0 hb1
  have HQ : Hid (∀ W, Below w1.heap.size w1 W → W.cell? ⟨w.heap.size, 0, none⟩ = some (.int .i64 r) ∧ W.cell? ⟨w.heap.size, 1, none⟩ = some (.int .i64 (S : Int)) ∧ W.cell? ⟨w.heap.size, 2, none⟩ = some (.int .i64 i) ∧ W.cell? ⟨w.heap.size, 3, none⟩ = some (.int .i64 o)) := Lib.hid fun W hb => by
    have hx := ((nbl_step hb1 hb).block w.heap.size hlt0).trans hbox
    exact ⟨wcell_at hx, wcell_at hx, wcell_at hx, wcell_at hx⟩
  obtain ⟨q0, q1, q2, q3⟩ := HQ.out w1 (Below.refl _ _)
  have HAP := Lib.hid hr
  have HW0 := Lib.hid hW0
  have HLR := Lib.hid (lread_any w1 (hE.below hw1) r S i o A m c b (h.below hw1) hf hbl s0 hs0)
  have HRD : Hid (∀ W, Below w1.heap.size w1 W → Calls Tryz.prog 13 #[.agg #[.int .i64 r, .int .i64 (S : Int), .int .i64 i, .int .i64 o], .slice A1 n1 c1] W fun e w' => ReadPost W r S i o s0 b e w') := Lib.hid fun W hb => read_any W (hE.below (nbl_step hw1 hb)) r S i o A1 n1 c1 b (ho.sl.below hb) (form_own ho) hbl hok s0 hs0
  unfold LReadPost at HLR
  unfold ReadPost at HRD
  obtain ⟨ks, hks⟩ : ∃ ks, readAll s0 b = ks := ⟨_, rfl⟩
  rw [hks] at HLR HRD
  obtain ⟨un, hun⟩ : ∃ un, (jst s0 ks).1.length = un := ⟨_, rfl⟩
  have HUN := Lib.hid hun
  rw [hun] at HLR HRD
  obtain ⟨sv, hsv⟩ : ∃ sv : ByteArray, (⟨b.toArray⟩ : ByteArray) = sv := ⟨_, rfl⟩
  have HC1 : Hid (∀ W, Below w1.heap.size w1 W → (convert 31 9 (.slice A1 n1 c1)).run Tryz.prog W = .ok (.string sv) W ∧ (convert 31 9 (.slice A m c)).run Tryz.prog W = .ok (.string sv) W) := Lib.hid fun W hb => by rw [← hsv]; exact ⟨back_sl (ho.sl.below hb), back_sl (h.below (nbl_step hw1 hb))⟩
  have HB1 := Lib.hid hw1
  have HO1 := Lib.hid (nown_base ho (hb0.size))
  have hn1 := own_len ho
  have hnl : (n1 : Int) ≤ 1000000 := by omega
  have HBL := Lib.hid hbl
  have HLO : Hid (∀ g, (Value.slice A1 n1 c1).ownBlock = some g → g < w1.heap.size) := Lib.hid fun g hg => (nown_block ho hg).2
  clear h hf hok hs0 hb0 hbox hlt0 hba0 hr ho hg hv hb1 hw1 hW0 hks hun hsv hn1 hbl hE
  go_enter Tryz.func19, Tryz.ntmps19
  go_wp2_with (first | (at_builtin; rw [HW0.out]; refine wpList_append_eq HAP.out rfl (.const (.slice none 0 0)) (.tmp 12) rfl rfl rfl ?_) | (go_at_call 42; refine HLR.out.mono ?_; rintro e w2 ⟨pm, dm, cm, lm, rfl, hrm⟩; have HM2 := Lib.hid hrm; obtain ⟨x0, x1, x2, x3⟩ := HQ.out w2 hrm.bel; clear hrm) | (go_at_call 13; refine (HRD.out w2 HM2.out.bel).mono ?_; rintro e w3 ⟨pj, dj, cj, lj, rfl, hrj⟩; have HJ3 := Lib.hid hrj; have HI3 := Lib.hid (rt_start HM2.out hrj HB1.out HLO.out ⟨b, own_len HO1.out, HO1.out⟩); obtain ⟨cv1, cv2⟩ := HC1.out w3 (nbl_step HM2.out.bel hrj.bel); clear hrj) | (go_at_call 20; refine (rt_alike HM2.out HJ3.out HBL.out HI3.out).mono ?_; rintro e w4 ⟨rfl, hb⟩; have HI4 := Lib.hid (HI3.out.below hb); clear hb))
  go_loopw [11] (fun u11 wx => ∃ k : Nat, k ≤ n1 ∧ u11 = .int .i64 (k : Int) ∧ RtI w wx w1.heap.size pj pm r S i o (jst s0 ks).1 (jst s0 ks).2 lj lm dj cj dm cm (.slice A1 n1 c1) n1) (fun u11 _ => n1 - (intOf u11).toNat)
  case atStart => exact ⟨0, Nat.zero_le _, rfl, HI4.out⟩
  case round =>
    obtain ⟨k, hk, rfl, hI⟩ := hrel
    have HI := Lib.hid hI
    clear hI
    by_cases hlt : k < n1
    · obtain ⟨gd, X, hA, hc, hf, hx0, hx1⟩ := HI.out.own.at hlt
      subst hA
      have HPK : Hid (∀ Z, 0 ≤ Z → Z < 256 → RtI w (wr.setCell ⟨gd, k, none⟩ (.int .u8 Z)) w1.heap.size pj pm r S i o (jst s0 ks).1 (jst s0 ks).2 lj lm dj cj dm cm (.slice (some ⟨gd, 0, none⟩) n1 c1) n1) := Lib.hid fun Z h0 h1 => HI.out.poke rfl k Z h0 h1
      go_wp2_with fail
      go_roundw
      case rel => exact ⟨k + 1, by omega, by go_num, HPK.out _ (by omega) (by omega)⟩
      case measure => simp [intOf]; omega
    · go_wp2_with (first | (go_at_call 20; refine (rt_alike HM2.out HJ3.out HBL.out HI.out).mono ?_; rintro e w5 ⟨rfl, hb⟩; have HB5 := Lib.hid (nbl_step HI.out.bel hb); clear hb))
      go_ret
      exact ⟨rfl, HB5.out⟩
end Go.Proofs.YtgjbnebmcmoilaaGreatDoor
namespace Go.Proofs.YtgjbnebmcmoilaaGreatDoor
set_option linter.unusedVariables false
set_option linter.unusedSimpArgs false
open Go.RowKit Go.MapKept
set_option maxRecDepth 100000 in
theorem read_bad (w : World) (r s i o : Int) (h : okN r s i o = false) (v : Value) : Calls Tryz.prog 13 #[.agg #[.int .i64 r, .int .i64 s, .int .i64 i, .int .i64 o], v] w fun e w' => e = .returned (.tuple #[.pointer none, .int .i64 0, .int .i64 2]) ∧ Below w.heap.size w w' := by
  have HN := Lib.hid (fun W => jnew_bad W r s i o h)
  clear h
  go_enter Tryz.func13, Tryz.ntmps13
  go_wp2_with (first | (go_at_call 7; refine (HN.out _).mono ?_; rintro e w1 ⟨rfl, hb⟩; have HB1 := Lib.hid (nbl_step (below_alloc _ _) hb); clear hb))
  go_ret3
  exact ⟨rfl, HB1.out⟩
set_option maxRecDepth 100000 in
/-- The first k bytes. -/
theorem slice_upto {A : Option Addr} {m c k : Nat} {b : Bs} {w : World} (h : BAt w (.slice A m c) b) (hf : FormB A c) (hk : k ≤ b.length) :
    ∃ A' c', (∀ W, (Instr.slice 31 (.slice A m c) none (some (.int .i64 (k : Int))) none).run Tryz.prog W = .ok (.slice A' k c') W) ∧ (∀ W, BAt W (.slice A m c) b → BAt W (.slice A' k c') (b.take k)) := by
  obtain ⟨hm, hmc, hcm⟩ : m = b.length ∧ m ≤ c ∧ c ≤ 9223372036854775807 := BAt.len h
  have hrun : ∀ W, (Instr.slice 31 (.slice A m c) none (some (.int .i64 (k : Int))) none).run Tryz.prog W = .ok (sliced A 0 k c 1) W := fun W => by
    rw [run_slice_h (P := Tryz.prog) W 31 A m c Tryz.underlying31 .i64 (k : Int) (by omega) (by omega)]
    have he : Tryz.prog.elem 31 = 5 := by kernel_rfl
    obtain ⟨ii, hi0, hi1, hi2, hi3⟩ := info_parts info_byte
    rw [he]
    simp [sizeOf, typeInfo, hi0, hi2, Result.andThen]
  unfold sliced at hrun
  by_cases hc : c = 0
  · have h0 : k = 0 := by omega
    subst h0
    refine ⟨_, _, hrun, fun W hW => ?_⟩
    rw [if_pos hc, Nat.sub_zero, hc]
    exact SlAt.nil 0 _ (by omega)
  · refine ⟨_, _, hrun, fun W hW => ?_⟩
    rw [if_neg hc]
    have hA : A.map (fun x => x.add (0 * 1)) = A := by
      cases A with
      | none => rfl
      | some a => simp [Addr.add]
    rw [hA]
    exact SlAt.take hW (by omega)
theorem app_law {V : World} {A2 : Option Addr} {n2 c2 : Nat} {news : Bs} (hy : BAt V (.slice A2 n2 c2) news) {A : Option Addr} {n c : Nat} {l : Bs} (hl : l.length + news.length ≤ 10000000) :
    ∀ X, (OwnB X V.heap.size (.slice A n c) l ∧ Below V.heap.size V X) → ∃ A' n' c' W6, (∀ ty, (Builtin.append_ #[31, 31] ty #[.slice A n c, .slice A2 n2 c2]).run Tryz.prog X = .ok (.slice A' n' c') W6) ∧ (OwnB W6 V.heap.size (.slice A' n' c') (l ++ news) ∧ Below V.heap.size V W6) := fun X ⟨ho, hX⟩ => by
  obtain ⟨v3, W5, hr, ho', hg, hv⟩ := app_at ho (hy.below hX) hl hX.size
  obtain ⟨A3, n3, c3, rfl⟩ := own_slice ho'
  exact ⟨A3, n3, c3, W5, hr, ho', Below.grown hX hg hX.size fun k hk => (nown_block ho hk).1⟩
/-- A model alone. -/
def MdL (w0 W : World) (pm : Nat) (r s i o s0 : Int) (ks : List Key) : Prop := ∃ dv cv lm, MdAt W w0.heap.size pm r s i o (jst s0 ks).1 (jst s0 ks).2 lm dv cv ∧ lm.map JC.key = ks ∧ (∀ κ ∈ ks, KeyOk κ) ∧ Below w0.heap.size w0 W
theorem MdL.bel {w0 W : World} {pm : Nat} {r s i o s0 : Int} {ks : List Key} (h : MdL w0 W pm r s i o s0 ks) : Below w0.heap.size w0 W := by
  obtain ⟨dv, cv, lm, h1, h2, h3, h4⟩ := h
  exact h4
theorem MdL.below {w0 W W' : World} {pm : Nat} {r s i o s0 : Int} {ks : List Key} (h : MdL w0 W pm r s i o s0 ks) (hb : Below W.heap.size W W') : MdL w0 W' pm r s i o s0 ks := by
  obtain ⟨dv, cv, lm, h1, h2, h3, h4⟩ := h
  exact ⟨dv, cv, lm, h1.below hb, h2, h3, nbl_step h4 hb⟩
theorem mdl_round {W0 : World} (hE : Env1 W0) {pm : Nat} {r s i o s0 : Int} {ks : List Key} (hk : ks.length ≤ 100) (x : JC) (hx : ArgC W0 x) (hs : x.small = true) :
    ∃ (a : Int) (ks1 : List Key), ks1.length ≤ ks.length + 1 ∧
      (∀ W, MdL W0 W pm r s i o s0 ks → Calls Tryz.prog 18 #[.pointer (some ⟨pm, 0, none⟩), .agg x.arr] W fun e w' => e = .returned (.int .i64 a) ∧ MdL W0 w' pm r s i o s0 ks1) := by
  have h4 := (JC.small_iff x).1 hs
  cases hv : validB x.o x.q x.k x.t x.j x.n with
  | true =>
    have hko := key_ok hx hs hv
    refine ⟨0, ks ++ [x.key], by simp, fun W hm => ?_⟩
    obtain ⟨dm, cm, lm, h1, h2, h3, h5⟩ := hm
    have hlm : lm.length = ks.length := by rw [← h2, List.length_map]
    have hple := h1.le
    refine (madd_ok W W0.heap.size pm r s i o _ _ lm dm cm h1 (hE.below h5) x hko (hx.bat.below h5) (fun a ha h0 => ⟨Nat.lt_of_lt_of_le (hx.lt a ha h0) h5.size, by have := hx.lt a ha h0; omega⟩) (by omega) (by have := jst_len s0 _ ks rfl h3; omega)).mono ?_
    rintro e w' ⟨he, ⟨dm', cm', g1, g2, g3⟩, g4⟩
    refine ⟨he, dm', cm', _, by rw [jst_snoc]; exact g1, by rw [List.map_append, h2, List.map_singleton], fun κ hκ => ?_, g4.below h5 h1.le h5.size⟩
    rcases List.mem_append.1 hκ with h7 | h7
    · exact h3 κ h7
    · rw [List.mem_singleton.1 h7]
      exact hko
  | false => exact ⟨2, ks, by omega, fun W hm => (madd_no W (hE.below hm.bel) pm x hv h4.1 h4.2.1 h4.2.2.1).mono fun e w' ⟨g1, g2⟩ => ⟨g1, hm.below g2⟩⟩
end Go.Proofs.YtgjbnebmcmoilaaGreatDoor
namespace Go.Proofs.YtgjbnebmcmoilaaGreatDoor
set_option linter.unusedVariables false
set_option linter.unusedSimpArgs false
open Go.RowKit Go.MapKept
set_option maxRecDepth 100000 in
theorem jreads_long (w : World) (hE : Env1 w) (r s i o : Int) (A : Option Addr) (m c : Nat) (v : Value) (at_ less : Int) (h : 300 < m) :
    Calls Tryz.prog 4 #[.agg #[.int .i64 r, .int .i64 s, .int .i64 i, .int .i64 o], .slice A m c, v, .int .u16 at_, .int .u16 less] w fun e w' => e = .returned (.bool true) ∧ Below w.heap.size w w' := by
  have HE := Lib.hid hE
  have d1 : decide ((300 : Int) < (m : Int)) = true := decide_eq_true (by omega)
  clear h hE
  go_enter Tryz.func4, Tryz.ntmps4
  go_wp2_with (first | (go_at_call 6; refine (known41_yes _ (HE.out.below (below_alloc _ _))).mono ?_; rintro e w2 ⟨rfl, hb⟩; have HB := Lib.hid (nbl_step (below_alloc _ _) hb); clear hb))
  go_ret
  exact ⟨rfl, HB.out⟩
set_option maxRecDepth 100000 in
theorem jreads_heavy (w : World) (hE : Env1 w) (r s i o : Int) (A : Option Addr) (m c : Nat) (v : Value) (l : List JC) (h : JSl w v l) (hl : lightB l 20 = false) (at_ less : Int) (hm : m ≤ 300) :
    Calls Tryz.prog 4 #[.agg #[.int .i64 r, .int .i64 s, .int .i64 i, .int .i64 o], .slice A m c, v, .int .u16 at_, .int .u16 less] w fun e w' => e = .returned (.bool true) ∧ Below w.heap.size w w' := by
  have HL : Hid (∀ W, Below w.heap.size w W → Calls Tryz.prog 16 #[v, .int .i64 20] W fun e w' => e = .returned (.bool false) ∧ w' = W) := Lib.hid fun W hb => by
    have := light_any W v l 20 (by omega) (h.below hb)
    rw [hl] at this
    exact this
  have HE := Lib.hid hE
  have d1 : decide ((300 : Int) < (m : Int)) = false := decide_eq_false (by omega)
  clear h hl hE hm
  go_enter Tryz.func4, Tryz.ntmps4
  go_wp2_with (first | (go_at_call 16; refine (HL.out _ (below_alloc _ _)).mono ?_; rintro e w1 ⟨rfl, hw⟩; obtain rfl := hw.symm; clear hw) | (go_at_call 6; refine (known41_yes _ (HE.out.below (below_alloc _ _))).mono ?_; rintro e w2 ⟨rfl, hb⟩; have HB := Lib.hid (nbl_step (below_alloc _ _) hb); clear hb))
  go_ret
  exact ⟨rfl, HB.out⟩
set_option maxRecDepth 100000 in
set_option maxHeartbeats 2000000 in
theorem jreads_bad (w : World) (hE : Env1 w) (r s i o : Int) (A : Option Addr) (m c : Nat) (v : Value) (l : List JC) (h : JSl w v l) (hl : lightB l 20 = true) (hok : okN r s i o = false) (at_ less : Int) (hm : m ≤ 300) :
    Calls Tryz.prog 4 #[.agg #[.int .i64 r, .int .i64 s, .int .i64 i, .int .i64 o], .slice A m c, v, .int .u16 at_, .int .u16 less] w fun e w' => e = .returned (.bool true) ∧ Below w.heap.size w w' := by
  have HL : Hid (∀ W, Below w.heap.size w W → Calls Tryz.prog 16 #[v, .int .i64 20] W fun e w' => e = .returned (.bool true) ∧ w' = W) := Lib.hid fun W hb => by
    have := light_any W v l 20 (by omega) (h.below hb)
    rw [hl] at this
    exact this
  have HN := Lib.hid (fun W => read_bad W r s i o hok (.slice A m c))
  have HH := Lib.hid (fun W => has_bad W r s i o hok)
  have HE := Lib.hid hE
  have d1 : decide ((300 : Int) < (m : Int)) = false := decide_eq_false (by omega)
  clear h hl hE hm hok
  go_enter Tryz.func4, Tryz.ntmps4
  go_wp2_with (first | (go_at_call 16; refine (HL.out _ (below_alloc _ _)).mono ?_; rintro e w1 ⟨rfl, hw⟩; obtain rfl := hw.symm; clear hw) | (go_at_call 17; refine (HH.out _).mono ?_; rintro e w2 ⟨rfl, hb⟩; have HB2 := Lib.hid (nbl_step (below_alloc _ _) hb); have q0 : w2.cell? ⟨w.heap.size, 0, none⟩ = some (.int .i64 r) := cell_below hb (new_cells w _ _ 0); have q1 : w2.cell? ⟨w.heap.size, 1, none⟩ = some (.int .i64 s) := cell_below hb (new_cells w _ _ 1); have q2 : w2.cell? ⟨w.heap.size, 2, none⟩ = some (.int .i64 i) := cell_below hb (new_cells w _ _ 2); have q3 : w2.cell? ⟨w.heap.size, 3, none⟩ = some (.int .i64 o) := cell_below hb (new_cells w _ _ 3); clear hb) | (go_at_call 13; refine (HN.out _).mono ?_; rintro e w3 ⟨rfl, hb⟩; have HB3 := Lib.hid (nbl_step HB2.out hb); clear hb) | (go_at_call 6; refine (known41_yes _ (HE.out.below HB3.out)).mono ?_; rintro e w4 ⟨rfl, hb⟩; have HB4 := Lib.hid (nbl_step HB3.out hb); clear hb))
  go_ret
  exact ⟨rfl, HB4.out⟩
end Go.Proofs.YtgjbnebmcmoilaaGreatDoor
