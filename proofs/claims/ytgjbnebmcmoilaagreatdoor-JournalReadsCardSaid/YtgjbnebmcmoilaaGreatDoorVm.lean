/- The law's read: its state. The law's read: the walk. -/
import Derived.Test.YtgjbnebmcmoilaaGreatDoorYj
namespace Go.Proofs.YtgjbnebmcmoilaaGreatDoor
set_option linter.unusedVariables false
set_option linter.unusedSimpArgs false
open Go.RowKit Go.MapKept
theorem strR_big (l : Bs) (M : Int) (hM : (l.length : Int) ≤ M) : ((strR l M).2.1 = 0 ↔ (strR l (l.length : Int)).2.1 = 0) ∧ ((strR l M).2.1 = 0 → (strR l M).1 = (strR l (l.length : Int)).1) := by
  have hs : ∀ X, (strR l X).2.1 = (strR1 l X).2.1 := fun X => by
    unfold strR
    split
    · rfl
    · rfl
  have hs1 : ∀ X, (strR1 l X).2.1 = 0 → (strR l X).1 = (strR1 l X).1 := fun X h => by
    unfold strR
    rw [if_pos h]
  have key : ((strR1 l M).2.1 = 0 ↔ (strR1 l (l.length : Int)).2.1 = 0) ∧ ((strR1 l M).2.1 = 0 → (strR1 l M).1 = (strR1 l (l.length : Int)).1) := by
    unfold strR1
    by_cases h1 : (numM l maxU).2.1 ≠ 0
    · rw [if_pos h1, if_pos h1]
      exact ⟨Iff.rfl, fun _ => rfl⟩
    · rw [if_neg h1, if_neg h1]
      have hd : (l.drop (numM l maxU).2.2).length ≤ l.length := by rw [List.length_drop]; omega
      by_cases h2 : ((l.drop (numM l maxU).2.2).length : Int) < (numM l maxU).1
      · by_cases h3 : M < 0 ∨ M < (numM l maxU).1
        · by_cases h4 : (l.length : Int) < 0 ∨ (l.length : Int) < (numM l maxU).1
          · rw [if_pos h3, if_pos h4]
            exact ⟨Iff.rfl, fun h => by cases h⟩
          · rw [if_pos h3, if_neg h4, if_pos h2]
            exact ⟨by simp, fun h => by cases h⟩
        · by_cases h4 : (l.length : Int) < 0 ∨ (l.length : Int) < (numM l maxU).1
          · rw [if_neg h3, if_pos h4, if_pos h2]
            exact ⟨by simp, fun h => by cases h⟩
          · rw [if_neg h3, if_neg h4, if_pos h2]
            exact ⟨Iff.rfl, fun h => by cases h⟩
      · rw [if_neg (show ¬ (M < 0 ∨ M < (numM l maxU).1) by omega), if_neg (show ¬ ((l.length : Int) < 0 ∨ (l.length : Int) < (numM l maxU).1) by omega)]
        exact ⟨Iff.rfl, fun _ => rfl⟩
  rw [hs, hs]
  exact ⟨key.1, fun h => by rw [hs1 _ h, hs1 _ (key.1.1 h)]; exact key.2 h⟩
/-- A model that has been read. -/
structure RdM (w0 W : World) (p : Nat) (r s i o s0 : Int) (b : Bs) (ks : List Key) (dv cv : Value) (lj : List JC) : Prop where
  m : MdAt W w0.heap.size p r s i o (jst s0 ks).1 (jst s0 ks).2 lj dv cv
  mkk : lj.map JC.key = ks
  ok : ∀ κ ∈ ks, KeyRd κ
  pre : (jst s0 ks).1.isPrefixOf b = true
  le : ks.length ≤ 2000
  fr : ∀ x ∈ lj, ∀ a, x.A = some a → w0.heap.size ≤ a.block
  bel : Below w0.heap.size w0 W
theorem RdM.below {w0 W W' : World} {p : Nat} {r s i o s0 : Int} {b : Bs} {ks : List Key} {dv cv : Value} {lj : List JC} (h : RdM w0 W p r s i o s0 b ks dv cv lj) (hb : Below W.heap.size W W') : RdM w0 W' p r s i o s0 b ks dv cv lj :=
  ⟨h.m.below hb, h.mkk, h.ok, h.pre, h.le, h.fr, nbl_step h.bel hb⟩
theorem RdM.len {w0 W : World} {p : Nat} {r s i o s0 : Int} {b : Bs} {ks : List Key} {dv cv : Value} {lj : List JC} (h : RdM w0 W p r s i o s0 b ks dv cv lj) : (jst s0 ks).1.length ≤ b.length := by
  have h1 := h.pre
  rw [List.isPrefixOf_iff_prefix] at h1
  exact h1.length_le
theorem rm_add {w0 W : World} {p : Nat} {r s i o s0 : Int} {b : Bs} {ks : List Key} {dv cv : Value} {lj : List JC} (h : RdM w0 W p r s i o s0 b ks dv cv lj) (hE : Env1 w0) (hbl : b.length ≤ 1000000) (x : JC) (hx : KeyRd x.key) (hd : BAt W (.slice x.A x.n x.c) x.d) (hfr : ∀ a, x.A = some a → w0.heap.size ≤ a.block ∧ p < a.block) (hl : ks.length < 2000) (hp : (Key.rec x.key (jst s0 ks).2).isPrefixOf (b.drop (jst s0 ks).1.length) = true) :
    Calls Tryz.prog 18 #[.pointer (some ⟨p, 0, none⟩), .agg x.arr] W fun e w' => e = .returned (.int .i64 0) ∧ ∃ dv' cv' lj', RdM w0 w' p r s i o s0 b (ks ++ [x.key]) dv' cv' lj' := by
  have hlj : lj.length = ks.length := by rw [← h.mkk, List.length_map]
  have hlen := h.len
  obtain ⟨xo, q, k, t, j, A, n, c, d⟩ := x
  obtain ⟨h1, h2, h3, h4, h5⟩ := hx
  obtain ⟨O, hO, ho1, ho2⟩ := valid_op h1
  have e1 : xo = (O : Int) := hO
  subst e1
  dsimp only [JC.key] at h1 h2 h3 h4 h5 hd hfr
  have hn := bat_len hd
  have hko : KeyRd (JC.key ⟨(O : Int), q, k, t, j, A, n, c, d⟩) := ⟨h1, h2, h3, h4, h5⟩
  rw [← hn] at h1
  refine (madd_good W w0.heap.size p r s i o _ _ lj dv cv h.m (hE.below h.bel) O q k t j A n c d ho1 ho2 h1 (by omega) (by omega) (by omega) hd (fun a ha h0 => ⟨?_, ?_⟩) (by omega) (by omega) (by omega)).mono ?_
  · subst ha
    exact bat_lt hd h0
  · have := (hfr a ha).2
    omega
  rintro e w' ⟨he, ⟨dv', cv', h6, _⟩, h9⟩
  refine ⟨he, dv', cv', _, ⟨by rw [jst_snoc]; exact h6, by rw [List.map_append, h.mkk]; rfl, ?_, by rw [jst_snoc]; exact prefix_go h.pre hp, by rw [List.length_append]; simp; omega, ?_, h9.below h.bel h.m.le h.bel.size⟩⟩
  · intro κ hκ
    rcases List.mem_append.1 hκ with h11 | h11
    · exact h.ok κ h11
    · rw [List.mem_singleton.1 h11]
      exact hko
  · intro x hx a ha
    rcases List.mem_append.1 hx with h11 | h11
    · exact h.fr x h11 a ha
    · rw [List.mem_singleton.1 h11] at ha
      exact (hfr a ha).1
theorem lrd_record {w0 W : World} (hb : Below w0.heap.size w0 W) (hE : Env1 w0) (x : JC) (hx : KeyRd x.key) (hd : BAt W (.slice x.A x.n x.c) x.d) (sum : Int) :
    Calls Tryz.prog 12 #[.agg x.arr, .int .u32 sum] W fun e w' => (∃ A c sm, e = .returned (.tuple #[.slice A (Key.rec x.key sum).length c, .int .u32 sm]) ∧ BAt w' (.slice A (Key.rec x.key sum).length c) (Key.rec x.key sum)) ∧ Below W.heap.size W w' := by
  obtain ⟨xo, q, k, t, j, A, n, c, d⟩ := x
  obtain ⟨h1, h2, h3, h4, h5⟩ := hx
  obtain ⟨O, hO, ho1, ho2⟩ := valid_op h1
  have e1 : xo = (O : Int) := hO
  subst e1
  dsimp only [JC.key] at h1 h2 h3 h4 h5 hd
  have hn := bat_len hd
  rw [← hn] at h1
  refine (lrecord_good O q sum k t j A n c d ho1 ho2 h1 (by omega) (by omega) (by omega) W (hE.below hb) hd (by omega)).mono ?_
  rintro e w' ⟨⟨r, he, ho⟩, hbb⟩
  obtain ⟨A2, m2, c2, rfl⟩ := own_slice ho
  have hm2 := bat_len (OwnB.sl ho)
  subst hm2
  exact ⟨⟨A2, c2, _, he, OwnB.sl ho⟩, hbb⟩
set_option maxRecDepth 100000 in
theorem slice_mid {A : Option Addr} {m c k lp : Nat} {b : Bs} {w : World} (h : BAt w (.slice A m c) b) (hf : FormB A c) (hk : k + lp ≤ b.length) :
    ∃ A' c', (∀ W, (Instr.slice 31 (.slice A m c) (some (.int .i64 (k : Int))) (some (.int .i64 ((k : Int) + (lp : Int)))) none).run Tryz.prog W = .ok (.slice A' lp c') W) ∧ (∀ W, BAt W (.slice A m c) b → BAt W (.slice A' lp c') ((b.drop k).take lp)) := by
  obtain ⟨hm, hmc, hcm⟩ : m = b.length ∧ m ≤ c ∧ c ≤ 9223372036854775807 := BAt.len h
  have hrun : ∀ W, (Instr.slice 31 (.slice A m c) (some (.int .i64 (k : Int))) (some (.int .i64 ((k : Int) + (lp : Int)))) none).run Tryz.prog W = .ok (sliced A k (k + lp) c 1) W := fun W => by
    rw [run_slice_lh (P := Tryz.prog) W 31 A m c Tryz.underlying31 .i64 .i64 (k : Int) ((k : Int) + (lp : Int)) (by omega) (by omega) (by omega)]
    have he : Tryz.prog.elem 31 = 5 := by kernel_rfl
    obtain ⟨ii, hi0, hi1, hi2, hi3⟩ := info_parts info_byte
    rw [he, show ((k : Int) + (lp : Int)).toNat = k + lp by omega, show (k : Int).toNat = k by omega]
    simp [sizeOf, typeInfo, hi0, hi2, Result.andThen]
  obtain ⟨A', m', c', h1, h2, h3⟩ := slice_from (k := k) h hf (by omega)
  have hA : (if c = k then A else A.map (·.add (k * 1))) = A' ∧ c - k = c' := by
    have h4 := h1 w
    rw [run_slice_l (P := Tryz.prog) w 31 A m c Tryz.underlying31 .i64 (k : Int) (by omega) (by omega)] at h4
    have he : Tryz.prog.elem 31 = 5 := by kernel_rfl
    obtain ⟨ii, hi0, hi1, hi2, hi3⟩ := info_parts info_byte
    rw [he] at h4
    simp [sizeOf, typeInfo, hi0, hi2, Result.andThen, sliced] at h4
    simpa using ⟨h4.1, h4.2.2⟩
  unfold sliced at hrun
  rw [hA.1, hA.2, show k + lp - k = lp by omega] at hrun
  refine ⟨A', c', hrun, fun W hW => ?_⟩
  have h5 := h2 W hW
  have h6 := bat_len h5
  exact SlAt.take h5 (by rw [h6, List.length_drop]; omega)
end Go.Proofs.YtgjbnebmcmoilaaGreatDoor
namespace Go.Proofs.YtgjbnebmcmoilaaGreatDoor
set_option linter.unusedVariables false
set_option linter.unusedSimpArgs false
open Go.RowKit Go.MapKept
def LReadPost (w : World) (r s i o s0 : Int) (b : Bs) (e : Ending) (w' : World) : Prop :=
  ∃ p dv cv lj, e = .returned (.tuple #[.pointer (some ⟨p, 0, none⟩), .int .i64 ((jst s0 (readAll s0 b)).1.length : Int)]) ∧ RdM w w' p r s i o s0 b (readAll s0 b) dv cv lj
theorem toArray_ne {x y : Bs} (h : x ≠ y) : (⟨x.toArray⟩ : ByteArray) ≠ ⟨y.toArray⟩ := fun e => by
  injection e with e
  exact h (by simpa using congrArg Array.toList e)
theorem drewN_below (w : World) (n : Nat) : Below w.heap.size w (w.drewN n) := ⟨rfl, rfl, rfl, Nat.le_refl _, fun _ _ => rfl⟩
set_option maxRecDepth 100000 in
set_option maxHeartbeats 8000000 in
theorem lread_any (w : World) (hE : Env1 w) (r s i o : Int) (A : Option Addr) (m c : Nat) (b : Bs) (h : BAt w (.slice A m c) b) (hf : FormB A c) (hbl : b.length ≤ 1000000) (s0 : Int) (hs0 : crcU 0 (firstB r s i o) = s0) :
    Calls Tryz.prog 42 #[.agg #[.int .i64 r, .int .i64 s, .int .i64 i, .int .i64 o], .slice A m c] w fun e w' => LReadPost w r s i o s0 b e w' := by
  have HBG : Hid (∀ W, Below w.heap.size w W → Calls Tryz.prog 9 #[.agg #[.int .i64 r, .int .i64 s, .int .i64 i, .int .i64 o]] W fun e w' => (∃ p, e = .returned (.pointer (some ⟨p, 0, none⟩)) ∧ MdAt w' W.heap.size p r s i o [] s0 [] (.slice none 0 0) (.slice none 0 0)) ∧ Below W.heap.size W w') := Lib.hid fun W hb => by rw [← hs0]; exact begun_any W (hE.below hb) r s i o
  have HE := Lib.hid hE
  have HB := Lib.hid h
  have HF := Lib.hid hf
  have HBL := Lib.hid hbl
  have hmb := bat_len h
  subst hmb
  have hbl0 : (b.length : Int) ≤ 1000000 := by omega
  obtain ⟨bl, hbl1⟩ : ∃ bl, b.length = bl := ⟨_, rfl⟩
  have HBL1 := Lib.hid hbl1
  rw [hbl1] at HB hbl0 ⊢
  clear h hE hf hbl hs0 hbl1
  go_enter Tryz.func42, Tryz.ntmps42
  go_wp2_with (first | (go_at_call 9; refine (HBG.out _ (below_alloc _ _)).mono ?_; rintro e w1 ⟨⟨p, rfl, hj⟩, hb⟩; have HM1 : Hid (RdM w w1 p r s i o s0 b [] (.slice none 0 0) (.slice none 0 0) []) := Lib.hid ⟨hj.base (by rw [wsize_alloc]; omega), rfl, fun κ hκ => (by cases hκ), rfl, by simp, fun x hx => (by cases hx), nbl_step (below_alloc _ _) hb⟩; clear hj hb))
  go_loopg [7] 2001 (fun gf u7 wx => ∃ (ks : List Key) (at_ : Nat) (dv cv : Value) (lj : List JC), u7 = .int .i64 (at_ : Int) ∧ (jst s0 ks).1.length = at_ ∧ gf + ks.length = 2001 ∧ readAll s0 b = readF s0 b gf ks ∧ RdM w wx p r s i o s0 b ks dv cv lj)
  case atStart => exact ⟨[], 0, _, _, [], rfl, rfl, rfl, rfl, HM1.out⟩
  case round =>
    clear HM1 HBG
    obtain ⟨ks, at_, dv, cv, lj, rfl, hat, hgk, hra, hR⟩ := hrel
    have HR := Lib.hid hR
    obtain ⟨g', rfl⟩ : ∃ g', gk = g' + 1 := ⟨gk - 1, by have := hR.le; omega⟩
    have HRA := Lib.hid hra
    have HAT := Lib.hid hat
    have HGK := Lib.hid hgk
    obtain ⟨A4, c4, rfl⟩ := capp_slice hR.m.cls
    have hlj : lj.length = ks.length := by rw [← hR.mkk, List.length_map]
    have z4 : wr.cell? ⟨p, 4, none⟩ = some (.slice A4 lj.length c4) := wcell_at hR.m.hp
    have z6 : wr.cell? ⟨p, 6, none⟩ = some (.int .u32 (jst s0 ks).2) := wcell_at hR.m.hp
    rw [hlj] at z4
    have hatl : at_ ≤ bl := by have h1 := hR.len; rw [hat, HBL1.out] at h1; exact h1
    have hati : (at_ : Int) ≤ (bl : Int) := by omega
    have HATL := Lib.hid hatl
    obtain ⟨sum, hsum⟩ : ∃ sum, (jst s0 ks).2 = sum := ⟨_, rfl⟩
    have HSUM := Lib.hid hsum
    rw [hsum] at z6
    have HSTEP : Hid (readStep s0 b ks = match nextR (b.drop at_) with | none => none | some κ => if (Key.rec κ (jst s0 ks).2).isPrefixOf (b.drop at_) = true ∧ ks.length < 2000 then some κ else none) := Lib.hid (by rw [← hat]; rfl)
    obtain ⟨kl, hkl⟩ : ∃ kl, ks.length = kl := ⟨_, rfl⟩
    have HKL := Lib.hid hkl
    rw [hkl] at z4
    clear hra hat hgk hR hlj hsum hatl
    by_cases hlt : kl < 2000
    · have dlt : decide ((kl : Int) < 2000) = true := decide_eq_true (by omega)
      obtain ⟨A', m', c', hsl, hbd, hf'⟩ := slice_from (k := at_) HB.out HF.out (by rw [HBL1.out]; exact HATL.out)
      have hrest := hbd wr (HB.out.below HR.out.bel)
      have hrl : (b.drop at_).length ≤ 1000000 := by rw [List.length_drop]; have := HBL.out; omega
      have HNW := Lib.hid (new_any wr _ _ hrest hrl (form_nil hrest hf'))
      have HBIG := Lib.hid (strR_big (b.drop at_) (bl : Int) (by rw [List.length_drop, HBL1.out]; omega))
      have HSZ : Hid ((strR (b.drop at_) (bl : Int)).1.size ≤ 1000000) := Lib.hid (by have := strR_size (b.drop at_) (bl : Int); omega)
      have HRST : Hid (∀ W pr rv, RdAt W wr.heap.size pr (b.drop at_) 0 rv → Calls Tryz.prog 62 #[.pointer (some ⟨pr, 0, none⟩), .int .i64 (bl : Int)] W fun e w' => e = .returned (.tuple #[.string (strR (b.drop at_) (bl : Int)).1, .int .i64 (strR (b.drop at_) (bl : Int)).2.1]) ∧ Kbut pr W w') := Lib.hid fun W pr rv hr => (rstring_any W _ pr (b.drop at_) 0 rv (bl : Int) hr (by omega)).mono fun e w' ⟨he, _, hk⟩ => ⟨he, hk⟩
      have HNXR : Hid (nextR (b.drop at_) = if (strR (b.drop at_) (bl : Int)).2.1 = 0 then decR (bsOf (strR (b.drop at_) (bl : Int)).1) else none) := Lib.hid (by
        unfold nextR
        by_cases h0 : (strR (b.drop at_) (bl : Int)).2.1 = 0
        · rw [if_pos h0, if_pos (HBIG.out.1.1 h0), HBIG.out.2 h0]
        · rw [if_neg h0, if_neg (fun h1 => h0 (HBIG.out.1.2 h1))])
      obtain ⟨⟨sv, er, u⟩, hx⟩ : ∃ x, strR (b.drop at_) (bl : Int) = x := ⟨_, rfl⟩
      rw [hx] at HSZ HRST HNXR
      dsimp only at HSZ HRST HNXR
      have HRESTW := Lib.hid (fun W (hb : Below wr.heap.size wr W) => hrest.below hb)
      clear hrest hrl hbd hf' hx HBIG
      by_cases h0 : er = 0
      · subst h0
        rw [if_pos rfl] at HNXR
        have HDEC : Hid (∀ W g nd cd, Below wr.heap.size wr W → BAt W (.slice (some ⟨g, 0, none⟩) nd cd) (bsOf sv) → Calls Tryz.prog 63 #[.slice (some ⟨g, 0, none⟩) nd cd] W fun e w' => DecPost (bsOf sv) W e w') := Lib.hid fun W g nd cd hb hba => decode_any W (HE.out.below (nbl_step HR.out.bel hb)) _ nd cd (bsOf sv) hba (by rw [bsOf_len]; exact HSZ.out) (Or.inr ⟨_, _, _, _, rfl⟩)
        unfold DecPost at HDEC
        cases hd : decR (bsOf sv) with
        | none =>
          rw [hd] at HDEC HNXR
          rw [HNXR.out] at HSTEP
          dsimp only at HDEC HSTEP
          have HDONE : Hid (readAll s0 b = ks) := Lib.hid (by rw [HRA.out]; exact readF_none g' HSTEP.out)
          clear hd HNXR
          go_wp2_with (first | (go_at_call 61; refine HNW.out.mono ?_; rintro e w2 ⟨⟨pr, rv, rfl, hr⟩, hb⟩; have HR2 := Lib.hid hr; have HB2 := Lib.hid hb; clear hr hb) | (go_at_call 62; refine (HRST.out w2 pr rv HR2.out).mono ?_; rintro e w3 ⟨rfl, hk⟩; have HB3 : Hid (Below wr.heap.size wr w3) := Lib.hid (Kbut.below hk HB2.out HR2.out.le HB2.out.size); clear hk; obtain ⟨nd, cd, w4, hcv, hbd, hb4, hs4⟩ := conv_bytes2 w3 sv (by have := HSZ.out; omega); have HBD := Lib.hid hbd; have HB4 := Lib.hid (nbl_step HB3.out hb4); clear hbd hb4 hs4) | (go_at_call 63; refine (HDEC.out _ _ _ _ HB4.out HBD.out).mono ?_; rintro e w5 ⟨rfl, hb⟩; have HB5 := Lib.hid (nbl_al (nbl_step HB4.out hb) (o := .cells #[.int .i64 0, .string ⟨#[]⟩, .string ⟨#[]⟩, .string ⟨#[]⟩, .int .i64 0, .slice none 0 0] 40)); clear hb))
          go_ret2
          unfold LReadPost
          rw [HDONE.out, HAT.out]
          exact ⟨p, _, _, _, rfl, HR.out.below HB5.out⟩
        | some κ =>
          have hkr := decR_ok hd
          rw [hd] at HDEC HNXR
          rw [HNXR.out] at HSTEP
          obtain ⟨xo, xq, xk, xt, xj, xd⟩ := κ
          dsimp only at HDEC HSTEP
          have HKR := Lib.hid hkr
          clear hd HNXR hkr
          have HVA : Hid (∀ W A n c, Below wr.heap.size wr W → n = xd.length → Calls Tryz.prog 34 #[.agg #[.int .i64 xo, .string xk, .string xt, .string xj, .int .i64 xq, .slice A n c]] W fun e w' => e = .returned (.bool true) ∧ Below W.heap.size W w') := Lib.hid fun W A n c hb hn => by
            have h1 := HKR.out.k
            have h2 := HKR.out.t
            have h3 := HKR.out.j
            have h4 := HKR.out.valid
            dsimp only at h1 h2 h3 h4
            have h5 := valid_any xo xq xk xt xj A n c (by omega) (by omega) (by omega) W (HE.out.below (nbl_step HR.out.bel hb))
            rw [hn, h4] at h5
            rw [hn]
            exact h5
          obtain ⟨rb, hrb⟩ : ∃ rb, Key.rec (xo, xq, xk, xt, xj, xd) (jst s0 ks).2 = rb := ⟨_, rfl⟩
          have HRB := Lib.hid hrb
          rw [hrb] at HSTEP
          clear hrb
          go_wp2_with (first | (go_at_call 61; refine HNW.out.mono ?_; rintro e w2 ⟨⟨pr, rv, rfl, hr⟩, hb⟩; have HR2 := Lib.hid hr; have HB2 := Lib.hid hb; clear hr hb) | (go_at_call 62; refine (HRST.out w2 pr rv HR2.out).mono ?_; rintro e w3 ⟨rfl, hk⟩; have HB3 : Hid (Below wr.heap.size wr w3) := Lib.hid (Kbut.below hk HB2.out HR2.out.le HB2.out.size); clear hk; obtain ⟨nd, cd, w4, hcv, hbd, hb4, hs4⟩ := conv_bytes2 w3 sv (by have := HSZ.out; omega); have HBD := Lib.hid hbd; have HB4 := Lib.hid (nbl_step HB3.out hb4); clear hbd hb4 hs4) | (go_at_call 63; refine (HDEC.out _ _ _ _ HB4.out HBD.out).mono ?_; rintro e w5 ⟨⟨A7, m7, c7, rfl, hba, hfr⟩, hb⟩; have HBA := Lib.hid (hba.below (below_alloc w5 (.cells #[.int .i64 xo, .string xk, .string xt, .string xj, .int .i64 xq, .slice A7 m7 c7] 40))); have HFR := Lib.hid hfr; have HB5 := Lib.hid (nbl_al (nbl_step HB4.out hb) (o := .cells #[.int .i64 xo, .string xk, .string xt, .string xj, .int .i64 xq, .slice A7 m7 c7] 40)); clear hb hba hfr) | (go_at_call 34; refine (HVA.out _ _ _ _ HB5.out (bat_len HBA.out)).mono ?_; rintro e w6 ⟨rfl, hb⟩; have HB6 := Lib.hid (nbl_step HB5.out hb); have HBA6 := Lib.hid (HBA.out.below hb); have HSX : Hid (∀ W, Below w6.heap.size w6 W → W.cell? ⟨w5.heap.size, 0, none⟩ = some (.int .i64 xo) ∧ W.cell? ⟨w5.heap.size, 1, none⟩ = some (.string xk) ∧ W.cell? ⟨w5.heap.size, 2, none⟩ = some (.string xt) ∧ W.cell? ⟨w5.heap.size, 3, none⟩ = some (.string xj) ∧ W.cell? ⟨w5.heap.size, 4, none⟩ = some (.int .i64 xq) ∧ W.cell? ⟨w5.heap.size, 5, none⟩ = some (.slice A7 m7 c7) ∧ W.cell? ⟨p, 6, none⟩ = some (.int .u32 sum)) := Lib.hid (fun W hw => ⟨cell_below hw (cell_below hb (new_cells w5 _ _ 0)), cell_below hw (cell_below hb (new_cells w5 _ _ 1)), cell_below hw (cell_below hb (new_cells w5 _ _ 2)), cell_below hw (cell_below hb (new_cells w5 _ _ 3)), cell_below hw (cell_below hb (new_cells w5 _ _ 4)), cell_below hw (cell_below hb (new_cells w5 _ _ 5)), cell_below hw (cell_below HB6.out z6)⟩); clear hb))
          have y0 := (HSX.out w6 (Below.refl _ _))
          obtain ⟨x0, x1, x2, x3, x4, x5, x6⟩ := y0
          have HREC : Hid (∀ W, Below w6.heap.size w6 W → Calls Tryz.prog 12 #[.agg #[.int .i64 xo, .string xk, .string xt, .string xj, .int .i64 xq, .slice A7 m7 c7], .int .u32 sum] W fun e w' => (∃ A c sm, e = .returned (.tuple #[.slice A rb.length c, .int .u32 sm]) ∧ BAt w' (.slice A rb.length c) rb) ∧ Below W.heap.size W w') := Lib.hid fun W hb => by
            have h1 := lrd_record (nbl_step (nbl_step HR.out.bel HB6.out) hb) HE.out ⟨xo, xq, xk, xt, xj, A7, m7, c7, xd⟩ HKR.out (HBA6.out.below hb) sum
            rw [show Key.rec (JC.key ⟨xo, xq, xk, xt, xj, A7, m7, c7, xd⟩) sum = rb by rw [← HSUM.out]; exact HRB.out] at h1
            exact h1
          go_region_held3 (fun w' => w'.cell? ⟨w5.heap.size, 0, none⟩ = some (.int .i64 xo) ∧ w'.cell? ⟨w5.heap.size, 1, none⟩ = some (.string xk) ∧ w'.cell? ⟨w5.heap.size, 2, none⟩ = some (.string xt) ∧ w'.cell? ⟨w5.heap.size, 3, none⟩ = some (.string xj) ∧ w'.cell? ⟨w5.heap.size, 4, none⟩ = some (.int .i64 xq) ∧ w'.cell? ⟨w5.heap.size, 5, none⟩ = some (.slice A7 m7 c7) ∧ w'.cell? ⟨p, 6, none⟩ = some (.int .u32 sum)) (first | (exact HSX.out _ (Below.refl _ w6).drew) | go_keep | (exact HSX.out _ HB7.out)) (first | (go_at_call 12; refine (HREC.out _ (Below.refl _ w6).drew).mono ?_; rintro e w7 ⟨⟨A8, c8, sm8, rfl, hb8⟩, hb⟩; have HB8 := Lib.hid hb8; have HB7 : Hid (Below w6.heap.size w6 w7) := Lib.hid (nbl_step (Below.refl _ w6).drew hb); clear hb hb8) | fail)
          have HBW7 := Lib.hid (nbl_step HB6.out HB7.out)
          have HR7 := Lib.hid (HR.out.below HBW7.out)
          have HBA7 := Lib.hid (HBA6.out.below HB7.out)
          obtain ⟨k0, k1, k2, k3, k4, k5, k6⟩ := HSX.out w7 HB7.out
          clear x0 x1 x2 x3 x4 x5 x6
          obtain ⟨lp, hlp⟩ : ∃ lp, rb.length = lp := ⟨_, rfl⟩
          have HLP := Lib.hid hlp
          rw [hlp] at HB8 ⊢
          clear hlp
          have HDL : Hid ((b.drop at_).length = bl - at_) := Lib.hid (by rw [List.length_drop, HBL1.out])
          have ws1 : wrap64 ((bl : Int) - (at_ : Int)) = (bl : Int) - (at_ : Int) := Go.IntWalk.wrap64_in _ ⟨by omega, by omega⟩
          have ws2 : IntKind.i64.wrap ((bl : Int) - (at_ : Int)) = (bl : Int) - (at_ : Int) := by rw [IntKind.wrap_i64]; omega
          by_cases hlong : bl - at_ < lp
          · have HDONE : Hid (readAll s0 b = ks) := Lib.hid (by
              rw [HRA.out]
              refine readF_none g' (HSTEP.out.trans (if_neg ?_))
              rintro ⟨h3, _⟩
              rw [List.isPrefixOf_iff_prefix] at h3
              have h4 := h3.length_le
              rw [HLP.out, HDL.out] at h4
              omega)
            have dl : decide ((bl : Int) - (at_ : Int) < (lp : Int)) = true := decide_eq_true (by omega)
            go_wp2_with fail
            go_quiet (fail)
            go_wp2_with fail
            go_ret2
            unfold LReadPost
            rw [HDONE.out, HAT.out]
            exact ⟨p, _, _, _, rfl, HR7.out.below (drewN_below w7 _)⟩
          · have hal : at_ + lp ≤ bl := by have h3 := HATL.out; omega
            obtain ⟨Am, cm, hsm, hbm⟩ := slice_mid (k := at_) (lp := lp) HB.out HF.out (by rw [HBL1.out]; exact hal)
            have hmid := hbm w7 (HB.out.below (nbl_step HR.out.bel HBW7.out))
            have dl : decide ((bl : Int) - (at_ : Int) < (lp : Int)) = false := decide_eq_false (by omega)
            have cvp := back_sl (HB8.out.below (Below.refl _ w7).drew)
            have cvm := back_sl (SlAt.below hmid (Below.refl _ w7).drew)
            have wr2 : IntKind.i64.wrap ((at_ : Int) + (lp : Int)) = (at_ : Int) + (lp : Int) := by rw [IntKind.wrap_i64]; omega
            have wr1 : wrap64 ((at_ : Int) + (lp : Int)) = (at_ : Int) + (lp : Int) := Go.IntWalk.wrap64_in _ ⟨by omega, by omega⟩
            have HAL := Lib.hid hal
            clear hmid hbm hal
            by_cases heq : rb = (b.drop at_).take lp
            · obtain ⟨ss, hss⟩ : ∃ ss : ByteArray, (⟨rb.toArray⟩ : ByteArray) = ss := ⟨_, rfl⟩
              rw [← heq, hss] at cvm
              rw [hss] at cvp
              clear hss
              have hpre : rb.isPrefixOf (b.drop at_) = true := by
                rw [List.isPrefixOf_iff_prefix, heq]
                exact List.take_prefix _ _
              have hkl2 : ks.length < 2000 := by rw [HKL.out]; exact hlt
              have HNXT : Hid (readAll s0 b = readF s0 b g' (ks ++ [(xo, xq, xk, xt, xj, xd)])) := Lib.hid (by rw [HRA.out]; exact readF_some g' (HSTEP.out.trans (if_pos ⟨hpre, hkl2⟩)))
              have HNL : Hid ((jst s0 (ks ++ [(xo, xq, xk, xt, xj, xd)])).1.length = at_ + lp) := Lib.hid (by rw [jst_snoc, List.length_append, HAT.out, HRB.out, HLP.out])
              have HAD := Lib.hid (fun W (hb : Below w7.heap.size w7 W) => rm_add (HR7.out.below hb) HE.out HBL.out ⟨xo, xq, xk, xt, xj, A7, m7, c7, xd⟩ HKR.out (HBA7.out.below hb) (fun a ha => by
                have h3 := HFR.out a ha
                have h4 := HB4.out.size
                have h5 := HR.out.m.lt
                have h6 := HR.out.bel.size
                exact ⟨by omega, by omega⟩) hkl2 (by rw [HAT.out, show Key.rec (JC.key ⟨xo, xq, xk, xt, xj, A7, m7, c7, xd⟩) (jst s0 ks).2 = rb from HRB.out]; exact hpre))
              unfold JC.arr at HAD
              dsimp only [JC.key] at HAD
              clear heq hpre hkl2 hlt
              go_wp2_with fail
              go_region_held3 (fun w' => (convert 31 9 (.slice A8 lp c8)).run Tryz.prog w' = .ok (.string ss) w' ∧ (convert 31 9 (.slice Am lp cm)).run Tryz.prog w' = .ok (.string ss) w') (first | (exact ⟨cvp, cvm⟩) | go_keep) (fail)
              go_wp2_with (first | (go_at_call 18; refine (HAD.out _ (Below.refl _ w7).drew).mono ?_; rintro e w8 ⟨rfl, dv8, cv8, lj8, hr8⟩; have HR8 := Lib.hid hr8; clear hr8))
              go_roundg g'
              case measure => omega
              case rel => exact ⟨_, at_ + lp, _, _, _, by first | rfl | (congr 1; omega), HNL.out, by rw [List.length_append, List.length_singleton]; have := HGK.out; omega, HNXT.out, HR8.out⟩
            · have hne := toArray_ne heq
              have HDONE : Hid (readAll s0 b = ks) := Lib.hid (by
                rw [HRA.out]
                refine readF_none g' (HSTEP.out.trans (if_neg ?_))
                rintro ⟨h3, _⟩
                rw [List.isPrefixOf_iff_prefix] at h3
                have h4 := List.prefix_iff_eq_take.1 h3
                rw [HLP.out] at h4
                exact heq h4)
              obtain ⟨s1, hs1⟩ : ∃ ss : ByteArray, (⟨rb.toArray⟩ : ByteArray) = ss := ⟨_, rfl⟩
              obtain ⟨s2, hs2⟩ : ∃ ss : ByteArray, (⟨((b.drop at_).take lp).toArray⟩ : ByteArray) = ss := ⟨_, rfl⟩
              rw [hs1] at cvp hne
              rw [hs2] at cvm hne
              have hne1 : (s1.toList == s2.toList) = false := by
                rw [beq_eq_false_iff_ne, ByteArray.toList_eq, ByteArray.toList_eq]
                exact fun e => hne (ByteArray.ext (Array.ext' e))
              have hne2 : (s1.toList != s2.toList) = true := by simp [bne, hne1]
              clear heq hs1 hs2 hlt
              go_wp2_with fail
              go_region_held3 (fun w' => (convert 31 9 (.slice A8 lp c8)).run Tryz.prog w' = .ok (.string s1) w' ∧ (convert 31 9 (.slice Am lp cm)).run Tryz.prog w' = .ok (.string s2) w') (first | (exact ⟨cvp, cvm⟩) | go_keep) (fail)
              go_wp2_with fail
              go_ret2
              unfold LReadPost
              rw [HDONE.out, HAT.out]
              exact ⟨p, _, _, _, rfl, HR7.out.below (Below.refl _ w7).drew⟩
      · rw [if_neg h0] at HNXR
        rw [HNXR.out] at HSTEP
        dsimp only at HSTEP
        have HDONE : Hid (readAll s0 b = ks) := Lib.hid (by rw [HRA.out]; exact readF_none g' HSTEP.out)
        have d1 : (er == 0) = false := by simpa using h0
        go_wp2_with (first | (go_at_call 61; refine HNW.out.mono ?_; rintro e w2 ⟨⟨pr, rv, rfl, hr⟩, hb⟩; have HR2 := Lib.hid hr; have HB2 := Lib.hid hb; clear hr hb) | (go_at_call 62; refine (HRST.out w2 pr rv HR2.out).mono ?_; rintro e w3 ⟨rfl, hk⟩; have HB3 : Hid (Below wr.heap.size wr w3) := Lib.hid (Kbut.below hk HB2.out HR2.out.le HB2.out.size); clear hk))
        go_ret2
        unfold LReadPost
        rw [HDONE.out, HAT.out]
        exact ⟨p, _, _, _, rfl, HR.out.below HB3.out⟩
    · have dlt : decide ((kl : Int) < 2000) = false := decide_eq_false (by omega)
      have HDONE : Hid (readAll s0 b = ks) := Lib.hid (by
        rw [HRA.out]
        refine readF_none g' (HSTEP.out.trans ?_)
        split
        · rfl
        · rw [if_neg]
          rintro ⟨_, h3⟩
          rw [HKL.out] at h3
          exact hlt h3)
      clear hlt
      go_wp2_with fail
      go_ret2
      unfold LReadPost
      rw [HDONE.out, HAT.out]
      exact ⟨p, _, _, _, rfl, HR.out⟩
end Go.Proofs.YtgjbnebmcmoilaaGreatDoor
