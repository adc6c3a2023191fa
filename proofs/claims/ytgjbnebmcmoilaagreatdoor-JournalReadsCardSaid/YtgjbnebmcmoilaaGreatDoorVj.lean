/- Lists of error numbers; the text of a part. Reader.Take of one byte, End; slices.Max of errors. The state of client.Decode's loop. client.Decode: its loop. -/
import Derived.Test.YtgjbnebmcmoilaaGreatDoorVf
namespace Go.Proofs.YtgjbnebmcmoilaaGreatDoor
set_option linter.unusedVariables false
set_option linter.unusedSimpArgs false
open Go.RowKit Go.MapKept
def errV (e : Int) : Value := .int .i64 e
abbrev OwnE (w : World) (B : Nat) (v : Value) (l : List Int) : Prop := w.ownsRow B 24 1 v l.length (l.map errV)
theorem info_errno : (Tryz.prog.info? 24).map (fun i => (i.zero, i.size, i.bytes)) = some (some (.int .i64 0), 1, 8) := by kernel_rfl
theorem owne_slice {w : World} {B : Nat} {v : Value} {l : List Int} (h : OwnE w B v l) : v = .slice none 0 0 ∧ l = [] ∨ ∃ g c, v = Value.slice (some ⟨g, 0, none⟩) l.length c := by
  rcases h.2 with ⟨e, h0⟩ | ⟨g, cap, cur, e, _⟩
  · exact Or.inl ⟨e, List.eq_nil_of_length_eq_zero h0⟩
  · exact Or.inr ⟨g, cap, e⟩
/-- An error number is appended: its slice of one lies in block Y. -/
theorem eapp_at {W : World} {B : Nat} {v : Value} {l : List Int} (ho : OwnE W B v l) (e : Int) (Y : Nat) (hY : W.heap[Y]? = some (.cells #[.int .i64 e] 24 (0, 0))) (hlen : l.length ≤ 100000) (hB : B ≤ W.heap.size) :
    ∃ g c w', (∀ ty, (Builtin.append_ #[191, 191] ty #[v, .slice (some ⟨Y, 0, none⟩) 1 1]).run Tryz.prog W = .ok (.slice (some ⟨g, 0, none⟩) (l.length + 1) c) w') ∧ OwnE w' B (.slice (some ⟨g, 0, none⟩) (l.length + 1) c) (l ++ [e]) ∧ W.grownBy w' v.ownBlock ∧ NewOwn W v (.slice (some ⟨g, 0, none⟩) (l.length + 1) c) := by
  obtain ⟨ic, hi0, hi1, hi2, hi3⟩ := info_parts info_errno
  obtain ⟨g, cap, w', hr, h2, h3, h4, h5⟩ := run_append_lies (P := Tryz.prog) (w := W) 191 0 B 24 ic _ 1 8 Tryz.underlying191 hi0 hi1 hi2 hi3 rfl (by omega) v l.length (l.map errV) ho ⟨Y, 0, none⟩ 1 1 [.int .i64 e] rfl (World.news_of_block hY) (fun u hu => by
      simp at hu
      subst hu
      rfl) (by omega) (by unfold maxLen; omega) (by omega) hB _ rfl
  refine ⟨g, cap, w', fun ty => hr, ?_, h3, fun k hk => ?_⟩
  · unfold OwnE
    rw [List.length_append, List.map_append]
    exact h2
  · have : g = k := by simpa [Value.ownBlock] using hk
    subst this
    rcases h4 with h4 | h4
    · exact Or.inl h4
    · exact Or.inr (Nat.le_of_eq h4.symm)
/-- The boxes that the text of a part works on. -/
structure TxAt (W : World) (B p b4 b10 : Nat) (all : Bs) (n : Nat) (rv ev : Value) (errs : List Int) : Prop where
  rd : RdAt W B p all n rv
  h4 : W.heap[b4]? = some (.cells #[.pointer (some ⟨p, 0, none⟩)] 132 (0, 0))
  h10 : W.heap[b10]? = some (.cells #[ev] 191 (0, 0))
  own : OwnE W B ev errs
  p4 : p < b4
  b410 : b4 < b10
  ob : ∀ g, ev.ownBlock = some g → b10 < g
theorem TxAt.rne {W : World} {B p b4 b10 : Nat} {all : Bs} {n : Nat} {rv ev : Value} {errs : List Int} (h : TxAt W B p b4 b10 all n rv ev errs) : rv.ownBlock ≠ some b10 ∧ rv.ownBlock ≠ some b4 := by
  constructor <;> intro e
  · rcases h.rd.own.2 with ⟨rfl, _⟩ | ⟨g, cap, cur, rfl, _, hb, _⟩
    · cases e
    · have e1 : g = b10 := by simpa [Value.ownBlock] using e
      rw [e1, h.h10] at hb
      injection hb with hb
      injection hb with _ hb
      exact absurd hb (by decide)
  · rcases h.rd.own.2 with ⟨rfl, _⟩ | ⟨g, cap, cur, rfl, _, hb, _⟩
    · cases e
    · have e1 : g = b4 := by simpa [Value.ownBlock] using e
      rw [e1, h.h4] at hb
      injection hb with hb
      injection hb with _ hb
      exact absurd hb (by decide)
theorem owne_form {w : World} {B : Nat} {v : Value} {l : List Int} (h : OwnE w B v l) : ∃ A m c, v = Value.slice A m c := by
  rcases owne_slice h with ⟨rfl, _⟩ | ⟨g, c, rfl⟩
  · exact ⟨_, _, _, rfl⟩
  · exact ⟨_, _, _, rfl⟩
theorem TxAt.lt {W : World} {B p b4 b10 : Nat} {all : Bs} {n : Nat} {rv ev : Value} {errs : List Int} (h : TxAt W B p b4 b10 all n rv ev errs) : b10 < W.heap.size := (Array.getElem?_eq_some_iff.1 h.h10).1
theorem TxAt.below {W W' : World} {B p b4 b10 : Nat} {all : Bs} {n : Nat} {rv ev : Value} {errs : List Int} (h : TxAt W B p b4 b10 all n rv ev errs) (hb : Below W.heap.size W W') : TxAt W' B p b4 b10 all n rv ev errs :=
  ⟨h.rd.below hb, (hb.block b4 (Nat.lt_trans h.b410 h.lt)).trans h.h4, (hb.block b10 h.lt).trans h.h10, nown_below h.own hb, h.p4, h.b410, h.ob⟩
/-- The reader has read on. -/
theorem TxAt.read {W W2 : World} {B p b4 b10 : Nat} {all : Bs} {n n2 : Nat} {rv ev : Value} {errs : List Int} (h : TxAt W B p b4 b10 all n rv ev errs) (hr : RdAt W2 B p all n2 rv) (hk : Kbut p W W2) : TxAt W2 B p b4 b10 all n2 rv ev errs := by
  have h1 := h.p4
  have h2 := h.b410
  have h3 := h.lt
  exact ⟨hr, (hk.block b4 (by omega) (by omega)).trans h.h4, (hk.block b10 h3 (by omega)).trans h.h10, nown_keep h.own fun g hg => hk.block g (nown_block h.own hg).2 (by have := h.ob g hg; omega), h1, h2, h.ob⟩
/-- Behind an append to the list of errors, and the store of it. -/
theorem TxAt.add {W W6 : World} {B p b4 b10 : Nat} {all : Bs} {n : Nat} {rv ev ev' : Value} {errs : List Int} {e : Int} (h : TxAt W B p b4 b10 all n rv ev errs) (ho : OwnE W6 B ev' (errs ++ [e])) (hg : W.grownBy W6 ev.ownBlock) (hn : NewOwn W ev ev') :
    W6.cell? ⟨b10, 0, none⟩ = some ev ∧ W6.frozen? ⟨b10, 0, none⟩ = false ∧ TxAt (W6.setCell ⟨b10, 0, none⟩ ev') B p b4 b10 all n rv ev' (errs ++ [e]) ∧ Kjr b10 none ev.ownBlock W (W6.setCell ⟨b10, 0, none⟩ ev') := by
  have h1 := h.p4
  have h2 := h.b410
  have h3 := h.lt
  have hne : ∀ k, k ≤ b10 → some k ≠ ev.ownBlock := fun k hk e => by have := h.ob k e.symm; omega
  have h6 : W6.heap[b10]? = some (.cells #[ev] 191 (0, 0)) := (hg.block b10 h3 (hne _ (Nat.le_refl _))).trans h.h10
  have hob : ∀ g, ev'.ownBlock = some g → b10 < g := fun g hg => by
    rcases hn g hg with h4 | h4
    · exact h.ob g h4
    · omega
  have hset : ∀ k, k ≠ b10 → (W6.setCell ⟨b10, 0, none⟩ ev').heap[k]? = W6.heap[k]? := fun k hk => wheap_setN _ _ _ _ hk
  have hrv : ∀ g, rv.ownBlock = some g → some g ≠ ev.ownBlock := fun g hgv e => by
    rcases h.rd.own.2 with ⟨rfl, _⟩ | ⟨g1, cap, cur, rfl, _, hb, _⟩
    · cases hgv
    · rcases h.own.2 with ⟨rfl, _⟩ | ⟨g2, cap2, cur2, rfl, _, hb2, _⟩
      · cases e
      · have e1 : g1 = g := by simpa [Value.ownBlock] using hgv
        have e2 : g = g2 := by simpa [Value.ownBlock] using e
        rw [e1] at hb
        rw [← e2, hb] at hb2
        injection hb2 with hb2
        injection hb2 with _ hb2
        exact absurd hb2 (by decide)
  refine ⟨wcell_at h6, wfroz_at h6, ⟨⟨(hset p (by omega)).trans ((hg.block p (by omega) (hne p (by omega))).trans h.rd.hp), nown_keep h.rd.own fun g hgg => (hset g (fun e => h.rne.1 (by rw [hgg, e]))).trans (hg.block g (nown_block h.rd.own hgg).2 (hrv g hgg)), h.rd.ne, h.rd.le, h.rd.hn, h.rd.hl⟩, (hset b4 (by omega)).trans ((hg.block b4 (by omega) (hne b4 (by omega))).trans h.h4), wheap_set h6, nown_keep ho fun g hgg => hset g (by have := hob g hgg; omega), h1, h2, hob⟩,
    ⟨hg.os, hg.tape, hg.output, by rw [World.size_setCell]; exact hg.size, fun k hk hp _ ho => (hset k hp).trans (hg.block k hk fun e => ho e.symm)⟩⟩
/-- What changes: the reader, the box of the errors, their list. -/
structure Ktx (p b10 : Nat) (o : Option Nat) (a b : World) : Prop where
  os : b.os = a.os
  tape : b.tape = a.tape
  output : b.output = a.output
  size : a.heap.size ≤ b.heap.size
  block : ∀ k, k < a.heap.size → k ≠ p → k ≠ b10 → o ≠ some k → b.heap[k]? = a.heap[k]?
theorem Ktx.of {p b10 : Nat} {o : Option Nat} {a b c d : World} (h : Kbut p a b) (hb : Below b.heap.size b c) (k : Kjr b10 none o c d) : Ktx p b10 o a d :=
  ⟨k.os.trans (hb.os.trans h.os), k.tape.trans (hb.tape.trans h.tape), k.output.trans (hb.output.trans h.output), Nat.le_trans h.size (Nat.le_trans hb.size k.size), fun j hj h1 h2 h3 => (k.block j (Nat.lt_of_lt_of_le hj (Nat.le_trans h.size hb.size)) h2 (by simp) h3).trans ((hb.block j (Nat.lt_of_lt_of_le hj h.size)).trans (h.block j hj h1))⟩
set_option maxRecDepth 100000 in
set_option maxHeartbeats 2000000 in
theorem text_any (w : World) (B p b4 b10 : Nat) (all : Bs) (n : Nat) (rv ev : Value) (errs : List Int) (h : TxAt w B p b4 b10 all n rv ev errs) (most : Int) (hm : most ≤ 9223372036854775807) (hel : errs.length ≤ 1000) :
    Calls Tryz.prog 92 #[.int .i64 most, .pointer (some ⟨b4, 0, none⟩), .pointer (some ⟨b10, 0, none⟩)] w fun e w' => e = .returned (.string (strR (all.drop n) most).1) ∧ (∃ ev', TxAt w' B p b4 b10 all (n + (strR (all.drop n) most).2.2) rv ev' (errs ++ [(strR (all.drop n) most).2.1]) ∧ NewOwn w ev ev') ∧ Ktx p b10 ev.ownBlock w w' := by
  have HST := Lib.hid (rstring_any w B p all n rv most h.rd hm)
  obtain ⟨⟨x, er, u⟩, hx⟩ : ∃ t, strR (all.drop n) most = t := ⟨_, rfl⟩
  rw [hx] at HST ⊢
  dsimp only at HST ⊢
  have HH := Lib.hid h
  have HEL := Lib.hid hel
  have c4 : w.cell? ⟨b4, 0, none⟩ = some (.pointer (some ⟨p, 0, none⟩)) := wcell_at h.h4
  obtain ⟨A, m, c, hev⟩ := owne_form h.own
  subst hev
  clear h hx hm hel
  go_enter Tryz.func92, Tryz.ntmps92
  go_wp2_with (first | (go_at_call 62; refine HST.out.mono ?_; rintro e w2 ⟨rfl, hr, hk⟩; have HK2 := Lib.hid hk; have ht2 := HH.out.read hr hk; have HT2 := Lib.hid ht2; have y10 : w2.cell? ⟨b10, 0, none⟩ = some (.slice A m c) := wcell_at ht2.h10; obtain ⟨g6, c6, w6, hr6, ho6, hg6, hn6⟩ := eapp_at (ht2.below (below_alloc w2 (.cells #[.int .i64 er] 24))).own er w2.heap.size (heap_alloc_new _ _) (by have := HEL.out; omega) (by rw [wsize_alloc]; have h1 := ht2.rd.le; have h2 := ht2.rd.lt; omega); have HR6 := Lib.hid hr6; have HA6 := Lib.hid ((ht2.below (below_alloc w2 (.cells #[.int .i64 er] 24))).add ho6 hg6 hn6); have HN6 := Lib.hid hn6; have z10 := HA6.out.1; have zf10 := HA6.out.2.1; clear hr hk ht2 hr6 ho6 hg6 hn6) | (at_builtin; refine wpList_append_eq HR6.out rfl (.tmp 13) (.tmp 15) rfl rfl rfl ?_))
  go_ret
  exact ⟨rfl, ⟨_, HA6.out.2.2.1, NewOwn.earlier (HN6.out.earlier (below_alloc w2 _).size) HK2.out.size⟩, Ktx.of HK2.out (below_alloc w2 _) HA6.out.2.2.2⟩
end Go.Proofs.YtgjbnebmcmoilaaGreatDoor
namespace Go.Proofs.YtgjbnebmcmoilaaGreatDoor
set_option linter.unusedVariables false
set_option linter.unusedSimpArgs false
open Go.RowKit Go.MapKept
set_option maxRecDepth 100000 in
theorem take1_good (w : World) (B p : Nat) (b0 : UInt8) (rest : Bs) (v : Value) (h : RdAt w B p (b0 :: rest) 0 v) : Calls Tryz.prog 91 #[.pointer (some ⟨p, 0, none⟩), .int .i64 1] w fun e w' => (∃ A c, e = .returned (.tuple #[.slice A 1 c, .int .i64 0]) ∧ OwnB w' w.heap.size (.slice A 1 c) [b0]) ∧ RdAt w' B p (b0 :: rest) 1 v ∧ Kbut p w w' := by
  have HZ := Lib.hid (rzero_any w B p _ 0 v h)
  have HT := Lib.hid (take_good w B p _ 0 v 1 h (by simp))
  clear h
  go_enter Tryz.func91, Tryz.ntmps91
  go_wp2_with (first | (go_at_call 135; refine HZ.out.mono ?_; rintro e w1 ⟨rfl, hw⟩; obtain rfl := hw.symm; clear hw) | (go_at_call 90; refine HT.out.mono ?_; rintro e w2 ⟨⟨r, rfl, ho⟩, hr, hk⟩; obtain ⟨A2, m2, c2, rfl⟩ := own_slice ho; have HO := Lib.hid ho; have HR := Lib.hid hr; have HK := Lib.hid hk; clear ho hr hk))
  go_ret2
  have ho := HO.out
  have hm : m2 = 1 := by
    have := bat_len (OwnB.sl ho)
    simpa using this
  subst hm
  exact ⟨⟨_, _, rfl, by simpa using ho⟩, HR.out, HK.out⟩
set_option maxRecDepth 100000 in
theorem take1_none (w : World) (B p : Nat) (v : Value) (h : RdAt w B p [] 0 v) : Calls Tryz.prog 91 #[.pointer (some ⟨p, 0, none⟩), .int .i64 1] w fun e w' => e = .returned (.tuple #[.slice none 0 0, .int .i64 4]) ∧ Below w.heap.size w w' := by
  have HZ := Lib.hid (rzero_any w B p _ 0 v h)
  have HT := Lib.hid (take_short w B p _ 0 v 1 h (by simp))
  clear h
  go_enter Tryz.func91, Tryz.ntmps91
  go_wp2_with (first | (go_at_call 135; refine HZ.out.mono ?_; rintro e w1 ⟨rfl, hw⟩; obtain rfl := hw.symm; clear hw) | (go_at_call 90; refine HT.out.mono ?_; rintro e w2 ⟨rfl, hb⟩; have HB := Lib.hid hb; clear hb))
  go_ret2
  exact ⟨rfl, HB.out⟩
def endE (all : Bs) (n : Nat) : Int := if n < all.length then 12 else 0
set_option maxRecDepth 100000 in
theorem left_any (w : World) (B p : Nat) (all : Bs) (n : Nat) (v : Value) (h : RdAt w B p all n v) : Calls Tryz.prog 139 #[.pointer (some ⟨p, 0, none⟩)] w fun e w' => e = .returned (.int .i64 ((all.length - n : Nat) : Int)) ∧ Below w.heap.size w w' := by
  have HZ := Lib.hid (rzero_any w B p _ n v h)
  have HT := Lib.hid (rest_any w B p _ n v h)
  clear h
  go_enter Tryz.func139, Tryz.ntmps139
  go_wp2_with (first | (go_at_call 135; refine HZ.out.mono ?_; rintro e w1 ⟨rfl, hw⟩; obtain rfl := hw.symm; clear hw) | (go_at_call 138; refine HT.out.mono ?_; rintro e w2 ⟨⟨A2, m2, c2, rfl, hba, _⟩, hb⟩; have hm := bat_len hba; rw [List.length_drop] at hm; subst hm; have HB := Lib.hid hb; clear hb hba))
  go_ret
  exact ⟨rfl, HB.out⟩
set_option maxRecDepth 100000 in
theorem end_any (w : World) (B p : Nat) (all : Bs) (n : Nat) (v : Value) (h : RdAt w B p all n v) : Calls Tryz.prog 93 #[.pointer (some ⟨p, 0, none⟩)] w fun e w' => e = .returned (.int .i64 (endE all n)) ∧ Below w.heap.size w w' := by
  have HZ := Lib.hid (rzero_any w B p _ n v h)
  have HT := Lib.hid (left_any w B p _ n v h)
  unfold endE
  by_cases hlt : n < all.length
  · rw [if_pos hlt]
    have d1 : (0 : Int) < ((all.length - n : Nat) : Int) := by omega
    have d2 : decide ((0 : Int) < ((all.length - n : Nat) : Int)) = true := decide_eq_true d1
    generalize all.length - n = L at *
    clear h hlt
    go_enter Tryz.func93, Tryz.ntmps93
    go_wp2_with (first | (go_at_call 135; refine HZ.out.mono ?_; rintro e w1 ⟨rfl, hw⟩; obtain rfl := hw.symm; clear hw) | (go_at_call 139; refine HT.out.mono ?_; rintro e w2 ⟨rfl, hb⟩; have HB := Lib.hid hb; clear hb))
    go_ret
    exact ⟨rfl, HB.out⟩
  · rw [if_neg hlt]
    have d0 : all.length - n = 0 := by omega
    rw [d0] at HT
    clear h hlt d0
    go_enter Tryz.func93, Tryz.ntmps93
    go_wp2_with (first | (go_at_call 135; refine HZ.out.mono ?_; rintro e w1 ⟨rfl, hw⟩; obtain rfl := hw.symm; clear hw) | (go_at_call 139; refine HT.out.mono ?_; rintro e w2 ⟨rfl, hb⟩; have HB := Lib.hid hb; clear hb))
    go_ret
    exact ⟨rfl, HB.out⟩
def maxTo (l : List Int) (k : Nat) : Int := ((l.take k).drop 1).foldl max (l.headD 0)
set_option maxRecDepth 100000 in
theorem max_any (w : World) (B : Nat) (A : Option Addr) (m c : Nat) (l : List Int) (h : OwnE w B (.slice A m c) l) (h0 : 0 < l.length) (hl : l.length ≤ 1000) : Calls Tryz.prog 94 #[.slice A m c] w fun e w' => e = .returned (.int .i64 (maxTo l l.length)) ∧ w' = w := by
  obtain ⟨g, rfl, hm⟩ : ∃ g, A = some ⟨g, 0, none⟩ ∧ m = l.length := by
    rcases h.2 with ⟨e, hn⟩ | ⟨g, cap, cur, e, _⟩
    · omega
    · injection e with e1 e2
      exact ⟨g, e1, e2⟩
  subst hm
  have hcell : ∀ k (hk : k < l.length), w.cell? ⟨g, k, none⟩ = some (.int .i64 l[k]) := fun k hk => by
    rw [World.ownsRow.cellAt h k (by omega)]
    simp [hk, errV]
  have c0 := hcell 0 h0
  have HC := Lib.hid hcell
  have d0 : decide ((l.length : Int) < 1) = false := decide_eq_false (by omega)
  have b0 : (0 : Int) < (l.length : Int) := by omega
  have hx0 : l[0] = l.headD 0 := by
    cases l with
    | nil => simp at h0
    | cons a b => rfl
  rw [hx0] at c0
  obtain ⟨x0, hx⟩ : ∃ x0, l.headD 0 = x0 := ⟨_, rfl⟩
  rw [hx] at c0
  have HX0 := Lib.hid hx
  have HL := Lib.hid hl
  obtain ⟨N, hN⟩ : ∃ N, l.length = N := ⟨_, rfl⟩
  have HN := Lib.hid hN
  rw [hN] at d0 b0 ⊢
  clear h h0 hl hcell hx0 hx hN
  go_enter Tryz.func94, Tryz.ntmps94
  go_wp2_with fail
  go_loopg [3, 4] N (fun gf u3 u4 wx => ∃ k : Nat, u4 = .int .i64 (k : Int) ∧ u3 = .int .i64 (maxTo l k) ∧ 1 ≤ k ∧ k ≤ N ∧ k + gf = N + 1 ∧ wx = w)
  case atStart => exact ⟨1, rfl, by unfold maxTo; rw [HX0.out]; cases l <;> rfl, Nat.le_refl _, by omega, by omega, rfl⟩
  case round =>
    obtain ⟨k, rfl, rfl, hk1, hkN, hkg, rfl⟩ := hrel
    by_cases hlt : k < N
    · obtain ⟨g', rfl⟩ : ∃ g', gk = g' + 1 := ⟨gk - 1, by omega⟩
      have hkl : k < l.length := by rw [HN.out]; exact hlt
      have ck := HC.out k hkl
      have hmx : maxTo l (k + 1) = max (maxTo l k) l[k] := by
        unfold maxTo
        rw [take_snoc l k hkl, List.drop_append_of_le_length (by rw [List.length_take]; omega), List.foldl_append]
        rfl
      have HMX := Lib.hid hmx
      obtain ⟨x, hxk⟩ : ∃ x, l[k] = x := ⟨_, rfl⟩
      rw [hxk] at ck HMX
      clear hmx hxk
      have hN1000 : (N : Int) ≤ 1000 := by have h1 := HL.out; have h2 := HN.out; omega
      go_wp2_with fail
      go_roundg g'
      case measure => omega
      case rel => exact ⟨k + 1, by first | rfl | go_num, by rw [HMX.out], by omega, by omega, by omega, rfl⟩
    · have e : k = N := by omega
      subst e
      go_wp2_with fail
      go_ret
      exact ⟨rfl, rfl⟩
theorem maxTo_zero {l : List Int} (hn : ∀ x ∈ l, 0 ≤ x) : (maxTo l l.length = 0) ↔ ∀ x ∈ l, x = 0 := by
  unfold maxTo
  rw [List.take_length]
  have key : ∀ (xs : List Int) (a : Int), 0 ≤ a → (∀ x ∈ xs, 0 ≤ x) → (xs.foldl max a = 0 ↔ a = 0 ∧ ∀ x ∈ xs, x = 0) := by
    intro xs
    induction xs with
    | nil => intro a _ _; simp
    | cons y ys ih =>
      intro a ha hx
      have hy := hx y (List.mem_cons_self ..)
      rw [List.foldl_cons, ih (max a y) (by omega) (fun x hm => hx x (List.mem_cons_of_mem _ hm))]
      constructor
      · rintro ⟨h1, h2⟩
        refine ⟨by omega, fun x hm => ?_⟩
        rcases List.mem_cons.1 hm with rfl | hm
        · omega
        · exact h2 x hm
      · rintro ⟨h1, h2⟩
        exact ⟨by rw [h1, h2 y (List.mem_cons_self ..)]; rfl, fun x hm => h2 x (List.mem_cons_of_mem _ hm)⟩
  cases l with
  | nil => simp
  | cons a b =>
    show (b.foldl max a = 0) ↔ _
    rw [key b a (hn a (List.mem_cons_self ..)) (fun x hm => hn x (List.mem_cons_of_mem _ hm))]
    constructor
    · rintro ⟨h1, h2⟩ x hm
      rcases List.mem_cons.1 hm with rfl | hm
      · exact h1
      · exact h2 x hm
    · intro h
      exact ⟨h a (List.mem_cons_self ..), fun x hm => h x (List.mem_cons_of_mem _ hm)⟩
end Go.Proofs.YtgjbnebmcmoilaaGreatDoor
namespace Go.Proofs.YtgjbnebmcmoilaaGreatDoor
set_option linter.unusedVariables false
set_option linter.unusedSimpArgs false
open Go.RowKit Go.MapKept
/-- What has been read of a call. -/
structure DS where
  n : Nat
  errs : List Int
  q : Int
  k : ByteArray
  t : ByteArray
  j : ByteArray
  d : Bs
def callObj (o q : Int) (k t j : ByteArray) (A : Option Addr) (m c : Nat) : Obj := .cells #[.int .i64 o, .string k, .string t, .string j, .int .i64 q, .slice A m c] 40 (0, 0)
structure DecI (w W : World) (p b4 c7 b10 it : Nat) (all : Bs) (rv : Value) (o : Int) (st : DS) (A : Option Addr) (m c : Nat) (ev : Value) (s : ByteArray) (pos : Nat) : Prop where
  tx : TxAt W w.heap.size p b4 b10 all st.n rv ev st.errs
  box : W.heap[c7]? = some (callObj o st.q st.k st.t st.j A m c)
  bd : BAt W (.slice A m c) st.d
  it_ : W.heap[it]? = some (.stringIter s pos)
  res : W.heap[w.heap.size]? = some (callObj 0 0 ⟨#[]⟩ ⟨#[]⟩ ⟨#[]⟩ none 0 0)
  o0 : w.heap.size < p
  o1 : b4 < c7
  o2 : c7 < b10
  o3 : b10 < it
  ob : ∀ g, ev.ownBlock = some g → it < g
  ad : ∀ a, A = some a → it < a.block ∧ a.block < W.heap.size ∧ ev.ownBlock ≠ some a.block
  bel : Below w.heap.size w W
theorem own_obj {W : World} {B : Nat} {v : Value} {l : Bs} (h : OwnB W B v l) {k : Nat} {x : Obj} (hk : W.heap[k]? = some x) (hx : ∀ cs, x ≠ .cells cs 5 (0, 0)) : v.ownBlock ≠ some k := fun e => by
  rcases h.2 with ⟨rfl, _⟩ | ⟨g, cap, cur, rfl, _, hb, _⟩
  · cases e
  · have e1 : g = k := by simpa [Value.ownBlock] using e
    rw [e1, hk] at hb
    injection hb with hb
    exact hx _ hb
theorem callObj_u8 (o q : Int) (k t j : ByteArray) (A : Option Addr) (m c : Nat) : ∀ cs, callObj o q k t j A m c ≠ .cells cs 5 (0, 0) := fun cs e => by
  unfold callObj at e
  injection e with _ e
  exact absurd e (by decide)
theorem DecI.lts {w W : World} {p b4 c7 b10 it : Nat} {all : Bs} {rv : Value} {o : Int} {st : DS} {A : Option Addr} {m c : Nat} {ev : Value} {s : ByteArray} {pos : Nat} (h : DecI w W p b4 c7 b10 it all rv o st A m c ev s pos) : w.heap.size < p ∧ p < b4 ∧ b4 < c7 ∧ c7 < b10 ∧ b10 < it ∧ it < W.heap.size := ⟨h.o0, h.tx.p4, h.o1, h.o2, h.o3, (Array.getElem?_eq_some_iff.1 h.it_).1⟩
theorem DecI.rvs {w W : World} {p b4 c7 b10 it : Nat} {all : Bs} {rv : Value} {o : Int} {st : DS} {A : Option Addr} {m c : Nat} {ev : Value} {s : ByteArray} {pos : Nat} (h : DecI w W p b4 c7 b10 it all rv o st A m c ev s pos) : rv.ownBlock ≠ some c7 ∧ rv.ownBlock ≠ some it ∧ rv.ownBlock ≠ some w.heap.size :=
  ⟨own_obj h.tx.rd.own h.box (callObj_u8 _ _ _ _ _ _ _ _), own_obj h.tx.rd.own h.it_ (fun cs e => by cases e), own_obj h.tx.rd.own h.res (callObj_u8 _ _ _ _ _ _ _ _)⟩
/-- The iterator goes on. -/
theorem DecI.next {w W W2 : World} {p b4 c7 b10 it : Nat} {all : Bs} {rv : Value} {o : Int} {st : DS} {A : Option Addr} {m c : Nat} {ev : Value} {s : ByteArray} {pos : Nat} (h : DecI w W p b4 c7 b10 it all rv o st A m c ev s pos) (h1 : W2.heap[it]? = some (.stringIter s (pos + 1))) (h2 : ∀ k, k ≠ it → W2.heap[k]? = W.heap[k]?) (h3 : W2.heap.size = W.heap.size) (h4 : W2.os = W.os) (h5 : W2.tape = W.tape) (h6 : W2.output = W.output) : DecI w W2 p b4 c7 b10 it all rv o st A m c ev s (pos + 1) := by
  obtain ⟨l0, l1, l2, l3, l4, l5⟩ := h.lts
  have hr := h.rvs
  refine ⟨⟨⟨(h2 p (by omega)).trans h.tx.rd.hp, nown_keep h.tx.rd.own fun g hg => h2 g (fun e => hr.2.1 (by rw [hg, e])), h.tx.rd.ne, h.tx.rd.le, h.tx.rd.hn, h.tx.rd.hl⟩, (h2 b4 (by omega)).trans h.tx.h4, (h2 b10 (by omega)).trans h.tx.h10, nown_keep h.tx.own fun g hg => h2 g (by have := h.ob g hg; omega), h.tx.p4, h.tx.b410, h.tx.ob⟩, (h2 c7 (by omega)).trans h.box, bat_keep h.bd fun a ha => h2 _ (by have := (h.ad a ha).1; omega), h1, (h2 _ (by omega)).trans h.res, h.o0, h.o1, h.o2, h.o3, h.ob, fun a ha => ⟨(h.ad a ha).1, by rw [h3]; exact (h.ad a ha).2.1, (h.ad a ha).2.2⟩, ⟨h4.trans h.bel.os, h5.trans h.bel.tape, h6.trans h.bel.output, by rw [h3]; exact h.bel.size, fun k hk => (h2 k (by omega)).trans (h.bel.block k hk)⟩⟩
/-- One part is read and stored. -/
theorem DecI.upd {w W W' : World} {p b4 c7 b10 it : Nat} {all : Bs} {rv : Value} {o : Int} {st st' : DS} {A A' : Option Addr} {m c m' c' : Nat} {ev ev' : Value} {s : ByteArray} {pos : Nat} (h : DecI w W p b4 c7 b10 it all rv o st A m c ev s pos) (hos : W'.os = W.os) (htape : W'.tape = W.tape) (hout : W'.output = W.output) (hsz : W.heap.size ≤ W'.heap.size)
    (hk : ∀ k, k < W.heap.size → k ≠ p → k ≠ c7 → k ≠ b10 → ev.ownBlock ≠ some k → W'.heap[k]? = W.heap[k]?) (rd : RdAt W' w.heap.size p all st'.n rv) (h10 : W'.heap[b10]? = some (.cells #[ev'] 191 (0, 0))) (own : OwnE W' w.heap.size ev' st'.errs) (hn : NewOwn W ev ev')
    (box : W'.heap[c7]? = some (callObj o st'.q st'.k st'.t st'.j A' m' c')) (bd : BAt W' (.slice A' m' c') st'.d) (ad : ∀ a, A' = some a → (A = some a ∨ W.heap.size ≤ a.block) ∧ a.block < W'.heap.size ∧ ev'.ownBlock ≠ some a.block) : DecI w W' p b4 c7 b10 it all rv o st' A' m' c' ev' s pos := by
  obtain ⟨l0, l1, l2, l3, l4, l5⟩ := h.lts
  have hev : ∀ k, k ≤ it → ev.ownBlock ≠ some k := fun k hk e => by have := h.ob k e; omega
  have hob : ∀ g, ev'.ownBlock = some g → it < g := fun g hg => by
    rcases hn g hg with h4 | h4
    · exact h.ob g h4
    · omega
  exact ⟨⟨rd, (hk b4 (by omega) (by omega) (by omega) (by omega) (hev _ (by omega))).trans h.tx.h4, h10, own, h.tx.p4, h.tx.b410, fun g hg => by have := hob g hg; omega⟩, box, bd, (hk it l5 (by omega) (by omega) (by omega) (hev _ (Nat.le_refl _))).trans h.it_, (hk _ (by omega) (by omega) (by omega) (by omega) (hev _ (by omega))).trans h.res, h.o0, h.o1, h.o2, h.o3, hob, fun a ha => ⟨by
    rcases (ad a ha).1 with h4 | h4
    · exact (h.ad a h4).1
    · omega, (ad a ha).2⟩, ⟨hos.trans h.bel.os, htape.trans h.bel.tape, hout.trans h.bel.output, Nat.le_trans h.bel.size hsz, fun k hkk => (hk k (Nat.lt_of_lt_of_le hkk h.bel.size) (by omega) (by omega) (by omega) (hev _ (by omega))).trans (h.bel.block k hkk)⟩⟩
/-- Behind the text of a part (W3), perhaps with more laid (W4), the store into the call's box. -/
theorem dec_text {w W W3 W4 : World} {p b4 c7 b10 it : Nat} {all : Bs} {rv : Value} {o : Int} {st st' : DS} {A A' : Option Addr} {m c m' c' : Nat} {ev ev' : Value} {s : ByteArray} {pos : Nat} (h : DecI w W p b4 c7 b10 it all rv o st A m c ev s pos) (ht : TxAt W3 w.heap.size p b4 b10 all st'.n rv ev' st'.errs) (hn : NewOwn W ev ev') (hk : Ktx p b10 ev.ownBlock W W3) (hb : Below W3.heap.size W3 W4) (i : Nat) (x : Value)
    (hx : (#[.int .i64 o, .string st.k, .string st.t, .string st.j, .int .i64 st.q, .slice A m c] : Array Value).setIfInBounds i x = #[.int .i64 o, .string st'.k, .string st'.t, .string st'.j, .int .i64 st'.q, .slice A' m' c']) (hd : (A' = A ∧ m' = m ∧ c' = c ∧ st'.d = st.d) ∨ (BAt W4 (.slice A' m' c') st'.d ∧ ∀ a, A' = some a → W3.heap.size ≤ a.block ∧ a.block < W4.heap.size)) :
    W4.heap[c7]? = some (callObj o st.q st.k st.t st.j A m c) ∧ DecI w (W4.setCell ⟨c7, i, none⟩ x) p b4 c7 b10 it all rv o st' A' m' c' ev' s pos := by
  obtain ⟨l0, l1, l2, l3, l4, l5⟩ := h.lts
  have hev : ∀ k, k ≤ it → ev.ownBlock ≠ some k := fun k hk e => by have := h.ob k e; omega
  have h7 : W4.heap[c7]? = some (callObj o st.q st.k st.t st.j A m c) := (hb.block c7 (Nat.lt_of_lt_of_le (by omega) hk.size)).trans ((hk.block c7 (by omega) (by omega) (by omega) (hev _ (by omega))).trans h.box)
  have ht4 := ht.below hb
  have hset : ∀ k, k ≠ c7 → (W4.setCell ⟨c7, i, none⟩ x).heap[k]? = W4.heap[k]? := fun k hk => wheap_setN _ _ _ _ hk
  have hr7 : rv.ownBlock ≠ some c7 := own_obj ht4.rd.own h7 (callObj_u8 _ _ _ _ _ _ _ _)
  have hsz4 : (W4.setCell ⟨c7, i, none⟩ x).heap.size = W4.heap.size := by rw [World.size_setCell]
  have hob : ∀ g, ev'.ownBlock = some g → it < g := fun g hg => by
    rcases hn g hg with h4 | h4
    · exact h.ob g h4
    · omega
  refine ⟨h7, h.upd (hb.os.trans hk.os) (hb.tape.trans hk.tape) (hb.output.trans hk.output) (by rw [hsz4]; exact Nat.le_trans hk.size hb.size) (fun k h1 h2 h3 h4 h5 => (hset k h3).trans ((hb.block k (Nat.lt_of_lt_of_le h1 hk.size)).trans (hk.block k h1 h2 h4 h5))) ⟨(hset p (by omega)).trans ht4.rd.hp, nown_keep ht4.rd.own fun g hg => hset g (fun e => hr7 (by rw [hg, e])), ht4.rd.ne, ht4.rd.le, ht4.rd.hn, ht4.rd.hl⟩ ((hset b10 (by omega)).trans ht4.h10) (nown_keep ht4.own fun g hg => hset g (by have := hob g hg; omega)) hn ?_ ?_ ?_⟩
  · have h8 := wheap_set (i := i) (x := x) h7
    rw [hx] at h8
    exact h8
  · rcases hd with ⟨rfl, rfl, rfl, e⟩ | ⟨h8, h9⟩
    · rw [e]
      exact bat_keep h.bd fun a ha => by
        have ha' := h.ad a ha
        exact (hset _ (by omega)).trans ((hb.block _ (Nat.lt_of_lt_of_le ha'.2.1 hk.size)).trans (hk.block _ ha'.2.1 (by omega) (by omega) ha'.2.2))
    · exact bat_keep h8 fun a ha => hset _ (by have := (h9 a ha).1; have := hk.size; omega)
  · intro a ha
    rw [hsz4]
    rcases hd with ⟨rfl, rfl, rfl, e⟩ | ⟨h8, h9⟩
    · have ha' := h.ad a ha
      refine ⟨Or.inl ha, Nat.lt_of_lt_of_le ha'.2.1 (Nat.le_trans hk.size hb.size), fun e => ?_⟩
      rcases hn _ e with h4 | h4
      · exact ha'.2.2 h4
      · omega
    · refine ⟨Or.inr (Nat.le_trans hk.size (h9 a ha).1), (h9 a ha).2, fun e => ?_⟩
      have h10 := (nown_block ht.own e).2
      have := (h9 a ha).1
      omega
end Go.Proofs.YtgjbnebmcmoilaaGreatDoor
namespace Go.Proofs.YtgjbnebmcmoilaaGreatDoor
set_option linter.unusedVariables false
set_option linter.unusedSimpArgs false
open Go.RowKit Go.MapKept
/-- Behind a number of a part, the error's append, and both stores. -/
theorem dec_num {w W W2 W6 : World} {p b4 c7 b10 it n2 : Nat} {all : Bs} {rv : Value} {o er q' : Int} {st : DS} {A : Option Addr} {m c : Nat} {ev ev' : Value} {s : ByteArray} {pos : Nat} (h : DecI w W p b4 c7 b10 it all rv o st A m c ev s pos) (hr : RdAt W2 w.heap.size p all n2 rv) (hk : Kbut p W W2)
    (ho : OwnE W6 w.heap.size ev' (st.errs ++ [er])) (hg : (W2.alloc (.cells #[.int .i64 er] 24)).grownBy W6 ev.ownBlock) (hn : NewOwn (W2.alloc (.cells #[.int .i64 er] 24)) ev ev') :
    W6.heap[c7]? = some (callObj o st.q st.k st.t st.j A m c) ∧ (W6.setCell ⟨c7, 4, none⟩ (.int .i64 q')).heap[b10]? = some (.cells #[ev] 191 (0, 0)) ∧ DecI w ((W6.setCell ⟨c7, 4, none⟩ (.int .i64 q')).setCell ⟨b10, 0, none⟩ ev') p b4 c7 b10 it all rv o ⟨n2, st.errs ++ [er], q', st.k, st.t, st.j, st.d⟩ A m c ev' s pos := by
  obtain ⟨l0, l1, l2, l3, l4, l5⟩ := h.lts
  have hev : ∀ k, k ≤ it → ev.ownBlock ≠ some k := fun k hk e => by have := h.ob k e; omega
  have hb := below_alloc W2 (.cells #[.int .i64 er] 24)
  have hW6 : ∀ k, k < W.heap.size → k ≠ p → ev.ownBlock ≠ some k → W6.heap[k]? = W.heap[k]? := fun k h1 h2 h3 => (hg.block k (by rw [wsize_alloc]; have := hk.size; omega) (fun e => h3 e.symm)).trans ((hb.block k (by have := hk.size; omega)).trans (hk.block k h1 h2))
  have h7 : W6.heap[c7]? = some (callObj o st.q st.k st.t st.j A m c) := (hW6 c7 (by omega) (by omega) (hev _ (by omega))).trans h.box
  have h10 : W6.heap[b10]? = some (.cells #[ev] 191 (0, 0)) := (hW6 b10 (by omega) (by omega) (hev _ (by omega))).trans h.tx.h10
  have hset : ∀ k, k ≠ c7 → k ≠ b10 → ((W6.setCell ⟨c7, 4, none⟩ (.int .i64 q')).setCell ⟨b10, 0, none⟩ ev').heap[k]? = W6.heap[k]? := fun k h1 h2 => (wheap_setN _ _ _ _ h2).trans (wheap_setN _ _ _ _ h1)
  have hsz : ((W6.setCell ⟨c7, 4, none⟩ (.int .i64 q')).setCell ⟨b10, 0, none⟩ ev').heap.size = W6.heap.size := by rw [World.size_setCell, World.size_setCell]
  have hs6 : W.heap.size ≤ W6.heap.size := Nat.le_trans hk.size (Nat.le_trans hb.size hg.size)
  have hn' : NewOwn W ev ev' := NewOwn.earlier hn (Nat.le_trans hk.size hb.size)
  have hob : ∀ g, ev'.ownBlock = some g → it < g := fun g hg => by
    rcases hn' g hg with h4 | h4
    · exact h.ob g h4
    · omega
  have hr6 : W6.heap[p]? = W2.heap[p]? := (hg.block p (by rw [wsize_alloc]; have := hk.size; omega) (fun e => hev p (by omega) e.symm)).trans (hb.block p (by have := hk.size; omega))
  have hrv : ∀ g, rv.ownBlock = some g → W6.heap[g]? = W2.heap[g]? := fun g hgv => by
    have hgl := (nown_block hr.own hgv).2
    refine (hg.block g (by rw [wsize_alloc]; omega) fun e => ?_).trans (hb.block g hgl)
    rcases h.tx.rd.own.2 with ⟨rfl, _⟩ | ⟨g1, cap, cur, rfl, _, hbb, _⟩
    · cases hgv
    · rcases h.tx.own.2 with ⟨rfl, _⟩ | ⟨g2, cap2, cur2, rfl, _, hb2, _⟩
      · cases e
      · have e1 : g1 = g := by simpa [Value.ownBlock] using hgv
        have e2 : g = g2 := by simpa [Value.ownBlock] using e
        rw [e1] at hbb
        rw [← e2, hbb] at hb2
        injection hb2 with hb2
        injection hb2 with _ hb2
        exact absurd hb2 (by decide)
  refine ⟨h7, (wheap_setN _ _ _ _ (show b10 ≠ c7 by omega)).trans h10, h.upd (hg.os.trans (hb.os.trans hk.os)) (hg.tape.trans (hb.tape.trans hk.tape)) (hg.output.trans (hb.output.trans hk.output)) (by rw [hsz]; exact hs6) (fun k h1 h2 h3 h4 h5 => (hset k h3 h4).trans (hW6 k h1 h2 h5))
    ⟨(hset p (by omega) (by omega)).trans (hr6.trans hr.hp), nown_keep hr.own fun g hgv => (hset g (fun e => h.rvs.1 (by rw [hgv, e])) (fun e => h.tx.rne.1 (by rw [hgv, e]))).trans (hrv g hgv), hr.ne, hr.le, hr.hn, hr.hl⟩ (wheap_set ((wheap_setN _ _ _ _ (show b10 ≠ c7 by omega)).trans h10)) (nown_keep ho fun g hgv => hset g (by have := hob g hgv; omega) (by have := hob g hgv; omega)) hn' ?_ (bat_keep h.bd fun a ha => ?_) fun a ha => ?_⟩
  · exact (wheap_setN _ _ _ _ (show c7 ≠ b10 by omega)).trans (wheap_set (i := 4) (x := .int .i64 q') h7)
  · have ha' := h.ad a ha
    exact (hset _ (by omega) (by omega)).trans (hW6 _ ha'.2.1 (by omega) ha'.2.2)
  · have ha' := h.ad a ha
    rw [hsz]
    refine ⟨Or.inl ha, Nat.lt_of_lt_of_le ha'.2.1 hs6, fun e => ?_⟩
    rcases hn' _ e with h4 | h4
    · exact ha'.2.2 h4
    · omega
theorem strR_size (l : Bs) (most : Int) : (strR l most).1.size ≤ l.length := by
  have h0 : (strOf []).size = 0 := rfl
  have h1 : ∀ x : Bs, (strOf x).size = x.length := fun x => rfl
  unfold strR
  split
  · unfold strR1
    split
    · rw [h0]; omega
    · split
      · rw [h0]; omega
      · split
        · rw [h0]; omega
        · dsimp only
          rw [h1, List.length_take, List.length_drop]
          omega
  · rw [h0]; omega
def decStep (all : Bs) (st : DS) (ch : UInt8) : DS :=
  if ch.toNat = 107 then ⟨st.n + (strR (all.drop st.n) 100).2.2, st.errs ++ [(strR (all.drop st.n) 100).2.1], st.q, (strR (all.drop st.n) 100).1, st.t, st.j, st.d⟩
  else if ch.toNat = 111 then ⟨st.n + (strR (all.drop st.n) 100).2.2, st.errs ++ [(strR (all.drop st.n) 100).2.1], st.q, st.k, (strR (all.drop st.n) 100).1, st.j, st.d⟩
  else if ch.toNat = 113 then ⟨st.n + (numM (all.drop st.n) maxU).2.2, st.errs ++ [(numM (all.drop st.n) maxU).2.1], wrap64 (numM (all.drop st.n) maxU).1, st.k, st.t, st.j, st.d⟩
  else if ch.toNat = 105 then ⟨st.n + (strR (all.drop st.n) 100).2.2, st.errs ++ [(strR (all.drop st.n) 100).2.1], st.q, st.k, st.t, (strR (all.drop st.n) 100).1, st.d⟩
  else ⟨st.n + (strR (all.drop st.n) 65536).2.2, st.errs ++ [(strR (all.drop st.n) 65536).2.1], st.q, st.k, st.t, st.j, bsOf (strR (all.drop st.n) 65536).1⟩
theorem decStep_errs (all : Bs) (st : DS) (ch : UInt8) : (decStep all st ch).errs.length = st.errs.length + 1 := by
  unfold decStep
  split
  · simp
  · split
    · simp
    · split
      · simp
      · split <;> simp
def DS0 : DS := ⟨1, [], 0, ⟨#[]⟩, ⟨#[]⟩, ⟨#[]⟩, []⟩
def decTo (all : Bs) (ps : List UInt8) : DS := ps.foldl (decStep all) DS0
theorem decTo_snoc (all : Bs) (ps : List UInt8) (ch : UInt8) : decTo all (ps ++ [ch]) = decStep all (decTo all ps) ch := by
  unfold decTo
  rw [List.foldl_append]
  rfl
theorem decTo_errs (all : Bs) (ps : List UInt8) : (decTo all ps).errs.length = ps.length := by
  have key : ∀ (ps : List UInt8) (st : DS), (ps.foldl (decStep all) st).errs.length = st.errs.length + ps.length := by
    intro ps
    induction ps with
    | nil => intro st; simp
    | cons a b ih => intro st; rw [List.foldl_cons, ih, decStep_errs, List.length_cons]; omega
  unfold decTo
  rw [key]
  simp [DS0]
end Go.Proofs.YtgjbnebmcmoilaaGreatDoor
