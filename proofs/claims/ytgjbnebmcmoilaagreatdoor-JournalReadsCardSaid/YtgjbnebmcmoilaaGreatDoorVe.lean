/- Appending a call that is not valid, or one too many; the journal's small methods. Appends of calls; slices.Clone of calls; a journal's calls. The law's model of a journal: begun, has. The law's same and equal. -/
import Derived.Test.YtgjbnebmcmoilaaGreatDoorVd
namespace Go.Proofs.YtgjbnebmcmoilaaGreatDoor
set_option linter.unusedVariables false
set_option linter.unusedSimpArgs false
open Go.RowKit Go.MapKept
set_option maxRecDepth 100000 in
set_option maxHeartbeats 2000000 in
theorem jappend_bad (w : World) (B p : Nat) (r s i u : Int) (data : Bs) (sum : Int) (l : List JC) (dv cv : Value) (h : JrAt w B p r s i u data sum l dv cv) (hE : Env1 w)
    (o : Int) (q : Int) (k t j : ByteArray) (A : Option Addr) (n c : Nat) (hv : validB o q k t j n = false) (hk : k.size ≤ 100000) (ht : t.size ≤ 100000) (hj : j.size ≤ 100000) :
    Calls Tryz.prog 10 #[.pointer (some ⟨p, 0, none⟩), .agg #[.int .i64 o, .string k, .string t, .string j, .int .i64 q, .slice A n c]] w fun e w' => e = .returned (.int .i64 2) ∧ Below w.heap.size w w' := by
  have HN := Lib.hid (fun W (hb : Below w.heap.size w W) => jnone_any W B p r s i u data sum l dv cv (h.below hb))
  have HV : Hid (∀ W, Below w.heap.size w W → Calls Tryz.prog 34 #[.agg #[.int .i64 o, .string k, .string t, .string j, .int .i64 q, .slice A n c]] W fun e w' => e = .returned (.bool false) ∧ Below W.heap.size W w') := Lib.hid fun W hb => by
    have := valid_any o q k t j A n c hk ht hj W (hE.below hb)
    rw [hv] at this
    exact this
  clear h hE hv hk ht hj
  go_enter Tryz.func10, Tryz.ntmps10
  go_wp2_with (first | (go_at_call 33; refine (HN.out _ (below_alloc _ _)).mono ?_; rintro e w1 ⟨rfl, hw⟩; obtain rfl := hw.symm; clear hw) | (go_at_call 34; refine (HV.out _ (below_alloc _ _)).mono ?_; rintro e w2 ⟨rfl, hb⟩; have HB2 := Lib.hid (nbl_step (below_alloc _ _) hb); clear hb))
  go_ret
  exact ⟨rfl, HB2.out⟩
set_option maxRecDepth 100000 in
set_option maxHeartbeats 2000000 in
theorem jappend_full (w : World) (B p : Nat) (r s i u : Int) (data : Bs) (sum : Int) (l : List JC) (dv cv : Value) (h : JrAt w B p r s i u data sum l dv cv) (hE : Env1 w)
    (o : Int) (q : Int) (k t j : ByteArray) (A : Option Addr) (n c : Nat) (hv : validB o q k t j n = true) (hk : k.size ≤ 100000) (ht : t.size ≤ 100000) (hj : j.size ≤ 100000) (hl : 2000 ≤ l.length) :
    Calls Tryz.prog 10 #[.pointer (some ⟨p, 0, none⟩), .agg #[.int .i64 o, .string k, .string t, .string j, .int .i64 q, .slice A n c]] w fun e w' => e = .returned (.int .i64 7) ∧ Below w.heap.size w w' := by
  have HN := Lib.hid (fun W (hb : Below w.heap.size w W) => jnone_any W B p r s i u data sum l dv cv (h.below hb))
  have HV : Hid (∀ W, Below w.heap.size w W → Calls Tryz.prog 34 #[.agg #[.int .i64 o, .string k, .string t, .string j, .int .i64 q, .slice A n c]] W fun e w' => e = .returned (.bool true) ∧ Below W.heap.size W w') := Lib.hid fun W hb => by
    have := valid_any o q k t j A n c hk ht hj W (hE.below hb)
    rw [hv] at this
    exact this
  obtain ⟨A7, c7, rfl⟩ := calls_len h
  have z7 : w.cell? ⟨p, 7, none⟩ = some (.slice A7 l.length c7) := wcell_at h.hp
  have dl : decide ((2000 : Int) ≤ (l.length : Int)) = true := decide_eq_true (by omega)
  obtain ⟨L, hL⟩ : ∃ L, l.length = L := ⟨_, rfl⟩
  rw [hL] at z7 dl
  clear hL h hE hv hk ht hj hl
  go_enter Tryz.func10, Tryz.ntmps10
  go_wp2_with (first | (go_at_call 33; refine (HN.out _ (below_alloc _ _)).mono ?_; rintro e w1 ⟨rfl, hw⟩; obtain rfl := hw.symm; clear hw) | (go_at_call 34; refine (HV.out _ (below_alloc _ _)).mono ?_; rintro e w2 ⟨rfl, hb⟩; have HB2 := Lib.hid (nbl_step (below_alloc _ _) hb); clear hb; have y7 := cell_below HB2.out z7))
  go_ret
  exact ⟨rfl, HB2.out⟩
set_option maxRecDepth 100000 in
theorem jsum_any (W : World) (B p : Nat) (r s i o : Int) (data : Bs) (sum : Int) (l : List JC) (dv cv : Value) (h : JrAt W B p r s i o data sum l dv cv) : Calls Tryz.prog 43 #[.pointer (some ⟨p, 0, none⟩)] W fun e w' => e = .returned (.int .u32 sum) ∧ w' = W := by
  have HN := Lib.hid (jnone_any W B p r s i o data sum l dv cv h)
  have c6 : W.cell? ⟨p, 6, none⟩ = some (.int .u32 sum) := wcell_at h.hp
  clear h
  go_enter Tryz.func43, Tryz.ntmps43
  go_wp2_with (first | (go_at_call 33; refine HN.out.mono ?_; rintro e w1 ⟨rfl, hw⟩; obtain rfl := hw.symm; clear hw))
  go_ret
  exact ⟨rfl, rfl⟩
set_option maxRecDepth 100000 in
theorem jconfig_any (W : World) (B p : Nat) (r s i o : Int) (data : Bs) (sum : Int) (l : List JC) (dv cv : Value) (h : JrAt W B p r s i o data sum l dv cv) : Calls Tryz.prog 44 #[.pointer (some ⟨p, 0, none⟩)] W fun e w' => e = .returned (.agg #[.int .i64 r, .int .i64 s, .int .i64 i, .int .i64 o]) ∧ Below W.heap.size W w' := by
  have HN := Lib.hid (fun W' (hb : Below W.heap.size W W') => jnone_any W' B p r s i o data sum l dv cv (h.below hb))
  have c1 : W.cell? ⟨p, 1, none⟩ = some (.int .i64 r) := wcell_at h.hp
  have c2 : W.cell? ⟨p, 2, none⟩ = some (.int .i64 s) := wcell_at h.hp
  have c3 : W.cell? ⟨p, 3, none⟩ = some (.int .i64 i) := wcell_at h.hp
  have c4 : W.cell? ⟨p, 4, none⟩ = some (.int .i64 o) := wcell_at h.hp
  have hlt := h.lt
  have e1 := cell_below (below_alloc W (.cells #[.int .i64 0, .int .i64 0, .int .i64 0, .int .i64 0] 28)) c1
  have e2 := cell_below (below_alloc W (.cells #[.int .i64 0, .int .i64 0, .int .i64 0, .int .i64 0] 28)) c2
  have e3 := cell_below (below_alloc W (.cells #[.int .i64 0, .int .i64 0, .int .i64 0, .int .i64 0] 28)) c3
  have e4 := cell_below (below_alloc W (.cells #[.int .i64 0, .int .i64 0, .int .i64 0, .int .i64 0] 28)) c4
  clear h c1 c2 c3 c4
  go_enter Tryz.func44, Tryz.ntmps44
  go_wp2_with (first | (go_at_call 33; refine (HN.out _ (below_alloc _ _)).mono ?_; rintro e w1 ⟨rfl, hw⟩; obtain rfl := hw.symm; clear hw))
  refine bodyPost_ret (results_cell_row rfl _ _ _ _ _ _ _ rfl (heap_alloc_new _ _) Tryz.underlying28 rfl (by kernel_rfl)) rfl ?_
  exact ⟨rfl, below_alloc _ _⟩
/-- bytes.Clone: the bytes are the caller's own. -/
theorem bclone_own (w : World) (A : Option Addr) (n c : Nat) (d : Bs) (h : BAt w (.slice A n c) d) (hl : d.length ≤ 10000000) : Calls Tryz.prog 36 #[.slice A n c] w fun e w' => (∃ A' c', e = .returned (.slice A' n c') ∧ OwnB w' w.heap.size (.slice A' n c') d) ∧ Below w.heap.size w w' := by
  have hn : d.length = n := by
    obtain ⟨A', c', e, _⟩ := id h
    injection e with _ e2
    exact e2.symm
  cases A with
  | none =>
    have h0 : n = 0 := by
      obtain ⟨A', c', e, h1, h2, h3⟩ := id h
      rcases Nat.eq_zero_or_pos n with h0 | h0
      · exact h0
      · obtain ⟨b, off, e2, _⟩ := h3 (by omega)
        injection e with e3
        rw [e2] at e3
        cases e3
    subst h0
    obtain rfl : d = [] := List.eq_nil_of_length_eq_zero hn
    refine (Tryz.bytes_Clone_nil 0 c w).mono ?_
    rintro e w' ⟨rfl, hw⟩
    obtain rfl := hw.symm
    exact ⟨⟨none, 0, rfl, nown_none _ _ _ _⟩, Below.refl _ _⟩
  | some a =>
    refine (Tryz.bytes_Clone_at a n c (d.map fun b => (b.toNat : Int)) w (by simpa using hn) (by omega) fun i hi => ?_).mono ?_
    · have hi' : i < d.length := by omega
      obtain ⟨g, off, f⟩ := a
      obtain ⟨b, o, e, hc⟩ := h.elem hi'
      injection e with e
      injection e with e1 e2 e3
      subst e1; subst e2; subst e3
      have hadd : (⟨g, off, none⟩ : Addr).add i = ⟨g, off + i, none⟩ := by unfold Addr.add; split <;> simp_all
      have := h.cells i hi'
      rw [hadd, this]
      simp [hi', byteV]
    · rintro e w' ⟨v', rfl, ho, hne, hb⟩
      have ho' : OwnB w' w.heap.size v' d := by
        unfold OwnB
        rw [hn, byteV_map]
        exact ho
      obtain ⟨A', m', c', rfl⟩ := own_slice ho'
      have hs := ho'.sl
      have hm : m' = n := by
        obtain ⟨A2, c2, e2, _⟩ := id hs
        injection e2 with _ e3
        omega
      subst hm
      exact ⟨⟨A', c', rfl, ho'⟩, hb⟩
set_option maxRecDepth 100000 in
theorem jbytes_any (W : World) (B p : Nat) (r s i o : Int) (data : Bs) (sum : Int) (l : List JC) (dv cv : Value) (h : JrAt W B p r s i o data sum l dv cv) (hl : data.length ≤ 10000000) : Calls Tryz.prog 15 #[.pointer (some ⟨p, 0, none⟩)] W fun e w' => (∃ v, e = .returned v ∧ OwnB w' W.heap.size v data) ∧ Below W.heap.size W w' := by
  have HN := Lib.hid (jnone_any W B p r s i o data sum l dv cv h)
  obtain ⟨A, n, c, rfl⟩ := own_slice h.dat
  have c5 : W.cell? ⟨p, 5, none⟩ = some (.slice A n c) := wcell_at h.hp
  have HC := Lib.hid (bclone_own W A n c data h.dat.sl hl)
  clear h hl
  go_enter Tryz.func15, Tryz.ntmps15
  go_wp2_with (first | (go_at_call 33; refine HN.out.mono ?_; rintro e w1 ⟨rfl, hw⟩; obtain rfl := hw.symm; clear hw) | (go_at_call 36; refine HC.out.mono ?_; rintro e w2 ⟨⟨A2, c2, rfl, ho⟩, hb⟩; have HO := Lib.hid ho; have HB := Lib.hid hb; clear ho hb))
  go_ret
  exact ⟨⟨_, rfl, HO.out⟩, HB.out⟩
set_option maxRecDepth 100000 in
theorem config_any (W : World) : Calls Tryz.prog 8 #[] W fun e w' => e = .returned (.agg #[.int .i64 1, .int .i64 4, .int .i64 2, .int .i64 3]) ∧ Below W.heap.size W w' := by
  go_enter Tryz.func8, Tryz.ntmps8
  go_wp2_with fail
  refine bodyPost_ret (results_cell_row rfl _ _ _ _ _ _ _ rfl (heap_alloc_new _ _) Tryz.underlying28 rfl (by kernel_rfl)) rfl ?_
  exact ⟨rfl, below_alloc _ _⟩
set_option maxRecDepth 100000 in
theorem get_any (W : World) : Calls Tryz.prog 11 #[] W fun e w' => e = .returned (.agg #[.int .i64 4, .string ⟨#[107]⟩, .string ⟨#[]⟩, .string ⟨#[]⟩, .int .i64 0, .slice none 0 0]) ∧ Below W.heap.size W w' := by
  go_enter Tryz.func11, Tryz.ntmps11
  go_wp2_with fail
  refine bodyPost_ret (results_cell_row rfl _ _ _ _ _ _ _ rfl (heap_alloc_new _ _) Tryz.underlying40 rfl (by kernel_rfl)) rfl ?_
  exact ⟨rfl, below_alloc _ _⟩
end Go.Proofs.YtgjbnebmcmoilaaGreatDoor
namespace Go.Proofs.YtgjbnebmcmoilaaGreatDoor
set_option linter.unusedVariables false
set_option linter.unusedSimpArgs false
open Go.RowKit Go.MapKept
abbrev OwnJ (w : World) (B : Nat) (v : Value) (l : List JC) : Prop := w.ownsRow B 40 6 v l.length (l.flatMap JC.cells)
theorem JC.cells_len (x : JC) : x.cells.length = 6 := rfl
theorem ownJ_slice {w : World} {B : Nat} {v : Value} {l : List JC} (h : OwnJ w B v l) : v = .slice none 0 0 ∧ l = [] ∨ ∃ g c, v = Value.slice (some ⟨g, 0, none⟩) l.length c := by
  rcases h.2 with ⟨e, h0⟩ | ⟨g, cap, cur, e, _⟩
  · exact Or.inl ⟨e, List.eq_nil_of_length_eq_zero h0⟩
  · exact Or.inr ⟨g, cap, e⟩
abbrev JSl (w : World) (v : Value) (l : List JC) : Prop := SlAt 6 JC.cells w v l
theorem OwnJ.sl {w : World} {B : Nat} {v : Value} {l : List JC} (h : OwnJ w B v l) : JSl w v l := slAt_of_own (fun _ => rfl) h
theorem jc_one {l : List JC} : ∀ u ∈ l.flatMap JC.cells, u.oneCell' = true := fun u hu => by
  obtain ⟨x, _, hx⟩ := List.mem_flatMap.1 hu
  unfold JC.cells at hx
  simp at hx
  rcases hx with rfl | rfl | rfl | rfl | rfl | rfl <;> rfl
theorem jc_flat_len (l : List JC) : (l.flatMap JC.cells).length = l.length * 6 := by
  induction l with
  | nil => rfl
  | cons x xs ih => rw [List.flatMap_cons, List.length_append, ih, JC.cells_len, List.length_cons]; omega
theorem capp_at {W : World} {B : Nat} {v : Value} {A : Option Addr} {n c : Nat} {l news : List JC} (ho : OwnJ W B v l) (hx : JSl W (.slice A n c) news) (hlen : l.length + news.length ≤ 100000) (hB : B ≤ W.heap.size) :
    ∃ v' w', (∀ ty, (Builtin.append_ #[30, 30] ty #[v, .slice A n c]).run Tryz.prog W = .ok v' w') ∧ OwnJ w' B v' (l ++ news) ∧ W.grownBy w' v.ownBlock ∧ NewOwn W v v' := by
  obtain ⟨A', c', e, hc1, hc2, hh⟩ := id hx
  injection e with e1 e2 e3
  subst e1; subst e2; subst e3
  by_cases h0 : 0 < news.length
  · obtain ⟨b, off, rfl, hcell⟩ := hh h0
    obtain ⟨ic, hi0, hi1, hi2, hi3⟩ := info_parts infoc_call
    obtain ⟨g, cap, w', hr, h2, h3, h4, h5⟩ := run_append_lies (P := Tryz.prog) (w := W) 30 0 B 40 ic _ 6 88 Tryz.underlying30 hi0 hi1 hi2 hi3 rfl (by omega) v l.length (l.flatMap JC.cells) ho ⟨b, off, none⟩ news.length c (news.flatMap JC.cells) (jc_flat_len news)
      (fun j u hu => by
        have hj := (List.getElem?_eq_some_iff.1 hu).1
        rw [jc_flat_len] at hj
        have hi : j / 6 < news.length := by omega
        have hq := flatMap_at JC.cells 6 (fun _ => rfl) news (j / 6) hi (j % 6) (by omega)
        rw [show j / 6 * 6 + j % 6 = j by omega, hu] at hq
        have := hcell (j / 6) hi (j % 6) u hq.symm
        have hadd : (⟨b, off, none⟩ : Addr).add j = ⟨b, off + j, none⟩ := by unfold Addr.add; split <;> simp_all
        rw [hadd]
        rw [show off + j / 6 * 6 + j % 6 = off + j by omega] at this
        exact this) jc_one h0 (by unfold maxLen; omega) (by omega) hB _ rfl
    refine ⟨_, w', fun ty => hr, ?_, h3, fun k hk => ?_⟩
    · unfold OwnJ
      rw [List.length_append, List.flatMap_append]
      exact h2
    · have : g = k := by simpa [Value.ownBlock] using hk
      subst this
      rcases h4 with h4 | h4
      · exact Or.inl h4
      · exact Or.inr (Nat.le_of_eq h4.symm)
  · obtain rfl : news = [] := List.eq_nil_of_length_eq_zero (by omega)
    obtain ⟨ic, hi0, hi1, hi2, hi3⟩ := info_parts infoc_call
    exact ⟨v, W, fun ty => run_append_empty (P := Tryz.prog) W B 30 ty 40 ic 6 Tryz.underlying30 hi0 v l.length (l.flatMap JC.cells) ho A c, by rw [List.append_nil]; exact ho, ⟨rfl, rfl, rfl, Nat.le_refl _, fun _ _ _ => rfl⟩, fun b hb => Or.inl hb⟩
theorem capp_slice {w : World} {B : Nat} {v : Value} {l : List JC} (h : OwnJ w B v l) : ∃ A c, v = .slice A l.length c := by
  rcases ownJ_slice h with ⟨rfl, rfl⟩ | ⟨g, c, rfl⟩
  · exact ⟨_, _, rfl⟩
  · exact ⟨_, _, rfl⟩
set_option maxRecDepth 100000 in
set_option maxHeartbeats 1000000 in
theorem clone_calls (w : World) (B : Nat) (v : Value) (l : List JC) (h : OwnJ w B v l) (hl : l.length ≤ 50000) : Calls Tryz.prog 51 #[v] w fun e w' => (∃ r, e = .returned r ∧ OwnJ w' w.heap.size r l) ∧ Below w.heap.size w w' := by
  rcases ownJ_slice h with ⟨rfl, rfl⟩ | ⟨b, c, rfl⟩
  · have hq : ∀ W, (binOp .eql 30 (.slice none 0 0) (.slice none 0 0)).run Tryz.prog W = .ok (.bool true) W := fun W => Lib.run_eql_slice_nil W _ _ none 0 0 0 0 Tryz.underlying30
    clear h
    go_enter Tryz.func51, Tryz.ntmps51
    go_wp2_with fail
    go_ret
    exact ⟨⟨_, rfl, nown_none _ _ _ _⟩, Below.refl _ _⟩
  · have hq : ∀ W, (binOp .eql 30 (.slice (some ⟨b, 0, none⟩) l.length c) (.slice none 0 0)).run Tryz.prog W = .ok (.bool false) W := fun W => Lib.run_eql_slice_nil W _ _ (some ⟨b, 0, none⟩) l.length c 0 0 Tryz.underlying30
    have hown : OwnJ (w.alloc (.cells #[] 40)) w.heap.size (.slice (some ⟨w.heap.size, 0, none⟩) 0 0) [] := nown_new w #[] 40 6 0 w.heap.size rfl (by omega) (Nat.le_refl _)
    obtain ⟨v', w6, hr6, ho6, hg6, hv6⟩ := capp_at hown (h.sl.below (below_alloc _ _)) (by simp; omega) (by rw [wsize_alloc]; omega)
    have HR := Lib.hid hr6
    have HO := Lib.hid ho6
    have HB : Hid (Below w.heap.size w w6) := Lib.hid (Below.grown (below_alloc w _) hg6 (by rw [wsize_alloc]; omega) fun k hk => (nown_block hown hk).1)
    obtain ⟨A6, c6, hv'⟩ := capp_slice ho6
    subst hv'
    obtain ⟨L, hL⟩ : ∃ L, l.length = L := ⟨_, rfl⟩
    clear h hown hr6 ho6 hg6 hv6
    simp only [List.nil_append] at HR HO
    rw [hL] at HR HO hq ⊢
    go_enter Tryz.func51, Tryz.ntmps51
    go_wp2_with (first | (at_builtin; refine wpList_append_eq HR.out rfl (.tmp 5) (.tmp 6) rfl rfl rfl ?_))
    go_ret
    exact ⟨⟨_, rfl, HO.out⟩, HB.out⟩
/-- What of a call is compared. -/
def JC.key (x : JC) : Int × Int × ByteArray × ByteArray × ByteArray × Bs := (x.o, x.q, x.k, x.t, x.j, x.d)
def JC.with (x : JC) (A : Option Addr) (c : Nat) : JC := ⟨x.o, x.q, x.k, x.t, x.j, A, x.n, c, x.d⟩
/-- The loop of Calls. -/
structure ClI (w W : World) (v : Value) (l lm : List JC) (m : Nat) : Prop where
  own : OwnJ W w.heap.size v lm
  keys : lm.map JC.key = l.map JC.key
  done : ∀ i y, i < m → lm[i]? = some y → OwnB W w.heap.size (.slice y.A y.n y.c) y.d
  todo : ∀ i, m ≤ i → lm[i]? = l[i]?
  bel : Below w.heap.size w W
theorem ClI.len {w W : World} {v : Value} {l lm : List JC} {m : Nat} (h : ClI w W v l lm m) : lm.length = l.length := by
  have := congrArg List.length h.keys
  simpa using this
theorem flat_set (l : List JC) (m : Nat) (x : JC) (u : Value) (y : JC) (hx : l[m]? = some x) (hy : y.cells = x.cells.set 5 u) : (l.set m y).flatMap JC.cells = (l.flatMap JC.cells).set (m * 6 + 5) u := by
  induction l generalizing m with
  | nil => cases hx
  | cons a rest ih =>
    cases m with
    | zero =>
      obtain rfl : a = x := by simpa using hx
      rw [List.set_cons_zero, List.flatMap_cons, List.flatMap_cons, hy]
      rfl
    | succ m =>
      rw [List.set_cons_succ, List.flatMap_cons, List.flatMap_cons, ih m (by simpa using hx)]
      rw [show (m + 1) * 6 + 5 = a.cells.length + (m * 6 + 5) by rw [JC.cells_len]; omega]
      rw [List.set_append_right _ _ (by omega)]
      congr 2
      omega
theorem ClI.step {w W W2 : World} {g n c : Nat} {l lm : List JC} {m : Nat} (h : ClI w W (.slice (some ⟨g, 0, none⟩) n c) l lm m) {x : JC} (hx : l[m]? = some x) {A' : Option Addr} {c' : Nat} (hb : Below W.heap.size W W2) (ho : OwnB W2 W.heap.size (.slice A' x.n c') x.d) :
    ClI w (W2.setCell ⟨g, m * 6 + 5, none⟩ (.slice A' x.n c')) (.slice (some ⟨g, 0, none⟩) n c) l (lm.set m (x.with A' c')) (m + 1) := by
  have hxm : lm[m]? = some x := (h.todo m (Nat.le_refl _)).trans hx
  have hml : m < lm.length := (List.getElem?_eq_some_iff.1 hxm).1
  have ho2 := nown_below h.own hb
  have hnl : n = lm.length := by
    rcases h.own.2 with ⟨e, _⟩ | ⟨g', cap, cur, e, _⟩
    · cases e
    · injection e
  have hgw : w.heap.size ≤ g := (nown_block h.own (g := g) rfl).1
  have hgW : g < W.heap.size := (nown_block h.own (g := g) rfl).2
  refine ⟨?_, ?_, fun i y hi hy => ?_, fun i hi => ?_, ?_⟩
  · unfold OwnJ at ho2 ⊢
    rw [List.length_set, flat_set lm m x (.slice A' x.n c') (x.with A' c') hxm rfl]
    subst hnl
    exact (World.ownsRow.stored ho2 _ _).1
  · rw [List.map_set, h.keys]
    have : (l.map JC.key)[m]? = some (x.with A' c').key := by
      rw [List.getElem?_map, hx]
      rfl
    obtain ⟨h1, h2⟩ := List.getElem?_eq_some_iff.1 this
    rw [← h2]
    exact List.set_getElem_self h1
  · rw [List.getElem?_set] at hy
    split at hy
    · rename_i e
      injection hy with hy
      subst hy
      exact nown_base (nown_keep ho fun k hk => wheap_setN _ _ _ _ (by have := (nown_block ho hk).1; show k ≠ g; omega)) h.bel.size
    · rename_i e
      have hd := h.done i y (by omega) hy
      exact nown_keep (nown_below hd hb) fun k hk => wheap_setN _ _ _ _ (fun e => own_types hd h.own hk (by rw [show k = g from e]; rfl))
  · rw [List.getElem?_set]
    split
    · omega
    · exact h.todo i (by omega)
  · exact wbelow_set (nbl_step h.bel hb) hgw _
/-- What Calls returns. -/
structure Fresh (w W : World) (v : Value) (l lm : List JC) : Prop where
  own : OwnJ W w.heap.size v lm
  keys : lm.map JC.key = l.map JC.key
  data : ∀ y ∈ lm, OwnB W w.heap.size (.slice y.A y.n y.c) y.d
theorem ClI.all {w W : World} {v : Value} {l lm : List JC} (h : ClI w W v l lm l.length) : Fresh w W v l lm ∧ Below w.heap.size w W :=
  ⟨⟨h.own, h.keys, fun y hy => by
    obtain ⟨i, hi⟩ := List.mem_iff_getElem?.1 hy
    exact h.done i y (by have := (List.getElem?_eq_some_iff.1 hi).1; rw [h.len] at this; exact this) hi⟩, h.bel⟩
set_option maxRecDepth 100000 in
set_option maxHeartbeats 2000000 in
theorem jcalls_any (w : World) (B p : Nat) (r s i o : Int) (data : Bs) (sum : Int) (l : List JC) (dv cv : Value) (h : JrAt w B p r s i o data sum l dv cv) (hl : l.length ≤ 50000) (hdl : ∀ x ∈ l, x.d.length ≤ 10000000) : Calls Tryz.prog 28 #[.pointer (some ⟨p, 0, none⟩)] w fun e w' => (∃ v lm, e = .returned v ∧ Fresh w w' v l lm) ∧ Below w.heap.size w w' := by
  have HN := Lib.hid (jnone_any w B p r s i o data sum l dv cv h)
  have HC := Lib.hid (clone_calls w B cv l h.cls hl)
  have HH := Lib.hid h
  have HD := Lib.hid hdl
  have HLL := Lib.hid hl
  have c7 : w.cell? ⟨p, 7, none⟩ = some cv := wcell_at h.hp
  clear h hl hdl
  go_enter Tryz.func28, Tryz.ntmps28
  go_wp2_with (first | (go_at_call 33; refine HN.out.mono ?_; rintro e w1 ⟨rfl, hw⟩; obtain rfl := hw.symm; clear hw) | (go_at_call 51; refine HC.out.mono ?_; rintro e w2 ⟨⟨r2, rfl, ho⟩, hb⟩; obtain ⟨A2, m2, hr2⟩ := capp_slice ho; subst hr2; have HO := Lib.hid ho; have HB := Lib.hid hb; clear ho hb))
  obtain ⟨L, hL⟩ : ∃ L, l.length = L := ⟨_, rfl⟩
  have HL := Lib.hid hL
  rw [hL] at HO ⊢
  clear hL c7
  go_loopg [14] L (fun gf u14 wx => ∃ (m : Nat) (lm : List JC), u14 = .int .i64 (m : Int) ∧ m + gf = L ∧ ClI w wx (.slice A2 L m2) l lm m)
  case atStart => exact ⟨0, l, rfl, by omega, ⟨HO.out, rfl, fun i y hi => absurd hi (by omega), fun i hi => rfl, HB.out⟩⟩
  case round =>
    obtain ⟨m, lm, rfl, hm, hI⟩ := hrel
    have HI := Lib.hid hI
    by_cases hlt : m < L
    · obtain ⟨g', rfl⟩ : ∃ g', gk = g' + 1 := ⟨gk - 1, by omega⟩
      have hml : m < l.length := by rw [HL.out]; exact hlt
      obtain ⟨x, hx⟩ : ∃ x, l[m]? = some x := ⟨_, List.getElem?_eq_getElem hml⟩
      have hxm : lm[m]? = some x := (hI.todo m (Nat.le_refl _)).trans hx
      obtain ⟨g, rfl⟩ : ∃ g, A2 = some ⟨g, 0, none⟩ := by
        rcases hI.own.2 with ⟨e, h0⟩ | ⟨g', cap, cur, e, _⟩
        · have := hI.len
          rw [h0, HL.out] at this
          omega
        · injection e with e1
          exact ⟨g', e1⟩
      obtain ⟨hmm, hxe⟩ := List.getElem?_eq_some_iff.1 hxm
      obtain ⟨b, off, e, hcs⟩ := SlAt.elem (OwnJ.sl hI.own) hmm
      injection e with e
      injection e with e1 e2 e3
      subst e1; subst e2
      rw [hxe] at hcs
      have c5 : wr.cell? ⟨g, m * 6 + 5, none⟩ = some (.slice x.A x.n x.c) := by
        have := hcs 5 _ rfl
        simpa using this
      have f5 : wr.frozen? ⟨g, m * 6 + 5, none⟩ = false := by
        have hnl : L = lm.length := by rw [hI.len, HL.out]
        have ho := hI.own
        subst hnl
        exact World.ownsRow.frozenAt ho _
      have hxl : x ∈ l := List.mem_of_getElem? hx
      have HX := Lib.hid hx
      have HCL := Lib.hid (bclone_own wr x.A x.n x.c x.d ((HH.out.each x hxl).1.below hI.bel) (HD.out x hxl))
      clear hI hx hxm hxe hcs hml hmm hxl
      go_wp2_with (first | (go_at_call 36; refine HCL.out.mono ?_; rintro e w5 ⟨⟨A5, c5', rfl, ho5⟩, hb5⟩; have HI5 := Lib.hid (HI.out.step HX.out hb5 ho5); have k5 := cell_below hb5 c5; have kf5 : w5.frozen? ⟨g, m * 6 + 5, none⟩ = false := (hb5.frozen (p := ⟨g, m * 6 + 5, none⟩) (nown_block HI.out.own (g := g) rfl).2).trans f5; clear ho5 hb5))
      go_roundg g'
      case measure => omega
      case rel => exact ⟨m + 1, _, by rw [Go.IntWalk.wrap64_in _ ⟨by have h1 := HLL.out; have h2 := HL.out; omega, by have h1 := HLL.out; have h2 := HL.out; omega⟩]; rfl, by omega, HI5.out⟩
    · have e : m = L := by omega
      subst e
      go_wp2_with fail
      go_ret
      exact ⟨⟨_, _, rfl, (ClI.all (by rw [HL.out]; exact HI.out)).1⟩, HI.out.bel⟩
end Go.Proofs.YtgjbnebmcmoilaaGreatDoor
namespace Go.Proofs.YtgjbnebmcmoilaaGreatDoor
set_option linter.unusedVariables false
set_option linter.unusedSimpArgs false
open Go.RowKit Go.MapKept
theorem bat_keep0 {W W' : World} {A : Option Addr} {n c : Nat} {d : Bs} (h : BAt W (.slice A n c) d) (hk : ∀ a, A = some a → 0 < n → W'.heap[a.block]? = W.heap[a.block]?) : BAt W' (.slice A n c) d := by
  obtain ⟨A', c', e, hl, hm, hc⟩ := h
  injection e with e1 e2 e3
  subst e1; subst e3
  refine ⟨A, c, by rw [e2], hl, hm, fun h0 => ?_⟩
  obtain ⟨b, off, e, h1⟩ := hc h0
  exact ⟨b, off, e, fun i hi j u hu => (World.cell?_of_block (a := ⟨b, off + i * 1 + j, none⟩) (hk ⟨b, off, none⟩ e (by omega))).trans (h1 i hi j u hu)⟩
theorem bat_lt {W : World} {a : Addr} {n c : Nat} {d : Bs} (h : BAt W (.slice (some a) n c) d) (h0 : 0 < n) : a.block < W.heap.size := by
  obtain ⟨A', c', e, hl, hm, hc⟩ := h
  injection e with e1 e2 e3
  obtain ⟨b, off, e, h1⟩ := hc (by omega)
  rw [← e1] at e
  injection e with e
  subst e
  have h2 := h1 0 (by omega) 0 _ rfl
  by_cases hb : b < W.heap.size
  · exact hb
  · exfalso
    unfold World.cell? at h2
    dsimp only at h2
    rw [Array.getElem?_eq_none (Nat.le_of_not_lt hb)] at h2
    cases h2
/-- A model at p. -/
structure MdAt (W : World) (B p : Nat) (r s i o : Int) (data : Bs) (sum : Int) (l : List JC) (dv cv : Value) : Prop where
  hp : W.heap[p]? = some (.cells #[.int .i64 r, .int .i64 s, .int .i64 i, .int .i64 o, cv, dv, .int .u32 sum] 34 (0, 0))
  dat : OwnB W B dv data
  cls : OwnJ W B cv l
  dne : dv.ownBlock ≠ some p
  cne : cv.ownBlock ≠ some p
  le : B ≤ p
  each : ∀ x ∈ l, BAt W (.slice x.A x.n x.c) x.d ∧ ∀ a, x.A = some a → 0 < x.n → a.block < W.heap.size ∧ a.block ≠ p
theorem MdAt.lt {W : World} {B p : Nat} {r s i o : Int} {data : Bs} {sum : Int} {l : List JC} {dv cv : Value} (h : MdAt W B p r s i o data sum l dv cv) : p < W.heap.size := (Array.getElem?_eq_some_iff.1 h.hp).1
theorem MdAt.below {W W' : World} {B p : Nat} {r s i o : Int} {data : Bs} {sum : Int} {l : List JC} {dv cv : Value} (h : MdAt W B p r s i o data sum l dv cv) (hb : Below W.heap.size W W') : MdAt W' B p r s i o data sum l dv cv :=
  ⟨(hb.block p h.lt).trans h.hp, nown_below h.dat hb, nown_below h.cls hb, h.dne, h.cne, h.le, fun x hx => ⟨(h.each x hx).1.below hb, fun a ha h0 => ⟨Nat.lt_of_lt_of_le ((h.each x hx).2 a ha h0).1 hb.size, ((h.each x hx).2 a ha h0).2⟩⟩⟩
structure BgI (w W : World) (l : Bs) (v : Value) (r s i o : Int) : Prop where
  wr : WrAt W (w.heap.size + 1) (w.heap.size + 1) l v
  box : W.heap[w.heap.size]? = some (.cells #[.int .i64 r, .int .i64 s, .int .i64 i, .int .i64 o] 28 (0, 0))
  bel : Below w.heap.size w W
theorem BgI.start (w : World) (r s i o : Int) : BgI w ((w.alloc (.cells #[.int .i64 r, .int .i64 s, .int .i64 i, .int .i64 o] 28)).alloc (.cells #[.slice none 0 0] 79)) [] (.slice none 0 0) r s i o := by
  have h := WrAt.new (w.alloc (.cells #[.int .i64 r, .int .i64 s, .int .i64 i, .int .i64 o] 28))
  rw [wsize_alloc] at h
  exact ⟨h, ((below_alloc _ _).block _ (by rw [wsize_alloc]; omega)).trans (heap_alloc_new w _), nbl_al (below_alloc _ _)⟩
theorem BgI.call {w W W3 : World} {l l' : Bs} {v v' : Value} {r s i o : Int} (h : BgI w W l v r s i o) (hw : WrAt W3 (w.heap.size + 1) (w.heap.size + 1) l' v') (hk : Kbo (w.heap.size + 1) v.ownBlock W W3) : BgI w W3 l' v' r s i o := by
  have hlt : w.heap.size < W.heap.size := (Array.getElem?_eq_some_iff.1 h.box).1
  have hne : v.ownBlock ≠ some w.heap.size := fun e => by
    have := (nown_block h.wr.own e).1
    omega
  refine ⟨hw, (hk.block _ hlt (by omega) hne).trans h.box, ⟨hk.os.trans h.bel.os, hk.tape.trans h.bel.tape, hk.output.trans h.bel.output, Nat.le_trans h.bel.size hk.size, fun k hkk => (hk.block k (Nat.lt_of_lt_of_le hkk h.bel.size) (by omega) fun e => ?_).trans (h.bel.block k hkk)⟩⟩
  have := (nown_block h.wr.own e).1
  omega
set_option maxRecDepth 100000 in
set_option maxHeartbeats 4000000 in
theorem begun_any (w : World) (hE : Env1 w) (r s i o : Int) : Calls Tryz.prog 9 #[.agg #[.int .i64 r, .int .i64 s, .int .i64 i, .int .i64 o]] w fun e w' => (∃ p, e = .returned (.pointer (some ⟨p, 0, none⟩)) ∧ MdAt w' w.heap.size p r s i o [] (crcU 0 (firstB r s i o)) [] (.slice none 0 0) (.slice none 0 0)) ∧ Below w.heap.size w w' := by
  have HE := Lib.hid hE
  obtain ⟨rr, hrr⟩ : ∃ rr, crcU 0 (firstB r s i o) = rr := ⟨_, rfl⟩
  rw [hrr]
  have HRR := Lib.hid hrr
  clear hE hrr
  obtain ⟨Q0, hQ0, hQ0'⟩ := u64_nat r
  obtain ⟨Q1, hQ1, hQ1'⟩ := u64_nat s
  obtain ⟨Q2, hQ2, hQ2'⟩ := u64_nat i
  obtain ⟨Q3, hQ3, hQ3'⟩ := u64_nat o
  have HF : Hid ((((([] ++ numB Q0) ++ numB Q1) ++ numB Q2) ++ numB Q3) = firstB r s i o) := Lib.hid (by unfold firstB numW; rw [hQ0, hQ1, hQ2, hQ3]; simp)
  have HN : Hid (∀ n, (numB n).length ≤ 10) := Lib.hid fun n => numB_len n
  go_enter Tryz.func9, Tryz.ntmps9
  have HI0 := Lib.hid (BgI.start w r s i o)
  go_wp2_with (first | (go_at_call 30; first | (refine (num_any _ (w.heap.size + 1) (w.heap.size + 1) ((([] ++ numB Q0) ++ numB Q1) ++ numB Q2) _ Q3 HI3.out.wr hQ3' (by have := HN.out Q0; have := HN.out Q1; have := HN.out Q2; have := HN.out Q3; simp only [List.length_append, List.length_nil]; omega)).mono ?_; rintro e w4 ⟨rfl, ⟨v4, hw, _⟩, hk⟩; have HI4 := Lib.hid (HI3.out.call hw hk); have a40 := wcell_at (i := 0) HI4.out.box; have a41 := wcell_at (i := 1) HI4.out.box; have a42 := wcell_at (i := 2) HI4.out.box; have a43 := wcell_at (i := 3) HI4.out.box; clear hw hk) | (refine (num_any _ (w.heap.size + 1) (w.heap.size + 1) (([] ++ numB Q0) ++ numB Q1) _ Q2 HI2.out.wr hQ2' (by have := HN.out Q0; have := HN.out Q1; have := HN.out Q2; have := HN.out Q3; simp only [List.length_append, List.length_nil]; omega)).mono ?_; rintro e w3 ⟨rfl, ⟨v3, hw, _⟩, hk⟩; have HI3 := Lib.hid (HI2.out.call hw hk); have a30 := wcell_at (i := 0) HI3.out.box; have a31 := wcell_at (i := 1) HI3.out.box; have a32 := wcell_at (i := 2) HI3.out.box; have a33 := wcell_at (i := 3) HI3.out.box; clear hw hk) | (refine (num_any _ (w.heap.size + 1) (w.heap.size + 1) ([] ++ numB Q0) _ Q1 HI1.out.wr hQ1' (by have := HN.out Q0; have := HN.out Q1; have := HN.out Q2; have := HN.out Q3; simp only [List.length_append, List.length_nil]; omega)).mono ?_; rintro e w2 ⟨rfl, ⟨v2, hw, _⟩, hk⟩; have HI2 := Lib.hid (HI1.out.call hw hk); have a20 := wcell_at (i := 0) HI2.out.box; have a21 := wcell_at (i := 1) HI2.out.box; have a22 := wcell_at (i := 2) HI2.out.box; have a23 := wcell_at (i := 3) HI2.out.box; clear hw hk) | (refine (num_any _ (w.heap.size + 1) (w.heap.size + 1) [] _ Q0 HI0.out.wr hQ0' (by have := HN.out Q0; have := HN.out Q1; have := HN.out Q2; have := HN.out Q3; simp only [List.length_append, List.length_nil]; omega)).mono ?_; rintro e w1 ⟨rfl, ⟨v1, hw, _⟩, hk⟩; have HI1 := Lib.hid (HI0.out.call hw hk); have a10 := wcell_at (i := 0) HI1.out.box; have a11 := wcell_at (i := 1) HI1.out.box; have a12 := wcell_at (i := 2) HI1.out.box; have a13 := wcell_at (i := 3) HI1.out.box; clear hw hk)))
  have HBB : Hid (∀ W, Below w4.heap.size w4 W → Calls Tryz.prog 32 #[.pointer (some ⟨w.heap.size + 1, 0, none⟩)] W fun e w' => (∃ A n c, e = .returned (.slice A n c) ∧ BAt w' (.slice A n c) (firstB r s i o)) ∧ Below W.heap.size W w') := Lib.hid fun W hW => (bytes_any W _ _ _ _ (HI4.out.wr.below hW) (by have := HN.out Q0; have := HN.out Q1; have := HN.out Q2; have := HN.out Q3; simp only [List.length_append, List.length_nil]; omega)).mono (by
    rintro e w5 ⟨⟨r5, rfl, hr5⟩, hb⟩
    obtain ⟨A5, m5, c5, rfl⟩ := own_slice hr5
    exact ⟨⟨A5, m5, c5, rfl, by rw [← HF.out]; exact OwnB.sl hr5⟩, hb⟩)
  go_region_held3 (fun w' => w'.cell? ⟨w.heap.size, 0, none⟩ = some (.int .i64 r) ∧ w'.cell? ⟨w.heap.size, 1, none⟩ = some (.int .i64 s) ∧ w'.cell? ⟨w.heap.size, 2, none⟩ = some (.int .i64 i) ∧ w'.cell? ⟨w.heap.size, 3, none⟩ = some (.int .i64 o)) (first | go_keep | (exact ⟨cell_below HB6.out a40, cell_below HB6.out a41, cell_below HB6.out a42, cell_below HB6.out a43⟩) | (exact ⟨cell_below HB5.out a40, cell_below HB5.out a41, cell_below HB5.out a42, cell_below HB5.out a43⟩)) (first | (go_at_call 32; refine (HBB.out _ (Below.refl _ _).drew).mono ?_; rintro e w5 ⟨⟨A5, m5, c5, rfl, hr5⟩, hb⟩; have HR5 := Lib.hid hr5; have HB5 : Hid (Below w4.heap.size w4 w5) := Lib.hid (nbl_step (Below.refl _ _).drew hb); clear hr5 hb) | (go_at_call 31; (have hu := sum_any w5 (Nat.le_trans (env_ng HE.out) (Nat.le_trans HI4.out.bel.size HB5.out.size)) _ _ HR5.out); rw [HRR.out] at hu; refine hu.mono ?_; rintro e w6 ⟨rfl, hb⟩; clear hu; have HB6 : Hid (Below w4.heap.size w4 w6) := Lib.hid (nbl_step HB5.out hb); have HB7 : Hid (Below w.heap.size w w6) := Lib.hid (nbl_step HI4.out.bel HB6.out); clear hb) | fail)
  all_goals
    go_wp2_with fail
    go_ret
    exact ⟨⟨_, rfl, ⟨heap_alloc_new _ _, nown_none _ _ _ _, nown_none _ _ _ _, by simp [Value.ownBlock], by simp [Value.ownBlock], HB7.out.size, fun x hx => by cases hx⟩⟩, nbl_al HB7.out⟩
set_option maxRecDepth 100000 in
theorem has_good (w : World) (r : Int) (S : Nat) (i o : Int) (h : okN r S i o = true) : Calls Tryz.prog 17 #[.agg #[.int .i64 r, .int .i64 (S : Int), .int .i64 i, .int .i64 o]] w fun e w' => e = .returned (.tuple #[.bool true, .int .i64 0]) ∧ Below w.heap.size w w' := by
  have HN := Lib.hid (fun W => new_good W r S i o h)
  clear h
  go_enter Tryz.func17, Tryz.ntmps17
  go_wp2_with (first | (go_at_call 26; refine (HN.out _).mono ?_; rintro e w1 ⟨⟨p, t, g, d, n, u, rfl, _⟩, hb⟩; have HB1 := Lib.hid (nbl_step (below_alloc _ _) hb); clear hb))
  go_ret2
  exact ⟨rfl, HB1.out⟩
set_option maxRecDepth 100000 in
theorem has_bad (w : World) (r s i o : Int) (h : okN r s i o = false) : Calls Tryz.prog 17 #[.agg #[.int .i64 r, .int .i64 s, .int .i64 i, .int .i64 o]] w fun e w' => e = .returned (.tuple #[.bool false, .int .i64 2]) ∧ Below w.heap.size w w' := by
  have HN := Lib.hid (fun W => new_bad W r s i o h)
  clear h
  go_enter Tryz.func17, Tryz.ntmps17
  go_wp2_with (first | (go_at_call 26; refine (HN.out _).mono ?_; rintro e w1 ⟨rfl, hb⟩; have HB1 := Lib.hid (nbl_step (below_alloc _ _) hb); clear hb))
  go_ret2
  exact ⟨rfl, HB1.out⟩
end Go.Proofs.YtgjbnebmcmoilaaGreatDoor
namespace Go.Proofs.YtgjbnebmcmoilaaGreatDoor
set_option linter.unusedVariables false
set_option linter.unusedSimpArgs false
open Go.RowKit Go.MapKept
def JC.arr (x : JC) : Array Value := #[.int .i64 x.o, .string x.k, .string x.t, .string x.j, .int .i64 x.q, .slice x.A x.n x.c]
set_option maxRecDepth 100000 in
set_option maxHeartbeats 2000000 in
theorem same_true (w : World) (x y : JC) (hk : x.key = y.key) (hx : BAt w (.slice x.A x.n x.c) x.d) (hy : BAt w (.slice y.A y.n y.c) y.d) : Calls Tryz.prog 50 #[.agg x.arr, .agg y.arr] w fun e w' => e = .returned (.bool true) ∧ Below w.heap.size w w' := by
  obtain ⟨o, q, k, t, j, A, n, c, d⟩ := x
  obtain ⟨o', q', k', t', j', A', n', c', d'⟩ := y
  simp only [JC.key, Prod.mk.injEq] at hk
  obtain ⟨rfl, rfl, rfl, rfl, rfl, rfl⟩ := hk
  unfold JC.arr
  dsimp only at hx hy ⊢
  have h1 := back_sl (hx.below (nbl_al (below_alloc w (.cells #[.int .i64 o, .string k, .string t, .string j, .int .i64 q, .slice A n c] 40)) (o := .cells #[.int .i64 o, .string k, .string t, .string j, .int .i64 q, .slice A' n' c'] 40)))
  have h2 := back_sl (hy.below (nbl_al (below_alloc w (.cells #[.int .i64 o, .string k, .string t, .string j, .int .i64 q, .slice A n c] 40)) (o := .cells #[.int .i64 o, .string k, .string t, .string j, .int .i64 q, .slice A' n' c'] 40)))
  clear hx hy
  obtain ⟨sv, hsv⟩ : ∃ sv : ByteArray, (⟨d.toArray⟩ : ByteArray) = sv := ⟨_, rfl⟩
  rw [hsv] at h1 h2
  clear hsv
  have HB : Hid (Below w.heap.size w ((w.alloc (.cells #[.int .i64 o, .string k, .string t, .string j, .int .i64 q, .slice A n c] 40)).alloc (.cells #[.int .i64 o, .string k, .string t, .string j, .int .i64 q, .slice A' n' c'] 40))) := Lib.hid (nbl_al (below_alloc _ _))
  go_enter Tryz.func50, Tryz.ntmps50
  go_wp2_with fail
  go_ret
  exact ⟨rfl, HB.out⟩
set_option maxRecDepth 100000 in
set_option maxHeartbeats 2000000 in
theorem equal_true (w : World) (A : Option Addr) (n c : Nat) (l : List JC) (A' : Option Addr) (n' c' : Nat) (l' : List JC) (h : JSl w (.slice A n c) l) (h' : JSl w (.slice A' n' c') l') (hk : l.map JC.key = l'.map JC.key) (hd : ∀ x ∈ l, BAt w (.slice x.A x.n x.c) x.d) (hd' : ∀ x ∈ l', BAt w (.slice x.A x.n x.c) x.d) : Calls Tryz.prog 27 #[.slice A n c, .slice A' n' c'] w fun e w' => e = .returned (.bool true) ∧ Below w.heap.size w w' := by
  have hn : n = l.length := by
    obtain ⟨A2, c2, e, _⟩ := id h
    injection e
  have hn' : n = n' := by
    obtain ⟨A2, c2, e, _⟩ := id h'
    injection e with _ e2
    rw [e2, hn]
    have := congrArg List.length hk
    simpa using this
  subst hn'
  have hcap : (n : Int) ≤ 9223372036854775807 := by
    obtain ⟨A2, c2, e, h1, h2, _⟩ := id h
    omega
  have HH := Lib.hid h
  have HH' := Lib.hid h'
  have HK := Lib.hid hk
  have HD := Lib.hid hd
  have HD' := Lib.hid hd'
  have HN := Lib.hid hn
  have HN' : Hid (n = l'.length) := Lib.hid (by rw [hn]; have := congrArg List.length hk; simpa using this)
  clear h h' hk hd hd' hn
  go_enter Tryz.func27, Tryz.ntmps27
  go_wp2_with fail
  go_loopg [5] n (fun gf u5 wx => ∃ m : Nat, u5 = .int .i64 (m : Int) ∧ m + gf = n ∧ Below w.heap.size w wx)
  case atStart => exact ⟨0, rfl, by omega, Below.refl _ _⟩
  case round =>
    obtain ⟨m, rfl, hm, hb⟩ := hrel
    have HB := Lib.hid hb
    clear hb
    by_cases hlt : m < n
    · obtain ⟨g', rfl⟩ : ∃ g', gk = g' + 1 := ⟨gk - 1, by omega⟩
      have hml : m < l.length := by rw [← HN.out]; exact hlt
      have hml' : m < l'.length := by rw [← HN'.out]; exact hlt
      obtain ⟨b, off, e1, hcs⟩ := SlAt.elem (HH.out.below HB.out) hml
      obtain ⟨b', off', e1', hcs'⟩ := SlAt.elem (HH'.out.below HB.out) hml'
      have hkey : l[m].key = l'[m].key := by
        have h1 : (l.map JC.key)[m]? = some l[m].key := by simp [hml]
        rw [HK.out] at h1
        have h2 : (l'.map JC.key)[m]? = some l'[m].key := by simp [hml']
        rw [h2] at h1
        injection h1 with h1
        exact h1.symm
      have HS := Lib.hid (fun W (hW : Below wr.heap.size wr W) => same_true W l[m] l'[m] hkey ((HD.out _ (List.getElem_mem hml)).below (nbl_step HB.out hW)) ((HD'.out _ (List.getElem_mem hml')).below (nbl_step HB.out hW)))
      subst e1; subst e1'
      generalize l[m] = x at *
      generalize l'[m] = y at *
      clear hkey
      obtain ⟨o, q, k, t, j, A, nx, cx, d⟩ := x
      obtain ⟨o', q', k', t', j', A', ny, cy, d'⟩ := y
      unfold JC.arr at HS
      dsimp only at HS
      have c0 := hcs 0 _ rfl
      have c1 := hcs 1 _ rfl
      have c2 := hcs 2 _ rfl
      have c3 := hcs 3 _ rfl
      have c4 := hcs 4 _ rfl
      have c5 := hcs 5 _ rfl
      have b0 := hcs' 0 _ rfl
      have b1 := hcs' 1 _ rfl
      have b2 := hcs' 2 _ rfl
      have b3 := hcs' 3 _ rfl
      have b4 := hcs' 4 _ rfl
      have b5 := hcs' 5 _ rfl
      simp only [Nat.add_zero] at c0 b0
      clear hcs hcs' hml hml'
      go_wp2_with fail
      go_region_law
        (go_simp; refine (HS.out _ (Below.refl _ wr).drew).mono ?_; rintro e w8 ⟨rfl, hb8⟩; have HB8 : Hid (Below w.heap.size w w8) := Lib.hid (nbl_step HB.out (nbl_step (Below.refl _ wr).drew hb8)); clear hb8; dsimp only)
      all_goals (
        go_wp2_with fail
        go_roundg g'
        case measure => omega
        case rel => exact ⟨m + 1, by first | rfl | go_num, by omega, HB8.out⟩)
    · go_wp2_with fail
      go_ret
      exact ⟨rfl, HB.out⟩
end Go.Proofs.YtgjbnebmcmoilaaGreatDoor
