/- What a journal of calls holds; Copy. Appending any valid call; Cut. The journal and its model side by side. The law's light. -/
import Derived.Test.YtgjbnebmcmoilaaGreatDoorWx
import Derived.Test.YtgjbnebmcmoilaaGreatDoorWr
namespace Go.Proofs.YtgjbnebmcmoilaaGreatDoor
set_option linter.unusedVariables false
set_option linter.unusedSimpArgs false
open Go.RowKit Go.MapKept
theorem valid_op {o q : Int} {k t j : ByteArray} {n : Nat} (h : validB o q k t j n = true) : ∃ O : Nat, o = (O : Int) ∧ 1 ≤ O ∧ O < 12 := by
  unfold validB at h
  rw [Bool.and_eq_true, Bool.and_eq_true] at h
  have h1 := h.1.1
  simp [isOp] at h1
  exact ⟨o.toNat, by omega, by omega, by omega⟩
abbrev Key := Int × Int × ByteArray × ByteArray × ByteArray × Bs
def Key.rec (κ : Key) (s : Int) : Bs := recB κ.1 κ.2.1 κ.2.2.1 κ.2.2.2.1 κ.2.2.2.2.1 κ.2.2.2.2.2 s
def Key.sum (κ : Key) (s : Int) : Int := crcU s (headB κ.1 κ.2.1 κ.2.2.1 κ.2.2.2.1 κ.2.2.2.2.1 κ.2.2.2.2.2)
def kstep (D : Bs × Int) (κ : Key) : Bs × Int := (D.1 ++ κ.rec D.2, κ.sum D.2)
def jst (s0 : Int) (ks : List Key) : Bs × Int := ks.foldl kstep ([], s0)
theorem jst_snoc (s0 : Int) (ks : List Key) (κ : Key) : jst s0 (ks ++ [κ]) = ((jst s0 ks).1 ++ κ.rec (jst s0 ks).2, κ.sum (jst s0 ks).2) := by
  unfold jst
  rw [List.foldl_append]
  rfl
structure KeyOk (κ : Key) : Prop where
  valid : validB κ.1 κ.2.1 κ.2.2.1 κ.2.2.2.1 κ.2.2.2.2.1 κ.2.2.2.2.2.length = true
  k : κ.2.2.1.size ≤ 300
  t : κ.2.2.2.1.size ≤ 300
  j : κ.2.2.2.2.1.size ≤ 300
  d : κ.2.2.2.2.2.length ≤ 300
theorem partB_len3 (q : Int) (k t j : ByteArray) (d : Bs) (hk : k.size ≤ 300) (ht : t.size ≤ 300) (hj : j.size ≤ 300) (hdl : d.length ≤ 300) (ch : UInt8) : (partB q k t j d ch).length ≤ 310 := by
  unfold partB
  split
  · have := strB_len k; omega
  · split
    · have := strB_len t; omega
    · split
      · have := numB_len (IntKind.u64.wrap q).toNat; omega
      · split
        · have := strB_len j; omega
        · rw [List.length_append]; have := numB_len d.length; omega
theorem KeyOk.len {κ : Key} (h : KeyOk κ) (s : Int) : (κ.rec s).length ≤ 1000 := by
  obtain ⟨o, q, k, t, j, d⟩ := κ
  obtain ⟨O, hO, h1, h2⟩ := valid_op h.valid
  have e1 : o = (O : Int) := hO
  subst e1
  have h3 := flat_len (partB_len3 q k t j d h.k h.t h.j h.d) (rowB (O : Int)).2
  have h4 := row_len O h1 h2
  have h6 := Nat.mul_le_mul_right 310 h4
  unfold Key.rec recB headB
  rw [List.length_append]
  have e1 := strB_len ⟨(encB (O : Int) q k t j d).toArray⟩
  have e4 : (⟨(encB (O : Int) q k t j d).toArray⟩ : ByteArray).size = (encB (O : Int) q k t j d).length := rfl
  have e5 : (encB (O : Int) q k t j d).length ≤ 931 := by unfold encB; rw [List.length_cons]; omega
  have e3 : ∀ s, (be4 s).length = 4 := fun _ => rfl
  rw [e4] at e1
  dsimp only
  rw [e3]
  omega
theorem jst_len (s0 : Int) : ∀ (n : Nat) (ks : List Key), ks.length = n → (∀ κ ∈ ks, KeyOk κ) → (jst s0 ks).1.length ≤ 1000 * n := by
  intro n
  induction n with
  | zero =>
    intro ks h _
    rw [List.eq_nil_of_length_eq_zero h]
    exact Nat.le_refl _
  | succ n ih =>
    intro ks h hk
    have hne : ks ≠ [] := fun e => by rw [e] at h; cases h
    have e := List.dropLast_concat_getLast hne
    rw [← e, jst_snoc, List.length_append]
    have h1 := ih ks.dropLast (by rw [List.length_dropLast, h]; rfl) fun κ hκ => hk κ (List.dropLast_subset _ hκ)
    have h2 := (hk _ (List.getLast_mem hne)).len (jst s0 ks.dropLast).2
    omega
theorem Kjr.below {p B : Nat} {o1 o2 : Option Nat} {w a b : World} (k : Kjr p o1 o2 a b) (hb : Below B w a) (hp : B ≤ p) (h1 : ∀ g, o1 = some g → B ≤ g) (h2 : ∀ g, o2 = some g → B ≤ g) (hs : B ≤ a.heap.size) : Below B w b :=
  ⟨k.os.trans hb.os, k.tape.trans hb.tape, k.output.trans hb.output, Nat.le_trans hb.size k.size, fun j hj => (k.block j (Nat.lt_of_lt_of_le hj hs) (by omega) (fun e => by have := h1 j e; omega) (fun e => by have := h2 j e; omega)).trans (hb.block j hj)⟩
theorem JrAt.base {W : World} {B B' p : Nat} {r s i o : Int} {data : Bs} {sum : Int} {l : List JC} {dv cv : Value} (h : JrAt W B p r s i o data sum l dv cv) (hB : B' ≤ B) : JrAt W B' p r s i o data sum l dv cv :=
  ⟨h.hp, nown_base h.dat hB, nown_base h.cls hB, h.dne, h.cne, Nat.le_trans hB h.le, h.each⟩
theorem MdAt.base {W : World} {B B' p : Nat} {r s i o : Int} {data : Bs} {sum : Int} {l : List JC} {dv cv : Value} (h : MdAt W B p r s i o data sum l dv cv) (hB : B' ≤ B) : MdAt W B' p r s i o data sum l dv cv :=
  ⟨h.hp, nown_base h.dat hB, nown_base h.cls hB, h.dne, h.cne, Nat.le_trans hB h.le, h.each⟩
theorem copy_end {w wa wb : World} {B0 p : Nat} {r s i o : Int} {data : Bs} {sum : Int} {l lm : List JC} {dv cv : Value} (hd : OwnB wa w.heap.size dv data) (hba : Below w.heap.size w wa) (hf : Fresh wa wb cv l lm) (hbb : Below wa.heap.size wa wb) :
    JrAt (wb.alloc (.cells #[.bool true, .int .i64 r, .int .i64 s, .int .i64 i, .int .i64 o, dv, .int .u32 sum, cv] 76)) w.heap.size wb.heap.size r s i o data sum lm dv cv := by
  have hdb := nown_below hd hbb
  refine ⟨heap_alloc_new _ _, nown_below hdb (below_alloc _ _), nown_base (nown_below hf.own (below_alloc _ _)) hba.size, fun e => ?_, fun e => ?_, Nat.le_trans hba.size hbb.size, fun x hx => ⟨OwnB.sl (nown_below (hf.data x hx) (below_alloc _ _)), fun a ha => ?_⟩⟩
  · exact Nat.lt_irrefl _ (nown_block hdb e).2
  · exact Nat.lt_irrefl _ (nown_block hf.own e).2
  · have hx1 := nown_block (hf.data x hx) (g := a.block) (by rw [ha]; rfl)
    refine ⟨by rw [wsize_alloc]; omega, by omega, fun e => ?_, fun e => own_types (hf.data x hx) hf.own (k := a.block) (by rw [ha]; rfl) e⟩
    have := (nown_block hd e).2
    omega
set_option maxRecDepth 100000 in
set_option maxHeartbeats 2000000 in
theorem jcopy_any (w : World) (B p : Nat) (r s i o : Int) (data : Bs) (sum : Int) (l : List JC) (dv cv : Value) (h : JrAt w B p r s i o data sum l dv cv) (hl : l.length ≤ 5000) (hdl : ∀ x ∈ l, x.d.length ≤ 100000) (hdat : data.length ≤ 5000000) :
    Calls Tryz.prog 21 #[.pointer (some ⟨p, 0, none⟩)] w fun e w' => (∃ p' lm dv' cv', e = .returned (.pointer (some ⟨p', 0, none⟩)) ∧ JrAt w' w.heap.size p' r s i o data sum lm dv' cv' ∧ lm.map JC.key = l.map JC.key ∧ (∀ g, dv'.ownBlock = some g → w.heap.size ≤ g) ∧ (∀ g, cv'.ownBlock = some g → w.heap.size ≤ g) ∧ ∀ x ∈ lm, ∀ a, x.A = some a → w.heap.size ≤ a.block) ∧ Below w.heap.size w w' := by
  have HJ := Lib.hid h
  have HN := Lib.hid (jnone_any w B p r s i o data sum l dv cv h)
  obtain ⟨A5, n5, c5, rfl⟩ := own_slice h.dat
  have HCL : Hid (∀ W, Below w.heap.size w W → Calls Tryz.prog 28 #[.pointer (some ⟨p, 0, none⟩)] W fun e w' => (∃ v lm, e = .returned v ∧ Fresh W w' v l lm) ∧ Below W.heap.size W w') := Lib.hid fun W hb => jcalls_any W B p r s i o data sum l _ cv (h.below hb) (by omega) (fun x hx => by have := hdl x hx; omega)
  have HBC : Hid (∀ W, Below w.heap.size w W → Calls Tryz.prog 36 #[.slice A5 n5 c5] W fun e w' => (∃ A' c', e = .returned (.slice A' n5 c') ∧ OwnB w' W.heap.size (.slice A' n5 c') data) ∧ Below W.heap.size W w') := Lib.hid fun W hb => bclone_own W A5 n5 c5 data (OwnB.sl (h.below hb).dat) (by omega)
  have HS : Hid (∀ W, Below w.heap.size w W → W.cell? ⟨p, 1, none⟩ = some (.int .i64 r) ∧ W.cell? ⟨p, 2, none⟩ = some (.int .i64 s) ∧ W.cell? ⟨p, 3, none⟩ = some (.int .i64 i) ∧ W.cell? ⟨p, 4, none⟩ = some (.int .i64 o) ∧ W.cell? ⟨p, 5, none⟩ = some (.slice A5 n5 c5) ∧ W.cell? ⟨p, 6, none⟩ = some (.int .u32 sum)) := Lib.hid fun W hb => ⟨wcell_at (h.below hb).hp, wcell_at (h.below hb).hp, wcell_at (h.below hb).hp, wcell_at (h.below hb).hp, wcell_at (h.below hb).hp, wcell_at (h.below hb).hp⟩
  clear h hl hdl hdat
  go_enter Tryz.func21, Tryz.ntmps21
  go_wp2_with (first | (go_at_call 33; refine HN.out.mono ?_; rintro e w1 ⟨rfl, hw⟩; obtain rfl := hw.symm; clear hw))
  go_region_held3 (fun w' => w'.cell? ⟨p, 1, none⟩ = some (.int .i64 r) ∧ w'.cell? ⟨p, 2, none⟩ = some (.int .i64 s) ∧ w'.cell? ⟨p, 3, none⟩ = some (.int .i64 i) ∧ w'.cell? ⟨p, 4, none⟩ = some (.int .i64 o) ∧ w'.cell? ⟨p, 5, none⟩ = some (.slice A5 n5 c5) ∧ w'.cell? ⟨p, 6, none⟩ = some (.int .u32 sum)) (first | (exact HS.out _ (Below.refl _ w).drew) | go_keep | (exact HS.out _ HB2.out) | (exact HS.out _ HB1.out)) (first | (go_at_call 36; refine (HBC.out _ (Below.refl _ w).drew).mono ?_; rintro e wa ⟨⟨Ab, cb, rfl, ho⟩, hb⟩; have HO := Lib.hid ho; have HB1 : Hid (Below w.heap.size w wa) := Lib.hid (nbl_step (Below.refl _ w).drew hb); clear ho hb) | (go_at_call 28; refine (HCL.out _ HB1.out).mono ?_; rintro e wb ⟨⟨vb, lm, rfl, hf⟩, hb⟩; obtain ⟨Ac, cc, hvb⟩ := capp_slice hf.own; subst hvb; have HF := Lib.hid hf; have HBB := Lib.hid hb; have HB2 : Hid (Below w.heap.size w wb) := Lib.hid (nbl_step HB1.out hb); clear hf hb) | fail)
  go_wp2_with fail
  go_ret
  exact ⟨⟨_, _, _, _, rfl, copy_end (B0 := B) (p := p) HO.out HB1.out HF.out HBB.out, HF.out.keys, fun g hg => (nown_block HO.out hg).1, fun g hg => Nat.le_trans HB1.out.size (nown_block HF.out.own hg).1, fun x hx a ha => Nat.le_trans HB1.out.size (nown_block (HF.out.data x hx) (g := a.block) (by rw [ha]; rfl)).1⟩, nbl_al HB2.out⟩
end Go.Proofs.YtgjbnebmcmoilaaGreatDoor
namespace Go.Proofs.YtgjbnebmcmoilaaGreatDoor
set_option linter.unusedVariables false
set_option linter.unusedSimpArgs false
open Go.RowKit Go.MapKept
theorem bat_len {w : World} {A : Option Addr} {n c : Nat} {d : Bs} (h : BAt w (.slice A n c) d) : n = d.length := by
  obtain ⟨A2, c2, e, _⟩ := h
  injection e
theorem jappend_ok (w : World) (B p : Nat) (r s i u : Int) (data : Bs) (sum : Int) (l : List JC) (dv cv : Value) (h : JrAt w B p r s i u data sum l dv cv) (hE : Env1 w) (x : JC) (hx : KeyOk x.key) (hd : BAt w (.slice x.A x.n x.c) x.d) (hll : l.length < 2000) (hdat : data.length ≤ 5000000) :
    Calls Tryz.prog 10 #[.pointer (some ⟨p, 0, none⟩), .agg x.arr] w fun e w' => e = .returned (.int .i64 0) ∧ ∃ dv' cv' y, JrAt w' B p r s i u (data ++ Key.rec x.key sum) (Key.sum x.key sum) (l ++ [y]) dv' cv' ∧ y.key = x.key ∧ NewOwn w dv dv' ∧ NewOwn w cv cv' ∧ Kjr p dv.ownBlock cv.ownBlock w w' ∧ ∀ a, y.A = some a → w.heap.size ≤ a.block := by
  obtain ⟨o, q, k, t, j, A, n, c, d⟩ := x
  obtain ⟨h1, h2, h3, h4, h5⟩ := hx
  obtain ⟨O, hO, ho1, ho2⟩ := valid_op h1
  have e1 : o = (O : Int) := hO
  subst e1
  dsimp only [JC.key] at h1 h2 h3 h4 h5 hd
  have hn := bat_len hd
  rw [← hn] at h1
  refine (jappend_good w B p r s i u data sum l dv cv h hE O q k t j A n c d ho1 ho2 h1 (by omega) (by omega) (by omega) hd (by omega) hll hdat).mono ?_
  rintro e w' ⟨he, A', c', dv', cv', h6, h7, h8, h9, h10⟩
  exact ⟨he, dv', cv', _, h6, rfl, h7, h8, h9, h10⟩
theorem jappend_no (w : World) (B p : Nat) (r s i u : Int) (data : Bs) (sum : Int) (l : List JC) (dv cv : Value) (h : JrAt w B p r s i u data sum l dv cv) (hE : Env1 w) (x : JC) (hv : validB x.o x.q x.k x.t x.j x.n = false) (hk : x.k.size ≤ 300) (ht : x.t.size ≤ 300) (hj : x.j.size ≤ 300) :
    Calls Tryz.prog 10 #[.pointer (some ⟨p, 0, none⟩), .agg x.arr] w fun e w' => e = .returned (.int .i64 2) ∧ Below w.heap.size w w' :=
  jappend_bad w B p r s i u data sum l dv cv h hE x.o x.q x.k x.t x.j x.A x.n x.c hv (by omega) (by omega) (by omega)
theorem madd_ok (w : World) (B p : Nat) (r s i u : Int) (data : Bs) (sum : Int) (l : List JC) (dv cv : Value) (h : MdAt w B p r s i u data sum l dv cv) (hE : Env1 w) (x : JC) (hx : KeyOk x.key) (hd : BAt w (.slice x.A x.n x.c) x.d) (hA : ∀ a, x.A = some a → 0 < x.n → a.block < w.heap.size ∧ a.block ≠ p) (hll : l.length < 2000) (hdat : data.length ≤ 5000000) :
    Calls Tryz.prog 18 #[.pointer (some ⟨p, 0, none⟩), .agg x.arr] w fun e w' => e = .returned (.int .i64 0) ∧ (∃ dv' cv', MdAt w' B p r s i u (data ++ Key.rec x.key sum) (Key.sum x.key sum) (l ++ [x]) dv' cv' ∧ (∀ g, dv'.ownBlock = some g → w.heap.size ≤ g) ∧ ∀ g, cv'.ownBlock = some g → w.heap.size ≤ g) ∧ Kbut p w w' := by
  obtain ⟨o, q, k, t, j, A, n, c, d⟩ := x
  obtain ⟨h1, h2, h3, h4, h5⟩ := hx
  obtain ⟨O, hO, ho1, ho2⟩ := valid_op h1
  have e1 : o = (O : Int) := hO
  subst e1
  dsimp only [JC.key] at h1 h2 h3 h4 h5 hd hA
  have hn := bat_len hd
  rw [← hn] at h1
  exact madd_good w B p r s i u data sum l dv cv h hE O q k t j A n c d ho1 ho2 h1 (by omega) (by omega) (by omega) hd hA (by omega) hll hdat
theorem madd_no (w : World) (hE : Env1 w) (p : Nat) (x : JC) (hv : validB x.o x.q x.k x.t x.j x.n = false) (hk : x.k.size ≤ 300) (ht : x.t.size ≤ 300) (hj : x.j.size ≤ 300) :
    Calls Tryz.prog 18 #[.pointer (some ⟨p, 0, none⟩), .agg x.arr] w fun e w' => e = .returned (.int .i64 2) ∧ Below w.heap.size w w' :=
  madd_bad w hE p x.o x.q x.k x.t x.j x.A x.n x.c hv (by omega) (by omega) (by omega)
theorem jcut_neg (w : World) (B p : Nat) (r s i o : Int) (data : Bs) (sum : Int) (l : List JC) (dv cv : Value) (h : JrAt w B p r s i o data sum l dv cv) (c : Int) (hc : c < 0) : Calls Tryz.prog 22 #[.pointer (some ⟨p, 0, none⟩), .int .i64 c] w fun e w' => e = .returned (.tuple #[.pointer none, .int .i64 2]) ∧ w' = w := by
  have HN := Lib.hid (jnone_any w B p r s i o data sum l dv cv h)
  have d1 : decide (c < 0) = true := decide_eq_true hc
  clear h hc
  go_enter Tryz.func22, Tryz.ntmps22
  go_wp2_with (first | (go_at_call 33; refine HN.out.mono ?_; rintro e w1 ⟨rfl, hw⟩; obtain rfl := hw.symm; clear hw))
  go_ret2
  exact ⟨rfl, rfl⟩
theorem jcut_big (w : World) (B p : Nat) (r s i o : Int) (data : Bs) (sum : Int) (l : List JC) (dv cv : Value) (h : JrAt w B p r s i o data sum l dv cv) (c : Int) (hc : (l.length : Int) < c) : Calls Tryz.prog 22 #[.pointer (some ⟨p, 0, none⟩), .int .i64 c] w fun e w' => e = .returned (.tuple #[.pointer none, .int .i64 3]) ∧ w' = w := by
  have HN := Lib.hid (jnone_any w B p r s i o data sum l dv cv h)
  obtain ⟨A7, c7, rfl⟩ := calls_len h
  have z7 : w.cell? ⟨p, 7, none⟩ = some (.slice A7 l.length c7) := wcell_at h.hp
  have d1 : decide (c < 0) = false := decide_eq_false (by omega)
  have d2 : decide ((l.length : Int) < c) = true := decide_eq_true hc
  generalize l.length = L at *
  clear h hc
  go_enter Tryz.func22, Tryz.ntmps22
  go_wp2_with (first | (go_at_call 33; refine HN.out.mono ?_; rintro e w1 ⟨rfl, hw⟩; obtain rfl := hw.symm; clear hw))
  go_ret2
  exact ⟨rfl, rfl⟩
set_option maxRecDepth 100000 in
set_option maxHeartbeats 4000000 in
theorem jcut_good (w : World) (B p : Nat) (r : Int) (S : Nat) (i o : Int) (data : Bs) (sum : Int) (l : List JC) (dv cv : Value) (h : JrAt w B p r S i o data sum l dv cv) (hE : Env1 w) (hok : okN r S i o = true) (s0 : Int) (hs0 : crcU 0 (firstB r S i o) = s0) (hks : ∀ x ∈ l, KeyOk x.key) (c : Nat) (hc : c ≤ l.length) (hl : l.length ≤ 1900) :
    Calls Tryz.prog 22 #[.pointer (some ⟨p, 0, none⟩), .int .i64 (c : Int)] w fun e w' => (∃ p' lo dv' cv', e = .returned (.tuple #[.pointer (some ⟨p', 0, none⟩), .int .i64 0]) ∧ JrAt w' w.heap.size p' r S i o (jst s0 ((l.take c).map JC.key)).1 (jst s0 ((l.take c).map JC.key)).2 lo dv' cv' ∧ lo.map JC.key = (l.take c).map JC.key) ∧ Below w.heap.size w w' := by
  have HN := Lib.hid (jnone_any w B p r S i o data sum l dv cv h)
  have HNW : Hid (Calls Tryz.prog 7 #[.agg #[.int .i64 r, .int .i64 (S : Int), .int .i64 i, .int .i64 o]] w fun e w' => (∃ p, e = .returned (.tuple #[.pointer (some ⟨p, 0, none⟩), .int .i64 0]) ∧ JrAt w' w.heap.size p r S i o [] s0 [] (.slice none 0 0) (.slice none 0 0)) ∧ Below w.heap.size w w') := Lib.hid (by rw [← hs0]; exact jnew_good w hE r S i o hok)
  have HJ := Lib.hid h
  have HE := Lib.hid hE
  have HKS := Lib.hid hks
  obtain ⟨A7, c7, rfl⟩ := calls_len h
  have z1 : w.cell? ⟨p, 1, none⟩ = some (.int .i64 r) := wcell_at h.hp
  have z2 : w.cell? ⟨p, 2, none⟩ = some (.int .i64 (S : Int)) := wcell_at h.hp
  have z3 : w.cell? ⟨p, 3, none⟩ = some (.int .i64 i) := wcell_at h.hp
  have z4 : w.cell? ⟨p, 4, none⟩ = some (.int .i64 o) := wcell_at h.hp
  have z7 : w.cell? ⟨p, 7, none⟩ = some (.slice A7 l.length c7) := wcell_at h.hp
  have d1 : decide ((c : Int) < 0) = false := decide_eq_false (by omega)
  have d2 : decide ((l.length : Int) < (c : Int)) = false := decide_eq_false (by omega)
  have hcap : l.length ≤ c7 ∧ (A7 = none → l.length = 0) ∧ (A7 = none ∨ ∃ g, A7 = some ⟨g, 0, none⟩) := by
    rcases h.cls.2 with ⟨e, h0⟩ | ⟨g, cap, cur, e, _, _, hnc, _⟩
    · injection e with e1 e2 e3
      exact ⟨by omega, fun _ => h0, Or.inl e1⟩
    · injection e with e1 e2 e3
      subst e1; subst e3
      exact ⟨hnc, fun e => by (cases e), Or.inr ⟨g, rfl⟩⟩
  have HCAP := Lib.hid hcap
  have HC := Lib.hid hc
  have HL := Lib.hid hl
  obtain ⟨L, hL⟩ : ∃ L, l.length = L := ⟨_, rfl⟩
  rw [hL] at z7 d2
  have b1 : (0 : Int) ≤ (c : Int) := by omega
  have b2 : (c : Int) ≤ (L : Int) := by omega
  have b3 : (c : Int) ≤ (c7 : Int) := by omega
  have HLL := Lib.hid hL
  clear h hE hks hok hs0 hcap hc hl hL
  go_enter Tryz.func22, Tryz.ntmps22
  go_wp2_with (first | (go_at_call 33; refine HN.out.mono ?_; rintro e w1 ⟨rfl, hw⟩; obtain rfl := hw.symm; clear hw) | (go_at_call 7; refine HNW.out.mono ?_; rintro e w2 ⟨⟨po, rfl, hjo⟩, hb⟩; have HJO := Lib.hid hjo; have HB2 := Lib.hid hb; have y7 := cell_below hb z7; clear hjo hb))
  go_loopg [42] c (fun gf u42 wx => ∃ (m : Nat) (dvo cvo : Value) (lo : List JC), u42 = .int .i64 (m : Int) ∧ m + gf = c ∧ JrAt wx w.heap.size po r S i o (jst s0 ((l.take m).map JC.key)).1 (jst s0 ((l.take m).map JC.key)).2 lo dvo cvo ∧ lo.map JC.key = (l.take m).map JC.key ∧ Below w.heap.size w wx)
  case atStart => exact ⟨0, _, _, [], rfl, by omega, by simpa [jst] using HJO.out, by simp, HB2.out⟩
  case round =>
    obtain ⟨m, dvo, cvo, lo, rfl, hm, hj, hkeys, hb⟩ := hrel
    have HJM := Lib.hid hj
    have HKM := Lib.hid hkeys
    have HBM := Lib.hid hb
    clear hj hkeys hb
    by_cases hlt : m < c
    · obtain ⟨g', rfl⟩ : ∃ g', gk = g' + 1 := ⟨gk - 1, by omega⟩
      have hml : m < l.length := by have := HC.out; omega
      obtain ⟨g, hg⟩ : ∃ g, A7 = some ⟨g, 0, none⟩ := by
        rcases HCAP.out.2.2 with e | e
        · have := HCAP.out.2.1 e
          omega
        · exact e
      have hjw := HJ.out.below HBM.out
      obtain ⟨b, off, e, hcs⟩ := SlAt.elem (OwnJ.sl hjw.cls) hml
      rw [hg] at e
      injection e with e
      injection e with e1 e2 e3
      subst e1; subst e2
      subst hg
      have hxl : l[m] ∈ l := List.getElem_mem hml
      have hbx := (hjw.each _ hxl).1
      have hkx := HKS.out _ hxl
      have hll : lo.length ≤ m := by have := congrArg List.length HKM.out; simp at this; omega
      have hdl : (jst s0 ((l.take m).map JC.key)).1.length ≤ 5000000 := by
        have := jst_len s0 _ ((l.take m).map JC.key) rfl (fun κ hκ => by
          obtain ⟨y, hy, rfl⟩ := List.mem_map.1 hκ
          exact HKS.out y (List.mem_of_mem_take hy))
        rw [List.length_map, List.length_take] at this
        have h2 := HL.out
        omega
      have HAP : Hid (∀ W, Below wr.heap.size wr W → Calls Tryz.prog 10 #[.pointer (some ⟨po, 0, none⟩), .agg l[m].arr] W fun e w' => e = .returned (.int .i64 0) ∧ ∃ dv' cv' y, JrAt w' w.heap.size po r S i o (jst s0 ((l.take (m + 1)).map JC.key)).1 (jst s0 ((l.take (m + 1)).map JC.key)).2 (lo ++ [y]) dv' cv' ∧ (lo ++ [y]).map JC.key = (l.take (m + 1)).map JC.key ∧ Below w.heap.size w w') := Lib.hid fun W hW => (jappend_ok W w.heap.size po r S i o _ _ lo dvo cvo (HJM.out.below hW) (HE.out.below (nbl_step HBM.out hW)) l[m] hkx (hbx.below hW) (by have := HL.out; omega) hdl).mono (by
        rintro e w' ⟨he, dv', cv', y, h1, h2, h3, h4, h5, _⟩
        have ht : (l.take (m + 1)).map JC.key = (l.take m).map JC.key ++ [l[m].key] := by rw [take_snoc l m hml, List.map_append]; rfl
        refine ⟨he, dv', cv', y, by rw [ht, jst_snoc]; exact h1, by rw [ht, List.map_append, HKM.out, List.map_singleton, h2], ?_⟩
        have hjx := HJM.out.below hW
        exact h5.below (nbl_step HBM.out hW) hjx.le (fun g hg => (nown_block hjx.dat hg).1) (fun g hg => (nown_block hjx.cls hg).1) (Nat.le_trans HBM.out.size hW.size))
      clear hjw hbx hkx hxl hll hdl
      generalize l[m] = x at *
      obtain ⟨xo, q, k, t, j, A, n, cx, d⟩ := x
      unfold JC.arr at HAP
      dsimp only at HAP
      have c0 := hcs 0 _ rfl
      have c1 := hcs 1 _ rfl
      have c2 := hcs 2 _ rfl
      have c3 := hcs 3 _ rfl
      have c4 := hcs 4 _ rfl
      have c5 := hcs 5 _ rfl
      simp only [Nat.add_zero, Nat.zero_add] at c0 c1 c2 c3 c4 c5
      clear hcs
      go_wp2_with (first | (go_at_call 10; refine (HAP.out _ (below_alloc _ _)).mono ?_; rintro e w5 ⟨rfl, dv5, cv5, y5, h51, h52, h53⟩; have HJ5 := Lib.hid h51; have HK5 := Lib.hid h52; have HB5 := Lib.hid h53; clear h51 h52 h53))
      go_roundg g'
      case measure => omega
      case rel => exact ⟨m + 1, _, _, _, by first | rfl | (rw [Go.IntWalk.wrap64_in _ ⟨by have h1 := HL.out; have h2 := HC.out; omega, by have h1 := HL.out; have h2 := HC.out; omega⟩]; rfl), by omega, HJ5.out, HK5.out, HB5.out⟩
    · have e : m = c := by omega
      subst e
      go_wp2_with fail
      go_ret2
      exact ⟨⟨_, _, _, _, rfl, HJM.out, HKM.out⟩, HBM.out⟩
end Go.Proofs.YtgjbnebmcmoilaaGreatDoor
namespace Go.Proofs.YtgjbnebmcmoilaaGreatDoor
set_option linter.unusedVariables false
set_option linter.unusedSimpArgs false
open Go.RowKit Go.MapKept
theorem MdAt.kjr {W W' : World} {B pm p : Nat} {o1 o2 : Option Nat} {r s i o : Int} {data : Bs} {sum : Int} {l : List JC} {dv cv : Value} (h : MdAt W B pm r s i o data sum l dv cv) (k : Kjr p o1 o2 W W') (hpm : pm ≠ p ∧ o1 ≠ some pm ∧ o2 ≠ some pm)
    (hd : ∀ g, dv.ownBlock = some g → g ≠ p ∧ o1 ≠ some g ∧ o2 ≠ some g) (hc : ∀ g, cv.ownBlock = some g → g ≠ p ∧ o1 ≠ some g ∧ o2 ≠ some g) (hx : ∀ x ∈ l, ∀ a, x.A = some a → 0 < x.n → a.block ≠ p ∧ o1 ≠ some a.block ∧ o2 ≠ some a.block) : MdAt W' B pm r s i o data sum l dv cv :=
  ⟨(k.block pm h.lt hpm.1 hpm.2.1 hpm.2.2).trans h.hp, nown_keep h.dat fun g hg => k.block g (nown_block h.dat hg).2 (hd g hg).1 (hd g hg).2.1 (hd g hg).2.2, nown_keep h.cls fun g hg => k.block g (nown_block h.cls hg).2 (hc g hg).1 (hc g hg).2.1 (hc g hg).2.2, h.dne, h.cne, h.le,
    fun x hx' => ⟨bat_keep0 (h.each x hx').1 fun a ha h0 => k.block _ ((h.each x hx').2 a ha h0).1 (hx x hx' a ha h0).1 (hx x hx' a ha h0).2.1 (hx x hx' a ha h0).2.2, fun a ha h0 => ⟨Nat.lt_of_lt_of_le ((h.each x hx').2 a ha h0).1 k.size, ((h.each x hx').2 a ha h0).2⟩⟩⟩
theorem JrAt.kjr {W W' : World} {B pm p : Nat} {o1 o2 : Option Nat} {r s i o : Int} {data : Bs} {sum : Int} {l : List JC} {dv cv : Value} (h : JrAt W B pm r s i o data sum l dv cv) (k : Kjr p o1 o2 W W') (hpm : pm ≠ p ∧ o1 ≠ some pm ∧ o2 ≠ some pm)
    (hd : ∀ g, dv.ownBlock = some g → g ≠ p ∧ o1 ≠ some g ∧ o2 ≠ some g) (hc : ∀ g, cv.ownBlock = some g → g ≠ p ∧ o1 ≠ some g ∧ o2 ≠ some g) (hx : ∀ x ∈ l, ∀ a, x.A = some a → a.block ≠ p ∧ o1 ≠ some a.block ∧ o2 ≠ some a.block) : JrAt W' B pm r s i o data sum l dv cv :=
  ⟨(k.block pm h.lt hpm.1 hpm.2.1 hpm.2.2).trans h.hp, nown_keep h.dat fun g hg => k.block g (nown_block h.dat hg).2 (hd g hg).1 (hd g hg).2.1 (hd g hg).2.2, nown_keep h.cls fun g hg => k.block g (nown_block h.cls hg).2 (hc g hg).1 (hc g hg).2.1 (hc g hg).2.2, h.dne, h.cne, h.le,
    fun x hx' => ⟨bat_keep (h.each x hx').1 fun a ha => k.block _ ((h.each x hx').2 a ha).1 (hx x hx' a ha).1 (hx x hx' a ha).2.1 (hx x hx' a ha).2.2, fun a ha => ⟨Nat.lt_of_lt_of_le ((h.each x hx').2 a ha).1 k.size, ((h.each x hx').2 a ha).2⟩⟩⟩
theorem JrAt.kbut {W W' : World} {B pm p : Nat} {r s i o : Int} {data : Bs} {sum : Int} {l : List JC} {dv cv : Value} (h : JrAt W B p r s i o data sum l dv cv) (k : Kbut pm W W') (hp : p ≠ pm) (hd : dv.ownBlock ≠ some pm) (hc : cv.ownBlock ≠ some pm) (hx : ∀ x ∈ l, ∀ a, x.A = some a → a.block ≠ pm) : JrAt W' B p r s i o data sum l dv cv :=
  ⟨(k.block p h.lt hp).trans h.hp, nown_keep h.dat fun g hg => k.block g (nown_block h.dat hg).2 (fun e => hd (by rw [hg, e])), nown_keep h.cls fun g hg => k.block g (nown_block h.cls hg).2 (fun e => hc (by rw [hg, e])), h.dne, h.cne, h.le,
    fun x hx' => ⟨bat_keep (h.each x hx').1 fun a ha => k.block _ ((h.each x hx').2 a ha).1 (hx x hx' a ha), fun a ha => ⟨Nat.lt_of_lt_of_le ((h.each x hx').2 a ha).1 k.size, ((h.each x hx').2 a ha).2⟩⟩⟩
structure Sep (lo p pm : Nat) (dv cv dm cm : Value) (lj lm : List JC) : Prop where
  pp : p ≠ pm
  jd : dv.ownBlock ≠ some pm
  jc : cv.ownBlock ≠ some pm
  jx : ∀ x ∈ lj, ∀ a, x.A = some a → a.block ≠ pm
  md : ∀ g, dm.ownBlock = some g → g ≠ p ∧ dv.ownBlock ≠ some g ∧ cv.ownBlock ≠ some g
  mc : ∀ g, cm.ownBlock = some g → g ≠ p ∧ dv.ownBlock ≠ some g ∧ cv.ownBlock ≠ some g
  mx : ∀ x ∈ lm, ∀ a, x.A = some a → 0 < x.n → a.block < lo
/-- A journal at p that holds the calls ks, and a model at pm that holds k2. -/
structure LawX (w0 W : World) (p pm : Nat) (r s i o s0 : Int) (ks k2 : List Key) (dv cv dm cm : Value) (lj lm : List JC) : Prop where
  j : JrAt W w0.heap.size p r s i o (jst s0 ks).1 (jst s0 ks).2 lj dv cv
  m : MdAt W w0.heap.size pm r s i o (jst s0 k2).1 (jst s0 k2).2 lm dm cm
  jk : lj.map JC.key = ks
  mkk : lm.map JC.key = k2
  sep : Sep w0.heap.size p pm dv cv dm cm lj lm
  bel : Below w0.heap.size w0 W
  ok1 : ∀ κ ∈ ks, KeyOk κ
  ok2 : ∀ κ ∈ k2, KeyOk κ
def LawS (w0 W : World) (p pm : Nat) (r s i o s0 : Int) (ks k2 : List Key) : Prop := ∃ dv cv dm cm lj lm, LawX w0 W p pm r s i o s0 ks k2 dv cv dm cm lj lm
theorem LawX.below {w0 W W' : World} {p pm : Nat} {r s i o s0 : Int} {ks k2 : List Key} {dv cv dm cm : Value} {lj lm : List JC} (h : LawX w0 W p pm r s i o s0 ks k2 dv cv dm cm lj lm) (hb : Below W.heap.size W W') : LawX w0 W' p pm r s i o s0 ks k2 dv cv dm cm lj lm :=
  ⟨h.j.below hb, h.m.below hb, h.jk, h.mkk, h.sep, nbl_step h.bel hb, h.ok1, h.ok2⟩
theorem LawS.below {w0 W W' : World} {p pm : Nat} {r s i o s0 : Int} {ks k2 : List Key} (h : LawS w0 W p pm r s i o s0 ks k2) (hb : Below W.heap.size W W') : LawS w0 W' p pm r s i o s0 ks k2 := by
  obtain ⟨dv, cv, dm, cm, lj, lm, h⟩ := h
  exact ⟨dv, cv, dm, cm, lj, lm, h.below hb⟩
theorem LawX.far {w0 W : World} {p pm : Nat} {r s i o s0 : Int} {ks k2 : List Key} {dv cv dm cm : Value} {lj lm : List JC} (h : LawX w0 W p pm r s i o s0 ks k2 dv cv dm cm lj lm) : ∀ x ∈ lm, ∀ a, x.A = some a → 0 < x.n → a.block ≠ p ∧ dv.ownBlock ≠ some a.block ∧ cv.ownBlock ≠ some a.block := fun x hx a ha h0 => by
  have h1 := h.sep.mx x hx a ha h0
  have h2 := h.j.le
  refine ⟨by omega, fun e => ?_, fun e => ?_⟩
  · have := (nown_block h.j.dat e).1
    omega
  · have := (nown_block h.j.cls e).1
    omega
theorem lawx_append {w0 W : World} {p pm : Nat} {r s i o s0 : Int} {ks k2 : List Key} {dv cv dm cm : Value} {lj lm : List JC} (h : LawX w0 W p pm r s i o s0 ks k2 dv cv dm cm lj lm) (hE : Env1 w0) (x : JC) (hx : KeyOk x.key) (hd : BAt W (.slice x.A x.n x.c) x.d) (hl : ks.length < 1900) :
    Calls Tryz.prog 10 #[.pointer (some ⟨p, 0, none⟩), .agg x.arr] W fun e w' => e = .returned (.int .i64 0) ∧ LawS w0 w' p pm r s i o s0 (ks ++ [x.key]) k2 ∧ Kjr p dv.ownBlock cv.ownBlock W w' := by
  have hlj : lj.length = ks.length := by rw [← h.jk, List.length_map]
  refine (jappend_ok W w0.heap.size p r s i o _ _ lj dv cv h.j (hE.below h.bel) x hx hd (by omega) (by have := jst_len s0 _ ks rfl h.ok1; omega)).mono ?_
  rintro e w' ⟨he, dv', cv', y, h1, h2, h3, h4, h5, h6⟩
  have hpm : pm < W.heap.size := h.m.lt
  refine ⟨he, ⟨dv', cv', dm, cm, lj ++ [y], lm, ⟨by rw [jst_snoc]; exact h1, h.m.kjr h5 ⟨fun e => h.sep.pp e.symm, h.sep.jd, h.sep.jc⟩ h.sep.md h.sep.mc h.far, by rw [List.map_append, h.jk, List.map_singleton, h2], h.mkk, ⟨h.sep.pp, fun e => ?_, fun e => ?_, fun z hz a ha => ?_, fun g hg => ⟨(h.sep.md g hg).1, fun e => ?_, fun e => ?_⟩, fun g hg => ⟨(h.sep.mc g hg).1, fun e => ?_, fun e => ?_⟩, h.sep.mx⟩, ?_, ?_, h.ok2⟩⟩, h5⟩
  · rcases h3 _ e with h7 | h7
    · exact h.sep.jd h7
    · omega
  · rcases h4 _ e with h7 | h7
    · exact h.sep.jc h7
    · omega
  · rcases List.mem_append.1 hz with h7 | h7
    · exact h.sep.jx z h7 a ha
    · rw [List.mem_singleton.1 h7] at ha
      have := h6 a ha
      omega
  · rcases h3 _ e with h7 | h7
    · exact (h.sep.md g hg).2.1 h7
    · have := (nown_block h.m.dat hg).2
      omega
  · rcases h4 _ e with h7 | h7
    · exact (h.sep.md g hg).2.2 h7
    · have := (nown_block h.m.dat hg).2
      omega
  · rcases h3 _ e with h7 | h7
    · exact (h.sep.mc g hg).2.1 h7
    · have := (nown_block h.m.cls hg).2
      omega
  · rcases h4 _ e with h7 | h7
    · exact (h.sep.mc g hg).2.2 h7
    · have := (nown_block h.m.cls hg).2
      omega
  · exact h5.below h.bel h.j.le (fun g hg => (nown_block h.j.dat hg).1) (fun g hg => (nown_block h.j.cls hg).1) h.bel.size
  · intro κ hκ
    rcases List.mem_append.1 hκ with h7 | h7
    · exact h.ok1 κ h7
    · rw [List.mem_singleton.1 h7]
      exact hx
theorem law_append {w0 W : World} {p pm : Nat} {r s i o s0 : Int} {ks k2 : List Key} (h : LawS w0 W p pm r s i o s0 ks k2) (hE : Env1 w0) (x : JC) (hx : KeyOk x.key) (hd : BAt W (.slice x.A x.n x.c) x.d) (hl : ks.length < 1900) :
    Calls Tryz.prog 10 #[.pointer (some ⟨p, 0, none⟩), .agg x.arr] W fun e w' => e = .returned (.int .i64 0) ∧ LawS w0 w' p pm r s i o s0 (ks ++ [x.key]) k2 := by
  obtain ⟨dv, cv, dm, cm, lj, lm, h⟩ := h
  exact (lawx_append h hE x hx hd hl).mono fun e w' ⟨h1, h2, _⟩ => ⟨h1, h2⟩
theorem law_append_no {w0 W : World} {p pm : Nat} {r s i o s0 : Int} {ks k2 : List Key} (h : LawS w0 W p pm r s i o s0 ks k2) (hE : Env1 w0) (x : JC) (hv : validB x.o x.q x.k x.t x.j x.n = false) (hk : x.k.size ≤ 300) (ht : x.t.size ≤ 300) (hj : x.j.size ≤ 300) :
    Calls Tryz.prog 10 #[.pointer (some ⟨p, 0, none⟩), .agg x.arr] W fun e w' => e = .returned (.int .i64 2) ∧ LawS w0 w' p pm r s i o s0 ks k2 := by
  have hs := h
  obtain ⟨dv, cv, dm, cm, lj, lm, h⟩ := h
  exact (jappend_no W _ p r s i o _ _ lj dv cv h.j (hE.below h.bel) x hv hk ht hj).mono fun e w' ⟨h1, h2⟩ => ⟨h1, hs.below h2⟩
theorem law_addk {w0 W : World} {p pm : Nat} {r s i o s0 : Int} {ks k2 : List Key} (h : LawS w0 W p pm r s i o s0 ks k2) (hE : Env1 w0) (x : JC) (hx : KeyOk x.key) (hd : BAt W (.slice x.A x.n x.c) x.d) (hA : ∀ a, x.A = some a → 0 < x.n → a.block < w0.heap.size) (hl : k2.length < 1900) :
    Calls Tryz.prog 18 #[.pointer (some ⟨pm, 0, none⟩), .agg x.arr] W fun e w' => e = .returned (.int .i64 0) ∧ LawS w0 w' p pm r s i o s0 ks (k2 ++ [x.key]) ∧ Kbut pm W w' := by
  obtain ⟨dv, cv, dm, cm, lj, lm, h⟩ := h
  have hlm : lm.length = k2.length := by rw [← h.mkk, List.length_map]
  have hple := h.m.le
  refine (madd_ok W w0.heap.size pm r s i o _ _ lm dm cm h.m (hE.below h.bel) x hx hd (fun a ha h0 => ⟨Nat.lt_of_lt_of_le (hA a ha h0) h.bel.size, by have := hA a ha h0; omega⟩) (by omega) (by have := jst_len s0 _ k2 rfl h.ok2; omega)).mono ?_
  rintro e w' ⟨he, ⟨dm', cm', h1, h2, h3⟩, h4⟩
  have hp : p < W.heap.size := h.j.lt
  refine ⟨he, ⟨dv, cv, dm', cm', lj, lm ++ [x], ⟨h.j.kbut h4 h.sep.pp h.sep.jd h.sep.jc h.sep.jx, by rw [jst_snoc]; exact h1, h.jk, by rw [List.map_append, h.mkk, List.map_singleton], ⟨h.sep.pp, h.sep.jd, h.sep.jc, h.sep.jx, fun g hg => ?_, fun g hg => ?_, fun z hz a ha h0 => ?_⟩, h4.below h.bel h.m.le h.bel.size, h.ok1, ?_⟩⟩, h4⟩
  · have h5 := h2 g hg
    exact ⟨by omega, fun e => by have := (nown_block h.j.dat e).2; omega, fun e => by have := (nown_block h.j.cls e).2; omega⟩
  · have h5 := h3 g hg
    exact ⟨by omega, fun e => by have := (nown_block h.j.dat e).2; omega, fun e => by have := (nown_block h.j.cls e).2; omega⟩
  · rcases List.mem_append.1 hz with h7 | h7
    · exact h.sep.mx z h7 a ha h0
    · rw [List.mem_singleton.1 h7] at ha h0
      exact hA a ha h0
  · intro κ hκ
    rcases List.mem_append.1 hκ with h7 | h7
    · exact h.ok2 κ h7
    · rw [List.mem_singleton.1 h7]
      exact hx
theorem law_add {w0 W : World} {p pm : Nat} {r s i o s0 : Int} {ks k2 : List Key} (h : LawS w0 W p pm r s i o s0 ks k2) (hE : Env1 w0) (x : JC) (hx : KeyOk x.key) (hd : BAt W (.slice x.A x.n x.c) x.d) (hA : ∀ a, x.A = some a → 0 < x.n → a.block < w0.heap.size) (hl : k2.length < 1900) :
    Calls Tryz.prog 18 #[.pointer (some ⟨pm, 0, none⟩), .agg x.arr] W fun e w' => e = .returned (.int .i64 0) ∧ LawS w0 w' p pm r s i o s0 ks (k2 ++ [x.key]) :=
  (law_addk h hE x hx hd hA hl).mono fun e w' ⟨h1, h2, _⟩ => ⟨h1, h2⟩
theorem law_add_no {w0 W : World} {p pm : Nat} {r s i o s0 : Int} {ks k2 : List Key} (h : LawS w0 W p pm r s i o s0 ks k2) (hE : Env1 w0) (x : JC) (hv : validB x.o x.q x.k x.t x.j x.n = false) (hk : x.k.size ≤ 300) (ht : x.t.size ≤ 300) (hj : x.j.size ≤ 300) :
    Calls Tryz.prog 18 #[.pointer (some ⟨pm, 0, none⟩), .agg x.arr] W fun e w' => e = .returned (.int .i64 2) ∧ LawS w0 w' p pm r s i o s0 ks k2 := by
  have hs := h
  obtain ⟨dv, cv, dm, cm, lj, lm, h⟩ := h
  exact (madd_no W (hE.below h.bel) pm x hv hk ht hj).mono fun e w' ⟨h1, h2⟩ => ⟨h1, hs.below h2⟩
theorem key_d {l l' : List JC} {ks : List Key} (h : l.map JC.key = ks) (hk : ∀ κ ∈ ks, KeyOk κ) : ∀ x ∈ l, x.d.length ≤ 300 := fun x hx => (hk x.key (by rw [← h]; exact List.mem_map_of_mem hx)).d
theorem law_alikeb {w0 W : World} {p pm : Nat} {r s i o s0 : Int} {ks : List Key} (h : LawS w0 W p pm r s i o s0 ks ks) (hl : ks.length ≤ 1900) :
    Calls Tryz.prog 20 #[.pointer (some ⟨p, 0, none⟩), .pointer (some ⟨pm, 0, none⟩)] W fun e w' => e = .returned (.bool true) ∧ LawS w0 w' p pm r s i o s0 ks ks ∧ Below W.heap.size W w' := by
  have hs := h
  obtain ⟨dv, cv, dm, cm, lj, lm, h⟩ := h
  have hlj : lj.length = ks.length := by rw [← h.jk, List.length_map]
  exact (alike_true W _ p _ pm r s i o _ _ lj dv cv lm dm cm h.j h.m (h.jk.trans h.mkk.symm) (by omega) (fun x hx => by have := key_d (l' := []) h.jk h.ok1 x hx; omega) (by have := jst_len s0 _ ks rfl h.ok1; omega)).mono fun e w' ⟨h1, h2⟩ => ⟨h1, hs.below h2, h2⟩
theorem law_alike {w0 W : World} {p pm : Nat} {r s i o s0 : Int} {ks : List Key} (h : LawS w0 W p pm r s i o s0 ks ks) (hl : ks.length ≤ 1900) :
    Calls Tryz.prog 20 #[.pointer (some ⟨p, 0, none⟩), .pointer (some ⟨pm, 0, none⟩)] W fun e w' => e = .returned (.bool true) ∧ LawS w0 w' p pm r s i o s0 ks ks :=
  (law_alikeb h hl).mono fun e w' ⟨h1, h2, _⟩ => ⟨h1, h2⟩
theorem law_copy {w0 W : World} {p pm : Nat} {r s i o s0 : Int} {ks k2 : List Key} (h : LawS w0 W p pm r s i o s0 ks k2) (hE : Env1 w0) (hl : ks.length < 1900) :
    Calls Tryz.prog 21 #[.pointer (some ⟨p, 0, none⟩)] W fun e w' => ∃ p', e = .returned (.pointer (some ⟨p', 0, none⟩)) ∧ LawS w0 w' p' pm r s i o s0 ks k2 ∧
      (∀ W3 (x : JC), Below w'.heap.size w' W3 → KeyOk x.key → BAt W3 (.slice x.A x.n x.c) x.d → Calls Tryz.prog 10 #[.pointer (some ⟨p, 0, none⟩), .agg x.arr] W3 fun e w' => e = .returned (.int .i64 0) ∧ LawS w0 w' p' pm r s i o s0 ks k2) := by
  obtain ⟨dv, cv, dm, cm, lj, lm, h⟩ := h
  have hlj : lj.length = ks.length := by rw [← h.jk, List.length_map]
  refine (jcopy_any W _ p r s i o _ _ lj dv cv h.j (by omega) (fun x hx => by have := key_d (l' := []) h.jk h.ok1 x hx; omega) (by have := jst_len s0 _ ks rfl h.ok1; omega)).mono ?_
  rintro e w' ⟨⟨p', lj', dv', cv', he, h1, h2, h3, h4, h5⟩, hb⟩
  have hp' : W.heap.size ≤ p' := h1.le
  have hpm := h.m.lt
  have hp := h.j.lt
  have hX : LawX w0 w' p' pm r s i o s0 ks k2 dv' cv' dm cm lj' lm := by
    refine ⟨h1.base h.bel.size, h.m.below hb, h2.trans h.jk, h.mkk, ⟨by omega, fun e => ?_, fun e => ?_, fun x hx a ha => ?_, fun g hg => ⟨?_, fun e => ?_, fun e => ?_⟩, fun g hg => ⟨?_, fun e => ?_, fun e => ?_⟩, h.sep.mx⟩, nbl_step h.bel hb, h.ok1, h.ok2⟩
    · have := h3 _ e; omega
    · have := h4 _ e; omega
    · have := h5 x hx a ha; omega
    · have := (nown_block h.m.dat hg).2; omega
    · have := (nown_block h.m.dat hg).2; have := h3 _ e; omega
    · have := (nown_block h.m.dat hg).2; have := h4 _ e; omega
    · have := (nown_block h.m.cls hg).2; omega
    · have := (nown_block h.m.cls hg).2; have := h3 _ e; omega
    · have := (nown_block h.m.cls hg).2; have := h4 _ e; omega
  refine ⟨p', he, ⟨_, _, _, _, _, _, hX⟩, fun W3 x hb3 hx hd => ?_⟩
  have hO := (h.below hb).below hb3
  have hN := hX.below hb3
  have hfar : ∀ g, W.heap.size ≤ g → g ≠ p ∧ dv.ownBlock ≠ some g ∧ cv.ownBlock ≠ some g := fun g hg => ⟨by omega, fun e => by have := (nown_block h.j.dat e).2; omega, fun e => by have := (nown_block h.j.cls e).2; omega⟩
  refine (lawx_append hO hE x hx hd hl).mono ?_
  rintro e w'' ⟨he, hl', hk⟩
  exact ⟨he, _, _, _, _, _, _, hN.j.kjr hk (hfar p' hp') (fun g hg => hfar g (h3 g hg)) (fun g hg => hfar g (h4 g hg)) (fun x hx a ha => hfar _ (h5 x hx a ha)), hO.m.kjr hk ⟨fun e => h.sep.pp e.symm, h.sep.jd, h.sep.jc⟩ h.sep.md h.sep.mc hO.far, hN.jk, hN.mkk, hN.sep, hk.below hO.bel hO.j.le (fun g hg => (nown_block hO.j.dat hg).1) (fun g hg => (nown_block hO.j.cls hg).1) hO.bel.size, hN.ok1, hN.ok2⟩
end Go.Proofs.YtgjbnebmcmoilaaGreatDoor
namespace Go.Proofs.YtgjbnebmcmoilaaGreatDoor
set_option linter.unusedVariables false
set_option linter.unusedSimpArgs false
open Go.RowKit Go.MapKept
def JC.small (x : JC) : Bool := decide (x.k.size ≤ 300) && (decide (x.t.size ≤ 300) && (decide (x.j.size ≤ 300) && decide (x.n ≤ 300)))
theorem JC.small_iff (x : JC) : x.small = true ↔ x.k.size ≤ 300 ∧ x.t.size ≤ 300 ∧ x.j.size ≤ 300 ∧ x.n ≤ 300 := by simp [JC.small]
def lightB (l : List JC) (M : Nat) : Bool := (l.take M).all JC.small && decide (l.length ≤ M)
theorem light_all {l : List JC} {M : Nat} (h : lightB l M = true) : l.length ≤ M ∧ ∀ x ∈ l, x.small = true := by
  unfold lightB at h
  rw [Bool.and_eq_true] at h
  have h1 : l.length ≤ M := of_decide_eq_true h.2
  rw [List.take_of_length_le h1] at h
  exact ⟨h1, List.all_eq_true.1 h.1⟩
def SmallTo (l : List JC) (k : Nat) : Prop := ∀ i x, i < k → l[i]? = some x → x.small = true
theorem SmallTo.succ {l : List JC} {k : Nat} {x : JC} (h : SmallTo l k) (hx : l[k]? = some x) (hs : x.small = true) : SmallTo l (k + 1) := by
  intro i y hi hy
  by_cases e : i = k
  · subst e
    rw [hx] at hy
    cases hy
    exact hs
  · exact h i y (by omega) hy
theorem light_bad {l : List JC} {k M : Nat} {x : JC} (hx : l[k]? = some x) (hk : k < M) (hs : x.small = false) : lightB l M = false := by
  have hm : x ∈ l.take M := List.mem_of_getElem? (i := k) (by rw [List.getElem?_take_of_lt hk]; exact hx)
  unfold lightB
  rw [Bool.and_eq_false_iff]
  left
  rw [List.all_eq_false]
  exact ⟨x, hm, by rw [hs]; simp⟩
theorem light_end {l : List JC} {k M : Nat} (h : SmallTo l k) (hk : l.length ≤ k ∨ M ≤ k) : lightB l M = decide (l.length ≤ M) := by
  unfold lightB
  rw [show (l.take M).all JC.small = true from ?_, Bool.true_and]
  rw [List.all_eq_true]
  intro x hx
  obtain ⟨i, hi⟩ := List.mem_iff_getElem?.1 hx
  rw [List.getElem?_take] at hi
  split at hi
  · have := (List.getElem?_eq_some_iff.1 hi).1
    exact h i x (by omega) hi
  · cases hi
theorem small_false {x : JC} (h : ¬ (x.k.size ≤ 300 ∧ x.t.size ≤ 300 ∧ x.j.size ≤ 300 ∧ x.n ≤ 300)) : x.small = false := by
  cases e : x.small
  · rfl
  · exact absurd ((JC.small_iff x).1 e) h
set_option maxRecDepth 100000 in
set_option maxHeartbeats 2000000 in
theorem light_any (w : World) (v : Value) (l : List JC) (M : Nat) (hM : M ≤ 1000) (h : JSl w v l) : Calls Tryz.prog 16 #[v, .int .i64 (M : Int)] w
    fun e w' => e = .returned (.bool (lightB l M)) ∧ w' = w := by
  obtain ⟨A, cap, rfl, hcap, hcm, _⟩ := id h
  have HA := Lib.hid h
  have hlen : l.length ≤ 9223372036854775807 := by omega
  clear h
  obtain ⟨N, hN⟩ : ∃ N, l.length = N := ⟨_, rfl⟩
  have HN := Lib.hid hN
  rw [hN] at hcap hlen HA ⊢
  clear hN
  have HQ : Hid (∀ b, lightB l M = b → lightB l M = b) := Lib.hid fun b hb => hb
  obtain ⟨lb, hlb⟩ : ∃ lb, lightB l M = lb := ⟨_, rfl⟩
  rw [hlb]
  have HLB := Lib.hid hlb
  clear hlb HQ
  go_enter Tryz.func16, Tryz.ntmps16
  go_wp2_with fail
  go_loop [5] (fun u => ∃ k : Nat, k ≤ N ∧ k ≤ M ∧ u = .int .i64 k ∧ Hid (SmallTo l k)) (fun u => N - (intOf u).toNat)
  case atStart => exact ⟨0, Nat.zero_le _, by omega, rfl, Lib.hid fun i x h => absurd h (by omega)⟩
  case round =>
    obtain ⟨k, hk, hkM, rfl, hok⟩ := hrel
    by_cases hlt : k < N
    · by_cases hl6 : k < M
      · have hkl : k < l.length := by rw [HN.out]; exact hlt
        have hx : l[k]? = some l[k] := List.getElem?_eq_getElem hkl
        obtain ⟨b, off, e, hcs⟩ := SlAt.elem HA.out hkl
        subst e
        generalize l[k] = x at hx hcs
        have HX := Lib.hid hx
        have c1 := hcs 1 _ rfl
        have c2 := hcs 2 _ rfl
        have c3 := hcs 3 _ rfl
        have c5 := hcs 5 _ rfl
        clear hcs hx
        have d0 : decide ((k : Int) < N) = true := decide_eq_true (by omega)
        have d00 : decide ((k : Int) < M) = true := decide_eq_true (by omega)
        have HKM := Lib.hid hl6
        have HBAD : Hid (¬ (x.k.size ≤ 300 ∧ x.t.size ≤ 300 ∧ x.j.size ≤ 300 ∧ x.n ≤ 300) → lb = false) := Lib.hid fun hn => HLB.out.symm.trans (light_bad HX.out HKM.out (small_false hn))
        by_cases h1 : 300 < x.k.size
        · have d1 : decide ((300 : Int) < (x.k.size : Int)) = true := decide_eq_true (by omega)
          obtain rfl := HBAD.out (by omega)
          clear h1
          go_wp2_with fail
          go_ret
          exact ⟨rfl, rfl⟩
        · have d1 : decide ((300 : Int) < (x.k.size : Int)) = false := decide_eq_false (by omega)
          have H1 := Lib.hid h1
          clear h1
          by_cases h2 : 300 < x.t.size
          · have d2 : decide ((300 : Int) < (x.t.size : Int)) = true := decide_eq_true (by omega)
            obtain rfl := HBAD.out (by omega)
            clear h2
            go_wp2_with fail
            go_ret
            exact ⟨rfl, rfl⟩
          · have d2 : decide ((300 : Int) < (x.t.size : Int)) = false := decide_eq_false (by omega)
            have H2 := Lib.hid h2
            clear h2
            by_cases h3 : 300 < x.j.size
            · have d3 : decide ((300 : Int) < (x.j.size : Int)) = true := decide_eq_true (by omega)
              obtain rfl := HBAD.out (by omega)
              clear h3
              go_wp2_with fail
              go_ret
              exact ⟨rfl, rfl⟩
            · have d3 : decide ((300 : Int) < (x.j.size : Int)) = false := decide_eq_false (by omega)
              have H3 := Lib.hid h3
              clear h3
              by_cases h4 : 300 < x.n
              · have d4 : decide ((300 : Int) < (x.n : Int)) = true := decide_eq_true (by omega)
                obtain rfl := HBAD.out (by omega)
                clear h4
                go_wp2_with fail
                go_ret
                exact ⟨rfl, rfl⟩
              · have d4 : decide ((300 : Int) < (x.n : Int)) = false := decide_eq_false (by omega)
                have H4 := Lib.hid h4
                clear h4
                go_wp2_with fail
                refine ⟨⟨k + 1, by omega, by omega, by go_num, Lib.hid (hok.out.succ HX.out ((JC.small_iff x).2 ⟨by have := H1.out; omega, by have := H2.out; omega, by have := H3.out; omega, by have := H4.out; omega⟩))⟩, by simp [intOf]; omega⟩
      · have d0 : decide ((k : Int) < N) = true := decide_eq_true (by omega)
        have d00 : decide ((k : Int) < M) = false := decide_eq_false (by omega)
        have he : lb = decide ((N : Int) ≤ (M : Int)) := by
          rw [← HLB.out, light_end hok.out (Or.inr (by omega)), HN.out]
          by_cases hq : N ≤ M
          · rw [decide_eq_true hq, decide_eq_true (by omega)]
          · rw [decide_eq_false hq, decide_eq_false (by omega)]
        subst he
        go_wp2_with fail
        go_ret
        exact ⟨rfl, rfl⟩
    · have e : k = N := by omega
      have he : lb = decide ((N : Int) ≤ (M : Int)) := by
        rw [← HLB.out, light_end hok.out (Or.inl (by rw [HN.out]; omega)), HN.out]
        by_cases hq : N ≤ M
        · rw [decide_eq_true hq, decide_eq_true (by omega)]
        · rw [decide_eq_false hq, decide_eq_false (by omega)]
      subst e
      subst he
      have d0 : decide ((k : Int) < k) = false := decide_eq_false (by omega)
      go_wp2_with fail
      go_ret
      exact ⟨rfl, rfl⟩
end Go.Proofs.YtgjbnebmcmoilaaGreatDoor
