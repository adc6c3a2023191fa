/- The bytes of many equal calls are read again. JournalFulls: its loop's state. -/
import Derived.Test.YtgjbnebmcmoilaaGreatDoorYj
import Derived.Test.YtgjbnebmcmoilaaGreatDoorVg
import Derived.KernelRfl
namespace Go.Proofs.YtgjbnebmcmoilaaGreatDoor
set_option linter.unusedVariables false
set_option linter.unusedSimpArgs false
open Go.RowKit Go.MapKept
def getK : Key := (4, 0, ⟨#[107]⟩, ⟨#[]⟩, ⟨#[]⟩, [])
theorem getK_eq : getJ.key = getK := rfl
theorem get_head : headB 4 0 ⟨#[107]⟩ ⟨#[]⟩ ⟨#[]⟩ [] = [3, 4, 1, 107] := by decide +kernel
theorem get_rec (s : Int) : getK.rec s = [3, 4, 1, 107] ++ be4 (getK.sum s) := by
  unfold Key.rec recB Key.sum getK
  dsimp only
  rw [get_head]
theorem get_dec : decR [4, 1, 107] = some getK := by kernel_rfl
theorem strR_get (t : Bs) (M : Int) (hM : 3 ≤ M) (ht : 3 ≤ t.length) : strR (3 :: t) M = (strOf (t.take 3), 0, 4) := by
  have hn : numR (3 :: t) = (3, 0, 1) := by
    have h3 : lowB 3 = true := by decide
    have hv : valR (3 :: t) 0 = 3 := by
      unfold valR
      show List.foldl valStep 0 [3] = 3
      decide +kernel
    unfold numR
    rw [show List.take 10 (3 :: t) = 3 :: List.take 9 t from rfl, List.findIdx?_cons, h3]
    simp [hv]
  have hm : numM (3 :: t) maxU = (3, 0, 1) := by
    unfold numM
    rw [hn]
    simp [maxU]
  have h1 : strR1 (3 :: t) M = (strOf (t.take 3), 0, 4) := by
    unfold strR1
    rw [hm]
    have e1 : ¬ (M < 0 ∨ M < 3) := by omega
    have e2 : ¬ ((t.length : Int) < 3) := by omega
    simp [e1, e2]
  unfold strR
  rw [h1]
  rfl
theorem next_get (t : Bs) : nextR ([3, 4, 1, 107] ++ t) = some getK := by
  have h := strR_get (4 :: 1 :: 107 :: t) (([3, 4, 1, 107] ++ t).length : Int) (by simp; omega) (by simp)
  unfold nextR
  rw [show [3, 4, 1, 107] ++ t = 3 :: 4 :: 1 :: 107 :: t from rfl] at h ⊢
  rw [h]
  exact get_dec
theorem next_nil : nextR [] = none := by decide +kernel
def reps (n : Nat) : List Key := List.replicate n getK
theorem reps_succ (n : Nat) : reps (n + 1) = reps n ++ [getK] := List.replicate_succ'
theorem reps_len (n : Nat) : (reps n).length = n := List.length_replicate
theorem get_rec_len (s : Int) : (getK.rec s).length = 8 := by
  rw [get_rec]
  rfl
theorem jst_reps_len (s0 : Int) (n : Nat) : (jst s0 (reps n)).1.length = 8 * n := by
  induction n with
  | zero => rfl
  | succ n ih => rw [reps_succ, jst_snoc, List.length_append, ih, get_rec_len]; omega
theorem jst_reps_more (s0 : Int) (k : Nat) : ∀ d, ∃ T, (jst s0 (reps (k + d))).1 = (jst s0 (reps k)).1 ++ T
  | 0 => ⟨[], by simp⟩
  | d + 1 => by
    obtain ⟨T, hT⟩ := jst_reps_more s0 k d
    exact ⟨T ++ getK.rec (jst s0 (reps (k + d))).2, by rw [← Nat.add_assoc, reps_succ, jst_snoc, hT, List.append_assoc]⟩
theorem jst_reps_drop (s0 : Int) {k n : Nat} (h : k < n) : ∃ T, (jst s0 (reps n)).1.drop (jst s0 (reps k)).1.length = getK.rec (jst s0 (reps k)).2 ++ T := by
  obtain ⟨T, hT⟩ := jst_reps_more s0 (k + 1) (n - (k + 1))
  rw [show k + 1 + (n - (k + 1)) = n by omega, reps_succ, jst_snoc] at hT
  exact ⟨T, by rw [hT]; simp⟩
theorem jst_reps_take (s0 : Int) {k n : Nat} (h : k ≤ n) : (jst s0 (reps n)).1.take (jst s0 (reps k)).1.length = (jst s0 (reps k)).1 := by
  obtain ⟨T, hT⟩ := jst_reps_more s0 k (n - k)
  rw [show k + (n - k) = n by omega] at hT
  rw [hT]
  simp
theorem step_get (s0 : Int) {k n : Nat} (h : k < n) (h2 : k < 2000) : readStep s0 (jst s0 (reps n)).1 (reps k) = some getK := by
  obtain ⟨T, hT⟩ := jst_reps_drop s0 h
  unfold readStep
  rw [hT]
  have hn : nextR (getK.rec (jst s0 (reps k)).2 ++ T) = some getK := by
    rw [get_rec, List.append_assoc]
    exact next_get _
  rw [hn]
  dsimp only
  rw [if_pos ⟨by rw [List.isPrefixOf_iff_prefix]; exact List.prefix_append _ _, by rw [reps_len]; exact h2⟩]
theorem step_full (s0 : Int) {k n : Nat} (h : k < n) (hk : ¬ k < 2000) : readStep s0 (jst s0 (reps n)).1 (reps k) = none := by
  obtain ⟨T, hT⟩ := jst_reps_drop s0 h
  unfold readStep
  rw [hT]
  have hn : nextR (getK.rec (jst s0 (reps k)).2 ++ T) = some getK := by
    rw [get_rec, List.append_assoc]
    exact next_get _
  rw [hn]
  dsimp only
  rw [if_neg]
  rintro ⟨_, h2⟩
  rw [reps_len] at h2
  exact hk h2
theorem step_end (s0 : Int) (n : Nat) : readStep s0 (jst s0 (reps n)).1 (reps n) = none := by
  unfold readStep
  rw [List.drop_length, next_nil]
theorem readF_reps (s0 : Int) (n : Nat) : ∀ (f k : Nat), f + k = 2001 → k ≤ min n 2000 → readF s0 (jst s0 (reps n)).1 f (reps k) = reps (min n 2000)
  | 0, k, h, hk => by omega
  | f + 1, k, h, hk => by
    by_cases hlt : k < min n 2000
    · rw [readF_some f (step_get s0 (k := k) (n := n) (by omega) (by omega)), ← reps_succ]
      exact readF_reps s0 n f (k + 1) (by omega) (by omega)
    · have e : k = min n 2000 := by omega
      have hs : readStep s0 (jst s0 (reps n)).1 (reps k) = none := by
        by_cases hn : k < n
        · exact step_full s0 hn (by omega)
        · obtain rfl : k = n := by omega
          exact step_end s0 k
      rw [readF_none f hs, e]
theorem readAll_reps (s0 : Int) (n : Nat) : readAll s0 (jst s0 (reps n)).1 = reps (min n 2000) := readF_reps s0 n 2001 0 rfl (Nat.zero_le _)
end Go.Proofs.YtgjbnebmcmoilaaGreatDoor
namespace Go.Proofs.YtgjbnebmcmoilaaGreatDoor
set_option linter.unusedVariables false
set_option linter.unusedSimpArgs false
open Go.RowKit Go.MapKept
/-- A journal of a equal calls, and the bytes of n of them. -/
structure FulI (w W : World) (p : Nat) (s0 : Int) (a n : Nat) (av dv cv : Value) (lj : List JC) : Prop where
  j : JrAt W w.heap.size p 1 (4 : Nat) 2 3 (jst s0 (reps a)).1 (jst s0 (reps a)).2 lj dv cv
  jk : lj.map JC.key = reps a
  all : OwnB W w.heap.size av (jst s0 (reps n)).1
  sep : ∀ g, av.ownBlock = some g → dv.ownBlock ≠ some g
  bel : Below w.heap.size w W
def FulS (w W : World) (p : Nat) (s0 : Int) (a n : Nat) (av : Value) : Prop := ∃ dv cv lj, FulI w W p s0 a n av dv cv lj
theorem FulI.below {w W W' : World} {p : Nat} {s0 : Int} {a n : Nat} {av dv cv : Value} {lj : List JC} (h : FulI w W p s0 a n av dv cv lj) (hb : Below W.heap.size W W') : FulI w W' p s0 a n av dv cv lj :=
  ⟨h.j.below hb, h.jk, nown_below h.all hb, h.sep, nbl_step h.bel hb⟩
theorem FulS.below {w W W' : World} {p : Nat} {s0 : Int} {a n : Nat} {av : Value} (h : FulS w W p s0 a n av) (hb : Below W.heap.size W W') : FulS w W' p s0 a n av := by
  obtain ⟨dv, cv, lj, h⟩ := h
  exact ⟨dv, cv, lj, h.below hb⟩
theorem FulS.bel {w W : World} {p : Nat} {s0 : Int} {a n : Nat} {av : Value} (h : FulS w W p s0 a n av) : Below w.heap.size w W := by
  obtain ⟨dv, cv, lj, h⟩ := h
  exact h.bel
theorem FulI.avp {w W : World} {p : Nat} {s0 : Int} {a n : Nat} {av dv cv : Value} {lj : List JC} (h : FulI w W p s0 a n av dv cv lj) : av.ownBlock ≠ some p ∧ ∀ g, av.ownBlock = some g → cv.ownBlock ≠ some g :=
  ⟨own_obj h.all h.j.hp (fun cs e => by injection e with _ e; exact absurd e (by decide)), fun g hg => own_types h.all h.j.cls hg⟩
theorem jc_nil {l : List JC} {a : Nat} (h : l.map JC.key = reps a) : ∀ x ∈ l, x.d = [] := fun x hx => by
  have h1 : x.key ∈ reps a := by rw [← h]; exact List.mem_map_of_mem hx
  have h2 := List.eq_of_mem_replicate h1
  have h3 := congrArg (fun κ : Key => κ.2.2.2.2.2) h2
  exact h3
/-- Append while there is room. -/
theorem ful_append {w W : World} {p : Nat} {s0 : Int} {a n : Nat} {av : Value} (h : FulS w W p s0 a n av) (hE : Env1 w) (ha : a < 2000) : Calls Tryz.prog 10 #[.pointer (some ⟨p, 0, none⟩), .agg getJ.arr] W fun e w' => e = .returned (.int .i64 0) ∧ FulS w w' p s0 (a + 1) n av := by
  obtain ⟨dv, cv, lj, h⟩ := h
  have hlj : lj.length = a := by have := congrArg List.length h.jk; rw [List.length_map, reps_len] at this; exact this
  refine (jappend_ok W _ p 1 (4 : Nat) 2 3 _ _ lj dv cv h.j (hE.below h.bel) getJ get_ok (get_bat W) (by omega) (by rw [jst_reps_len]; omega)).mono ?_
  rintro e w' ⟨he, dv', cv', y, h1, h2, h3, h4, h5, h6⟩
  have hav := h.avp
  refine ⟨he, dv', cv', lj ++ [y], ⟨by rw [reps_succ, jst_snoc]; exact h1, by rw [List.map_append, h.jk, reps_succ, List.map_singleton, h2]; rfl, nown_keep h.all fun g hg => h5.block g (nown_block h.all hg).2 (fun e => hav.1 (by rw [hg, e])) (h.sep g hg) (hav.2 g hg), fun g hg e => ?_, h5.below h.bel h.j.le (fun g hg => (nown_block h.j.dat hg).1) (fun g hg => (nown_block h.j.cls hg).1) h.bel.size⟩⟩
  rcases h3 g e with h7 | h7
  · exact h.sep g hg h7
  · have := (nown_block h.all hg).2
    omega
theorem get_valid : validB 4 0 ⟨#[107]⟩ ⟨#[]⟩ ⟨#[]⟩ 0 = true := by kernel_rfl
theorem ful_full {w W : World} {p : Nat} {s0 : Int} {a n : Nat} {av : Value} (h : FulS w W p s0 a n av) (hE : Env1 w) (ha : ¬ a < 2000) : Calls Tryz.prog 10 #[.pointer (some ⟨p, 0, none⟩), .agg getJ.arr] W fun e w' => e = .returned (.int .i64 7) ∧ FulS w w' p s0 a n av := by
  have hs := h
  obtain ⟨dv, cv, lj, h⟩ := h
  have hlj : lj.length = a := by have := congrArg List.length h.jk; rw [List.length_map, reps_len] at this; exact this
  exact (jappend_full W _ p 1 (4 : Nat) 2 3 _ _ lj dv cv h.j (hE.below h.bel) 4 0 ⟨#[107]⟩ ⟨#[]⟩ ⟨#[]⟩ none 0 0 get_valid (by decide) (by decide) (by decide) (by omega)).mono fun e w' ⟨he, hb⟩ => ⟨he, hs.below hb⟩
/-- The law's record of the call. -/
theorem ful_record {w W : World} (hb : Below w.heap.size w W) (hE : Env1 w) (s : Int) : Calls Tryz.prog 12 #[.agg getJ.arr, .int .u32 s] W fun e w' => (∃ A n c, e = .returned (.tuple #[.slice A n c, .int .u32 (getK.sum s)]) ∧ BAt w' (.slice A n c) (getK.rec s)) ∧ Below W.heap.size W w' := by
  refine (lrecord_good 4 0 s ⟨#[107]⟩ ⟨#[]⟩ ⟨#[]⟩ none 0 0 [] (by decide) (by decide) get_valid (by decide) (by decide) (by decide) W (hE.below hb) (get_bat W) (by simp)).mono ?_
  rintro e w' ⟨⟨r, he, ho⟩, hbb⟩
  obtain ⟨A2, m2, c2, rfl⟩ := own_slice ho
  exact ⟨⟨A2, m2, c2, he, OwnB.sl ho⟩, hbb⟩
/-- The record is appended to the bytes. -/
theorem ful_all {w W : World} {p : Nat} {s0 : Int} {a n : Nat} {A : Option Addr} {m c : Nat} {A2 : Option Addr} {m2 c2 : Nat} (h : FulS w W p s0 a n (.slice A m c)) (hx : BAt W (.slice A2 m2 c2) (getK.rec (jst s0 (reps n)).2)) (hn : n ≤ 5000) :
    ∃ A' m' c' w', (∀ ty, (Builtin.append_ #[31, 31] ty #[.slice A m c, .slice A2 m2 c2]).run Tryz.prog W = .ok (.slice A' m' c') w') ∧ FulS w w' p s0 a (n + 1) (.slice A' m' c') := by
  obtain ⟨dv, cv, lj, h⟩ := h
  obtain ⟨v', w', hr, ho, hg, hv⟩ := app_at h.all hx (by rw [jst_reps_len, get_rec_len]; omega) h.bel.size
  obtain ⟨A', m', c', rfl⟩ := own_slice ho
  have hav := h.avp
  have hk : ∀ k, k < W.heap.size → (Value.slice A m c).ownBlock ≠ some k → w'.heap[k]? = W.heap[k]? := fun k hk hne => hg.block k hk fun e => hne e.symm
  refine ⟨A', m', c', w', hr, dv, cv, lj, ⟨⟨(hk p h.j.lt hav.1).trans h.j.hp, nown_keep h.j.dat fun g hgd => hk g (nown_block h.j.dat hgd).2 (fun e => h.sep g e hgd), nown_keep h.j.cls fun g hgc => hk g (nown_block h.j.cls hgc).2 (fun e => hav.2 g e hgc), h.j.dne, h.j.cne, h.j.le, fun x hx => ⟨?_, fun b hb => ⟨Nat.lt_of_lt_of_le ((h.j.each x hx).2 b hb).1 hg.size, ((h.j.each x hx).2 b hb).2⟩⟩⟩, h.jk, by rw [reps_succ, jst_snoc]; exact ho, fun g hgv e => ?_, Below.grown h.bel hg h.bel.size fun k hk => (nown_block h.all hk).1⟩⟩
  · have hd := jc_nil h.jk x hx
    have hb := (h.j.each x hx).1
    refine bat_keep0 hb fun b hb' h0 => ?_
    have := bat_len hb
    rw [hd] at this
    simp at this
    omega
  · rcases hv g hgv with h7 | h7
    · exact h.sep g h7 e
    · have := (nown_block h.j.dat e).2
      omega
end Go.Proofs.YtgjbnebmcmoilaaGreatDoor
