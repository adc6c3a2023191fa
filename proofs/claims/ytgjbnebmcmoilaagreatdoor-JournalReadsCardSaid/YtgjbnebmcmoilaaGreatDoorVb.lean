/- The reader. A number, read. A number, read from a reader. Reader.Num. Reader.Num, take. Reader.String. -/
import Derived.Test.YtgjbnebmcmoilaaGreatDoorVa
namespace Go.Proofs.YtgjbnebmcmoilaaGreatDoor
set_option linter.unusedVariables false
set_option linter.unusedSimpArgs false
open Go.RowKit Go.MapKept
/-- Nothing of what lay there changes but block p. -/
structure Kbut (p : Nat) (a b : World) : Prop where
  os : b.os = a.os
  tape : b.tape = a.tape
  output : b.output = a.output
  size : a.heap.size ≤ b.heap.size
  block : ∀ k, k < a.heap.size → k ≠ p → b.heap[k]? = a.heap[k]?
theorem Kbut.trans {p : Nat} {a b c : World} (h : Kbut p a b) (k : Kbut p b c) : Kbut p a c :=
  ⟨k.os.trans h.os, k.tape.trans h.tape, k.output.trans h.output, Nat.le_trans h.size k.size, fun j hj hp => (k.block j (Nat.lt_of_lt_of_le hj h.size) hp).trans (h.block j hj hp)⟩
theorem Kbut.ofBelow {p : Nat} {a b : World} (h : Below a.heap.size a b) : Kbut p a b := ⟨h.os, h.tape, h.output, h.size, fun j hj _ => h.block j hj⟩
theorem Kbut.set (p i : Nat) (a : World) (v : Value) : Kbut p a (a.setCell ⟨p, i, none⟩ v) := ⟨rfl, rfl, rfl, by rw [World.size_setCell]; exact Nat.le_refl _, fun k _ hp => wheap_setN _ _ _ _ hp⟩
theorem Kbut.below {p B : Nat} {w a b : World} (h : Kbut p a b) (hb : Below B w a) (hB : B ≤ p) (hs : B ≤ a.heap.size) : Below B w b :=
  ⟨h.os.trans hb.os, h.tape.trans hb.tape, h.output.trans hb.output, Nat.le_trans hb.size h.size, fun k hk => (h.block k (by omega) (by omega)).trans (hb.block k hk)⟩
/-- A reader at p of all, n of whose bytes were read. -/
structure RdAt (w : World) (B p : Nat) (all : Bs) (n : Nat) (v : Value) : Prop where
  hp : w.heap[p]? = some (.cells #[.bool true, v, .int .i64 (n : Int)] 184 (0, 0))
  own : OwnB w B v all
  ne : v.ownBlock ≠ some p
  le : B ≤ p
  hn : n ≤ all.length
  hl : all.length ≤ 1000000
theorem RdAt.lt {w : World} {B p : Nat} {all : Bs} {n : Nat} {v : Value} (h : RdAt w B p all n v) : p < w.heap.size := (Array.getElem?_eq_some_iff.1 h.hp).1
theorem RdAt.below {w w' : World} {B p : Nat} {all : Bs} {n : Nat} {v : Value} (h : RdAt w B p all n v) (hb : Below w.heap.size w w') : RdAt w' B p all n v :=
  ⟨(hb.block p h.lt).trans h.hp, nown_below h.own hb, h.ne, h.le, h.hn, h.hl⟩
set_option maxRecDepth 100000 in
set_option maxHeartbeats 1000000 in
theorem new_any (w : World) (v : Value) (l : Bs) (h : BAt w v l) (hl : l.length ≤ 1000000) (hnil : v = .slice none 0 0 ∨ ∃ b off n c, v = .slice (some ⟨b, off, none⟩) n c) : Calls Tryz.prog 61 #[v] w fun e w' => (∃ p r, e = .returned (.pointer (some ⟨p, 0, none⟩)) ∧ RdAt w' w.heap.size p l 0 r) ∧ Below w.heap.size w w' := by
  have HC := Lib.hid (clone_bytes w v l h hl hnil)
  have HL := Lib.hid hl
  clear h hnil hl
  go_enter Tryz.func61, Tryz.ntmps61
  go_wp2_with (first | (go_at_call 54; refine HC.out.mono ?_; rintro e w1 ⟨⟨r, rfl, hr⟩, hb⟩; obtain ⟨A1, m1, c1, rfl⟩ := own_slice hr; have HR := Lib.hid hr; have HB := Lib.hid hb; clear hr hb))
  go_ret
  exact ⟨⟨_, _, rfl, heap_alloc_new w1 _, nown_below HR.out (below_alloc _ _), fun e => by have := (nown_block HR.out e).2; omega, HB.out.size, Nat.zero_le _, HL.out⟩, nbl_al HB.out⟩
set_option maxRecDepth 100000 in
set_option maxHeartbeats 1000000 in
theorem rzero_any (w : World) (B p : Nat) (all : Bs) (n : Nat) (v : Value) (h : RdAt w B p all n v) : Calls Tryz.prog 135 #[.pointer (some ⟨p, 0, none⟩)] w fun e w' => e = .returned (.bool false) ∧ w' = w := by
  have c0 : w.cell? ⟨p, 0, none⟩ = some (.bool true) := wcell_at h.hp
  clear h
  go_enter Tryz.func135, Tryz.ntmps135
  go_wp2_with fail
  go_ret
  exact ⟨rfl, rfl⟩
theorem BAt.drop {w : World} {b off n c : Nat} {l : Bs} (h : BAt w (.slice (some ⟨b, off, none⟩) n c) l) (k : Nat) (hk : k ≤ l.length) : BAt w (.slice (some ⟨b, off + k, none⟩) (n - k) (c - k)) (l.drop k) := by
  obtain ⟨A, cap, e, h1, h2, h3⟩ := h
  injection e with e1 e2 e3
  subst e1; subst e2; subst e3
  refine ⟨_, _, by rw [List.length_drop], by rw [List.length_drop]; omega, by omega, fun h0 => ⟨b, off + k, rfl, fun i hi j u hu => ?_⟩⟩
  rw [List.length_drop] at h0
  obtain ⟨b', off', e, h4⟩ := h3 (by omega)
  injection e with e; injection e with e1 e2
  subst e1; subst e2
  have hi2 : k + i < l.length := by rw [List.length_drop] at hi; omega
  have := h4 (k + i) hi2 j u (by rw [List.getElem_drop] at hu; exact hu)
  rw [show off + k + i * 1 + j = off + (k + i) * 1 + j by omega]
  exact this
set_option maxRecDepth 100000 in
set_option maxHeartbeats 1000000 in
theorem rest_form (w : World) (B p : Nat) (all : Bs) (n : Nat) (v : Value) (h : RdAt w B p all n v) : Calls Tryz.prog 138 #[.pointer (some ⟨p, 0, none⟩)] w fun e w' => (∃ A m c, e = .returned (.slice A m c) ∧ BAt w' (.slice A m c) (all.drop n) ∧ (A = none → c = 0) ∧ (A = none ∨ ∃ b off, A = some ⟨b, off, none⟩)) ∧ Below w.heap.size w w' := by
  have c1 : w.cell? ⟨p, 1, none⟩ = some v := wcell_at h.hp
  have c2 : w.cell? ⟨p, 2, none⟩ = some (.int .i64 (n : Int)) := wcell_at h.hp
  have hn := h.hn
  have HSL := Lib.hid h.own.sl
  rcases h.own.2 with ⟨rfl, h0⟩ | ⟨g, cap, cur, rfl, _, _, hnc, hm, _⟩
  · have hl0 : all = [] := List.eq_nil_of_length_eq_zero h0
    subst hl0
    obtain rfl : n = 0 := by simpa using hn
    clear h
    go_enter Tryz.func138, Tryz.ntmps138
    go_wp2_with fail
    go_region_held3 (fun w' => w'.cell? ⟨p, 1, none⟩ = some (.slice none 0 0) ∧ w'.cell? ⟨p, 2, none⟩ = some (.int .i64 0)) (go_keep) (fail)
    go_wp2_with fail
    go_ret
    exact ⟨⟨_, _, _, rfl, HSL.out.below (Below.refl _ _).drew, fun _ => rfl, Or.inl rfl⟩, (Below.refl _ _).drew⟩
  · have HB := Lib.hid (BAt.drop HSL.out n hn)
    have b1 : (0 : Int) ≤ (n : Int) := by omega
    have b2 : (n : Int) ≤ (all.length : Int) := by omega
    have b3 : (n : Int) ≤ (cap : Int) := by omega
    clear h
    go_enter Tryz.func138, Tryz.ntmps138
    go_wp2_with fail
    go_region_held3 (fun w' => w'.cell? ⟨p, 1, none⟩ = some (.slice (some ⟨g, 0, none⟩) all.length cap) ∧ w'.cell? ⟨p, 2, none⟩ = some (.int .i64 (n : Int))) (go_keep) (fail)
    have hcases : cap = n ∨ ¬ cap = n := by omega
    rcases hcases with hcn | hcn
    · have hd : all.drop n = [] := List.drop_eq_nil_of_le (by omega)
      go_wp2_with fail
      all_goals first | omega | (go_ret; refine ⟨⟨_, _, _, rfl, ?_, fun e => (by cases e), Or.inr ⟨_, _, rfl⟩⟩, (Below.refl _ _).drew⟩; (try rw [hd]); exact ⟨_, 0, by rw [show all.length - n = 0 by omega]; rfl, Nat.zero_le _, by omega, fun h => absurd h (Nat.lt_irrefl 0)⟩)
    · go_wp2_with fail
      all_goals first | (exfalso; omega) | (go_ret; exact ⟨⟨_, _, _, rfl, by have := HB.out.below (Below.refl _ w).drew; rwa [Nat.zero_add] at this, fun e => (by cases e), Or.inr ⟨_, _, rfl⟩⟩, (Below.refl _ _).drew⟩)
theorem rest_any (w : World) (B p : Nat) (all : Bs) (n : Nat) (v : Value) (h : RdAt w B p all n v) : Calls Tryz.prog 138 #[.pointer (some ⟨p, 0, none⟩)] w fun e w' => (∃ A m c, e = .returned (.slice A m c) ∧ BAt w' (.slice A m c) (all.drop n) ∧ (A = none → c = 0)) ∧ Below w.heap.size w w' :=
  (rest_form w B p all n v h).mono fun e w' ⟨⟨A, m, c, h1, h2, h3, _⟩, hb⟩ => ⟨⟨A, m, c, h1, h2, h3⟩, hb⟩
end Go.Proofs.YtgjbnebmcmoilaaGreatDoor
namespace Go.Proofs.YtgjbnebmcmoilaaGreatDoor
set_option linter.unusedVariables false
set_option linter.unusedSimpArgs false
open Go.RowKit Go.MapKept
def lowB (x : UInt8) : Bool := decide (x.toNat < 128)
/-- Where the first byte below 128 stands, -1 if there is none. -/
def idxR (l : Bs) : Int := match l.findIdx? lowB with
  | some k => (k : Int)
  | none => -1
theorem low_any (w : World) (x : UInt8) : Calls Tryz.prog 192 #[.int .u8 (x.toNat : Int)] w fun e w' => e = .returned (.bool (lowB x)) ∧ w' = w := by
  have hd : lowB x = decide ((x.toNat : Int) < 128) := by
    unfold lowB
    by_cases h : x.toNat < 128
    · rw [decide_eq_true h, decide_eq_true (by omega)]
    · rw [decide_eq_false h, decide_eq_false (by omega)]
  rw [hd]
  clear hd
  go_enter Tryz.func192, Tryz.ntmps192
  go_wp2_with fail
  go_ret
  exact ⟨rfl, rfl⟩
theorem idx_none {l : Bs} (h : ∀ k (hk : k < l.length), lowB l[k] = false) : idxR l = -1 := by
  unfold idxR
  have : l.findIdx? lowB = none := by
    rw [List.findIdx?_eq_none_iff]
    intro x hx
    obtain ⟨k, hk, rfl⟩ := List.getElem_of_mem hx
    exact h k hk
  rw [this]
theorem idx_some {l : Bs} {k : Nat} (hk : k < l.length) (h : lowB l[k] = true) (hb : ∀ j (hj : j < k), lowB (l[j]'(by omega)) = false) : idxR l = (k : Int) := by
  unfold idxR
  have : l.findIdx? lowB = some k := by
    rw [List.findIdx?_eq_some_iff_getElem]
    exact ⟨hk, h, fun j hj => by rw [hb j hj]; simp⟩
  rw [this]
set_option maxRecDepth 100000 in
set_option maxHeartbeats 1000000 in
theorem idxfunc_any (w : World) (A : Option Addr) (m c : Nat) (l : Bs) (h : BAt w (.slice A m c) l) : Calls Tryz.prog 191 #[.slice A m c, .func (.func 192) #[] #[]] w fun e w' => e = .returned (.int .i64 (idxR l)) ∧ w' = w := by
  have hm : m = l.length := by
    obtain ⟨A', c', e, _⟩ := id h
    injection e
  subst hm
  have hll : l.length ≤ 9223372036854775807 := by
    obtain ⟨A', c', e, h1, h2, _⟩ := id h
    omega
  have HLL := Lib.hid hll
  have HH := Lib.hid h
  have HLOW := Lib.hid (fun W x => low_any W x)
  clear h hll
  go_enter Tryz.func191, Tryz.ntmps191
  go_wp2_with fail
  go_loopg [8] l.length (fun gf u8 wx => ∃ k : Nat, u8 = .int .i64 (k : Int) ∧ (∀ j (hj : j < l.length), j < k → lowB l[j] = false) ∧ k + gf = l.length ∧ wx = w)
  case atStart => exact ⟨0, rfl, fun j _ hj => absurd hj (Nat.not_lt_zero j), by omega, rfl⟩
  case round =>
    obtain ⟨k, rfl, hno, hk, hw⟩ := hrel
    obtain rfl := hw.symm
    have HNO := Lib.hid hno
    clear hno
    by_cases hlt : k < l.length
    · obtain ⟨g', rfl⟩ : ∃ g', gk = g' + 1 := ⟨gk - 1, by omega⟩
      obtain ⟨b, off, rfl, hc⟩ := BAt.at HH.out hlt
      have b1 : (0 : Int) ≤ (k : Int) := by omega
      have b2 : (k : Int) < (l.length : Int) := by omega
      have b3 : (k : Int) < 9223372036854775807 := by have := HLL.out; omega
      obtain ⟨x, hx⟩ : ∃ x, l[k] = x := ⟨_, rfl⟩
      rw [hx] at hc
      have HX := Lib.hid hx
      clear hx
      obtain ⟨bb, hbb⟩ : ∃ bb, lowB x = bb := ⟨_, rfl⟩
      have HBB := Lib.hid hbb
      have HLX := Lib.hid (fun W => low_any W x)
      rw [hbb] at HLX
      clear hbb
      cases bb with
      | true =>
        go_wp2_with (first | (go_at_call 192; refine (HLX.out _).mono ?_; rintro e w2 ⟨rfl, hw2⟩; obtain rfl := hw2.symm))
        go_ret
        exact ⟨by rw [idx_some hlt (by rw [HX.out]; exact HBB.out) fun j hj => HNO.out j (by omega) hj]; rfl, rfl⟩
      | false =>
        go_wp2_with (first | (go_at_call 192; refine (HLX.out _).mono ?_; rintro e w2 ⟨rfl, hw2⟩; obtain rfl := hw2.symm))
        go_roundg g'
        case measure => omega
        case rel => exact ⟨k + 1, by first | rfl | go_num, fun j hj1 hj2 => by
          by_cases hjk : j < k
          · exact HNO.out j hj1 hjk
          · obtain rfl : j = k := by omega
            rw [HX.out]
            exact HBB.out, by omega, rfl⟩
    · have e : k = l.length := by omega
      subst e
      go_wp2_with fail
      go_ret
      exact ⟨by rw [idx_none fun k hk => HNO.out k hk hk]; rfl, rfl⟩
end Go.Proofs.YtgjbnebmcmoilaaGreatDoor
namespace Go.Proofs.YtgjbnebmcmoilaaGreatDoor
set_option linter.unusedVariables false
set_option linter.unusedSimpArgs false
open Go.RowKit Go.MapKept
theorem BAt.len {w : World} {A : Option Addr} {m c : Nat} {l : Bs} (h : BAt w (.slice A m c) l) : m = l.length ∧ m ≤ c ∧ c ≤ 9223372036854775807 := by
  obtain ⟨A', c', e, h1, h2, _⟩ := h
  injection e with e1 e2 e3
  subst e1; subst e2; subst e3
  exact ⟨rfl, h1, h2⟩
/-- A number with seven bits more. -/
def valStep (n : Int) (x : UInt8) : Int := bits BinOp.or IntKind.u64 (IntKind.u64.wrap (n * 128)) (IntKind.u64.wrap (bits BinOp.andNot IntKind.u8 (x.toNat : Int) 128))
def valR (l : Bs) (k : Nat) : Int := ((l.take (k + 1)).drop 0).reverse.foldl valStep 0
theorem val_snoc (l : Bs) (k i : Nat) (hi : i < k + 1) (hk : k < l.length) : ((l.take (k + 1)).drop i).reverse.foldl valStep 0 = valStep (((l.take (k + 1)).drop (i + 1)).reverse.foldl valStep 0) (l[i]'(by omega)) := by
  have h1 : i < (l.take (k + 1)).length := by rw [List.length_take]; omega
  rw [List.drop_eq_getElem_cons h1, List.reverse_cons, List.foldl_append, List.getElem_take]
  rfl
theorem RdAt.move {W : World} {B p : Nat} {all : Bs} {n u : Nat} {v : Value} (h : RdAt W B p all n v) (hu : n + u ≤ all.length) : RdAt (W.setCell ⟨p, 2, none⟩ (.int .i64 ((n + u : Nat) : Int))) B p all (n + u) v ∧ Kbut p W (W.setCell ⟨p, 2, none⟩ (.int .i64 ((n + u : Nat) : Int))) :=
  ⟨⟨wheap_set h.hp, nown_keep h.own fun g hg => wheap_setN _ _ _ _ (fun e => h.ne (hg.trans (congrArg some e))), h.ne, h.le, hu, h.hl⟩, Kbut.set _ _ _ _⟩
set_option maxRecDepth 100000 in
set_option maxHeartbeats 2000000 in
theorem rnum_short (w : World) (B p : Nat) (all : Bs) (n : Nat) (v : Value) (h : RdAt w B p all n v) (hk : idxR ((all.drop n).take 10) = -1) (hc : (all.drop n).length < 10) : Calls Tryz.prog 137 #[.pointer (some ⟨p, 0, none⟩)] w fun e w' => e = .returned (.tuple #[.int .u64 0, .int .i64 4]) ∧ Below w.heap.size w w' := by
  have HR := Lib.hid (rest_any w B p all n v h)
  have HF := Lib.hid (fun W A m c l hb => idxfunc_any W A m c l hb)
  have HH := Lib.hid h
  obtain ⟨l, hl⟩ : ∃ l, all.drop n = l := ⟨_, rfl⟩
  have hLL : l.length ≤ 1000000 := by rw [← hl, List.length_drop]; have := h.hl; omega
  rw [hl] at hk hc HR
  have HLE := Lib.hid hl
  obtain ⟨T, hT⟩ : ∃ T, min l.length 10 = T := ⟨_, rfl⟩
  have hTT : T ≤ 10 := by omega
  have hTl : T ≤ l.length := by omega
  have htk : l.take T = l.take 10 := by
    rw [← hT]
    rcases Nat.le_total l.length 10 with h1 | h1
    · rw [Nat.min_eq_left h1, List.take_length, List.take_of_length_le h1]
    · rw [Nat.min_eq_right h1]
  have HTK := Lib.hid htk
  have hmin : min (l.length : Int) 10 = (T : Int) := by omega
  have t1 : (0 : Int) ≤ (T : Int) := by omega
  have d1 : decide ((l.length : Int) < 10) = true := decide_eq_true (by omega)
  have HK := Lib.hid hk
  obtain ⟨L, hL⟩ : ∃ L, l.length = L := ⟨_, rfl⟩
  rw [hL] at hLL hTl hmin hc d1
  have HL := Lib.hid hL
  clear h hl hT htk hL hk
  go_enter Tryz.func137, Tryz.ntmps137
  go_wp2_with (first | (go_at_call 138; refine HR.out.mono ?_; rintro e w1 ⟨⟨A, m, c, rfl, hb1, hA⟩, hb⟩; have hlen := BAt.len hb1; have hml : m = L := (by rw [← HL.out]; exact hlen.1); subst hml; have HB1 := Lib.hid hb; have HS1 := Lib.hid hb1; have t2 : (T : Int) ≤ (c : Int) := (by have := hlen.2.1; omega); skip; clear hb hb1 hlen) | (go_at_call 191; refine (HF.out _ _ _ _ _ (HS1.out.take hTl)).mono ?_; rintro e w2 ⟨rfl, hw2⟩; obtain rfl := hw2.symm; clear hw2; rw [HTK.out, HK.out]))
  go_ret2
  exact ⟨rfl, HB1.out⟩
set_option maxRecDepth 100000 in
set_option maxHeartbeats 2000000 in
theorem rnum_long (w : World) (B p : Nat) (all : Bs) (n : Nat) (v : Value) (h : RdAt w B p all n v) (hk : idxR ((all.drop n).take 10) = -1) (hc : 10 ≤ (all.drop n).length) : Calls Tryz.prog 137 #[.pointer (some ⟨p, 0, none⟩)] w fun e w' => e = .returned (.tuple #[.int .u64 0, .int .i64 12]) ∧ Below w.heap.size w w' := by
  have HR := Lib.hid (rest_any w B p all n v h)
  have HF := Lib.hid (fun W A m c l hb => idxfunc_any W A m c l hb)
  have HH := Lib.hid h
  obtain ⟨l, hl⟩ : ∃ l, all.drop n = l := ⟨_, rfl⟩
  have hLL : l.length ≤ 1000000 := by rw [← hl, List.length_drop]; have := h.hl; omega
  rw [hl] at hk hc HR
  have HLE := Lib.hid hl
  obtain ⟨T, hT⟩ : ∃ T, min l.length 10 = T := ⟨_, rfl⟩
  have hTT : T ≤ 10 := by omega
  have hTl : T ≤ l.length := by omega
  have htk : l.take T = l.take 10 := by
    rw [← hT]
    rcases Nat.le_total l.length 10 with h1 | h1
    · rw [Nat.min_eq_left h1, List.take_length, List.take_of_length_le h1]
    · rw [Nat.min_eq_right h1]
  have HTK := Lib.hid htk
  have hmin : min (l.length : Int) 10 = (T : Int) := by omega
  have t1 : (0 : Int) ≤ (T : Int) := by omega
  have d1 : decide ((l.length : Int) < 10) = false := decide_eq_false (by omega)
  have HK := Lib.hid hk
  obtain ⟨L, hL⟩ : ∃ L, l.length = L := ⟨_, rfl⟩
  rw [hL] at hLL hTl hmin hc d1
  have HL := Lib.hid hL
  clear h hl hT htk hL hk
  go_enter Tryz.func137, Tryz.ntmps137
  go_wp2_with (first | (go_at_call 138; refine HR.out.mono ?_; rintro e w1 ⟨⟨A, m, c, rfl, hb1, hA⟩, hb⟩; have hlen := BAt.len hb1; have hml : m = L := (by rw [← HL.out]; exact hlen.1); subst hml; have HB1 := Lib.hid hb; have HS1 := Lib.hid hb1; have t2 : (T : Int) ≤ (c : Int) := (by have := hlen.2.1; omega); skip; clear hb hb1 hlen) | (go_at_call 191; refine (HF.out _ _ _ _ _ (HS1.out.take hTl)).mono ?_; rintro e w2 ⟨rfl, hw2⟩; obtain rfl := hw2.symm; clear hw2; rw [HTK.out, HK.out]))
  go_ret2
  exact ⟨rfl, HB1.out⟩
set_option maxRecDepth 100000 in
set_option maxHeartbeats 2000000 in
theorem rnum_badA (w : World) (B p : Nat) (all : Bs) (n : Nat) (v : Value) (h : RdAt w B p all n v) (k : Nat) (x : UInt8) (hk : idxR ((all.drop n).take 10) = (k : Int)) (hkl : k < (all.drop n).length) (hx : (all.drop n)[k]? = some x) (hk0 : 0 < k) (hx0 : x.toNat = 0) : Calls Tryz.prog 137 #[.pointer (some ⟨p, 0, none⟩)] w fun e w' => e = .returned (.tuple #[.int .u64 0, .int .i64 12]) ∧ Below w.heap.size w w' := by
  have HR := Lib.hid (rest_any w B p all n v h)
  have HF := Lib.hid (fun W A m c l hb => idxfunc_any W A m c l hb)
  have HH := Lib.hid h
  obtain ⟨l, hl⟩ : ∃ l, all.drop n = l := ⟨_, rfl⟩
  have hLL : l.length ≤ 1000000 := by rw [← hl, List.length_drop]; have := h.hl; omega
  rw [hl] at hk hkl hx HR
  have HLE := Lib.hid hl
  obtain ⟨T, hT⟩ : ∃ T, min l.length 10 = T := ⟨_, rfl⟩
  have hTT : T ≤ 10 := by omega
  have hTl : T ≤ l.length := by omega
  have htk : l.take T = l.take 10 := by
    rw [← hT]
    rcases Nat.le_total l.length 10 with h1 | h1
    · rw [Nat.min_eq_left h1, List.take_length, List.take_of_length_le h1]
    · rw [Nat.min_eq_right h1]
  have HTK := Lib.hid htk
  have hmin : min (l.length : Int) 10 = (T : Int) := by omega
  have t1 : (0 : Int) ≤ (T : Int) := by omega
  have hxe : l[k] = x := by
    have := List.getElem?_eq_getElem hkl
    rw [hx] at this
    injection this with this
    exact this.symm
  have HX := Lib.hid hxe
  clear hxe
  have HK := Lib.hid hk
  have kneg : decide ((k : Int) < 0) = false := decide_eq_false (by omega)
  have kb1 : (0 : Int) ≤ (k : Int) := by omega
  have kpos : decide (0 < (k : Int)) = true := decide_eq_true (by omega)
  have kx : (x.toNat : Int) = 0 := by omega
  obtain ⟨L, hL⟩ : ∃ L, l.length = L := ⟨_, rfl⟩
  rw [hL] at hLL hTl hmin hkl
  have HL := Lib.hid hL
  have HKL := Lib.hid hkl
  clear h hl hT htk hL hk hx hx0
  go_enter Tryz.func137, Tryz.ntmps137
  go_wp2_with (first | (go_at_call 138; refine HR.out.mono ?_; rintro e w1 ⟨⟨A, m, c, rfl, hb1, hA⟩, hb⟩; have hlen := BAt.len hb1; have hml : m = L := (by rw [← HL.out]; exact hlen.1); subst hml; have HB1 := Lib.hid hb; have HS1 := Lib.hid hb1; have t2 : (T : Int) ≤ (c : Int) := (by have := hlen.2.1; omega); have kb2 : (k : Int) < (m : Int) := (by omega); obtain ⟨bb, off, rfl, hcx⟩ := BAt.at HS1.out (k := k) (by rw [HL.out]; exact HKL.out); rw [HX.out] at hcx; clear hb hb1 hlen) | (go_at_call 191; refine (HF.out _ _ _ _ _ (HS1.out.take hTl)).mono ?_; rintro e w2 ⟨rfl, hw2⟩; obtain rfl := hw2.symm; clear hw2; rw [HTK.out, HK.out]))
  go_ret2
  exact ⟨rfl, HB1.out⟩
set_option maxRecDepth 100000 in
set_option maxHeartbeats 2000000 in
theorem rnum_badB (w : World) (B p : Nat) (all : Bs) (n : Nat) (v : Value) (h : RdAt w B p all n v) (x : UInt8) (hk : idxR ((all.drop n).take 10) = (9 : Nat)) (hkl : 9 < (all.drop n).length) (hx : (all.drop n)[9]? = some x) (hx0 : 1 < x.toNat) : Calls Tryz.prog 137 #[.pointer (some ⟨p, 0, none⟩)] w fun e w' => e = .returned (.tuple #[.int .u64 0, .int .i64 12]) ∧ Below w.heap.size w w' := by
  have HR := Lib.hid (rest_any w B p all n v h)
  have HF := Lib.hid (fun W A m c l hb => idxfunc_any W A m c l hb)
  have HH := Lib.hid h
  obtain ⟨l, hl⟩ : ∃ l, all.drop n = l := ⟨_, rfl⟩
  have hLL : l.length ≤ 1000000 := by rw [← hl, List.length_drop]; have := h.hl; omega
  rw [hl] at hk hkl hx HR
  have HLE := Lib.hid hl
  obtain ⟨T, hT⟩ : ∃ T, min l.length 10 = T := ⟨_, rfl⟩
  have hTT : T ≤ 10 := by omega
  have hTl : T ≤ l.length := by omega
  have htk : l.take T = l.take 10 := by
    rw [← hT]
    rcases Nat.le_total l.length 10 with h1 | h1
    · rw [Nat.min_eq_left h1, List.take_length, List.take_of_length_le h1]
    · rw [Nat.min_eq_right h1]
  have HTK := Lib.hid htk
  have hmin : min (l.length : Int) 10 = (T : Int) := by omega
  have t1 : (0 : Int) ≤ (T : Int) := by omega
  have hxe : l[9] = x := by
    have := List.getElem?_eq_getElem hkl
    rw [hx] at this
    injection this with this
    exact this.symm
  have HX := Lib.hid hxe
  clear hxe
  have HK := Lib.hid hk
  have kx : ((x.toNat : Int) == 0) = false := by simpa using (show ¬ (x.toNat : Int) = 0 by omega)
  have kx1 : decide ((x.toNat : Int) = 0) = false := decide_eq_false (by omega)
  have kx2 : decide (1 < (x.toNat : Int)) = true := decide_eq_true (by omega)
  obtain ⟨L, hL⟩ : ∃ L, l.length = L := ⟨_, rfl⟩
  rw [hL] at hLL hTl hmin hkl
  have HL := Lib.hid hL
  have HKL := Lib.hid hkl
  clear h hl hT htk hL hk hx hx0
  go_enter Tryz.func137, Tryz.ntmps137
  go_wp2_with (first | (go_at_call 138; refine HR.out.mono ?_; rintro e w1 ⟨⟨A, m, c, rfl, hb1, hA⟩, hb⟩; have hlen := BAt.len hb1; have hml : m = L := (by rw [← HL.out]; exact hlen.1); subst hml; have HB1 := Lib.hid hb; have HS1 := Lib.hid hb1; have t2 : (T : Int) ≤ (c : Int) := (by have := hlen.2.1; omega); have kb2 : (9 : Int) < (m : Int) := (by omega); obtain ⟨bb, off, rfl, hcx⟩ := BAt.at HS1.out (k := 9) (by rw [HL.out]; exact HKL.out); rw [HX.out] at hcx; clear hb hb1 hlen) | (go_at_call 191; refine (HF.out _ _ _ _ _ (HS1.out.take hTl)).mono ?_; rintro e w2 ⟨rfl, hw2⟩; obtain rfl := hw2.symm; clear hw2; rw [HTK.out, HK.out]))
  go_ret2
  exact ⟨rfl, HB1.out⟩
set_option maxRecDepth 100000 in
set_option maxHeartbeats 2000000 in
theorem rnum_good (w : World) (B p : Nat) (all : Bs) (n : Nat) (v : Value) (h : RdAt w B p all n v) (k : Nat) (x : UInt8) (hk : idxR ((all.drop n).take 10) = (k : Int)) (hkl : k < (all.drop n).length) (hx : (all.drop n)[k]? = some x) (hk10 : k < 10) (hg : (k = 0 ∨ x.toNat ≠ 0) ∧ (k = 9 → x.toNat ≤ 1)) : Calls Tryz.prog 137 #[.pointer (some ⟨p, 0, none⟩)] w fun e w' => e = .returned (.tuple #[.int .u64 (valR (all.drop n) k), .int .i64 0]) ∧ RdAt w' B p all (n + (k + 1)) v ∧ Kbut p w w' := by
  have HR := Lib.hid (rest_any w B p all n v h)
  have HF := Lib.hid (fun W A m c l hb => idxfunc_any W A m c l hb)
  have HH := Lib.hid h
  obtain ⟨l, hl⟩ : ∃ l, all.drop n = l := ⟨_, rfl⟩
  have hLL : l.length ≤ 1000000 := by rw [← hl, List.length_drop]; have := h.hl; omega
  rw [hl] at hk hkl hx HR
  have HLE := Lib.hid hl
  obtain ⟨T, hT⟩ : ∃ T, min l.length 10 = T := ⟨_, rfl⟩
  have hTT : T ≤ 10 := by omega
  have hTl : T ≤ l.length := by omega
  have htk : l.take T = l.take 10 := by
    rw [← hT]
    rcases Nat.le_total l.length 10 with h1 | h1
    · rw [Nat.min_eq_left h1, List.take_length, List.take_of_length_le h1]
    · rw [Nat.min_eq_right h1]
  have HTK := Lib.hid htk
  have hmin : min (l.length : Int) 10 = (T : Int) := by omega
  have t1 : (0 : Int) ≤ (T : Int) := by omega
  have hxe : l[k] = x := by
    have := List.getElem?_eq_getElem hkl
    rw [hx] at this
    injection this with this
    exact this.symm
  have HX := Lib.hid hxe
  clear hxe
  have HK := Lib.hid hk
  have kneg : decide ((k : Int) < 0) = false := decide_eq_false (by omega)
  have kb1 : (0 : Int) ≤ (k : Int) := by omega
  have HKL2 := Lib.hid hkl
  obtain ⟨L, hL⟩ : ∃ L, l.length = L := ⟨_, rfl⟩
  rw [hL] at hLL hTl hmin hkl
  have HL := Lib.hid hL
  have HKL := Lib.hid hkl
  clear h hl hT htk hL hk hx
  have HG := Lib.hid hg
  have hcase : (decide (0 < (k : Int)) = false ∧ ((k : Int) == 9) = false ∧ decide ((k : Int) = 9) = false) ∨ (decide (0 < (k : Int)) = true ∧ ((x.toNat : Int) == 0) = false ∧ decide ((x.toNat : Int) = 0) = false ∧ ((k : Int) == 9) = false ∧ decide ((k : Int) = 9) = false) ∨ (decide (0 < (k : Int)) = true ∧ ((k : Int) == 9) = true ∧ decide ((k : Int) = 9) = true ∧ ((x.toNat : Int) == 0) = false ∧ decide ((x.toNat : Int) = 0) = false ∧ decide (1 < (x.toNat : Int)) = false) := by
    rcases Nat.eq_zero_or_pos k with h0 | h0
    · exact Or.inl ⟨decide_eq_false (by omega), by simpa using (show ¬ (k : Int) = 9 by omega), decide_eq_false (by omega)⟩
    · have hx0 : x.toNat ≠ 0 := by
        rcases hg.1 with h1 | h1
        · omega
        · exact h1
      by_cases h9 : k = 9
      · exact Or.inr (Or.inr ⟨decide_eq_true (by omega), by simpa using (show (k : Int) = 9 by omega), decide_eq_true (by omega), by simpa using (show ¬ (x.toNat : Int) = 0 by omega), decide_eq_false (by omega), decide_eq_false (by have := hg.2 h9; omega)⟩)
      · exact Or.inr (Or.inl ⟨decide_eq_true (by omega), by simpa using (show ¬ (x.toNat : Int) = 0 by omega), decide_eq_false (by omega), by simpa using (show ¬ (k : Int) = 9 by omega), decide_eq_false (by omega)⟩)
  clear hg
  rcases hcase with ⟨f1, f2, f3⟩ | ⟨f1, f2, f3, f4, f5⟩ | ⟨f1, f2, f3, f4, f5, f6⟩
  all_goals
    first | (have f0 : decide (0 < k) = false := (by have := of_decide_eq_false f1; exact decide_eq_false (by omega)); skip) | (have f0 : decide (0 < k) = true := (by have := of_decide_eq_true f1; exact decide_eq_true (by omega)); skip)
    go_enter Tryz.func137, Tryz.ntmps137
    go_wp2_with (first | (go_at_call 138; refine HR.out.mono ?_; rintro e w1 ⟨⟨A, m, c, rfl, hb1, hA⟩, hb⟩; have hlen := BAt.len hb1; have hml : m = L := (by rw [← HL.out]; exact hlen.1); subst hml; have HB1 := Lib.hid hb; have HS1 := Lib.hid hb1; have t2 : (T : Int) ≤ (c : Int) := (by have := hlen.2.1; omega); have kb2 : (k : Int) < (m : Int) := (by omega); obtain ⟨bb, off, rfl, hcx⟩ := BAt.at HS1.out (k := k) (by rw [HL.out]; exact HKL.out); rw [HX.out] at hcx; have p2 : w1.cell? ⟨p, 2, none⟩ = some (.int .i64 (n : Int)) := wcell_at (HH.out.below hb).hp; have z2 : w1.frozen? ⟨p, 2, none⟩ = false := wfroz_at (HH.out.below hb).hp; clear hb hb1 hlen) | (go_at_call 191; refine (HF.out _ _ _ _ _ (HS1.out.take hTl)).mono ?_; rintro e w2 ⟨rfl, hw2⟩; obtain rfl := hw2.symm; clear hw2; rw [HTK.out, HK.out]))
    go_loopg [6, 7] (k + 1) (fun gf u6 u7 wx => u7 = .int .i64 ((gf : Int) - 1) ∧ gf ≤ k + 1 ∧ u6 = .int .u64 (((l.take (k + 1)).drop gf).reverse.foldl valStep 0) ∧ wx = w1)
    case atStart => exact ⟨by first | rfl | go_num, Nat.le_refl _, by rw [List.drop_eq_nil_of_le (by rw [List.length_take]; omega)]; rfl, rfl⟩
    case round =>
      obtain ⟨h7, hgk, h6, hw⟩ := hrel
      obtain rfl := hw.symm
      obtain ⟨nv, hnv⟩ : ∃ nv, ((l.take (k + 1)).drop gk).reverse.foldl valStep 0 = nv := ⟨_, rfl⟩
      rw [hnv] at h6
      subst h6
      have HNV := Lib.hid hnv
      clear hnv
      by_cases hgz : gk = 0
      · subst hgz
        subst h7
        go_wp2_with fail
        go_ret2
        have hu : n + (k + 1) ≤ all.length := by
          have h1 := HL.out
          have h2 := HKL2.out
          rw [← HLE.out, List.length_drop] at h1 h2
          omega
        have hm := (HH.out.below HB1.out).move (u := k + 1) hu
        rw [show ((n + (k + 1) : Nat) : Int) = wrap64 ((n : Int) + ((k : Int) + 1)) by rw [Go.IntWalk.wrap64_in _ ⟨by omega, by have := HH.out.hl; omega⟩]; omega] at hm
        exact ⟨by rw [HLE.out, ← HNV.out]; rfl, hm.1, (Kbut.ofBelow HB1.out).trans hm.2⟩
      · obtain ⟨i, rfl⟩ : ∃ i, gk = i + 1 := ⟨gk - 1, by omega⟩
        rw [show (((i + 1 : Nat) : Int) - 1) = (i : Int) by omega] at h7
        subst h7
        have i1 : (0 : Int) ≤ (i : Int) := by omega
        have i2 : (i : Int) < (m : Int) := by omega
        have i3 : decide (0 ≤ (i : Int)) = true := decide_eq_true (by omega)
        obtain ⟨b3, off3, e3, hc3⟩ := BAt.at HS1.out (k := i) (by rw [HL.out]; omega)
        injection e3 with e3; injection e3 with e3 e4
        subst e3; subst e4
        obtain ⟨y, hy⟩ : ∃ y, l[i]'(by rw [HL.out]; omega) = y := ⟨_, rfl⟩
        rw [hy] at hc3
        have HY := Lib.hid hy
        clear hy
        go_wp2_with fail
        go_roundg i
        case measure => omega
        case rel => exact ⟨by first | rfl | go_num, by omega, by rw [val_snoc l k i (by omega) HKL2.out, HNV.out, HY.out]; rfl, rfl⟩
end Go.Proofs.YtgjbnebmcmoilaaGreatDoor
namespace Go.Proofs.YtgjbnebmcmoilaaGreatDoor
set_option linter.unusedVariables false
set_option linter.unusedSimpArgs false
open Go.RowKit Go.MapKept
/-- What reading a number from bytes gives: the number, the error, and how many bytes were read. -/
def numR (l : Bs) : Int × Int × Nat :=
  match (l.take 10).findIdx? lowB with
  | none => if l.length < 10 then (0, 4, 0) else (0, 12, 0)
  | some k => if (0 < k ∧ (l.getD k 0).toNat = 0) ∨ (k = 9 ∧ 1 < (l.getD k 0).toNat) then (0, 12, 0) else (valR l k, 0, k + 1)
theorem RdAt.plus0 {w : World} {B p : Nat} {all : Bs} {n : Nat} {v : Value} (h : RdAt w B p all n v) : RdAt w B p all (n + 0) v := h
theorem numR_used (l : Bs) : (numR l).2.2 ≤ l.length := by
  unfold numR
  split
  · split <;> exact Nat.zero_le _
  · rename_i k hk
    rw [List.findIdx?_eq_some_iff_getElem] at hk
    obtain ⟨h1, _⟩ := hk
    rw [List.length_take] at h1
    split
    · exact Nat.zero_le _
    · show k + 1 ≤ _
      omega
theorem rnumber_all (w : World) (B p : Nat) (all : Bs) (n : Nat) (v : Value) (h : RdAt w B p all n v) : Calls Tryz.prog 137 #[.pointer (some ⟨p, 0, none⟩)] w fun e w' => e = .returned (.tuple #[.int .u64 (numR (all.drop n)).1, .int .i64 (numR (all.drop n)).2.1]) ∧ RdAt w' B p all (n + (numR (all.drop n)).2.2) v ∧ Kbut p w w' := by
  have hlow : ∀ w', Below w.heap.size w w' → RdAt w' B p all n v ∧ Kbut p w w' := fun w' hb => ⟨h.below hb, Kbut.ofBelow hb⟩
  cases hf : ((all.drop n).take 10).findIdx? lowB with
  | none =>
    have hi : idxR ((all.drop n).take 10) = -1 := by unfold idxR; rw [hf]
    by_cases hl : (all.drop n).length < 10
    · have e1 : numR (all.drop n) = (0, 4, 0) := by unfold numR; rw [hf]; dsimp only; rw [if_pos hl]
      rw [e1]
      exact (rnum_short w B p all n v h hi hl).mono fun e w' ⟨he, hb⟩ => ⟨he, hlow w' hb⟩
    · have e1 : numR (all.drop n) = (0, 12, 0) := by unfold numR; rw [hf]; dsimp only; rw [if_neg hl]
      rw [e1]
      exact (rnum_long w B p all n v h hi (by omega)).mono fun e w' ⟨he, hb⟩ => ⟨he, hlow w' hb⟩
  | some k =>
    have hi : idxR ((all.drop n).take 10) = (k : Int) := by unfold idxR; rw [hf]
    have hf2 := hf
    rw [List.findIdx?_eq_some_iff_getElem] at hf2
    obtain ⟨hk1, _⟩ := hf2
    rw [List.length_take] at hk1
    have hkl : k < (all.drop n).length := by omega
    have hk10 : k < 10 := by omega
    obtain ⟨x, hx⟩ : ∃ x, (all.drop n)[k]? = some x := ⟨_, List.getElem?_eq_getElem hkl⟩
    have hgd : (all.drop n).getD k 0 = x := by rw [List.getD_eq_getElem?_getD, hx]; rfl
    by_cases hbad : (0 < k ∧ x.toNat = 0) ∨ (k = 9 ∧ 1 < x.toNat)
    · have e1 : numR (all.drop n) = (0, 12, 0) := by unfold numR; rw [hf]; dsimp only; rw [hgd, if_pos hbad]
      rw [e1]
      rcases hbad with ⟨h0, hx0⟩ | ⟨h9, hx1⟩
      · exact (rnum_badA w B p all n v h k x hi hkl hx h0 hx0).mono fun e w' ⟨he, hb⟩ => ⟨he, hlow w' hb⟩
      · subst h9
        exact (rnum_badB w B p all n v h x hi hkl hx hx1).mono fun e w' ⟨he, hb⟩ => ⟨he, hlow w' hb⟩
    · have e1 : numR (all.drop n) = (valR (all.drop n) k, 0, k + 1) := by unfold numR; rw [hf]; dsimp only; rw [hgd, if_neg hbad]
      rw [e1]
      exact rnum_good w B p all n v h k x hi hkl hx hk10 ⟨by omega, fun h9 => by omega⟩
set_option maxRecDepth 100000 in
set_option maxHeartbeats 1000000 in
theorem whole64_any (w : World) (B p : Nat) (all : Bs) (n : Nat) (v : Value) (h : RdAt w B p all n v) : Calls Tryz.prog 136 #[.pointer (some ⟨p, 0, none⟩), .func (.func 137) #[] #[]] w fun e w' => e = .returned (.tuple #[.int .u64 (numR (all.drop n)).1, .int .i64 (numR (all.drop n)).2.1]) ∧ RdAt w' B p all (n + (numR (all.drop n)).2.2) v ∧ Kbut p w w' := by
  have HZ := Lib.hid (rzero_any w B p all n v h)
  have HN := Lib.hid (rnumber_all w B p all n v h)
  have p2 : w.cell? ⟨p, 2, none⟩ = some (.int .i64 (n : Int)) := wcell_at h.hp
  have hcase : (numR (all.drop n)).2.1 = 0 ∨ ((numR (all.drop n)).1 = 0 ∧ (numR (all.drop n)).2.2 = 0 ∧ ((numR (all.drop n)).2.1 = 4 ∨ (numR (all.drop n)).2.1 = 12)) := by
    unfold numR
    split
    · split
      · exact Or.inr ⟨rfl, rfl, Or.inl rfl⟩
      · exact Or.inr ⟨rfl, rfl, Or.inr rfl⟩
    · split
      · exact Or.inr ⟨rfl, rfl, Or.inr rfl⟩
      · exact Or.inl rfl
  obtain ⟨⟨x, er, u⟩, hx⟩ : ∃ t, numR (all.drop n) = t := ⟨_, rfl⟩
  rw [hx] at HN hcase ⊢
  dsimp only at HN hcase ⊢
  clear h hx
  rcases hcase with rfl | ⟨rfl, rfl, hc⟩
  · go_enter Tryz.func136, Tryz.ntmps136
    go_wp2_with (first | (go_at_call 135; refine HZ.out.mono ?_; rintro e w1 ⟨rfl, hw⟩; obtain rfl := hw.symm; clear hw) | (go_at_call 137; refine HN.out.mono ?_; rintro e w2 ⟨rfl, hr, hb⟩; have HR := Lib.hid hr; have HB := Lib.hid hb; clear hr hb))
    go_ret2
    exact ⟨rfl, HR.out, HB.out⟩
  · rcases hc with rfl | rfl
    all_goals
      go_enter Tryz.func136, Tryz.ntmps136
      go_wp2_with (first | (go_at_call 135; refine HZ.out.mono ?_; rintro e w1 ⟨rfl, hw⟩; obtain rfl := hw.symm; clear hw) | (go_at_call 137; refine HN.out.mono ?_; rintro e w2 ⟨rfl, hr, hb⟩; have HR := Lib.hid hr; have HB := Lib.hid hb; have y2 : w2.cell? ⟨p, 2, none⟩ = some (.int .i64 (n : Int)) := wcell_at hr.hp; have z2 : w2.frozen? ⟨p, 2, none⟩ = false := wfroz_at hr.hp; clear hr hb))
      go_ret2
      have hm := HR.out.move (u := 0) HR.out.hn
      exact ⟨rfl, hm.1, HB.out.trans hm.2⟩
end Go.Proofs.YtgjbnebmcmoilaaGreatDoor
namespace Go.Proofs.YtgjbnebmcmoilaaGreatDoor
set_option linter.unusedVariables false
set_option linter.unusedSimpArgs false
open Go.RowKit Go.MapKept
theorem numR_cases (l : Bs) : (numR l).2.1 = 0 ∨ ((numR l).1 = 0 ∧ (numR l).2.2 = 0 ∧ ((numR l).2.1 = 4 ∨ (numR l).2.1 = 12)) := by
  unfold numR
  split
  · split
    · exact Or.inr ⟨rfl, rfl, Or.inl rfl⟩
    · exact Or.inr ⟨rfl, rfl, Or.inr rfl⟩
  · split
    · exact Or.inr ⟨rfl, rfl, Or.inr rfl⟩
    · exact Or.inl rfl
theorem RdAt.back {W : World} {B p : Nat} {all : Bs} {n k : Nat} {v : Value} (h : RdAt W B p all n v) (hk : k ≤ n) : RdAt (W.setCell ⟨p, 2, none⟩ (.int .i64 (k : Int))) B p all k v :=
  ⟨wheap_set h.hp, nown_keep h.own fun g hg => wheap_setN _ _ _ _ (fun e => h.ne (hg.trans (congrArg some e))), h.ne, h.le, Nat.le_trans hk h.hn, h.hl⟩
/-- A number that is at most a maximum. -/
def numM (l : Bs) (most : Int) : Int × Int × Nat := if (numR l).2.1 = 0 ∧ most < (numR l).1 then (0, 3, 0) else numR l
set_option maxRecDepth 100000 in
set_option maxHeartbeats 1000000 in
theorem rnum_any (w : World) (B p : Nat) (all : Bs) (n : Nat) (v : Value) (most : Int) (h : RdAt w B p all n v) : Calls Tryz.prog 89 #[.pointer (some ⟨p, 0, none⟩), .int .u64 most] w fun e w' => e = .returned (.tuple #[.int .u64 (numM (all.drop n) most).1, .int .i64 (numM (all.drop n) most).2.1]) ∧ RdAt w' B p all (n + (numM (all.drop n) most).2.2) v ∧ Kbut p w w' := by
  have HZ := Lib.hid (rzero_any w B p all n v h)
  have HN := Lib.hid (whole64_any w B p all n v h)
  have HH := Lib.hid h
  have p2 : w.cell? ⟨p, 2, none⟩ = some (.int .i64 (n : Int)) := wcell_at h.hp
  have hcase := numR_cases (all.drop n)
  unfold numM
  obtain ⟨⟨x, er, u⟩, hx⟩ : ∃ t, numR (all.drop n) = t := ⟨_, rfl⟩
  have hu := numR_used (all.drop n)
  rw [hx] at HN hcase hu ⊢
  dsimp only at HN hcase hu ⊢
  clear h hx
  rcases hcase with rfl | ⟨rfl, rfl, hc⟩
  · by_cases hm : most < x
    · rw [if_pos ⟨rfl, hm⟩]
      have d1 : decide (most < x) = true := decide_eq_true hm
      go_enter Tryz.func89, Tryz.ntmps89
      go_wp2_with (first | (go_at_call 135; refine HZ.out.mono ?_; rintro e w1 ⟨rfl, hw⟩; obtain rfl := hw.symm; clear hw) | (go_at_call 136; refine HN.out.mono ?_; rintro e w2 ⟨rfl, hr, hb⟩; have HR := Lib.hid hr; have HB := Lib.hid hb; have y2 : w2.cell? ⟨p, 2, none⟩ = some (.int .i64 ((n + u : Nat) : Int)) := wcell_at hr.hp; have z2 : w2.frozen? ⟨p, 2, none⟩ = false := wfroz_at hr.hp; clear hr hb))
      go_ret2
      exact ⟨rfl, HR.out.back (Nat.le_add_right _ _), HB.out.trans (Kbut.set _ _ _ _)⟩
    · rw [if_neg (fun hh => hm hh.2)]
      have d1 : decide (most < x) = false := decide_eq_false hm
      go_enter Tryz.func89, Tryz.ntmps89
      go_wp2_with (first | (go_at_call 135; refine HZ.out.mono ?_; rintro e w1 ⟨rfl, hw⟩; obtain rfl := hw.symm; clear hw) | (go_at_call 136; refine HN.out.mono ?_; rintro e w2 ⟨rfl, hr, hb⟩; have HR := Lib.hid hr; have HB := Lib.hid hb; clear hr hb))
      go_ret2
      exact ⟨rfl, HR.out, HB.out⟩
  · rw [if_neg (fun hh => by rcases hc with rfl | rfl <;> exact absurd hh.1 (by decide))]
    rcases hc with rfl | rfl
    all_goals
      go_enter Tryz.func89, Tryz.ntmps89
      go_wp2_with (first | (go_at_call 135; refine HZ.out.mono ?_; rintro e w1 ⟨rfl, hw⟩; obtain rfl := hw.symm; clear hw) | (go_at_call 136; refine HN.out.mono ?_; rintro e w2 ⟨rfl, hr, hb⟩; have HR := Lib.hid hr; have HB := Lib.hid hb; clear hr hb))
      go_ret2
      exact ⟨rfl, HR.out, HB.out⟩
theorem clone_form {w : World} {A : Option Addr} {m m2 c : Nat} {l : Bs} (hs : BAt w (.slice A m2 c) l) (hm : m ≤ m2) (h0 : A = none → c = 0) (hf : A = none ∨ ∃ b off, A = some ⟨b, off, none⟩) : Value.slice A m c = .slice none 0 0 ∨ ∃ b off n c', Value.slice A m c = .slice (some ⟨b, off, none⟩) n c' := by
  rcases hf with rfl | ⟨b, off, rfl⟩
  · have hc := h0 rfl
    subst hc
    have h1 := (BAt.len hs).2.1
    have hm0 : m = 0 := by omega
    subst hm0
    exact Or.inl rfl
  · exact Or.inr ⟨b, off, m, c, rfl⟩
theorem nown_base {w : World} {B B' e sz n : Nat} {v : Value} {xs : List Value} (h : w.ownsRow B e sz v n xs) (hB : B' ≤ B) : w.ownsRow B' e sz v n xs := by
  refine ⟨h.1, ?_⟩
  rcases h.2 with h0 | ⟨g, cap, cur, hv, hg, r⟩
  · exact .inl h0
  · exact .inr ⟨g, cap, cur, hv, by omega, r⟩
/-- What taking some bytes gives: the error, and how many were read. -/
def takeE (l : Bs) (m : Int) : Int × Nat := if (l.length : Int) < m then (4, 0) else (0, m.toNat)
set_option maxRecDepth 100000 in
set_option maxHeartbeats 1000000 in
theorem take_short (w : World) (B p : Nat) (all : Bs) (n : Nat) (v : Value) (m : Int) (h : RdAt w B p all n v) (hm : ((all.drop n).length : Int) < m) : Calls Tryz.prog 90 #[.pointer (some ⟨p, 0, none⟩), .int .u64 m] w fun e w' => e = .returned (.tuple #[.slice none 0 0, .int .i64 4]) ∧ Below w.heap.size w w' := by
  have HR := Lib.hid (rest_any w B p all n v h)
  obtain ⟨l, hl⟩ : ∃ l, all.drop n = l := ⟨_, rfl⟩
  have hLL : l.length ≤ 1000000 := by rw [← hl, List.length_drop]; have := h.hl; omega
  rw [hl] at HR hm
  obtain ⟨L, hL⟩ : ∃ L, l.length = L := ⟨_, rfl⟩
  rw [hL] at hLL hm
  have HL := Lib.hid hL
  have d1 : decide ((L : Int) < m) = true := decide_eq_true hm
  clear h hl hL
  go_enter Tryz.func90, Tryz.ntmps90
  go_wp2_with (first | (go_at_call 138; refine HR.out.mono ?_; rintro e w1 ⟨⟨A, mm, c, rfl, hb1, hA⟩, hb⟩; have hlen := BAt.len hb1; have hml : mm = L := (by rw [← HL.out]; exact hlen.1); subst hml; have HB1 := Lib.hid hb; clear hb hb1 hlen))
  go_ret2
  exact ⟨rfl, HB1.out⟩
set_option maxRecDepth 100000 in
set_option maxHeartbeats 1000000 in
theorem take_good (w : World) (B p : Nat) (all : Bs) (n : Nat) (v : Value) (m : Nat) (h : RdAt w B p all n v) (hm : m ≤ (all.drop n).length) : Calls Tryz.prog 90 #[.pointer (some ⟨p, 0, none⟩), .int .u64 (m : Int)] w fun e w' => (∃ r, e = .returned (.tuple #[r, .int .i64 0]) ∧ OwnB w' w.heap.size r ((all.drop n).take m)) ∧ RdAt w' B p all (n + m) v ∧ Kbut p w w' := by
  have HR : Hid (∀ W, Below w.heap.size w W → Calls Tryz.prog 138 #[.pointer (some ⟨p, 0, none⟩)] W fun e w' => (∃ A m c, e = .returned (.slice A m c) ∧ BAt w' (.slice A m c) (all.drop n) ∧ (A = none → c = 0) ∧ (A = none ∨ ∃ b off, A = some ⟨b, off, none⟩)) ∧ Below W.heap.size W w') := Lib.hid fun W hW => rest_form W B p all n v (h.below hW)
  have HH := Lib.hid h
  have hnm : n + m ≤ all.length := by rw [List.length_drop] at hm; have := h.hn; omega
  obtain ⟨l, hl⟩ : ∃ l, all.drop n = l := ⟨_, rfl⟩
  have hLL : l.length ≤ 1000000 := by rw [← hl, List.length_drop]; have := h.hl; omega
  have hal := h.hl
  rw [hl] at HR hm ⊢
  obtain ⟨L, hL⟩ : ∃ L, l.length = L := ⟨_, rfl⟩
  rw [hL] at hLL hm
  have HL := Lib.hid hL
  have d1 : decide ((L : Int) < (m : Int)) = false := decide_eq_false (by omega)
  have HNM := Lib.hid hnm
  have t1 : (0 : Int) ≤ (m : Int) := by omega
  clear h hl hL
  go_enter Tryz.func90, Tryz.ntmps90
  go_wp2_with (first | (go_at_call 138; refine (HR.out w (Below.refl _ w)).mono ?_; rintro e w1 ⟨⟨A, mm, c, rfl, hb1, hA, _⟩, hb⟩; have hlen := BAt.len hb1; have hml : mm = L := (by rw [← HL.out]; exact hlen.1); subst hml; have HB1 := Lib.hid hb; clear hb hb1 hlen hA) | (go_at_call 138; refine (HR.out w1 HB1.out).mono ?_; rintro e w2 ⟨⟨A2, m2, c2, rfl, hb2, hA2, hform⟩, hb⟩; have hlen := BAt.len hb2; have HB2 := Lib.hid (nbl_step HB1.out hb); have HS2 := Lib.hid hb2; have HF2 := Lib.hid hform; have t2 : (m : Int) ≤ (c2 : Int) := (by have h1 := hlen.2.1; have h2 := hlen.1; have h3 := HL.out; omega); have HM2 : Hid (m ≤ m2) := Lib.hid (by have h2 := hlen.1; have h3 := HL.out; omega); clear hb hb2 hlen hform) | (go_at_call 54; refine (clone_bytes w2 _ (l.take m) (HS2.out.take HM2.out) (by rw [List.length_take]; omega) (clone_form HS2.out HM2.out hA2 HF2.out)).mono ?_; rintro e w3 ⟨⟨r, rfl, hr⟩, hb⟩; obtain ⟨A3, m3, c3, rfl⟩ := own_slice hr; have HO3 := Lib.hid hr; have HB3 := Lib.hid (nbl_step HB2.out hb); have y2 : w3.cell? ⟨p, 2, none⟩ = some (.int .i64 (n : Int)) := wcell_at (HH.out.below HB3.out).hp; have z2 : w3.frozen? ⟨p, 2, none⟩ = false := wfroz_at (HH.out.below HB3.out).hp; clear hr hb))
  go_ret2
  have hm2 := (HH.out.below HB3.out).move (u := m) HNM.out
  rw [show ((n + m : Nat) : Int) = (n : Int) + (m : Int) by omega] at hm2
  refine ⟨⟨_, rfl, nown_keep (nown_base HO3.out HB2.out.size) fun g hg => wheap_setN _ _ _ _ (fun e => ?_)⟩, hm2.1, (Kbut.ofBelow HB3.out).trans hm2.2⟩
  have e' : g = p := e
  have h1 := (nown_block HO3.out hg).1
  have h2 := HH.out.lt
  have h3 := HB2.out.size
  omega
end Go.Proofs.YtgjbnebmcmoilaaGreatDoor
namespace Go.Proofs.YtgjbnebmcmoilaaGreatDoor
set_option linter.unusedVariables false
set_option linter.unusedSimpArgs false
open Go.RowKit Go.MapKept
theorem numM_cases (l : Bs) (m : Int) : (numM l m).2.1 = 0 ∨ ((numM l m).1 = 0 ∧ (numM l m).2.2 = 0 ∧ ((numM l m).2.1 = 3 ∨ (numM l m).2.1 = 4 ∨ (numM l m).2.1 = 12)) := by
  unfold numM
  split
  · exact Or.inr ⟨rfl, rfl, Or.inl rfl⟩
  · rcases numR_cases l with h | ⟨h1, h2, h3⟩
    · exact Or.inl h
    · exact Or.inr ⟨h1, h2, Or.inr h3⟩
theorem numM_used (l : Bs) (m : Int) : (numM l m).2.2 ≤ l.length := by
  unfold numM
  split
  · exact Nat.zero_le _
  · exact numR_used l
theorem numR_nonneg (l : Bs) : 0 ≤ (numR l).1 := by
  unfold numR
  split
  · split <;> exact Int.le_refl 0
  · split
    · exact Int.le_refl 0
    · show 0 ≤ valR _ _
      unfold valR
      rename_i k _ _
      generalize ((l.take (k + 1)).drop 0).reverse = m
      have : ∀ (m : Bs) (s : Int), 0 ≤ s → 0 ≤ m.foldl valStep s := by
        intro m
        induction m with
        | nil => intro s hs; exact hs
        | cons a r ih => intro s _; exact ih _ (bits_within BinOp.or IntKind.u64 _ _).1
      exact this m 0 (Int.le_refl 0)
theorem numM_nonneg (l : Bs) (m : Int) : 0 ≤ (numM l m).1 := by
  unfold numM
  split
  · exact Int.le_refl 0
  · exact numR_nonneg l
theorem u64_wrap (m : Int) (h0 : 0 ≤ m) (h1 : m < 18446744073709551616) : IntKind.u64.wrap m = m := by
  show m % 18446744073709551616 = m
  omega
def maxU : Int := 18446744073709551615
def strOf (l : Bs) : ByteArray := ⟨l.toArray⟩
/-- What reading a string gives, without going back: the string, the error, how many bytes were read. -/
def strR1 (l : Bs) (most : Int) : ByteArray × Int × Nat :=
  if (numM l maxU).2.1 ≠ 0 then (strOf [], (numM l maxU).2.1, 0)
  else if most < 0 ∨ most < (numM l maxU).1 then (strOf [], 5, (numM l maxU).2.2)
  else if ((l.drop (numM l maxU).2.2).length : Int) < (numM l maxU).1 then (strOf [], 4, (numM l maxU).2.2)
  else (strOf ((l.drop (numM l maxU).2.2).take (numM l maxU).1.toNat), 0, (numM l maxU).2.2 + (numM l maxU).1.toNat)
set_option maxRecDepth 100000 in
set_option maxHeartbeats 2000000 in
theorem str1_any (w : World) (B p q : Nat) (all : Bs) (n : Nat) (v : Value) (most : Int) (h : RdAt w B p all n v) (hq : w.cell? ⟨q, 0, none⟩ = some (.int .i64 most)) (hqp : q ≠ p) (hm64 : most ≤ 9223372036854775807) : Calls Tryz.prog 88 #[.pointer (some ⟨p, 0, none⟩), .pointer (some ⟨q, 0, none⟩)] w fun e w' => e = .returned (.tuple #[.string (strR1 (all.drop n) most).1, .int .i64 (strR1 (all.drop n) most).2.1]) ∧ RdAt w' B p all (n + (strR1 (all.drop n) most).2.2) v ∧ Kbut p w w' := by
  have HN := Lib.hid (rnum_any w B p all n v maxU h)
  have hqb : q < w.heap.size := World.block_lt_of_cell? w _ hq
  have HH := Lib.hid h
  have hcase := numM_cases (all.drop n) maxU
  have hus := numM_used (all.drop n) maxU
  have hnn := numM_nonneg (all.drop n) maxU
  unfold strR1
  obtain ⟨⟨x, er, u⟩, hx⟩ : ∃ t, numM (all.drop n) maxU = t := ⟨_, rfl⟩
  rw [hx] at HN hcase hus hnn ⊢
  dsimp only at HN hcase hus hnn ⊢
  have hkq : ∀ w', Kbut p w w' → w'.cell? ⟨q, 0, none⟩ = some (.int .i64 most) := fun w' hk => by
    rw [World.cell?_of_block (hk.block q hqb hqp)]; exact hq
  have HKQ := Lib.hid hkq
  unfold maxU at HN
  clear h hx hkq
  rcases hcase with rfl | ⟨rfl, rfl, hc⟩
  · rw [if_neg (by simp)]
    by_cases hlong : most < 0 ∨ most < x
    · rw [if_pos hlong]
      have hcs : decide (most < 0) = true ∨ (decide (most < 0) = false ∧ decide (most < x) = true) := by
        by_cases h0 : most < 0
        · exact Or.inl (decide_eq_true h0)
        · exact Or.inr ⟨decide_eq_false h0, decide_eq_true (by omega)⟩
      have hwr : decide (most < 0) = false → IntKind.u64.wrap most = most := fun hd => u64_wrap most (by have := of_decide_eq_false hd; omega) (by omega)
      clear hlong
      rcases hcs with d1 | ⟨d1, d2⟩
      rotate_left
      · have hwr2 := hwr d1
        clear hwr
        go_enter Tryz.func88, Tryz.ntmps88
        go_wp2_with (first | (go_at_call 89; refine HN.out.mono ?_; rintro e w2 ⟨rfl, hr, hb⟩; have HR := Lib.hid hr; have HB := Lib.hid hb; have cq := HKQ.out w2 hb; clear hr hb))
        go_ret2
        exact ⟨rfl, HR.out, HB.out⟩
      all_goals
        clear hwr
        go_enter Tryz.func88, Tryz.ntmps88
        go_wp2_with (first | (go_at_call 89; refine HN.out.mono ?_; rintro e w2 ⟨rfl, hr, hb⟩; have HR := Lib.hid hr; have HB := Lib.hid hb; have cq := HKQ.out w2 hb; clear hr hb))
        go_ret2
        exact ⟨rfl, HR.out, HB.out⟩
    · rw [if_neg hlong]
      have d1 : decide (most < 0) = false := decide_eq_false (by omega)
      have d2 : decide (most < x) = false := decide_eq_false (by omega)
      have d3 : (0 : Int) ≤ most := by omega
      have hwr : IntKind.u64.wrap most = most := u64_wrap most d3 (by omega)
      have hdd : all.drop (n + u) = (all.drop n).drop u := by rw [List.drop_drop]
      by_cases hsh : (((all.drop n).drop u).length : Int) < x
      · rw [if_pos hsh]
        rw [← hdd] at hsh
        have HSH := Lib.hid hsh
        have hcn : ∀ W, (convert 31 9 (.slice none 0 0)).run Tryz.prog W = .ok (.string ⟨#[]⟩) W := fun W => run_convert_bytes_nil W 31 5 (by kernel_rfl) (by kernel_rfl) 0 0 9 (by kernel_rfl)
        clear hsh hlong
        go_enter Tryz.func88, Tryz.ntmps88
        go_wp2_with (first | (go_at_call 89; refine HN.out.mono ?_; rintro e w2 ⟨rfl, hr, hb⟩; have HR := Lib.hid hr; have HB := Lib.hid hb; have cq := HKQ.out w2 hb; clear hr hb) | (go_at_call 90; refine (take_short w2 B p all _ v x HR.out HSH.out).mono ?_; rintro e w3 ⟨rfl, hb⟩; have HB3 := Lib.hid hb; clear hb))
        go_ret2
        exact ⟨rfl, HR.out.below HB3.out, HB.out.trans (Kbut.ofBelow HB3.out)⟩
      · rw [if_neg hsh]
        obtain ⟨X, rfl⟩ : ∃ X : Nat, x = (X : Int) := ⟨x.toNat, by omega⟩
        have hX : (X : Int).toNat = X := by omega
        rw [hX]
        have htk : X ≤ (all.drop (n + u)).length := by rw [hdd]; omega
        have HTK := Lib.hid htk
        have HDD := Lib.hid hdd
        clear hsh hlong htk hX hdd
        go_enter Tryz.func88, Tryz.ntmps88
        go_wp2_with (first | (go_at_call 89; refine HN.out.mono ?_; rintro e w2 ⟨rfl, hr, hb⟩; have HR := Lib.hid hr; have HB := Lib.hid hb; have cq := HKQ.out w2 hb; clear hr hb) | (go_at_call 90; refine (take_good w2 B p all _ v X HR.out HTK.out).mono ?_; rintro e w3 ⟨⟨r, rfl, ho⟩, hr3, hb⟩; obtain ⟨sv, hsv⟩ : ∃ sv : ByteArray, (⟨((all.drop (n + u)).take X).toArray⟩ : ByteArray) = sv := ⟨_, rfl⟩; have hcv := back_bytes ho; rw [hsv] at hcv; have HSV := Lib.hid hsv; obtain ⟨A3, m3, c3, rfl⟩ := own_slice ho; have HR3 := Lib.hid hr3; have HB3 := Lib.hid hb; clear hb hr3 ho hsv))
        go_ret2
        exact ⟨by rw [← HDD.out, ← HSV.out]; rfl, by rw [← Nat.add_assoc]; exact HR3.out, HB.out.trans HB3.out⟩
  · rw [if_pos (by rcases hc with rfl | rfl | rfl <;> decide)]
    rcases hc with rfl | rfl | rfl
    all_goals
      go_enter Tryz.func88, Tryz.ntmps88
      go_wp2_with (first | (go_at_call 89; refine HN.out.mono ?_; rintro e w2 ⟨rfl, hr, hb⟩; have HR := Lib.hid hr; have HB := Lib.hid hb; clear hr hb))
      go_ret2
      exact ⟨rfl, HR.out, HB.out⟩
/-- What reading a string gives. -/
def strR (l : Bs) (most : Int) : ByteArray × Int × Nat := if (strR1 l most).2.1 = 0 then strR1 l most else (strOf [], (strR1 l most).2.1, 0)
theorem strR1_err (l : Bs) (most : Int) : (strR1 l most).2.1 = 0 ∨ (strR1 l most).2.1 = 3 ∨ (strR1 l most).2.1 = 4 ∨ (strR1 l most).2.1 = 5 ∨ (strR1 l most).2.1 = 12 := by
  unfold strR1
  split
  · rename_i h
    rcases numM_cases l maxU with h0 | ⟨_, _, h1 | h1 | h1⟩
    · exact absurd h0 h
    · exact Or.inr (Or.inl h1)
    · exact Or.inr (Or.inr (Or.inl h1))
    · exact Or.inr (Or.inr (Or.inr (Or.inr h1)))
  · split
    · exact Or.inr (Or.inr (Or.inr (Or.inl rfl)))
    · split
      · exact Or.inr (Or.inr (Or.inl rfl))
      · exact Or.inl rfl
set_option maxRecDepth 100000 in
set_option maxHeartbeats 2000000 in
theorem wholeS_any (w : World) (B p q : Nat) (all : Bs) (n : Nat) (v : Value) (most : Int) (h : RdAt w B p all n v) (hq : w.cell? ⟨q, 0, none⟩ = some (.int .i64 most)) (hqp : q ≠ p) (hm64 : most ≤ 9223372036854775807) : Calls Tryz.prog 87 #[.pointer (some ⟨p, 0, none⟩), .func (.func 88) #[] #[.pointer (some ⟨q, 0, none⟩)]] w fun e w' => e = .returned (.tuple #[.string (strR (all.drop n) most).1, .int .i64 (strR (all.drop n) most).2.1]) ∧ RdAt w' B p all (n + (strR (all.drop n) most).2.2) v ∧ Kbut p w w' := by
  have HZ := Lib.hid (rzero_any w B p all n v h)
  have HN := Lib.hid (str1_any w B p q all n v most h hq hqp hm64)
  have p2 : w.cell? ⟨p, 2, none⟩ = some (.int .i64 (n : Int)) := wcell_at h.hp
  have HH := Lib.hid h
  have hcase := strR1_err (all.drop n) most
  unfold strR
  obtain ⟨⟨x, er, u⟩, hx⟩ : ∃ t, strR1 (all.drop n) most = t := ⟨_, rfl⟩
  rw [hx] at HN hcase ⊢
  dsimp only at HN hcase ⊢
  clear h hx hq
  rcases hcase with rfl | hc
  · rw [if_pos rfl]
    go_enter Tryz.func87, Tryz.ntmps87
    go_wp2_with (first | (go_at_call 135; refine HZ.out.mono ?_; rintro e w1 ⟨rfl, hw⟩; obtain rfl := hw.symm; clear hw) | (go_at_call 88; refine HN.out.mono ?_; rintro e w2 ⟨rfl, hr, hb⟩; have HR := Lib.hid hr; have HB := Lib.hid hb; clear hr hb))
    go_ret2
    exact ⟨rfl, HR.out, HB.out⟩
  · rw [if_neg (by rcases hc with rfl | rfl | rfl | rfl <;> decide)]
    rcases hc with rfl | rfl | rfl | rfl
    all_goals
      go_enter Tryz.func87, Tryz.ntmps87
      go_wp2_with (first | (go_at_call 135; refine HZ.out.mono ?_; rintro e w1 ⟨rfl, hw⟩; obtain rfl := hw.symm; clear hw) | (go_at_call 88; refine HN.out.mono ?_; rintro e w2 ⟨rfl, hr, hb⟩; have HR := Lib.hid hr; have HB := Lib.hid hb; have y2 : w2.cell? ⟨p, 2, none⟩ = some (.int .i64 ((n + u : Nat) : Int)) := wcell_at hr.hp; have z2 : w2.frozen? ⟨p, 2, none⟩ = false := wfroz_at hr.hp; clear hr hb))
      go_ret2
      exact ⟨rfl, HR.out.back (Nat.le_add_right _ _), HB.out.trans (Kbut.set _ _ _ _)⟩
set_option maxRecDepth 100000 in
set_option maxHeartbeats 1000000 in
theorem rstring_any (w : World) (B p : Nat) (all : Bs) (n : Nat) (v : Value) (most : Int) (h : RdAt w B p all n v) (hm64 : most ≤ 9223372036854775807) : Calls Tryz.prog 62 #[.pointer (some ⟨p, 0, none⟩), .int .i64 most] w fun e w' => e = .returned (.tuple #[.string (strR (all.drop n) most).1, .int .i64 (strR (all.drop n) most).2.1]) ∧ RdAt w' B p all (n + (strR (all.drop n) most).2.2) v ∧ Kbut p w w' := by
  have hlt := h.lt
  have HW := Lib.hid (wholeS_any (w.alloc (.cells #[.int .i64 most] 3)) B p w.heap.size all n v most (h.below (below_alloc _ _)) (wcell_at (heap_alloc_new w _)) (by omega) hm64)
  obtain ⟨⟨x, er, u⟩, hx⟩ : ∃ t, strR (all.drop n) most = t := ⟨_, rfl⟩
  rw [hx] at HW ⊢
  dsimp only at HW ⊢
  clear h hlt hx
  go_enter Tryz.func62, Tryz.ntmps62
  go_wp2_with (first | (go_at_call 87; refine HW.out.mono ?_; rintro e w1 ⟨rfl, hr, hb⟩; have HR := Lib.hid hr; have HB := Lib.hid hb; clear hr hb))
  go_ret2
  exact ⟨rfl, HR.out, (Kbut.ofBelow (below_alloc _ _)).trans HB.out⟩
end Go.Proofs.YtgjbnebmcmoilaaGreatDoor
