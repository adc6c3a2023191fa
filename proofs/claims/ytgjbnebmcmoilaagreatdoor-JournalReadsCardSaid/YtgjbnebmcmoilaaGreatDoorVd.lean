/- client.Encode. The records of calls. A journal's first check sum. Journals. Appending to a journal. -/
import Derived.Test.YtgjbnebmcmoilaaGreatDoorVc
import Derived.Laws.RangeString
namespace Go.Proofs.YtgjbnebmcmoilaaGreatDoor
set_option linter.unusedVariables false
set_option linter.unusedSimpArgs false
open Go.RowKit Go.MapKept
/-- A step of a range over a string. -/
theorem next_at {P : Program} (W : World) (it : Nat) (s : ByteArray) (pos : Nat) (h : W.heap[it]? = some (.stringIter s pos)) (hlt : pos < s.size) (c : UInt8) (hc : s.data.toList[pos]? = some c) (ha : c.toNat < 128) :
    ∃ W2 : World, (∀ ty, (Instr.next (.pointer (some ⟨it, 0, none⟩)) true ty).run P W = .ok (.tuple #[.bool true, .int .i64 (pos : Int), .int .i32 (c.toNat : Int)]) W2) ∧ W2.heap[it]? = some (.stringIter s (pos + 1)) ∧ (∀ k, k ≠ it → W2.heap[k]? = W.heap[k]?) ∧ W2.heap.size = W.heap.size ∧ W2.os = W.os ∧ W2.tape = W.tape ∧ W2.output = W.output := by
  have hit : it < W.heap.size := (Array.getElem?_eq_some_iff.1 h).1
  have hcc : s[pos]'hlt = c := by
    have h1 : s.data.toList[pos]? = some (s[pos]'hlt) := by
      rw [Array.getElem?_toList]
      exact Array.getElem?_eq_getElem hlt
    rw [h1] at hc
    injection hc
  have ha' : (s[pos]'hlt).toNat < 128 := by rw [hcc]; exact ha
  refine ⟨{ W with heap := W.heap.setIfInBounds it (.stringIter s (pos + 1)) }, fun ty => ?_, ?_, fun k hk => ?_, ?_, rfl, rfl, rfl⟩
  · simp only [Instr.next, getObj, setObj, Sem.run_bind, Sem.run, h, Result.andThen, hlt, if_true, decode_ascii s pos hlt ha']
    simp [goInt, Sem.run, h, hcc]
  · show (W.heap.setIfInBounds it _)[it]? = _
    rw [Array.getElem?_setIfInBounds_self_of_lt hit]
  · show (W.heap.setIfInBounds it _)[k]? = _
    rw [Array.getElem?_setIfInBounds_ne (Ne.symm hk)]
  · show (W.heap.setIfInBounds it _).size = _
    rw [Array.size_setIfInBounds]
theorem next_done {P : Program} (W : World) (it : Nat) (s : ByteArray) (pos : Nat) (h : W.heap[it]? = some (.stringIter s pos)) (hge : ¬ pos < s.size) (ty : TypeId) : (Instr.next (.pointer (some ⟨it, 0, none⟩)) true ty).run P W = .ok (.tuple #[.bool false]) W := by
  simp [Instr.next, getObj, Sem.run, h, hge]
def rowsCells : List Value := rowsL.flatMap fun x => [.string ⟨⟨x.1⟩⟩, .string ⟨⟨x.2⟩⟩]
theorem rows_at (O : Nat) (h1 : 1 ≤ O) (h2 : O < 12) : rowsCells[O * 2 + 1]? = some (Value.string ⟨⟨(rowB (O : Int)).2⟩⟩) := by
  have hO : O = 1 ∨ O = 2 ∨ O = 3 ∨ O = 4 ∨ O = 5 ∨ O = 6 ∨ O = 7 ∨ O = 8 ∨ O = 9 ∨ O = 10 ∨ O = 11 := by omega
  rcases hO with rfl | rfl | rfl | rfl | rfl | rfl | rfl | rfl | rfl | rfl | rfl <;> rfl
theorem Env1.rows {w : World} (h : Env1 w) (O : Nat) (h1 : 1 ≤ O) (h2 : O < 12) : w.cell? ⟨0, O * 2 + 1, none⟩ = some (.string ⟨⟨(rowB (O : Int)).2⟩⟩) := by
  obtain ⟨m, hv, _⟩ := h
  have hm : (0, rowsCells) ∈ vars m := by
    unfold vars
    exact List.mem_cons_of_mem _ (List.mem_cons.2 (Or.inl (by kernel_rfl)))
  obtain ⟨_, arr, ty, fr, rest, h3, h4⟩ := hv _ hm
  have h5 := rows_at O h1 h2
  unfold World.cell?
  dsimp only at h3 h4 ⊢
  rw [h3]
  show arr[O * 2 + 1]? = _
  rw [← Array.getElem?_toList, h4, List.getElem?_append_left (List.getElem?_eq_some_iff.1 h5).1]
  exact h5
def strB (s : ByteArray) : Bs := numB s.size ++ bsOf s
/-- What a part of a call is written as. -/
def partB (q : Int) (k t j : ByteArray) (d : Bs) (c : UInt8) : Bs :=
  if c.toNat = 107 then strB k else if c.toNat = 111 then strB t else if c.toNat = 113 then numB (IntKind.u64.wrap q).toNat else if c.toNat = 105 then strB j else numB d.length ++ d
def encB (o q : Int) (k t j : ByteArray) (d : Bs) : Bs := UInt8.ofNat o.toNat :: (rowB o).2.flatMap (partB q k t j d)
/-- bytes of a slice as a string -/
theorem back_sl {W : World} {A : Option Addr} {n c : Nat} {l : Bs} (h : BAt W (.slice A n c) l) : (convert 31 9 (.slice A n c)).run Tryz.prog W = .ok (.string ⟨l.toArray⟩) W := by
  have hl := h.len
  obtain ⟨hn, _, _⟩ := hl
  subst hn
  cases A with
  | none =>
    have hz : l = [] := by
      apply List.eq_nil_of_length_eq_zero
      rcases Nat.eq_zero_or_pos l.length with h0 | h0
      · exact h0
      · obtain ⟨b, off, e, _⟩ := BAt.at h h0
        cases e
    subst hz
    exact run_convert_bytes_nil W 31 5 (by kernel_rfl) (by kernel_rfl) _ c 9 (by kernel_rfl)
  | some a =>
    refine run_convert_bytes_back W 31 9 5 a c l (by kernel_rfl) (by kernel_rfl) (by kernel_rfl) fun i hi => ?_
    obtain ⟨b, off, e, hc⟩ := BAt.at h hi
    injection e with e
    subst e
    have hadd : (⟨b, off, none⟩ : Addr).add i = ⟨b, off + i, none⟩ := by unfold Addr.add; split <;> simp_all
    rw [hadd]
    exact hc
/-- Encode's state in its loop. -/
structure EncI (w W : World) (p it : Nat) (l : Bs) (v : Value) (s : ByteArray) (pos : Nat) (o q : Int) (k t j : ByteArray) (A : Option Addr) (n c : Nat) : Prop where
  wr : WrAt W (w.heap.size + 1) p l v
  it_ : W.heap[it]? = some (.stringIter s pos)
  box : W.heap[w.heap.size]? = some (.cells #[.int .i64 o, .string k, .string t, .string j, .int .i64 q, .slice A n c] 40 (0, 0))
  itb : w.heap.size < it
  bel : Below w.heap.size w W
theorem EncI.itp {w W : World} {p it : Nat} {l : Bs} {v : Value} {s : ByteArray} {pos : Nat} {o q : Int} {k t j : ByteArray} {A : Option Addr} {n c : Nat} (h : EncI w W p it l v s pos o q k t j A n c) : p ≠ it ∧ v.ownBlock ≠ some it := by
  refine ⟨fun e => ?_, fun e => ?_⟩
  · have h1 := h.wr.hp
    rw [e, h.it_] at h1
    injection h1 with h1
    cases h1
  · rcases h.wr.own.2 with ⟨rfl, _⟩ | ⟨g, cap, cur, rfl, _, hb, _⟩
    · cases e
    · have hg : g = it := by simpa [Value.ownBlock] using e
      rw [hg, h.it_] at hb
      injection hb with hb
      cases hb
theorem EncI.next {w W W2 : World} {p it : Nat} {l : Bs} {v : Value} {s : ByteArray} {pos : Nat} {o q : Int} {k t j : ByteArray} {A : Option Addr} {n c : Nat} (h : EncI w W p it l v s pos o q k t j A n c) (h1 : W2.heap[it]? = some (.stringIter s (pos + 1))) (h2 : ∀ k, k ≠ it → W2.heap[k]? = W.heap[k]?) (h3 : W2.heap.size = W.heap.size) (h4 : W2.os = W.os) (h5 : W2.tape = W.tape) (h6 : W2.output = W.output) : EncI w W2 p it l v s (pos + 1) o q k t j A n c :=
  ⟨⟨(h2 p h.itp.1).trans h.wr.hp, nown_keep h.wr.own fun g hg => h2 g (fun e => h.itp.2 (hg.trans (congrArg some e))), h.wr.ne, h.wr.le⟩, h1, (h2 _ (by have := h.itb; omega)).trans h.box, h.itb, ⟨h4.trans h.bel.os, h5.trans h.bel.tape, h6.trans h.bel.output, by rw [h3]; exact h.bel.size, fun k hk => (h2 k (by have := h.itb; omega)).trans (h.bel.block k hk)⟩⟩
theorem EncI.call {w W W3 : World} {p it : Nat} {l l' : Bs} {v v' : Value} {s : ByteArray} {pos : Nat} {o q : Int} {k t j : ByteArray} {A : Option Addr} {n c : Nat} (h : EncI w W p it l v s pos o q k t j A n c) (hw : WrAt W3 (w.heap.size + 1) p l' v') (hk : Kbo p v.ownBlock W W3) : EncI w W3 p it l' v' s pos o q k t j A n c := by
  have hown : ∀ g, v.ownBlock = some g → w.heap.size + 1 ≤ g := fun g hg => (nown_block h.wr.own hg).1
  have hp := h.wr.le
  have hit : it < W.heap.size := (Array.getElem?_eq_some_iff.1 h.it_).1
  have hbx : w.heap.size < W.heap.size := (Array.getElem?_eq_some_iff.1 h.box).1
  exact ⟨hw, (hk.block it hit (Ne.symm h.itp.1) h.itp.2).trans h.it_, (hk.block _ hbx (by omega) (fun e => by have := hown _ e; omega)).trans h.box, h.itb, ⟨hk.os.trans h.bel.os, hk.tape.trans h.bel.tape, hk.output.trans h.bel.output, Nat.le_trans h.bel.size hk.size, fun m hm => (hk.block m (Nat.lt_of_lt_of_le hm h.bel.size) (by omega) (fun e => by have := hown _ e; omega)).trans (h.bel.block m hm)⟩⟩
theorem row_ascii (O : Nat) (h1 : 1 ≤ O) (h2 : O < 12) : ∀ ch ∈ (rowB (O : Int)).2, ch.toNat < 128 := by
  have hO : O = 1 ∨ O = 2 ∨ O = 3 ∨ O = 4 ∨ O = 5 ∨ O = 6 ∨ O = 7 ∨ O = 8 ∨ O = 9 ∨ O = 10 ∨ O = 11 := by omega
  have h : ((rowB (O : Int)).2.all fun ch => decide (ch.toNat < 128)) = true := by
    rcases hO with rfl | rfl | rfl | rfl | rfl | rfl | rfl | rfl | rfl | rfl | rfl <;> rfl
  intro ch hc
  simpa using List.all_eq_true.1 h ch hc
theorem numB_len (n : Nat) : (numB n).length ≤ 10 := numF_len 9 n
theorem strB_len (s : ByteArray) : (strB s).length ≤ s.size + 10 := by
  unfold strB
  rw [List.length_append, bsOf_len]
  have := numB_len s.size
  omega
theorem partB_len (q : Int) (k t j : ByteArray) (d : Bs) (hk : k.size ≤ 100000) (ht : t.size ≤ 100000) (hj : j.size ≤ 100000) (hdl : d.length ≤ 100000) (ch : UInt8) : (partB q k t j d ch).length ≤ 100010 := by
  unfold partB
  split
  · have := strB_len k; omega
  · split
    · have := strB_len t; omega
    · split
      · have := numB_len (IntKind.u64.wrap q).toNat; omega
      · split
        · have := strB_len j; omega
        · rw [List.length_append]; have := numB_len d.length; omega
theorem flat_len {f : UInt8 → Bs} {N : Nat} (h : ∀ x, (f x).length ≤ N) : ∀ l : Bs, (l.flatMap f).length ≤ l.length * N
  | [] => by simp
  | a :: r => by
    rw [List.flatMap_cons, List.length_append, List.length_cons, Nat.add_mul]
    have h1 := h a
    have h2 := flat_len h r
    omega
theorem row_len (O : Nat) (h1 : 1 ≤ O) (h2 : O < 12) : (rowB (O : Int)).2.length ≤ 3 := by
  have hO : O = 1 ∨ O = 2 ∨ O = 3 ∨ O = 4 ∨ O = 5 ∨ O = 6 ∨ O = 7 ∨ O = 8 ∨ O = 9 ∨ O = 10 ∨ O = 11 := by omega
  rcases hO with rfl | rfl | rfl | rfl | rfl | rfl | rfl | rfl | rfl | rfl | rfl <;> decide
theorem parts_len (O : Nat) (h1 : 1 ≤ O) (h2 : O < 12) (q : Int) (k t j : ByteArray) (d : Bs) (hk : k.size ≤ 100000) (ht : t.size ≤ 100000) (hj : j.size ≤ 100000) (hdl : d.length ≤ 100000) (pos : Nat) : (((rowB (O : Int)).2.take pos).flatMap (partB q k t j d)).length ≤ 300030 := by
  have h3 := flat_len (partB_len q k t j d hk ht hj hdl) ((rowB (O : Int)).2.take pos)
  have h4 := row_len O h1 h2
  have h5 : ((rowB (O : Int)).2.take pos).length ≤ 3 := by rw [List.length_take]; omega
  have h6 := Nat.mul_le_mul_right 100010 h5
  omega
theorem enc_wr (w1 : World) {B : Nat} (hB : B ≤ w1.heap.size) (o : Obj) : WrAt ((w1.alloc (.cells #[.slice none 0 0] 79)).alloc o) B w1.heap.size [] (.slice none 0 0) :=
  ⟨((below_alloc (w1.alloc (.cells #[.slice none 0 0] 79)) o).block _ (by rw [wsize_alloc]; omega)).trans (heap_alloc_new w1 _), nown_none _ _ _ _, by simp [Value.ownBlock], hB⟩
theorem enc_op (w1 : World) (O : Nat) (h2 : O < 12) : BAt ((w1.alloc (.cells #[.slice none 0 0] 79)).alloc (.cells #[.int .u8 (O : Int)] 5)) (.slice (some ⟨w1.heap.size + 1, 0, none⟩) 1 1) [UInt8.ofNat O] := by
  refine ⟨_, 1, rfl, Nat.le_refl _, by omega, fun _ => ⟨w1.heap.size + 1, 0, rfl, fun i hi x u hu => ?_⟩⟩
  have hi0 : i = 0 := by simp at hi; exact hi
  subst hi0
  have hj : x = 0 := by
    have := (List.getElem?_eq_some_iff.1 hu).1
    simp [byteCells] at this
    exact this
  subst hj
  have hu2 : u = byteV (UInt8.ofNat O) := by simpa [byteCells] using hu.symm
  subst hu2
  have e := World.cell?_alloc_new (w1.alloc (.cells #[.slice none 0 0] 79)) #[Value.int .u8 (O : Int)] 5 0
  rw [wsize_alloc] at e
  have e2 : byteV (UInt8.ofNat O) = .int .u8 (O : Int) := by
    unfold byteV
    rw [UInt8.toNat_ofNat', Nat.mod_eq_of_lt (by omega)]
  rw [e2]
  exact e
theorem enc_first {w w1 w2 : World} {o q : Int} {k t j : ByteArray} {A : Option Addr} {n c : Nat} {l : Bs} {v2 : Value} {ob : Obj} (hb1 : Below w.heap.size w w1) (hbx : w1.heap[w.heap.size]? = some (.cells #[.int .i64 o, .string k, .string t, .string j, .int .i64 q, .slice A n c] 40 (0, 0))) (hs : w.heap.size + 1 ≤ w1.heap.size) (hw : WrAt w2 (w.heap.size + 1) w1.heap.size l v2) (hk : Kbo w1.heap.size (Value.slice none 0 0).ownBlock ((w1.alloc (.cells #[.slice none 0 0] 79)).alloc ob) w2) :
    WrAt w2 (w.heap.size + 1) w1.heap.size l v2 ∧ w2.heap[w.heap.size]? = some (.cells #[.int .i64 o, .string k, .string t, .string j, .int .i64 q, .slice A n c] 40 (0, 0)) ∧ Below w.heap.size w w2 := by
  have hb2 : Below w1.heap.size w1 ((w1.alloc (.cells #[.slice none 0 0] 79)).alloc ob) := nbl_al (below_alloc _ _)
  have hsz : w1.heap.size ≤ ((w1.alloc (.cells #[.slice none 0 0] 79)).alloc ob).heap.size := hb2.size
  exact ⟨hw, (hk.block _ (by omega) (by omega) (fun e => by simp [Value.ownBlock] at e)).trans ((hb2.block _ (by omega)).trans hbx), ⟨hk.os.trans (hb2.os.trans hb1.os), hk.tape.trans (hb2.tape.trans hb1.tape), hk.output.trans (hb2.output.trans hb1.output), by have := hk.size; have := hb1.size; omega, fun m hm => (hk.block m (by omega) (by omega) (fun e => by simp [Value.ownBlock] at e)).trans ((hb2.block m (by omega)).trans (hb1.block m hm))⟩⟩
set_option maxRecDepth 100000 in
set_option maxHeartbeats 4000000 in
theorem encode_good (O : Nat) (q : Int) (k t j : ByteArray) (A : Option Addr) (n c : Nat) (d : Bs) (h1 : 1 ≤ O) (h2 : O < 12) (hv : validB (O : Int) q k t j n = true) (hk : k.size ≤ 100000) (ht : t.size ≤ 100000) (hj : j.size ≤ 100000) (w : World) (hE : Env1 w) (hd : BAt w (.slice A n c) d) (hdl : d.length ≤ 100000) :
    Calls Tryz.prog 37 #[.agg #[.int .i64 (O : Int), .string k, .string t, .string j, .int .i64 q, .slice A n c]] w fun e w' => (∃ r, e = .returned (.tuple #[r, .int .i64 0]) ∧ OwnB w' w.heap.size r (encB (O : Int) q k t j d)) ∧ Below w.heap.size w w' := by
  have HV := Lib.hid (fun W (hW : Env1 W) => valid_any (O : Int) q k t j A n c hk ht hj W hW)
  rw [hv] at HV
  have HE := Lib.hid hE
  have HD := Lib.hid hd
  have o1 : (1 : Int) ≤ (O : Int) := by omega
  have o2 : (O : Int) < 12 := by omega
  clear hv hE hd
  go_enter Tryz.func37, Tryz.ntmps37
  go_wp2_with (first | (go_at_call 34; refine (HV.out _ (HE.out.below (below_alloc _ _))).mono ?_; rintro e w1 ⟨rfl, hb⟩; have hbx : w1.heap[w.heap.size]? = some (.cells #[.int .i64 (O : Int), .string k, .string t, .string j, .int .i64 q, .slice A n c] 40 (0, 0)) := (hb.block _ (by rw [wsize_alloc]; omega)).trans (heap_alloc_new w _); have HBX := Lib.hid hbx; have HB1 := Lib.hid (nbl_step (below_alloc _ _) hb); have HS1 : Hid (w.heap.size + 1 ≤ w1.heap.size) := Lib.hid (by have := hb.size; rwa [wsize_alloc] at this); have q0 : (w1.alloc (.cells #[.slice none 0 0] 79)).cell? ⟨w.heap.size, 0, none⟩ = some (.int .i64 (O : Int)) := cell_below (below_alloc w1 _) (wcell_at (i := 0) hbx); clear hb hbx) | (go_at_call 58; refine (put_any _ (w.heap.size + 1) w1.heap.size [] [UInt8.ofNat O] (.slice none 0 0) _ _ _ (enc_wr w1 HS1.out _) (enc_op w1 O h2) (by simp) (by simp)).mono ?_; rintro e w2 ⟨rfl, ⟨v2, hw2, hn2⟩, hk2⟩; have HP2 := Lib.hid (enc_first HB1.out HBX.out HS1.out hw2 hk2); have q2 := wcell_at (i := 0) HP2.out.2.1; have g2 := (HE.out.below HP2.out.2.2).rows O h1 h2; clear hw2 hn2 hk2 q0))
  obtain ⟨s, hs⟩ : ∃ s : ByteArray, (⟨⟨(rowB (O : Int)).2⟩⟩ : ByteArray) = s := ⟨_, rfl⟩
  rw [hs] at g2 ⊢
  have hsl : s.data.toList = (rowB (O : Int)).2 := by rw [← hs]
  have hsz : s.size = (rowB (O : Int)).2.length := by rw [← hsl]; exact (Array.length_toList).symm
  have HSL := Lib.hid hsl
  have HSZ := Lib.hid hsz
  have hI : EncI w (w2.iter s 0) w1.heap.size w2.heap.size [UInt8.ofNat O] v2 s 0 (O : Int) q k t j A n c := by
    have hb : Below w2.heap.size w2 (w2.iter s 0) := below_alloc _ _
    exact ⟨HP2.out.1.below hb, World.iter_heap w2 s 0, (hb.block _ (Array.getElem?_eq_some_iff.1 HP2.out.2.1).1).trans HP2.out.2.1, by have h3 := (Array.getElem?_eq_some_iff.1 HP2.out.2.1).1; omega, nbl_step HP2.out.2.2 hb⟩
  have HIT : Hid (∃ x, w2.heap.size = x) := Lib.hid ⟨_, rfl⟩
  clear hs hsl hsz g2 q2
  generalize w2.iter s 0 = w4 at *
  obtain ⟨it, hit⟩ : ∃ it, w2.heap.size = it := ⟨_, rfl⟩
  rw [hit] at hI ⊢
  clear hit HIT
  go_loopg [6] s.size (fun gf u6 wx => ∃ (pos : Nat) (v : Value), pos + gf = s.size ∧ EncI w wx w1.heap.size it (UInt8.ofNat O :: ((rowB (O : Int)).2.take pos).flatMap (partB q k t j d)) v s pos (O : Int) q k t j A n c)
  case atStart => exact ⟨0, v2, by omega, by simpa using hI⟩
  case round =>
    clear hI
    obtain ⟨pos, v, hpos, hI⟩ := hrel
    have HI := Lib.hid hI
    clear hI
    by_cases hlt : pos < s.size
    · obtain ⟨g', rfl⟩ : ∃ g', gk = g' + 1 := ⟨gk - 1, by omega⟩
      have hpl : pos < (rowB (O : Int)).2.length := by have := HSZ.out; omega
      obtain ⟨ch, hch⟩ : ∃ ch, (rowB (O : Int)).2[pos] = ch := ⟨_, rfl⟩
      have hasc : ch.toNat < 128 := by rw [← hch]; exact row_ascii O h1 h2 _ (List.getElem_mem hpl)
      obtain ⟨W2, hnx, n1, n2, n3, n4, n5, n6⟩ := next_at (P := Tryz.prog) wr it s pos HI.out.it_ hlt ch (by rw [HSL.out, List.getElem?_eq_getElem hpl, hch]) hasc
      have HEN := Lib.hid (HI.out.next n1 n2 n3 n4 n5 n6)
      have HTK : Hid (((rowB (O : Int)).2.take (pos + 1)).flatMap (partB q k t j d) = ((rowB (O : Int)).2.take pos).flatMap (partB q k t j d) ++ partB q k t j d ch) := Lib.hid (by rw [take_snoc _ pos hpl, List.flatMap_append, hch]; simp)
      have HLN : Hid ((UInt8.ofNat O :: ((rowB (O : Int)).2.take pos).flatMap (partB q k t j d)).length ≤ 700000) := Lib.hid (by have := parts_len O h1 h2 q k t j d hk ht hj hdl pos; rw [List.length_cons]; omega)
      have b1 := wcell_at (i := 1) HEN.out.box
      have b2 := wcell_at (i := 2) HEN.out.box
      have b3 := wcell_at (i := 3) HEN.out.box
      have b4 := wcell_at (i := 4) HEN.out.box
      have b5 := wcell_at (i := 5) HEN.out.box
      clear n1 n2 n3 n4 n5 n6 hch hpl
      by_cases c1 : ch.toNat = 107
      · have HPB : Hid (partB q k t j d ch = strB k) := Lib.hid (by unfold partB; rw [if_pos c1])
        have e1 : ((ch.toNat : Int) == 107) = true := by simpa using (show (ch.toNat : Int) = 107 by omega)
        have e1' : (ch.toNat : Int) = 107 := by omega
        go_wp2_with (first | (go_at_call 38; refine (string_any W2 (w.heap.size + 1) w1.heap.size _ v k HEN.out.wr (by omega) (by have := HLN.out; omega)).mono ?_; rintro e w5 ⟨rfl, ⟨v5, hw5, _⟩, hk5⟩; have HC5 := Lib.hid (HEN.out.call hw5 hk5); clear hw5 hk5))
        go_roundg g'
        case measure => omega
        case rel => exact ⟨pos + 1, v5, by omega, by rw [HTK.out, HPB.out]; exact HC5.out⟩
      by_cases c2 : ch.toNat = 111
      · have HPB : Hid (partB q k t j d ch = strB t) := Lib.hid (by unfold partB; rw [if_neg c1, if_pos c2])
        have e1 : ((ch.toNat : Int) == 111) = true := by simpa using (show (ch.toNat : Int) = 111 by omega)
        have e1' : (ch.toNat : Int) = 111 := by omega
        go_wp2_with (first | (go_at_call 38; refine (string_any W2 (w.heap.size + 1) w1.heap.size _ v t HEN.out.wr (by omega) (by have := HLN.out; omega)).mono ?_; rintro e w5 ⟨rfl, ⟨v5, hw5, _⟩, hk5⟩; have HC5 := Lib.hid (HEN.out.call hw5 hk5); clear hw5 hk5))
        go_roundg g'
        case measure => omega
        case rel => exact ⟨pos + 1, v5, by omega, by rw [HTK.out, HPB.out]; exact HC5.out⟩
      by_cases c3 : ch.toNat = 113
      · have HPB : Hid (partB q k t j d ch = numB (IntKind.u64.wrap q).toNat) := Lib.hid (by unfold partB; rw [if_neg c1, if_neg c2, if_pos c3])
        have e1 : ((ch.toNat : Int) == 113) = true := by simpa using (show (ch.toNat : Int) = 113 by omega)
        have e1' : (ch.toNat : Int) = 113 := by omega
        obtain ⟨Q, hQ, hQ2⟩ : ∃ Q : Nat, IntKind.u64.wrap q = (Q : Int) ∧ Q < 18446744073709551616 := by
          have h0 : 0 ≤ IntKind.u64.wrap q := Int.emod_nonneg _ (by decide)
          have h3 : IntKind.u64.wrap q < 18446744073709551616 := Int.emod_lt_of_pos _ (by decide)
          exact ⟨(IntKind.u64.wrap q).toNat, by omega, by omega⟩
        have HPQ : Hid (partB q k t j d ch = numB Q) := Lib.hid (by rw [HPB.out, hQ]; rfl)
        clear HPB
        go_wp2_with (first | (go_at_call 30; refine (num_any W2 (w.heap.size + 1) w1.heap.size _ v Q HEN.out.wr hQ2 (by have := HLN.out; omega)).mono ?_; rintro e w5 ⟨rfl, ⟨v5, hw5, _⟩, hk5⟩; have HC5 := Lib.hid (HEN.out.call hw5 hk5); clear hw5 hk5))
        go_roundg g'
        case measure => omega
        case rel => exact ⟨pos + 1, v5, by omega, by rw [HTK.out, HPQ.out]; exact HC5.out⟩
      by_cases c4 : ch.toNat = 105
      · have HPB : Hid (partB q k t j d ch = strB j) := Lib.hid (by unfold partB; rw [if_neg c1, if_neg c2, if_neg c3, if_pos c4])
        have e1 : ((ch.toNat : Int) == 105) = true := by simpa using (show (ch.toNat : Int) = 105 by omega)
        have e1' : (ch.toNat : Int) = 105 := by omega
        go_wp2_with (first | (go_at_call 38; refine (string_any W2 (w.heap.size + 1) w1.heap.size _ v j HEN.out.wr (by omega) (by have := HLN.out; omega)).mono ?_; rintro e w5 ⟨rfl, ⟨v5, hw5, _⟩, hk5⟩; have HC5 := Lib.hid (HEN.out.call hw5 hk5); clear hw5 hk5))
        go_roundg g'
        case measure => omega
        case rel => exact ⟨pos + 1, v5, by omega, by rw [HTK.out, HPB.out]; exact HC5.out⟩
      · have HPB : Hid (partB q k t j d ch = strB ⟨d.toArray⟩) := Lib.hid (by unfold partB; rw [if_neg c1, if_neg c2, if_neg c3, if_neg c4]; unfold strB bsOf; simp [ByteArray.size])
        have e1 : ((ch.toNat : Int) == 107) = false := by simpa using (show ¬ (ch.toNat : Int) = 107 by omega)
        have e2 : ((ch.toNat : Int) == 111) = false := by simpa using (show ¬ (ch.toNat : Int) = 111 by omega)
        have e3 : ((ch.toNat : Int) == 113) = false := by simpa using (show ¬ (ch.toNat : Int) = 113 by omega)
        have e4 : ((ch.toNat : Int) == 105) = false := by simpa using (show ¬ (ch.toNat : Int) = 105 by omega)
        have f1 : ¬ (ch.toNat : Int) = 107 := by omega
        have f2 : ¬ (ch.toNat : Int) = 111 := by omega
        have f3 : ¬ (ch.toNat : Int) = 113 := by omega
        have f4 : ¬ (ch.toNat : Int) = 105 := by omega
        have hcv := back_sl (HD.out.below HEN.out.bel)
        obtain ⟨sv, hsv⟩ : ∃ sv : ByteArray, (⟨d.toArray⟩ : ByteArray) = sv := ⟨_, rfl⟩
        have hsvl : sv.size ≤ 100000 := by rw [← hsv]; simpa [ByteArray.size] using hdl
        rw [hsv] at hcv HPB
        clear hsv
        go_wp2_with (first | (go_at_call 38; refine (string_any W2 (w.heap.size + 1) w1.heap.size _ v sv HEN.out.wr (by omega) (by have := HLN.out; omega)).mono ?_; rintro e w5 ⟨rfl, ⟨v5, hw5, _⟩, hk5⟩; have HC5 := Lib.hid (HEN.out.call hw5 hk5); clear hw5 hk5))
        go_roundg g'
        case measure => omega
        case rel => exact ⟨pos + 1, v5, by omega, by rw [HTK.out, HPB.out]; exact HC5.out⟩
    · have hnx := fun ty => next_done (P := Tryz.prog) wr it s pos HI.out.it_ hlt ty
      have HALL : Hid ((rowB (O : Int)).2.take pos = (rowB (O : Int)).2) := Lib.hid (List.take_of_length_le (by have := HSZ.out; omega))
      have HLN : Hid ((UInt8.ofNat O :: ((rowB (O : Int)).2.take pos).flatMap (partB q k t j d)).length ≤ 700000) := Lib.hid (by have := parts_len O h1 h2 q k t j d hk ht hj hdl pos; rw [List.length_cons]; omega)
      have HBY := Lib.hid (bytes_any wr (w.heap.size + 1) w1.heap.size _ v HI.out.wr (by have := HLN.out; omega))
      go_wp2_with (first | (go_at_call 32; refine HBY.out.mono ?_; rintro e w5 ⟨⟨r, rfl, hr⟩, hb⟩; have HR := Lib.hid hr; have HB5 := Lib.hid hb; clear hr hb))
      go_ret2
      refine ⟨⟨_, rfl, ?_⟩, nbl_step HI.out.bel HB5.out⟩
      have := nown_base HR.out HI.out.bel.size
      rw [HALL.out] at this
      exact this
end Go.Proofs.YtgjbnebmcmoilaaGreatDoor
namespace Go.Proofs.YtgjbnebmcmoilaaGreatDoor
set_option linter.unusedVariables false
set_option linter.unusedSimpArgs false
open Go.RowKit Go.MapKept
set_option maxRecDepth 100000 in
set_option maxHeartbeats 1000000 in
theorem encode_bad (o q : Int) (k t j : ByteArray) (A : Option Addr) (n c : Nat) (hv : validB o q k t j n = false) (hk : k.size ≤ 100000) (ht : t.size ≤ 100000) (hj : j.size ≤ 100000) (w : World) (hE : Env1 w) :
    Calls Tryz.prog 37 #[.agg #[.int .i64 o, .string k, .string t, .string j, .int .i64 q, .slice A n c]] w fun e w' => e = .returned (.tuple #[.slice none 0 0, .int .i64 2]) ∧ Below w.heap.size w w' := by
  have HV := Lib.hid (fun W (hW : Env1 W) => valid_any o q k t j A n c hk ht hj W hW)
  rw [hv] at HV
  have HE := Lib.hid hE
  clear hv hE
  go_enter Tryz.func37, Tryz.ntmps37
  go_wp2_with (first | (go_at_call 34; refine (HV.out _ (HE.out.below (below_alloc _ _))).mono ?_; rintro e w1 ⟨rfl, hb⟩; have HB1 := Lib.hid (nbl_step (below_alloc _ _) hb); clear hb))
  go_ret2
  exact ⟨rfl, HB1.out⟩
theorem crcU_range (s : Int) (l : Bs) : 0 ≤ crcU s l ∧ crcU s l < 4294967296 := by
  have h := bits_within BinOp.xor IntKind.u32 IntKind.u32.max (l.foldl crcStep (notU s))
  have h1 : (0 : Int) ≤ crcU s l := h.1
  have h2 : crcU s l ≤ 4294967295 := h.2
  omega
theorem env_ng {w : World} (h : Env1 w) : gvb.ng ≤ w.heap.size := by
  obtain ⟨m, _, hs⟩ := h
  exact hs
theorem rec_kbo {w w1 w2 : World} {o : Obj} (hb : Below w.heap.size w w1) (hk : Kbo w1.heap.size (Value.slice none 0 0).ownBlock (w1.alloc o) w2) : Below w.heap.size w w2 :=
  ⟨hk.os.trans hb.os, hk.tape.trans hb.tape, hk.output.trans hb.output, by have h1 := hk.size; have h2 := hb.size; rw [wsize_alloc] at h1; omega, fun m hm => (hk.block m (by rw [wsize_alloc]; have := hb.size; omega) (by have := hb.size; omega) (fun e => by simp [Value.ownBlock] at e)).trans (((below_alloc w1 o).block m (by have := hb.size; omega)).trans (hb.block m hm))⟩
/-- What is written ahead of a record's check sum. -/
def headB (o q : Int) (k t j : ByteArray) (d : Bs) : Bs := strB ⟨(encB o q k t j d).toArray⟩
theorem encB_len (O : Nat) (h1 : 1 ≤ O) (h2 : O < 12) (q : Int) (k t j : ByteArray) (d : Bs) (hk : k.size ≤ 100000) (ht : t.size ≤ 100000) (hj : j.size ≤ 100000) (hdl : d.length ≤ 100000) : (encB (O : Int) q k t j d).length ≤ 300031 := by
  have := parts_len O h1 h2 q k t j d hk ht hj hdl ((rowB (O : Int)).2.length)
  rw [List.take_length] at this
  unfold encB
  rw [List.length_cons]
  omega
/-- The four bytes of a check sum. -/
def be4 (r : Int) : Bs := [UInt8.ofNat (r / 16777216).toNat, UInt8.ofNat (r / 65536 % 256).toNat, UInt8.ofNat (r / 256 % 256).toNat, UInt8.ofNat (r % 256).toNat]
theorem byte_of (x : Int) (h0 : 0 ≤ x) (h1 : x < 256) : byteV (UInt8.ofNat x.toNat) = .int .u8 x := by
  unfold byteV
  rw [UInt8.toNat_ofNat', Nat.mod_eq_of_lt (by omega)]
  congr 1
  omega
theorem be4_at (W : World) (r : Int) (h0 : 0 ≤ r) (h1 : r < 4294967296) : BAt (W.alloc (.cells #[.int .u8 (r / 16777216), .int .u8 (r / 65536 % 256), .int .u8 (r / 256 % 256), .int .u8 (r % 256)] 5)) (.slice (some ⟨W.heap.size, 0, none⟩) 4 4) (be4 r) := by
  have e1 := byte_of (r / 16777216) (by omega) (by omega)
  have e2 := byte_of (r / 65536 % 256) (by omega) (by omega)
  have e3 := byte_of (r / 256 % 256) (by omega) (by omega)
  have e4 := byte_of (r % 256) (by omega) (by omega)
  refine ⟨_, 4, rfl, Nat.le_refl _, by omega, fun _ => ⟨W.heap.size, 0, rfl, fun i hi x u hu => ?_⟩⟩
  have hj : x = 0 := by
    have := (List.getElem?_eq_some_iff.1 hu).1
    simp [byteCells] at this
    exact this
  subst hj
  have hi4 : i < 4 := hi
  rw [World.cell?_alloc_new]
  have hc : i = 0 ∨ i = 1 ∨ i = 2 ∨ i = 3 := by omega
  rcases hc with rfl | rfl | rfl | rfl
  · have hu2 : u = byteV (UInt8.ofNat (r / 16777216).toNat) := by simpa [byteCells, be4] using hu.symm
    rw [hu2, e1]; rfl
  · have hu2 : u = byteV (UInt8.ofNat (r / 65536 % 256).toNat) := by simpa [byteCells, be4] using hu.symm
    rw [hu2, e2]; rfl
  · have hu2 : u = byteV (UInt8.ofNat (r / 256 % 256).toNat) := by simpa [byteCells, be4] using hu.symm
    rw [hu2, e3]; rfl
  · have hu2 : u = byteV (UInt8.ofNat (r % 256).toNat) := by simpa [byteCells, be4] using hu.symm
    rw [hu2, e4]; rfl
/-- The record of a call after a check sum. -/
def recB (o q : Int) (k t j : ByteArray) (d : Bs) (s : Int) : Bs := headB o q k t j d ++ be4 (crcU s (headB o q k t j d))
set_option maxRecDepth 100000 in
set_option maxHeartbeats 4000000 in
theorem record_good (O : Nat) (q s : Int) (k t j : ByteArray) (A : Option Addr) (n c : Nat) (d : Bs) (h1 : 1 ≤ O) (h2 : O < 12) (hv : validB (O : Int) q k t j n = true) (hk : k.size ≤ 100000) (ht : t.size ≤ 100000) (hj : j.size ≤ 100000) (w : World) (hE : Env1 w) (hd : BAt w (.slice A n c) d) (hdl : d.length ≤ 100000) :
    Calls Tryz.prog 35 #[.agg #[.int .i64 (O : Int), .string k, .string t, .string j, .int .i64 q, .slice A n c], .int .u32 s] w fun e w' => (∃ r, e = .returned (.tuple #[r, .int .u32 (crcU s (headB (O : Int) q k t j d)), .int .i64 0]) ∧ OwnB w' w.heap.size r (recB (O : Int) q k t j d s)) ∧ Below w.heap.size w w' := by
  have HEN := Lib.hid (fun W (hb : Below w.heap.size w W) => encode_good O q k t j A n c d h1 h2 hv hk ht hj W (hE.below hb) (hd.below hb) hdl)
  have HE := Lib.hid hE
  have hel := encB_len O h1 h2 q k t j d hk ht hj hdl
  obtain ⟨ev, hev⟩ : ∃ ev : ByteArray, (⟨(encB (O : Int) q k t j d).toArray⟩ : ByteArray) = ev := ⟨_, rfl⟩
  have hevs : ev.size ≤ 300031 := by rw [← hev]; simpa [ByteArray.size] using hel
  have hhd : headB (O : Int) q k t j d = strB ev := by unfold headB; rw [hev]
  unfold recB
  rw [hhd]
  obtain ⟨rr, hrr⟩ : ∃ rr, crcU s (strB ev) = rr := ⟨_, rfl⟩
  have hrg := crcU_range s (strB ev)
  rw [hrr] at hrg ⊢
  obtain ⟨r0, r1⟩ := hrg
  have HRR := Lib.hid hrr
  have HEV := Lib.hid hev
  clear hE hd hv hhd hev hrr hel
  go_enter Tryz.func35, Tryz.ntmps35
  go_wp2_with (first | (go_at_call 37; refine (HEN.out _ (below_alloc _ _)).mono ?_; rintro e w1 ⟨⟨r, rfl, hr⟩, hb⟩; have hcv := back_bytes hr; rw [HEV.out] at hcv; obtain ⟨A1, m1, c1, rfl⟩ := own_slice hr; have hcv2 : (convert 31 9 (.slice A1 m1 c1)).run Tryz.prog (w1.alloc (.cells #[.slice none 0 0] 79)) = .ok (.string ev) (w1.alloc (.cells #[.slice none 0 0] 79)) := (by have h3 := back_sl (hr.sl.below (below_alloc w1 (.cells #[.slice none 0 0] 79))); rw [HEV.out] at h3; exact h3); have HB1 := Lib.hid (nbl_step (below_alloc _ _) hb); clear hr hb hcv) | (go_at_call 38; refine (string_any _ w1.heap.size w1.heap.size [] _ ev (WrAt.new w1) (by omega) (by simp)).mono ?_; rintro e w2 ⟨rfl, ⟨v2, hw2, _⟩, hk2⟩; have HW2 : Hid (WrAt w2 w1.heap.size w1.heap.size (strB ev) v2) := Lib.hid (by simpa [strB] using hw2); have HB2 : Hid (Below w.heap.size w w2) := Lib.hid (rec_kbo HB1.out hk2); clear hw2 hk2) | (go_at_call 32; refine (bytes_any _ _ _ _ _ HW2.out (by have := strB_len ev; omega)).mono ?_; rintro e w3 ⟨⟨r3, rfl, hr3⟩, hb⟩; obtain ⟨A3, m3, c3, rfl⟩ := own_slice hr3; have HR3 : Hid (OwnB w3 w.heap.size (.slice A3 m3 c3) (strB ev)) := Lib.hid (nown_base hr3 HB2.out.size); have HB3 := Lib.hid (nbl_step HB2.out hb); clear hr3 hb) | (go_at_call 39; (have hu := update_any w3 (Nat.le_trans (env_ng HE.out) HB3.out.size) s _ (strB ev) (OwnB.sl HR3.out); rw [HRR.out] at hu; refine hu.mono ?_; rintro e w4 ⟨rfl, hb⟩; clear hu; have HB4 := Lib.hid (nbl_step HB3.out hb); have HR4 : Hid (OwnB w4 w.heap.size (.slice A3 m3 c3) (strB ev)) := Lib.hid (nown_below HR3.out hb); obtain ⟨v5, w5, hr5, ho5, hg5, hv5⟩ := app_at (nown_below HR4.out (below_alloc w4 _)) (be4_at w4 rr r0 r1) (by have := strB_len ev; have : (be4 rr).length = 4 := rfl; omega) (by rw [wsize_alloc]; have := HB4.out.size; omega); obtain ⟨A5, m5, c5, rfl⟩ := own_slice ho5; have HR5 := Lib.hid hr5; have HO5 := Lib.hid ho5; have HB5 : Hid (Below w.heap.size w w5) := Lib.hid (nown_grown (nown_below HR4.out (below_alloc w4 _)) (nbl_al HB4.out) (by rw [wsize_alloc]; have := HB4.out.size; omega) hg5); clear hr5 ho5 hg5 hv5; clear hb)) | (at_builtin; refine wpList_append_eq HR5.out rfl (.tmp 26) (.tmp 38) rfl rfl rfl ?_))
  go_ret3
  exact ⟨⟨_, rfl, HO5.out⟩, HB5.out⟩
set_option maxRecDepth 100000 in
set_option maxHeartbeats 4000000 in
theorem lrecord_good (O : Nat) (q s : Int) (k t j : ByteArray) (A : Option Addr) (n c : Nat) (d : Bs) (h1 : 1 ≤ O) (h2 : O < 12) (hv : validB (O : Int) q k t j n = true) (hk : k.size ≤ 100000) (ht : t.size ≤ 100000) (hj : j.size ≤ 100000) (w : World) (hE : Env1 w) (hd : BAt w (.slice A n c) d) (hdl : d.length ≤ 100000) :
    Calls Tryz.prog 12 #[.agg #[.int .i64 (O : Int), .string k, .string t, .string j, .int .i64 q, .slice A n c], .int .u32 s] w fun e w' => (∃ r, e = .returned (.tuple #[r, .int .u32 (crcU s (headB (O : Int) q k t j d))]) ∧ OwnB w' w.heap.size r (recB (O : Int) q k t j d s)) ∧ Below w.heap.size w w' := by
  have HEN := Lib.hid (fun W (hb : Below w.heap.size w W) => encode_good O q k t j A n c d h1 h2 hv hk ht hj W (hE.below hb) (hd.below hb) hdl)
  have HE := Lib.hid hE
  have hel := encB_len O h1 h2 q k t j d hk ht hj hdl
  obtain ⟨ev, hev⟩ : ∃ ev : ByteArray, (⟨(encB (O : Int) q k t j d).toArray⟩ : ByteArray) = ev := ⟨_, rfl⟩
  have hevs : ev.size ≤ 300031 := by rw [← hev]; simpa [ByteArray.size] using hel
  have hhd : headB (O : Int) q k t j d = strB ev := by unfold headB; rw [hev]
  unfold recB
  rw [hhd]
  obtain ⟨rr, hrr⟩ : ∃ rr, crcU s (strB ev) = rr := ⟨_, rfl⟩
  have hrg := crcU_range s (strB ev)
  rw [hrr] at hrg ⊢
  obtain ⟨r0, r1⟩ := hrg
  have HRR := Lib.hid hrr
  have HEV := Lib.hid hev
  clear hE hd hv hhd hev hrr hel
  go_enter Tryz.func12, Tryz.ntmps12
  go_wp2_with (first | (go_at_call 37; refine (HEN.out _ (below_alloc _ _)).mono ?_; rintro e w1 ⟨⟨r, rfl, hr⟩, hb⟩; have hcv := back_bytes hr; rw [HEV.out] at hcv; obtain ⟨A1, m1, c1, rfl⟩ := own_slice hr; have hcv2 : (convert 31 9 (.slice A1 m1 c1)).run Tryz.prog (w1.alloc (.cells #[.slice none 0 0] 79)) = .ok (.string ev) (w1.alloc (.cells #[.slice none 0 0] 79)) := (by have h3 := back_sl (hr.sl.below (below_alloc w1 (.cells #[.slice none 0 0] 79))); rw [HEV.out] at h3; exact h3); have HB1 := Lib.hid (nbl_step (below_alloc _ _) hb); clear hr hb hcv) | (go_at_call 38; refine (string_any _ w1.heap.size w1.heap.size [] _ ev (WrAt.new w1) (by omega) (by simp)).mono ?_; rintro e w2 ⟨rfl, ⟨v2, hw2, _⟩, hk2⟩; have HW2 : Hid (WrAt w2 w1.heap.size w1.heap.size (strB ev) v2) := Lib.hid (by simpa [strB] using hw2); have HB2 : Hid (Below w.heap.size w w2) := Lib.hid (rec_kbo HB1.out hk2); clear hw2 hk2) | (go_at_call 32; refine (bytes_any _ _ _ _ _ HW2.out (by have := strB_len ev; omega)).mono ?_; rintro e w3 ⟨⟨r3, rfl, hr3⟩, hb⟩; obtain ⟨A3, m3, c3, rfl⟩ := own_slice hr3; have HR3 : Hid (OwnB w3 w.heap.size (.slice A3 m3 c3) (strB ev)) := Lib.hid (nown_base hr3 HB2.out.size); have HB3 := Lib.hid (nbl_step HB2.out hb); clear hr3 hb) | (go_at_call 39; (have hu := update_any w3 (Nat.le_trans (env_ng HE.out) HB3.out.size) s _ (strB ev) (OwnB.sl HR3.out); rw [HRR.out] at hu; refine hu.mono ?_; rintro e w4 ⟨rfl, hb⟩; clear hu; have HB4 := Lib.hid (nbl_step HB3.out hb); have HR4 : Hid (OwnB w4 w.heap.size (.slice A3 m3 c3) (strB ev)) := Lib.hid (nown_below HR3.out hb); obtain ⟨v5, w5, hr5, ho5, hg5, hv5⟩ := app_at (nown_below HR4.out (below_alloc w4 _)) (be4_at w4 rr r0 r1) (by have := strB_len ev; have : (be4 rr).length = 4 := rfl; omega) (by rw [wsize_alloc]; have := HB4.out.size; omega); obtain ⟨A5, m5, c5, rfl⟩ := own_slice ho5; have HR5 := Lib.hid hr5; have HO5 := Lib.hid ho5; have HB5 : Hid (Below w.heap.size w w5) := Lib.hid (nown_grown (nown_below HR4.out (below_alloc w4 _)) (nbl_al HB4.out) (by rw [wsize_alloc]; have := HB4.out.size; omega) hg5); clear hr5 ho5 hg5 hv5; clear hb)) | (at_builtin; refine wpList_append_eq HR5.out rfl (.tmp 27) (.tmp 42) rfl rfl rfl ?_))
  go_ret2
  exact ⟨⟨_, rfl, HO5.out⟩, HB5.out⟩
end Go.Proofs.YtgjbnebmcmoilaaGreatDoor
namespace Go.Proofs.YtgjbnebmcmoilaaGreatDoor
set_option linter.unusedVariables false
set_option linter.unusedSimpArgs false
open Go.RowKit Go.MapKept
def numW (x : Int) : Bs := numB (IntKind.u64.wrap x).toNat
def firstB (r s i o : Int) : Bs := numW r ++ (numW s ++ (numW i ++ numW o))
theorem own_ne {w : World} {B p ab : Nat} {l : Bs} {v : Value} {cs : Array Value} (h : WrAt w B p l v) (ha : w.heap[ab]? = some (.cells cs 3 (0, 0))) : ab ≠ p ∧ v.ownBlock ≠ some ab := by
  refine ⟨fun e => ?_, fun e => ?_⟩
  · rw [e, h.hp] at ha
    injection ha with ha
    injection ha with _ ha
    exact absurd ha (by decide)
  · rcases h.own.2 with ⟨rfl, _⟩ | ⟨g, cap, cur, rfl, _, hb, _⟩
    · cases e
    · have hg : g = ab := by simpa [Value.ownBlock] using e
      rw [hg, ha] at hb
      injection hb with hb
      injection hb with _ hb
      exact absurd hb (by decide)
structure FstI (w W : World) (p ab : Nat) (l : Bs) (v : Value) (r s i o : Int) : Prop where
  wr : WrAt W w.heap.size p l v
  arr : W.heap[ab]? = some (.cells #[.int .i64 r, .int .i64 s, .int .i64 i, .int .i64 o] 3 (0, 0))
  bel : Below w.heap.size w W
theorem FstI.call {w W W3 : World} {p ab : Nat} {l l' : Bs} {v v' : Value} {r s i o : Int} (h : FstI w W p ab l v r s i o) (hw : WrAt W3 w.heap.size p l' v') (hk : Kbo p v.ownBlock W W3) : FstI w W3 p ab l' v' r s i o := by
  have hne := own_ne h.wr h.arr
  have hown : ∀ g, v.ownBlock = some g → w.heap.size ≤ g := fun g hg => (nown_block h.wr.own hg).1
  have hp := h.wr.le
  exact ⟨hw, (hk.block ab (Array.getElem?_eq_some_iff.1 h.arr).1 hne.1 hne.2).trans h.arr, ⟨hk.os.trans h.bel.os, hk.tape.trans h.bel.tape, hk.output.trans h.bel.output, Nat.le_trans h.bel.size hk.size, fun m hm => (hk.block m (Nat.lt_of_lt_of_le hm h.bel.size) (by omega) (fun e => by have := hown _ e; omega)).trans (h.bel.block m hm)⟩⟩
def fourN (r s i o : Int) : List Int := [r, s, i, o]
theorem u64_nat (x : Int) : ∃ Q : Nat, IntKind.u64.wrap x = (Q : Int) ∧ Q < 18446744073709551616 := by
  have h0 : 0 ≤ IntKind.u64.wrap x := Int.emod_nonneg _ (by decide)
  have h3 : IntKind.u64.wrap x < 18446744073709551616 := Int.emod_lt_of_pos _ (by decide)
  exact ⟨(IntKind.u64.wrap x).toNat, by omega, by omega⟩
set_option maxRecDepth 100000 in
set_option maxHeartbeats 4000000 in
theorem first_any (w : World) (hE : Env1 w) (r s i o : Int) : Calls Tryz.prog 29 #[.agg #[.int .i64 r, .int .i64 s, .int .i64 i, .int .i64 o]] w fun e w' => e = .returned (.int .u32 (crcU 0 (firstB r s i o))) ∧ Below w.heap.size w w' := by
  have HE := Lib.hid hE
  obtain ⟨rr, hrr⟩ : ∃ rr, crcU 0 (firstB r s i o) = rr := ⟨_, rfl⟩
  rw [hrr]
  have HRR := Lib.hid hrr
  clear hE hrr
  go_enter Tryz.func29, Tryz.ntmps29
  go_wp2_with fail
  have hI : FstI w (((w.alloc (.cells #[.int .i64 r, .int .i64 s, .int .i64 i, .int .i64 o] 28)).alloc (.cells #[.slice none 0 0] 79)).alloc (.cells #[.int .i64 r, .int .i64 s, .int .i64 i, .int .i64 o] 3)) (w.heap.size + 1) (w.heap.size + 1 + 1) [] (.slice none 0 0) r s i o := by
    have sz1 := wsize_alloc w (.cells #[.int .i64 r, .int .i64 s, .int .i64 i, .int .i64 o] 28)
    have e1 := heap_alloc_new (w.alloc (.cells #[.int .i64 r, .int .i64 s, .int .i64 i, .int .i64 o] 28)) (.cells #[.slice none 0 0] 79)
    have e2 := heap_alloc_new ((w.alloc (.cells #[.int .i64 r, .int .i64 s, .int .i64 i, .int .i64 o] 28)).alloc (.cells #[.slice none 0 0] 79)) (.cells #[.int .i64 r, .int .i64 s, .int .i64 i, .int .i64 o] 3)
    rw [wsize_alloc, wsize_alloc] at e2
    rw [wsize_alloc] at e1
    exact ⟨⟨((below_alloc _ _).block _ (by rw [wsize_alloc, wsize_alloc]; omega)).trans e1, nown_none _ _ _ _, by simp [Value.ownBlock], by omega⟩, e2, nbl_al (nbl_al (below_alloc _ _))⟩
  generalize (((w.alloc (.cells #[.int .i64 r, .int .i64 s, .int .i64 i, .int .i64 o] 28)).alloc (.cells #[.slice none 0 0] 79)).alloc (.cells #[.int .i64 r, .int .i64 s, .int .i64 i, .int .i64 o] 3)) = w4 at *
  go_loopg [16] 4 (fun gf u16 wx => ∃ (m : Nat) (v : Value), u16 = .int .i64 (m : Int) ∧ m + gf = 4 ∧ FstI w wx (w.heap.size + 1) (w.heap.size + 1 + 1) (((fourN r s i o).take m).flatMap numW) v r s i o)
  case atStart => exact ⟨0, _, rfl, rfl, by simpa using hI⟩
  case round =>
    clear hI
    obtain ⟨m, v, rfl, hm, hI⟩ := hrel
    have HI := Lib.hid hI
    clear hI
    by_cases hlt : m < 4
    · obtain ⟨g', rfl⟩ : ∃ g', gk = g' + 1 := ⟨gk - 1, by omega⟩
      have hml : m < (fourN r s i o).length := hlt
      obtain ⟨x, hx⟩ : ∃ x, (fourN r s i o)[m] = x := ⟨_, rfl⟩
      have hc : wr.cell? ⟨w.heap.size + 1 + 1, m, none⟩ = some (.int .i64 x) := by
        rw [wcell_at HI.out.arr, ← hx]
        have h4 : m = 0 ∨ m = 1 ∨ m = 2 ∨ m = 3 := by omega
        rcases h4 with rfl | rfl | rfl | rfl <;> rfl
      have b1 : (0 : Int) ≤ (m : Int) := by omega
      have b2 : (m : Int) < 4 := by omega
      obtain ⟨Q, hQ, hQ2⟩ := u64_nat x
      have HTK : Hid (((fourN r s i o).take (m + 1)).flatMap numW = ((fourN r s i o).take m).flatMap numW ++ numB Q) := Lib.hid (by rw [take_snoc _ m hml, List.flatMap_append, hx]; simp [numW, hQ])
      have HLN : Hid ((((fourN r s i o).take m).flatMap numW).length ≤ 1000) := Lib.hid (by
        have h4 : m = 0 ∨ m = 1 ∨ m = 2 ∨ m = 3 := by omega
        have hn : ∀ y, (numW y).length ≤ 10 := fun y => numB_len _
        have ha := hn r
        have hb := hn s
        have hcc := hn i
        rcases h4 with rfl | rfl | rfl | rfl <;> simp [fourN] <;> omega)
      clear hx
      go_wp2_with (first | (go_at_call 30; refine (num_any wr w.heap.size (w.heap.size + 1) _ v Q HI.out.wr hQ2 (by have := HLN.out; omega)).mono ?_; rintro e w5 ⟨rfl, ⟨v5, hw5, _⟩, hk5⟩; have HC5 := Lib.hid (HI.out.call hw5 hk5); clear hw5 hk5))
      go_roundg g'
      case measure => omega
      case rel => exact ⟨m + 1, v5, by first | rfl | go_num, by omega, by rw [HTK.out]; exact HC5.out⟩
    · have e : m = 4 := by omega
      subst e
      have HALL : Hid (((fourN r s i o).take 4).flatMap numW = firstB r s i o) := Lib.hid (by simp [fourN, firstB])
      have HLN : Hid ((((fourN r s i o).take 4).flatMap numW).length ≤ 1000) := Lib.hid (by
        have hn : ∀ y, (numW y).length ≤ 10 := fun y => numB_len _
        have ha := hn r
        have hb := hn s
        have hcc := hn i
        have hd := hn o
        simp [fourN]
        omega)
      go_wp2_with (first | (go_at_call 32; refine (bytes_any _ _ _ _ _ HI.out.wr (by have := HLN.out; omega)).mono ?_; rintro e w5 ⟨⟨r5, rfl, hr5⟩, hb⟩; obtain ⟨A5, m5, c5, rfl⟩ := own_slice hr5; have HR5 : Hid (BAt w5 (.slice A5 m5 c5) (firstB r s i o)) := Lib.hid (by rw [← HALL.out]; exact OwnB.sl hr5); have HB5 := Lib.hid (nbl_step HI.out.bel hb); clear hr5 hb) | (go_at_call 31; have hu := sum_any w5 (Nat.le_trans (env_ng HE.out) HB5.out.size) _ _ HR5.out; rw [HRR.out] at hu; refine hu.mono ?_; rintro e w6 ⟨rfl, hb⟩; clear hu; have HB6 := Lib.hid (nbl_step HB5.out hb); clear hb))
      go_ret
      exact ⟨rfl, HB6.out⟩
end Go.Proofs.YtgjbnebmcmoilaaGreatDoor
namespace Go.Proofs.YtgjbnebmcmoilaaGreatDoor
set_option linter.unusedVariables false
set_option linter.unusedSimpArgs false
open Go.RowKit Go.MapKept
/-- A call with its data. -/
structure JC where
  o : Int
  q : Int
  k : ByteArray
  t : ByteArray
  j : ByteArray
  A : Option Addr
  n : Nat
  c : Nat
  d : Bs
def JC.cells (x : JC) : List Value := [.int .i64 x.o, .string x.k, .string x.t, .string x.j, .int .i64 x.q, .slice x.A x.n x.c]
/-- A journal at p. -/
structure JrAt (W : World) (B p : Nat) (r s i o : Int) (data : Bs) (sum : Int) (l : List JC) (dv cv : Value) : Prop where
  hp : W.heap[p]? = some (.cells #[.bool true, .int .i64 r, .int .i64 s, .int .i64 i, .int .i64 o, dv, .int .u32 sum, cv] 76 (0, 0))
  dat : OwnB W B dv data
  cls : W.ownsRow B 40 6 cv l.length (l.flatMap JC.cells)
  dne : dv.ownBlock ≠ some p
  cne : cv.ownBlock ≠ some p
  le : B ≤ p
  each : ∀ x ∈ l, BAt W (.slice x.A x.n x.c) x.d ∧ ∀ a, x.A = some a → a.block < W.heap.size ∧ a.block ≠ p ∧ dv.ownBlock ≠ some a.block ∧ cv.ownBlock ≠ some a.block
theorem JrAt.lt {W : World} {B p : Nat} {r s i o : Int} {data : Bs} {sum : Int} {l : List JC} {dv cv : Value} (h : JrAt W B p r s i o data sum l dv cv) : p < W.heap.size := (Array.getElem?_eq_some_iff.1 h.hp).1
theorem JrAt.below {W W' : World} {B p : Nat} {r s i o : Int} {data : Bs} {sum : Int} {l : List JC} {dv cv : Value} (h : JrAt W B p r s i o data sum l dv cv) (hb : Below W.heap.size W W') : JrAt W' B p r s i o data sum l dv cv :=
  ⟨(hb.block p h.lt).trans h.hp, nown_below h.dat hb, nown_below h.cls hb, h.dne, h.cne, h.le, fun x hx => ⟨(h.each x hx).1.below hb, fun a ha => ⟨Nat.lt_of_lt_of_le ((h.each x hx).2 a ha).1 hb.size, ((h.each x hx).2 a ha).2⟩⟩⟩
set_option maxRecDepth 100000 in
theorem jnone_any (W : World) (B p : Nat) (r s i o : Int) (data : Bs) (sum : Int) (l : List JC) (dv cv : Value) (h : JrAt W B p r s i o data sum l dv cv) : Calls Tryz.prog 33 #[.pointer (some ⟨p, 0, none⟩)] W fun e w' => e = .returned (.bool false) ∧ w' = W := by
  have c0 : W.cell? ⟨p, 0, none⟩ = some (.bool true) := wcell_at h.hp
  clear h
  go_enter Tryz.func33, Tryz.ntmps33
  go_wp2_with fail
  go_ret
  exact ⟨rfl, rfl⟩
theorem calls_len {W : World} {B p : Nat} {r s i o : Int} {data : Bs} {sum : Int} {l : List JC} {dv cv : Value} (h : JrAt W B p r s i o data sum l dv cv) : ∃ A c, cv = .slice A l.length c := by
  rcases h.cls.2 with ⟨e, h0⟩ | ⟨g, cap, cur, e, _⟩
  · exact ⟨none, 0, by rw [e, h0]⟩
  · exact ⟨_, cap, e⟩
set_option maxRecDepth 100000 in
theorem jlen_any (W : World) (B p : Nat) (r s i o : Int) (data : Bs) (sum : Int) (l : List JC) (dv cv : Value) (h : JrAt W B p r s i o data sum l dv cv) : Calls Tryz.prog 14 #[.pointer (some ⟨p, 0, none⟩)] W fun e w' => e = .returned (.int .i64 (l.length : Int)) ∧ w' = W := by
  have HN := Lib.hid (jnone_any W B p r s i o data sum l dv cv h)
  obtain ⟨A, c, rfl⟩ := calls_len h
  have c7 : W.cell? ⟨p, 7, none⟩ = some (.slice A l.length c) := wcell_at h.hp
  clear h
  go_enter Tryz.func14, Tryz.ntmps14
  go_wp2_with (first | (go_at_call 33; refine HN.out.mono ?_; rintro e w1 ⟨rfl, hw⟩; obtain rfl := hw.symm; clear hw))
  go_ret
  exact ⟨rfl, rfl⟩
set_option maxRecDepth 100000 in
set_option maxHeartbeats 2000000 in
theorem jnew_good (w : World) (hE : Env1 w) (r : Int) (S : Nat) (i o : Int) (h : okN r S i o = true) : Calls Tryz.prog 7 #[.agg #[.int .i64 r, .int .i64 (S : Int), .int .i64 i, .int .i64 o]] w fun e w' => (∃ p, e = .returned (.tuple #[.pointer (some ⟨p, 0, none⟩), .int .i64 0]) ∧ JrAt w' w.heap.size p r S i o [] (crcU 0 (firstB r S i o)) [] (.slice none 0 0) (.slice none 0 0)) ∧ Below w.heap.size w w' := by
  have HN := Lib.hid (fun W => new_good W r S i o h)
  have HE := Lib.hid hE
  obtain ⟨rr, hrr⟩ : ∃ rr, crcU 0 (firstB r S i o) = rr := ⟨_, rfl⟩
  have HF : Hid (∀ W, Env1 W → Calls Tryz.prog 29 #[.agg #[.int .i64 r, .int .i64 (S : Int), .int .i64 i, .int .i64 o]] W fun e w' => e = .returned (.int .u32 rr) ∧ Below W.heap.size W w') := Lib.hid fun W hW => by
    have := first_any W hW r S i o
    rw [hrr] at this
    exact this
  rw [hrr]
  clear h hE hrr
  go_enter Tryz.func7, Tryz.ntmps7
  go_wp2_with (first | (go_at_call 26; refine (HN.out _).mono ?_; rintro e w1 ⟨⟨p, t, g, d, n, u, rfl, _⟩, hb⟩; have HB1 := Lib.hid (nbl_step (below_alloc _ _) hb); have q0 : w1.cell? ⟨w.heap.size, 0, none⟩ = some (.int .i64 r) := cell_below hb (new_cells w _ _ 0); have q1 : w1.cell? ⟨w.heap.size, 1, none⟩ = some (.int .i64 (S : Int)) := cell_below hb (new_cells w _ _ 1); have q2 : w1.cell? ⟨w.heap.size, 2, none⟩ = some (.int .i64 i) := cell_below hb (new_cells w _ _ 2); have q3 : w1.cell? ⟨w.heap.size, 3, none⟩ = some (.int .i64 o) := cell_below hb (new_cells w _ _ 3); clear hb))
  go_region_held3 (fun w' => w'.cell? ⟨w.heap.size, 0, none⟩ = some (.int .i64 r) ∧ w'.cell? ⟨w.heap.size, 1, none⟩ = some (.int .i64 (S : Int)) ∧ w'.cell? ⟨w.heap.size, 2, none⟩ = some (.int .i64 i) ∧ w'.cell? ⟨w.heap.size, 3, none⟩ = some (.int .i64 o)) (first | go_keep | (exact ⟨cell_below HB8.out (cell_below (Below.refl _ _).drew q0), cell_below HB8.out (cell_below (Below.refl _ _).drew q1), cell_below HB8.out (cell_below (Below.refl _ _).drew q2), cell_below HB8.out (cell_below (Below.refl _ _).drew q3)⟩)) (first | (go_at_call 29; refine (HF.out _ (HE.out.below (nbl_step HB1.out (Below.refl _ _).drew))).mono ?_; rintro e w8 ⟨rfl, hb⟩; have HB8 := Lib.hid hb; have HB9 := Lib.hid (nbl_step HB1.out (nbl_step (Below.refl _ _).drew hb)); clear hb) | fail)
  go_wp2_with fail
  go_ret2
  exact ⟨⟨_, rfl, heap_alloc_new w8 _, nown_none _ _ _ _, ⟨rfl, .inl ⟨rfl, rfl⟩⟩, by simp [Value.ownBlock], by simp [Value.ownBlock], HB9.out.size, fun x hx => by cases hx⟩, nbl_al HB9.out⟩
set_option maxRecDepth 100000 in
set_option maxHeartbeats 2000000 in
theorem jnew_bad (w : World) (r s i o : Int) (h : okN r s i o = false) : Calls Tryz.prog 7 #[.agg #[.int .i64 r, .int .i64 s, .int .i64 i, .int .i64 o]] w fun e w' => e = .returned (.tuple #[.pointer none, .int .i64 2]) ∧ Below w.heap.size w w' := by
  have HN := Lib.hid (fun W => new_bad W r s i o h)
  clear h
  go_enter Tryz.func7, Tryz.ntmps7
  go_wp2_with (first | (go_at_call 26; refine (HN.out _).mono ?_; rintro e w1 ⟨rfl, hb⟩; have HB1 := Lib.hid (nbl_step (below_alloc _ _) hb); clear hb))
  go_ret2
  exact ⟨rfl, HB1.out⟩
end Go.Proofs.YtgjbnebmcmoilaaGreatDoor
namespace Go.Proofs.YtgjbnebmcmoilaaGreatDoor
set_option linter.unusedVariables false
set_option linter.unusedSimpArgs false
open Go.RowKit Go.MapKept
theorem byteV_map (d : Bs) : d.map byteV = (d.map fun b => (b.toNat : Int)).map (Value.int .u8) := by
  rw [List.map_map]
  rfl
/-- bytes.Clone. -/
theorem bclone_any (w : World) (A : Option Addr) (n c : Nat) (d : Bs) (h : BAt w (.slice A n c) d) (hl : d.length ≤ 1000000) : Calls Tryz.prog 36 #[.slice A n c] w fun e w' => (∃ A' c', e = .returned (.slice A' n c') ∧ BAt w' (.slice A' n c') d ∧ ∀ a, A' = some a → w.heap.size ≤ a.block ∧ a.block < w'.heap.size) ∧ Below w.heap.size w w' := by
  have hn : d.length = n := by
    obtain ⟨A', c', e, _⟩ := id h
    injection e with _ e2
    exact e2.symm
  cases A with
  | none =>
    have h0 : n = 0 := by
      obtain ⟨A', c', e, h1, h2, h3⟩ := id h
      rcases Nat.eq_zero_or_pos n with h0 | h0
      · exact h0
      · obtain ⟨b, off, e2, _⟩ := h3 (by omega)
        injection e with e3
        rw [e2] at e3
        cases e3
    subst h0
    obtain rfl : d = [] := List.eq_nil_of_length_eq_zero hn
    refine (Tryz.bytes_Clone_nil 0 c w).mono ?_
    rintro e w' ⟨rfl, hw⟩
    obtain rfl := hw.symm
    exact ⟨⟨none, 0, rfl, OwnB.sl (B := w.heap.size) (nown_none _ _ _ _), fun a ha => by cases ha⟩, Below.refl _ _⟩
  | some a =>
    refine (Tryz.bytes_Clone_at a n c (d.map fun b => (b.toNat : Int)) w (by simpa using hn) (by omega) fun i hi => ?_).mono ?_
    · have hi' : i < d.length := by omega
      obtain ⟨g, off, f⟩ := a
      obtain ⟨b, o, e, hc⟩ := h.elem hi'
      injection e with e
      injection e with e1 e2 e3
      subst e1; subst e2; subst e3
      have hadd : (⟨g, off, none⟩ : Addr).add i = ⟨g, off + i, none⟩ := by unfold Addr.add; split <;> simp_all
      have := h.cells i hi'
      rw [hadd, this]
      simp [hi', byteV]
    · rintro e w' ⟨v', rfl, ho, hne, hb⟩
      have ho' : OwnB w' w.heap.size v' d := by
        unfold OwnB
        rw [hn, byteV_map]
        exact ho
      obtain ⟨A', m', c', rfl⟩ := own_slice ho'
      have hs := ho'.sl
      have hm : m' = n := by
        obtain ⟨A2, c2, e2, _⟩ := id hs
        injection e2 with _ e3
        omega
      subst hm
      exact ⟨⟨A', c', rfl, hs, fun a ha => by
        subst ha
        exact nown_block ho' (by simp [Value.ownBlock])⟩, hb⟩
theorem own_types {W : World} {B B' : Nat} {dv cv : Value} {x : Bs} {n : Nat} {xs : List Value} (h : OwnB W B dv x) (h' : W.ownsRow B' 40 6 cv n xs) {k : Nat} (hk : dv.ownBlock = some k) : cv.ownBlock ≠ some k := fun hc => by
  rcases h.2 with ⟨rfl, _⟩ | ⟨g, cap, cur, rfl, _, hb, _⟩
  · cases hk
  · rcases h'.2 with ⟨rfl, _⟩ | ⟨g', cap', cur', rfl, _, hb', _⟩
    · cases hc
    · have e1 : g = k := by simpa [Value.ownBlock] using hk
      have e2 : g' = k := by simpa [Value.ownBlock] using hc
      rw [e1] at hb
      rw [e2, hb] at hb'
      injection hb' with hb'
      injection hb' with _ hb'
      exact absurd hb' (by decide)
/-- Between the two appends. -/
structure Mid (V W : World) (B L : Nat) (cells : List Value) (dv cv dv' : Value) (data' : Bs) : Prop where
  os : W.os = V.os
  tape : W.tape = V.tape
  output : W.output = V.output
  size : V.heap.size ≤ W.heap.size
  dat : OwnB W B dv' data'
  dnew : NewOwn V dv dv'
  cls : W.ownsRow B 40 6 cv L cells
  block : ∀ k, k < V.heap.size → dv.ownBlock ≠ some k → W.heap[k]? = V.heap[k]?
theorem Mid.below {V W W' : World} {B L : Nat} {cells : List Value} {dv cv dv' : Value} {data' : Bs} (h : Mid V W B L cells dv cv dv' data') (hb : Below W.heap.size W W') : Mid V W' B L cells dv cv dv' data' :=
  ⟨hb.os.trans h.os, hb.tape.trans h.tape, hb.output.trans h.output, Nat.le_trans h.size hb.size, nown_below h.dat hb, h.dnew, nown_below h.cls hb, fun k hk hn => (hb.block k (Nat.lt_of_lt_of_le hk h.size)).trans (h.block k hk hn)⟩
theorem mid_start {V X : World} {B p : Nat} {r s i o : Int} {data : Bs} {sum : Int} {l : List JC} {dv cv : Value} (h : JrAt V B p r s i o data sum l dv cv) {A : Option Addr} {n c : Nat} {rb : Bs} (hr : BAt V (.slice A n c) rb) (hl : data.length + rb.length ≤ 10000000) (hX : Below V.heap.size V X) :
    ∃ A' n' c' W6, (∀ ty, (Builtin.append_ #[31, 31] ty #[dv, .slice A n c]).run Tryz.prog X = .ok (.slice A' n' c') W6) ∧ Mid V W6 B l.length (l.flatMap JC.cells) dv cv (.slice A' n' c') (data ++ rb) ∧ X.grownBy W6 dv.ownBlock := by
  have hB : B ≤ V.heap.size := Nat.le_trans h.le (Nat.le_of_lt h.lt)
  have hd := h.below hX
  obtain ⟨v', W6, hr6, ho6, hg6, hv6⟩ := app_at hd.dat (hr.below hX) hl (Nat.le_trans hB hX.size)
  obtain ⟨A', n', c', rfl⟩ := own_slice ho6
  refine ⟨A', n', c', W6, hr6, ⟨hg6.os.trans hX.os, hg6.tape.trans hX.tape, hg6.output.trans hX.output, Nat.le_trans hX.size hg6.size, ho6, NewOwn.earlier hv6 hX.size, ?_, fun k hk hn => (hg6.block k (Nat.lt_of_lt_of_le hk hX.size) (fun e => hn e.symm)).trans (hX.block k hk)⟩, hg6⟩
  exact nown_keep hd.cls fun g hg => hg6.block g (nown_block hd.cls hg).2 fun e => own_types hd.dat hd.cls e.symm hg
theorem step8 {P : Program} {t : TypeId} {v vx : Value} {V : World} {M : World → World → Value → Prop} (HA : ∀ X, Below V.heap.size V X → ∃ A' n' c' W6, (∀ ty, (Builtin.append_ #[t, t] ty #[v, vx]).run P X = .ok (.slice A' n' c') W6) ∧ M X W6 (.slice A' n' c'))
    {w : World} {ops : Array Oper} {o : Oper} {a : Act} {K : Act → World → Prop} {Q : Exit → Act → World → Prop} {E : Prop} (hgd : o.guard = none) (s x : Operand) (ho : o.op = .call { callee := .builtin .append, args := #[s, x], argTypes := #[t, t] }) (hs : a.eval s = v) (hx : a.eval x = vx) (hX : Below V.heap.size V w)
    (h : ∀ A' n' c' W6, M w W6 (.slice A' n' c') → K (a.put o.dst (.slice A' n' c')) W6) : if Region.wanted o (yielded ops a.tmps) = true then Oper.wp P o a w K Q else E := by
  obtain ⟨A', n', c', W6, hr, hm⟩ := HA w hX
  exact step_append_eq hr hgd s x ho hs hx (h A' n' c' W6 hm)
theorem bat_keep {W W' : World} {A : Option Addr} {n c : Nat} {d : Bs} (h : BAt W (.slice A n c) d) (hk : ∀ a, A = some a → W'.heap[a.block]? = W.heap[a.block]?) : BAt W' (.slice A n c) d := by
  obtain ⟨A', c', e, hl, hm, hc⟩ := h
  injection e with e1 e2 e3
  subst e1; subst e3
  refine ⟨A, c, by rw [e2], hl, hm, fun h0 => ?_⟩
  obtain ⟨b, off, e, h1⟩ := hc h0
  exact ⟨b, off, e, fun i hi j u hu => (World.cell?_of_block (a := ⟨b, off + i * 1 + j, none⟩) (hk ⟨b, off, none⟩ e)).trans (h1 i hi j u hu)⟩
/-- Nothing of what lay there changes but block p and two blocks. -/
structure Kjr (p : Nat) (o1 o2 : Option Nat) (a b : World) : Prop where
  os : b.os = a.os
  tape : b.tape = a.tape
  output : b.output = a.output
  size : a.heap.size ≤ b.heap.size
  block : ∀ k, k < a.heap.size → k ≠ p → o1 ≠ some k → o2 ≠ some k → b.heap[k]? = a.heap[k]?
def jobj (r s i o : Int) (dv : Value) (sum : Int) (cv : Value) : Obj := .cells #[.bool true, .int .i64 r, .int .i64 s, .int .i64 i, .int .i64 o, dv, .int .u32 sum, cv] 76 (0, 0)
theorem jr_end {V W W8 : World} {B p : Nat} {r s i o : Int} {data data' : Bs} {sum : Int} {l : List JC} {dv cv dv' : Value} (h : JrAt V B p r s i o data sum l dv cv) (m : Mid V W B l.length (l.flatMap JC.cells) dv cv dv' data') {g cap : Nat} (x : JC) (sm : Int)
    (ho : W8.ownsRow B 40 6 (.slice (some ⟨g, 0, none⟩) (l.length + 1) cap) (l.length + 1) (l.flatMap JC.cells ++ x.cells)) (hg : W.grownBy W8 cv.ownBlock) (hv : cv.ownBlock = some g ∨ g = W.heap.size)
    (hx : BAt V (.slice x.A x.n x.c) x.d ∧ ∀ a, x.A = some a → a.block < V.heap.size ∧ a.block ≠ p ∧ dv.ownBlock ≠ some a.block ∧ cv.ownBlock ≠ some a.block) :
    W8.heap[p]? = some (jobj r s i o dv sum cv) ∧ JrAt (((W8.setCell ⟨p, 5, none⟩ dv').setCell ⟨p, 6, none⟩ (.int .u32 sm)).setCell ⟨p, 7, none⟩ (.slice (some ⟨g, 0, none⟩) (l.length + 1) cap)) B p r s i o data' sm (l ++ [x]) dv' (.slice (some ⟨g, 0, none⟩) (l.length + 1) cap) ∧ NewOwn V dv dv' ∧ NewOwn V cv (.slice (some ⟨g, 0, none⟩) (l.length + 1) cap) ∧ Kjr p dv.ownBlock cv.ownBlock V (((W8.setCell ⟨p, 5, none⟩ dv').setCell ⟨p, 6, none⟩ (.int .u32 sm)).setCell ⟨p, 7, none⟩ (.slice (some ⟨g, 0, none⟩) (l.length + 1) cap)) := by
  have hnew : NewOwn V cv (.slice (some ⟨g, 0, none⟩) (l.length + 1) cap) := fun b hb => by
    have e : g = b := by simpa [Value.ownBlock] using hb
    subst e
    rcases hv with h1 | h1
    · exact Or.inl h1
    · exact Or.inr (by rw [h1]; exact m.size)
  have hb8 : ∀ k, k < V.heap.size → dv.ownBlock ≠ some k → cv.ownBlock ≠ some k → W8.heap[k]? = V.heap[k]? := fun k hk h1 h2 => (hg.block k (Nat.lt_of_lt_of_le hk m.size) fun e => h2 e.symm).trans (m.block k hk h1)
  have hp8 : W8.heap[p]? = some (jobj r s i o dv sum cv) := (hb8 p h.lt h.dne h.cne).trans h.hp
  have hset : ∀ k, k ≠ p → (((W8.setCell ⟨p, 5, none⟩ dv').setCell ⟨p, 6, none⟩ (.int .u32 sm)).setCell ⟨p, 7, none⟩ (.slice (some ⟨g, 0, none⟩) (l.length + 1) cap)).heap[k]? = W8.heap[k]? := fun k hk => (wheap_setN _ _ _ _ hk).trans ((wheap_setN _ _ _ _ hk).trans (wheap_setN _ _ _ _ hk))
  have hd' : dv'.ownBlock ≠ some p := fun e => by
    rcases m.dnew p e with h1 | h1
    · exact h.dne h1
    · have := h.lt
      omega
  have hc' : (Value.slice (some ⟨g, 0, none⟩) (l.length + 1) cap).ownBlock ≠ some p := fun e => by
    rcases hnew p e with h1 | h1
    · exact h.cne h1
    · have := h.lt
      omega
  have hdat8 : OwnB W8 B dv' data' := nown_keep m.dat fun k hk => hg.block k (nown_block m.dat hk).2 fun e => own_types m.dat m.cls hk e.symm
  refine ⟨hp8, ⟨wheap_set (wheap_set (wheap_set hp8)), nown_keep hdat8 fun k hk => hset k fun e => hd' (e ▸ hk), ?_, hd', hc', h.le, fun y hy => ?_⟩, m.dnew, hnew, ⟨hg.os.trans m.os, hg.tape.trans m.tape, hg.output.trans m.output, by rw [World.size_setCell, World.size_setCell, World.size_setCell]; exact Nat.le_trans m.size hg.size, fun k hk h0 h1 h2 => (hset k h0).trans (hb8 k hk h1 h2)⟩⟩
  · have e : (l ++ [x]).flatMap JC.cells = l.flatMap JC.cells ++ x.cells := by simp
    rw [e, List.length_append]
    exact nown_keep ho fun k hk => hset k fun e => hc' (e ▸ hk)
  · have hy' : BAt V (.slice y.A y.n y.c) y.d ∧ ∀ a, y.A = some a → a.block < V.heap.size ∧ a.block ≠ p ∧ dv.ownBlock ≠ some a.block ∧ cv.ownBlock ≠ some a.block := by
      rcases List.mem_append.1 hy with h1 | h1
      · exact h.each y h1
      · rw [List.mem_singleton.1 h1]
        exact hx
    refine ⟨bat_keep hy'.1 fun a ha => (hset _ (hy'.2 a ha).2.1).trans (hb8 _ (hy'.2 a ha).1 (hy'.2 a ha).2.2.1 (hy'.2 a ha).2.2.2), fun a ha => ⟨?_, (hy'.2 a ha).2.1, fun e => ?_, fun e => ?_⟩⟩
    · rw [World.size_setCell, World.size_setCell, World.size_setCell]
      exact Nat.lt_of_lt_of_le (hy'.2 a ha).1 (Nat.le_trans m.size hg.size)
    · rcases m.dnew _ e with h1 | h1
      · exact (hy'.2 a ha).2.2.1 h1
      · have := (hy'.2 a ha).1
        omega
    · rcases hnew _ e with h1 | h1
      · exact (hy'.2 a ha).2.2.2 h1
      · have := (hy'.2 a ha).1
        omega
theorem infoc_call : (Tryz.prog.info? 40).map (fun i => (i.zero, i.size, i.bytes)) = some (some (.agg #[.int .i64 0, .string ⟨#[]⟩, .string ⟨#[]⟩, .string ⟨#[]⟩, .int .i64 0, .slice none 0 0]), 6, 88) := by kernel_rfl
/-- Behind both appends. -/
def EndOk (V W8 : World) (B p : Nat) (r s i o : Int) (sum : Int) (data' : Bs) (sm : Int) (l : List JC) (x : JC) (dv cv dv' cv' : Value) : Prop :=
  W8.heap[p]? = some (jobj r s i o dv sum cv) ∧ JrAt (((W8.setCell ⟨p, 5, none⟩ dv').setCell ⟨p, 6, none⟩ (.int .u32 sm)).setCell ⟨p, 7, none⟩ cv') B p r s i o data' sm (l ++ [x]) dv' cv' ∧ NewOwn V dv dv' ∧ NewOwn V cv cv' ∧ Kjr p dv.ownBlock cv.ownBlock V (((W8.setCell ⟨p, 5, none⟩ dv').setCell ⟨p, 6, none⟩ (.int .u32 sm)).setCell ⟨p, 7, none⟩ cv')
theorem mid_end {V : World} {B p : Nat} {r s i o : Int} {data data' : Bs} {sum : Int} {l : List JC} {dv cv dv' : Value} (h : JrAt V B p r s i o data sum l dv cv) (x : JC) (sm : Int) (hx : BAt V (.slice x.A x.n x.c) x.d ∧ ∀ a, x.A = some a → a.block < V.heap.size ∧ a.block ≠ p ∧ dv.ownBlock ≠ some a.block ∧ cv.ownBlock ≠ some a.block) (hl : l.length ≤ 2000)
    (W : World) (m : Mid V W B l.length (l.flatMap JC.cells) dv cv dv' data') (Y : Nat) (hY : W.heap[Y]? = some (.cells x.cells.toArray 40 (0, 0))) :
    ∃ g cap W8, (∀ ty, (Builtin.append_ #[30, 30] ty #[cv, .slice (some ⟨Y, 0, none⟩) 1 1]).run Tryz.prog W = .ok (.slice (some ⟨g, 0, none⟩) (l.length + 1) cap) W8) ∧ EndOk V W8 B p r s i o sum data' sm l x dv cv dv' (.slice (some ⟨g, 0, none⟩) (l.length + 1) cap) := by
  obtain ⟨ic, hi0, hi1, hi2, hi3⟩ := info_parts infoc_call
  obtain ⟨g, cap, W8, hr, h2, h3, h4, h5⟩ := run_append_lies (P := Tryz.prog) (w := W) 30 0 B 40 ic _ 6 88 Tryz.underlying30 hi0 hi1 hi2 hi3 rfl (by omega) cv l.length (l.flatMap JC.cells) m.cls ⟨Y, 0, none⟩ 1 1 x.cells rfl (World.news_of_block hY) (fun u hu => by
      unfold JC.cells at hu
      simp at hu
      rcases hu with rfl | rfl | rfl | rfl | rfl | rfl <;> rfl) (by omega) (by unfold maxLen; omega) (by omega) (Nat.le_trans h.le (Nat.le_trans (Nat.le_of_lt h.lt) m.size)) _ rfl
  exact ⟨g, cap, W8, fun ty => hr, jr_end h m x sm h2 h3 h4 hx⟩
theorem step16 {P : Program} {t : TypeId} {v vx : Value} {R : World → Nat → Prop} {M : World → Value → Prop} {Y : Nat} {n : Nat} (HA : ∀ X, R X Y → ∃ g c' W6, (∀ ty, (Builtin.append_ #[t, t] ty #[v, vx]).run P X = .ok (.slice (some ⟨g, 0, none⟩) n c') W6) ∧ M W6 (.slice (some ⟨g, 0, none⟩) n c'))
    {w : World} {ops : Array Oper} {o : Oper} {a : Act} {K : Act → World → Prop} {Q : Exit → Act → World → Prop} {E : Prop} (hgd : o.guard = none) (s x : Operand) (ho : o.op = .call { callee := .builtin .append, args := #[s, x], argTypes := #[t, t] }) (hs : a.eval s = v) (hx : a.eval x = vx) (hX : R w Y)
    (h : ∀ g c' W6, M W6 (.slice (some ⟨g, 0, none⟩) n c') → K (a.put o.dst (.slice (some ⟨g, 0, none⟩) n c')) W6) : if Region.wanted o (yielded ops a.tmps) = true then Oper.wp P o a w K Q else E := by
  obtain ⟨A', c', W6, hr, hm⟩ := HA w hX
  exact step_append_eq hr hgd s x ho hs hx (h A' c' W6 hm)
theorem Kjr.after {p : Nat} {o1 o2 : Option Nat} {a b c : World} (h : Below a.heap.size a b) (k : Kjr p o1 o2 b c) : Kjr p o1 o2 a c :=
  ⟨k.os.trans h.os, k.tape.trans h.tape, k.output.trans h.output, Nat.le_trans h.size k.size, fun j hj hp h1 h2 => (k.block j (Nat.lt_of_lt_of_le hj h.size) hp h1 h2).trans (h.block j hj)⟩
end Go.Proofs.YtgjbnebmcmoilaaGreatDoor
