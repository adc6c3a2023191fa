/- client.Decode. -/
import Derived.Test.YtgjbnebmcmoilaaGreatDoorVj
import Derived.Deep.WholeRow
import Derived.Deep.QuietTactic
import Derived.WalkSpells
import Derived.WalkLawsBesides
import Derived.BigQuiet
import Derived.Deep.MidRow
import Derived.Laws.ResultCell
namespace Go.Proofs.YtgjbnebmcmoilaaGreatDoor
set_option linter.unusedVariables false
set_option linter.unusedSimpArgs false
open Go.RowKit Go.MapKept
section
variable {P : Program} {ops : Array Oper} {Q : Exit → Act → World → Prop} {a : Act} {w : World} {rest : List Oper} {o : Oper}
theorem wpList_value (hw : Region.wanted o (yielded ops a.tmps) = true) {v : Value} {w' : World} (hrun : (execOp a.eval o).run P w = .ok (.value v) w')
    (hK : wpList P ops Q rest (a.put o.dst v) w') : wpList P ops Q (o :: rest) a w := by
  refine wpList_step fun K' hK' => ?_
  rw [if_pos hw]
  unfold Oper.wp
  rw [hrun]
  exact hK' _ _ hK

theorem wpList_skips (hw : Region.wanted o (yielded ops a.tmps) = true) {w' : World} (hrun : (execOp a.eval o).run P w = .ok .skip w')
    (hK : wpList P ops Q rest (a.put o.dst undef) w') : wpList P ops Q (o :: rest) a w := by
  refine wpList_step fun K' hK' => ?_
  rw [if_pos hw]
  unfold Oper.wp
  rw [hrun]
  exact hK' _ _ hK

theorem wpList_store_eq (hw : Region.wanted o (yielded ops a.tmps) = true) (x y : Operand) (t : TypeId) (hop : o.op = Op.store t x y) (p v : Value) (hx : a.eval x = p) (hy : a.eval y = v) {w' : World}
    (hrun : (Instr.storeAt t p v).run P w = .ok () w') (hK : wpList P ops Q rest (a.put o.dst undef) w') : wpList P ops Q (o :: rest) a w := by
  refine wpList_skips hw (w' := w') ?_ hK
  simp [execOp, hop, hx, hy, hrun, Result.andThen]
end
theorem size_setCells (g : Nat) : ∀ (vs : List Value) (o : Nat) (w : World), (w.setCells g o vs).heap.size = w.heap.size
  | [], o, w => rfl
  | v :: vs, o, w => (size_setCells g vs (o + 1) _).trans (by simp [World.setCell])
theorem heap_sets_ne {r g : Nat} (h : r ≠ g) : ∀ (vs : List Value) (o : Nat) (w : World), (w.setCells g o vs).heap[r]? = w.heap[r]?
  | [], o, w => rfl
  | v :: vs, o, w => (heap_sets_ne h vs (o + 1) _).trans (Below.heap_setCell _ _ _ _ h)
theorem there_new {W : World} {R : Nat} {cs : Array Value} {t : TypeId} (h : W.heap[R]? = some (.cells cs t (0, 0))) (n : Nat) (hn : n ≤ cs.size) : W.there R 0 n := fun j hj => by
  have hc : W.cell? ⟨R, 0 + j, none⟩ = cs[0 + j]? := by
    simp [World.cell?, h]
  refine ⟨?_, ?_⟩
  · rw [hc, Array.getElem?_eq_getElem (by omega)]
    rfl
  · simp only [World.frozen?, h]
    simp
theorem kbut_sets_refl (g : Nat) : ∀ (vs : List Value) (o : Nat) (w : World), Kbut g w (w.setCells g o vs) := fun vs o w => by
  have : ∀ (vs : List Value) (o : Nat) (a b : World), Kbut g a b → Kbut g a (b.setCells g o vs) := by
    intro vs
    induction vs with
    | nil => intro o a b h; exact h
    | cons v vs ih => intro o a b h; exact ih (o + 1) a _ (h.trans (Kbut.set g o b v))
  exact this vs o w w (Kbut.ofBelow (Below.refl _ _))
/-- A call is stored in the result's cells. -/
theorem res_store {W : World} {R : Nat} {o q o' q' : Int} {k t j k' t' j' : ByteArray} {A A' : Option Addr} {m c m' c' : Nat} (h : W.heap[R]? = some (callObj o q k t j A m c)) :
    ∃ W2, (Instr.storeAt 40 (.pointer (some ⟨R, 0, none⟩)) (.agg #[.int .i64 o', .string k', .string t', .string j', .int .i64 q', .slice A' m' c'])).run Tryz.prog W = .ok () W2 ∧ (loadVar 40 ⟨R, 0, none⟩).run Tryz.prog W2 = .ok (.agg #[.int .i64 o', .string k', .string t', .string j', .int .i64 q', .slice A' m' c']) W2 ∧ Kbut R W W2 := by
  have ht : W.there R 0 6 := there_new h 6 (Nat.le_refl 6)
  refine ⟨W.setCells R 0 [.int .i64 o', .string k', .string t', .string j', .int .i64 q', .slice A' m' c'], run_storeAt_mid W R 0 40 #[.int .i64 o', .string k', .string t', .string j', .int .i64 q', .slice A' m' c'] ht (by kernel_rfl) (by simp [Value.oneCell']), run_loadVar_mid _ R 0 40 [.int .i64 o', .string k', .string t', .string j', .int .i64 q', .slice A' m' c'] _ (World.rangeAt_setCells_same W R 0 _ ht) Tryz.underlying40 rfl (by kernel_rfl), kbut_sets_refl R _ _ W⟩
def rowObj (a b : Value) : Obj := .cells #[a, b] 119
theorem dec_start {w w1 w2 w3 : World} {p : Nat} {rv : Value} {all : Bs} {O : Int} (hr1 : RdAt w1 (w.heap.size + 1) p all 0 rv) (hb1 : Below (w.heap.size + 1) (w.alloc (callObj 0 0 ⟨#[]⟩ ⟨#[]⟩ ⟨#[]⟩ none 0 0)) w1) (hr2 : RdAt w2 (w.heap.size + 1) p all 1 rv) (hk2 : Kbut p (w1.alloc (.cells #[.pointer (some ⟨p, 0, none⟩)] 132)) w2)
    (hb3 : Below (w2.heap.size + 1) (w2.alloc (callObj O 0 ⟨#[]⟩ ⟨#[]⟩ ⟨#[]⟩ none 0 0)) w3) (rw : Obj) (s : ByteArray) : DecI w (((w3.alloc rw).alloc (.cells #[.slice none 0 0] 191)).iter s 0) p w1.heap.size w2.heap.size (w3.heap.size + 1) (w3.heap.size + 1 + 1) all rv O DS0 none 0 0 (.slice none 0 0) s 0 := by
  have s0 := wsize_alloc w (callObj 0 0 ⟨#[]⟩ ⟨#[]⟩ ⟨#[]⟩ none 0 0)
  have s1 := wsize_alloc w1 (.cells #[.pointer (some ⟨p, 0, none⟩)] 132)
  have s2 := wsize_alloc w2 (callObj O 0 ⟨#[]⟩ ⟨#[]⟩ ⟨#[]⟩ none 0 0)
  have s3 := wsize_alloc w3 rw
  have s4 := wsize_alloc (w3.alloc rw) (.cells #[.slice none 0 0] 191)
  have z1 := hb1.size
  have z2 := hk2.size
  have z3 := hb3.size
  have p1 := hr1.lt
  have p2 := hr1.le
  have hW : Below w3.heap.size w3 (((w3.alloc rw).alloc (.cells #[.slice none 0 0] 191)).iter s 0) := nbl_step (nbl_al (below_alloc w3 rw)) (below_alloc _ (.stringIter s 0))
  have hW4 : Below ((w3.alloc rw).alloc (.cells #[.slice none 0 0] 191)).heap.size ((w3.alloc rw).alloc (.cells #[.slice none 0 0] 191)) (((w3.alloc rw).alloc (.cells #[.slice none 0 0] 191)).iter s 0) := below_alloc _ (.stringIter s 0)
  have e10 := heap_alloc_new (w3.alloc rw) (.cells #[.slice none 0 0] 191)
  rw [s3] at e10
  have eit := World.iter_heap ((w3.alloc rw).alloc (.cells #[.slice none 0 0] 191)) s 0
  rw [s4, s3] at eit
  have b1 := heap_alloc_new w (callObj 0 0 ⟨#[]⟩ ⟨#[]⟩ ⟨#[]⟩ none 0 0)
  have b2 := heap_alloc_new w1 (.cells #[.pointer (some ⟨p, 0, none⟩)] 132)
  have b3 := heap_alloc_new w2 (callObj O 0 ⟨#[]⟩ ⟨#[]⟩ ⟨#[]⟩ none 0 0)
  have go3 : ∀ k, k < w2.heap.size → (((w3.alloc rw).alloc (.cells #[.slice none 0 0] 191)).iter s 0).heap[k]? = w2.heap[k]? := fun k hk => (hW.block k (by omega)).trans ((hb3.block k (by omega)).trans ((below_alloc w2 _).block k hk))
  have go1 : ∀ k, k < w1.heap.size → k ≠ p → w2.heap[k]? = w1.heap[k]? := fun k hk hp => (hk2.block k (by omega) hp).trans ((below_alloc w1 _).block k hk)
  have hres : (((w3.alloc rw).alloc (.cells #[.slice none 0 0] 191)).iter s 0).heap[w.heap.size]? = some (callObj 0 0 ⟨#[]⟩ ⟨#[]⟩ ⟨#[]⟩ none 0 0) := (go3 _ (by omega)).trans ((go1 _ (by omega) (by omega)).trans ((hb1.block _ (by omega)).trans b1))
  refine ⟨⟨⟨(go3 p (by omega)).trans hr2.hp, nown_base (nown_keep hr2.own fun g hg => go3 g (nown_block hr2.own hg).2) (by omega), hr2.ne, by omega, hr2.hn, hr2.hl⟩, (go3 _ (by omega)).trans ((hk2.block _ (by omega) (by omega)).trans b2), (hW4.block _ (by omega)).trans e10, nown_none _ _ _ _, by omega, by omega, fun g hg => (by cases hg)⟩, (hW.block _ (by omega)).trans ((hb3.block _ (by omega)).trans b3), SlAt.nil 0 none (by omega), eit, hres, by omega, by omega, by omega, by omega, fun g hg => (by cases hg), fun a ha => (by cases ha), ?_⟩
  exact ⟨hW.os.trans (hb3.os.trans (hk2.os.trans (hb1.os))), hW.tape.trans (hb3.tape.trans (hk2.tape.trans hb1.tape)), hW.output.trans (hb3.output.trans (hk2.output.trans hb1.output)), by have := hW.size; omega, fun k hk => (go3 k (by omega)).trans ((go1 k (by omega) (by omega)).trans ((hb1.block k (by omega)).trans ((below_alloc w _).block k hk)))⟩
theorem RdAt.base {w : World} {B B' p : Nat} {all : Bs} {n : Nat} {v : Value} (h : RdAt w B p all n v) (hB : B' ≤ B) : RdAt w B' p all n v := ⟨h.hp, nown_base h.own hB, h.ne, Nat.le_trans hB h.le, h.hn, h.hl⟩
theorem own_one {w : World} {B : Nat} {A : Option Addr} {c : Nat} {b0 : UInt8} (h : OwnB w B (.slice A 1 c) [b0]) : ∃ g, A = some ⟨g, 0, none⟩ ∧ w.cell? ⟨g, 0, none⟩ = some (.int .u8 (b0.toNat : Int)) := by
  rcases h.2 with ⟨e, h0⟩ | ⟨g, cap, cur, e, _⟩
  · cases e
  · injection e with e1 e2 e3
    subst e1; subst e3
    refine ⟨g, rfl, ?_⟩
    have := World.ownsRow.cellAt h 0 (by simp)
    rw [this]
    rfl
def decR (p : Bs) : Option Key := match p with
  | [] => none
  | b0 :: _ => if isOp (b0.toNat : Int) = true ∧ maxTo ((decTo p (rowB (b0.toNat : Int)).2).errs ++ [endE p (decTo p (rowB (b0.toNat : Int)).2).n]) ((decTo p (rowB (b0.toNat : Int)).2).errs.length + 1) = 0 ∧ validB (b0.toNat : Int) (decTo p (rowB (b0.toNat : Int)).2).q (decTo p (rowB (b0.toNat : Int)).2).k (decTo p (rowB (b0.toNat : Int)).2).t (decTo p (rowB (b0.toNat : Int)).2).j (decTo p (rowB (b0.toNat : Int)).2).d.length = true
    then some ((b0.toNat : Int), (decTo p (rowB (b0.toNat : Int)).2).q, (decTo p (rowB (b0.toNat : Int)).2).k, (decTo p (rowB (b0.toNat : Int)).2).t, (decTo p (rowB (b0.toNat : Int)).2).j, (decTo p (rowB (b0.toNat : Int)).2).d) else none
def DecPost (p : Bs) (w : World) (e : Ending) (w' : World) : Prop :=
  (match decR p with
    | some κ => ∃ A m c, e = .returned (.tuple #[.agg #[.int .i64 κ.1, .string κ.2.2.1, .string κ.2.2.2.1, .string κ.2.2.2.2.1, .int .i64 κ.2.1, .slice A m c], .int .i64 0]) ∧ BAt w' (.slice A m c) κ.2.2.2.2.2 ∧ ∀ a, A = some a → w.heap.size ≤ a.block
    | none => e = .returned (.tuple #[.agg #[.int .i64 0, .string ⟨#[]⟩, .string ⟨#[]⟩, .string ⟨#[]⟩, .int .i64 0, .slice none 0 0], .int .i64 12])) ∧ Below w.heap.size w w'
theorem conv_bytes2 (w : World) (s : ByteArray) (hs : s.size ≤ 10000000) : ∃ n c w', (convert 9 31 (.string s)).run Tryz.prog w = .ok (.slice (some ⟨w.heap.size, 0, none⟩) n c) w' ∧ BAt w' (.slice (some ⟨w.heap.size, 0, none⟩) n c) (bsOf s) ∧ Below w.heap.size w w' ∧ w.heap.size < w'.heap.size := by
  have hr := run_bytes_of_string (P := Tryz.prog) w 9 31 5 s (by kernel_rfl) (by kernel_rfl) (by kernel_rfl)
  have hge : s.size ≤ grownCap w s.size 0 5 := grownCap_ge w _ _ _
  have hm := grownCap_le_maxLen w s.size 0 5 (by unfold maxLen; omega)
  have hlen : (bsOf s).length = s.size := bsOf_len s
  refine ⟨_, _, _, hr, ⟨_, _, by rw [hlen], by rw [hlen]; exact hge, by unfold maxLen at hm; omega, fun h0 => ⟨w.heap.size, 0, rfl, fun i hi j u hu => ?_⟩⟩, nbl_step (Below.refl _ w).drew (below_alloc _ _), by show w.heap.size < (w.heap.push _).size; rw [Array.size_push]; omega⟩
  have hj : j = 0 := by
    have := (List.getElem?_eq_some_iff.1 hu).1
    simp [byteCells] at this
    exact this
  subst hj
  have hu2 : u = byteV (bsOf s)[i] := by simpa [byteCells] using hu.symm
  subst hu2
  have hh : (w.drew.alloc (.cells (bytesRow s (grownCap w s.size 0 5)) 5 ((bytesRow s (grownCap w s.size 0 5)).size, (bytesRow s (grownCap w s.size 0 5)).size + 1))).heap[w.heap.size]? = some (.cells (bytesRow s (grownCap w s.size 0 5)) 5 ((bytesRow s (grownCap w s.size 0 5)).size, (bytesRow s (grownCap w s.size 0 5)).size + 1)) := by
    show (w.heap.push _)[w.heap.size]? = _
    simp
  unfold World.cell?
  dsimp only
  rw [hh]
  have hi' : i < s.data.size := by rw [hlen] at hi; exact hi
  show (bytesRow s _)[0 + i * 1 + 0]? = _
  rw [show 0 + i * 1 + 0 = i by omega]
  unfold bytesRow
  rw [Array.getElem?_append_left (by simpa using hi')]
  simp [byteV, bsOf]
  exact ⟨_, Array.getElem?_eq_getElem hi', rfl⟩
theorem dec_fin {w W w8 V : World} {p b4 c7 b10 it : Nat} {all : Bs} {rv : Value} {o : Int} {st : DS} {A : Option Addr} {m c : Nat} {ev : Value} {s : ByteArray} {pos : Nat} {x : Obj} (h : DecI w W p b4 c7 b10 it all rv o st A m c ev s pos) (hb : Below W.heap.size W w8) (hk : Kjr b10 none ev.ownBlock (w8.alloc x) V) :
    V.heap[c7]? = some (callObj o st.q st.k st.t st.j A m c) ∧ V.heap[w.heap.size]? = some (callObj 0 0 ⟨#[]⟩ ⟨#[]⟩ ⟨#[]⟩ none 0 0) ∧ BAt V (.slice A m c) st.d ∧ Below w.heap.size w V := by
  obtain ⟨l0, l1, l2, l3, l4, l5⟩ := h.lts
  have hb9 : Below W.heap.size W (w8.alloc x) := nbl_al hb
  have hev : ∀ k, k ≤ it → ev.ownBlock ≠ some k := fun k hk e => by have := h.ob k e; omega
  have hs : W.heap.size ≤ (w8.alloc x).heap.size := hb9.size
  have hV : ∀ k, k < W.heap.size → k ≠ b10 → ev.ownBlock ≠ some k → V.heap[k]? = W.heap[k]? := fun k h1 h2 h3 => (hk.block k (by omega) h2 (by simp) h3).trans (hb9.block k h1)
  refine ⟨(hV c7 (by omega) (by omega) (hev _ (by omega))).trans h.box, (hV _ (by omega) (by omega) (hev _ (by omega))).trans h.res, bat_keep h.bd fun a ha => ?_, hk.below (nbl_step h.bel hb9) (by omega) (fun g hg => by cases hg) (fun g hg => by have := h.ob g hg; omega) (by omega)⟩
  have ha' := h.ad a ha
  exact hV _ ha'.2.1 (by omega) ha'.2.2
theorem strR_most (l : Bs) (most : Int) : (strR l most).1.size ≤ most.toNat := by
  have h0 : (strOf []).size = 0 := rfl
  have h1 : ∀ x : Bs, (strOf x).size = x.length := fun x => rfl
  unfold strR
  split
  · unfold strR1
    split
    · rw [h0]; omega
    · split
      · rw [h0]; omega
      · split
        · rw [h0]; omega
        · rename_i h2 h3 h4
          dsimp only
          rw [h1, List.length_take]
          omega
  · rw [h0]; omega
structure DS.Small (st : DS) : Prop where
  k : st.k.size ≤ 100
  t : st.t.size ≤ 100
  j : st.j.size ≤ 100
  d : st.d.length ≤ 65536
theorem decStep_small (all : Bs) (st : DS) (ch : UInt8) (h : st.Small) : (decStep all st ch).Small := by
  have h1 := strR_most (all.drop st.n) 100
  have h2 := strR_most (all.drop st.n) 65536
  have e1 : (100 : Int).toNat = 100 := rfl
  have e2 : (65536 : Int).toNat = 65536 := rfl
  rw [e1] at h1
  rw [e2] at h2
  unfold decStep
  split
  · exact ⟨h1, h.t, h.j, h.d⟩
  · split
    · exact ⟨h.k, h1, h.j, h.d⟩
    · split
      · exact ⟨h.k, h.t, h.j, h.d⟩
      · split
        · exact ⟨h.k, h.t, h1, h.d⟩
        · exact ⟨h.k, h.t, h.j, by show (bsOf _).length ≤ _; rw [bsOf_len]; exact h2⟩
theorem decTo_small (all : Bs) (ps : List UInt8) : (decTo all ps).Small := by
  have key : ∀ (ps : List UInt8) (st : DS), st.Small → (ps.foldl (decStep all) st).Small := by
    intro ps
    induction ps with
    | nil => intro st h; exact h
    | cons a b ih => intro st h; exact ih _ (decStep_small all st a h)
  exact key ps DS0 ⟨by decide, by decide, by decide, by decide⟩
set_option maxRecDepth 100000 in
set_option maxHeartbeats 8000000 in
theorem decode_op (w : World) (hE : Env1 w) (A : Option Addr) (m c : Nat) (b0 : UInt8) (rest : Bs) (h : BAt w (.slice A m c) (b0 :: rest)) (hl : (b0 :: rest).length ≤ 1000000) (h1 : 1 ≤ b0.toNat) (h2 : b0.toNat < 12) (hnil : Value.slice A m c = .slice none 0 0 ∨ ∃ b off n c', Value.slice A m c = .slice (some ⟨b, off, none⟩) n c') :
    Calls Tryz.prog 63 #[.slice A m c] w fun e w' => DecPost (b0 :: rest) w e w' := by
  have HNW := Lib.hid (fun W (hb : Below w.heap.size w W) => new_any W _ _ (h.below hb) hl hnil)
  have HE := Lib.hid hE
  have hop : isOp (b0.toNat : Int) = true := by simp [isOp]; omega
  have HF := Lib.hid (fun W (hb : Below w.heap.size w W) => find_any (b0.toNat : Int) W (hE.below hb))
  rw [hop] at HF
  clear h hnil hE hop
  go_enter Tryz.func63, Tryz.ntmps63
  have o1 : (1 : Int) ≤ (b0.toNat : Int) := by omega
  have o2 : (b0.toNat : Int) < 12 := by omega
  go_wp2_with (first | (go_at_call 61; refine (HNW.out _ (below_alloc _ _)).mono ?_; rintro e w1 ⟨⟨p, rv, rfl, hr⟩, hb⟩; have HR1 := Lib.hid hr; have HB1 := Lib.hid hb; clear hr hb) | (go_at_call 91; refine (take1_good _ _ p b0 rest rv (HR1.out.below (below_alloc _ _))).mono ?_; rintro e w2 ⟨⟨A2, c2, rfl, ho⟩, hr, hk⟩; obtain ⟨g2, hA2, hc2⟩ := own_one ho; subst hA2; have HR2 := Lib.hid hr; have HK2 := Lib.hid hk; clear ho hr hk) | (go_at_call 55; refine (HF.out _ (nbl_al (Kbut.below HK2.out (nbl_al (nbl_step (below_alloc w _) HB1.out)) (by have := HR1.out.le; rw [wsize_alloc] at this; omega) (by rw [wsize_alloc]; have := (nbl_step (below_alloc w _) HB1.out).size; omega)))).mono ?_; rintro e w3 ⟨rfl, hb⟩; have HB3 := Lib.hid hb; clear hb))
  have hI : DecI w _ p w1.heap.size w2.heap.size (w3.heap.size + 1) (w3.heap.size + 1 + 1) (b0 :: rest) rv (b0.toNat : Int) DS0 none 0 0 (.slice none 0 0) ⟨⟨(rowB (b0.toNat : Int)).2⟩⟩ 0 := dec_start (by have := HR1.out; rwa [wsize_alloc] at this) (by have := HB1.out; rwa [wsize_alloc] at this) (by have := HR2.out; rwa [wsize_alloc] at this) HK2.out (by have := HB3.out; rwa [wsize_alloc] at this) (rowObj (.string ⟨⟨(rowB (b0.toNat : Int)).1⟩⟩) (.string ⟨⟨(rowB (b0.toNat : Int)).2⟩⟩)) ⟨⟨(rowB (b0.toNat : Int)).2⟩⟩
  have HI0 := Lib.hid hI
  clear hI
  unfold rowObj at HI0
  generalize (((w3.alloc (.cells #[.string ⟨⟨(rowB (b0.toNat : Int)).1⟩⟩, .string ⟨⟨(rowB (b0.toNat : Int)).2⟩⟩] 119)).alloc (.cells #[.slice none 0 0] 191)).iter ⟨⟨(rowB (b0.toNat : Int)).2⟩⟩ 0) = w4 at *
  obtain ⟨s, hs⟩ : ∃ s : ByteArray, (⟨⟨(rowB (b0.toNat : Int)).2⟩⟩ : ByteArray) = s := ⟨_, rfl⟩
  have hsl : s.data.toList = (rowB (b0.toNat : Int)).2 := by rw [← hs]
  have hsz : s.size = (rowB (b0.toNat : Int)).2.length := by rw [← hsl]; exact (Array.length_toList).symm
  have HSL := Lib.hid hsl
  have HSZ := Lib.hid hsz
  rw [hs] at HI0 ⊢
  clear HNW HF HR1 HB1 HR2 HK2 HB3 hs hsl hsz hc2
  generalize w1.heap.size = b4 at *
  generalize w2.heap.size = c7 at *
  generalize w3.heap.size + 1 = b10 at *
  obtain ⟨it, hit⟩ : ∃ it, b10 + 1 = it := ⟨_, rfl⟩
  rw [hit] at HI0 ⊢
  clear hit
  generalize hall : b0 :: rest = all at *
  have HALL := Lib.hid hall
  clear hall
  go_loopg [13] s.size (fun gf u13 wx => ∃ (pos : Nat) (A : Option Addr) (m c : Nat) (ev : Value), pos + gf = s.size ∧ DecI w wx p b4 c7 b10 it all rv (b0.toNat : Int) (decTo all ((rowB (b0.toNat : Int)).2.take pos)) A m c ev s pos)
  case atStart => exact ⟨0, none, 0, 0, .slice none 0 0, by omega, by simpa [decTo] using HI0.out⟩
  case round =>
    clear HI0
    obtain ⟨pos, A, m, c, ev, hpos, hI⟩ := hrel
    have HI := Lib.hid hI
    clear hI
    by_cases hlt : pos < s.size
    · obtain ⟨g', rfl⟩ : ∃ g', gk = g' + 1 := ⟨gk - 1, by omega⟩
      have hpl : pos < (rowB (b0.toNat : Int)).2.length := by have := HSZ.out; omega
      obtain ⟨ch, hch⟩ : ∃ ch, (rowB (b0.toNat : Int)).2[pos] = ch := ⟨_, rfl⟩
      have hasc : ch.toNat < 128 := by rw [← hch]; exact row_ascii _ h1 h2 _ (List.getElem_mem hpl)
      obtain ⟨W2, hnx, n1, n2, n3, n4, n5, n6⟩ := next_at (P := Tryz.prog) wr it s pos HI.out.it_ hlt ch (by rw [HSL.out, List.getElem?_eq_getElem hpl, hch]) hasc
      have HEN := Lib.hid (HI.out.next n1 n2 n3 n4 n5 n6)
      have HTK : Hid (decTo all ((rowB (b0.toNat : Int)).2.take (pos + 1)) = decStep all (decTo all ((rowB (b0.toNat : Int)).2.take pos)) ch) := Lib.hid (by rw [take_snoc _ pos hpl, decTo_snoc, hch])
      have HER : Hid ((decTo all ((rowB (b0.toNat : Int)).2.take pos)).errs.length ≤ 1000) := Lib.hid (by rw [decTo_errs, List.length_take]; have := row_len _ h1 h2; omega)
      have y4 := wcell_at (i := 0) HEN.out.tx.h4
      have y10 := wcell_at (i := 0) HEN.out.tx.h10
      obtain ⟨Ae, me, ce, hev⟩ := owne_form HEN.out.tx.own
      subst hev
      clear n1 n2 n3 n4 n5 n6 hch hpl HI
      generalize decTo all ((rowB (b0.toNat : Int)).2.take pos) = st at *
      by_cases c1 : ch.toNat = 107
      · have HST : Hid (decStep all st ch = ⟨st.n + (strR (all.drop st.n) 100).2.2, st.errs ++ [(strR (all.drop st.n) 100).2.1], st.q, (strR (all.drop st.n) 100).1, st.t, st.j, st.d⟩) := Lib.hid (by unfold decStep; rw [if_pos c1])
        have e1 : ((ch.toNat : Int) == 107) = true := by simpa using (show (ch.toNat : Int) = 107 by omega)
        have e1' : (ch.toNat : Int) = 107 := by omega
        go_wp2_with (first | (go_at_call 92; refine (text_any W2 _ p b4 b10 _ _ rv _ _ HEN.out.tx 100 (by omega) HER.out).mono ?_; rintro e w5 ⟨rfl, ⟨ev5, ht5, hn5⟩, hk5⟩; have HD5 := Lib.hid (dec_text (st' := ⟨st.n + (strR (all.drop st.n) 100).2.2, st.errs ++ [(strR (all.drop st.n) 100).2.1], st.q, (strR (all.drop st.n) 100).1, st.t, st.j, st.d⟩) HEN.out ht5 hn5 hk5 (Below.refl _ _) 1 (.string (strR (all.drop st.n) 100).1) rfl (Or.inl ⟨rfl, rfl, rfl, rfl⟩)); have z := wcell_at (i := 1) HD5.out.1; have zf := wfroz_at (i := 1) HD5.out.1; clear ht5 hn5 hk5))
        go_roundg g'
        case measure => omega
        case rel => exact ⟨pos + 1, _, _, _, ev5, by omega, by rw [HTK.out, HST.out]; exact HD5.out.2⟩
      by_cases c2 : ch.toNat = 111
      · have HST : Hid (decStep all st ch = ⟨st.n + (strR (all.drop st.n) 100).2.2, st.errs ++ [(strR (all.drop st.n) 100).2.1], st.q, st.k, (strR (all.drop st.n) 100).1, st.j, st.d⟩) := Lib.hid (by unfold decStep; rw [if_neg c1]; rw [if_pos c2])
        have e1 : ((ch.toNat : Int) == 107) = false := by simpa using (show ¬ (ch.toNat : Int) = 107 by omega)
        have e1' : ¬ (ch.toNat : Int) = 107 := by omega
        have e2 : ((ch.toNat : Int) == 111) = true := by simpa using (show (ch.toNat : Int) = 111 by omega)
        have e2' : (ch.toNat : Int) = 111 := by omega
        go_wp2_with (first | (go_at_call 92; refine (text_any W2 _ p b4 b10 _ _ rv _ _ HEN.out.tx 100 (by omega) HER.out).mono ?_; rintro e w5 ⟨rfl, ⟨ev5, ht5, hn5⟩, hk5⟩; have HD5 := Lib.hid (dec_text (st' := ⟨st.n + (strR (all.drop st.n) 100).2.2, st.errs ++ [(strR (all.drop st.n) 100).2.1], st.q, st.k, (strR (all.drop st.n) 100).1, st.j, st.d⟩) HEN.out ht5 hn5 hk5 (Below.refl _ _) 2 (.string (strR (all.drop st.n) 100).1) rfl (Or.inl ⟨rfl, rfl, rfl, rfl⟩)); have z := wcell_at (i := 2) HD5.out.1; have zf := wfroz_at (i := 2) HD5.out.1; clear ht5 hn5 hk5))
        go_roundg g'
        case measure => omega
        case rel => exact ⟨pos + 1, _, _, _, ev5, by omega, by rw [HTK.out, HST.out]; exact HD5.out.2⟩
      by_cases c3 : ch.toNat = 113
      · have HST : Hid (decStep all st ch = ⟨st.n + (numM (all.drop st.n) maxU).2.2, st.errs ++ [(numM (all.drop st.n) maxU).2.1], wrap64 (numM (all.drop st.n) maxU).1, st.k, st.t, st.j, st.d⟩) := Lib.hid (by unfold decStep; rw [if_neg c1]; rw [if_neg c2]; rw [if_pos c3])
        have e1 : ((ch.toNat : Int) == 107) = false := by simpa using (show ¬ (ch.toNat : Int) = 107 by omega)
        have e1' : ¬ (ch.toNat : Int) = 107 := by omega
        have e2 : ((ch.toNat : Int) == 111) = false := by simpa using (show ¬ (ch.toNat : Int) = 111 by omega)
        have e2' : ¬ (ch.toNat : Int) = 111 := by omega
        have e3 : ((ch.toNat : Int) == 113) = true := by simpa using (show (ch.toNat : Int) = 113 by omega)
        have e3' : (ch.toNat : Int) = 113 := by omega
        have HNM := Lib.hid (rnum_any W2 _ p all st.n rv maxU HEN.out.tx.rd)
        obtain ⟨⟨nx, ne, nu⟩, hnum⟩ : ∃ x, numM (all.drop st.n) maxU = x := ⟨_, rfl⟩
        rw [hnum] at HNM HST
        unfold maxU at HNM
        dsimp only at HNM HST
        clear hnum
        go_wp2_with (first | (go_at_call 89; refine HNM.out.mono ?_; rintro e w5 ⟨rfl, hr5, hk5⟩; have ht5 := HEN.out.tx.read hr5 hk5; have y105 := wcell_at (i := 0) ht5.h10; obtain ⟨g6, c6, w6, hr6, ho6, hg6, hn6⟩ := eapp_at (ht5.below (below_alloc w5 (.cells #[.int .i64 ne] 24))).own ne w5.heap.size (heap_alloc_new _ _) (by have := HER.out; omega) (by rw [wsize_alloc]; have h3 := ht5.rd.le; have h4 := ht5.rd.lt; omega); have HR6 := Lib.hid hr6; have HD6 := Lib.hid (dec_num (q' := wrap64 nx) HEN.out hr5 hk5 ho6 hg6 hn6); have z := wcell_at (i := 4) HD6.out.1; have zf := wfroz_at (i := 4) HD6.out.1; have z10 := wcell_at (i := 0) HD6.out.2.1; have zf10 := wfroz_at (i := 0) HD6.out.2.1; clear hr5 hk5 ht5 hr6 ho6 hg6 hn6) | (at_builtin; refine wpList_append_eq HR6.out rfl (.tmp 71) (.tmp 73) rfl rfl rfl ?_))
        go_roundg g'
        case measure => omega
        case rel => exact ⟨pos + 1, _, _, _, _, by omega, by rw [HTK.out, HST.out]; exact HD6.out.2.2⟩
      by_cases c4 : ch.toNat = 105
      · have HST : Hid (decStep all st ch = ⟨st.n + (strR (all.drop st.n) 100).2.2, st.errs ++ [(strR (all.drop st.n) 100).2.1], st.q, st.k, st.t, (strR (all.drop st.n) 100).1, st.d⟩) := Lib.hid (by unfold decStep; rw [if_neg c1]; rw [if_neg c2]; rw [if_neg c3]; rw [if_pos c4])
        have e1 : ((ch.toNat : Int) == 107) = false := by simpa using (show ¬ (ch.toNat : Int) = 107 by omega)
        have e1' : ¬ (ch.toNat : Int) = 107 := by omega
        have e2 : ((ch.toNat : Int) == 111) = false := by simpa using (show ¬ (ch.toNat : Int) = 111 by omega)
        have e2' : ¬ (ch.toNat : Int) = 111 := by omega
        have e3 : ((ch.toNat : Int) == 113) = false := by simpa using (show ¬ (ch.toNat : Int) = 113 by omega)
        have e3' : ¬ (ch.toNat : Int) = 113 := by omega
        have e4 : ((ch.toNat : Int) == 105) = true := by simpa using (show (ch.toNat : Int) = 105 by omega)
        have e4' : (ch.toNat : Int) = 105 := by omega
        go_wp2_with (first | (go_at_call 92; refine (text_any W2 _ p b4 b10 _ _ rv _ _ HEN.out.tx 100 (by omega) HER.out).mono ?_; rintro e w5 ⟨rfl, ⟨ev5, ht5, hn5⟩, hk5⟩; have HD5 := Lib.hid (dec_text (st' := ⟨st.n + (strR (all.drop st.n) 100).2.2, st.errs ++ [(strR (all.drop st.n) 100).2.1], st.q, st.k, st.t, (strR (all.drop st.n) 100).1, st.d⟩) HEN.out ht5 hn5 hk5 (Below.refl _ _) 3 (.string (strR (all.drop st.n) 100).1) rfl (Or.inl ⟨rfl, rfl, rfl, rfl⟩)); have z := wcell_at (i := 3) HD5.out.1; have zf := wfroz_at (i := 3) HD5.out.1; clear ht5 hn5 hk5))
        go_roundg g'
        case measure => omega
        case rel => exact ⟨pos + 1, _, _, _, ev5, by omega, by rw [HTK.out, HST.out]; exact HD5.out.2⟩
      have HST : Hid (decStep all st ch = ⟨st.n + (strR (all.drop st.n) 65536).2.2, st.errs ++ [(strR (all.drop st.n) 65536).2.1], st.q, st.k, st.t, st.j, bsOf (strR (all.drop st.n) 65536).1⟩) := Lib.hid (by unfold decStep; rw [if_neg c1]; rw [if_neg c2]; rw [if_neg c3]; rw [if_neg c4])
      have e1 : ((ch.toNat : Int) == 107) = false := by simpa using (show ¬ (ch.toNat : Int) = 107 by omega)
      have e1' : ¬ (ch.toNat : Int) = 107 := by omega
      have e2 : ((ch.toNat : Int) == 111) = false := by simpa using (show ¬ (ch.toNat : Int) = 111 by omega)
      have e2' : ¬ (ch.toNat : Int) = 111 := by omega
      have e3 : ((ch.toNat : Int) == 113) = false := by simpa using (show ¬ (ch.toNat : Int) = 113 by omega)
      have e3' : ¬ (ch.toNat : Int) = 113 := by omega
      have e4 : ((ch.toNat : Int) == 105) = false := by simpa using (show ¬ (ch.toNat : Int) = 105 by omega)
      have e4' : ¬ (ch.toNat : Int) = 105 := by omega
      have hsz5 : (strR (all.drop st.n) 65536).1.size ≤ 1000000 := by
        have h3 := strR_size (all.drop st.n) 65536
        rw [List.length_drop] at h3
        omega
      have HSZ5 := Lib.hid hsz5
      clear hsz5
      go_wp2_with (first | (go_at_call 92; refine (text_any W2 _ p b4 b10 _ _ rv _ _ HEN.out.tx 65536 (by omega) HER.out).mono ?_; rintro e w5 ⟨rfl, ⟨ev5, ht5, hn5⟩, hk5⟩; obtain ⟨nd, cd, w6, hcv, hbd, hb6, hs6⟩ := conv_bytes2 w5 (strR (all.drop st.n) 65536).1 (by have := HSZ5.out; omega); have HD5 := Lib.hid (dec_text (st' := ⟨st.n + (strR (all.drop st.n) 65536).2.2, st.errs ++ [(strR (all.drop st.n) 65536).2.1], st.q, st.k, st.t, st.j, bsOf (strR (all.drop st.n) 65536).1⟩) HEN.out ht5 hn5 hk5 hb6 5 (.slice (some ⟨w5.heap.size, 0, none⟩) nd cd) rfl (Or.inr ⟨hbd, fun a ha => (by obtain rfl : (⟨w5.heap.size, 0, none⟩ : Addr) = a := (by simpa using ha); exact ⟨Nat.le_refl _, hs6⟩)⟩)); have z := wcell_at (i := 5) HD5.out.1; have zf := wfroz_at (i := 5) HD5.out.1; clear ht5 hn5 hk5 hbd hb6 hs6))
      go_roundg g'
      case measure => omega
      case rel => exact ⟨pos + 1, _, _, _, ev5, by omega, by rw [HTK.out, HST.out]; exact HD5.out.2⟩
    · have e : pos = s.size := by omega
      subst e
      have hnx := next_done (P := Tryz.prog) wr it s s.size HI.out.it_ (by omega)
      have hdec : (rowB (b0.toNat : Int)).2.take s.size = (rowB (b0.toNat : Int)).2 := by rw [HSZ.out, List.take_length]
      have HD := Lib.hid (by have := HI.out; rw [hdec] at this; exact this)
      clear hdec HI
      have HER : Hid ((decTo all (rowB (b0.toNat : Int)).2).errs.length ≤ 3) := Lib.hid (by rw [decTo_errs]; exact row_len _ h1 h2)
      have HAL : Hid (decR all = if isOp (b0.toNat : Int) = true ∧ maxTo ((decTo all (rowB (b0.toNat : Int)).2).errs ++ [endE all (decTo all (rowB (b0.toNat : Int)).2).n]) ((decTo all (rowB (b0.toNat : Int)).2).errs.length + 1) = 0 ∧ validB (b0.toNat : Int) (decTo all (rowB (b0.toNat : Int)).2).q (decTo all (rowB (b0.toNat : Int)).2).k (decTo all (rowB (b0.toNat : Int)).2).t (decTo all (rowB (b0.toNat : Int)).2).j (decTo all (rowB (b0.toNat : Int)).2).d.length = true
        then some ((b0.toNat : Int), (decTo all (rowB (b0.toNat : Int)).2).q, (decTo all (rowB (b0.toNat : Int)).2).k, (decTo all (rowB (b0.toNat : Int)).2).t, (decTo all (rowB (b0.toNat : Int)).2).j, (decTo all (rowB (b0.toNat : Int)).2).d) else none) := Lib.hid (by rw [← HALL.out]; rfl)
      have HSM := Lib.hid (decTo_small all (rowB (b0.toNat : Int)).2)
      generalize decTo all (rowB (b0.toNat : Int)).2 = st at *
      have hop : isOp (b0.toNat : Int) = true := by simp [isOp]; omega
      rw [hop] at HAL
      have y4 := wcell_at (i := 0) HD.out.tx.h4
      have y10 := wcell_at (i := 0) HD.out.tx.h10
      obtain ⟨Ae, me, ce, hev⟩ := owne_form HD.out.tx.own
      subst hev
      have HEND : Hid (∀ W, Below wr.heap.size wr W → Calls Tryz.prog 93 #[.pointer (some ⟨p, 0, none⟩)] W fun e w' => e = .returned (.int .i64 (endE all st.n)) ∧ Below W.heap.size W w') := Lib.hid fun W hb => end_any W _ p all st.n rv (HD.out.tx.rd.below hb)
      obtain ⟨ee, hee⟩ : ∃ ee, endE all st.n = ee := ⟨_, rfl⟩
      rw [hee] at HEND HAL
      clear hee hop
      go_wp2_with fail
      go_region_law
        (first | (go_simp; refine (HEND.out _ (Below.refl _ wr).drew).mono ?_; rintro e w8 ⟨rfl, hb8⟩; have HB8 : Hid (Below wr.heap.size wr w8) := Lib.hid (nbl_step (Below.refl _ wr).drew hb8); have k10 := cell_below HB8.out y10; have k10a := cell_below (below_alloc w8 (.cells #[.int .i64 ee] 24)) k10; obtain ⟨g6, c6, w6, hr6, ho6, hg6, hn6⟩ := eapp_at ((HD.out.tx.below HB8.out).below (below_alloc w8 (.cells #[.int .i64 ee] 24))).own ee w8.heap.size (heap_alloc_new _ _) (by have := HER.out; omega) (by rw [wsize_alloc]; have h3 := HB8.out.size; have h4 := HD.out.bel.size; omega); have HR6 := Lib.hid hr6; have HA6 := Lib.hid (((HD.out.tx.below HB8.out).below (below_alloc w8 (.cells #[.int .i64 ee] 24))).add ho6 hg6 hn6); have z10 := HA6.out.1; have zf10 := HA6.out.2.1; clear hb8 hr6 ho6 hg6 hn6; dsimp only) | (refine step_append_eq HR6.out (by rfl) _ _ (by rfl) (by rfl) (by rfl) ?_))
      all_goals
        have HF := Lib.hid (dec_fin HD.out HB8.out HA6.out.2.2.2)
        have HT := Lib.hid HA6.out.2.2.1
        have e10 := wcell_at (i := 0) HA6.out.2.2.1.h10
        obtain ⟨mx, hmx⟩ : ∃ mx, maxTo (st.errs ++ [ee]) (st.errs.length + 1) = mx := ⟨_, rfl⟩
        have HMX := Lib.hid (max_any _ _ _ _ _ _ HA6.out.2.2.1.own (by simp) (by rw [List.length_append]; have := HER.out; simp; omega))
        rw [List.length_append, List.length_singleton, hmx] at HMX
        rw [hmx] at HAL
        have HMM := Lib.hid hmx
        have HAD : Hid (∀ a, A = some a → w.heap.size < a.block) := Lib.hid fun a ha => by
          obtain ⟨l0, l1, l2, l3, l4, l5⟩ := HD.out.lts
          have := (HD.out.ad a ha).1
          omega
        have x0 := wcell_at (i := 0) HF.out.1
        have x1 := wcell_at (i := 1) HF.out.1
        have x2 := wcell_at (i := 2) HF.out.1
        have x3 := wcell_at (i := 3) HF.out.1
        have x4 := wcell_at (i := 4) HF.out.1
        have x5 := wcell_at (i := 5) HF.out.1
        clear hmx y4 y10 k10 k10a z10 zf10 HD HR6 HA6 HEND
        generalize w6.setCell ⟨b10, 0, none⟩ _ = V at *
        by_cases hm0 : mx = 0
        · subst hm0
          cases hv : validB (b0.toNat : Int) st.q st.k st.t st.j st.d.length with
          | true =>
            have HNE : Hid (decR all = some ((b0.toNat : Int), st.q, st.k, st.t, st.j, st.d)) := Lib.hid (by rw [HAL.out, if_pos ⟨by simp, by simp, hv⟩])
            have HVA : Hid (Calls Tryz.prog 34 #[.agg #[.int .i64 (b0.toNat : Int), .string st.k, .string st.t, .string st.j, .int .i64 st.q, .slice A m c]] V fun e w' => e = .returned (.bool true) ∧ Below V.heap.size V w') := Lib.hid (by
              have h3 := valid_any (b0.toNat : Int) st.q st.k st.t st.j A m c (by have := HSM.out.k; omega) (by have := HSM.out.t; omega) (by have := HSM.out.j; omega) V (HE.out.below HF.out.2.2.2)
              rw [bat_len HF.out.2.2.1, hv] at h3
              rw [bat_len HF.out.2.2.1]
              exact h3)
            clear hv
            go_wp2_with (first | (go_at_call 94; refine HMX.out.mono ?_; rintro e w9 ⟨rfl, hw⟩; obtain rfl := hw.symm; clear hw) | (go_at_call 34; refine HVA.out.mono ?_; rintro e w10 ⟨rfl, hb⟩; have HB10 := Lib.hid hb; have HR10 : Hid (w10.heap[w.heap.size]? = some (callObj 0 0 ⟨#[]⟩ ⟨#[]⟩ ⟨#[]⟩ none 0 0)) := Lib.hid ((hb.block _ (Array.getElem?_eq_some_iff.1 HF.out.2.1).1).trans HF.out.2.1); obtain ⟨W2, hst, hld, hk2⟩ := res_store (o' := (b0.toNat : Int)) (q' := st.q) (k' := st.k) (t' := st.t) (j' := st.j) (A' := A) (m' := m) (c' := c) HR10.out; have HST := Lib.hid hst; have HLD := Lib.hid hld; have HK2 := Lib.hid hk2; have u0 := cell_below hb x0; have u1 := cell_below hb x1; have u2 := cell_below hb x2; have u3 := cell_below hb x3; have u4 := cell_below hb x4; have u5 := cell_below hb x5; clear hb hst hld hk2) | (refine wpList_store_eq (by rfl) (.tmp 2) (.tmp 95) 40 (by rfl) _ _ (by rfl) (by rfl) HST.out ?_))
            refine bodyPost_ret (v := .tuple #[.agg #[.int .i64 (b0.toNat : Int), .string st.k, .string st.t, .string st.j, .int .i64 st.q, .slice A m c], .int .i64 0]) ?_ rfl ?_
            · rw [results_cell_tmp rfl]
              show Result.andThen ((loadVar 40 ⟨w.heap.size, 0, none⟩).run Tryz.prog W2) _ = _
              rw [HLD.out]
              rfl
            · unfold DecPost
              rw [HALL.out, HNE.out]
              refine ⟨⟨A, m, c, rfl, bat_keep0 (HF.out.2.2.1.below HB10.out) fun a ha h0 => ?_, fun a ha => Nat.le_of_lt (HAD.out a ha)⟩, Kbut.below HK2.out (nbl_step HF.out.2.2.2 HB10.out) (Nat.le_refl _) (Nat.le_trans HF.out.2.2.2.size HB10.out.size)⟩
              subst ha
              exact HK2.out.block _ (bat_lt (HF.out.2.2.1.below HB10.out) h0) (Nat.ne_of_gt (HAD.out a rfl))
          | false =>
            have HNE : Hid (decR all = none) := Lib.hid (by rw [HAL.out, if_neg]; rintro ⟨_, _, h3⟩; rw [hv] at h3; cases h3)
            have HVA : Hid (Calls Tryz.prog 34 #[.agg #[.int .i64 (b0.toNat : Int), .string st.k, .string st.t, .string st.j, .int .i64 st.q, .slice A m c]] V fun e w' => e = .returned (.bool false) ∧ Below V.heap.size V w') := Lib.hid (by
              have h3 := valid_any (b0.toNat : Int) st.q st.k st.t st.j A m c (by have := HSM.out.k; omega) (by have := HSM.out.t; omega) (by have := HSM.out.j; omega) V (HE.out.below HF.out.2.2.2)
              rw [bat_len HF.out.2.2.1, hv] at h3
              rw [bat_len HF.out.2.2.1]
              exact h3)
            clear hv
            go_wp2_with (first | (go_at_call 94; refine HMX.out.mono ?_; rintro e w9 ⟨rfl, hw⟩; obtain rfl := hw.symm; clear hw) | (go_at_call 34; refine HVA.out.mono ?_; rintro e w10 ⟨rfl, hb⟩; have HB10 := Lib.hid hb; have HR10 : Hid (w10.heap[w.heap.size]? = some (callObj 0 0 ⟨#[]⟩ ⟨#[]⟩ ⟨#[]⟩ none 0 0)) := Lib.hid ((hb.block _ (Array.getElem?_eq_some_iff.1 HF.out.2.1).1).trans HF.out.2.1); obtain ⟨W2, hst, hld, hk2⟩ := res_store (o' := 0) (q' := 0) (k' := ⟨#[]⟩) (t' := ⟨#[]⟩) (j' := ⟨#[]⟩) (A' := none) (m' := 0) (c' := 0) HR10.out; have HST := Lib.hid hst; have HLD := Lib.hid hld; have HK2 := Lib.hid hk2; clear hb hst hld hk2) | (refine wpList_store_eq (by rfl) (.tmp 2) (.tmp 94) 40 (by rfl) _ _ (by rfl) (by rfl) HST.out ?_))
            refine bodyPost_ret (v := .tuple #[.agg #[.int .i64 0, .string ⟨#[]⟩, .string ⟨#[]⟩, .string ⟨#[]⟩, .int .i64 0, .slice none 0 0], .int .i64 12]) ?_ rfl ⟨by rw [HALL.out, HNE.out], Kbut.below HK2.out (nbl_step HF.out.2.2.2 HB10.out) (Nat.le_refl _) (Nat.le_trans HF.out.2.2.2.size HB10.out.size)⟩
            rw [results_cell_tmp rfl]
            show Result.andThen ((loadVar 40 ⟨w.heap.size, 0, none⟩).run Tryz.prog W2) _ = _
            rw [HLD.out]
            rfl
        · have HNE : Hid (decR all = none) := Lib.hid (by rw [HAL.out, if_neg]; rintro ⟨_, h3, _⟩; exact hm0 h3)
          obtain ⟨W2, hst, hld, hk2⟩ := res_store (o' := 0) (q' := 0) (k' := ⟨#[]⟩) (t' := ⟨#[]⟩) (j' := ⟨#[]⟩) (A' := none) (m' := 0) (c' := 0) HF.out.2.1
          have HST := Lib.hid hst
          have HLD := Lib.hid hld
          have HK2 := Lib.hid hk2
          have d1 : (mx == 0) = false := by simpa using hm0
          clear hst hld hk2
          go_wp2_with (first | (go_at_call 94; refine HMX.out.mono ?_; rintro e w9 ⟨rfl, hw⟩; obtain rfl := hw.symm; clear hw) | (refine wpList_store_eq (by rfl) (.tmp 2) (.tmp 94) 40 (by rfl) _ _ (by rfl) (by rfl) HST.out ?_))
          refine bodyPost_ret (v := .tuple #[.agg #[.int .i64 0, .string ⟨#[]⟩, .string ⟨#[]⟩, .string ⟨#[]⟩, .int .i64 0, .slice none 0 0], .int .i64 12]) ?_ rfl ⟨by rw [HALL.out, HNE.out], Kbut.below HK2.out HF.out.2.2.2 (Nat.le_refl _) HF.out.2.2.2.size⟩
          rw [results_cell_tmp rfl]
          show Result.andThen ((loadVar 40 ⟨w.heap.size, 0, none⟩).run Tryz.prog W2) _ = _
          rw [HLD.out]
          rfl
end Go.Proofs.YtgjbnebmcmoilaaGreatDoor
