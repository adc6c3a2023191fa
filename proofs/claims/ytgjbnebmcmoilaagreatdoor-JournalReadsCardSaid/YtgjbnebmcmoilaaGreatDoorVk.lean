/- client.Decode of any bytes; journal.next. journal.next. What journal.Read reads: pure; bytes.HasPrefix; the rest of the bytes. journal.Read. -/
import Derived.Test.YtgjbnebmcmoilaaGreatDoorYe
namespace Go.Proofs.YtgjbnebmcmoilaaGreatDoor
set_option linter.unusedVariables false
set_option linter.unusedSimpArgs false
open Go.RowKit Go.MapKept
set_option maxRecDepth 100000 in
set_option maxHeartbeats 2000000 in
theorem decode_nil (w : World) (A : Option Addr) (m c : Nat) (h : BAt w (.slice A m c) []) (hnil : Value.slice A m c = .slice none 0 0 ∨ ∃ b off n c', Value.slice A m c = .slice (some ⟨b, off, none⟩) n c') :
    Calls Tryz.prog 63 #[.slice A m c] w fun e w' => DecPost [] w e w' := by
  have HNW := Lib.hid (fun W (hb : Below w.heap.size w W) => new_any W _ _ (h.below hb) (by simp) hnil)
  clear h hnil
  go_enter Tryz.func63, Tryz.ntmps63
  have hres := heap_alloc_new w (callObj 0 0 ⟨#[]⟩ ⟨#[]⟩ ⟨#[]⟩ none 0 0)
  have HRES := Lib.hid hres
  clear hres
  go_wp2_with (first | (go_at_call 61; refine (HNW.out _ (below_alloc _ _)).mono ?_; rintro e w1 ⟨⟨p, rv, rfl, hr⟩, hb⟩; have HR1 := Lib.hid hr; have HB1 := Lib.hid hb; clear hr hb) | (go_at_call 91; refine (take1_none _ _ p rv (HR1.out.below (below_alloc _ _))).mono ?_; rintro e w2 ⟨rfl, hb⟩; have HB2 := Lib.hid hb; have hr2 : w2.heap[w.heap.size]? = some (callObj 0 0 ⟨#[]⟩ ⟨#[]⟩ ⟨#[]⟩ none 0 0) := (hb.block _ (by rw [wsize_alloc]; have := HB1.out.size; rw [wsize_alloc] at this; omega)).trans (((below_alloc w1 _).block _ (by have := HB1.out.size; rw [wsize_alloc] at this; omega)).trans ((HB1.out.block _ (by rw [wsize_alloc]; omega)).trans HRES.out)); obtain ⟨W2, hst, hld, hk2⟩ := res_store (o' := 0) (q' := 0) (k' := ⟨#[]⟩) (t' := ⟨#[]⟩) (j' := ⟨#[]⟩) (A' := none) (m' := 0) (c' := 0) hr2; have HST := Lib.hid hst; have HLD := Lib.hid hld; have HK2 := Lib.hid hk2; clear hb hst hld hk2 hr2) | (refine wpList_store_eq (by rfl) (.tmp 2) (.tmp 25) 40 (by rfl) _ _ (by rfl) (by rfl) HST.out ?_))
  have hbw : Below w.heap.size w w2 := nbl_step (nbl_al (nbl_step (below_alloc w _) HB1.out)) HB2.out
  refine bodyPost_ret (v := .tuple #[.agg #[.int .i64 0, .string ⟨#[]⟩, .string ⟨#[]⟩, .string ⟨#[]⟩, .int .i64 0, .slice none 0 0], .int .i64 12]) ?_ rfl ⟨rfl, Kbut.below HK2.out hbw (Nat.le_refl _) hbw.size⟩
  rw [results_cell_tmp rfl]
  show Result.andThen ((loadVar 40 ⟨w.heap.size, 0, none⟩).run Tryz.prog W2) _ = _
  rw [HLD.out]
  rfl
set_option maxRecDepth 100000 in
set_option maxHeartbeats 2000000 in
theorem decode_no (w : World) (hE : Env1 w) (A : Option Addr) (m c : Nat) (b0 : UInt8) (rest : Bs) (h : BAt w (.slice A m c) (b0 :: rest)) (hl : (b0 :: rest).length ≤ 1000000) (hop : isOp (b0.toNat : Int) = false) (hnil : Value.slice A m c = .slice none 0 0 ∨ ∃ b off n c', Value.slice A m c = .slice (some ⟨b, off, none⟩) n c') :
    Calls Tryz.prog 63 #[.slice A m c] w fun e w' => DecPost (b0 :: rest) w e w' := by
  have HNW := Lib.hid (fun W (hb : Below w.heap.size w W) => new_any W _ _ (h.below hb) hl hnil)
  have HF := Lib.hid (fun W (hb : Below w.heap.size w W) => find_any (b0.toNat : Int) W (hE.below hb))
  rw [hop] at HF
  have HNE : Hid (decR (b0 :: rest) = none) := Lib.hid (by unfold decR; dsimp only; rw [if_neg]; rintro ⟨h3, _⟩; rw [hop] at h3; cases h3)
  have o1 : (0 : Int) ≤ (b0.toNat : Int) := by omega
  have o2 : (b0.toNat : Int) < 256 := by have := b0.toNat_lt; omega
  obtain ⟨ra, hra⟩ : ∃ ra : ByteArray, (⟨⟨(rowB (b0.toNat : Int)).1⟩⟩ : ByteArray) = ra := ⟨_, rfl⟩
  obtain ⟨rb, hrb⟩ : ∃ rb : ByteArray, (⟨⟨(rowB (b0.toNat : Int)).2⟩⟩ : ByteArray) = rb := ⟨_, rfl⟩
  rw [hra, hrb] at HF
  clear h hnil hE hop hra hrb
  go_enter Tryz.func63, Tryz.ntmps63
  have hres := heap_alloc_new w (callObj 0 0 ⟨#[]⟩ ⟨#[]⟩ ⟨#[]⟩ none 0 0)
  have HRES := Lib.hid hres
  clear hres
  go_wp2_with (first | (go_at_call 61; refine (HNW.out _ (below_alloc _ _)).mono ?_; rintro e w1 ⟨⟨p, rv, rfl, hr⟩, hb⟩; have HR1 := Lib.hid hr; have HB1 := Lib.hid hb; clear hr hb) | (go_at_call 91; refine (take1_good _ _ p b0 rest rv (HR1.out.below (below_alloc _ _))).mono ?_; rintro e w2 ⟨⟨A2, c2, rfl, ho⟩, hr, hk⟩; obtain ⟨g2, hA2, hc2⟩ := own_one ho; subst hA2; have HR2 := Lib.hid hr; have HK2 := Lib.hid hk; clear ho hr hk) | (go_at_call 55; refine (HF.out _ (nbl_al (Kbut.below HK2.out (nbl_al (nbl_step (below_alloc w _) HB1.out)) (by have := HR1.out.le; rw [wsize_alloc] at this; omega) (by rw [wsize_alloc]; have := (nbl_step (below_alloc w _) HB1.out).size; omega)))).mono ?_; rintro e w3 ⟨rfl, hb⟩; have HB3 := Lib.hid hb; clear hb; have hr3 : (w3.alloc (.cells #[.string ra, .string rb] 119)).heap[w.heap.size]? = some (callObj 0 0 ⟨#[]⟩ ⟨#[]⟩ ⟨#[]⟩ none 0 0) := (by have z1 := HB1.out.size; rw [wsize_alloc] at z1; have z2 := HK2.out.size; rw [wsize_alloc] at z2; have z3 := HB3.out.size; rw [wsize_alloc] at z3; have z4 := HR1.out.le; rw [wsize_alloc] at z4; exact ((below_alloc w3 _).block _ (by omega)).trans ((HB3.out.block _ (by rw [wsize_alloc]; omega)).trans (((below_alloc w2 _).block _ (by omega)).trans ((HK2.out.block _ (by rw [wsize_alloc]; omega) (by omega)).trans (((below_alloc w1 _).block _ (by omega)).trans ((HB1.out.block _ (by rw [wsize_alloc]; omega)).trans HRES.out)))))); obtain ⟨W2, hst, hld, hk2⟩ := res_store (o' := 0) (q' := 0) (k' := ⟨#[]⟩) (t' := ⟨#[]⟩) (j' := ⟨#[]⟩) (A' := none) (m' := 0) (c' := 0) hr3; have HST := Lib.hid hst; have HLD := Lib.hid hld; have HK9 := Lib.hid hk2; clear hst hld hk2 hr3) | (refine wpList_store_eq (by rfl) (.tmp 2) (.tmp 39) 40 (by rfl) _ _ (by rfl) (by rfl) HST.out ?_))
  have hbw : Below w.heap.size w (w3.alloc (.cells #[.string ra, .string rb] 119)) := nbl_al (nbl_step (nbl_al (Kbut.below HK2.out (nbl_al (nbl_step (below_alloc w _) HB1.out)) (by have := HR1.out.le; rw [wsize_alloc] at this; omega) (by rw [wsize_alloc]; have := (nbl_step (below_alloc w _) HB1.out).size; omega))) HB3.out)
  refine bodyPost_ret (v := .tuple #[.agg #[.int .i64 0, .string ⟨#[]⟩, .string ⟨#[]⟩, .string ⟨#[]⟩, .int .i64 0, .slice none 0 0], .int .i64 12]) ?_ rfl ⟨by rw [HNE.out], Kbut.below HK9.out hbw (Nat.le_refl _) hbw.size⟩
  rw [results_cell_tmp rfl]
  show Result.andThen ((loadVar 40 ⟨w.heap.size, 0, none⟩).run Tryz.prog W2) _ = _
  rw [HLD.out]
  rfl
theorem decode_any (w : World) (hE : Env1 w) (A : Option Addr) (m c : Nat) (p : Bs) (h : BAt w (.slice A m c) p) (hl : p.length ≤ 1000000) (hnil : Value.slice A m c = .slice none 0 0 ∨ ∃ b off n c', Value.slice A m c = .slice (some ⟨b, off, none⟩) n c') :
    Calls Tryz.prog 63 #[.slice A m c] w fun e w' => DecPost p w e w' := by
  cases p with
  | nil => exact decode_nil w A m c h hnil
  | cons b0 rest =>
    cases hop : isOp (b0.toNat : Int) with
    | false => exact decode_no w hE A m c b0 rest h hl hop hnil
    | true =>
      have h1 : 1 ≤ b0.toNat ∧ b0.toNat < 12 := by
        simp [isOp] at hop
        omega
      exact decode_op w hE A m c b0 rest h hl h1.1 h1.2 hnil
end Go.Proofs.YtgjbnebmcmoilaaGreatDoor
namespace Go.Proofs.YtgjbnebmcmoilaaGreatDoor
set_option linter.unusedVariables false
set_option linter.unusedSimpArgs false
open Go.RowKit Go.MapKept
def nextR (b : Bs) : Option Key := if (strR b (b.length : Int)).2.1 = 0 then decR (bsOf (strR b (b.length : Int)).1) else none
def NextPost (b : Bs) (w : World) (e : Ending) (w' : World) : Prop :=
  (match nextR b with
    | some κ => ∃ A m c, e = .returned (.tuple #[.agg #[.int .i64 κ.1, .string κ.2.2.1, .string κ.2.2.2.1, .string κ.2.2.2.2.1, .int .i64 κ.2.1, .slice A m c], .bool true]) ∧ BAt w' (.slice A m c) κ.2.2.2.2.2 ∧ ∀ a, A = some a → w.heap.size ≤ a.block
    | none => e = .returned (.tuple #[.agg #[.int .i64 0, .string ⟨#[]⟩, .string ⟨#[]⟩, .string ⟨#[]⟩, .int .i64 0, .slice none 0 0], .bool false])) ∧ Below w.heap.size w w'
set_option maxRecDepth 100000 in
set_option maxHeartbeats 2000000 in
theorem next_any (w : World) (hE : Env1 w) (A : Option Addr) (m c : Nat) (b : Bs) (h : BAt w (.slice A m c) b) (hl : b.length ≤ 1000000) (hnil : Value.slice A m c = .slice none 0 0 ∨ ∃ b off n c', Value.slice A m c = .slice (some ⟨b, off, none⟩) n c') :
    Calls Tryz.prog 40 #[.slice A m c] w fun e w' => NextPost b w e w' := by
  have hm := bat_len h
  have HNW := Lib.hid (fun W (hb : Below w.heap.size w W) => new_any W _ _ (h.below hb) hl hnil)
  have HE := Lib.hid hE
  have HST : Hid (∀ W p rv, RdAt W (w.alloc (callObj 0 0 ⟨#[]⟩ ⟨#[]⟩ ⟨#[]⟩ none 0 0)).heap.size p b 0 rv → Calls Tryz.prog 62 #[.pointer (some ⟨p, 0, none⟩), .int .i64 (m : Int)] W fun e w' => e = .returned (.tuple #[.string (strR b (b.length : Int)).1, .int .i64 (strR b (b.length : Int)).2.1]) ∧ Kbut p W w') := Lib.hid fun W p rv hr => by
    have h1 := rstring_any W _ p b 0 rv (b.length : Int) hr (by omega)
    rw [← hm] at h1 ⊢
    refine h1.mono ?_
    rintro e w' ⟨he, _, hk⟩
    exact ⟨he, hk⟩
  have HSZ : Hid ((strR b (b.length : Int)).1.size ≤ 1000000) := Lib.hid (by have := strR_size b (b.length : Int); omega)
  have HNX : Hid (nextR b = if (strR b (b.length : Int)).2.1 = 0 then decR (bsOf (strR b (b.length : Int)).1) else none) := Lib.hid rfl
  obtain ⟨⟨sv, er, u⟩, hx⟩ : ∃ x, strR b (b.length : Int) = x := ⟨_, rfl⟩
  rw [hx] at HST HSZ HNX
  dsimp only at HST HSZ HNX
  have hres := heap_alloc_new w (callObj 0 0 ⟨#[]⟩ ⟨#[]⟩ ⟨#[]⟩ none 0 0)
  have HRES := Lib.hid hres
  have HM := Lib.hid hm
  clear h hnil hE hx hres hm
  by_cases h0 : er = 0
  · subst h0
    simp only [if_true] at HNX
    have HDC : Hid (∀ W A m c, Below w.heap.size w W → BAt W (.slice (some A) m c) (bsOf sv) → A.spot = none → Calls Tryz.prog 63 #[.slice (some A) m c] W fun e w' => DecPost (bsOf sv) W e w') := Lib.hid fun W A m c hb hba hA => decode_any W (HE.out.below hb) (some A) m c (bsOf sv) hba (by rw [bsOf_len]; exact HSZ.out) (Or.inr ⟨A.block, A.off, m, c, by obtain ⟨x, y, z⟩ := A; cases hA; rfl⟩)
    unfold DecPost at HDC
    unfold NextPost
    rw [HNX.out]
    cases hd : decR (bsOf sv) with
    | none =>
      rw [hd] at HDC
      dsimp only at HDC ⊢
      clear hd HNX
      go_enter Tryz.func40, Tryz.ntmps40
      go_wp2_with (first | (go_at_call 61; refine (HNW.out _ (below_alloc _ _)).mono ?_; rintro e w1 ⟨⟨p, rv, rfl, hr⟩, hb⟩; have HR1 := Lib.hid hr; have HB1 := Lib.hid hb; clear hr hb) | (go_at_call 62; refine (HST.out _ p rv HR1.out).mono ?_; rintro e w2 ⟨rfl, hk⟩; have HK2 := Lib.hid hk; have HB2 : Hid (Below w.heap.size w w2) := Lib.hid (Kbut.below hk (nbl_step (below_alloc w _) HB1.out) (by have := HR1.out.le; rw [wsize_alloc] at this; omega) (nbl_step (below_alloc w _) HB1.out).size); have hr2 : w2.heap[w.heap.size]? = some (callObj 0 0 ⟨#[]⟩ ⟨#[]⟩ ⟨#[]⟩ none 0 0) := (by have z1 := HB1.out.size; rw [wsize_alloc] at z1; have z4 := HR1.out.le; rw [wsize_alloc] at z4; exact (hk.block _ (by omega) (by omega)).trans ((HB1.out.block _ (by rw [wsize_alloc]; omega)).trans HRES.out)); have HR2 := Lib.hid hr2; clear hk hr2; obtain ⟨nd, cd, w6, hcv, hbd, hb6, hs6⟩ := conv_bytes2 w2 sv (by have := HSZ.out; omega); have HBD := Lib.hid hbd; have HB6 := Lib.hid hb6; clear hbd hb6 hs6) | (go_at_call 63; refine (HDC.out _ _ _ _ (nbl_step HB2.out HB6.out) HBD.out rfl).mono ?_; rintro e w7 ⟨rfl, hb⟩; have HB7 := Lib.hid (nbl_step (nbl_step HB2.out HB6.out) hb); have hr7 : (w7.alloc (.cells #[.int .i64 0, .string ⟨#[]⟩, .string ⟨#[]⟩, .string ⟨#[]⟩, .int .i64 0, .slice none 0 0] 40)).heap[w.heap.size]? = some (callObj 0 0 ⟨#[]⟩ ⟨#[]⟩ ⟨#[]⟩ none 0 0) := (by have z2 := (Array.getElem?_eq_some_iff.1 HR2.out).1; have z3 := HB6.out.size; have z4 := hb.size; exact ((below_alloc w7 _).block _ (by omega)).trans ((hb.block _ (by omega)).trans ((HB6.out.block _ z2).trans HR2.out))); obtain ⟨W2, hst, hld, hk2⟩ := res_store (o' := 0) (q' := 0) (k' := ⟨#[]⟩) (t' := ⟨#[]⟩) (j' := ⟨#[]⟩) (A' := none) (m' := 0) (c' := 0) hr7; have HST9 := Lib.hid hst; have HLD := Lib.hid hld; have HK9 := Lib.hid hk2; clear hb hst hld hk2 hr7) | (refine wpList_store_eq (by rfl) (.tmp 2) (.tmp 26) 40 (by rfl) _ _ (by rfl) (by rfl) HST9.out ?_))
      refine bodyPost_ret (v := .tuple #[.agg #[.int .i64 0, .string ⟨#[]⟩, .string ⟨#[]⟩, .string ⟨#[]⟩, .int .i64 0, .slice none 0 0], .bool false]) ?_ rfl ⟨rfl, Kbut.below HK9.out (nbl_al HB7.out) (Nat.le_refl _) (nbl_al HB7.out).size⟩
      rw [results_cell_tmp rfl]
      show Result.andThen ((loadVar 40 ⟨w.heap.size, 0, none⟩).run Tryz.prog W2) _ = _
      rw [HLD.out]
      rfl
    | some κ =>
      rw [hd] at HDC
      obtain ⟨o', q', k', t', j', d'⟩ := κ
      dsimp only at HDC ⊢
      clear hd HNX
      go_enter Tryz.func40, Tryz.ntmps40
      go_wp2_with (first | (go_at_call 61; refine (HNW.out _ (below_alloc _ _)).mono ?_; rintro e w1 ⟨⟨p, rv, rfl, hr⟩, hb⟩; have HR1 := Lib.hid hr; have HB1 := Lib.hid hb; clear hr hb) | (go_at_call 62; refine (HST.out _ p rv HR1.out).mono ?_; rintro e w2 ⟨rfl, hk⟩; have HK2 := Lib.hid hk; have HB2 : Hid (Below w.heap.size w w2) := Lib.hid (Kbut.below hk (nbl_step (below_alloc w _) HB1.out) (by have := HR1.out.le; rw [wsize_alloc] at this; omega) (nbl_step (below_alloc w _) HB1.out).size); have hr2 : w2.heap[w.heap.size]? = some (callObj 0 0 ⟨#[]⟩ ⟨#[]⟩ ⟨#[]⟩ none 0 0) := (by have z1 := HB1.out.size; rw [wsize_alloc] at z1; have z4 := HR1.out.le; rw [wsize_alloc] at z4; exact (hk.block _ (by omega) (by omega)).trans ((HB1.out.block _ (by rw [wsize_alloc]; omega)).trans HRES.out)); have HR2 := Lib.hid hr2; clear hk hr2; obtain ⟨nd, cd, w6, hcv, hbd, hb6, hs6⟩ := conv_bytes2 w2 sv (by have := HSZ.out; omega); have HBD := Lib.hid hbd; have HB6 := Lib.hid hb6; clear hbd hb6 hs6) | (go_at_call 63; refine (HDC.out _ _ _ _ (nbl_step HB2.out HB6.out) HBD.out rfl).mono ?_; rintro e w7 ⟨⟨A7, m7, c7, rfl, hbat, hfr⟩, hb⟩; have HBAT := Lib.hid hbat; have HFR := Lib.hid hfr; have HB7 := Lib.hid (nbl_step (nbl_step HB2.out HB6.out) hb); have hr7 : (w7.alloc (.cells #[.int .i64 o', .string k', .string t', .string j', .int .i64 q', .slice A7 m7 c7] 40)).heap[w.heap.size]? = some (callObj 0 0 ⟨#[]⟩ ⟨#[]⟩ ⟨#[]⟩ none 0 0) := (by have z2 := (Array.getElem?_eq_some_iff.1 HR2.out).1; have z3 := HB6.out.size; have z4 := hb.size; exact ((below_alloc w7 _).block _ (by omega)).trans ((hb.block _ (by omega)).trans ((HB6.out.block _ z2).trans HR2.out))); obtain ⟨W2, hst, hld, hk2⟩ := res_store (o' := o') (q' := q') (k' := k') (t' := t') (j' := j') (A' := A7) (m' := m7) (c' := c7) hr7; have HST9 := Lib.hid hst; have HLD := Lib.hid hld; have HK9 := Lib.hid hk2; clear hb hst hld hk2 hr7 hbat hfr) | (refine wpList_store_eq (by rfl) (.tmp 2) (.tmp 26) 40 (by rfl) _ _ (by rfl) (by rfl) HST9.out ?_))
      have hba7 := HBAT.out.below (below_alloc w7 (.cells #[.int .i64 o', .string k', .string t', .string j', .int .i64 q', .slice A7 m7 c7] 40))
      have hfr : ∀ a, A7 = some a → w.heap.size < a.block := fun a ha => by
        have z1 := HFR.out a ha
        have z2 := (Array.getElem?_eq_some_iff.1 HR2.out).1
        have z3 := HB6.out.size
        omega
      refine bodyPost_ret (v := .tuple #[.agg #[.int .i64 o', .string k', .string t', .string j', .int .i64 q', .slice A7 m7 c7], .bool true]) ?_ rfl ⟨⟨A7, m7, c7, rfl, bat_keep0 hba7 fun a ha h0 => ?_, fun a ha => Nat.le_of_lt (hfr a ha)⟩, Kbut.below HK9.out (nbl_al HB7.out) (Nat.le_refl _) (nbl_al HB7.out).size⟩
      · rw [results_cell_tmp rfl]
        show Result.andThen ((loadVar 40 ⟨w.heap.size, 0, none⟩).run Tryz.prog W2) _ = _
        rw [HLD.out]
        rfl
      · subst ha
        exact HK9.out.block _ (bat_lt hba7 h0) (Nat.ne_of_gt (hfr a rfl))
  · unfold NextPost
    rw [HNX.out, if_neg h0]
    dsimp only
    have d1 : (er == 0) = false := by simpa using h0
    go_enter Tryz.func40, Tryz.ntmps40
    go_wp2_with (first | (go_at_call 61; refine (HNW.out _ (below_alloc _ _)).mono ?_; rintro e w1 ⟨⟨p, rv, rfl, hr⟩, hb⟩; have HR1 := Lib.hid hr; have HB1 := Lib.hid hb; clear hr hb) | (go_at_call 62; refine (HST.out _ p rv HR1.out).mono ?_; rintro e w2 ⟨rfl, hk⟩; have HB2 : Hid (Below w.heap.size w w2) := Lib.hid (Kbut.below hk (nbl_step (below_alloc w _) HB1.out) (by have := HR1.out.le; rw [wsize_alloc] at this; omega) (nbl_step (below_alloc w _) HB1.out).size); have hr2 : w2.heap[w.heap.size]? = some (callObj 0 0 ⟨#[]⟩ ⟨#[]⟩ ⟨#[]⟩ none 0 0) := (by have z1 := HB1.out.size; rw [wsize_alloc] at z1; have z4 := HR1.out.le; rw [wsize_alloc] at z4; exact (hk.block _ (by omega) (by omega)).trans ((HB1.out.block _ (by rw [wsize_alloc]; omega)).trans HRES.out)); obtain ⟨W2, hst, hld, hk2⟩ := res_store (o' := 0) (q' := 0) (k' := ⟨#[]⟩) (t' := ⟨#[]⟩) (j' := ⟨#[]⟩) (A' := none) (m' := 0) (c' := 0) hr2; have HST9 := Lib.hid hst; have HLD := Lib.hid hld; have HK9 := Lib.hid hk2; clear hk hr2 hst hld hk2) | (refine wpList_store_eq (by rfl) (.tmp 2) (.tmp 19) 40 (by rfl) _ _ (by rfl) (by rfl) HST9.out ?_))
    refine bodyPost_ret (v := .tuple #[.agg #[.int .i64 0, .string ⟨#[]⟩, .string ⟨#[]⟩, .string ⟨#[]⟩, .int .i64 0, .slice none 0 0], .bool false]) ?_ rfl ⟨rfl, Kbut.below HK9.out HB2.out (Nat.le_refl _) HB2.out.size⟩
    rw [results_cell_tmp rfl]
    show Result.andThen ((loadVar 40 ⟨w.heap.size, 0, none⟩).run Tryz.prog W2) _ = _
    rw [HLD.out]
    rfl
end Go.Proofs.YtgjbnebmcmoilaaGreatDoor
namespace Go.Proofs.YtgjbnebmcmoilaaGreatDoor
set_option linter.unusedVariables false
set_option linter.unusedSimpArgs false
open Go.RowKit Go.MapKept
def FormB (A : Option Addr) (c : Nat) : Prop := (A = none ∧ c = 0) ∨ ∃ b off, A = some ⟨b, off, none⟩
set_option maxRecDepth 100000 in
theorem slice_from {A : Option Addr} {m c : Nat} {k : Nat} {b : Bs} {w : World} (h : BAt w (.slice A m c) b) (hf : FormB A c) (hk : k ≤ b.length) :
    ∃ A' m' c', (∀ W, (Instr.slice 31 (.slice A m c) (some (.int .i64 (k : Int))) none none).run Tryz.prog W = .ok (.slice A' m' c') W) ∧ (∀ W, BAt W (.slice A m c) b → BAt W (.slice A' m' c') (b.drop k)) ∧ FormB A' c' := by
  have hm := bat_len h
  obtain ⟨_, hmc, hcm⟩ : m = b.length ∧ m ≤ c ∧ c ≤ 9223372036854775807 := BAt.len h
  have hrun : ∀ W, (Instr.slice 31 (.slice A m c) (some (.int .i64 (k : Int))) none none).run Tryz.prog W = .ok (sliced A k m c 1) W := fun W => by
    rw [run_slice_l (P := Tryz.prog) W 31 A m c Tryz.underlying31 .i64 (k : Int) (by omega) (by omega)]
    have he : Tryz.prog.elem 31 = 5 := by kernel_rfl
    obtain ⟨ii, hi0, hi1, hi2, hi3⟩ := info_parts info_byte
    rw [he]
    simp [sizeOf, typeInfo, hi0, hi2, Result.andThen]
  unfold sliced at hrun
  rcases hf with ⟨rfl, rfl⟩ | ⟨blk, off, rfl⟩
  · have h0 : m = 0 := by omega
    have hk0 : k = 0 := by omega
    subst hk0; subst h0
    have hb : b = [] := List.eq_nil_of_length_eq_zero hm.symm
    subst hb
    exact ⟨_, _, _, hrun, fun W hW => by simpa using hW, Or.inl ⟨by simp, by simp⟩⟩
  · by_cases hck : c = k
    · refine ⟨_, _, _, hrun, fun W hW => ?_, Or.inr ?_⟩
      · rw [if_pos hck]
        have hd : b.drop k = [] := List.drop_eq_nil_of_le (by omega)
        rw [hd, show m - k = 0 by omega, show c - k = 0 by omega]
        exact SlAt.nil 0 _ (by omega)
      · rw [if_pos hck]
        exact ⟨_, _, rfl⟩
    · have hadd : (some (⟨blk, off, none⟩ : Addr)).map (fun x => x.add (k * 1)) = some ⟨blk, off + k, none⟩ := by
        rw [Nat.mul_one]
        unfold Addr.add
        simp
      refine ⟨_, _, _, hrun, fun W hW => ?_, Or.inr ?_⟩
      · rw [if_neg hck, hadd]
        exact BAt.drop hW k hk
      · rw [if_neg hck, hadd]
        exact ⟨_, _, rfl⟩
set_option maxRecDepth 100000 in
theorem slice_to {A : Option Addr} {m c k : Nat} {b : Bs} {w : World} {B : Nat} (h : OwnB w B (.slice A m c) b) (hk : k ≤ b.length) (h0 : 0 < b.length) :
    (∀ W, (Instr.slice 31 (.slice A m c) none (some (.int .i64 (k : Int))) none).run Tryz.prog W = .ok (.slice A k c) W) ∧ (∀ W, BAt W (.slice A m c) b → BAt W (.slice A k c) (b.take k)) := by
  have hl := BAt.len h.sl
  refine ⟨fun W => ?_, fun W hW => SlAt.take hW (by omega)⟩
  rw [run_slice_h (P := Tryz.prog) W 31 A m c Tryz.underlying31 .i64 (k : Int) (by omega) (by omega)]
  have he : Tryz.prog.elem 31 = 5 := by kernel_rfl
  obtain ⟨ii, hi0, hi1, hi2, hi3⟩ := info_parts info_byte
  rw [he]
  obtain ⟨g, hg⟩ : ∃ g, A = some ⟨g, 0, none⟩ := by
    rcases h.2 with ⟨e, h1⟩ | ⟨g, cap, cur, e, _⟩
    · omega
    · injection e with e1
      exact ⟨g, e1⟩
  subst hg
  have hc : ¬ c = 0 := by omega
  simp [sizeOf, typeInfo, hi0, hi2, Result.andThen, sliced, hc, Addr.add]
theorem form_own {w : World} {B : Nat} {A : Option Addr} {m c : Nat} {b : Bs} (h : OwnB w B (.slice A m c) b) : FormB A c := by
  rcases h.2 with ⟨e, h1⟩ | ⟨g, cap, cur, e, _⟩
  · injection e with e1 e2 e3
    exact Or.inl ⟨e1, e3⟩
  · injection e with e1 e2 e3
    exact Or.inr ⟨g, 0, e1⟩
theorem bytes_in {w : World} {A : Option Addr} {m c : Nat} {b : Bs} (h : BAt w (.slice A m c) b) : Lib.BytesIn w A m (b.map fun x => (x.toNat : Int)) := by
  have hm := bat_len h
  cases A with
  | none =>
    have h0 : m = 0 := by
      rcases Nat.eq_zero_or_pos m with h0 | h0
      · exact h0
      · obtain ⟨A', c', e, h1, h2, h3⟩ := h
        obtain ⟨b', off, e2, _⟩ := h3 (by omega)
        injection e with e3
        rw [e2] at e3
        cases e3
    subst h0
    exact Lib.BytesIn.nil _ _ _
  | some a =>
    refine Lib.BytesIn.of_cells fun i hi => ?_
    have hi' : i < b.length := by omega
    obtain ⟨g, off, f⟩ := a
    obtain ⟨b', o, e, hc⟩ := h.elem hi'
    injection e with e
    injection e with e1 e2 e3
    subst e1; subst e2; subst e3
    have hadd : (⟨g, off, none⟩ : Addr).add i = ⟨g, off + i, none⟩ := by unfold Addr.add; split <;> simp_all
    have := h.cells i hi'
    rw [hadd, this]
    simp [hi', byteV]
theorem bytesOf_map (b : Bs) : Lib.bytesOf (b.map fun x => (x.toNat : Int)) = b := by
  unfold Lib.bytesOf
  rw [List.map_map]
  conv => rhs; rw [← List.map_id b]
  apply List.map_congr_left
  intro x _
  simp
theorem prefix_any (w : World) (A : Option Addr) (m c : Nat) (b : Bs) (A2 : Option Addr) (m2 c2 : Nat) (p : Bs) (h : BAt w (.slice A m c) b) (h2 : BAt w (.slice A2 m2 c2) p) : Calls Tryz.prog 41 #[.slice A m c, .slice A2 m2 c2] w fun e w' => e = .returned (.bool (p.isPrefixOf b)) ∧ w' = w := by
  have := Tryz.bytes_HasPrefix_all A A2 m c m2 c2 _ _ w (by rw [List.length_map]; exact (bat_len h).symm) (by rw [List.length_map]; exact (bat_len h2).symm) (BAt.len h).2.1 (bytes_in h) (bytes_in h2)
  rw [bytesOf_map, bytesOf_map] at this
  exact this
/-- One step of Read: the call that the rest begins with, if its record is there, too. -/
def readStep (s0 : Int) (b : Bs) (ks : List Key) : Option Key :=
  match nextR (b.drop (jst s0 ks).1.length) with
  | none => none
  | some κ => if (κ.rec (jst s0 ks).2).isPrefixOf (b.drop (jst s0 ks).1.length) = true ∧ ks.length < 2000 then some κ else none
def readF (s0 : Int) (b : Bs) : Nat → List Key → List Key
  | 0, ks => ks
  | f + 1, ks => match readStep s0 b ks with
    | none => ks
    | some κ => readF s0 b f (ks ++ [κ])
def readAll (s0 : Int) (b : Bs) : List Key := readF s0 b 2001 []
structure KeyRd (κ : Key) : Prop where
  valid : validB κ.1 κ.2.1 κ.2.2.1 κ.2.2.2.1 κ.2.2.2.2.1 κ.2.2.2.2.2.length = true
  k : κ.2.2.1.size ≤ 100
  t : κ.2.2.2.1.size ≤ 100
  j : κ.2.2.2.2.1.size ≤ 100
  d : κ.2.2.2.2.2.length ≤ 65536
theorem decR_ok {p : Bs} {κ : Key} (h : decR p = some κ) : KeyRd κ := by
  cases p with
  | nil => cases h
  | cons b0 rest =>
    unfold decR at h
    dsimp only at h
    split at h
    · rename_i h3
      injection h with h
      subst h
      have hs := decTo_small (b0 :: rest) (rowB (b0.toNat : Int)).2
      exact ⟨h3.2.2, hs.k, hs.t, hs.j, hs.d⟩
    · cases h
theorem nextR_ok {b : Bs} {κ : Key} (h : nextR b = some κ) : KeyRd κ := by
  unfold nextR at h
  split at h
  · exact decR_ok h
  · cases h
theorem readStep_ok {s0 : Int} {b : Bs} {ks : List Key} {κ : Key} (h : readStep s0 b ks = some κ) : nextR (b.drop (jst s0 ks).1.length) = some κ ∧ (κ.rec (jst s0 ks).2).isPrefixOf (b.drop (jst s0 ks).1.length) = true ∧ ks.length < 2000 := by
  unfold readStep at h
  split at h
  · cases h
  · rename_i κ' h1
    split at h
    · rename_i h2
      injection h with h
      subst h
      exact ⟨h1, h2.1, h2.2⟩
    · cases h
theorem prefix_go {b x y : Bs} (hx : x.isPrefixOf b = true) (hy : y.isPrefixOf (b.drop x.length) = true) : (x ++ y).isPrefixOf b = true := by
  rw [List.isPrefixOf_iff_prefix] at hx hy ⊢
  obtain ⟨u, hu⟩ := hx
  obtain ⟨v, hv⟩ := hy
  refine ⟨v, ?_⟩
  rw [List.append_assoc, hv, ← hu]
  simp
end Go.Proofs.YtgjbnebmcmoilaaGreatDoor
namespace Go.Proofs.YtgjbnebmcmoilaaGreatDoor
set_option linter.unusedVariables false
set_option linter.unusedSimpArgs false
open Go.RowKit Go.MapKept
/-- A journal that has been read. -/
structure RdJ (w0 W : World) (p : Nat) (r s i o s0 : Int) (b : Bs) (ks : List Key) (dv cv : Value) (lj : List JC) : Prop where
  j : JrAt W w0.heap.size p r s i o (jst s0 ks).1 (jst s0 ks).2 lj dv cv
  jk : lj.map JC.key = ks
  ok : ∀ κ ∈ ks, KeyRd κ
  pre : (jst s0 ks).1.isPrefixOf b = true
  le : ks.length ≤ 2000
  fr : ∀ x ∈ lj, ∀ a, x.A = some a → w0.heap.size ≤ a.block
  bel : Below w0.heap.size w0 W
theorem RdJ.below {w0 W W' : World} {p : Nat} {r s i o s0 : Int} {b : Bs} {ks : List Key} {dv cv : Value} {lj : List JC} (h : RdJ w0 W p r s i o s0 b ks dv cv lj) (hb : Below W.heap.size W W') : RdJ w0 W' p r s i o s0 b ks dv cv lj :=
  ⟨h.j.below hb, h.jk, h.ok, h.pre, h.le, h.fr, nbl_step h.bel hb⟩
theorem RdJ.len {w0 W : World} {p : Nat} {r s i o s0 : Int} {b : Bs} {ks : List Key} {dv cv : Value} {lj : List JC} (h : RdJ w0 W p r s i o s0 b ks dv cv lj) : (jst s0 ks).1.length ≤ b.length := by
  have h1 := h.pre
  rw [List.isPrefixOf_iff_prefix] at h1
  exact h1.length_le
/-- Append of a call that was read. -/
theorem rd_append {w0 W : World} {p : Nat} {r s i o s0 : Int} {b : Bs} {ks : List Key} {dv cv : Value} {lj : List JC} (h : RdJ w0 W p r s i o s0 b ks dv cv lj) (hE : Env1 w0) (hbl : b.length ≤ 1000000) (x : JC) (hx : KeyRd x.key) (hd : BAt W (.slice x.A x.n x.c) x.d) (hl : ks.length < 2000) (hp : (Key.rec x.key (jst s0 ks).2).isPrefixOf (b.drop (jst s0 ks).1.length) = true) :
    Calls Tryz.prog 10 #[.pointer (some ⟨p, 0, none⟩), .agg x.arr] W fun e w' => e = .returned (.int .i64 0) ∧ ∃ dv' cv' lj', RdJ w0 w' p r s i o s0 b (ks ++ [x.key]) dv' cv' lj' := by
  have hlj : lj.length = ks.length := by rw [← h.jk, List.length_map]
  have hlen := h.len
  obtain ⟨xo, q, k, t, j, A, n, c, d⟩ := x
  obtain ⟨h1, h2, h3, h4, h5⟩ := hx
  obtain ⟨O, hO, ho1, ho2⟩ := valid_op h1
  have e1 : xo = (O : Int) := hO
  subst e1
  dsimp only [JC.key] at h1 h2 h3 h4 h5 hd
  have hn := bat_len hd
  have hko : KeyRd (JC.key ⟨(O : Int), q, k, t, j, A, n, c, d⟩) := ⟨h1, h2, h3, h4, h5⟩
  rw [← hn] at h1
  refine (jappend_good W w0.heap.size p r s i o _ _ lj dv cv h.j (hE.below h.bel) O q k t j A n c d ho1 ho2 h1 (by omega) (by omega) (by omega) hd (by omega) (by omega) (by omega)).mono ?_
  rintro e w' ⟨he, A', c', dv', cv', h6, h7, h8, h9, h10⟩
  refine ⟨he, dv', cv', _, ⟨by rw [jst_snoc]; exact h6, by rw [List.map_append, h.jk]; rfl, ?_, by rw [jst_snoc]; exact prefix_go h.pre hp, by rw [List.length_append]; simp; omega, fun z hz a ha => ?_, h9.below h.bel h.j.le (fun g hg => (nown_block h.j.dat hg).1) (fun g hg => (nown_block h.j.cls hg).1) h.bel.size⟩⟩
  · intro κ hκ
    rcases List.mem_append.1 hκ with h11 | h11
    · exact h.ok κ h11
    · rw [List.mem_singleton.1 h11]
      exact hko
  · rcases List.mem_append.1 hz with h11 | h11
    · exact h.fr z h11 a ha
    · rw [List.mem_singleton.1 h11] at ha
      have := h10 a ha
      have := h.bel.size
      omega
theorem rd_full {w0 W : World} {p : Nat} {r s i o s0 : Int} {b : Bs} {ks : List Key} {dv cv : Value} {lj : List JC} (h : RdJ w0 W p r s i o s0 b ks dv cv lj) (hE : Env1 w0) (x : JC) (hx : KeyRd x.key) (hd : BAt W (.slice x.A x.n x.c) x.d) (hl : ¬ ks.length < 2000) :
    Calls Tryz.prog 10 #[.pointer (some ⟨p, 0, none⟩), .agg x.arr] W fun e w' => e = .returned (.int .i64 7) ∧ RdJ w0 w' p r s i o s0 b ks dv cv lj := by
  have hlj : lj.length = ks.length := by rw [← h.jk, List.length_map]
  have h2 := hx.k
  have h3 := hx.t
  have h4 := hx.j
  have h1 := hx.valid
  dsimp only [JC.key] at h1 h2 h3 h4
  have hn := bat_len hd
  rw [← hn] at h1
  exact (jappend_full W _ p r s i o _ _ lj dv cv h.j (hE.below h.bel) x.o x.q x.k x.t x.j x.A x.n x.c h1 (by omega) (by omega) (by omega) (by omega)).mono fun e w' ⟨he, hb⟩ => ⟨he, h.below hb⟩
theorem rd_record {w0 W : World} (hb : Below w0.heap.size w0 W) (hE : Env1 w0) (x : JC) (hx : KeyRd x.key) (hd : BAt W (.slice x.A x.n x.c) x.d) (sum : Int) :
    Calls Tryz.prog 35 #[.agg x.arr, .int .u32 sum] W fun e w' => (∃ A n c sm, e = .returned (.tuple #[.slice A n c, .int .u32 sm, .int .i64 0]) ∧ BAt w' (.slice A n c) (Key.rec x.key sum)) ∧ Below W.heap.size W w' := by
  obtain ⟨xo, q, k, t, j, A, n, c, d⟩ := x
  obtain ⟨h1, h2, h3, h4, h5⟩ := hx
  obtain ⟨O, hO, ho1, ho2⟩ := valid_op h1
  have e1 : xo = (O : Int) := hO
  subst e1
  dsimp only [JC.key] at h1 h2 h3 h4 h5 hd
  have hn := bat_len hd
  rw [← hn] at h1
  refine (record_good O q sum k t j A n c d ho1 ho2 h1 (by omega) (by omega) (by omega) W (hE.below hb) hd (by omega)).mono ?_
  rintro e w' ⟨⟨r, he, ho⟩, hbb⟩
  obtain ⟨A2, m2, c2, rfl⟩ := own_slice ho
  exact ⟨⟨A2, m2, c2, _, he, OwnB.sl ho⟩, hbb⟩
end Go.Proofs.YtgjbnebmcmoilaaGreatDoor
