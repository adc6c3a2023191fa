/- The law's alike. -/
import Derived.Test.YtgjbnebmcmoilaaGreatDoorWw
namespace Go.Proofs.YtgjbnebmcmoilaaGreatDoor
set_option linter.unusedVariables false
set_option linter.unusedSimpArgs false
open Go.RowKit Go.MapKept
def Shp (W : World) (B : Nat) (v : Value) (n : Nat) : Prop := ∃ d : Bs, d.length = n ∧ OwnB W B v d
theorem Shp.below {W W' : World} {B : Nat} {v : Value} {n : Nat} (h : Shp W B v n) (hb : Below W.heap.size W W') : Shp W' B v n := by
  obtain ⟨d, hl, ho⟩ := h
  exact ⟨d, hl, nown_below ho hb⟩
theorem Shp.poke {W : World} {B : Nat} {v : Value} {n : Nat} (h : Shp W B v n) (g k : Nat) (X : Int) (h0 : 0 ≤ X) (h1 : X < 256) : Shp (W.setCell ⟨g, k, none⟩ (.int .u8 X)) B v n := by
  obtain ⟨d, hl, ho⟩ := h
  by_cases e : v.ownBlock = some g
  · rcases ho.2 with ⟨rfl, _⟩ | ⟨g', cap, cur, rfl, _⟩
    · cases e
    · obtain rfl : g' = g := by simpa [Value.ownBlock] using e
      refine ⟨d.set k (UInt8.ofNat X.toNat), by simpa using hl, ?_⟩
      have := (World.ownsRow.stored ho k (.int .u8 X)).1
      unfold OwnB
      rw [List.length_set, List.map_set, byte_of X h0 h1]
      exact this
  · exact ⟨d, hl, nown_keep ho fun g' hg => wheap_setN _ _ _ _ (fun e2 => e (by rw [hg, show g' = g from e2]))⟩
/-- The cell of a byte. -/
theorem Shp.at {W : World} {B : Nat} {A : Option Addr} {m c n : Nat} (h : Shp W B (.slice A m c) n) {k : Nat} (hk : k < n) : ∃ g X, A = some ⟨g, 0, none⟩ ∧ W.cell? ⟨g, k, none⟩ = some (.int .u8 X) ∧ W.frozen? ⟨g, k, none⟩ = false ∧ 0 ≤ X ∧ X < 256 := by
  obtain ⟨d, hl, ho⟩ := h
  subst hl
  rcases ho.2 with ⟨e, h0⟩ | ⟨g, cap, cur, e, _⟩
  · omega
  · injection e with e1 e2 e3
    subst e1; subst e2; subst e3
    refine ⟨g, (d[k].toNat : Int), rfl, ?_, World.ownsRow.frozenAt ho k, by omega, by have := d[k].toNat_lt; omega⟩
    have := World.ownsRow.cellAt ho k (by omega)
    rw [this]
    simp [hk, byteV]
structure AlkI (w W : World) (v : Value) (lm : List JC) (bv : Value) (nb : Nat) : Prop where
  row : OwnJ W w.heap.size v lm
  data : ∀ y ∈ lm, Shp W w.heap.size (.slice y.A y.n y.c) y.n
  bs : Shp W w.heap.size bv nb
  bel : Below w.heap.size w W
theorem AlkI.poke {w W : World} {v : Value} {lm : List JC} {bv : Value} {nb : Nat} (h : AlkI w W v lm bv nb) {x : Value} {n g : Nat} (hx : Shp W w.heap.size x n) (hg : x.ownBlock = some g) (k : Nat) (X : Int) (h0 : 0 ≤ X) (h1 : X < 256) : AlkI w (W.setCell ⟨g, k, none⟩ (.int .u8 X)) v lm bv nb := by
  obtain ⟨d, hl, ho⟩ := hx
  exact ⟨nown_keep h.row fun g' hg' => wheap_setN _ _ _ _ (fun e => own_types ho h.row hg (by rw [hg', show g' = g from e])), fun y hy => (h.data y hy).poke g k X h0 h1, h.bs.poke g k X h0 h1, wbelow_set h.bel (nown_block ho hg).1 _⟩
theorem AlkI.below {w W W' : World} {v : Value} {lm : List JC} {bv : Value} {nb : Nat} (h : AlkI w W v lm bv nb) (hb : Below W.heap.size W W') : AlkI w W' v lm bv nb :=
  ⟨nown_below h.row hb, fun y hy => (h.data y hy).below hb, h.bs.below hb, nbl_step h.bel hb⟩
theorem Fresh.below {w W W' : World} {v : Value} {l lm : List JC} (h : Fresh w W v l lm) (hb : Below W.heap.size W W') : Fresh w W' v l lm :=
  ⟨nown_below h.own hb, h.keys, fun y hy => nown_below (h.data y hy) hb⟩
theorem Fresh.len {w W : World} {v : Value} {l lm : List JC} (h : Fresh w W v l lm) : lm.length = l.length := by
  have := congrArg List.length h.keys
  simpa using this
theorem u8_in (X : Int) : 0 ≤ IntKind.u8.wrap X ∧ IntKind.u8.wrap X < 256 := by
  unfold IntKind.wrap
  simp [IntKind.signed, IntKind.bits]
  omega
theorem own_len {w : World} {B n c : Nat} {A : Option Addr} {d : Bs} (h : OwnB w B (.slice A n c) d) : d.length = n := by
  obtain ⟨A2, c2, e, _⟩ := h.sl
  injection e with _ e2
  exact e2.symm
theorem AlkI.row_cell {w W : World} {A : Option Addr} {L c : Nat} {lm : List JC} {bv : Value} {nb : Nat} (h : AlkI w W (.slice A L c) lm bv nb) {i : Nat} {y : JC} (hy : lm[i]? = some y) : ∃ g, A = some ⟨g, 0, none⟩ ∧ W.cell? ⟨g, i * 6 + 5, none⟩ = some (.slice y.A y.n y.c) := by
  obtain ⟨hi, hye⟩ := List.getElem?_eq_some_iff.1 hy
  rcases ownJ_slice h.row with ⟨_, rfl⟩ | ⟨g, c', e⟩
  · simp at hi
  · injection e with e1 e2 e3
    subst e1; subst e2; subst e3
    obtain ⟨b, off, e, hcs⟩ := SlAt.elem (OwnJ.sl h.row) hi
    injection e with e
    injection e with e1 e2 e3
    subst e1; subst e2
    rw [hye] at hcs
    have := hcs 5 _ rfl
    exact ⟨g, rfl, by simpa using this⟩
set_option maxRecDepth 100000 in
set_option maxHeartbeats 4000000 in
theorem alike_true (w : World) (B p B' pm : Nat) (r s i o : Int) (data : Bs) (sum : Int) (l : List JC) (dv cv : Value) (l' : List JC) (dv' cv' : Value) (h : JrAt w B p r s i o data sum l dv cv) (h' : MdAt w B' pm r s i o data sum l' dv' cv') (hk : l.map JC.key = l'.map JC.key) (hl : l.length ≤ 5000) (hdl : ∀ x ∈ l, x.d.length ≤ 100000) (hdat : data.length ≤ 5000000) :
    Calls Tryz.prog 20 #[.pointer (some ⟨p, 0, none⟩), .pointer (some ⟨pm, 0, none⟩)] w fun e w' => e = .returned (.bool true) ∧ Below w.heap.size w w' := by
  have HJ := Lib.hid h
  have HM := Lib.hid h'
  obtain ⟨A5, n5, c5, rfl⟩ := own_slice h'.dat
  obtain ⟨A7, c7, rfl⟩ := capp_slice h'.cls
  have HLL : Hid (l'.length = l.length) := Lib.hid (by have := congrArg List.length hk; simpa using this.symm)
  obtain ⟨L, hL⟩ : ∃ L, l'.length = L := ⟨_, rfl⟩
  have HL' := Lib.hid hL
  have HK := Lib.hid hk
  have HL5 := Lib.hid hl
  have HD := Lib.hid hdl
  have HDA := Lib.hid hdat
  have HCL := Lib.hid (jcalls_any w B p r s i o data sum l dv cv h (by omega) (fun x hx => by have := hdl x hx; omega))
  have HCL2 : Hid (∀ W, Below w.heap.size w W → Calls Tryz.prog 28 #[.pointer (some ⟨p, 0, none⟩)] W fun e w' => (∃ v lm, e = .returned v ∧ Fresh W w' v l lm) ∧ Below W.heap.size W w') := Lib.hid fun W hb => jcalls_any W B p r s i o data sum l dv cv (h.below hb) (by omega) (fun x hx => by have := hdl x hx; omega)
  have HBY : Hid (∀ W, Below w.heap.size w W → Calls Tryz.prog 15 #[.pointer (some ⟨p, 0, none⟩)] W fun e w' => (∃ v, e = .returned v ∧ OwnB w' W.heap.size v data) ∧ Below W.heap.size W w') := Lib.hid fun W hb => jbytes_any W B p r s i o data sum l dv cv (h.below hb) (by omega)
  have HLE : Hid (∀ W, Below w.heap.size w W → Calls Tryz.prog 14 #[.pointer (some ⟨p, 0, none⟩)] W fun e w' => e = .returned (.int .i64 (L : Int)) ∧ w' = W) := Lib.hid fun W hb => by rw [← hL, HLL.out]; exact jlen_any W B p r s i o data sum l dv cv (h.below hb)
  have HSU : Hid (∀ W, Below w.heap.size w W → Calls Tryz.prog 43 #[.pointer (some ⟨p, 0, none⟩)] W fun e w' => e = .returned (.int .u32 sum) ∧ w' = W) := Lib.hid fun W hb => jsum_any W B p r s i o data sum l dv cv (h.below hb)
  have HCO : Hid (∀ W, Below w.heap.size w W → Calls Tryz.prog 44 #[.pointer (some ⟨p, 0, none⟩)] W fun e w' => e = .returned (.agg #[.int .i64 r, .int .i64 s, .int .i64 i, .int .i64 o]) ∧ Below W.heap.size W w') := Lib.hid fun W hb => jconfig_any W B p r s i o data sum l dv cv (h.below hb)
  have HEQ : Hid (∀ W0 W A c lm, Below w.heap.size w W → Fresh W0 W (.slice A L c) l lm → Calls Tryz.prog 27 #[.slice A L c, .slice A7 L c7] W fun e w' => e = .returned (.bool true) ∧ Below W.heap.size W w') := Lib.hid fun W0 W A c lm hb hf => by
    have hm := h'.below hb
    rw [hL] at hm
    exact equal_true W A L c lm A7 L c7 l' hf.own.sl (OwnJ.sl hm.cls) (hf.keys.trans hk) (fun x hx => OwnB.sl (hf.data x hx)) (fun x hx => (hm.each x hx).1)
  obtain ⟨sv, hsv⟩ : ∃ sv : ByteArray, (⟨data.toArray⟩ : ByteArray) = sv := ⟨_, rfl⟩
  have HCV : Hid (∀ W A n c, BAt W (.slice A n c) data → (convert 31 9 (.slice A n c)).run Tryz.prog W = .ok (.string sv) W) := Lib.hid fun W A n c hb => by rw [← hsv]; exact back_sl hb
  have HM2 : Hid (∀ W, Below w.heap.size w W → (convert 31 9 (.slice A5 n5 c5)).run Tryz.prog W = .ok (.string sv) W ∧ W.cell? ⟨pm, 0, none⟩ = some (.int .i64 r) ∧ W.cell? ⟨pm, 1, none⟩ = some (.int .i64 s) ∧ W.cell? ⟨pm, 2, none⟩ = some (.int .i64 i) ∧ W.cell? ⟨pm, 3, none⟩ = some (.int .i64 o) ∧ W.cell? ⟨pm, 4, none⟩ = some (.slice A7 L c7) ∧ W.cell? ⟨pm, 5, none⟩ = some (.slice A5 n5 c5) ∧ W.cell? ⟨pm, 6, none⟩ = some (.int .u32 sum)) := Lib.hid fun W hb => by
    have hm := h'.below hb
    rw [hL] at hm
    exact ⟨HCV.out W A5 n5 c5 (OwnB.sl hm.dat), wcell_at hm.hp, wcell_at hm.hp, wcell_at hm.hp, wcell_at hm.hp, wcell_at hm.hp, wcell_at hm.hp, wcell_at hm.hp⟩
  clear h h' hk hl hdl hdat hL hsv
  go_enter Tryz.func20, Tryz.ntmps20
  go_wp2_with (first | (go_at_call 28; refine HCL.out.mono ?_; rintro e w2 ⟨⟨v2, lm, rfl, hf⟩, hb⟩; obtain ⟨Ac, cc, hv2⟩ := capp_slice hf.own; subst hv2; have HF2 := Lib.hid hf; have HB2 := Lib.hid hb; clear hf hb) | (go_at_call 15; refine (HBY.out _ HB2.out).mono ?_; rintro e w3 ⟨⟨v3, rfl, ho⟩, hb⟩; obtain ⟨Ab, nb, cb, hv3⟩ := own_slice ho; subst hv3; have HO3 := Lib.hid ho; have HF3 := Lib.hid (HF2.out.below hb); have HB3 := Lib.hid (nbl_step HB2.out hb); have HBX := Lib.hid hb; clear ho hb))
  have hlm : lm.length = L := by rw [HF3.out.len, ← HLL.out, HL'.out]
  rw [hlm] at HF3 HF2 ⊢
  clear hlm
  have HS3 : Hid (∀ W, Below w3.heap.size w3 W → (convert 31 9 (.slice Ab nb cb)).run Tryz.prog W = .ok (.string sv) W) := Lib.hid fun W hb => HCV.out W Ab nb cb ((OwnB.sl HO3.out).below hb)
  go_region_held3 (fun w' => (convert 31 9 (.slice Ab nb cb)).run Tryz.prog w' = .ok (.string sv) w' ∧ (convert 31 9 (.slice A5 n5 c5)).run Tryz.prog w' = .ok (.string sv) w' ∧ w'.cell? ⟨pm, 0, none⟩ = some (.int .i64 r) ∧ w'.cell? ⟨pm, 1, none⟩ = some (.int .i64 s) ∧ w'.cell? ⟨pm, 2, none⟩ = some (.int .i64 i) ∧ w'.cell? ⟨pm, 3, none⟩ = some (.int .i64 o) ∧ w'.cell? ⟨pm, 4, none⟩ = some (.slice A7 L c7) ∧ w'.cell? ⟨pm, 5, none⟩ = some (.slice A5 n5 c5) ∧ w'.cell? ⟨pm, 6, none⟩ = some (.int .u32 sum)) (first | (exact ⟨HS3.out _ (Below.refl _ w3).drew, HM2.out _ (HB3.out.trans (Below.refl _ w3).drew)⟩) | go_keep | (exact ⟨HS3.out _ HB6.out, HM2.out _ HB7.out⟩) | (exact ⟨HS3.out _ HB4.out, HM2.out _ HB5.out⟩)) (first | (go_at_call 27; refine (HEQ.out w _ Ac cc lm (nbl_step HB3.out (Below.refl _ w3).drew) (HF3.out.below (Below.refl _ w3).drew)).mono ?_; rintro e w4 ⟨rfl, hb⟩; have HB4 : Hid (Below w3.heap.size w3 w4) := Lib.hid (nbl_step (Below.refl _ w3).drew hb); have HB5 : Hid (Below w.heap.size w w4) := Lib.hid (nbl_step HB3.out HB4.out); clear hb) | (go_at_call 14; refine (HLE.out _ HB5.out).mono ?_; rintro e w5 ⟨rfl, hw⟩; obtain rfl := hw.symm; clear hw) | (go_at_call 43; refine (HSU.out _ HB5.out).mono ?_; rintro e w5 ⟨rfl, hw⟩; obtain rfl := hw.symm; clear hw) | (go_at_call 44; refine (HCO.out _ HB5.out).mono ?_; rintro e w6 ⟨rfl, hb⟩; have HB6 : Hid (Below w3.heap.size w3 w6) := Lib.hid (nbl_step HB4.out hb); have HB7 : Hid (Below w.heap.size w w6) := Lib.hid (nbl_step HB5.out hb); clear hb) | fail)
  have hI : AlkI w w6 (.slice Ac L cc) lm (.slice Ab nb cb) nb := by
    have hf := HF3.out.below HB6.out
    have ho := nown_below HO3.out HB6.out
    have hnb := own_len HO3.out
    exact ⟨hf.own, fun y hy => ⟨y.d, own_len (hf.data y hy), hf.data y hy⟩, ⟨data, hnb, nown_base ho HB2.out.size⟩, HB7.out⟩
  have HLN : Hid (lm.length = L ∧ L ≤ 5000 ∧ nb ≤ 5000000) := Lib.hid ⟨by rw [HF3.out.len, ← HLL.out, HL'.out], by rw [← HL'.out, HLL.out]; exact HL5.out, by rw [← own_len HO3.out]; exact HDA.out⟩
  have hL5 : (L : Int) ≤ 5000 := by have := HLN.out.2.1; omega
  have hnb5 : (nb : Int) ≤ 5000000 := by have := HLN.out.2.2; omega
  have HYN : Hid (∀ y ∈ lm, y.n ≤ 100000) := Lib.hid fun y hy => by
    have h1 := own_len (HF3.out.data y hy)
    have h2 : y.key ∈ l.map JC.key := by rw [← HF3.out.keys]; exact List.mem_map_of_mem hy
    obtain ⟨x, hx, hxe⟩ := List.mem_map.1 h2
    have h3 : x.d = y.d := by simp only [JC.key, Prod.mk.injEq] at hxe; exact hxe.2.2.2.2.2
    have h4 := HD.out x hx
    rw [h3] at h4
    omega
  have HI6 := Lib.hid hI
  clear hI HCL HLE HSU HCO HF2 HF3 HB2 HB3 HBX HO3 HS3 HB4 HB5 HB6
  go_wp2_with fail
  go_loopw [7] (fun u7 wx => ∃ i : Nat, i ≤ L ∧ u7 = .int .i64 (i : Int) ∧ AlkI w wx (.slice Ac L cc) lm (.slice Ab nb cb) nb) (fun u7 _ => L - (intOf u7).toNat)
  case atStart => exact ⟨0, Nat.zero_le _, rfl, HI6.out⟩
  case round =>
    obtain ⟨i1, hi1, rfl, hI⟩ := hrel
    have HI := Lib.hid hI
    clear hI
    by_cases hlt : i1 < L
    · obtain ⟨y, hy⟩ : ∃ y, lm[i1]? = some y := ⟨_, List.getElem?_eq_getElem (by have := HLN.out.1; omega)⟩
      have HY := Lib.hid hy
      clear hy
      obtain ⟨g, hAc, _⟩ := HI.out.row_cell HY.out
      subst hAc
      have hyn : (y.n : Int) ≤ 100000 := by have := HYN.out y (List.mem_of_getElem? HY.out); omega
      go_wp2_with fail
      go_loopw [8] (fun u8 wx => ∃ k : Nat, k ≤ y.n ∧ u8 = .int .i64 (k : Int) ∧ AlkI w wx (.slice (some ⟨g, 0, none⟩) L cc) lm (.slice Ab nb cb) nb) (fun u8 _ => y.n - (intOf u8).toNat)
      case atStart => exact ⟨0, Nat.zero_le _, rfl, HI.out⟩
      case round =>
        obtain ⟨k, hk, rfl, hI2⟩ := hrel
        have HI2 := Lib.hid hI2
        clear hI2
        obtain ⟨g2, e2, c5⟩ := HI2.out.row_cell HY.out
        obtain rfl : g = g2 := by simpa using e2
        clear e2
        by_cases hltk : k < y.n
        · have hsh := HI2.out.data y (List.mem_of_getElem? HY.out)
          obtain ⟨gd, X, hA, hc, hf, hx0, hx1⟩ := hsh.at hltk
          have HPK : Hid (∀ Z, 0 ≤ Z → Z < 256 → AlkI w (wr.setCell ⟨gd, k, none⟩ (.int .u8 Z)) (.slice (some ⟨g, 0, none⟩) L cc) lm (.slice Ab nb cb) nb) := Lib.hid fun Z h0 h1 => HI2.out.poke hsh (by rw [hA]; rfl) k Z h0 h1
          rw [hA] at c5
          clear hsh hA
          go_wp2_with fail
          go_roundw
          case rel => exact ⟨k + 1, by omega, by go_num, HPK.out _ (by omega) (by omega)⟩
          case measure => simp [intOf]; omega
        · go_wp2_with fail
          go_roundw
          case rel => exact ⟨i1 + 1, by omega, by go_num, HI2.out⟩
          case measure => simp [intOf]; omega
    · have e : i1 = L := by omega
      subst e
      go_wp2_with fail
      go_loopw [9] (fun u9 wx => ∃ k : Nat, k ≤ nb ∧ u9 = .int .i64 (k : Int) ∧ AlkI w wx (.slice Ac i1 cc) lm (.slice Ab nb cb) nb) (fun u9 _ => nb - (intOf u9).toNat)
      case atStart => exact ⟨0, Nat.zero_le _, rfl, HI.out⟩
      case round =>
        obtain ⟨k, hk, rfl, hI2⟩ := hrel
        have HI2 := Lib.hid hI2
        clear hI2
        by_cases hltk : k < nb
        · have hsh := HI2.out.bs
          obtain ⟨gd, X, hA, hc, hf, hx0, hx1⟩ := hsh.at hltk
          subst hA
          have HPK : Hid (∀ Z, 0 ≤ Z → Z < 256 → AlkI w (wr.setCell ⟨gd, k, none⟩ (.int .u8 Z)) (.slice Ac i1 cc) lm (.slice (some ⟨gd, 0, none⟩) nb cb) nb) := Lib.hid fun Z h0 h1 => HI2.out.poke hsh rfl k Z h0 h1
          clear hsh
          go_wp2_with fail
          go_roundw
          case rel => exact ⟨k + 1, by omega, by go_num, HPK.out _ (by omega) (by omega)⟩
          case measure => simp [intOf]; omega
        · have HB9 := Lib.hid HI2.out.bel
          clear HI HI2 HI6
          go_wp2_with fail
          obtain ⟨ra0, ra1, ra2, ra3, ra4, ra5, ra6, ra7⟩ := HM2.out wr HB9.out
          go_region_law
            (first | (go_simp; refine (HCL2.out _ (nbl_step HB9.out (Below.refl _ wr).drew)).mono ?_; rintro e wa ⟨⟨va, lma, rfl, hf⟩, hb⟩; obtain ⟨Aa, ca, hva⟩ := capp_slice hf.own; subst hva; rw [show lma.length = i1 by rw [hf.len, ← HLL.out, HL'.out]] at hf ⊢; have HFA := Lib.hid hf; have HBA : Hid (Below w.heap.size w wa) := Lib.hid (nbl_step HB9.out (nbl_step (Below.refl _ wr).drew hb)); obtain ⟨rb0, rb1, rb2, rb3, rb4, rb5, rb6, rb7⟩ := HM2.out wa HBA.out; clear hf hb; dsimp only) | (go_simp; refine (HEQ.out _ _ Aa ca lma HBA.out HFA.out).mono ?_; rintro e wb ⟨rfl, hb⟩; have HBB : Hid (Below w.heap.size w wb) := Lib.hid (nbl_step HBA.out hb); obtain ⟨rc0, rc1, rc2, rc3, rc4, rc5, rc6, rc7⟩ := HM2.out wb HBB.out; clear hb; dsimp only) | (go_simp; refine (HBY.out _ HBB.out).mono ?_; rintro e wc ⟨⟨vc, rfl, ho⟩, hb⟩; obtain ⟨Ae, ne, ce, hvc⟩ := own_slice ho; subst hvc; have cve := HCV.out wc Ae ne ce (OwnB.sl ho); have HBC : Hid (Below w.heap.size w wc) := Lib.hid (nbl_step HBB.out hb); obtain ⟨rd0, rd1, rd2, rd3, rd4, rd5, rd6, rd7⟩ := HM2.out wc HBC.out; clear ho hb; dsimp only))
          all_goals
            go_wp2_with fail
            go_ret
            exact ⟨rfl, HBC.out⟩
end Go.Proofs.YtgjbnebmcmoilaaGreatDoor
