/- The model's add. -/
import Derived.Test.YtgjbnebmcmoilaaGreatDoorVe
namespace Go.Proofs.YtgjbnebmcmoilaaGreatDoor
set_option linter.unusedVariables false
set_option linter.unusedSimpArgs false
open Go.RowKit Go.MapKept
theorem step_app {P : Program} {t : TypeId} {v vx : Value} {R : World → Prop} {M : World → World → Value → Prop} (HA : ∀ X, R X → ∃ A' n' c' W6, (∀ ty, (Builtin.append_ #[t, t] ty #[v, vx]).run P X = .ok (.slice A' n' c') W6) ∧ M X W6 (.slice A' n' c'))
    {w : World} {ops : Array Oper} {o : Oper} {a : Act} {K : Act → World → Prop} {Q : Exit → Act → World → Prop} {E : Prop} (hgd : o.guard = none) (s x : Operand) (ho : o.op = .call { callee := .builtin .append, args := #[s, x], argTypes := #[t, t] }) (hs : a.eval s = v) (hx : a.eval x = vx) (hX : R w)
    (h : ∀ A' n' c' W6, M w W6 (.slice A' n' c') → K (a.put o.dst (.slice A' n' c')) W6) : if Region.wanted o (yielded ops a.tmps) = true then Oper.wp P o a w K Q else E := by
  obtain ⟨A', n', c', W6, hr, hm⟩ := HA w hX
  exact step_append_eq hr hgd s x ho hs hx (h A' n' c' W6 hm)
theorem none_own (w : World) (B : Nat) : OwnB w B (.slice none 0 0) [] := nown_none _ _ _ _
theorem none_ownJ (w : World) (B : Nat) : OwnJ w B (.slice none 0 0) [] := nown_none _ _ _ _
/-- append([]byte(nil), x...), then b. -/
theorem app_two {V : World} {A : Option Addr} {n c : Nat} {A2 : Option Addr} {n2 c2 : Nat} {x y : Bs} (hx : BAt V (.slice A n c) x) (hy : BAt V (.slice A2 n2 c2) y) (hl : x.length + y.length ≤ 10000000) :
    ∃ A3 n3 c3 W5 A4 n4 c4 W6, (∀ ty, (Builtin.append_ #[31, 31] ty #[.slice none 0 0, .slice A n c]).run Tryz.prog V = .ok (.slice A3 n3 c3) W5) ∧ (∀ ty, (Builtin.append_ #[31, 31] ty #[.slice A3 n3 c3, .slice A2 n2 c2]).run Tryz.prog W5 = .ok (.slice A4 n4 c4) W6) ∧ OwnB W6 V.heap.size (.slice A4 n4 c4) (x ++ y) ∧ Below V.heap.size V W5 ∧ Below V.heap.size V W6 := by
  obtain ⟨v3, W5, hr, ho, hg, hv⟩ := app_at (none_own V V.heap.size) hx (by simp; omega) (Nat.le_refl _)
  obtain ⟨A3, n3, c3, rfl⟩ := own_slice ho
  have hb5 : Below V.heap.size V W5 := Below.grown (Below.refl _ _) hg (Nat.le_refl _) fun k hk => by cases hk
  rw [List.nil_append] at ho
  obtain ⟨v4, W6, hr6, ho6, hg6, hv6⟩ := app_at ho (hy.below hb5) hl hb5.size
  obtain ⟨A4, n4, c4, rfl⟩ := own_slice ho6
  exact ⟨A3, n3, c3, W5, A4, n4, c4, W6, hr, hr6, ho6, hb5, Below.grown hb5 hg6 hb5.size fun k hk => (nown_block ho hk).1⟩
def mobj (r s i o : Int) (cv dv : Value) (sum : Int) : Obj := .cells #[.int .i64 r, .int .i64 s, .int .i64 i, .int .i64 o, cv, dv, .int .u32 sum] 34 (0, 0)
theorem Kbut.of {p : Nat} {a b c : World} (h : Kbut p a b) (hb : Below b.heap.size b c) : Kbut p a c := h.trans (Kbut.ofBelow hb)
theorem md_end {w V V2 W8 : World} {B p : Nat} {r s i o : Int} {data data' : Bs} {sum sm : Int} {l : List JC} {dv cv dv' cv' : Value} (h : MdAt w B p r s i o data sum l dv cv) (hk : Kbut p w V) (hk2 : Kbut p w V2) (hs2 : V.heap.size ≤ V2.heap.size) (hp : V2.heap[p]? = some (mobj r s i o cv dv' sm))
    (hdat : OwnB V2 V.heap.size dv' data') (hb : Below V2.heap.size V2 W8) (x : JC) (hc : OwnJ W8 V2.heap.size cv' (l ++ [x])) (hx : BAt w (.slice x.A x.n x.c) x.d ∧ ∀ a, x.A = some a → 0 < x.n → a.block < w.heap.size ∧ a.block ≠ p) :
    ((∀ g, dv'.ownBlock = some g → w.heap.size ≤ g) ∧ ∀ g, cv'.ownBlock = some g → w.heap.size ≤ g) ∧ MdAt (W8.setCell ⟨p, 4, none⟩ cv') B p r s i o data' sm (l ++ [x]) dv' cv' ∧ Kbut p w (W8.setCell ⟨p, 4, none⟩ cv') := by
  have hpv : p < V.heap.size := Nat.lt_of_lt_of_le h.lt hk.size
  have hpv2 : p < V2.heap.size := Nat.lt_of_lt_of_le hpv hs2
  have hp8 : W8.heap[p]? = some (mobj r s i o cv dv' sm) := (hb.block p hpv2).trans hp
  have hkk : Kbut p w (W8.setCell ⟨p, 4, none⟩ cv') := (hk2.of hb).trans (Kbut.set p 4 W8 cv')
  have hd' : dv'.ownBlock ≠ some p := fun e => by have := (nown_block hdat e).1; omega
  have hc' : cv'.ownBlock ≠ some p := fun e => by have := (nown_block hc e).1; omega
  have hBv : B ≤ V.heap.size := Nat.le_trans h.le (Nat.le_of_lt hpv)
  have hM : MdAt (W8.setCell ⟨p, 4, none⟩ cv') B p r s i o data' sm (l ++ [x]) dv' cv' := by
    refine ⟨wheap_set hp8, nown_base (nown_keep (nown_below hdat hb) fun g hg => wheap_setN _ _ _ _ (fun e => hd' (by rw [hg, show g = p from e]))) hBv, nown_base (nown_keep hc fun g hg => wheap_setN _ _ _ _ (fun e => hc' (by rw [hg, show g = p from e]))) (Nat.le_trans hBv hs2), hd', hc', h.le, fun y hy => ?_⟩
    have hy' : BAt w (.slice y.A y.n y.c) y.d ∧ ∀ a, y.A = some a → 0 < y.n → a.block < w.heap.size ∧ a.block ≠ p := by
      rcases List.mem_append.1 hy with h1 | h1
      · exact h.each y h1
      · rw [List.mem_singleton.1 h1]
        exact hx
    exact ⟨bat_keep0 hy'.1 fun a ha h0 => hkk.block _ (hy'.2 a ha h0).1 (hy'.2 a ha h0).2, fun a ha h0 => ⟨Nat.lt_of_lt_of_le (hy'.2 a ha h0).1 hkk.size, (hy'.2 a ha h0).2⟩⟩
  exact ⟨⟨fun g hg => Nat.le_trans hk.size (nown_block hdat hg).1, fun g hg => Nat.le_trans hk.size (Nat.le_trans hs2 (nown_block hc hg).1)⟩, hM, hkk⟩
set_option maxRecDepth 100000 in
set_option maxHeartbeats 2000000 in
theorem madd_bad (w : World) (hE : Env1 w) (p : Nat) (o : Int) (q : Int) (k t j : ByteArray) (A : Option Addr) (n c : Nat) (hv : validB o q k t j n = false) (hk : k.size ≤ 100000) (ht : t.size ≤ 100000) (hj : j.size ≤ 100000) :
    Calls Tryz.prog 18 #[.pointer (some ⟨p, 0, none⟩), .agg #[.int .i64 o, .string k, .string t, .string j, .int .i64 q, .slice A n c]] w fun e w' => e = .returned (.int .i64 2) ∧ Below w.heap.size w w' := by
  have HV : Hid (∀ W, Below w.heap.size w W → Calls Tryz.prog 34 #[.agg #[.int .i64 o, .string k, .string t, .string j, .int .i64 q, .slice A n c]] W fun e w' => e = .returned (.bool false) ∧ Below W.heap.size W w') := Lib.hid fun W hb => by
    have := valid_any o q k t j A n c hk ht hj W (hE.below hb)
    rw [hv] at this
    exact this
  clear hE hv hk ht hj
  go_enter Tryz.func18, Tryz.ntmps18
  go_wp2_with (first | (go_at_call 34; refine (HV.out _ (below_alloc _ _)).mono ?_; rintro e w2 ⟨rfl, hb⟩; have HB2 := Lib.hid (nbl_step (below_alloc _ _) hb); clear hb))
  go_ret
  exact ⟨rfl, HB2.out⟩
set_option maxRecDepth 100000 in
set_option maxHeartbeats 4000000 in
theorem madd_good (w : World) (B p : Nat) (r s i o : Int) (data : Bs) (sum : Int) (l : List JC) (dv cv : Value) (h : MdAt w B p r s i o data sum l dv cv) (hE : Env1 w)
    (O : Nat) (q : Int) (k t j : ByteArray) (A : Option Addr) (n c : Nat) (d : Bs) (h1 : 1 ≤ O) (h2 : O < 12) (hv : validB (O : Int) q k t j n = true) (hk : k.size ≤ 100000) (ht : t.size ≤ 100000) (hj : j.size ≤ 100000) (hd : BAt w (.slice A n c) d) (hA : ∀ a, A = some a → 0 < n → a.block < w.heap.size ∧ a.block ≠ p) (hdl : d.length ≤ 100000) (hll : l.length < 2000) (hdat : data.length ≤ 5000000) :
    Calls Tryz.prog 18 #[.pointer (some ⟨p, 0, none⟩), .agg #[.int .i64 (O : Int), .string k, .string t, .string j, .int .i64 q, .slice A n c]] w fun e w' => e = .returned (.int .i64 0) ∧ (∃ dv' cv', MdAt w' B p r s i o (data ++ recB (O : Int) q k t j d sum) (crcU sum (headB (O : Int) q k t j d)) (l ++ [⟨(O : Int), q, k, t, j, A, n, c, d⟩]) dv' cv' ∧ (∀ g, dv'.ownBlock = some g → w.heap.size ≤ g) ∧ ∀ g, cv'.ownBlock = some g → w.heap.size ≤ g) ∧ Kbut p w w' := by
  have HV : Hid (∀ W, Below w.heap.size w W → Calls Tryz.prog 34 #[.agg #[.int .i64 (O : Int), .string k, .string t, .string j, .int .i64 q, .slice A n c]] W fun e w' => e = .returned (.bool true) ∧ Below W.heap.size W w') := Lib.hid fun W hb => by
    have := valid_any (O : Int) q k t j A n c hk ht hj W (hE.below hb)
    rw [hv] at this
    exact this
  obtain ⟨sm, hsm⟩ : ∃ sm, crcU sum (headB (O : Int) q k t j d) = sm := ⟨_, rfl⟩
  have hrl : (recB (O : Int) q k t j d sum).length ≤ 1000000 := by
    unfold recB headB
    rw [List.length_append]
    have e1 := strB_len ⟨(encB (O : Int) q k t j d).toArray⟩
    have e2 := encB_len O h1 h2 q k t j d hk ht hj hdl
    have e3 : ∀ s, (be4 s).length = 4 := fun _ => rfl
    have e4 : (⟨(encB (O : Int) q k t j d).toArray⟩ : ByteArray).size = (encB (O : Int) q k t j d).length := rfl
    rw [e4] at e1
    rw [e3]
    omega
  obtain ⟨rb, hrb⟩ : ∃ rb, recB (O : Int) q k t j d sum = rb := ⟨_, rfl⟩
  rw [hsm, hrb]
  rw [hrb] at hrl
  have HRL := Lib.hid hrl
  clear hrl
  have HR : Hid (∀ W, Below w.heap.size w W → Calls Tryz.prog 12 #[.agg #[.int .i64 (O : Int), .string k, .string t, .string j, .int .i64 q, .slice A n c], .int .u32 sum] W fun e w' => (∃ r, e = .returned (.tuple #[r, .int .u32 sm]) ∧ OwnB w' W.heap.size r rb) ∧ Below W.heap.size W w') := Lib.hid fun W hb => by
    have := lrecord_good O q sum k t j A n c d h1 h2 hv hk ht hj W (hE.below hb) (hd.below hb) hdl
    rw [hsm, hrb] at this
    exact this
  have HJ := Lib.hid h
  have HAX : Hid (BAt w (.slice A n c) d ∧ ∀ a, A = some a → 0 < n → a.block < w.heap.size ∧ a.block ≠ p) := Lib.hid ⟨hd, hA⟩
  obtain ⟨A5, n5, c5, rfl⟩ := own_slice h.dat
  obtain ⟨A7, c7, rfl⟩ := capp_slice h.cls
  have z4 : w.cell? ⟨p, 4, none⟩ = some (.slice A7 l.length c7) := wcell_at h.hp
  have z6 : w.cell? ⟨p, 6, none⟩ = some (.int .u32 sum) := wcell_at h.hp
  have dl : decide ((2000 : Int) ≤ (l.length : Int)) = false := decide_eq_false (by omega)
  have HL := Lib.hid hll
  have HD := Lib.hid hdat
  obtain ⟨L, hL⟩ : ∃ L, l.length = L := ⟨_, rfl⟩
  have HLEN := Lib.hid hL
  rw [hL] at z4 dl HJ HL
  clear hL h hE hv hk ht hj hd hA hdl hll hdat hsm hrb h1 h2
  go_enter Tryz.func18, Tryz.ntmps18
  go_wp2_with (first | (go_at_call 34; refine (HV.out _ (below_alloc _ _)).mono ?_; rintro e w2 ⟨rfl, hb⟩; have HB2 := Lib.hid (nbl_step (below_alloc _ _) hb); have HX2 : Hid (w2.heap[w.heap.size]? = some (.cells #[.int .i64 (O : Int), .string k, .string t, .string j, .int .i64 q, .slice A n c] 40 (0, 0))) := Lib.hid ((hb.block _ (by rw [wsize_alloc]; omega)).trans (heap_alloc_new w _)); have HL2 : Hid (w.heap.size < w2.heap.size) := Lib.hid (by have := hb.size; rw [wsize_alloc] at this; omega); have b0 : w2.cell? ⟨w.heap.size, 0, none⟩ = some (.int .i64 (O : Int)) := cell_below hb (new_cells w _ _ 0); have b1 : w2.cell? ⟨w.heap.size, 1, none⟩ = some (.string k) := cell_below hb (new_cells w _ _ 1); have b2 : w2.cell? ⟨w.heap.size, 2, none⟩ = some (.string t) := cell_below hb (new_cells w _ _ 2); have b3 : w2.cell? ⟨w.heap.size, 3, none⟩ = some (.string j) := cell_below hb (new_cells w _ _ 3); have b4 : w2.cell? ⟨w.heap.size, 4, none⟩ = some (.int .i64 q) := cell_below hb (new_cells w _ _ 4); have b5 : w2.cell? ⟨w.heap.size, 5, none⟩ = some (.slice A n c) := cell_below hb (new_cells w _ _ 5); clear hb; have y6 := cell_below HB2.out z6; have y4 := cell_below HB2.out z4))
  have q0 : p ≠ w.heap.size := Nat.ne_of_lt HJ.out.lt
  go_region_held3 (fun w' => w'.cell? ⟨w.heap.size, 0, none⟩ = some (.int .i64 (O : Int)) ∧ w'.cell? ⟨w.heap.size, 1, none⟩ = some (.string k) ∧ w'.cell? ⟨w.heap.size, 2, none⟩ = some (.string t) ∧ w'.cell? ⟨w.heap.size, 3, none⟩ = some (.string j) ∧ w'.cell? ⟨w.heap.size, 4, none⟩ = some (.int .i64 q) ∧ w'.cell? ⟨w.heap.size, 5, none⟩ = some (.slice A n c) ∧ w'.cell? ⟨p, 6, none⟩ = some (.int .u32 sum)) (first | go_keep | (exact ⟨cell_below HB3.out (cell_below (Below.refl _ _).drew b0), cell_below HB3.out (cell_below (Below.refl _ _).drew b1), cell_below HB3.out (cell_below (Below.refl _ _).drew b2), cell_below HB3.out (cell_below (Below.refl _ _).drew b3), cell_below HB3.out (cell_below (Below.refl _ _).drew b4), cell_below HB3.out (cell_below (Below.refl _ _).drew b5), cell_below HB3.out (cell_below (Below.refl _ _).drew y6)⟩)) (first | (go_at_call 12; refine (HR.out _ (nbl_step HB2.out (Below.refl _ _).drew)).mono ?_; rintro e w3 ⟨⟨rv, rfl, hr⟩, hb⟩; obtain ⟨Ar, nr, cr, rfl⟩ := own_slice hr; have HR3 := Lib.hid hr; have HB3 := Lib.hid hb; have HB4 := Lib.hid (nbl_step HB2.out (nbl_step (Below.refl _ _).drew hb)); clear hb hr) | fail)
  have g6 := cell_below HB4.out z6
  have gf6 : w3.frozen? ⟨p, 6, none⟩ = false := wfroz_at ((HB4.out.block p HJ.out.lt).trans HJ.out.hp)
  have HJ3 : Hid (MdAt w3 B p r s i o data sum l (.slice A5 n5 c5) (.slice A7 L c7)) := Lib.hid (HJ.out.below HB4.out)
  have HV1 : Hid ((w3.setCell ⟨p, 6, none⟩ (.int .u32 sm)).heap[p]? = some (mobj r s i o (.slice A7 L c7) (.slice A5 n5 c5) sm)) := Lib.hid (wheap_set HJ3.out.hp)
  have HKV : Hid (Kbut p w (w3.setCell ⟨p, 6, none⟩ (.int .u32 sm))) := Lib.hid ((Kbut.ofBelow HB4.out).trans (Kbut.set p 6 w3 _))
  have HRV : Hid (BAt (w3.setCell ⟨p, 6, none⟩ (.int .u32 sm)) (.slice Ar nr cr) rb) := Lib.hid (OwnB.sl (nown_keep HR3.out fun g hg => wheap_setN _ _ _ _ (by have h1 := (nown_block HR3.out hg).1; have h2 := HL2.out; have h3 := HJ.out.lt; show g ≠ p; exact Nat.ne_of_gt (Nat.lt_of_lt_of_le (Nat.lt_trans h3 h2) h1))))
  have HDV : Hid (BAt (w3.setCell ⟨p, 6, none⟩ (.int .u32 sm)) (.slice A5 n5 c5) data) := Lib.hid (OwnB.sl (nown_keep HJ3.out.dat fun g hg => wheap_setN _ _ _ _ (fun e => HJ3.out.dne (by rw [hg, show g = p from e]))))
  have HCV : Hid (OwnJ (w3.setCell ⟨p, 6, none⟩ (.int .u32 sm)) B (.slice A7 L c7) l) := Lib.hid (nown_keep HJ3.out.cls fun g hg => wheap_setN _ _ _ _ (fun e => HJ3.out.cne (by rw [hg, show g = p from e])))
  have HXV : Hid ((w3.setCell ⟨p, 6, none⟩ (.int .u32 sm)).heap[w.heap.size]? = some (.cells #[.int .i64 (O : Int), .string k, .string t, .string j, .int .i64 q, .slice A n c] 40 (0, 0))) := Lib.hid ((wheap_setN _ _ _ _ (Nat.ne_of_gt HJ.out.lt)).trans ((HB3.out.block _ HL2.out).trans HX2.out))
  have HLV : Hid (p < (w3.setCell ⟨p, 6, none⟩ (.int .u32 sm)).heap.size ∧ w.heap.size < (w3.setCell ⟨p, 6, none⟩ (.int .u32 sm)).heap.size) := Lib.hid ⟨by rw [World.size_setCell]; exact HJ3.out.lt, by rw [World.size_setCell]; exact Nat.lt_of_lt_of_le HL2.out HB3.out.size⟩
  have v5 : (w3.setCell ⟨p, 6, none⟩ (.int .u32 sm)).cell? ⟨p, 5, none⟩ = some (.slice A5 n5 c5) := wcell_at HV1.out
  obtain ⟨A3, n3, c3, W5, A4, n4, c4, W6, hr1, hr2, ho, hb5, hb6⟩ := app_two HDV.out HRV.out (by have h1 := HD.out; have h2 := HRL.out; omega)
  have HR1 := Lib.hid hr1
  have HR2 := Lib.hid hr2
  have HO6 := Lib.hid ho
  have HB6 := Lib.hid hb6
  have k5 : W6.cell? ⟨p, 5, none⟩ = some (.slice A5 n5 c5) := wcell_at ((hb6.block p HLV.out.1).trans HV1.out)
  have kf5 : W6.frozen? ⟨p, 5, none⟩ = false := wfroz_at ((hb6.block p HLV.out.1).trans HV1.out)
  clear hr1 hr2 ho hb5 hb6 HR3 HB2 HB3 HX2 HR HV b0 b1 b2 b3 b4 b5 y6 y4 z4 z6
  go_wp2_with (first | (at_builtin; refine wpList_append_eq HR1.out rfl (.const (.slice none 0 0)) (.tmp 33) rfl rfl rfl ?_) | (at_builtin; refine wpList_append_eq HR2.out rfl (.tmp 34) (.tmp 35) rfl rfl rfl ?_))
  have HP2 : Hid ((W6.setCell ⟨p, 5, none⟩ (.slice A4 n4 c4)).heap[p]? = some (mobj r s i o (.slice A7 L c7) (.slice A4 n4 c4) sm)) := Lib.hid (wheap_set ((HB6.out.block p HLV.out.1).trans HV1.out))
  have HK2 : Hid (Kbut p w (W6.setCell ⟨p, 5, none⟩ (.slice A4 n4 c4))) := Lib.hid ((HKV.out.of HB6.out).trans (Kbut.set p 5 W6 _))
  have HS2 : Hid ((w3.setCell ⟨p, 6, none⟩ (.int .u32 sm)).heap.size ≤ (W6.setCell ⟨p, 5, none⟩ (.slice A4 n4 c4)).heap.size) := Lib.hid (by have h := HB6.out.size; simp only [World.size_setCell] at h ⊢; exact h)
  have HO2 : Hid (OwnB (W6.setCell ⟨p, 5, none⟩ (.slice A4 n4 c4)) (w3.setCell ⟨p, 6, none⟩ (.int .u32 sm)).heap.size (.slice A4 n4 c4) (data ++ rb)) := Lib.hid (nown_keep HO6.out fun g hg => wheap_setN _ _ _ _ (by have h1 := (nown_block HO6.out hg).1; have h2 := HLV.out.1; show g ≠ p; exact Nat.ne_of_gt (Nat.lt_of_lt_of_le h2 h1)))
  have HC2 : Hid (JSl (W6.setCell ⟨p, 5, none⟩ (.slice A4 n4 c4)) (.slice A7 L c7) l) := Lib.hid (OwnJ.sl (nown_keep (nown_below HCV.out HB6.out) fun g hg => wheap_setN _ _ _ _ (fun e => HJ3.out.cne (by rw [hg, show g = p from e]))))
  have HX2 : Hid ((W6.setCell ⟨p, 5, none⟩ (.slice A4 n4 c4)).heap[w.heap.size]? = some (.cells #[.int .i64 (O : Int), .string k, .string t, .string j, .int .i64 q, .slice A n c] 40 (0, 0))) := Lib.hid ((wheap_setN _ _ _ _ (Nat.ne_of_gt HJ.out.lt)).trans ((HB6.out.block _ HLV.out.2).trans HXV.out))
  have HLW : Hid (p < (W6.setCell ⟨p, 5, none⟩ (.slice A4 n4 c4)).heap.size ∧ w.heap.size < (W6.setCell ⟨p, 5, none⟩ (.slice A4 n4 c4)).heap.size) := Lib.hid ⟨Nat.lt_of_lt_of_le HLV.out.1 HS2.out, Nat.lt_of_lt_of_le HLV.out.2 HS2.out⟩
  clear k5 kf5 v5 HR1 HR2 HO6 HB6 g6 gf6 HJ3
  generalize W6.setCell ⟨p, 5, none⟩ (.slice A4 n4 c4) = V2 at *
  generalize w3.setCell ⟨p, 6, none⟩ (.int .u32 sm) = V at *
  have HA8 : Hid (∀ X, Below V2.heap.size V2 X → ∃ A' n' c' W6, (∀ ty, (Builtin.append_ #[30, 30] ty #[.slice none 0 0, .slice A7 L c7]).run Tryz.prog X = .ok (.slice A' n' c') W6) ∧ (OwnJ W6 V2.heap.size (.slice A' n' c') l ∧ Below V2.heap.size V2 W6 ∧ Below X.heap.size X W6)) := Lib.hid fun X hX => by
    obtain ⟨v', W', hr, ho, hg, hv⟩ := capp_at (none_ownJ X V2.heap.size) (HC2.out.below hX) (by have h1 := HL.out; have h2 := HLEN.out; simp; omega) hX.size
    obtain ⟨A', c', rfl⟩ := capp_slice ho
    have hb : Below X.heap.size X W' := Below.grown (Below.refl _ _) hg (Nat.le_refl _) fun k hk => by cases hk
    exact ⟨A', _, c', W', hr, by simpa using ho, nbl_step hX hb, hb⟩
  have HA16 : Hid (∀ A6 n6 c6 X Y, (OwnJ X V2.heap.size (.slice A6 n6 c6) l ∧ Below V2.heap.size V2 X ∧ X.heap[Y]? = some (.cells #[.int .i64 (O : Int), .string k, .string t, .string j, .int .i64 q, .slice A n c] 40 (0, 0))) → ∃ A' n' c' W8, (∀ ty, (Builtin.append_ #[30, 30] ty #[.slice A6 n6 c6, .slice (some ⟨Y, 0, none⟩) 1 1]).run Tryz.prog X = .ok (.slice A' n' c') W8) ∧ (OwnJ W8 V2.heap.size (.slice A' n' c') (l ++ [⟨(O : Int), q, k, t, j, A, n, c, d⟩]) ∧ Below V2.heap.size V2 W8)) := Lib.hid fun A6 n6 c6 X Y ⟨ho, hX, hY⟩ => by
    have hsl : JSl X (.slice (some ⟨Y, 0, none⟩) 1 1) [⟨(O : Int), q, k, t, j, A, n, c, d⟩] := ⟨_, 1, rfl, Nat.le_refl _, by simp, fun _ => ⟨Y, 0, rfl, fun i hi jj u hu => by
      obtain rfl : i = 0 := by simp at hi; omega
      have := wcell_at (i := jj) hY
      simp only [Nat.zero_mul, Nat.zero_add]
      rw [this]
      simpa [JC.cells] using hu⟩⟩
    obtain ⟨v', W', hr, ho', hg, hv⟩ := capp_at ho hsl (by have h1 := HL.out; have h2 := HLEN.out; simp; omega) hX.size
    obtain ⟨A', c', rfl⟩ := capp_slice ho'
    exact ⟨A', _, c', W', hr, ho', Below.grown hX hg hX.size fun k hk => (nown_block ho hk).1⟩
  have v4 : V2.cell? ⟨p, 4, none⟩ = some (.slice A7 L c7) := wcell_at HP2.out
  have va4 : ∀ X, (V2.alloc X).cell? ⟨p, 4, none⟩ = some (.slice A7 L c7) := fun X => cell_below (below_alloc _ _) v4
  have x0 : V2.cell? ⟨w.heap.size, 0, none⟩ = some (.int .i64 (O : Int)) := wcell_at HX2.out
  have x1 : V2.cell? ⟨w.heap.size, 1, none⟩ = some (.string k) := wcell_at HX2.out
  have x2 : V2.cell? ⟨w.heap.size, 2, none⟩ = some (.string t) := wcell_at HX2.out
  have x3 : V2.cell? ⟨w.heap.size, 3, none⟩ = some (.string j) := wcell_at HX2.out
  have x4 : V2.cell? ⟨w.heap.size, 4, none⟩ = some (.int .i64 q) := wcell_at HX2.out
  have x5 : V2.cell? ⟨w.heap.size, 5, none⟩ = some (.slice A n c) := wcell_at HX2.out
  go_region_law
    (first | (refine step_app (R := fun X => Below V2.heap.size V2 X) (M := fun X W6 v' => OwnJ W6 V2.heap.size v' l ∧ Below V2.heap.size V2 W6 ∧ Below X.heap.size X W6) HA8.out rfl (.const (.slice none 0 0)) (.tmp 43) (by rfl) (by rfl) (by rfl) (by first | exact (Below.refl _ V2).drew | exact nbl_al (Below.refl _ V2).drew | exact (nbl_al (Below.refl _ V2)).drew) ?_; intro A6 n6 c6 W7 hmg; have HM := Lib.hid hmg; clear hmg; have hb6 : W7.heap[w.heap.size]? = some (.cells #[.int .i64 (O : Int), .string k, .string t, .string j, .int .i64 q, .slice A n c] 40 (0, 0)) := (HM.out.2.1.block w.heap.size HLW.out.2).trans HX2.out; have y0 : W7.cell? ⟨w.heap.size, 0, none⟩ = some (.int .i64 (O : Int)) := wcell_at hb6; have y1 : W7.cell? ⟨w.heap.size, 1, none⟩ = some (.string k) := wcell_at hb6; have y2 : W7.cell? ⟨w.heap.size, 2, none⟩ = some (.string t) := wcell_at hb6; have y3 : W7.cell? ⟨w.heap.size, 3, none⟩ = some (.string j) := wcell_at hb6; have y4 : W7.cell? ⟨w.heap.size, 4, none⟩ = some (.int .i64 q) := wcell_at hb6; have y5 : W7.cell? ⟨w.heap.size, 5, none⟩ = some (.slice A n c) := wcell_at hb6; clear hb6) | (refine step_app (R := fun X => OwnJ X V2.heap.size (.slice A6 n6 c6) l ∧ Below V2.heap.size V2 X ∧ X.heap[W7.heap.size]? = some (.cells #[.int .i64 (O : Int), .string k, .string t, .string j, .int .i64 q, .slice A n c] 40 (0, 0))) (M := fun X W8 v' => OwnJ W8 V2.heap.size v' (l ++ [⟨(O : Int), q, k, t, j, A, n, c, d⟩]) ∧ Below V2.heap.size V2 W8) (fun X hX => HA16.out _ _ _ X _ hX) rfl (.tmp 44) (.tmp 46) (by rfl) (by rfl) (by rfl) ⟨nown_below HM.out.1 (below_alloc _ _), nbl_al HM.out.2.1, heap_alloc_new _ _⟩ ?_; intro A8 n8 c8 W8 he8; have HE8 := Lib.hid he8; have z4 : W8.cell? ⟨p, 4, none⟩ = some (.slice A7 L c7) := wcell_at ((he8.2.block p HLW.out.1).trans HP2.out); have zf4 : W8.frozen? ⟨p, 4, none⟩ = false := wfroz_at ((he8.2.block p HLW.out.1).trans HP2.out); clear he8) | (refine step_app (R := fun X => OwnJ X V2.heap.size (.slice A6 n6 c6) l ∧ Below V2.heap.size V2 X ∧ X.heap[V2.heap.size]? = some (.cells #[.int .i64 (O : Int), .string k, .string t, .string j, .int .i64 q, .slice A n c] 40 (0, 0))) (M := fun X W8 v' => OwnJ W8 V2.heap.size v' (l ++ [⟨(O : Int), q, k, t, j, A, n, c, d⟩]) ∧ Below V2.heap.size V2 W8) (fun X hX => HA16.out _ _ _ X _ hX) rfl (.tmp 44) (.tmp 46) (by rfl) (by rfl) (by rfl) ⟨HM.out.1, HM.out.2.1, (HM.out.2.2.block V2.heap.size (by first | exact (Nat.lt_of_lt_of_eq (Nat.lt_succ_self _) (wsize_alloc V2 _).symm))).trans (heap_alloc_new V2 _)⟩ ?_; intro A8 n8 c8 W8 he8; have HE8 := Lib.hid he8; have z4 : W8.cell? ⟨p, 4, none⟩ = some (.slice A7 L c7) := wcell_at ((he8.2.block p HLW.out.1).trans HP2.out); have zf4 : W8.frozen? ⟨p, 4, none⟩ = false := wfroz_at ((he8.2.block p HLW.out.1).trans HP2.out); clear he8))
  all_goals
    go_wp2_with fail
    go_ret
    exact ⟨rfl, (fun h => ⟨⟨_, _, h.2.1, h.1⟩, h.2.2⟩) (md_end HJ.out HKV.out HK2.out HS2.out HP2.out HO2.out HE8.out.2 ⟨(O : Int), q, k, t, j, A, n, c, d⟩ HE8.out.1 HAX.out)⟩
end Go.Proofs.YtgjbnebmcmoilaaGreatDoor
