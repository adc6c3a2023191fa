/- Append. -/
import Derived.Test.YtgjbnebmcmoilaaGreatDoorVd
namespace Go.Proofs.YtgjbnebmcmoilaaGreatDoor
set_option linter.unusedVariables false
set_option linter.unusedSimpArgs false
open Go.RowKit Go.MapKept
set_option maxRecDepth 100000 in
set_option maxHeartbeats 4000000 in
theorem jappend_good (w : World) (B p : Nat) (r s i o : Int) (data : Bs) (sum : Int) (l : List JC) (dv cv : Value) (h : JrAt w B p r s i o data sum l dv cv) (hE : Env1 w)
    (O : Nat) (q : Int) (k t j : ByteArray) (A : Option Addr) (n c : Nat) (d : Bs) (h1 : 1 ≤ O) (h2 : O < 12) (hv : validB (O : Int) q k t j n = true) (hk : k.size ≤ 100000) (ht : t.size ≤ 100000) (hj : j.size ≤ 100000) (hd : BAt w (.slice A n c) d) (hdl : d.length ≤ 100000) (hll : l.length < 2000) (hdat : data.length ≤ 5000000) :
    Calls Tryz.prog 10 #[.pointer (some ⟨p, 0, none⟩), .agg #[.int .i64 (O : Int), .string k, .string t, .string j, .int .i64 q, .slice A n c]] w fun e w' => e = .returned (.int .i64 0) ∧ ∃ A' c' dv' cv', JrAt w' B p r s i o (data ++ recB (O : Int) q k t j d sum) (crcU sum (headB (O : Int) q k t j d)) (l ++ [⟨(O : Int), q, k, t, j, A', n, c', d⟩]) dv' cv' ∧ NewOwn w dv dv' ∧ NewOwn w cv cv' ∧ Kjr p dv.ownBlock cv.ownBlock w w' ∧ ∀ a, A' = some a → w.heap.size ≤ a.block := by
  have HN := Lib.hid (fun W (hb : Below w.heap.size w W) => jnone_any W B p r s i o data sum l dv cv (h.below hb))
  have HV : Hid (∀ W, Below w.heap.size w W → Calls Tryz.prog 34 #[.agg #[.int .i64 (O : Int), .string k, .string t, .string j, .int .i64 q, .slice A n c]] W fun e w' => e = .returned (.bool true) ∧ Below W.heap.size W w') := Lib.hid fun W hb => by
    have := valid_any (O : Int) q k t j A n c hk ht hj W (hE.below hb)
    rw [hv] at this
    exact this
  obtain ⟨sm, hsm⟩ : ∃ sm, crcU sum (headB (O : Int) q k t j d) = sm := ⟨_, rfl⟩
  have hrl : (recB (O : Int) q k t j d sum).length ≤ 1000000 := by
    unfold recB headB
    rw [List.length_append]
    have e1 := strB_len ⟨(encB (O : Int) q k t j d).toArray⟩
    have e2 := encB_len O h1 h2 q k t j d hk ht hj hdl
    have e3 : ∀ s, (be4 s).length = 4 := fun _ => rfl
    have e4 : (⟨(encB (O : Int) q k t j d).toArray⟩ : ByteArray).size = (encB (O : Int) q k t j d).length := rfl
    rw [e4] at e1
    rw [e3]
    omega
  obtain ⟨rb, hrb⟩ : ∃ rb, recB (O : Int) q k t j d sum = rb := ⟨_, rfl⟩
  rw [hsm, hrb]
  rw [hrb] at hrl
  have HRL := Lib.hid hrl
  clear hrl
  have HR : Hid (∀ W, Below w.heap.size w W → Calls Tryz.prog 35 #[.agg #[.int .i64 (O : Int), .string k, .string t, .string j, .int .i64 q, .slice A n c], .int .u32 sum] W fun e w' => (∃ r, e = .returned (.tuple #[r, .int .u32 sm, .int .i64 0]) ∧ OwnB w' W.heap.size r rb) ∧ Below W.heap.size W w') := Lib.hid fun W hb => by
    have := record_good O q sum k t j A n c d h1 h2 hv hk ht hj W (hE.below hb) (hd.below hb) hdl
    rw [hsm, hrb] at this
    exact this
  have HC : Hid (∀ W, Below w.heap.size w W → Calls Tryz.prog 36 #[.slice A n c] W fun e w' => (∃ A' c', e = .returned (.slice A' n c') ∧ BAt w' (.slice A' n c') d ∧ ∀ a, A' = some a → W.heap.size ≤ a.block ∧ a.block < w'.heap.size) ∧ Below W.heap.size W w') := Lib.hid fun W hb => bclone_any W A n c d (hd.below hb) (by omega)
  have HJ := Lib.hid h
  obtain ⟨A5, n5, c5, rfl⟩ := own_slice h.dat
  obtain ⟨A7, c7, rfl⟩ := calls_len h
  have z6 : w.cell? ⟨p, 6, none⟩ = some (.int .u32 sum) := wcell_at h.hp
  have z7 : w.cell? ⟨p, 7, none⟩ = some (.slice A7 l.length c7) := wcell_at h.hp
  have dl : decide ((2000 : Int) ≤ (l.length : Int)) = false := decide_eq_false (by omega)
  have HL := Lib.hid hll
  have HD := Lib.hid hdat
  obtain ⟨L, hL⟩ : ∃ L, l.length = L := ⟨_, rfl⟩
  rw [hL] at z7 dl
  have HLL := Lib.hid hL
  clear hL h hE hv hk ht hj hd hdl hll hdat hsm hrb h1 h2
  go_enter Tryz.func10, Tryz.ntmps10
  go_wp2_with (first | (go_at_call 33; refine (HN.out _ (below_alloc _ _)).mono ?_; rintro e w1 ⟨rfl, hw⟩; obtain rfl := hw.symm; clear hw) | (go_at_call 34; refine (HV.out _ (below_alloc _ _)).mono ?_; rintro e w2 ⟨rfl, hb⟩; have HB2 := Lib.hid (nbl_step (below_alloc _ _) hb); have HX2 : Hid (w2.heap[w.heap.size]? = some (.cells #[.int .i64 (O : Int), .string k, .string t, .string j, .int .i64 q, .slice A n c] 40 (0, 0))) := Lib.hid ((hb.block _ (by rw [wsize_alloc]; omega)).trans (heap_alloc_new w _)); have HL2 : Hid (w.heap.size < w2.heap.size) := Lib.hid (by have := hb.size; rw [wsize_alloc] at this; omega); have b0 : w2.cell? ⟨w.heap.size, 0, none⟩ = some (.int .i64 (O : Int)) := cell_below hb (new_cells w _ _ 0); have b1 : w2.cell? ⟨w.heap.size, 1, none⟩ = some (.string k) := cell_below hb (new_cells w _ _ 1); have b2 : w2.cell? ⟨w.heap.size, 2, none⟩ = some (.string t) := cell_below hb (new_cells w _ _ 2); have b3 : w2.cell? ⟨w.heap.size, 3, none⟩ = some (.string j) := cell_below hb (new_cells w _ _ 3); have b4 : w2.cell? ⟨w.heap.size, 4, none⟩ = some (.int .i64 q) := cell_below hb (new_cells w _ _ 4); have b5 : w2.cell? ⟨w.heap.size, 5, none⟩ = some (.slice A n c) := cell_below hb (new_cells w _ _ 5); clear hb; have y6 := cell_below HB2.out z6; have y7 := cell_below HB2.out z7))
  have q0 : p ≠ w.heap.size := Nat.ne_of_lt HJ.out.lt
  go_region_held3 (fun w' => w'.cell? ⟨w.heap.size, 0, none⟩ = some (.int .i64 (O : Int)) ∧ w'.cell? ⟨w.heap.size, 1, none⟩ = some (.string k) ∧ w'.cell? ⟨w.heap.size, 2, none⟩ = some (.string t) ∧ w'.cell? ⟨w.heap.size, 3, none⟩ = some (.string j) ∧ w'.cell? ⟨w.heap.size, 4, none⟩ = some (.int .i64 q) ∧ w'.cell? ⟨w.heap.size, 5, none⟩ = some (.slice A n c) ∧ w'.cell? ⟨p, 6, none⟩ = some (.int .u32 sum)) (first | go_keep | (exact ⟨cell_below HB3.out (cell_below (Below.refl _ _).drew b0), cell_below HB3.out (cell_below (Below.refl _ _).drew b1), cell_below HB3.out (cell_below (Below.refl _ _).drew b2), cell_below HB3.out (cell_below (Below.refl _ _).drew b3), cell_below HB3.out (cell_below (Below.refl _ _).drew b4), cell_below HB3.out (cell_below (Below.refl _ _).drew b5), cell_below HB3.out (cell_below (Below.refl _ _).drew y6)⟩)) (first | (go_at_call 35; refine (HR.out _ (nbl_step HB2.out (Below.refl _ _).drew)).mono ?_; rintro e w3 ⟨⟨rv, rfl, hr⟩, hb⟩; obtain ⟨Ar, nr, cr, rfl⟩ := own_slice hr; have HR3 := Lib.hid hr; have HB3 := Lib.hid hb; have HB4 := Lib.hid (nbl_step HB2.out (nbl_step (Below.refl _ _).drew hb)); clear hb hr) | fail)
  go_wp2_with (first | (go_at_call 36; refine (HC.out _ HB4.out).mono ?_; rintro e w5 ⟨⟨Ac, cc, rfl, hbc, hcn⟩, hb⟩; have HBC := Lib.hid hbc; have HCN := Lib.hid hcn; have HB5 := Lib.hid (nbl_step HB4.out hb); have HX5 : Hid (w5.heap[w.heap.size]? = some (.cells #[.int .i64 (O : Int), .string k, .string t, .string j, .int .i64 q, .slice A n c] 40 (0, 0))) := Lib.hid ((hb.block _ (Nat.lt_of_lt_of_le HL2.out HB3.out.size)).trans ((HB3.out.block _ HL2.out).trans HX2.out)); have x5 := wcell_at (i := 5) HX5.out; have f5 := wfroz_at (i := 5) HX5.out; have HB6 := Lib.hid hb; clear hbc hcn hb))
  have HBV : Hid (Below w.heap.size w (w5.setCell ⟨w.heap.size, 5, none⟩ (.slice Ac n cc))) := Lib.hid (wbelow_set HB5.out (Nat.le_refl _) _)
  have HXV : Hid ((w5.setCell ⟨w.heap.size, 5, none⟩ (.slice Ac n cc)).heap[w.heap.size]? = some (.cells #[.int .i64 (O : Int), .string k, .string t, .string j, .int .i64 q, .slice Ac n cc] 40 (0, 0))) := Lib.hid (wheap_set HX5.out)
  have HRV : Hid (OwnB (w5.setCell ⟨w.heap.size, 5, none⟩ (.slice Ac n cc)) w2.drew.heap.size (.slice Ar nr cr) rb) := Lib.hid (nown_keep (nown_below HR3.out HB6.out) fun g hg => wheap_setN _ _ _ _ (by have h1 := (nown_block HR3.out hg).1; have h2 := HL2.out; exact Nat.ne_of_gt (Nat.lt_of_lt_of_le h2 h1)))
  have HCV : Hid (BAt (w5.setCell ⟨w.heap.size, 5, none⟩ (.slice Ac n cc)) (.slice Ac n cc) d ∧ ∀ a, Ac = some a → w.heap.size < a.block ∧ a.block < (w5.setCell ⟨w.heap.size, 5, none⟩ (.slice Ac n cc)).heap.size) := Lib.hid ⟨bat_keep HBC.out fun a ha => wheap_setN _ _ _ _ (Nat.ne_of_gt (Nat.lt_of_lt_of_le HL2.out (Nat.le_trans HB3.out.size (HCN.out a ha).1))), fun a ha => ⟨Nat.lt_of_lt_of_le HL2.out (Nat.le_trans HB3.out.size (HCN.out a ha).1), by rw [World.size_setCell]; exact (HCN.out a ha).2⟩⟩
  have HVL : Hid (w.heap.size < (w5.setCell ⟨w.heap.size, 5, none⟩ (.slice Ac n cc)).heap.size) := Lib.hid (by rw [World.size_setCell]; exact Nat.lt_of_lt_of_le HL2.out (Nat.le_trans HB3.out.size HB6.out.size))
  clear HBC HCN HB4 HB5 HB6 HX5 HX2 HR3 HC HR HV HN HB2 HB3 x5 f5 b0 b1 b2 b3 b4 b5 y6 y7 z6 z7
  generalize w5.setCell ⟨w.heap.size, 5, none⟩ (.slice Ac n cc) = V at *
  have HJV : Hid (JrAt V B p r s i o data sum l (.slice A5 n5 c5) (.slice A7 L c7)) := Lib.hid (by rw [← HLL.out]; exact HJ.out.below HBV.out)
  have HA8 : Hid (∀ X, Below V.heap.size V X → ∃ A' n' c' W6, (∀ ty, (Builtin.append_ #[31, 31] ty #[.slice A5 n5 c5, .slice Ar nr cr]).run Tryz.prog X = .ok (.slice A' n' c') W6) ∧ (Mid V W6 B l.length (l.flatMap JC.cells) (.slice A5 n5 c5) (.slice A7 L c7) (.slice A' n' c') (data ++ rb) ∧ X.grownBy W6 (Value.slice A5 n5 c5).ownBlock)) := Lib.hid fun X hX => mid_start HJV.out (OwnB.sl HRV.out) (by have h1 := HD.out; have h2 := HRL.out; omega) hX
  have HA16 : Hid (∀ v6 X Y, (Mid V X B l.length (l.flatMap JC.cells) (.slice A5 n5 c5) (.slice A7 L c7) v6 (data ++ rb) ∧ X.heap[Y]? = some (.cells #[.int .i64 (O : Int), .string k, .string t, .string j, .int .i64 q, .slice Ac n cc] 40 (0, 0))) → ∃ g c' W8, (∀ ty, (Builtin.append_ #[30, 30] ty #[.slice A7 L c7, .slice (some ⟨Y, 0, none⟩) 1 1]).run Tryz.prog X = .ok (.slice (some ⟨g, 0, none⟩) (L + 1) c') W8) ∧ EndOk V W8 B p r s i o sum (data ++ rb) sm l ⟨(O : Int), q, k, t, j, Ac, n, cc, d⟩ (.slice A5 n5 c5) (.slice A7 L c7) v6 (.slice (some ⟨g, 0, none⟩) (L + 1) c')) := Lib.hid fun v6 X Y hX => by
    have := mid_end HJV.out ⟨(O : Int), q, k, t, j, Ac, n, cc, d⟩ sm ⟨HCV.out.1, fun a ha => ⟨(HCV.out.2 a ha).2, Nat.ne_of_gt (Nat.lt_trans HJ.out.lt (HCV.out.2 a ha).1), fun e => Nat.lt_asymm (nown_block HJ.out.dat e).2 (HCV.out.2 a ha).1, fun e => Nat.lt_asymm (nown_block HJ.out.cls (by rw [HLL.out]; exact e)).2 (HCV.out.2 a ha).1⟩⟩ (by have := HL.out; omega) X hX.1 Y hX.2
    rw [HLL.out] at this
    exact this
  have v5 : V.cell? ⟨p, 5, none⟩ = some (.slice A5 n5 c5) := wcell_at HJV.out.hp
  have v7 : V.cell? ⟨p, 7, none⟩ = some (.slice A7 L c7) := wcell_at HJV.out.hp
  have x0 : V.cell? ⟨w.heap.size, 0, none⟩ = some (.int .i64 (O : Int)) := wcell_at HXV.out
  have x1 : V.cell? ⟨w.heap.size, 1, none⟩ = some (.string k) := wcell_at HXV.out
  have x2 : V.cell? ⟨w.heap.size, 2, none⟩ = some (.string t) := wcell_at HXV.out
  have x3 : V.cell? ⟨w.heap.size, 3, none⟩ = some (.string j) := wcell_at HXV.out
  have x4 : V.cell? ⟨w.heap.size, 4, none⟩ = some (.int .i64 q) := wcell_at HXV.out
  have x5 : V.cell? ⟨w.heap.size, 5, none⟩ = some (.slice Ac n cc) := wcell_at HXV.out
  have va5 : ∀ X, (V.alloc X).cell? ⟨p, 5, none⟩ = some (.slice A5 n5 c5) := fun X => cell_below (below_alloc _ _) v5
  have va7 : ∀ X, (V.alloc X).cell? ⟨p, 7, none⟩ = some (.slice A7 L c7) := fun X => cell_below (below_alloc _ _) v7
  go_region_law
    (first | (refine step8 (M := fun X W6 v' => Mid V W6 B l.length (l.flatMap JC.cells) (.slice A5 n5 c5) (.slice A7 L c7) v' (data ++ rb) ∧ X.grownBy W6 (Value.slice A5 n5 c5).ownBlock) HA8.out rfl (.tmp 44) (.tmp 45) (by rfl) (by rfl) (by rfl) (by first | exact (Below.refl _ V).drew | exact nbl_al (Below.refl _ V).drew | exact (nbl_al (Below.refl _ V)).drew) ?_; intro A6 n6 c6 W6 hmg; have HM := Lib.hid hmg.1; have HG := Lib.hid hmg.2; clear hmg; have hb6 : W6.heap[w.heap.size]? = some (.cells #[.int .i64 (O : Int), .string k, .string t, .string j, .int .i64 q, .slice Ac n cc] 40 (0, 0)) := (HM.out.block w.heap.size HVL.out (fun e => Nat.lt_irrefl _ (nown_block HJ.out.dat e).2)).trans HXV.out; have k7 : W6.cell? ⟨p, 7, none⟩ = some (.slice A7 L c7) := wcell_at ((HM.out.block p HJV.out.lt HJV.out.dne).trans HJV.out.hp); have ka7 : ∀ X, (W6.alloc X).cell? ⟨p, 7, none⟩ = some (.slice A7 L c7) := fun X => cell_below (below_alloc _ _) k7; have y0 : W6.cell? ⟨w.heap.size, 0, none⟩ = some (.int .i64 (O : Int)) := wcell_at hb6; have y1 : W6.cell? ⟨w.heap.size, 1, none⟩ = some (.string k) := wcell_at hb6; have y2 : W6.cell? ⟨w.heap.size, 2, none⟩ = some (.string t) := wcell_at hb6; have y3 : W6.cell? ⟨w.heap.size, 3, none⟩ = some (.string j) := wcell_at hb6; have y4 : W6.cell? ⟨w.heap.size, 4, none⟩ = some (.int .i64 q) := wcell_at hb6; have y5 : W6.cell? ⟨w.heap.size, 5, none⟩ = some (.slice Ac n cc) := wcell_at hb6; clear hb6) | (refine step16 (Y := W6.heap.size) (R := fun X Y => Mid V X B l.length (l.flatMap JC.cells) (.slice A5 n5 c5) (.slice A7 L c7) (.slice A6 n6 c6) (data ++ rb) ∧ X.heap[Y]? = some (.cells #[.int .i64 (O : Int), .string k, .string t, .string j, .int .i64 q, .slice Ac n cc] 40 (0, 0))) (M := fun W8 v' => EndOk V W8 B p r s i o sum (data ++ rb) sm l ⟨(O : Int), q, k, t, j, Ac, n, cc, d⟩ (.slice A5 n5 c5) (.slice A7 L c7) (.slice A6 n6 c6) v') (fun X => HA16.out _ X _) rfl (.tmp 51) (.tmp 53) (by rfl) (by rfl) (by rfl) ⟨HM.out.below (below_alloc _ _), heap_alloc_new _ _⟩ ?_; intro g8 c8 W8 he8; have HE8 := Lib.hid he8; have z5 : W8.cell? ⟨p, 5, none⟩ = some (.slice A5 n5 c5) := wcell_at he8.1; have z6 : W8.cell? ⟨p, 6, none⟩ = some (.int .u32 sum) := wcell_at he8.1; have z7 : W8.cell? ⟨p, 7, none⟩ = some (.slice A7 L c7) := wcell_at he8.1; have zf5 : W8.frozen? ⟨p, 5, none⟩ = false := wfroz_at he8.1; have zf6 : W8.frozen? ⟨p, 6, none⟩ = false := wfroz_at he8.1; have zf7 : W8.frozen? ⟨p, 7, none⟩ = false := wfroz_at he8.1; clear he8) | (refine step16 (Y := V.heap.size) (R := fun X Y => Mid V X B l.length (l.flatMap JC.cells) (.slice A5 n5 c5) (.slice A7 L c7) (.slice A6 n6 c6) (data ++ rb) ∧ X.heap[Y]? = some (.cells #[.int .i64 (O : Int), .string k, .string t, .string j, .int .i64 q, .slice Ac n cc] 40 (0, 0))) (M := fun W8 v' => EndOk V W8 B p r s i o sum (data ++ rb) sm l ⟨(O : Int), q, k, t, j, Ac, n, cc, d⟩ (.slice A5 n5 c5) (.slice A7 L c7) (.slice A6 n6 c6) v') (fun X => HA16.out _ X _) rfl (.tmp 51) (.tmp 53) (by rfl) (by rfl) (by rfl) ⟨HM.out, (HG.out.block V.heap.size (Nat.lt_of_lt_of_eq (Nat.lt_succ_self _) (wsize_alloc V _).symm) (fun e => Nat.lt_irrefl _ (nown_block HJV.out.dat e.symm).2)).trans (heap_alloc_new V _)⟩ ?_; intro g8 c8 W8 he8; have HE8 := Lib.hid he8; have z5 : W8.cell? ⟨p, 5, none⟩ = some (.slice A5 n5 c5) := wcell_at he8.1; have z6 : W8.cell? ⟨p, 6, none⟩ = some (.int .u32 sum) := wcell_at he8.1; have z7 : W8.cell? ⟨p, 7, none⟩ = some (.slice A7 L c7) := wcell_at he8.1; have zf5 : W8.frozen? ⟨p, 5, none⟩ = false := wfroz_at he8.1; have zf6 : W8.frozen? ⟨p, 6, none⟩ = false := wfroz_at he8.1; have zf7 : W8.frozen? ⟨p, 7, none⟩ = false := wfroz_at he8.1; clear he8))
  all_goals
    go_wp2_with fail
    go_ret
    exact ⟨rfl, Ac, cc, _, _, HE8.out.2.1, NewOwn.earlier HE8.out.2.2.1 HBV.out.size, by rw [HLL.out]; exact NewOwn.earlier HE8.out.2.2.2.1 HBV.out.size, by rw [HLL.out]; exact Kjr.after HBV.out HE8.out.2.2.2.2, fun a ha => Nat.le_of_lt (HCV.out.2 a ha).1⟩
end Go.Proofs.YtgjbnebmcmoilaaGreatDoor
