/- The keys of calls (printed by wip/genEs.py). -/
import Derived.Test.YtmocoiamhphhnaaGreatDoorEr
import Derived.Shelf.Slices.Turned
namespace Go.Proofs.YtmocoiamhphhnaaGreatDoor
set_option linter.unusedVariables false
set_option linter.unusedSimpArgs false
open Go.RowKit Go.MapKept

theorem own_cell {W : World} {B g n cap : Nat} {l : List (List UInt8)} (h : OwnS W B (.slice (some ⟨g, 0, none⟩) n cap) l) (hn : n = l.length) {j : Nat} {x : List UInt8} (hx : l[j]? = some x) : W.cell? ⟨g, j, none⟩ = some (encStr x) := by
  have h0 : 0 < l.length := by have := (List.getElem?_eq_some_iff.1 hx).1; omega
  obtain ⟨g', cap', hv, _, _, hc⟩ := nown_cell h h0
  injection hv with h1 h2 h3
  injection h1 with h1
  injection h1 with h1
  subst h1
  exact hc j _ (by simp [hx])
theorem key_none (w : World) : Calls Tryz.prog 26 #[.string ⟨#[]⟩] w fun e w' => e = .returned (.bool false) ∧ Below w.heap.size w w' := by
  have h := key_any ⟨#[]⟩ (by decide) w
  rwa [show keyL (ByteArray.mk #[]).data.toList = false by decide] at h
theorem sort_ba : (([[98], [97]] : List (List UInt8)).mergeSort fun x y => decide (x ≤ y)) = [[97], [98]] := by
  simp [List.mergeSort, List.MergeSort.Internal.splitInTwo, List.merge]
  try decide
theorem sort_a : (([[97]] : List (List UInt8)).mergeSort fun x y => decide (x ≤ y)) = [[97]] := by simp [List.mergeSort]

def KeysOut_merge (w : World) (e : Ending) (w' : World) : Prop := e = .returned (.slice none 0 0) ∧ Below w.heap.size w w'
set_option maxRecDepth 100000 in
set_option maxHeartbeats 1000000 in
theorem keys_merge (w : World) (hE : Env w) : Calls Tryz.prog 35 #[.agg #[.int .i64 9, .string ⟨#[]⟩, .string ⟨#[]⟩, .string ⟨#[]⟩, .int .i64 0, .slice none 0 0]] w (KeysOut_merge w) := by
  have HE := Lib.hid hE
  clear hE
  have HB := Lib.hid (Below.refl w.heap.size w)
  go_enter Tryz.func35, Tryz.ntmps35
  go_wp2_with fail
  refine (formed_merge _ (HE.out.later (nbl_al HB.out))).mono ?_
  rintro e w1 ⟨rfl, hb⟩
  replace HB := Lib.hid (nbl_step HB.out (nbl_new hb))
  have c1 : HeapIs w1 w.heap.size (.cells #[.int .i64 9, .string ⟨#[]⟩, .string ⟨#[]⟩, .string ⟨#[]⟩, .int .i64 0, .slice none 0 0] 29 (0, 0)) := (HeapIs.new w _).below hb
  have c1r0 := c1.cell (j := 0) (v := .int .i64 9) rfl
  have c1r1 := c1.cell (j := 1) (v := .string ⟨#[]⟩) rfl
  have c1r2 := c1.cell (j := 2) (v := .string ⟨#[]⟩) rfl
  have c1r3 := c1.cell (j := 3) (v := .string ⟨#[]⟩) rfl
  have c1r4 := c1.cell (j := 4) (v := .int .i64 0) rfl
  have c1r5 := c1.cell (j := 5) (v := .slice none 0 0) rfl
  clear hb c1
  go_wp2_with fail
  refine wp_loop_rounds 3 ?_
  rw [rounds_succ]
  go_wp2_with fail
  refine (key_none _).mono ?_
  rintro e w2 ⟨rfl, hb⟩
  have kb2 : HeapIs w2 w1.heap.size (.cells #[.string ⟨#[]⟩, .string ⟨#[]⟩] 9 (0, 0)) := (HeapIs.new w1 _).below hb
  replace HB := Lib.hid (nbl_step HB.out (nbl_new hb))
  have kb2r0 := kb2.cell (j := 0) (v := .string ⟨#[]⟩) rfl
  have kb2r1 := kb2.cell (j := 1) (v := .string ⟨#[]⟩) rfl
  clear hb
  go_wp2_with fail
  rw [rounds_succ]
  go_wp2_with fail
  refine (key_none _).mono ?_
  rintro e w3 ⟨rfl, hb⟩
  have kb3 : HeapIs w3 w1.heap.size (.cells #[.string ⟨#[]⟩, .string ⟨#[]⟩] 9 (0, 0)) := kb2.below hb
  replace HB := Lib.hid (nbl_step HB.out hb)
  have kb3r0 := kb3.cell (j := 0) (v := .string ⟨#[]⟩) rfl
  have kb3r1 := kb3.cell (j := 1) (v := .string ⟨#[]⟩) rfl
  clear hb
  go_wp2_with fail
  rw [rounds_succ]
  go_wp2_with fail
  refine (Tryz.slices_Sort_string_none none 0 _).mono ?_
  rintro e wx ⟨rfl, hwx⟩
  rw [hwx]
  clear hwx
  go_wp2
  go_ret
  exact ⟨rfl, HB.out⟩

def KeysOut_login (w : World) (e : Ending) (w' : World) : Prop := ∃ g cap : Nat, e = .returned (.slice (some ⟨g, 0, none⟩) 1 cap) ∧ w'.cell? ⟨g, 0, none⟩ = some (.string ⟨#[97]⟩) ∧ Below w.heap.size w w'
set_option maxRecDepth 100000 in
set_option maxHeartbeats 1000000 in
theorem keys_login (w : World) (hE : Env w) : Calls Tryz.prog 35 #[.agg #[.int .i64 7, .string ⟨#[97]⟩, .string ⟨#[65]⟩, .string ⟨#[]⟩, .int .i64 0, .slice none 0 0]] w (KeysOut_login w) := by
  have HE := Lib.hid hE
  clear hE
  have HB := Lib.hid (Below.refl w.heap.size w)
  go_enter Tryz.func35, Tryz.ntmps35
  go_wp2_with fail
  refine (formed_login _ (HE.out.later (nbl_al HB.out))).mono ?_
  rintro e w1 ⟨rfl, hb⟩
  replace HB := Lib.hid (nbl_step HB.out (nbl_new hb))
  have c1 : HeapIs w1 w.heap.size (.cells #[.int .i64 7, .string ⟨#[97]⟩, .string ⟨#[65]⟩, .string ⟨#[]⟩, .int .i64 0, .slice none 0 0] 29 (0, 0)) := (HeapIs.new w _).below hb
  have c1r0 := c1.cell (j := 0) (v := .int .i64 7) rfl
  have c1r1 := c1.cell (j := 1) (v := .string ⟨#[97]⟩) rfl
  have c1r2 := c1.cell (j := 2) (v := .string ⟨#[65]⟩) rfl
  have c1r3 := c1.cell (j := 3) (v := .string ⟨#[]⟩) rfl
  have c1r4 := c1.cell (j := 4) (v := .int .i64 0) rfl
  have c1r5 := c1.cell (j := 5) (v := .slice none 0 0) rfl
  clear hb c1
  go_wp2_with fail
  refine wp_loop_rounds 3 ?_
  rw [rounds_succ]
  go_wp2_with fail
  refine (key_a _).mono ?_
  rintro e w2 ⟨rfl, hb⟩
  have kb2 : HeapIs w2 w1.heap.size (.cells #[.string ⟨#[97]⟩, .string ⟨#[65]⟩] 9 (0, 0)) := (HeapIs.new w1 _).below hb
  replace HB := Lib.hid (nbl_step HB.out (nbl_new hb))
  have kb2r0 := kb2.cell (j := 0) (v := .string ⟨#[97]⟩) rfl
  have kb2r1 := kb2.cell (j := 1) (v := .string ⟨#[65]⟩) rfl
  clear hb
  go_wp2_with fail
  refine (Tryz.slices_Contains_string_empty none 0 ⟨#[97]⟩ _).mono ?_
  rintro e wx ⟨rfl, hwx⟩
  rw [hwx]
  clear hwx
  obtain ⟨g1, cp1, w3, hr, ho, hb, hk, hg⟩ := append_str (w := w) (wx := w2) (v := .slice none 0 0) (l := []) (nown_none _ _ _ _) HB.out (by decide) ⟨#[97]⟩ [97] rfl
  replace hr : ∀ ty, (Builtin.append_ #[42, 42] ty #[.slice none 0 0, .slice (some ⟨w2.heap.size, 0, none⟩) 1 1]).run Tryz.prog (w2.alloc (.cells #[.string ⟨#[97]⟩] 9)) = .ok (.slice (some ⟨g1, 0, none⟩) 1 cp1) w3 := hr
  have hne : some w1.heap.size ≠ (.slice none 0 0 : Value).ownBlock := by simp [Value.ownBlock]
  have kb3 : HeapIs w3 w1.heap.size (.cells #[.string ⟨#[97]⟩, .string ⟨#[65]⟩] 9 (0, 0)) := (hk _ (Array.getElem?_eq_some_iff.1 kb2.raw).1 hne).trans kb2.raw
  have kb3r0 := kb3.cell (j := 0) (v := .string ⟨#[97]⟩) rfl
  have kb3r1 := kb3.cell (j := 1) (v := .string ⟨#[65]⟩) rfl
  have HO := Lib.hid ho
  replace HB := Lib.hid hb
  clear hb hk hne ho hg
  go_wp2_with (first | (at_builtin; refine wpList_append_eq hr rfl (.tmp 27) (.tmp 29) rfl rfl rfl ?_) | fail)
  clear hr
  go_wp2_with fail
  rw [rounds_succ]
  go_wp2_with fail
  refine (key_A _).mono ?_
  rintro e w4 ⟨rfl, hb⟩
  have kb4 : HeapIs w4 w1.heap.size (.cells #[.string ⟨#[97]⟩, .string ⟨#[65]⟩] 9 (0, 0)) := kb3.below hb
  replace HB := Lib.hid (nbl_step HB.out hb)
  replace HO := Lib.hid (nown_below HO.out hb)
  have kb4r0 := kb4.cell (j := 0) (v := .string ⟨#[97]⟩) rfl
  have kb4r1 := kb4.cell (j := 1) (v := .string ⟨#[65]⟩) rfl
  clear hb
  go_wp2_with fail
  rw [rounds_succ]
  go_wp2_with fail
  refine (sort_own w _ _ [[97]] HO.out HB.out (by decide)).mono ?_
  rintro e wx ⟨rfl, ho, hb⟩
  rw [sort_a] at ho
  replace HO := Lib.hid ho
  replace HB := Lib.hid hb
  clear ho hb
  go_wp2
  go_ret
  exact ⟨g1, cp1, rfl, own_cell HO.out rfl (j := 0) rfl, HB.out⟩

def KeysOut_wishba (w : World) (e : Ending) (w' : World) : Prop := ∃ g cap : Nat, e = .returned (.slice (some ⟨g, 0, none⟩) 2 cap) ∧ w'.cell? ⟨g, 0, none⟩ = some (.string ⟨#[97]⟩) ∧ w'.cell? ⟨g, 1, none⟩ = some (.string ⟨#[98]⟩) ∧ Below w.heap.size w w'
set_option maxRecDepth 100000 in
set_option maxHeartbeats 1000000 in
theorem keys_wishba (w : World) (hE : Env w) : Calls Tryz.prog 35 #[.agg #[.int .i64 6, .string ⟨#[98]⟩, .string ⟨#[97]⟩, .string ⟨#[120]⟩, .int .i64 0, .slice none 0 0]] w (KeysOut_wishba w) := by
  have HE := Lib.hid hE
  clear hE
  have HB := Lib.hid (Below.refl w.heap.size w)
  go_enter Tryz.func35, Tryz.ntmps35
  go_wp2_with fail
  refine (formed_wishba _ (HE.out.later (nbl_al HB.out))).mono ?_
  rintro e w1 ⟨rfl, hb⟩
  replace HB := Lib.hid (nbl_step HB.out (nbl_new hb))
  have c1 : HeapIs w1 w.heap.size (.cells #[.int .i64 6, .string ⟨#[98]⟩, .string ⟨#[97]⟩, .string ⟨#[120]⟩, .int .i64 0, .slice none 0 0] 29 (0, 0)) := (HeapIs.new w _).below hb
  have c1r0 := c1.cell (j := 0) (v := .int .i64 6) rfl
  have c1r1 := c1.cell (j := 1) (v := .string ⟨#[98]⟩) rfl
  have c1r2 := c1.cell (j := 2) (v := .string ⟨#[97]⟩) rfl
  have c1r3 := c1.cell (j := 3) (v := .string ⟨#[120]⟩) rfl
  have c1r4 := c1.cell (j := 4) (v := .int .i64 0) rfl
  have c1r5 := c1.cell (j := 5) (v := .slice none 0 0) rfl
  clear hb c1
  go_wp2_with fail
  refine wp_loop_rounds 3 ?_
  rw [rounds_succ]
  go_wp2_with fail
  refine (key_b _).mono ?_
  rintro e w2 ⟨rfl, hb⟩
  have kb2 : HeapIs w2 w1.heap.size (.cells #[.string ⟨#[98]⟩, .string ⟨#[97]⟩] 9 (0, 0)) := (HeapIs.new w1 _).below hb
  replace HB := Lib.hid (nbl_step HB.out (nbl_new hb))
  have kb2r0 := kb2.cell (j := 0) (v := .string ⟨#[98]⟩) rfl
  have kb2r1 := kb2.cell (j := 1) (v := .string ⟨#[97]⟩) rfl
  clear hb
  go_wp2_with fail
  refine (Tryz.slices_Contains_string_empty none 0 ⟨#[98]⟩ _).mono ?_
  rintro e wx ⟨rfl, hwx⟩
  rw [hwx]
  clear hwx
  obtain ⟨g1, cp1, w3, hr, ho, hb, hk, hg⟩ := append_str (w := w) (wx := w2) (v := .slice none 0 0) (l := []) (nown_none _ _ _ _) HB.out (by decide) ⟨#[98]⟩ [98] rfl
  replace hr : ∀ ty, (Builtin.append_ #[42, 42] ty #[.slice none 0 0, .slice (some ⟨w2.heap.size, 0, none⟩) 1 1]).run Tryz.prog (w2.alloc (.cells #[.string ⟨#[98]⟩] 9)) = .ok (.slice (some ⟨g1, 0, none⟩) 1 cp1) w3 := hr
  have hne : some w1.heap.size ≠ (.slice none 0 0 : Value).ownBlock := by simp [Value.ownBlock]
  have kb3 : HeapIs w3 w1.heap.size (.cells #[.string ⟨#[98]⟩, .string ⟨#[97]⟩] 9 (0, 0)) := (hk _ (Array.getElem?_eq_some_iff.1 kb2.raw).1 hne).trans kb2.raw
  have kb3r0 := kb3.cell (j := 0) (v := .string ⟨#[98]⟩) rfl
  have kb3r1 := kb3.cell (j := 1) (v := .string ⟨#[97]⟩) rfl
  have HNE : Hid (w1.heap.size ≠ g1) := Lib.hid (by
    rcases hg with hg | hg
    · cases hg
    · have h1 := (Array.getElem?_eq_some_iff.1 kb2.raw).1
      omega)
  have HO := Lib.hid ho
  replace HB := Lib.hid hb
  clear hb hk hne ho hg
  go_wp2_with (first | (at_builtin; refine wpList_append_eq hr rfl (.tmp 27) (.tmp 29) rfl rfl rfl ?_) | fail)
  clear hr
  go_wp2_with fail
  rw [rounds_succ]
  go_wp2_with fail
  refine (key_a _).mono ?_
  rintro e w4 ⟨rfl, hb⟩
  have kb4 : HeapIs w4 w1.heap.size (.cells #[.string ⟨#[98]⟩, .string ⟨#[97]⟩] 9 (0, 0)) := kb3.below hb
  replace HB := Lib.hid (nbl_step HB.out hb)
  replace HO := Lib.hid (nown_below HO.out hb)
  have kb4r0 := kb4.cell (j := 0) (v := .string ⟨#[98]⟩) rfl
  have kb4r1 := kb4.cell (j := 1) (v := .string ⟨#[97]⟩) rfl
  clear hb
  have hcc : ∀ j, j < ([(⟨#[98]⟩ : ByteArray)] : List ByteArray).length → w4.cell? ⟨g1, 0 + j, none⟩ = some (.string (([(⟨#[98]⟩ : ByteArray)] : List ByteArray).getD j ByteArray.empty)) := by
    intro j hj
    match j, hj with
    | 0, _ => exact own_cell HO.out rfl (j := 0) rfl
  go_wp2_with fail
  refine (Tryz.slices_Contains_string g1 0 1 cp1 [(⟨#[98]⟩ : ByteArray)] ⟨#[97]⟩ _ (by decide) (by decide) hcc).mono ?_
  rintro e wx ⟨rfl, hwx⟩
  rw [hwx]
  clear hwx
  have hct : Lib.containsS (([(⟨#[98]⟩ : ByteArray)] : List ByteArray).take 1) ⟨#[97]⟩ = false := by decide
  rw [hct]
  clear hcc hct
  obtain ⟨g2, cp2, w5, hr, ho, hb, hk, hg⟩ := append_str (w := w) (wx := w4) (v := .slice (some ⟨g1, 0, none⟩) 1 cp1) (l := [[98]]) HO.out HB.out (by decide) ⟨#[97]⟩ [97] rfl
  replace hr : ∀ ty, (Builtin.append_ #[42, 42] ty #[.slice (some ⟨g1, 0, none⟩) 1 cp1, .slice (some ⟨w4.heap.size, 0, none⟩) 1 1]).run Tryz.prog (w4.alloc (.cells #[.string ⟨#[97]⟩] 9)) = .ok (.slice (some ⟨g2, 0, none⟩) 2 cp2) w5 := hr
  have hne : some w1.heap.size ≠ (.slice (some ⟨g1, 0, none⟩) 1 cp1 : Value).ownBlock := by
    intro he
    have h1 := nown_block HO.out (g := w1.heap.size) he.symm
    exact HNE.out (by simpa [Value.ownBlock] using he)
  have kb5 : HeapIs w5 w1.heap.size (.cells #[.string ⟨#[98]⟩, .string ⟨#[97]⟩] 9 (0, 0)) := (hk _ (Array.getElem?_eq_some_iff.1 kb4.raw).1 hne).trans kb4.raw
  have kb5r0 := kb5.cell (j := 0) (v := .string ⟨#[98]⟩) rfl
  have kb5r1 := kb5.cell (j := 1) (v := .string ⟨#[97]⟩) rfl
  have HO := Lib.hid ho
  replace HB := Lib.hid hb
  clear hb hk hne ho hg
  go_wp2_with (first | (at_builtin; refine wpList_append_eq hr rfl (.tmp 27) (.tmp 29) rfl rfl rfl ?_) | fail)
  clear hr
  rw [rounds_succ]
  go_wp2_with fail
  refine (sort_own w _ _ [[98], [97]] HO.out HB.out (by decide)).mono ?_
  rintro e wx ⟨rfl, ho, hb⟩
  rw [sort_ba] at ho
  replace HO := Lib.hid ho
  replace HB := Lib.hid hb
  clear ho hb
  go_wp2
  go_ret
  exact ⟨g2, cp2, rfl, own_cell HO.out rfl (j := 0) rfl, own_cell HO.out rfl (j := 1) rfl, HB.out⟩

end Go.Proofs.YtmocoiamhphhnaaGreatDoor

