/- The reference's Fields; the law NamesFields. -/
import Derived.Test.YtahklchfchjmcaaDoorOc
import Derived.Test.YtahklchfchjmcaaDoorNu
namespace Go.Proofs.YtahklchfchjmcaaDoor
set_option linter.unusedVariables false
set_option linter.unusedSimpArgs false
open Go.RowKit Go.MapKept

/-- What the reference's Fields hands back. -/
def RFldOut (w w' : World) (l : Bs) (e : Ending) : Prop :=
  Below w.heap.size w w' ∧ ((∃ xs v, fldL l = some xs ∧ e = .returned (.tuple #[v, .bool true]) ∧ OwnS w' w.heap.size v (xs.map bsOf)) ∨ (fldL l = none ∧ e = .returned (.tuple #[.slice none 0 0, .bool false])))

/-- What a round keeps. -/
structure RfAt (w wx : World) (L : Bs) (v : Value) (i : Nat) (acc : List Bs) : Prop where
  own : OwnS wx w.heap.size v (acc.map bsOf)
  below : Below w.heap.size w wx
  fld : fldL L = withL acc (fldL (L.drop i))
  le : i ≤ L.length
  len : acc.length ≤ i
theorem RfAt.later {w wx wy : World} {L : Bs} {v : Value} {i : Nat} {acc : List Bs} (h : RfAt w wx L v i acc) (hb : Below wx.heap.size wx wy) : RfAt w wy L v i acc :=
  ⟨nown_below h.own hb, nbl_step h.below hb, h.fld, h.le, h.len⟩
theorem drop_at {L : Bs} {i : Nat} {x : UInt8} (h : L[i]? = some x) : L.drop i = x :: L.drop (i + 1) := by
  have hk : i < L.length := (List.getElem?_eq_some_iff.1 h).1
  rw [List.drop_eq_getElem_cons hk]
  congr 1
  exact (List.getElem?_eq_some_iff.1 h).2
theorem RfAt.skip {w wx : World} {L : Bs} {v : Value} {i : Nat} {acc : List Bs} (h : RfAt w wx L v i acc) (hx : L[i]? = some 32) : RfAt w wx L v (i + 1) acc := by
  refine ⟨h.own, h.below, ?_, (List.getElem?_eq_some_iff.1 hx).1, by have := h.len; omega⟩
  rw [h.fld, drop_at hx, fldL_space]
/-- The list grows; the place is still the old one. -/
theorem RfAt.push {w wx : World} {L : Bs} {v : Value} {i : Nat} {acc : List Bs} (h : RfAt w wx L v i acc) (hi : i ≤ 100000) (x : Bs) :
    ∃ g cap w', (∀ ty, (Builtin.append_ #[68, 68] ty #[v, .slice (some ⟨wx.heap.size, 0, none⟩) 1 1]).run Tryd.prog (wx.alloc (.cells #[.string (bsOf x)] 9)) = .ok (.slice (some ⟨g, 0, none⟩) ((acc.map bsOf).length + 1) cap) w') ∧
      OwnS w' w.heap.size (.slice (some ⟨g, 0, none⟩) ((acc.map bsOf).length + 1) cap) ((acc ++ [x]).map bsOf) ∧ Below w.heap.size w w' := by
  have hlen := h.len
  obtain ⟨g, cap, w', hr', h2, h3⟩ := append_str (w := w) h.own h.below (by rw [List.length_map]; omega) (bsOf x)
  exact ⟨g, cap, w', hr', by rw [List.map_append]; exact h2, h3⟩

theorem field_word {L : Bs} {i : Nat} {x : UInt8} (hx : L[i]? = some x) (h34 : x ≠ 34) : fieldL (L.drop i) = some ((L.drop i).takeWhile plainB, (L.drop i).dropWhile plainB) := by
  unfold fieldL
  rw [if_neg (by rw [drop_at hx]; simpa using h34)]
theorem plain_drop (l : Bs) : l.drop (l.takeWhile plainB).length = l.dropWhile plainB := by
  have h := List.takeWhile_append_dropWhile (p := plainB) (l := l)
  conv => lhs; arg 2; rw [← h]
  rw [List.drop_left]
theorem plain_take (l : Bs) : l.take (l.takeWhile plainB).length = l.takeWhile plainB := by
  have h := List.takeWhile_append_dropWhile (p := plainB) (l := l)
  conv => lhs; arg 2; rw [← h]
  rw [List.take_left]
/-- Within the word every byte is plain; behind it none is. -/
theorem plain_in {L : Bs} {i j : Nat} {y : UInt8} (hij : i ≤ j) (hj : j < i + ((L.drop i).takeWhile plainB).length) (hy : L[j]? = some y) : plainB y = true := by
  have hlt : j - i < ((L.drop i).takeWhile plainB).length := by omega
  have h1 : ((L.drop i).takeWhile plainB)[j - i]? = some y := by
    have h := List.takeWhile_append_dropWhile (p := plainB) (l := L.drop i)
    have h2 : (L.drop i)[j - i]? = some y := by rw [List.getElem?_drop, show i + (j - i) = j by omega]; exact hy
    rw [← h, List.getElem?_append_left hlt] at h2
    exact h2
  have h3 := List.mem_of_getElem? h1
  exact List.all_takeWhile (p := plainB) (l := L.drop i) |> (List.all_eq_true.1 · y h3)
theorem plain_out {L : Bs} {i : Nat} {y : UInt8} (hy : L[i + ((L.drop i).takeWhile plainB).length]? = some y) : plainB y = false := by
  have h := List.head?_dropWhile_not (p := plainB) (l := L.drop i)
  have h2 : ((L.drop i).dropWhile plainB).head? = some y := by
    rw [← plain_drop, List.head?_drop, List.getElem?_drop]
    exact hy
  rw [h2] at h
  simpa using h
theorem word_pos {L : Bs} {i : Nat} {x : UInt8} (hx : L[i]? = some x) (h32 : x ≠ 32) (h34 : x ≠ 34) : 1 ≤ ((L.drop i).takeWhile plainB).length := by
  rw [drop_at hx, List.takeWhile_cons, if_pos (by simp [plainB, h32, h34])]
  simp
theorem word_le (L : Bs) (i : Nat) (hi : i ≤ L.length) : i + ((L.drop i).takeWhile plainB).length ≤ L.length := by
  have := (List.takeWhile_sublist (p := plainB) (l := L.drop i)).length_le
  rw [List.length_drop] at this
  omega
theorem okRest_at {L : Bs} {j : Nat} : okRest (L.drop j) = (decide (¬ j < L.length) || (L[j]? == some 32)) := by
  by_cases h : j < L.length
  · have hx : L[j]? = some L[j] := List.getElem?_eq_getElem h
    rw [hx, decide_eq_false (fun hn => hn h), Bool.false_or]
    have e := drop_at hx
    generalize L.drop j = D at e ⊢
    generalize L[j] = y at e ⊢
    generalize L.drop (j + 1) = T at e
    rw [e]
    simp [okRest]
  · rw [List.drop_eq_nil_of_le (by omega)]
    simp [okRest, h]
/-- Behind a field. -/
theorem RfAt.next {w wx wy : World} {L : Bs} {v u : Value} {i j : Nat} {acc : List Bs} (h : RfAt w wx L v i acc) {x : UInt8} (hx : L[i]? = some x) (h32 : x ≠ 32) {f : Bs × Bs} (hf : fieldL (L.drop i) = some f) (hj : f.2 = L.drop j) (hij : i < j) (hjl : j ≤ L.length)
    (ho : okRest (L.drop j) = true) (hown : OwnS wy w.heap.size u ((acc ++ [f.1]).map bsOf)) (hb : Below w.heap.size w wy) : RfAt w wy L u j (acc ++ [f.1]) := by
  refine ⟨hown, hb, ?_, hjl, by have := h.len; rw [List.length_append]; simp; omega⟩
  rw [h.fld, withL_step acc (by rw [drop_at hx]; simp) (by rw [drop_at hx]; simpa using h32) hf (by rw [hj]; exact ho), hj]
theorem RfAt.bad {w wx : World} {L : Bs} {v : Value} {i j : Nat} {acc : List Bs} (h : RfAt w wx L v i acc) {x : UInt8} (hx : L[i]? = some x) (h32 : x ≠ 32) {f : Bs × Bs} (hf : fieldL (L.drop i) = some f) (hj : f.2 = L.drop j) (ho : okRest (L.drop j) = false) : fldL L = none := by
  rw [h.fld]
  exact withL_bad acc (by rw [drop_at hx]; simp) (by rw [drop_at hx]; simpa using h32) hf (by rw [hj]; exact ho)

set_option maxRecDepth 100000 in
set_option maxHeartbeats 4000000 in
theorem refFields_any (s : ByteArray) (hs : s.size ≤ 10000) (w : World) :
    Calls Tryd.prog 37 #[.string s] w fun e w' => RFldOut w w' s.data.toList e := by
  obtain ⟨N, hN⟩ : ∃ N, s.size = N := ⟨_, rfl⟩
  have HL : Hid (s.data.toList.length = N) := Lib.hid (by rw [← hN]; exact (Lib.size_eq s).symm)
  have HS := Lib.hid hN
  rw [hN] at hs
  go_enter Tryd.func37, Tryd.ntmps37
  go_wp2
  go_loopg [4, 5] N (fun gf s4 s5 wx => ∃ (i : Nat) (acc : List Bs), s5 = .int .i64 (i : Int) ∧ N ≤ i + gf ∧ RfAt w wx s.data.toList s4 i acc)
  case atStart => exact ⟨0, [], rfl, by omega, nown_none _ _ _ _, Below.refl _ _, by rw [List.drop_zero, withL_nil], Nat.zero_le _, by simp⟩
  case round =>
    obtain ⟨i, acc, rfl, hk, hf⟩ := hrel
    have HF := Lib.hid hf
    have hiN : i ≤ N := by have := hf.le; rw [HL.out] at this; exact this
    clear hf
    by_cases hlt : i < N
    · obtain ⟨g', rfl⟩ : ∃ g', gk = g' + 1 := ⟨gk - 1, by omega⟩
      have hiL : i < s.data.toList.length := by rw [HL.out]; exact hlt
      have hx0 : s.data.toList[i]? = some s.data.toList[i] := List.getElem?_eq_getElem hiL
      generalize s.data.toList[i] = x at hx0
      have hix := index_str hx0
      have HX := Lib.hid hx0
      clear hx0 hiL
      have hwi : IntKind.i64.wrap ((i : Int) + 1) = (i : Int) + 1 := wrap_small _ (by omega) (by omega)
      by_cases h32 : x = 32
      · subst h32
        go_wp2
        go_roundg g'
        case measure => omega
        case rel => exact ⟨i + 1, acc, by go_num, by omega, HF.out.skip HX.out⟩
      · have n32 : ((x.toNat : Int) == 32) = false := by
          rw [beq_eq_false_iff_ne]
          intro h
          exact h32 (UInt8.toNat_inj.1 (show x.toNat = 32 by omega))
        have m32 : ¬ (x.toNat : Int) = 32 := by simpa using n32
        by_cases h34 : x = 34
        · subst h34
          have hsl : ∀ W, (Instr.slice 9 (.string s) (some (.int .i64 (i : Int))) none none).run Tryd.prog W = .ok (.string (bsOf (s.data.toList.drop i))) W := fun W => by
            rw [run_slice_string_from_if W 9 s .i64 _ (by kernel_rfl), if_pos ⟨by omega, by rw [HS.out]; omega⟩]
            show Result.ok (Value.string (s.extract i s.size)) W = _
            rw [Lib.extract_from]
            rfl
          have hfe : fieldL (s.data.toList.drop i) = deqL (s.data.toList.drop i) := by
            unfold fieldL
            rw [if_pos (by rw [drop_at HX.out]; rfl)]
          have hfirst : ∀ W, Calls Tryd.prog 56 #[.string (bsOf (s.data.toList.drop i))] W fun e w' => e = .returned (firstV (s.data.toList.drop i)) ∧ Below W.heap.size W w' := fun W => first_any (bsOf (s.data.toList.drop i)) (by
            rw [show (bsOf (s.data.toList.drop i)).size = (s.data.toList.drop i).length from Lib.size_mk _, List.length_drop, HL.out]
            omega) W
          cases hd : deqL (s.data.toList.drop i) with
          | none =>
            have hv : firstV (s.data.toList.drop i) = .tuple #[.string ⟨#[]⟩, .int .i64 0, .bool false] := by unfold firstV; rw [hd]
            rw [hv] at hfirst
            have HFI := Lib.hid hfirst
            have HN : Hid (fldL s.data.toList = none) := Lib.hid (by
              rw [HF.out.fld]
              exact withL_none acc (by rw [drop_at HX.out]; simp) (by rw [drop_at HX.out]; simp) (hfe.trans hd))
            generalize bsOf (s.data.toList.drop i) = D at *
            clear hfirst hv hd hfe h32
            go_wp2_with fail
            refine (HFI.out _).mono ?_
            rintro e w1 ⟨rfl, hb⟩
            have HB := Lib.hid hb
            clear hb
            go_wp2
            go_ret2
            exact ⟨nbl_step HF.out.below HB.out, .inr ⟨HN.out, rfl⟩⟩
          | some y =>
            obtain ⟨x, r⟩ := y
            have hv : firstV (s.data.toList.drop i) = .tuple #[.string (bsOf x), .int .i64 ((quoteL x).length : Int), .bool true] := by unfold firstV; rw [hd]
            rw [hv] at hfirst
            have HFI := Lib.hid hfirst
            obtain ⟨m, hm⟩ : ∃ m, (quoteL x).length = m := ⟨_, rfl⟩
            have hdec := (deqL_iff _ _ _).1 hd
            have hm2 : 2 ≤ m := by have := (quoteL_length x).1; omega
            have hend : s.data.toList.drop (i + m) = r := by rw [← List.drop_drop, hdec, ← hm, List.drop_left]
            have hle : i + m ≤ N := by
              have := congrArg List.length hdec
              rw [List.length_append, List.length_drop, HL.out] at this
              omega
            have HFL : Hid (fieldL (s.data.toList.drop i) = some (x, r)) := Lib.hid (hfe.trans hd)
            have HEND : Hid ((x, r).2 = s.data.toList.drop (i + m)) := Lib.hid hend.symm
            rw [hm] at HFI
            have hwm : IntKind.i64.wrap ((i : Int) + m) = (i : Int) + m := wrap_small _ (by omega) (by omega)
            have HPU := Lib.hid (fun wy (hb : Below wr.heap.size wr wy) => (HF.out.later hb).push (by omega) x)
            have HR := Lib.hid (okRest_at (L := s.data.toList) (j := i + m))
            generalize bsOf (s.data.toList.drop i) = D at *
            generalize bsOf x = X at *
            clear hfirst hv hd hfe h32 hdec hend hm
            by_cases hem : i + m < N
            · have hyL : i + m < s.data.toList.length := by rw [HL.out]; exact hem
              have hy0 : s.data.toList[i + m]? = some s.data.toList[i + m] := List.getElem?_eq_getElem hyL
              generalize s.data.toList[i + m] = y at hy0
              have hiy : ∀ W, (Instr.index 9 (.string s) (.int .i64 ((i : Int) + m))).run Tryd.prog W = .ok (.int .u8 (y.toNat : Int)) W := fun W => index_str hy0 W
              have HY := Lib.hid hy0
              clear hy0 hyL
              have hed : decide ((i : Int) + m < N) = true := decide_eq_true (by omega)
              have hei : (i : Int) + m < N := by omega
              by_cases hy32 : y = 32
              · subst hy32
                have HOK : Hid (okRest (s.data.toList.drop (i + m)) = true) := Lib.hid (by rw [HR.out, HY.out]; simp)
                go_wp2_with fail
                refine (HFI.out _).mono ?_
                rintro e w1 ⟨rfl, hb⟩
                obtain ⟨g, cap, w2, hr, ho2, hb2⟩ := HPU.out w1 hb
                have HO2 := Lib.hid ho2
                have HB2 := Lib.hid hb2
                generalize (acc.map bsOf).length + 1 = Z at *
                clear hb ho2 hb2
                go_wp2_with (first | (at_builtin; refine wpList_append_eq hr rfl (.tmp 35) (.tmp 37) rfl rfl rfl ?_) | fail)
                go_roundg g'
                case measure => omega
                case rel => exact ⟨i + m, acc ++ [x], by go_num, by omega, HF.out.next HX.out (by decide) HFL.out HEND.out (by omega) (by rw [HL.out]; omega) HOK.out HO2.out HB2.out⟩
              · have k32 : ((y.toNat : Int) == 32) = false := by
                  rw [beq_eq_false_iff_ne]
                  intro h
                  exact hy32 (UInt8.toNat_inj.1 (show y.toNat = 32 by omega))
                have j32 : ¬ (y.toNat : Int) = 32 := by simpa using k32
                have HN : Hid (fldL s.data.toList = none) := Lib.hid (HF.out.bad HX.out (by decide) HFL.out HEND.out (by
                  rw [HR.out, HY.out, HL.out]
                  simp [hem, hy32]))
                clear hy32
                go_wp2_with fail
                refine (HFI.out _).mono ?_
                rintro e w1 ⟨rfl, hb⟩
                obtain ⟨g, cap, w2, hr, ho2, hb2⟩ := HPU.out w1 hb
                have HB2 := Lib.hid hb2
                generalize (acc.map bsOf).length + 1 = Z at *
                clear hb ho2 hb2
                go_wp2_with (first | (at_builtin; refine wpList_append_eq hr rfl (.tmp 35) (.tmp 37) rfl rfl rfl ?_) | fail)
                go_ret2
                exact ⟨HB2.out, .inr ⟨HN.out, rfl⟩⟩
            · have hed : decide ((i : Int) + m < N) = false := decide_eq_false (by omega)
              have hei : ¬ (i : Int) + m < N := by omega
              have HOK : Hid (okRest (s.data.toList.drop (i + m)) = true) := Lib.hid (by rw [HR.out, HL.out]; simp [hem])
              go_wp2_with fail
              refine (HFI.out _).mono ?_
              rintro e w1 ⟨rfl, hb⟩
              obtain ⟨g, cap, w2, hr, ho2, hb2⟩ := HPU.out w1 hb
              have HO2 := Lib.hid ho2
              have HB2 := Lib.hid hb2
              generalize (acc.map bsOf).length + 1 = Z at *
              clear hb ho2 hb2
              go_wp2_with (first | (at_builtin; refine wpList_append_eq hr rfl (.tmp 35) (.tmp 37) rfl rfl rfl ?_) | fail)
              go_roundg g'
              case measure => omega
              case rel => exact ⟨i + m, acc ++ [x], by go_num, by omega, HF.out.next HX.out (by decide) HFL.out HEND.out (by omega) (by rw [HL.out]; omega) HOK.out HO2.out HB2.out⟩
        · have n34 : ((x.toNat : Int) == 34) = false := by
            rw [beq_eq_false_iff_ne]
            intro h
            exact h34 (UInt8.toNat_inj.1 (show x.toNat = 34 by omega))
          have m34 : ¬ (x.toNat : Int) = 34 := by simpa using n34
          have HFL : Hid (fieldL (s.data.toList.drop i) = some ((s.data.toList.drop i).takeWhile plainB, (s.data.toList.drop i).dropWhile plainB)) := Lib.hid (field_word HX.out h34)
          obtain ⟨M, hM⟩ : ∃ M, ((s.data.toList.drop i).takeWhile plainB).length = M := ⟨_, rfl⟩
          have hM1 : 1 ≤ M := by rw [← hM]; exact word_pos HX.out h32 h34
          have hMN : i + M ≤ N := by rw [← hM, ← HL.out]; exact word_le _ _ (by rw [HL.out]; omega)
          have HEND : Hid (((s.data.toList.drop i).takeWhile plainB, (s.data.toList.drop i).dropWhile plainB).2 = s.data.toList.drop (i + M)) := Lib.hid (by rw [← List.drop_drop, ← hM, plain_drop])
          have HIN : Hid (∀ j y, i ≤ j → j < i + M → s.data.toList[j]? = some y → plainB y = true) := Lib.hid (fun j y h1 h2 h3 => plain_in h1 (by rw [hM]; exact h2) h3)
          have HOUT : Hid (∀ y, s.data.toList[i + M]? = some y → plainB y = false) := Lib.hid (fun y h => plain_out (i := i) (by rw [hM]; exact h))
          have hsl : ∀ W, (Instr.slice 9 (.string s) (some (.int .i64 (i : Int))) (some (.int .i64 ((i : Int) + M))) none).run Tryd.prog W = .ok (.string (bsOf ((s.data.toList.drop i).takeWhile plainB))) W := fun W => by
            have h := slice_str (s := s) (a := i) (b := i + M) (by omega) (by rw [HS.out]; omega) W
            rw [Lib.extract_eq, Nat.add_sub_cancel_left, ← hM, plain_take, hM] at h
            exact h
          obtain ⟨g, cap, w2, hr, ho2, hb2⟩ := HF.out.push (by omega) ((s.data.toList.drop i).takeWhile plainB)
          have HO2 := Lib.hid ho2
          have HB2 := Lib.hid hb2
          have HR := Lib.hid (okRest_at (L := s.data.toList) (j := i + M))
          have HX32 := Lib.hid h32
          generalize bsOf ((s.data.toList.drop i).takeWhile plainB) = X at *
          generalize (acc.map bsOf).length + 1 = Z at *
          clear ho2 hb2 hM h32 h34
          go_wp2
          go_loopg [6] M (fun gf s6 wx => ∃ e : Nat, s6 = .int .i64 (e : Int) ∧ i ≤ e ∧ e ≤ i + M ∧ i + M ≤ e + gf ∧ wx = wr)
          case atStart => exact ⟨i, rfl, by omega, by omega, by omega, rfl⟩
          case round =>
            obtain ⟨e, rfl, he1, he2, he3, rfl⟩ := hrel
            by_cases heM : e < i + M
            · obtain ⟨h', rfl⟩ : ∃ h', gk = h' + 1 := ⟨gk - 1, by omega⟩
              have hyL : e < s.data.toList.length := by rw [HL.out]; omega
              have hy0 : s.data.toList[e]? = some s.data.toList[e] := List.getElem?_eq_getElem hyL
              generalize s.data.toList[e] = y at hy0
              have hiy := index_str hy0
              have hp := HIN.out e y he1 heM hy0
              have hed : decide ((e : Int) < N) = true := decide_eq_true (by omega)
              have k32 : ((y.toNat : Int) == 32) = false := by
                rw [beq_eq_false_iff_ne]
                intro h
                obtain rfl : y = 32 := UInt8.toNat_inj.1 (show y.toNat = 32 by omega)
                exact absurd hp (by decide)
              have k34 : ((y.toNat : Int) == 34) = false := by
                rw [beq_eq_false_iff_ne]
                intro h
                obtain rfl : y = 34 := UInt8.toNat_inj.1 (show y.toNat = 34 by omega)
                exact absurd hp (by decide)
              have j32 : ¬ (y.toNat : Int) = 32 := by simpa using k32
              have j34 : ¬ (y.toNat : Int) = 34 := by simpa using k34
              have b32 : ((y.toNat : Int) != 32) = true := by rw [bne, k32]; rfl
              have b34 : ((y.toNat : Int) != 34) = true := by rw [bne, k34]; rfl
              have hei : (e : Int) < N := by omega
              clear hy0 hp hyL
              go_wp2
              go_roundg h'
              case measure => omega
              case rel => exact ⟨e + 1, by go_num, by omega, by omega, by omega, rfl⟩
            · obtain rfl : e = i + M := by omega
              by_cases hem : i + M < N
              · have hyL : i + M < s.data.toList.length := by rw [HL.out]; exact hem
                have hy0 : s.data.toList[i + M]? = some s.data.toList[i + M] := List.getElem?_eq_getElem hyL
                generalize s.data.toList[i + M] = y at hy0
                have hiy : ∀ W, (Instr.index 9 (.string s) (.int .i64 ((i : Int) + M))).run Tryd.prog W = .ok (.int .u8 (y.toNat : Int)) W := fun W => index_str hy0 W
                have hp := HOUT.out y hy0
                have HY := Lib.hid hy0
                have hed : decide ((i : Int) + M < N) = true := decide_eq_true (by omega)
                have hei : (i : Int) + M < N := by omega
                clear hy0 hyL
                by_cases hy32 : y = 32
                · subst hy32
                  have HOK : Hid (okRest (s.data.toList.drop (i + M)) = true) := Lib.hid (by rw [HR.out, HY.out]; simp)
                  clear hp
                  go_wp2_with (at_builtin; refine wpList_append_eq hr rfl (.tmp 60) (.tmp 65) rfl rfl rfl ?_)
                  go_roundg g'
                  case measure => omega
                  case rel => exact ⟨i + M, _, by go_num, by omega, HF.out.next HX.out HX32.out HFL.out HEND.out (by omega) (by rw [HL.out]; omega) HOK.out HO2.out HB2.out⟩
                · have hy34 : y = 34 := by
                    have h := hp
                    simp only [plainB, Bool.and_eq_false_iff, Bool.not_eq_false', beq_iff_eq] at h
                    exact h.resolve_left hy32
                  subst hy34
                  have HN : Hid (fldL s.data.toList = none) := Lib.hid (HF.out.bad HX.out HX32.out HFL.out HEND.out (by
                    rw [HR.out, HY.out, HL.out]
                    simp [hem]))
                  clear hp hy32
                  go_wp2_with (at_builtin; refine wpList_append_eq hr rfl (.tmp 60) (.tmp 65) rfl rfl rfl ?_)
                  go_ret2
                  exact ⟨HB2.out, .inr ⟨HN.out, rfl⟩⟩
              · have hed : decide ((i : Int) + M < N) = false := decide_eq_false (by omega)
                have hei : ¬ (i : Int) + M < N := by omega
                have HOK : Hid (okRest (s.data.toList.drop (i + M)) = true) := Lib.hid (by rw [HR.out, HL.out]; simp [hem])
                go_wp2_with (at_builtin; refine wpList_append_eq hr rfl (.tmp 60) (.tmp 65) rfl rfl rfl ?_)
                go_roundg g'
                case measure => omega
                case rel => exact ⟨i + M, _, by go_num, by omega, HF.out.next HX.out HX32.out HFL.out HEND.out (by omega) (by rw [HL.out]; omega) HOK.out HO2.out HB2.out⟩
    · have HFI : Hid (fldL s.data.toList = some acc) := Lib.hid (by rw [HF.out.fld, List.drop_eq_nil_of_le (by rw [HL.out]; omega), withL_end])
      go_wp2
      go_ret2
      exact ⟨HF.out.below, .inl ⟨acc, u4, HFI.out, rfl, HF.out.own⟩⟩
end Go.Proofs.YtahklchfchjmcaaDoor
