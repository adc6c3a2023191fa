/- The law NamesHolds: the theorem of stage 7. -/
import Derived.Test.YtahklchfchjmcaaDoorOb
import Derived.Test.YtahklchfchjmcaaDoorOe
namespace Go.Proofs.YtahklchfchjmcaaDoor
set_option linter.unusedVariables false
set_option linter.unusedSimpArgs false
open Go.RowKit Go.MapKept

theorem lineL_length (k : Nat) (xs : List Bs) (hk : k ≤ 5) (hx : ∀ x ∈ xs, x.length ≤ 100) : (lineL k xs).length ≤ 410 * xs.length := by
  induction xs with
  | nil => simp [lineL]
  | cons x xs ih =>
    have h1 := ih fun y hy => hx y (List.mem_cons_of_mem _ hy)
    have h2 := hx x (List.mem_cons_self ..)
    have h3 := (quoteL_length x).2
    have e : lineL k (x :: xs) = spaces k ++ quoteL x ++ lineL k xs := by simp [lineL]
    rw [e, List.length_append, List.length_append, List.length_cons]
    have h4 : (spaces k).length = k := by simp [spaces]
    omega
theorem five_cut (k : Nat) (hk : k ≤ 5) (W : World) : (Instr.slice 9 (.string ⟨#[32, 32, 32, 32, 32]⟩) none (some (.int .i64 (k : Int))) none).run Tryd.prog W = .ok (.string (bsOf (spaces k))) W := by
  rw [run_slice_string_to_if W 9 ⟨#[32, 32, 32, 32, 32]⟩ .i64 _ (by kernel_rfl), if_pos ⟨by omega, show (k : Int) ≤ 5 by omega⟩]
  have e : (⟨#[32, 32, 32, 32, 32]⟩ : ByteArray).extract 0 (k : Int).toNat = bsOf (spaces k) := by
    rw [Lib.extract_upto]
    have : ∀ j, j ≤ 5 → ([32, 32, 32, 32, 32] : Bs).take j = spaces j := by decide
    show (⟨(([32, 32, 32, 32, 32] : Bs).take k).toArray⟩ : ByteArray) = _
    rw [this k hk]
    rfl
  rw [e]

/-- What a round keeps: the line so far. -/
structure LnAt (w wx : World) (l : List ByteArray) (sp k : Nat) (T : ByteArray) : Prop where
  below : Below w.heap.size w wx
  line : T.data.toList = lineL sp ((l.take k).map (·.data.toList))
  short : ∀ x ∈ l.take k, x.size ≤ 100
theorem LnAt.size {w wx : World} {l : List ByteArray} {sp k : Nat} {T : ByteArray} (h : LnAt w wx l sp k T) (hsp : sp ≤ 5) (hl : l.length ≤ 20) : T.size ≤ 8200 := by
  rw [Lib.size_eq, h.line]
  have h1 := lineL_length sp ((l.take k).map (·.data.toList)) hsp (fun x hx => by
    obtain ⟨y, hy, rfl⟩ := List.mem_map.1 hx
    rw [← Lib.size_eq]
    exact h.short y hy)
  rw [List.length_map, List.length_take] at h1
  omega
theorem LnAt.later {w wx wy : World} {l : List ByteArray} {sp k : Nat} {T : ByteArray} (h : LnAt w wx l sp k T) (hb : Below wx.heap.size wx wy) : LnAt w wy l sp k T := ⟨nbl_step h.below hb, h.line, h.short⟩
theorem LnAt.step {w wx : World} {l : List ByteArray} {sp k : Nat} {T : ByteArray} (h : LnAt w wx l sp k T) {X : ByteArray} (hX : l[k]? = some X) (hs : X.size ≤ 100) : LnAt w wx l sp (k + 1) (T ++ (bsOf (spaces sp) ++ bsOf (quoteL X.data.toList))) := by
  have e : l.take (k + 1) = l.take k ++ [X] := by rw [List.take_add_one, hX]; rfl
  refine ⟨h.below, ?_, fun x hx => ?_⟩
  · rw [app_data, app_data, h.line, e, List.map_append, List.map_cons, List.map_nil, lineL_snoc]
    rfl
  · rw [e] at hx
    rcases List.mem_append.1 hx with hx | hx
    · exact h.short x hx
    · obtain rfl : x = X := by simpa using hx
      exact hs
theorem want_eq (l : List ByteArray) : (l.map (·.data.toList)).map bsOf = l := by
  rw [List.map_map]
  conv => rhs; rw [← List.map_id l]
  refine List.map_congr_left fun x _ => ?_
  exact Lib.mk_data x
theorem canonV_item {C : ByteArray} (h : itemL C.data.toList = true) : canonV C.data.toList = .tuple #[.string C, .int .i64 0] := by
  unfold canonV
  rw [canonL_item _ h, if_pos h, Lib.mk_data]

set_option maxRecDepth 100000 in
set_option maxHeartbeats 4000000 in
theorem holds_law (w : World) (v : Value) (l : List ByteArray) (hl : StrAt w v l) (spz : Int) (hm : MaxIs w) :
    Calls Tryd.prog 13 #[v, .int .i64 spz] w fun e w' => e = .returned (.bool true) ∧ Below w.heap.size w w' := by
  have HM := Lib.hid hm
  have HST := Lib.hid hl
  clear hm
  obtain ⟨A, cap, rfl, _, _, _⟩ := hl
  obtain ⟨N, hN⟩ : ∃ N, l.length = N := ⟨_, rfl⟩
  have HLN := Lib.hid hN
  rw [hN] at HST
  rw [hN]
  clear hN
  go_enter Tryd.func13, Tryd.ntmps13
  by_cases h20 : (20 : Int) < N
  · have h20d : decide ((20 : Int) < N) = true := decide_eq_true h20
    go_wp2_with fail
    refine (nknown_yes _ HM.out).mono ?_
    rintro e w1 ⟨rfl, hb⟩
    have HB := Lib.hid hb
    clear hb
    go_wp2
    go_ret
    exact ⟨rfl, HB.out⟩
  have h20d : decide ((20 : Int) < N) = false := decide_eq_false h20
  by_cases hs1 : spz < 1
  · have hs1d : decide (spz < 1) = true := decide_eq_true hs1
    go_wp2_with fail
    refine (nknown_yes _ HM.out).mono ?_
    rintro e w1 ⟨rfl, hb⟩
    have HB := Lib.hid hb
    clear hb
    go_wp2
    go_ret
    exact ⟨rfl, HB.out⟩
  have hs1d : decide (spz < 1) = false := decide_eq_false hs1
  by_cases hs5 : 5 < spz
  · have hs5d : decide (5 < spz) = true := decide_eq_true hs5
    go_wp2_with fail
    refine (nknown_yes _ HM.out).mono ?_
    rintro e w1 ⟨rfl, hb⟩
    have HB := Lib.hid hb
    clear hb
    go_wp2
    go_ret
    exact ⟨rfl, HB.out⟩
  have hs5d : decide (5 < spz) = false := decide_eq_false hs5
  obtain ⟨sp, rfl⟩ : ∃ sp : Nat, (sp : Int) = spz := ⟨spz.toNat, by omega⟩
  have hcut := fun W => five_cut sp (by omega) W
  have hss : (bsOf (spaces sp)).size ≤ 5 := by rw [show (bsOf (spaces sp)).size = (spaces sp).length from Lib.size_mk _]; simp [spaces]; omega
  go_wp2
  go_loopg [5, 26] N (fun gf s5 s26 wx => ∃ (k : Nat) (T : ByteArray), s26 = .int .i64 (k : Int) ∧ s5 = .string T ∧ k + gf = N ∧ LnAt w wx l sp k T)
  case atStart => exact ⟨0, ⟨#[]⟩, rfl, rfl, by omega, Below.refl _ _, rfl, fun x hx => by simp at hx⟩
  case round =>
    obtain ⟨k, T, rfl, rfl, hk, hln⟩ := hrel
    have HLN2 := Lib.hid hln
    have hTs := hln.size (by omega) (by rw [HLN.out]; omega)
    clear hln
    by_cases hlt : k < N
    · obtain ⟨g', rfl⟩ : ∃ g', gk = g' + 1 := ⟨gk - 1, by omega⟩
      have hkl : k < l.length := by rw [HLN.out]; exact hlt
      obtain ⟨b1, o1, rfl, hc1⟩ := (HST.out.below HLN2.out.below).elem hkl
      have hd1 := hc1 0 _ rfl
      have hX0 : l[k]? = some l[k] := List.getElem?_eq_getElem hkl
      generalize l[k] = X at *
      rw [Nat.add_zero, Nat.mul_one] at hd1
      have HX := Lib.hid hX0
      clear hX0 hc1 hkl
      obtain ⟨S, hS⟩ : ∃ S, X.size = S := ⟨_, rfl⟩
      by_cases h100 : (100 : Int) < S
      · have h100d : decide ((100 : Int) < S) = true := decide_eq_true h100
        go_wp2_with fail
        refine (nknown_yes _ (HM.out.later HLN2.out.below)).mono ?_
        rintro e w1 ⟨rfl, hb⟩
        have HB := Lib.hid (nbl_step HLN2.out.below hb)
        clear hb
        go_wp2
        go_ret
        exact ⟨rfl, HB.out⟩
      · have h100d : decide ((100 : Int) < S) = false := decide_eq_false h100
        have hXs : X.size ≤ 100 := by omega
        have hqs := quote_size X
        have HQ := Lib.hid (fun W => quote_any X (by omega) W)
        have hbs : (⟨(quoteL X.data.toList).toArray⟩ : ByteArray) = bsOf (quoteL X.data.toList) := rfl
        rw [hbs] at HQ
        have HUQ := Lib.hid (fun W => unquotes_yes (bsOf (quoteL X.data.toList)) X 0 (by omega) W (unq_quote X))
        have HI := Lib.hid (fun W h => item_any X (by omega) W h)
        have HC := Lib.hid (fun W h => canon_any X (by omega) W h)
        have HCY : Hid (itemL X.data.toList = true → ∀ W, MaxIs W → Calls Tryd.prog 32 #[.string X, .string X, .int .i64 0] W fun e w' => e = .returned (.bool true) ∧ Below W.heap.size W w') := Lib.hid (fun h W hm => canon_yes X X 0 (by omega) W hm (canonV_item h))
        have HV : Hid (canonV X.data.toList = if itemL (canonL X.data.toList) = true then .tuple #[.string (bsOf (canonL X.data.toList)), .int .i64 0] else .tuple #[.string ⟨#[]⟩, .int .i64 2]) := Lib.hid rfl
        have hcs : (bsOf (canonL X.data.toList)).size ≤ 200 := by
          rw [show (bsOf (canonL X.data.toList)).size = (canonL X.data.toList).length from Lib.size_mk _]
          have := canonL_length X.data.toList
          rw [← Lib.size_eq] at this
          omega
        have HCI : Hid (∀ W, MaxIs W → Calls Tryd.prog 29 #[.string (bsOf (canonL X.data.toList))] W fun e w' => e = .returned (.bool (itemL (canonL X.data.toList))) ∧ Below W.heap.size W w') := Lib.hid (fun W h => item_any (bsOf (canonL X.data.toList)) (by omega) W h)
        have HCC : Hid (itemL (canonL X.data.toList) = true → ∀ W, MaxIs W → Calls Tryd.prog 32 #[.string (bsOf (canonL X.data.toList)), .string (bsOf (canonL X.data.toList)), .int .i64 0] W fun e w' => e = .returned (.bool true) ∧ Below W.heap.size W w') := Lib.hid (fun h W hm => canon_yes _ _ 0 (by omega) W hm (canonV_item h))
        have hadd1 := fun W => add_str (bsOf (spaces sp)) (bsOf (quoteL X.data.toList)) (by omega) W
        have hadd2 := fun W => add_str T (bsOf (spaces sp) ++ bsOf (quoteL X.data.toList)) (by rw [ByteArray.size_append]; omega) W
        have HNX := Lib.hid (fun wx (h : LnAt w wx l sp k T) => h.step HX.out hXs)
        have HPR : Hid (∀ (i : Nat) (y : UInt8), (bsOf (quoteL X.data.toList)).data.toList[i]? = some y → 32 ≤ y.toNat ∧ y.toNat ≤ 126) := Lib.hid (fun i y hy => quoteL_print _ y (List.mem_of_getElem? hy))
        obtain ⟨M, hM⟩ : ∃ M, (bsOf (quoteL X.data.toList)).size = M := ⟨_, rfl⟩
        have hM500 : M ≤ 500 := by omega
        generalize T ++ (bsOf (spaces sp) ++ bsOf (quoteL X.data.toList)) = T2 at *
        generalize bsOf (spaces sp) ++ bsOf (quoteL X.data.toList) = T1 at *
        generalize bsOf (quoteL X.data.toList) = Q at *
        generalize bsOf (canonL X.data.toList) = C at *
        generalize itemL (canonL X.data.toList) = cb at *
        generalize itemL X.data.toList = ib at *
        clear hqs hbs hcs hXs
        go_wp2_with fail
        refine (HQ.out _).mono ?_
        rintro e v1 ⟨rfl, hb⟩
        have HL1 := Lib.hid (HLN2.out.later hb)
        clear hb
        go_wp2_with fail
        refine (HUQ.out _).mono ?_
        rintro e v2 ⟨rfl, hb⟩
        replace HL1 := Lib.hid (HL1.out.later hb)
        clear hb
        go_wp2_with fail
        refine (HI.out _ (HM.out.later HL1.out.below)).mono ?_
        rintro e v3 ⟨rfl, hb⟩
        replace HL1 := Lib.hid (HL1.out.later hb)
        clear hb
        cases ib
        case' true =>
          go_wp2_with fail
          refine (HCY.out (by trivial) _ (HM.out.later HL1.out.below)).mono ?_
          rintro e v4 ⟨rfl, hb⟩
          replace HL1 := Lib.hid (HL1.out.later hb)
          clear hb
        all_goals
          go_wp2
          go_loopg [9] M (fun gf s9 wx => ∃ i : Nat, s9 = .int .i64 (i : Int) ∧ i + gf = M ∧ LnAt w wx l sp k T)
          case atStart => exact ⟨0, rfl, by omega, HL1.out⟩
          case round =>
            obtain ⟨i, rfl, hi, hln⟩ := hrel
            have HL2 := Lib.hid hln
            clear hln
            by_cases hiM : i < M
            · obtain ⟨h', rfl⟩ : ∃ h', gk = h' + 1 := ⟨gk - 1, by omega⟩
              have hyL : i < Q.data.toList.length := by rw [← Lib.size_eq, hM]; exact hiM
              have hy0 : Q.data.toList[i]? = some Q.data.toList[i] := List.getElem?_eq_getElem hyL
              generalize Q.data.toList[i] = y at hy0
              have hiy := index_str hy0
              have hp := HPR.out i y hy0
              have p1 : ¬ (y.toNat : Int) < 32 := by omega
              have p2 : ¬ (126 : Int) < y.toNat := by omega
              have p1d : decide ((y.toNat : Int) < 32) = false := decide_eq_false p1
              have p2d : decide ((126 : Int) < y.toNat) = false := decide_eq_false p2
              clear hy0 hp hyL
              go_wp2
              go_roundg h'
              case measure => omega
              case rel => exact ⟨i + 1, by go_num, by omega, HL2.out⟩
            · go_wp2_with fail
              refine (HC.out _ (HM.out.later HL2.out.below)).mono ?_
              rintro e v5 ⟨rfl, hb⟩
              have HL3 := Lib.hid (HL2.out.later hb)
              clear hb
              rw [HV.out]
              cases cb
              case' true =>
                rw [if_pos rfl]
                go_wp2_with fail
                refine (HCI.out _ (HM.out.later HL3.out.below)).mono ?_
                rintro e v6 ⟨rfl, hb⟩
                replace HL3 := Lib.hid (HL3.out.later hb)
                clear hb
                go_wp2_with fail
                refine (HCC.out (by trivial) _ (HM.out.later HL3.out.below)).mono ?_
                rintro e v7 ⟨rfl, hb⟩
                replace HL3 := Lib.hid (HL3.out.later hb)
                clear hb
              case' false => rw [if_neg (by decide)]
              all_goals
                have HL4 := Lib.hid (HNX.out _ HL3.out)
                go_wp2
                go_roundg g'
                case measure => omega
                case rel => exact ⟨k + 1, T2, by go_num, rfl, by omega, HL4.out⟩
    · obtain rfl : k = N := by omega
      have hT : T.data.toList = lineL sp (l.map (·.data.toList)) := by
        have h := HLN2.out.line
        rw [← HLN.out, List.take_length] at h
        exact h
      have hadd := fun W => add_str T (bsOf (spaces sp)) (by omega) W
      have hT2 : (T ++ bsOf (spaces sp)).data.toList = lineL sp (l.map (·.data.toList)) ++ spaces sp := by rw [app_data, hT]; rfl
      have hT2s : (T ++ bsOf (spaces sp)).size ≤ 9000 := by rw [ByteArray.size_append]; omega
      have HF1 := Lib.hid (fun W vw h1 h2 h3 => fields_yes T 0 vw (l.map (·.data.toList)) (by omega) W h1 h2 h3)
      have HF2 := Lib.hid (fun W vw h1 h2 h3 => fields_yes (T ++ bsOf (spaces sp)) 0 vw (l.map (·.data.toList)) (by omega) W h1 h2 h3)
      have HW1 : Hid ((fldL T.data.toList = some (l.map (·.data.toList)) ∧ (0 : Int) = 0) ∨ (fldL T.data.toList = none ∧ (0 : Int) = 6 ∧ l.map (·.data.toList) = [])) := Lib.hid (.inl ⟨by
        have h := (fldL_line sp 0 (by omega) (.inl rfl) (l.map (·.data.toList))).1
        have e : lineL sp (l.map (·.data.toList)) ++ spaces 0 = lineL sp (l.map (·.data.toList)) := by simp [spaces]
        rw [e] at h
        rw [hT]
        exact h, rfl⟩)
      have HW2 : Hid ((fldL (T ++ bsOf (spaces sp)).data.toList = some (l.map (·.data.toList)) ∧ (0 : Int) = 0) ∨ (fldL (T ++ bsOf (spaces sp)).data.toList = none ∧ (0 : Int) = 6 ∧ l.map (·.data.toList) = [])) := Lib.hid (.inl ⟨by
        rw [hT2]
        exact (fldL_line sp sp (by omega) (.inr (by omega)) (l.map (·.data.toList))).1, rfl⟩)
      have HSW : Hid (∀ wx, Below w.heap.size w wx → StrAt wx (.slice A k cap) ((l.map (·.data.toList)).map bsOf)) := Lib.hid (fun wx hb => by rw [want_eq]; exact HST.out.below hb)
      generalize T ++ bsOf (spaces sp) = T2 at *
      clear hT hT2 hT2s
      go_wp2_with fail
      refine (HF1.out _ _ (HM.out.later HLN2.out.below) (HSW.out _ HLN2.out.below) HW1.out).mono ?_
      rintro e v1 ⟨rfl, hb⟩
      have HB := Lib.hid (nbl_step HLN2.out.below hb)
      clear hb
      go_wp2_with fail
      refine (HF2.out _ _ (HM.out.later HB.out) (HSW.out _ HB.out) HW2.out).mono ?_
      rintro e v2 ⟨rfl, hb⟩
      replace HB := Lib.hid (nbl_step HB.out hb)
      clear hb
      go_wp2_with fail
      refine (nknown_yes _ (HM.out.later HB.out)).mono ?_
      rintro e v3 ⟨rfl, hb⟩
      replace HB := Lib.hid (nbl_step HB.out hb)
      clear hb
      go_wp2
      go_ret
      exact ⟨rfl, HB.out⟩
end Go.Proofs.YtahklchfchjmcaaDoor
