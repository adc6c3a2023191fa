/- names.Fields and the law's fields. -/
import Derived.Test.YtahklchfchjmcaaDoorNm
import Derived.Test.YtahklchfchjmcaaDoorNg
namespace Go.Proofs.YtahklchfchjmcaaDoor
set_option linter.unusedVariables false
set_option linter.unusedSimpArgs false
open Go.RowKit Go.MapKept

def bsOf (x : Bs) : ByteArray := ⟨x.toArray⟩
theorem bsOf_data (x : Bs) : (bsOf x).data.toList = x := rfl
/-- What Fields hands back: the fields of l in a slice of its own, or an error. -/
def FldOut (w w' : World) (l : Bs) (e : Ending) : Prop :=
  Below w.heap.size w w' ∧ ((∃ xs v, fldL l = some xs ∧ e = .returned (.tuple #[v, .int .i64 0]) ∧ OwnS w' w.heap.size v (xs.map bsOf)) ∨ (fldL l = none ∧ e = .returned (.tuple #[.slice none 0 0, .int .i64 6])))

/-- What a round keeps. -/
structure FdAt (w wx : World) (L : Bs) (v : Value) (S : ByteArray) (acc : List Bs) : Prop where
  own : OwnS wx w.heap.size v (acc.map bsOf)
  below : Below w.heap.size w wx
  fld : fldL L = withL acc (fldL S.data.toList)
  head : S.data.toList.head? ≠ some 32
  len : acc.length + S.size ≤ 100000
theorem FdAt.step {w wx : World} {L : Bs} {v : Value} {S : ByteArray} {acc : List Bs} (h : FdAt w wx L v S acc) (hS : S.data.toList ≠ []) (W1 : World) (hb : Below wx.heap.size wx W1) {x : Bs × Bs} (hf : fieldL S.data.toList = some x) (hr : okRest x.2 = true) :
    ∃ g cap w', (∀ ty, (Builtin.append_ #[68, 68] ty #[v, .slice (some ⟨W1.heap.size, 0, none⟩) 1 1]).run Tryd.prog (W1.alloc (.cells #[.string (bsOf x.1)] 9)) = .ok (.slice (some ⟨g, 0, none⟩) ((acc.map bsOf).length + 1) cap) w') ∧
      FdAt w w' L (.slice (some ⟨g, 0, none⟩) ((acc.map bsOf).length + 1) cap) (bsOf (Lib.trimLeftB x.2 32)) (acc ++ [x.1]) ∧ (bsOf (Lib.trimLeftB x.2 32)).size < S.size := by
  have hlen := h.len
  have hl := (fieldL_length hS h.head hf).1
  have ht := trimLeftB_length x.2
  rw [← Lib.size_eq] at hl
  have hsz : (bsOf (Lib.trimLeftB x.2 32)).size = (Lib.trimLeftB x.2 32).length := Lib.size_mk _
  obtain ⟨g, cap, w', hr', h2, h3⟩ := append_str (w := w) (nown_below h.own hb) (h.below.trans (hb.mono h.below.size)) (by rw [List.length_map]; omega) (bsOf x.1)
  refine ⟨g, cap, w', hr', ⟨by rw [List.map_append]; exact h2, h3, ?_, trimLeftB_head _, ?_⟩, by omega⟩
  · rw [h.fld, withL_step acc hS h.head hf hr, bsOf_data, fldL_trim]
  · rw [List.length_append, hsz]
    simp
    omega

theorem indexByte_mem : ∀ (l : Bs) (c : UInt8), decide (0 ≤ Lib.indexByte l c) = decide (c ∈ l)
  | [], c => by simp [Lib.indexByte]
  | b :: l, c => by
    have ih := indexByte_mem l c
    rw [decide_eq_decide] at ih
    unfold Lib.indexByte
    by_cases h : b = c
    · subst h
      simp
    · have h1 : (b == c) = false := by rw [beq_eq_false_iff_ne]; exact h
      have h2 : ¬ c = b := fun e => h e.symm
      rw [h1]
      simp only [Bool.false_eq_true, if_false, List.mem_cons, h2, false_or, decide_eq_decide]
      rw [← ih]
      have hge := Lib.indexByte_ge l c
      by_cases hm : Lib.indexByte l c = -1
      · rw [hm]; simp
      · have : (Lib.indexByte l c == -1) = false := by rw [beq_eq_false_iff_ne]; exact hm
        rw [this]
        simp only [Bool.false_eq_true, if_false]
        omega

set_option maxRecDepth 100000 in
set_option maxHeartbeats 1000000 in
theorem fields_any (s : ByteArray) (hs : s.size ≤ 100000) (w : World) (hm : MaxIs w) :
    Calls Tryd.prog 57 #[.string s] w fun e w' => FldOut w w' s.data.toList e := by
  have HM := Lib.hid hm
  clear hm
  have HT := Lib.hid (fun (S : ByteArray) W => Tryd.strings_TrimLeft_one S 32 (by decide) W)
  have hF0 : FdAt w w s.data.toList (.slice none 0 0) (bsOf (Lib.trimLeftB s.data.toList 32)) [] := by
    refine ⟨nown_none _ _ _ _, Below.refl _ _, ?_, trimLeftB_head _, ?_⟩
    · rw [withL_nil, bsOf_data, fldL_trim]
    · have := trimLeftB_length s.data.toList
      rw [← Lib.size_eq] at this
      show 0 + (bsOf _).size ≤ _
      rw [show (bsOf (Lib.trimLeftB s.data.toList 32)).size = (Lib.trimLeftB s.data.toList 32).length from Lib.size_mk _]
      omega
  have HF0 := Lib.hid hF0
  have HT0 : Hid (∀ W, Calls Tryd.prog 81 #[.string s, .string ⟨#[32]⟩] W fun e w' => e = .returned (.string (bsOf (Lib.trimLeftB s.data.toList 32))) ∧ w' = W) := Lib.hid (fun W => HT.out s W)
  clear hF0
  generalize bsOf (Lib.trimLeftB s.data.toList 32) = S0 at *
  go_enter Tryd.func57, Tryd.ntmps57
  go_wp2_with fail
  refine (HT0.out _).mono ?_
  rintro e w' ⟨rfl, hw⟩
  rw [hw]
  clear hw
  go_wp2
  go_loopg [0, 4] S0.size (fun gf s0 s4 wx => ∃ (S : ByteArray) (acc : List Bs), s0 = .string S ∧ S.size ≤ gf ∧ FdAt w wx s.data.toList s4 S acc)
  case atStart => exact ⟨S0, [], rfl, Nat.le_refl _, HF0.out⟩
  case round =>
    obtain ⟨S, acc, rfl, hk, hf⟩ := hrel
    have HF := Lib.hid hf
    clear hf
    cases hSl : S.data.toList with
    | nil =>
      obtain rfl := mk_of hSl
      have hfin : fldL s.data.toList = some acc := by rw [HF.out.fld, hSl, withL_end]
      have HFI := Lib.hid hfin
      clear hfin hSl
      go_wp2
      go_ret2
      exact ⟨HF.out.below, .inl ⟨acc, u4, HFI.out, rfl, HF.out.own⟩⟩
    | cons c t =>
      have hSz : 0 < S.size := by rw [Lib.size_eq, hSl]; simp
      obtain ⟨g', rfl⟩ : ∃ g', gk = g' + 1 := ⟨gk - 1, by omega⟩
      have hSs : S.size ≤ 100000 := by have := HF.out.len; omega
      have hi0 : ∀ W, (Instr.index 9 (.string S) (.int .i64 0)).run Tryd.prog W = .ok (.int .u8 (c.toNat : Int)) W := fun W => index_str (k := 0) (by rw [hSl]; rfl) W
      have hne : S.toList = c :: t := by rw [ByteArray.toList_eq]; exact hSl
      have hnn : S.data.toList ≠ [] := by rw [hSl]; simp
      have h32 := HF.out.head
      have HSL := Lib.hid hSl
      have HNN := Lib.hid hnn
      have H32 := Lib.hid h32
      clear hSl hnn h32
      by_cases h34 : c = 34
      · subst h34
        have HQ := Lib.hid (fun W => quoted_any S hSs W)
        have hfe : fieldL S.data.toList = deqL S.data.toList := by
          unfold fieldL
          rw [if_pos (by rw [HSL.out]; rfl)]
        cases hd : deqL S.data.toList with
        | none =>
          have hqv : quotedV S.data.toList = .tuple #[.string ⟨#[]⟩, .string ⟨#[]⟩, .int .i64 6] := by unfold quotedV; rw [hd]
          rw [hqv] at HQ
          have HN : Hid (fldL s.data.toList = none) := Lib.hid (by rw [HF.out.fld]; exact withL_none acc HNN.out H32.out (hfe.trans hd))
          clear hqv hd hfe
          go_wp2_with fail
          refine (HQ.out _).mono ?_
          rintro e w1 ⟨rfl, hb1⟩
          have HB1 := Lib.hid hb1
          clear hb1
          go_wp2
          go_ret2
          exact ⟨HF.out.below.trans (HB1.out.mono HF.out.below.size), .inr ⟨HN.out, rfl⟩⟩
        | some y =>
          obtain ⟨x, r⟩ := y
          have hqv : quotedV S.data.toList = .tuple #[.string (bsOf x), .string (bsOf r), .int .i64 0] := by unfold quotedV; rw [hd]; rfl
          rw [hqv] at HQ
          have HFL : Hid (fieldL S.data.toList = some (x, r)) := Lib.hid (hfe.trans hd)
          clear hqv hd hfe
          have HTR : Hid (∀ W, Calls Tryd.prog 81 #[.string (bsOf r), .string ⟨#[32]⟩] W fun e w' => e = .returned (.string (bsOf (Lib.trimLeftB r 32))) ∧ w' = W) := Lib.hid (fun W => HT.out (bsOf r) W)
          cases r with
          | nil =>
            go_wp2_with fail
            refine (HQ.out _).mono ?_
            rintro e w1 ⟨rfl, hb1⟩
            obtain ⟨g, cap, w', hr', hq', hlt'⟩ := HF.out.step HNN.out w1 hb1 HFL.out rfl
            have HQ' := Lib.hid hq'
            have HLT := Lib.hid hlt'
            have HR0 : bsOf [] = ⟨#[]⟩ := rfl
            rw [HR0] at HTR ⊢
            dsimp only at hr'
            generalize bsOf (Lib.trimLeftB [] 32) = S' at *
            generalize bsOf x = X at *
            generalize (acc.map bsOf).length + 1 = M at *
            clear hb1 hq' hlt'
            go_wp2_with (first | (at_builtin; refine wpList_append_eq hr' rfl (.tmp 53) (.tmp 55) rfl rfl rfl ?_) | fail)
            refine (HTR.out _).mono ?_
            rintro e w3 ⟨rfl, hw⟩
            rw [hw]
            clear hw
            go_wp2
            go_roundg g'
            case measure => omega
            case rel => exact ⟨S', acc ++ [x], rfl, by have := HLT.out; omega, HQ'.out⟩
          | cons d r =>
            have hR0 : ∀ W, (Instr.index 9 (.string (bsOf (d :: r))) (.int .i64 0)).run Tryd.prog W = .ok (.int .u8 (d.toNat : Int)) W := fun W => index_str (k := 0) rfl W
            have hRl : (bsOf (d :: r)).toList = d :: r := by rw [ByteArray.toList_eq]; rfl
            by_cases hd32 : d = 32
            · subst hd32
              go_wp2_with fail
              refine (HQ.out _).mono ?_
              rintro e w1 ⟨rfl, hb1⟩
              obtain ⟨g, cap, w', hr', hq', hlt'⟩ := HF.out.step HNN.out w1 hb1 HFL.out rfl
              have HQ' := Lib.hid hq'
              have HLT := Lib.hid hlt'
              dsimp only at hr'
              generalize bsOf (Lib.trimLeftB (32 :: r) 32) = S' at *
              generalize bsOf (32 :: r) = R at *
              generalize bsOf x = X at *
              generalize (acc.map bsOf).length + 1 = M at *
              clear hb1 hq' hlt'
              go_wp2_with (first | (at_builtin; refine wpList_append_eq hr' rfl (.tmp 53) (.tmp 55) rfl rfl rfl ?_) | fail)
              refine (HTR.out _).mono ?_
              rintro e w3 ⟨rfl, hw⟩
              rw [hw]
              clear hw
              go_wp2
              go_roundg g'
              case measure => omega
              case rel => exact ⟨S', acc ++ [x], rfl, by have := HLT.out; omega, HQ'.out⟩
            · have n32 : ((d.toNat : Int) == 32) = false := by
                rw [beq_eq_false_iff_ne]
                intro h
                exact hd32 (UInt8.toNat_inj.1 (show d.toNat = 32 by omega))
              have m32 : ¬ (d.toNat : Int) = 32 := by simpa using n32
              have HN : Hid (fldL s.data.toList = none) := Lib.hid (by
                rw [HF.out.fld]
                refine withL_bad acc HNN.out H32.out HFL.out ?_
                simp [okRest, hd32])
              generalize bsOf (Lib.trimLeftB (d :: r) 32) = S' at *
              generalize bsOf (d :: r) = R at *
              generalize bsOf x = X at *
              clear hd32
              go_wp2_with fail
              refine (HQ.out _).mono ?_
              rintro e w1 ⟨rfl, hb1⟩
              have HB1 := Lib.hid hb1
              clear hb1
              go_wp2
              go_ret2
              exact ⟨HF.out.below.trans (HB1.out.mono HF.out.below.size), .inr ⟨HN.out, rfl⟩⟩
      · have n34 : ((c.toNat : Int) == 34) = false := by
          rw [beq_eq_false_iff_ne]
          intro h
          exact h34 (UInt8.toNat_inj.1 (show c.toNat = 34 by omega))
        have m34 : ¬ (c.toNat : Int) = 34 := by simpa using n34
        have hfe : fieldL S.data.toList = some (S.data.toList.takeWhile plainB, S.data.toList.dropWhile plainB) := by
          unfold fieldL
          rw [if_neg (by rw [HSL.out]; simpa using h34)]
        have HFE := Lib.hid hfe
        have HC : Hid (∀ W, MaxIs W → Calls Tryd.prog 82 #[.string S, .string ⟨#[32]⟩] W fun e w' => ∃ y b, e = .returned (.tuple #[.string (bsOf (S.data.toList.takeWhile notSp)), .string y, .bool b]) ∧ Below W.heap.size W w') := Lib.hid (fun W ⟨m, hm⟩ => by
          have e1 : (Lib.cut S.data.toList (⟨#[32]⟩ : ByteArray).data.toList).1 = S.data.toList.takeWhile notSp := cut_fst _
          exact (Tryd.strings_Cut S ⟨#[32]⟩ m W (by omega) hm).mono fun e w' ⟨he, n, hw⟩ => ⟨⟨(Lib.cut S.data.toList (⟨#[32]⟩ : ByteArray).data.toList).2.1.toArray⟩, (Lib.cut S.data.toList (⟨#[32]⟩ : ByteArray).data.toList).2.2, by rw [he, e1]; rfl, hw ▸ nbl_drewN (Below.refl _ _) n⟩)
        obtain ⟨m, hm⟩ : ∃ m, (bsOf (S.data.toList.takeWhile notSp)).size = m := ⟨_, rfl⟩
        have hml : (S.data.toList.takeWhile notSp).length = m := by rw [← hm]; exact (Lib.size_mk _).symm
        have hmS : m ≤ S.size := by
          rw [← hml, Lib.size_eq]
          exact (List.takeWhile_sublist _).length_le
        have hsl : ∀ W, (Instr.slice 9 (.string S) (some (.int .i64 (m : Int))) none none).run Tryd.prog W = .ok (.string (bsOf (S.data.toList.dropWhile notSp))) W := fun W => by
          rw [run_slice_string_from_if W 9 S .i64 _ (by kernel_rfl), if_pos ⟨by omega, by omega⟩]
          show Result.ok (Value.string (S.extract m S.size)) W = _
          rw [Lib.extract_from, ← hml, word_drop]
          rfl
        have hcr : ∀ W, Calls Tryd.prog 51 #[.string (bsOf (S.data.toList.takeWhile notSp)), .int .i32 34] W fun e w' => e = .returned (.bool (decide ((34 : UInt8) ∈ S.data.toList.takeWhile notSp))) ∧ w' = W := fun W => by
          refine (Tryd.strings_ContainsRune_ascii (bsOf (S.data.toList.takeWhile notSp)) 34 W (by omega) (by omega)).mono fun e w' ⟨he, hw⟩ => ⟨?_, hw⟩
          rw [he, bsOf_data]
          have e1 : (34 : Int).toNat.toUInt8 = 34 := rfl
          rw [e1, indexByte_mem]
        have HOK := Lib.hid (okRest_sp S.data.toList)
        clear hfe h34 hml hmS
        by_cases hmem : (34 : UInt8) ∈ S.data.toList.takeWhile notSp
        · -- a mark within the word
          have HN : Hid (fldL s.data.toList = none) := Lib.hid (by
            rw [HF.out.fld]
            exact withL_bad acc HNN.out H32.out HFE.out (word_mark _ hmem))
          rw [decide_eq_true hmem] at hcr
          have HCR := Lib.hid hcr
          clear hcr hmem
          cases hR : S.data.toList.dropWhile notSp with
          | nil =>
            rw [hR] at hsl
            have hsl' : ∀ W, (Instr.slice 9 (.string S) (some (.int .i64 (m : Int))) none none).run Tryd.prog W = .ok (.string ⟨#[]⟩) W := hsl
            generalize bsOf (S.data.toList.takeWhile notSp) = X at *
            clear hsl hR
            go_wp2_with fail
            refine (HC.out _ (HM.out.later HF.out.below)).mono ?_
            rintro e w1 ⟨y, b, rfl, hb1⟩
            have HB1 := Lib.hid hb1
            clear hb1
            go_wp2_with fail
            refine (HCR.out _).mono ?_
            rintro e w2 ⟨rfl, hw⟩
            rw [hw]
            clear hw
            go_wp2
            go_ret2
            exact ⟨HF.out.below.trans (HB1.out.mono HF.out.below.size), .inr ⟨HN.out, rfl⟩⟩
          | cons d r =>
            have hd32 : d = 32 := by
              have h := HOK.out
              rw [hR] at h
              simpa [okRest] using h
            subst hd32
            rw [hR] at hsl
            have hR0 : ∀ W, (Instr.index 9 (.string (bsOf (32 :: r))) (.int .i64 0)).run Tryd.prog W = .ok (.int .u8 32) W := fun W => index_str (s := bsOf (32 :: r)) (k := 0) (x := 32) rfl W
            have hRl : (bsOf (32 :: r)).toList = 32 :: r := by rw [ByteArray.toList_eq]; rfl
            generalize bsOf (32 :: r) = R at *
            generalize bsOf (S.data.toList.takeWhile notSp) = X at *
            clear hR
            go_wp2_with fail
            refine (HC.out _ (HM.out.later HF.out.below)).mono ?_
            rintro e w1 ⟨y, b, rfl, hb1⟩
            have HB1 := Lib.hid hb1
            clear hb1
            go_wp2_with fail
            refine (HCR.out _).mono ?_
            rintro e w2 ⟨rfl, hw⟩
            rw [hw]
            clear hw
            go_wp2
            go_ret2
            exact ⟨HF.out.below.trans (HB1.out.mono HF.out.below.size), .inr ⟨HN.out, rfl⟩⟩
        · -- a word
          obtain ⟨hw1, hw2⟩ := word_plain _ hmem
          have HFL : Hid (fieldL S.data.toList = some (S.data.toList.takeWhile notSp, S.data.toList.dropWhile notSp)) := Lib.hid (by rw [HFE.out, hw1, hw2])
          rw [decide_eq_false hmem] at hcr
          have HCR := Lib.hid hcr
          have HTR : Hid (∀ W, Calls Tryd.prog 81 #[.string (bsOf (S.data.toList.dropWhile notSp)), .string ⟨#[32]⟩] W fun e w' => e = .returned (.string (bsOf (Lib.trimLeftB (S.data.toList.dropWhile notSp) 32))) ∧ w' = W) := Lib.hid (fun W => HT.out _ W)
          clear hcr hmem hw1 hw2
          cases hR : S.data.toList.dropWhile notSp with
          | nil =>
            have hsl' : ∀ W, (Instr.slice 9 (.string S) (some (.int .i64 (m : Int))) none none).run Tryd.prog W = .ok (.string ⟨#[]⟩) W := by rw [hR] at hsl; exact hsl
            rw [hR] at HTR HFL
            have HTR' : Hid (∀ W, Calls Tryd.prog 81 #[.string ⟨#[]⟩, .string ⟨#[32]⟩] W fun e w' => e = .returned (.string (bsOf (Lib.trimLeftB [] 32))) ∧ w' = W) := HTR
            clear hsl hR HTR
            have HST := Lib.hid (fun w1 hb1 => HF.out.step HNN.out w1 hb1 HFL.out (by rfl))
            dsimp only at HST
            generalize bsOf (S.data.toList.takeWhile notSp) = X at *
            go_wp2_with fail
            refine (HC.out _ (HM.out.later HF.out.below)).mono ?_
            rintro e w1 ⟨y, b, rfl, hb1⟩
            obtain ⟨g, cap, w', hr', hq', hlt'⟩ := HST.out w1 hb1
            have HQ' := Lib.hid hq'
            have HLT := Lib.hid hlt'
            generalize bsOf (Lib.trimLeftB [] 32) = S' at *
            generalize (acc.map bsOf).length + 1 = M at *
            clear hb1 hq' hlt'
            go_wp2_with fail
            refine (HCR.out _).mono ?_
            rintro e w2 ⟨rfl, hw⟩
            rw [hw]
            clear hw
            go_wp2_with (first | (at_builtin; refine wpList_append_eq hr' rfl (.tmp 53) (.tmp 55) rfl rfl rfl ?_) | fail)
            refine (HTR'.out _).mono ?_
            rintro e w3 ⟨rfl, hw⟩
            rw [hw]
            clear hw
            go_wp2
            go_roundg g'
            case measure => omega
            case rel => exact ⟨S', _, rfl, by have := HLT.out; omega, HQ'.out⟩
          | cons d r =>
            have hd32 : d = 32 := by
              have h := HOK.out
              rw [hR] at h
              simpa [okRest] using h
            subst hd32
            rw [hR] at hsl HTR HFL
            have hR0 : ∀ W, (Instr.index 9 (.string (bsOf (32 :: r))) (.int .i64 0)).run Tryd.prog W = .ok (.int .u8 32) W := fun W => index_str (s := bsOf (32 :: r)) (k := 0) (x := 32) rfl W
            have hRl : (bsOf (32 :: r)).toList = 32 :: r := by rw [ByteArray.toList_eq]; rfl
            clear hR
            have HST := Lib.hid (fun w1 hb1 => HF.out.step HNN.out w1 hb1 HFL.out (by rfl))
            dsimp only at HST
            generalize bsOf (Lib.trimLeftB (32 :: r) 32) = S' at *
            generalize bsOf (32 :: r) = R at *
            generalize bsOf (S.data.toList.takeWhile notSp) = X at *
            go_wp2_with fail
            refine (HC.out _ (HM.out.later HF.out.below)).mono ?_
            rintro e w1 ⟨y, b, rfl, hb1⟩
            obtain ⟨g, cap, w', hr', hq', hlt'⟩ := HST.out w1 hb1
            have HQ' := Lib.hid hq'
            have HLT := Lib.hid hlt'
            generalize (acc.map bsOf).length + 1 = M at *
            clear hb1 hq' hlt'
            go_wp2_with fail
            refine (HCR.out _).mono ?_
            rintro e w2 ⟨rfl, hw⟩
            rw [hw]
            clear hw
            go_wp2_with (first | (at_builtin; refine wpList_append_eq hr' rfl (.tmp 53) (.tmp 55) rfl rfl rfl ?_) | fail)
            refine (HTR.out _).mono ?_
            rintro e w3 ⟨rfl, hw⟩
            rw [hw]
            clear hw
            go_wp2
            go_roundg g'
            case measure => omega
            case rel => exact ⟨S', _, rfl, by have := HLT.out; omega, HQ'.out⟩
end Go.Proofs.YtahklchfchjmcaaDoor
