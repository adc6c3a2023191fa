/- names.quoted. -/
import Derived.Test.YtahklchfchjmcaaDoorNj
namespace Go.Proofs.YtahklchfchjmcaaDoor
set_option linter.unusedVariables false
set_option linter.unusedSimpArgs false
open Go.RowKit Go.MapKept

/-- What quoted hands back. -/
def quotedV (l : Bs) : Value := match deqL l with
  | some (x, r) => .tuple #[.string ⟨x.toArray⟩, .string ⟨r.toArray⟩, .int .i64 0]
  | none => .tuple #[.string ⟨#[]⟩, .string ⟨#[]⟩, .int .i64 6]

def iB (g : UInt8) : Int := Lib.indexByte digitsB.data.toList g
theorem idx_digit (g : UInt8) (W : World) : Calls Tryd.prog 91 #[.string ⟨#[48, 49, 50, 51, 52, 53, 54, 55, 56, 57, 97, 98, 99, 100, 101, 102]⟩, .int .u8 (g.toNat : Int)] W fun e w' => e = .returned (.int .i64 (iB g)) ∧ w' = W := by
  refine (Tryd.strings_IndexByte ⟨#[48, 49, 50, 51, 52, 53, 54, 55, 56, 57, 97, 98, 99, 100, 101, 102]⟩ (g.toNat : Int) W).mono fun e w' ⟨he, hw⟩ => ⟨?_, hw⟩
  rw [he]
  have e : ((g.toNat : Int)).toNat.toUInt8 = g := by simp
  rw [e]
  rfl
theorem iB_hex : ∀ a : Nat, a < 16 → iB (hexD (UInt8.ofNat a)) = a := by decide +kernel
theorem or_hex : ∀ a : Nat, a < 16 → ∀ b : Nat, b < 16 → IntKind.u8.wrap (bits .or .i64 (IntKind.i64.wrap ((a : Int) * 16)) (b : Int)) = (a : Int) * 16 + b := by decide +kernel
def zB (g h : UInt8) : UInt8 := UInt8.ofNat (IntKind.u8.wrap (bits .or .i64 (IntKind.i64.wrap (iB g * 16)) (iB h))).toNat
theorem zB_val (g h : UInt8) : IntKind.u8.wrap (bits .or .i64 (IntKind.i64.wrap (iB g * 16)) (iB h)) = ((zB g h).toNat : Int) := by
  unfold zB
  generalize bits .or .i64 (IntKind.i64.wrap (iB g * 16)) (iB h) = n
  have h0 : 0 ≤ IntKind.u8.wrap n ∧ IntKind.u8.wrap n < 256 := by
    unfold IntKind.wrap
    simp [IntKind.bits, IntKind.signed]
    omega
  rw [UInt8.toNat_ofNat']
  omega
theorem zB_val64 (g h : UInt8) : bits .or .i64 (wrap64 (iB g * 16)) (iB h) % 256 = ((zB g h).toNat : Int) := by
  have h1 := zB_val g h
  rw [IntWalk.i64_left] at h1
  have h2 : ∀ n : Int, IntKind.u8.wrap n = n % 256 := by
    intro n
    unfold IntKind.wrap
    simp [IntKind.bits, IntKind.signed]
  rw [h2] at h1
  exact h1
theorem zB_hex (g h a b : UInt8) (ha : a.toNat < 16) (hb : b.toNat < 16) (eg : g = hexD a) (eh : h = hexD b) : (zB g h).toNat = a.toNat * 16 + b.toNat := by
  have h1 := zB_val g h
  have e1 : iB g = a.toNat := by
    have := iB_hex a.toNat ha
    rw [UInt8.ofNat_toNat, ← eg] at this
    exact this
  have e2 : iB h = b.toNat := by
    have := iB_hex b.toNat hb
    rw [UInt8.ofNat_toNat, ← eh] at this
    exact this
  rw [e1, e2, or_hex _ ha _ hb] at h1
  omega

/-- What a round keeps. -/
structure QdAt (w wx : World) (L : Bs) (v : Value) (i : Nat) (l : Bs) : Prop where
  own : OwnB wx w.heap.size v l
  below : Below w.heap.size w wx
  len : l.length ≤ i
  at_ : QuotedAt L i l
theorem QdAt.step {w wx : World} {L : Bs} {v : Value} {i : Nat} {l : Bs} (h : QdAt w wx L v i l) (hi : i ≤ 1000000) (z : UInt8) (k : Nat) (hk : 1 ≤ k) (hq : QuotedAt L (i + k) (l ++ [z])) :
    ∃ g cap w', (∀ ty, (Builtin.append_ #[44, 44] ty #[v, .slice (some ⟨wx.heap.size, 0, none⟩) 1 1]).run Tryd.prog (wx.alloc (.cells #[.int .u8 (z.toNat : Int)] 5)) = .ok (.slice (some ⟨g, 0, none⟩) (l.length + 1) cap) w') ∧ QdAt w w' L (.slice (some ⟨g, 0, none⟩) (l.length + 1) cap) (i + k) (l ++ [z]) := by
  have hb := (Below.refl wx.heap.size wx).alloc (Nat.le_refl _) (.cells ([z].map byteV).toArray 5)
  have hown2 : OwnB (wx.alloc (.cells ([z].map byteV).toArray 5)) w.heap.size v l := nown_below h.own hb
  have hs1 := h.below.size
  have hs2 := hb.size
  have hlen := h.len
  obtain ⟨g, cap, w', hr, h2, h3, h4, h5⟩ := append_bytes hown2 wx.heap.size 1 1 [z] rfl (by omega) (news_new wx [z] 5) (by omega) (by omega)
  exact ⟨g, cap, w', hr, h2, nown_grown hown2 (h.below.trans (hb.mono hs1)) (by omega) h3, by rw [List.length_append]; simp; omega, hq⟩

set_option maxRecDepth 100000 in
set_option maxHeartbeats 1000000 in
theorem quoted_any (s : ByteArray) (hs : s.size ≤ 100000) (w : World) :
    Calls Tryd.prog 79 #[.string s] w fun e w' => e = .returned (quotedV s.data.toList) ∧ Below w.heap.size w w' := by
  obtain ⟨N, hN⟩ : ∃ N, s.size = N := ⟨_, rfl⟩
  have HL : Hid (s.data.toList.length = N) := Lib.hid (by rw [← hN]; exact (Lib.size_eq s).symm)
  have HS := Lib.hid hN
  rw [hN] at hs
  go_enter Tryd.func79, Tryd.ntmps79
  go_wp2
  go_loopg [5, 6] N (fun gf s5 s6 wx => ∃ (i : Nat) (l : Bs), s6 = .int .i64 (i : Int) ∧ N ≤ i + gf ∧ i ≤ N + 1 ∧ QdAt w wx s.data.toList s5 i l)
  case atStart => exact ⟨1, [], rfl, by omega, by omega, nown_none _ _ _ _, Below.refl _ _, by simp, QuotedAt.start _⟩
  case round =>
    obtain ⟨i, l, rfl, hk, hiN, hq⟩ := hrel
    have HQ := Lib.hid hq
    clear hq
    by_cases hlt : i < N
    · obtain ⟨g', rfl⟩ : ∃ g', gk = g' + 1 := ⟨gk - 1, by omega⟩
      have hiL : i < s.data.toList.length := by rw [HL.out]; exact hlt
      have hx0 : s.data.toList[i]? = some s.data.toList[i] := List.getElem?_eq_getElem hiL
      generalize s.data.toList[i] = x at hx0
      have hix := index_str hx0
      have HX := Lib.hid hx0
      clear hx0 hiL
      have hw1 : IntKind.i64.wrap ((i : Int) + 1) = (i : Int) + 1 := wrap_small _ (by omega) (by omega)
      have hw2 : IntKind.i64.wrap ((i : Int) + 2) = (i : Int) + 2 := wrap_small _ (by omega) (by omega)
      have hw3 : IntKind.i64.wrap ((i : Int) + 3) = (i : Int) + 3 := wrap_small _ (by omega) (by omega)
      by_cases h34 : x = 34
      · subst h34
        have hbk : ∀ n, (convert 44 9 u5).run Tryd.prog (wr.drewN n) = .ok (.string ⟨l.toArray⟩) (wr.drewN n) := fun n => back_bytes (nown_below HQ.out.own (nbl_drewN (Below.refl _ _) n))
        have hll : (⟨l.toArray⟩ : ByteArray).size ≤ 100000 := by rw [Lib.size_mk]; have := HQ.out.len; omega
        have HT : Hid (∀ W, Calls Tryd.prog 33 #[.string ⟨l.toArray⟩] W fun e w' => e = .returned (.string ⟨(quoteL l).toArray⟩) ∧ Below W.heap.size W w') := Lib.hid (fun W => quote_any _ hll W)
        have hsl1 : ∀ W, (Instr.slice 9 (.string s) (some (.int .i64 ((i : Int) + 1))) none none).run Tryd.prog W = .ok (.string ⟨(s.data.toList.drop (i + 1)).toArray⟩) W := fun W => by
          rw [run_slice_string_from_if W 9 s .i64 _ (by kernel_rfl), if_pos ⟨by omega, by rw [HS.out]; omega⟩, ← Lib.extract_from]
          rfl
        have hsl2 : ∀ W, (Instr.slice 9 (.string s) none (some (.int .i64 ((i : Int) + 1))) none).run Tryd.prog W = .ok (.string ⟨(s.data.toList.take (i + 1)).toArray⟩) W := fun W => by
          rw [run_slice_string_to_if W 9 s .i64 _ (by kernel_rfl), if_pos ⟨by omega, by rw [HS.out]; omega⟩, ← Lib.extract_upto]
          rfl
        have hcmp := toList_eq_mk (quoteL l) (s.data.toList.take (i + 1)) ⟨(s.data.toList.take (i + 1)).toArray⟩ rfl
        have hval : quotedV s.data.toList = if quoteL l = s.data.toList.take (i + 1) then .tuple #[.string ⟨l.toArray⟩, .string ⟨(s.data.toList.drop (i + 1)).toArray⟩, .int .i64 0] else .tuple #[.string ⟨#[]⟩, .string ⟨#[]⟩, .int .i64 6] := by
          unfold quotedV
          by_cases hq : quoteL l = s.data.toList.take (i + 1)
          · rw [if_pos hq, quoted_good hq]
          · rw [if_neg hq, HQ.out.at_.fails HX.out hq]
        generalize (⟨(s.data.toList.drop (i + 1)).toArray⟩ : ByteArray) = R at *
        generalize (⟨(s.data.toList.take (i + 1)).toArray⟩ : ByteArray) = X at *
        generalize (⟨(quoteL l).toArray⟩ : ByteArray) = T at *
        generalize (⟨l.toArray⟩ : ByteArray) = Y at *
        by_cases hq : quoteL l = s.data.toList.take (i + 1)
        · rw [if_pos hq] at hval
          rw [decide_eq_true hq] at hcmp
          have HV := Lib.hid hval
          clear hval hq hll
          go_wp2
          go_quiet (fail)
          obtain ⟨W1, hW1⟩ : ∃ W1, wr.drewN nq = W1 := ⟨_, rfl⟩
          have hb1 : Below wr.heap.size wr W1 := hW1 ▸ nbl_drewN (Below.refl _ _) nq
          rw [hW1]
          clear hW1 hbk
          have HB1 := Lib.hid hb1
          clear hb1
          go_wp2
          go_region_held3 (fun w' => True) (go_keep) (first | (go_at_call 33; refine (HT.out _).mono ?_; rintro e w8 ⟨rfl, hb8⟩; have HB8 := Lib.hid hb8; clear hb8) | fail)
          all_goals
            go_wp2
            go_ret3
            refine ⟨by rw [HV.out]; rfl, HQ.out.below.trans ((HB1.out.drew.trans (HB8.out.mono HB1.out.size)).mono HQ.out.below.size)⟩
        · rw [if_neg hq] at hval
          rw [decide_eq_false hq] at hcmp
          have HV := Lib.hid hval
          clear hval hq hll
          go_wp2
          go_quiet (fail)
          obtain ⟨W1, hW1⟩ : ∃ W1, wr.drewN nq = W1 := ⟨_, rfl⟩
          have hb1 : Below wr.heap.size wr W1 := hW1 ▸ nbl_drewN (Below.refl _ _) nq
          rw [hW1]
          clear hW1 hbk
          have HB1 := Lib.hid hb1
          clear hb1
          go_wp2
          go_region_held3 (fun w' => True) (go_keep) (first | (go_at_call 33; refine (HT.out _).mono ?_; rintro e w8 ⟨rfl, hb8⟩; have HB8 := Lib.hid hb8; clear hb8) | fail)
          all_goals
            go_wp2
            go_ret3
            refine ⟨by rw [HV.out]; rfl, HQ.out.below.trans ((HB1.out.drew.trans (HB8.out.mono HB1.out.size)).mono HQ.out.below.size)⟩
      · have n34 : ((x.toNat : Int) == 34) = false := by
          rw [beq_eq_false_iff_ne]
          intro h
          exact h34 (UInt8.toNat_inj.1 (show x.toNat = 34 by omega))
        have m34 : ¬ (x.toNat : Int) = 34 := by simpa using n34
        by_cases h92 : x = 92
        · subst h92
          by_cases h1N : (i : Int) + 1 < N
          · have hyL : i + 1 < s.data.toList.length := by rw [HL.out]; omega
            have hy0 : s.data.toList[i + 1]? = some s.data.toList[i + 1] := List.getElem?_eq_getElem hyL
            generalize s.data.toList[i + 1] = y at hy0
            have hiy : ∀ W, (Instr.index 9 (.string s) (.int .i64 ((i : Int) + 1))).run Tryd.prog W = .ok (.int .u8 (y.toNat : Int)) W := fun W => index_str hy0 W
            have HY := Lib.hid hy0
            clear hy0 hyL
            have h1Nd : decide ((i : Int) + 1 < N) = true := decide_eq_true h1N
            by_cases h3N : (i : Int) + 3 < N
            · have h3Nd : decide ((i : Int) + 3 < N) = true := decide_eq_true h3N
              by_cases h120 : y = 120
              · subst h120
                have haL : i + 2 < s.data.toList.length := by rw [HL.out]; omega
                have ha0 : s.data.toList[i + 2]? = some s.data.toList[i + 2] := List.getElem?_eq_getElem haL
                generalize s.data.toList[i + 2] = a at ha0
                have hbL : i + 3 < s.data.toList.length := by rw [HL.out]; omega
                have hb0 : s.data.toList[i + 3]? = some s.data.toList[i + 3] := List.getElem?_eq_getElem hbL
                generalize s.data.toList[i + 3] = b at hb0
                have hia : ∀ W, (Instr.index 9 (.string s) (.int .i64 ((i : Int) + 2))).run Tryd.prog W = .ok (.int .u8 (a.toNat : Int)) W := fun W => index_str ha0 W
                have hib : ∀ W, (Instr.index 9 (.string s) (.int .i64 ((i : Int) + 3))).run Tryd.prog W = .ok (.int .u8 (b.toNat : Int)) W := fun W => index_str hb0 W
                have hz : bits .or .i64 (wrap64 (iB a * 16)) (iB b) % 256 = ((zB a b).toNat : Int) := zB_val64 a b
                have HJ : Hid (QuotedAt s.data.toList (i + 4) (l ++ [zB a b])) := Lib.hid (HQ.out.at_.hex HX.out HY.out ha0 hb0 fun p q hp hq e1 e2 => zB_hex a b p q hp hq e1 e2)
                have HA := Lib.hid (fun W => idx_digit a W)
                have HB := Lib.hid (fun W => idx_digit b W)
                generalize zB a b = z at *
                generalize iB a = ia at *
                generalize iB b = ib at *
                clear ha0 hb0 haL hbL
                go_wp2
                go_quiet (first | exact Calls.quiet_of_same (HA.out _) | exact Calls.quiet_of_same (HB.out _) | fail)
                obtain ⟨W1, hW1⟩ : ∃ W1, wr.drewN nq = W1 := ⟨_, rfl⟩
                have hb1 : Below wr.heap.size wr W1 := hW1 ▸ nbl_drewN (Below.refl _ _) nq
                rw [hW1]
                clear hW1
                have HQ1 : Hid (QdAt w W1 s.data.toList u5 i l) := Lib.hid ⟨nown_below HQ.out.own hb1, HQ.out.below.trans (hb1.mono HQ.out.below.size), HQ.out.len, HQ.out.at_⟩
                clear hb1
                obtain ⟨g, cap, w', hr, hq'⟩ := HQ1.out.step (by omega) z 4 (by omega) HJ.out
                have HQ' := Lib.hid hq'
                generalize l.length + 1 = M at *
                clear hq'
                go_wp2_with (at_builtin; refine wpList_append_eq hr rfl (.tmp 68) (.tmp 74) rfl rfl rfl ?_)
                go_roundg g'
                case measure => omega
                case rel => exact ⟨i + 4, l ++ [z], by go_num, by omega, by omega, HQ'.out⟩
              · have n120 : ((y.toNat : Int) == 120) = false := by
                  rw [beq_eq_false_iff_ne]
                  intro h
                  exact h120 (UInt8.toNat_inj.1 (show y.toNat = 120 by omega))
                have m120 : ¬ (y.toNat : Int) = 120 := by simpa using n120
                obtain ⟨g, cap, w', hr, hq'⟩ := HQ.out.step (by omega) y 2 (by omega) (HQ.out.at_.esc HX.out HY.out (fun h => h120 h.2))
                have HQ' := Lib.hid hq'
                generalize l.length + 1 = M at *
                clear hq' h120
                go_wp2_with (at_builtin; refine wpList_append_eq hr rfl (.tmp 88) (.tmp 93) rfl rfl rfl ?_)
                go_roundg g'
                case measure => omega
                case rel => exact ⟨i + 2, l ++ [y], by go_num, by omega, by omega, HQ'.out⟩
            · have h3Nd : decide ((i : Int) + 3 < N) = false := decide_eq_false h3N
              obtain ⟨g, cap, w', hr, hq'⟩ := HQ.out.step (by omega) y 2 (by omega) (HQ.out.at_.esc HX.out HY.out (fun h => h3N (by have := h.1; rw [HL.out] at this; omega)))
              have HQ' := Lib.hid hq'
              generalize l.length + 1 = M at *
              clear hq'
              go_wp2_with (at_builtin; refine wpList_append_eq hr rfl (.tmp 88) (.tmp 93) rfl rfl rfl ?_)
              go_roundg g'
              case measure => omega
              case rel => exact ⟨i + 2, l ++ [y], by go_num, by omega, by omega, HQ'.out⟩
          · have h1Nd : decide ((i : Int) + 1 < N) = false := decide_eq_false h1N
            have h3N : ¬ (i : Int) + 3 < N := by omega
            have h3Nd : decide ((i : Int) + 3 < N) = false := decide_eq_false h3N
            obtain ⟨g, cap, w', hr, hq'⟩ := HQ.out.step (by omega) 92 1 (by omega) (HQ.out.at_.plain HX.out (by decide) (fun h => h1N (by have := h.2; rw [HL.out] at this; omega)))
            have hr' : ∀ ty, (Builtin.append_ #[44, 44] ty #[u5, .slice (some ⟨wr.heap.size, 0, none⟩) 1 1]).run Tryd.prog (wr.alloc (.cells #[.int .u8 92] 5)) = .ok (.slice (some ⟨g, 0, none⟩) (l.length + 1) cap) w' := hr
            have HQ' := Lib.hid hq'
            generalize l.length + 1 = M at *
            clear hq' hr
            go_wp2_with (at_builtin; refine wpList_append_eq hr' rfl (.tmp 19) (.tmp 21) rfl rfl rfl ?_)
            go_roundg g'
            case measure => omega
            case rel => exact ⟨i + 1, l ++ [92], by go_num, by omega, by omega, HQ'.out⟩
        · have n92 : ((x.toNat : Int) == 92) = false := by
            rw [beq_eq_false_iff_ne]
            intro h
            exact h92 (UInt8.toNat_inj.1 (show x.toNat = 92 by omega))
          have m92 : ¬ (x.toNat : Int) = 92 := by simpa using n92
          obtain ⟨g, cap, w', hr, hq'⟩ := HQ.out.step (by omega) x 1 (by omega) (HQ.out.at_.plain HX.out h34 (fun h => h92 h.1))
          have HQ' := Lib.hid hq'
          generalize l.length + 1 = M at *
          clear hq' h34 h92
          go_wp2_with (at_builtin; refine wpList_append_eq hr rfl (.tmp 19) (.tmp 21) rfl rfl rfl ?_)
          go_roundg g'
          case measure => omega
          case rel => exact ⟨i + 1, l ++ [x], by go_num, by omega, by omega, HQ'.out⟩
    · have hval : quotedV s.data.toList = .tuple #[.string ⟨#[]⟩, .string ⟨#[]⟩, .int .i64 6] := by
        unfold quotedV
        rw [HQ.out.at_.end (by rw [HL.out]; exact hlt)]
      have HV := Lib.hid hval
      clear hval
      go_wp2
      go_ret3
      refine ⟨?_, HQ.out.below⟩
      rw [HV.out]
      rfl
end Go.Proofs.YtahklchfchjmcaaDoor
