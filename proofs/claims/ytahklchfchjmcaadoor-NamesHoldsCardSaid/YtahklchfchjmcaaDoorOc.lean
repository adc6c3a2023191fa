/- The reference's First and Unquote. -/
import Derived.Test.YtahklchfchjmcaaDoorOa
import Derived.Test.YtahklchfchjmcaaDoorNo
namespace Go.Proofs.YtahklchfchjmcaaDoor
set_option linter.unusedVariables false
set_option linter.unusedSimpArgs false
open Go.RowKit Go.MapKept

/-- What First hands back. -/
def firstV (l : Bs) : Value := match deqL l with
  | some (x, _) => .tuple #[.string (bsOf x), .int .i64 ((quoteL x).length : Int), .bool true]
  | none => .tuple #[.string ⟨#[]⟩, .int .i64 0, .bool false]

/-- What a round keeps. -/
structure FsAt (w wx : World) (L : Bs) (v : Value) (i : Nat) (l : Bs) : Prop where
  own : OwnB wx w.heap.size v l
  below : Below w.heap.size w wx
  at_ : FirstAt L i l
theorem FsAt.later {w wx wy : World} {L : Bs} {v : Value} {i : Nat} {l : Bs} (h : FsAt w wx L v i l) (hb : Below wx.heap.size wx wy) : FsAt w wy L v i l :=
  ⟨nown_below h.own hb, nbl_step h.below hb, h.at_⟩
theorem FirstAt.len {L : Bs} {i : Nat} {l : Bs} (h : FirstAt L i l) : l.length ≤ i := by
  have h1 := h.pos
  have h2 := (bodyL_length l).1
  omega
theorem FsAt.step {w wx : World} {L : Bs} {v : Value} {i : Nat} {l : Bs} (h : FsAt w wx L v i l) (hi : i ≤ 1000000) (z : UInt8) (k : Nat) (hq : FirstAt L (i + k) (l ++ [z])) :
    ∃ g cap w', (∀ ty, (Builtin.append_ #[44, 44] ty #[v, .slice (some ⟨wx.heap.size, 0, none⟩) 1 1]).run Tryd.prog (wx.alloc (.cells #[.int .u8 (z.toNat : Int)] 5)) = .ok (.slice (some ⟨g, 0, none⟩) (l.length + 1) cap) w') ∧ FsAt w w' L (.slice (some ⟨g, 0, none⟩) (l.length + 1) cap) (i + k) (l ++ [z]) := by
  have hb := (Below.refl wx.heap.size wx).alloc (Nat.le_refl _) (.cells ([z].map byteV).toArray 5)
  have hown2 : OwnB (wx.alloc (.cells ([z].map byteV).toArray 5)) w.heap.size v l := nown_below h.own hb
  have hs1 := h.below.size
  have hs2 := hb.size
  have hlen := h.at_.len
  obtain ⟨g, cap, w', hr, h2, h3, h4, h5⟩ := append_bytes hown2 wx.heap.size 1 1 [z] rfl (by omega) (news_new wx [z] 5) (by omega) (by omega)
  exact ⟨g, cap, w', hr, h2, nown_grown hown2 (h.below.trans (hb.mono hs1)) (by omega) h3, hq⟩

/-- What the inner loop keeps: nothing found yet, or a byte found. -/
def TryAt (w wx : World) (L : Bs) (v0 : Value) (i0 : Nat) (l0 : Bs) (c : Nat) (v : Value) (i : Nat) (found : Bool) : Prop :=
  (found = false ∧ v = v0 ∧ i = i0 ∧ FsAt w wx L v0 i0 l0 ∧ ∀ d, d < c → (oneL (UInt8.ofNat d)).isPrefixOf (L.drop i0) = false) ∨
  (found = true ∧ i0 < i ∧ ∃ l, FsAt w wx L v i l)

set_option maxRecDepth 100000 in
set_option maxHeartbeats 4000000 in
theorem first_any (s : ByteArray) (hs : s.size ≤ 100000) (w : World) :
    Calls Tryd.prog 56 #[.string s] w fun e w' => e = .returned (firstV s.data.toList) ∧ Below w.heap.size w w' := by
  obtain ⟨N, hN⟩ : ∃ N, s.size = N := ⟨_, rfl⟩
  have HL : Hid (s.data.toList.length = N) := Lib.hid (by rw [← hN]; exact (Lib.size_eq s).symm)
  have HS := Lib.hid hN
  rw [hN] at hs
  have hst := starts_any s ⟨#[34]⟩
  cases hl : s.data.toList with
  | nil =>
    have hp : (⟨#[34]⟩ : ByteArray).data.toList.isPrefixOf s.data.toList = false := by rw [hl]; rfl
    rw [hp] at hst
    have HST := Lib.hid hst
    have HV : Hid (firstV [] = .tuple #[.string ⟨#[]⟩, .int .i64 0, .bool false]) := Lib.hid rfl
    clear hst hp hl
    go_enter Tryd.func56, Tryd.ntmps56
    go_wp2_with fail
    refine (HST.out _).mono ?_
    rintro e w1 ⟨rfl, hw⟩
    rw [hw]
    clear hw
    go_wp2
    go_ret3
    exact ⟨by rw [HV.out]; rfl, Below.refl _ _⟩
  | cons c0 t0 =>
    by_cases h34 : c0 = 34
    · subst h34
      have hp : (⟨#[34]⟩ : ByteArray).data.toList.isPrefixOf s.data.toList = true := by rw [hl]; rfl
      rw [hp] at hst
      have HST := Lib.hid hst
      have HF0 : Hid (FsAt w w s.data.toList (.slice none 0 0) 1 []) := Lib.hid ⟨nown_none _ _ _ _, Below.refl _ _, FirstAt.start (by rw [hl]; rfl)⟩
      have HN1 : Hid (1 ≤ N) := Lib.hid (by rw [← HL.out, hl]; simp)
      rw [← hl]
      clear hst hp hl
      go_enter Tryd.func56, Tryd.ntmps56
      go_wp2_with fail
      refine (HST.out _).mono ?_
      rintro e w1 ⟨rfl, hw⟩
      rw [hw]
      clear hw
      go_wp2
      go_loopg [5, 6] N (fun gf s5 s6 wx => ∃ (i : Nat) (l : Bs), s6 = .int .i64 (i : Int) ∧ N ≤ i + gf ∧ FsAt w wx s.data.toList s5 i l)
      case atStart => exact ⟨1, [], rfl, by omega, HF0.out⟩
      case round =>
        obtain ⟨i, l, rfl, hk, hq⟩ := hrel
        have HQ := Lib.hid hq
        have hiN : i ≤ N := by have := hq.at_.le; rw [HL.out] at this; exact this
        clear hq
        by_cases hlt : i < N
        · obtain ⟨g', rfl⟩ : ∃ g', gk = g' + 1 := ⟨gk - 1, by omega⟩
          have hiL : i < s.data.toList.length := by rw [HL.out]; exact hlt
          have hx0 : s.data.toList[i]? = some s.data.toList[i] := List.getElem?_eq_getElem hiL
          generalize s.data.toList[i] = x at hx0
          have hix := index_str hx0
          have HX := Lib.hid hx0
          clear hx0 hiL
          have hld : decide ((i : Int) < N) = true := decide_eq_true (by omega)
          by_cases hx34 : x = 34
          · subst hx34
            have hbk : (convert 44 9 u5).run Tryd.prog wr = .ok (.string (bsOf l)) wr := back_bytes HQ.out.own
            have hge : ¬ (N : Int) ≤ i := by omega
            have hged : decide ((N : Int) ≤ i) = false := decide_eq_false hge
            have hwi : IntKind.i64.wrap ((i : Int) + 1) = (i : Int) + 1 := wrap_small _ (by omega) (by omega)
            have HV : Hid (firstV s.data.toList = .tuple #[.string (bsOf l), .int .i64 ((i : Int) + 1), .bool true]) := Lib.hid (by
              have hln : ((quoteL l).length : Int) = (i : Int) + 1 := by
                have := HQ.out.at_.pos
                simp only [quoteL, List.length_cons, List.length_append, List.length_nil]
                omega
              unfold firstV
              rw [HQ.out.at_.done HX.out]
              dsimp only
              rw [hln])
            go_wp2
            go_ret3
            exact ⟨by rw [HV.out]; rfl, HQ.out.below⟩
          · have n34 : ((x.toNat : Int) == 34) = false := by
              rw [beq_eq_false_iff_ne]
              intro h
              exact hx34 (UInt8.toNat_inj.1 (show x.toNat = 34 by omega))
            have m34 : ¬ (x.toNat : Int) = 34 := by simpa using n34
            have b34 : ((x.toNat : Int) != 34) = true := by rw [bne, n34]; rfl
            have hsl : ∀ W, (Instr.slice 9 (.string s) (some (.int .i64 (i : Int))) none none).run Tryd.prog W = .ok (.string (bsOf (s.data.toList.drop i))) W := fun W => by
              rw [run_slice_string_from_if W 9 s .i64 _ (by kernel_rfl), if_pos ⟨by omega, by rw [HS.out]; omega⟩]
              show Result.ok (Value.string (s.extract i s.size)) W = _
              rw [Lib.extract_from]
              rfl
            have HST2 : Hid (∀ (p : ByteArray) W, Calls Tryd.prog 80 #[.string (bsOf (s.data.toList.drop i)), .string p] W fun e w' => e = .returned (.bool (p.data.toList.isPrefixOf (s.data.toList.drop i))) ∧ w' = W) := Lib.hid (fun p W => starts_any _ p W)
            have HX34 := Lib.hid hx34
            generalize bsOf (s.data.toList.drop i) = D at *
            clear hx34
            go_wp2
            go_loopg [5, 6, 7, 8] 256 (fun gf s5 s6 s7 s8 wx => ∃ (c j : Nat) (f : Bool), s8 = .int .i64 (c : Int) ∧ s7 = .bool f ∧ s6 = .int .i64 (j : Int) ∧ c + gf = 256 ∧ TryAt w wx s.data.toList u5 i l c s5 j f)
            case atStart => exact ⟨0, i, false, rfl, rfl, rfl, by omega, .inl ⟨rfl, rfl, rfl, HQ.out, fun d hd => absurd hd (by omega)⟩⟩
            case round =>
              obtain ⟨c, j, f, rfl, rfl, rfl, hc, htry⟩ := hrel
              rcases htry with ⟨rfl, rfl, rfl, hfs, hno⟩ | ⟨rfl, hij, l', hfs⟩
              · have HFS := Lib.hid hfs
                have HNO := Lib.hid hno
                clear hfs hno
                by_cases hc256 : c < 256
                · obtain ⟨h', rfl⟩ : ∃ h', gk = h' + 1 := ⟨gk - 1, by omega⟩
                  have hcd : decide ((c : Int) < 256) = true := decide_eq_true (by omega)
                  have hcm : (c : Int) % 256 = c := by omega
                  have hcu : (UInt8.ofNat c).toNat = c := by rw [UInt8.toNat_ofNat']; omega
                  have HO : Hid (∀ W, Calls Tryd.prog 54 #[.int .u8 (c : Int)] W fun e w' => e = .returned (.string (bsOf (oneL (UInt8.ofNat c)))) ∧ Below W.heap.size W w') := Lib.hid (fun W => by
                    have h := one_any (UInt8.ofNat c) W
                    rw [hcu] at h
                    exact h)
                  have HST3 : Hid (∀ W, Calls Tryd.prog 80 #[.string D, .string (bsOf (oneL (UInt8.ofNat c)))] W fun e w' => e = .returned (.bool ((oneL (UInt8.ofNat c)).isPrefixOf (s.data.toList.drop j))) ∧ w' = W) := Lib.hid (fun W => HST2.out _ W)
                  cases hpb : (oneL (UInt8.ofNat c)).isPrefixOf (s.data.toList.drop j) with
                  | true =>
                    rw [hpb] at HST3
                    obtain ⟨m, hm⟩ : ∃ m, (bsOf (oneL (UInt8.ofNat c))).size = m := ⟨_, rfl⟩
                    have hml : (oneL (UInt8.ofNat c)).length = m := by rw [← hm]; exact (Lib.size_mk _).symm
                    have hm1 : 1 ≤ m ∧ m ≤ 4 := by rw [← hml]; exact oneL_length _
                    have HST4 : Hid (FirstAt s.data.toList (j + m) (l ++ [UInt8.ofNat c])) := Lib.hid (by
                      obtain ⟨q, hq⟩ := List.isPrefixOf_iff_prefix.1 hpb
                      rw [← hml]
                      exact HFS.out.at_.step hq.symm)
                    have hwj : IntKind.i64.wrap ((j : Int) + m) = (j : Int) + m := wrap_small _ (by omega) (by omega)
                    generalize bsOf (oneL (UInt8.ofNat c)) = X at *
                    clear hpb hml
                    go_wp2_with fail
                    refine (HO.out _).mono ?_
                    rintro e w1 ⟨rfl, hb⟩
                    obtain ⟨g, cap, w2, hr, hq2⟩ := (HFS.out.later hb).step (by omega) (UInt8.ofNat c) m HST4.out
                    rw [hcu] at hr
                    have HQ2 := Lib.hid hq2
                    generalize l.length + 1 = M at *
                    clear hb hq2
                    go_wp2_with fail
                    refine (HST3.out _).mono ?_
                    rintro e w1' ⟨rfl, hw⟩
                    rw [hw]
                    clear hw
                    go_wp2_with (first | (at_builtin; refine wpList_append_eq hr rfl (.tmp 39) (.tmp 42) rfl rfl rfl ?_) | fail)
                    go_roundg h'
                    case measure => omega
                    case rel => exact ⟨c + 1, j + m, true, by go_num, rfl, by go_num, by omega, .inr ⟨rfl, by omega, _, HQ2.out⟩⟩
                  | false =>
                    rw [hpb] at HST3
                    have HPB := Lib.hid hpb
                    generalize bsOf (oneL (UInt8.ofNat c)) = X at *
                    clear hpb
                    go_wp2_with fail
                    refine (HO.out _).mono ?_
                    rintro e w1 ⟨rfl, hb⟩
                    have HB := Lib.hid hb
                    clear hb
                    go_wp2_with fail
                    refine (HST3.out _).mono ?_
                    rintro e w1' ⟨rfl, hw⟩
                    rw [hw]
                    clear hw
                    go_wp2
                    go_roundg h'
                    case measure => omega
                    case rel =>
                      refine ⟨c + 1, j, false, by go_num, rfl, rfl, by omega, .inl ⟨rfl, rfl, rfl, HFS.out.later HB.out, fun d hd => ?_⟩⟩
                      by_cases e : d = c
                      · subst e
                        exact HPB.out
                      · exact HNO.out d (by omega)
                · have hcd : decide ((c : Int) < 256) = false := decide_eq_false (by omega)
                  have hci : ¬ (c : Int) < 256 := by omega
                  have HV : Hid (firstV s.data.toList = .tuple #[.string ⟨#[]⟩, .int .i64 0, .bool false]) := Lib.hid (by
                    unfold firstV
                    rw [HFS.out.at_.none (by rw [HX.out]; intro h; exact HX34.out (Option.some.inj h)) (fun d r hd => ?_)]
                    have h := HNO.out d.toNat (by have := d.toNat_lt; omega)
                    rw [UInt8.ofNat_toNat, hd] at h
                    have h2 : (oneL d).isPrefixOf (oneL d ++ r) = true := List.isPrefixOf_iff_prefix.2 (List.prefix_append _ _)
                    rw [h2] at h
                    cases h)
                  go_wp2
                  go_ret3
                  exact ⟨by rw [HV.out]; rfl, HFS.out.below⟩
              · have HFS := Lib.hid hfs
                clear hfs
                by_cases hc256 : (c : Int) < 256
                · have hcd : decide ((c : Int) < 256) = true := decide_eq_true hc256
                  go_wp2
                  go_roundg g'
                  case measure => omega
                  case rel => exact ⟨j, l', rfl, by omega, HFS.out⟩
                · have hcd : decide ((c : Int) < 256) = false := decide_eq_false hc256
                  go_wp2
                  go_roundg g'
                  case measure => omega
                  case rel => exact ⟨j, l', rfl, by omega, HFS.out⟩
        · have hld : decide ((i : Int) < N) = false := decide_eq_false (by omega)
          have hli : ¬ (i : Int) < N := by omega
          have hge : (N : Int) ≤ i := by omega
          have hged : decide ((N : Int) ≤ i) = true := decide_eq_true hge
          have HV : Hid (firstV s.data.toList = .tuple #[.string ⟨#[]⟩, .int .i64 0, .bool false]) := Lib.hid (by
            unfold firstV
            rw [HQ.out.at_.end (by rw [HL.out]; exact hlt)])
          go_wp2
          go_ret3
          exact ⟨by rw [HV.out]; rfl, HQ.out.below⟩
    · have hp : (⟨#[34]⟩ : ByteArray).data.toList.isPrefixOf s.data.toList = false := by
        rw [hl]
        have : (34 == c0) = false := by rw [beq_eq_false_iff_ne]; exact fun e => h34 e.symm
        simp [List.isPrefixOf, this]
      rw [hp] at hst
      have HST := Lib.hid hst
      have HV : Hid (firstV (c0 :: t0) = .tuple #[.string ⟨#[]⟩, .int .i64 0, .bool false]) := Lib.hid (by
        unfold firstV deqL
        dsimp only
        rw [if_neg h34])
      clear hst hp hl
      go_enter Tryd.func56, Tryd.ntmps56
      go_wp2_with fail
      refine (HST.out _).mono ?_
      rintro e w1 ⟨rfl, hw⟩
      rw [hw]
      clear hw
      go_wp2
      go_ret3
      exact ⟨by rw [HV.out]; rfl, Below.refl _ _⟩
end Go.Proofs.YtahklchfchjmcaaDoor
