/- names.Quote. -/
import Derived.Test.YtahklchfchjmcaaDoorNi
namespace Go.Proofs.YtahklchfchjmcaaDoor
set_option linter.unusedVariables false
set_option linter.unusedSimpArgs false
open Go.RowKit Go.MapKept

theorem take_snoc {l : Bs} {k : Nat} {x : UInt8} (hx : l[k]? = some x) : l.take (k + 1) = l.take k ++ [x] := by rw [List.take_add_one, hx]; rfl
theorem body_take_len (l : Bs) (k : Nat) : (bodyL (l.take k)).length ≤ 4 * l.length := by
  have h1 := (bodyL_length (l.take k)).2
  have h2 : (l.take k).length ≤ l.length := by rw [List.length_take]; omega
  omega

def digitsB : ByteArray := ⟨#[48, 49, 50, 51, 52, 53, 54, 55, 56, 57, 97, 98, 99, 100, 101, 102]⟩
theorem digits_at : ∀ q, q < 16 → digitsB.data.toList[q]? = some (hexD (UInt8.ofNat q)) := by decide
theorem index_digit (kd : IntKind) (q : Nat) (hq : q < 16) (W : World) : (Instr.index 9 (.string ⟨#[48, 49, 50, 51, 52, 53, 54, 55, 56, 57, 97, 98, 99, 100, 101, 102]⟩) (.int kd (q : Int))).run Tryd.prog W = .ok (.int .u8 ((hexD (UInt8.ofNat q)).toNat : Int)) W := by
  have hx := digits_at q hq
  have hk : q < digitsB.data.toList.length := (List.getElem?_eq_some_iff.1 hx).1
  have hs : q < digitsB.size := by rw [Lib.size_eq]; exact hk
  show (Instr.index 9 (.string digitsB) (.int kd (q : Int))).run Tryd.prog W = _
  rw [run_index_string W 9 digitsB kd q (by kernel_rfl), dif_pos ⟨by omega, by omega⟩]
  have e : digitsB[q]'hs = hexD (UInt8.ofNat q) := by
    have h := (List.getElem?_eq_some_iff.1 hx).2
    rw [← h]
    rfl
  show Result.ok (Value.int IntKind.u8 (((digitsB[q]'hs).toNat : Nat) : Int)) W = _
  rw [e]
theorem and15 (x : UInt8) : bits .and .u8 (x.toNat : Int) 15 = (x.toNat : Int) % 16 := by
  have h := u8_and_nat x.toNat 15 x.toNat_lt (by decide)
  have e : x.toNat &&& 15 = x.toNat % 16 := Nat.and_two_pow_sub_one_eq_mod x.toNat 4
  rw [e] at h
  exact h
/-- What a round keeps: the bytes so far in a slice of its own, apart from the string's bytes. -/
structure QuoteAt (w wx : World) (p : Nat) (s : ByteArray) (v : Value) (l : Bs) : Prop where
  own : OwnB wx w.heap.size v l
  below : Below w.heap.size w wx
  bytes : Bytes wx p s
  far : v.ownBlock ≠ some p
theorem QuoteAt.step_at {w wx : World} {p : Nat} {s : ByteArray} {v : Value} {l : Bs} (h : QuoteAt w wx p s v l) (W2 : World) (hb : Below wx.heap.size wx W2) (news : Bs) (m : Nat) (hm : news.length = m) (h0 : 0 < m) (hlen : l.length + m ≤ 10000000)
    (hn : ∀ j x, news[j]? = some x → W2.cell? ⟨wx.heap.size, j, none⟩ = some (byteV x)) :
    ∃ g cap w', (∀ ty, (Builtin.append_ #[44, 44] ty #[v, .slice (some ⟨wx.heap.size, 0, none⟩) m m]).run Tryd.prog W2 = .ok (.slice (some ⟨g, 0, none⟩) (l.length + m) cap) w') ∧ QuoteAt w w' p s (.slice (some ⟨g, 0, none⟩) (l.length + m) cap) (l ++ news) := by
  have hown2 : OwnB W2 w.heap.size v l := nown_below h.own hb
  have hs1 := h.below.size
  have hs2 := hb.size
  obtain ⟨g, cap, w', hr, h2, h3, h4, h5⟩ := append_bytes hown2 wx.heap.size m m news hm h0 hn hlen (by omega)
  have hby := h.bytes.below hb
  refine ⟨g, cap, w', hr, ⟨h2, nown_grown hown2 (h.below.trans (hb.mono hs1)) (by omega) h3, hby.grown h3 h.far, ?_⟩⟩
  rcases h4 with h4 | h4
  · intro e
    apply h.far
    rw [h4, ← e]
    rfl
  · intro e
    have e' : g = p := by simpa [Value.ownBlock] using e
    have := h.bytes.lt
    omega
theorem QuoteAt.step {w wx : World} {p : Nat} {s : ByteArray} {v : Value} {l : Bs} (h : QuoteAt w wx p s v l) (news : Bs) (m : Nat) (hm : news.length = m) (h0 : 0 < m) (hlen : l.length + m ≤ 10000000) :
    ∃ g cap w', (∀ ty, (Builtin.append_ #[44, 44] ty #[v, .slice (some ⟨wx.heap.size, 0, none⟩) m m]).run Tryd.prog (wx.alloc (.cells (news.map byteV).toArray 5)) = .ok (.slice (some ⟨g, 0, none⟩) (l.length + m) cap) w') ∧ QuoteAt w w' p s (.slice (some ⟨g, 0, none⟩) (l.length + m) cap) (l ++ news) :=
  h.step_at _ ((Below.refl _ _).alloc (Nat.le_refl _) _) news m hm h0 hlen (news_new wx news 5)
theorem QuoteAt.step_drew {w wx : World} {p : Nat} {s : ByteArray} {v : Value} {l : Bs} (h : QuoteAt w wx p s v l) (news : Bs) (m : Nat) (hm : news.length = m) (h0 : 0 < m) (hlen : l.length + m ≤ 10000000) :
    ∃ g cap w', (∀ ty, (Builtin.append_ #[44, 44] ty #[v, .slice (some ⟨wx.heap.size, 0, none⟩) m m]).run Tryd.prog (wx.alloc (.cells (news.map byteV).toArray 5)).drew = .ok (.slice (some ⟨g, 0, none⟩) (l.length + m) cap) w') ∧ QuoteAt w w' p s (.slice (some ⟨g, 0, none⟩) (l.length + m) cap) (l ++ news) :=
  h.step_at _ ((Below.refl _ _).alloc (Nat.le_refl _) _).drew news m hm h0 hlen (news_new wx news 5)

set_option maxRecDepth 100000 in
set_option maxHeartbeats 1000000 in
theorem quote_any (s : ByteArray) (hs : s.size ≤ 100000) (w : World) :
    Calls Tryd.prog 33 #[.string s] w fun e w' => e = .returned (.string ⟨(quoteL s.data.toList).toArray⟩) ∧ Below w.heap.size w w' := by
  obtain ⟨W, c, hcv, hB, hBy⟩ := bytes_conv (w.alloc (.cells #[.int .u8 34] 5)) s
  have HB := Lib.hid (((Below.refl _ w).alloc (Nat.le_refl _) (.cells #[.int .u8 34] 5)).trans (hB.mono (by simp)))
  have HY := Lib.hid hBy
  have hown0 : OwnB W w.heap.size (.slice (some ⟨w.heap.size, 0, none⟩) 1 1) [34] := nown_below (nown_new w #[.int .u8 34] 5 1 1 w.heap.size rfl (by omega) (Nat.le_refl _)) hB
  have HQ : Hid (QuoteAt w W (w.alloc (.cells #[.int .u8 34] 5)).heap.size s (.slice (some ⟨w.heap.size, 0, none⟩) 1 1) [34]) := Lib.hid ⟨hown0, HB.out, hBy, by simp [Value.ownBlock]⟩
  obtain ⟨p, hp⟩ : ∃ p, (w.alloc (.cells #[.int .u8 34] 5)).heap.size = p := ⟨_, rfl⟩
  rw [hp] at HQ HY hcv
  clear hB hBy hown0
  obtain ⟨N, hN⟩ : ∃ N, s.size = N := ⟨_, rfl⟩
  have HL : Hid (s.data.toList.length = N) := Lib.hid (by rw [← hN]; exact (Lib.size_eq s).symm)
  rw [hN] at hcv hs
  have hps : w.heap.size + 1 = p := by rw [← hp]; simp
  go_enter Tryd.func33, Tryd.ntmps33
  go_wp2
  go_loopg [3, 10] N (fun gf s3 s10 wx => ∃ k : Nat, s10 = .int .i64 (k : Int) ∧ k + gf = N ∧ QuoteAt w wx p s s3 (34 :: bodyL (s.data.toList.take k)))
  case atStart => exact ⟨0, rfl, by omega, HQ.out⟩
  case round =>
    obtain ⟨k, rfl, hk, hq⟩ := hrel
    have HA := Lib.hid hq
    clear hq
    by_cases hlt : k < N
    · obtain ⟨g', rfl⟩ : ∃ g', gk = g' + 1 := ⟨gk - 1, by omega⟩
      have hkL : k < s.data.toList.length := by rw [HL.out]; exact hlt
      have hx0 : s.data.toList[k]? = some s.data.toList[k] := List.getElem?_eq_getElem hkL
      generalize s.data.toList[k] = x at hx0
      have hcell := HA.out.bytes.cell k x hx0
      have HX := Lib.hid hx0
      clear hx0
      have hlb := body_take_len s.data.toList k
      rw [HL.out] at hlb
      have hl1 : (34 :: bodyL (s.data.toList.take k)).length ≤ 400001 := by rw [List.length_cons]; omega
      have HL1 := Lib.hid hl1
      clear hlb hl1
      have HT : Hid (34 :: bodyL (s.data.toList.take (k + 1)) = (34 :: bodyL (s.data.toList.take k)) ++ oneL x) := Lib.hid (by rw [take_snoc HX.out, bodyL_snoc]; rfl)
      rcases oneL_cases x with ⟨h, e⟩ | ⟨hn, h, e⟩ | ⟨hn1, hn2, h, e⟩
      · -- a mark or a slash
        obtain ⟨g, cap, w', hr, hq'⟩ := HA.out.step [92, x] 2 rfl (by omega) (by have := HL1.out; omega)
        have hr' : ∀ ty, (Builtin.append_ #[44, 44] ty #[u3, .slice (some ⟨wr.heap.size, 0, none⟩) 2 2]).run Tryd.prog (wr.alloc (.cells #[.int .u8 92, .int .u8 (x.toNat : Int)] 5)) = .ok (.slice (some ⟨g, 0, none⟩) ((34 :: bodyL (s.data.toList.take k)).length + 2) cap) w' := hr
        have HQ' : Hid (QuoteAt w w' p s (.slice (some ⟨g, 0, none⟩) ((34 :: bodyL (s.data.toList.take k)).length + 2) cap) (34 :: bodyL (s.data.toList.take (k + 1)))) := Lib.hid (by rw [HT.out, e]; exact hq')
        generalize (34 :: bodyL (s.data.toList.take k)).length + 2 = M at *
        clear hr hq' e
        rcases h with rfl | rfl
        all_goals
          go_wp2_with (at_builtin; refine wpList_append_eq hr' rfl (.tmp 25) (.tmp 27) rfl rfl rfl ?_)
          go_roundg g'
          case measure => omega
          case rel => exact ⟨k + 1, by go_num, by omega, HQ'.out⟩
      · -- a byte that is no character
        have n34 : ((x.toNat : Int) == 34) = false := by
          rw [beq_eq_false_iff_ne]
          intro h34
          exact hn (.inl (UInt8.toNat_inj.1 (show x.toNat = 34 by omega)))
        have n92 : ((x.toNat : Int) == 92) = false := by
          rw [beq_eq_false_iff_ne]
          intro h34
          exact hn (.inr (UInt8.toNat_inj.1 (show x.toNat = 92 by omega)))
        have m34 : ¬ (x.toNat : Int) = 34 := by simpa using n34
        have m92 : ¬ (x.toNat : Int) = 92 := by simpa using n92
        have h' : x.toNat < 32 ∨ 126 < x.toNat := h
        clear hn h
        have hx256 := x.toNat_lt
        have hand := and15 x
        have hqi : ∀ W, (Instr.index 9 (.string ⟨#[48, 49, 50, 51, 52, 53, 54, 55, 56, 57, 97, 98, 99, 100, 101, 102]⟩) (.int .u8 ((x.toNat : Int) / 16))).run Tryd.prog W = .ok (.int .u8 ((hexD (x / 16)).toNat : Int)) W := fun W => by
          have h := index_digit .u8 (x.toNat / 16) (by omega) W
          have e : UInt8.ofNat (x.toNat / 16) = x / 16 := by rw [← div16, UInt8.ofNat_toNat]
          rw [e] at h
          exact h
        have hri : ∀ W, (Instr.index 9 (.string ⟨#[48, 49, 50, 51, 52, 53, 54, 55, 56, 57, 97, 98, 99, 100, 101, 102]⟩) (.int .u8 ((x.toNat : Int) % 16))).run Tryd.prog W = .ok (.int .u8 ((hexD (x % 16)).toNat : Int)) W := fun W => by
          have h := index_digit .u8 (x.toNat % 16) (by omega) W
          have e : UInt8.ofNat (x.toNat % 16) = x % 16 := by rw [← mod16, UInt8.ofNat_toNat]
          rw [e] at h
          exact h
        obtain ⟨g, cap, w', hr, hq'⟩ := HA.out.step_drew [92, 120, hexD (x / 16), hexD (x % 16)] 4 rfl (by omega) (by have := HL1.out; omega)
        have hr' : ∀ ty, (Builtin.append_ #[44, 44] ty #[u3, .slice (some ⟨wr.heap.size, 0, none⟩) 4 4]).run Tryd.prog (wr.alloc (.cells #[.int .u8 92, .int .u8 120, .int .u8 ((hexD (x / 16)).toNat : Int), .int .u8 ((hexD (x % 16)).toNat : Int)] 5)).drew = .ok (.slice (some ⟨g, 0, none⟩) ((34 :: bodyL (s.data.toList.take k)).length + 4) cap) w' := hr
        have HQ' : Hid (QuoteAt w w' p s (.slice (some ⟨g, 0, none⟩) ((34 :: bodyL (s.data.toList.take k)).length + 4) cap) (34 :: bodyL (s.data.toList.take (k + 1)))) := Lib.hid (by rw [HT.out, e]; exact hq')
        generalize (34 :: bodyL (s.data.toList.take k)).length + 4 = M at *
        clear hr hq' e
        by_cases h1 : (x.toNat : Int) < 32
        · have h1d : decide ((x.toNat : Int) < 32) = true := decide_eq_true h1
          go_wp2
          go_region_held3 (fun w' => True) (go_keep) (first | (refine step_append_eq hr' (by rfl) (.tmp 36) (.tmp 43) (by rfl) (by rfl) (by rfl) ?_) | fail)
          all_goals
            go_wp2
            go_roundg g'
            case measure => omega
            case rel => exact ⟨k + 1, by go_num, by omega, HQ'.out⟩
        · have h1d : decide ((x.toNat : Int) < 32) = false := decide_eq_false h1
          have h2 : (126 : Int) < x.toNat := by omega
          have h2d : decide ((126 : Int) < x.toNat) = true := decide_eq_true h2
          go_wp2
          go_region_held3 (fun w' => True) (go_keep) (first | (refine step_append_eq hr' (by rfl) (.tmp 36) (.tmp 43) (by rfl) (by rfl) (by rfl) ?_) | fail)
          all_goals
            go_wp2
            go_roundg g'
            case measure => omega
            case rel => exact ⟨k + 1, by go_num, by omega, HQ'.out⟩
      · obtain ⟨g, cap, w', hr, hq'⟩ := HA.out.step [x] 1 rfl (by omega) (by have := HL1.out; omega)
        have hr' : ∀ ty, (Builtin.append_ #[44, 44] ty #[u3, .slice (some ⟨wr.heap.size, 0, none⟩) 1 1]).run Tryd.prog (wr.alloc (.cells #[.int .u8 (x.toNat : Int)] 5)) = .ok (.slice (some ⟨g, 0, none⟩) ((34 :: bodyL (s.data.toList.take k)).length + 1) cap) w' := hr
        have HQ' : Hid (QuoteAt w w' p s (.slice (some ⟨g, 0, none⟩) ((34 :: bodyL (s.data.toList.take k)).length + 1) cap) (34 :: bodyL (s.data.toList.take (k + 1)))) := Lib.hid (by rw [HT.out, e]; exact hq')
        generalize (34 :: bodyL (s.data.toList.take k)).length + 1 = M at *
        clear hr hq' e
        have n34 : ((x.toNat : Int) == 34) = false := by
          rw [beq_eq_false_iff_ne]
          intro h34
          exact hn1 (UInt8.toNat_inj.1 (show x.toNat = 34 by omega))
        have n92 : ((x.toNat : Int) == 92) = false := by
          rw [beq_eq_false_iff_ne]
          intro h34
          exact hn2 (UInt8.toNat_inj.1 (show x.toNat = 92 by omega))
        have m34 : ¬ (x.toNat : Int) = 34 := by simpa using n34
        have m92 : ¬ (x.toNat : Int) = 92 := by simpa using n92
        have h' : ¬ (x.toNat < 32 ∨ 126 < x.toNat) := h
        have h1 : ¬ (x.toNat : Int) < 32 := by omega
        have h2 : ¬ (126 : Int) < x.toNat := by omega
        have h1d : decide ((x.toNat : Int) < 32) = false := decide_eq_false h1
        have h2d : decide ((126 : Int) < x.toNat) = false := decide_eq_false h2
        clear hn1 hn2 h h'
        go_wp2_with (at_builtin; refine wpList_append_eq hr' rfl (.tmp 14) (.tmp 16) rfl rfl rfl ?_)
        go_roundg g'
        case measure => omega
        case rel => exact ⟨k + 1, by go_num, by omega, HQ'.out⟩
    · have hlb := body_take_len s.data.toList k
      rw [HL.out] at hlb
      obtain ⟨g, cap, w', hr, hq'⟩ := HA.out.step [34] 1 rfl (by omega) (by rw [List.length_cons]; omega)
      have hr' : ∀ ty, (Builtin.append_ #[44, 44] ty #[u3, .slice (some ⟨wr.heap.size, 0, none⟩) 1 1]).run Tryd.prog (wr.alloc (.cells #[.int .u8 34] 5)) = .ok (.slice (some ⟨g, 0, none⟩) ((34 :: bodyL (s.data.toList.take k)).length + 1) cap) w' := hr
      have hbk := back_bytes hq'.own
      have hfin : 34 :: bodyL (s.data.toList.take k) ++ [34] = quoteL s.data.toList := by
        rw [List.take_of_length_le (by rw [HL.out]; omega)]
        rfl
      rw [hfin] at hbk
      have HQ' := Lib.hid hq'
      generalize (34 :: bodyL (s.data.toList.take k)).length + 1 = M at *
      clear hr hq' hlb hfin
      go_wp2_with (at_builtin; refine wpList_append_eq hr' rfl (.tmp 46) (.tmp 47) rfl rfl rfl ?_)
      go_ret
      exact ⟨rfl, HQ'.out.below⟩
end Go.Proofs.YtahklchfchjmcaaDoor
