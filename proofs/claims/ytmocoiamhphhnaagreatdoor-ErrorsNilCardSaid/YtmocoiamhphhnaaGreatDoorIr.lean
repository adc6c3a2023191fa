/- strings.IndexRune and ContainsRune at a string of four ASCII bytes and any rune; the function of names.Canon that tells spaces. -/
import Derived.Test.YtmocoiamhphhnaaGreatDoorSh
import Derived.Test.YtmocoiamhphhnaaGreatDoorNq
import Derived.WalkKit
import Derived.Lib.Hide
import Derived.Deep.QuietTactic
import Derived.Lib.OthersKept
import Derived.Laws.Runes
import Derived.Laws.RangeString
namespace Go.Proofs.YtmocoiamhphhnaaGreatDoor
set_option linter.unusedVariables false
set_option linter.unusedSimpArgs false
open Go.RowKit Go.MapKept

theorem nbl_drewN {B : Nat} {w w' : World} (h : Below B w w') (n : Nat) : Below B w (w'.drewN n) := ⟨h.os, h.tape, h.output, h.size, h.block⟩
theorem ascii_at {s : ByteArray} (hs : ∀ b ∈ s.data.toList, b.toNat < 128) (i : Nat) (h : i < s.size) : (s[i]'h).toNat < 128 := by
  refine hs _ ?_
  have : s[i]'h = s.data[i]'h := rfl
  rw [this]
  exact Array.getElem_mem_toList h

set_option maxRecDepth 100000 in
set_option maxHeartbeats 1000000 in
theorem indexRune_bad (s : ByteArray) (hs : ∀ b ∈ s.data.toList, b.toNat < 128) (w : World) :
    Calls Tryz.prog 69 #[.string s, .int .i32 65533] w fun e w' => e = .returned (.int .i64 (-1)) ∧ Below w.heap.size w w' := by
  have HS := Lib.hid hs
  clear hs
  go_enter Tryz.func69, Tryz.ntmps69
  go_wp2
  go_loopg [] s.size (fun gf wx => ∃ pos : Nat, wx.heap[w.heap.size]? = some (.stringIter s pos) ∧ Below w.heap.size w wx ∧ s.size ≤ pos + gf)
  case atStart => exact ⟨0, World.iter_heap w s 0, (Below.refl _ w).alloc (Nat.le_refl _) _, by omega⟩
  case round =>
    obtain ⟨pos, hit, hbw, hfu⟩ := hrel
    by_cases hps : pos < s.size
    · obtain ⟨g', rfl⟩ : ∃ g', gk = g' + 1 := ⟨gk - 1, by omega⟩
      have hnx : ∀ ty, (Instr.next (.pointer (some ⟨w.heap.size, 0, none⟩)) true ty).run Tryz.prog wr = _ := fun ty => Lib.run_next_any_at wr w.heap.size s pos ty hit hps
      have hd := decode_ascii s pos hps (ascii_at HS.out pos hps)
      have hR : (Utf8.decode s pos).1 < 128 := by rw [hd]; exact ascii_at HS.out pos hps
      have hK : (Utf8.decode s pos).2 = 1 := by rw [hd]
      generalize (Utf8.decode s pos).1 = R at hnx hR
      rw [hK] at hnx
      clear hd hK
      have hit2 := Lib.iterAt_heap wr w.heap.size s pos (pos + 1) hit
      have hbw2 := Lib.below_iterAt hbw (k := w.heap.size) (Nat.le_refl _) s (pos + 1)
      obtain ⟨W, hWd⟩ : ∃ W, wr.iterAt w.heap.size s (pos + 1) = W := ⟨_, rfl⟩
      rw [hWd] at hnx hit2 hbw2
      have hne : ((R : Int) == 65533) = false := by rw [beq_eq_false_iff_ne]; omega
      have hne2 : ¬ (R : Int) = 65533 := by omega
      go_wp2
      go_roundg g'
      case measure => omega
      case rel => exact ⟨pos + 1, hit2, hbw2, by omega⟩
    · have hnx : ∀ ty, (Instr.next (.pointer (some ⟨w.heap.size, 0, none⟩)) true ty).run Tryz.prog wr = _ := fun ty => Lib.run_next_end_at wr w.heap.size s pos ty hit hps
      go_wp2
      go_ret
      exact ⟨rfl, hbw⟩

set_option maxRecDepth 100000 in
set_option maxHeartbeats 1000000 in
theorem indexRune_wrong (s : ByteArray) (r : Int) (h0 : 128 ≤ r) (he : r ≠ 65533) (hv : Lib.validRune r = false) (w : World) :
    Calls Tryz.prog 69 #[.string s, .int .i32 r] w fun e w' => e = .returned (.int .i64 (-1)) ∧ w' = w := by
  have h1 : ¬ r < 128 := by omega
  have h2 : decide (r < 128) = false := decide_eq_false h1
  have h3 : (r == 65533) = false := by rw [beq_eq_false_iff_ne]; exact he
  have h4 : (0 : Int) ≤ r := by omega
  go_enter Tryz.func69, Tryz.ntmps69
  go_wp2_with fail
  refine (Tryz.utf8_ValidRune _ _).mono ?_
  rintro e w' ⟨rfl, hw⟩
  rw [hw, hv]
  clear hw
  go_wp2
  go_ret
  exact ⟨rfl, rfl⟩

theorem indexByte_far : ∀ (l : Bs) (c : UInt8), (∀ b ∈ l, b.toNat < 128) → 128 ≤ c.toNat → Lib.indexByte l c = -1
  | [], _, _, _ => rfl
  | b :: l, c, h, hc => by
    unfold Lib.indexByte
    have hb := h b (List.mem_cons_self ..)
    have hne : (b == c) = false := by
      rw [beq_eq_false_iff_ne]
      rintro rfl
      omega
    rw [hne, indexByte_far l c (fun x hx => h x (List.mem_cons_of_mem _ hx)) hc]
    rfl

set_option maxRecDepth 100000 in
set_option maxHeartbeats 1000000 in
theorem indexRune_right (s : ByteArray) (hs4 : s.size = 4) (hs : ∀ b ∈ s.data.toList, b.toNat < 128) (r : Int) (h0 : 128 ≤ r) (he : r ≠ 65533) (hv : Lib.validRune r = true) (w : World) :
    Calls Tryz.prog 69 #[.string s, .int .i32 r] w fun e w' => e = .returned (.int .i64 (-1)) ∧ Below w.heap.size w w' := by
  have h1 : ¬ r < 128 := by omega
  have h2 : decide (r < 128) = false := decide_eq_false h1
  have h3 : (r == 65533) = false := by rw [beq_eq_false_iff_ne]; exact he
  have h4 : (0 : Int) ≤ r := by omega
  have hE := encode_facts r (by rw [validRune_eq]; exact hv) h0
  generalize hrs : Utf8.encode r = rs at hE
  obtain ⟨hE2, hE4, hEl⟩ := hE
  obtain ⟨n, hn⟩ : ∃ n, rs.size = n + 1 := ⟨rs.size - 1, by omega⟩
  have hn1 : 1 ≤ n := by omega
  have hn3 : n ≤ 3 := by omega
  have hln : n < rs.size := by omega
  have hsn : n < s.size := by omega
  have hb : 128 ≤ (rs[n]'hln).toNat := by
    have h := hEl (by omega)
    simp only [hn, Nat.add_sub_cancel] at h
    exact h
  have ha := ascii_at hs n hsn
  have hxr : ∀ W, (Instr.index 9 (.string rs) (.int .i64 n)).run Tryz.prog W = .ok (.int .u8 ((rs[n]'hln).toNat : Int)) W := fun W => by
    rw [run_index_string W 9 rs .i64 n (by kernel_rfl), dif_pos ⟨by omega, by omega⟩]
    rfl
  have hxs : ∀ W, (Instr.index 9 (.string s) (.int .i64 n)).run Tryz.prog W = .ok (.int .u8 ((s[n]'hsn).toNat : Int)) W := fun W => by
    rw [run_index_string W 9 s .i64 n (by kernel_rfl), dif_pos ⟨by omega, by omega⟩]
    rfl
  have hsl : ∀ W, (Instr.slice 9 (.string s) (some (.int .i64 ((n : Int) + 1))) none none).run Tryz.prog W = .ok (.string (s.extract (n + 1) 4)) W := fun W => by
    rw [run_slice_string_from_if W 9 s .i64 _ (by kernel_rfl), if_pos ⟨by omega, by omega⟩, hs4]
    rfl
  have hwr : IntKind.i64.wrap ((n : Int) + 1) = (n : Int) + 1 := wrap_small _ (by omega) (by omega)
  generalize rs[n]'hln = b at *
  generalize s[n]'hsn = a at *
  have hab : ((a.toNat : Int) == (b.toNat : Int)) = false := by rw [beq_eq_false_iff_ne]; omega
  have hib : Lib.indexByte (s.extract (n + 1) 4).data.toList (b.toNat : Int).toNat.toUInt8 = -1 := by
    refine indexByte_far _ _ (fun x hx => hs x ?_) ?_
    · rw [Lib.extract_data] at hx
      exact List.mem_of_mem_drop (List.mem_of_mem_take hx)
    · simpa using hb
  clear hEl hE2 hE4 ha hb hs
  go_enter Tryz.func69, Tryz.ntmps69
  go_wp2_with fail
  refine (Tryz.utf8_ValidRune _ _).mono ?_
  rintro e w' ⟨rfl, hw⟩
  rw [hw, hv]
  clear hw
  go_wp2
  go_step3
  go_wp2
  go_loopg [9] 0 (fun gf s9 wx => s9 = .int .i64 (n : Int) ∧ wx = w)
  case atStart => exact ⟨rfl, rfl⟩
  case round =>
    obtain ⟨rfl, rfl⟩ := hrel
    go_wp2
    go_step3
    go_wp2
    go_quiet (fail)
    go_wp2
    obtain ⟨W1, hW1⟩ : ∃ W1, wr.drewN nq = W1 := ⟨_, rfl⟩
    have hb1 : Below wr.heap.size wr W1 := hW1 ▸ nbl_drewN (Below.refl _ _) nq
    rw [hW1]
    clear hW1
    go_quiet (first | exact Calls.quiet_of_same (Tryz.strings_IndexByte _ _ _) | fail)
    rw [hib]
    go_wp2
    go_simp
    go_ret
    exact ⟨rfl, nbl_drewN hb1 _⟩

theorem indexRune_far (s : ByteArray) (hs4 : s.size = 4) (hs : ∀ b ∈ s.data.toList, b.toNat < 128) (r : Int) (h0 : 128 ≤ r) (w : World) :
    Calls Tryz.prog 69 #[.string s, .int .i32 r] w fun e w' => e = .returned (.int .i64 (-1)) ∧ Below w.heap.size w w' := by
  by_cases he : r = 65533
  · subst he
    exact indexRune_bad s hs w
  · cases hv : Lib.validRune r with
    | false => exact (indexRune_wrong s r h0 he hv w).mono fun e w' ⟨h, hw⟩ => ⟨h, hw ▸ Below.refl _ _⟩
    | true => exact indexRune_right s hs4 hs r h0 he hv w

set_option maxRecDepth 100000 in
set_option maxHeartbeats 1000000 in
theorem containsRune_far (s : ByteArray) (hs4 : s.size = 4) (hs : ∀ b ∈ s.data.toList, b.toNat < 128) (r : Int) (h0 : 128 ≤ r) (w : World) :
    Calls Tryz.prog 41 #[.string s, .int .i32 r] w fun e w' => e = .returned (.bool false) ∧ Below w.heap.size w w' := by
  have HS := Lib.hid hs
  have H4 := Lib.hid hs4
  clear hs hs4
  go_enter Tryz.func41, Tryz.ntmps41
  go_wp2_with fail
  refine (indexRune_far s H4.out HS.out r h0 w).mono ?_
  rintro e w' ⟨rfl, hb⟩
  go_wp2
  go_ret
  exact ⟨rfl, hb⟩

theorem containsRune_any (s : ByteArray) (hs4 : s.size = 4) (hs : ∀ b ∈ s.data.toList, b.toNat < 128) (r : Nat) (w : World) :
    Calls Tryz.prog 41 #[.string s, .int .i32 (r : Int)] w fun e w' => e = .returned (.bool (decide (r < 128) && decide (0 ≤ Lib.indexByte s.data.toList r.toUInt8))) ∧ Below w.heap.size w w' := by
  by_cases h : r < 128
  · refine (Tryz.strings_ContainsRune_ascii s r w (by omega) (by omega)).mono fun e w' ⟨he, hw⟩ => ⟨?_, hw ▸ Below.refl _ _⟩
    rw [he, decide_eq_true h, Bool.true_and]
    rfl
  · refine (containsRune_far s hs4 hs r (by omega) w).mono fun e w' ⟨he, hw⟩ => ⟨?_, hw⟩
    rw [he, decide_eq_false h, Bool.false_and]

theorem key_runes : ∀ c, c < 128 → decide (0 ≤ Lib.indexByte [45, 95, 46, 47] c.toUInt8) = decide (c = 45 ∨ c = 95 ∨ c = 46 ∨ c = 47) := by decide +kernel
theorem sp_runes : ∀ c, c < 128 → decide (0 ≤ Lib.indexByte [32, 9, 10, 13] c.toUInt8) = spR c := by decide +kernel

theorem containsRune_key (r : Nat) (w : World) :
    Calls Tryz.prog 41 #[.string ⟨#[45, 95, 46, 47]⟩, .int .i32 (r : Int)] w fun e w' => e = .returned (.bool (decide (r = 45 ∨ r = 95 ∨ r = 46 ∨ r = 47))) ∧ Below w.heap.size w w' := by
  refine (containsRune_any ⟨#[45, 95, 46, 47]⟩ rfl (by decide) r w).mono fun e w' ⟨he, hw⟩ => ⟨?_, hw⟩
  rw [he]
  by_cases h : r < 128
  · have := key_runes r h
    rw [decide_eq_true h, Bool.true_and]
    exact congrArg (fun b => Ending.returned (Value.bool b)) this
  · rw [decide_eq_false h, Bool.false_and, decide_eq_false (by omega)]
theorem containsRune_sp (r : Nat) (w : World) :
    Calls Tryz.prog 41 #[.string ⟨#[32, 9, 10, 13]⟩, .int .i32 (r : Int)] w fun e w' => e = .returned (.bool (spR r)) ∧ Below w.heap.size w w' := by
  refine (containsRune_any ⟨#[32, 9, 10, 13]⟩ rfl (by decide) r w).mono fun e w' ⟨he, hw⟩ => ⟨?_, hw⟩
  rw [he]
  by_cases h : r < 128
  · have := sp_runes r h
    rw [decide_eq_true h, Bool.true_and]
    exact congrArg (fun b => Ending.returned (Value.bool b)) this
  · have e : spR r = false := decide_eq_false (by omega)
    rw [decide_eq_false h, Bool.false_and, e]

end Go.Proofs.YtmocoiamhphhnaaGreatDoor
