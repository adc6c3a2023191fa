/- The law NamesBytes. -/
import Derived.Test.YtahklchfchjmcaaDoorOa
import Derived.Test.YtahklchfchjmcaaDoorNu
namespace Go.Proofs.YtahklchfchjmcaaDoor
set_option linter.unusedVariables false
set_option linter.unusedSimpArgs false
open Go.RowKit Go.MapKept

theorem unq_quote (X : ByteArray) : unqV (bsOf (quoteL X.data.toList)).data.toList = .tuple #[.string X, .int .i64 0] := by
  rw [bsOf_data]
  unfold unqV
  rw [unqL_quote]
theorem quote_size (X : ByteArray) : (bsOf (quoteL X.data.toList)).size ≤ 4 * X.size + 2 := by
  rw [show (bsOf (quoteL X.data.toList)).size = (quoteL X.data.toList).length from Lib.size_mk _, Lib.size_eq]
  exact (quoteL_length _).2

set_option maxRecDepth 100000 in
set_option maxHeartbeats 2000000 in
theorem bytes_law (w : World) (z : Int) (hz : (Lit.int .u8 z).wf = true) (hm : MaxIs w) :
    Calls Tryd.prog 10 #[.int .u8 z] w fun e w' => e = .returned (.bool true) ∧ Below w.heap.size w w' := by
  obtain ⟨x, rfl⟩ : ∃ x : UInt8, (x.toNat : Int) = z := by
    have hw : 0 ≤ z ∧ z < 256 := by
      simp [Lit.wf, IntKind.min, IntKind.max, IntKind.bits, IntKind.signed] at hz
      omega
    refine ⟨UInt8.ofNat z.toNat, ?_⟩
    rw [UInt8.toNat_ofNat']
    omega
  clear hz
  have HM := Lib.hid hm
  clear hm
  have h1 := one_back w x
  obtain ⟨w1, hw1⟩ : ∃ w1, w.alloc (.cells #[.int .u8 (x.toNat : Int)] 5) = w1 := ⟨_, rfl⟩
  have hb1 : Below w.heap.size w w1 := hw1 ▸ (Below.refl w.heap.size w).alloc (Nat.le_refl _) _
  rw [hw1] at h1
  have h2 : (convert 44 9 (.slice (some ⟨w1.heap.size, 0, none⟩) 3 3)).run Tryd.prog (w1.alloc (.cells #[.int .u8 97, .int .u8 (x.toNat : Int), .int .u8 98] 5)) = .ok (.string ⟨#[97, x, 98]⟩) (w1.alloc (.cells #[.int .u8 97, .int .u8 (x.toNat : Int), .int .u8 98] 5)) :=
    back_bytes (l := [97, x, 98]) (nown_new w1 #[.int .u8 97, .int .u8 (x.toNat : Int), .int .u8 98] 5 1 3 w1.heap.size rfl (by omega) (Nat.le_refl _))
  obtain ⟨w2, hw2⟩ : ∃ w2, w1.alloc (.cells #[.int .u8 97, .int .u8 (x.toNat : Int), .int .u8 98] 5) = w2 := ⟨_, rfl⟩
  have hb2 : Below w1.heap.size w1 w2 := hw2 ▸ (Below.refl w1.heap.size w1).alloc (Nat.le_refl _) _
  rw [hw2] at h2
  have h3 : (convert 44 9 (.slice (some ⟨w2.heap.size, 0, none⟩) 4 4)).run Tryd.prog (w2.alloc (.cells #[.int .u8 97, .int .u8 (x.toNat : Int), .int .u8 (x.toNat : Int), .int .u8 98] 5)) = .ok (.string ⟨#[97, x, x, 98]⟩) (w2.alloc (.cells #[.int .u8 97, .int .u8 (x.toNat : Int), .int .u8 (x.toNat : Int), .int .u8 98] 5)) :=
    back_bytes (l := [97, x, x, 98]) (nown_new w2 #[.int .u8 97, .int .u8 (x.toNat : Int), .int .u8 (x.toNat : Int), .int .u8 98] 5 1 4 w2.heap.size rfl (by omega) (Nat.le_refl _))
  obtain ⟨w3, hw3⟩ : ∃ w3, w2.alloc (.cells #[.int .u8 97, .int .u8 (x.toNat : Int), .int .u8 (x.toNat : Int), .int .u8 98] 5) = w3 := ⟨_, rfl⟩
  have hb3 : Below w2.heap.size w2 w3 := hw3 ▸ (Below.refl w2.heap.size w2).alloc (Nat.le_refl _) _
  rw [hw3] at h3
  have hl := strs_new w3 #[.string ⟨#[x]⟩, .string ⟨#[97, x, 98]⟩, .string ⟨#[97, x, x, 98]⟩] [⟨#[x]⟩, ⟨#[97, x, 98]⟩, ⟨#[97, x, x, 98]⟩] 3 rfl (by simp) rfl
  obtain ⟨l, hle⟩ : ∃ l : List ByteArray, [(⟨#[x]⟩ : ByteArray), ⟨#[97, x, 98]⟩, ⟨#[97, x, x, 98]⟩] = l := ⟨_, rfl⟩
  have hlen : l.length = 3 := by rw [← hle]; rfl
  have hsz : ∀ X ∈ l, X.size ≤ 4 := by
    intro X hX
    rw [← hle] at hX
    simp only [List.mem_cons, List.not_mem_nil, or_false] at hX
    rcases hX with rfl | rfl | rfl
    · show 1 ≤ 4; omega
    · show 3 ≤ 4; omega
    · show 4 ≤ 4; omega
  rw [hle] at hl
  obtain ⟨w4, hw4⟩ : ∃ w4, w3.alloc (.cells #[.string ⟨#[x]⟩, .string ⟨#[97, x, 98]⟩, .string ⟨#[97, x, x, 98]⟩] 9) = w4 := ⟨_, rfl⟩
  have hb4 : Below w3.heap.size w3 w4 := hw4 ▸ (Below.refl w3.heap.size w3).alloc (Nat.le_refl _) _
  rw [hw4] at hl
  have HB := Lib.hid (nbl_step (nbl_step (nbl_step hb1 hb2) hb3) hb4)
  have HST := Lib.hid hl
  have HLEN := Lib.hid hlen
  have HSZ := Lib.hid hsz
  clear hb1 hb2 hb3 hb4 hl hlen hsz hle
  go_enter Tryd.func10, Tryd.ntmps10
  go_wp2
  go_loopg [17] 3 (fun gf s17 wx => ∃ k : Nat, s17 = .int .i64 (k : Int) ∧ k + gf = 3 ∧ Below w.heap.size w wx ∧ Below w4.heap.size w4 wx)
  case atStart => exact ⟨0, rfl, by omega, HB.out, Below.refl _ _⟩
  case round =>
    obtain ⟨k, rfl, hk, hbw, hbw4⟩ := hrel
    have HBW := Lib.hid hbw
    by_cases hlt : k < 3
    · obtain ⟨g', rfl⟩ : ∃ g', gk = g' + 1 := ⟨gk - 1, by omega⟩
      have hkl : k < l.length := by rw [HLEN.out]; exact hlt
      obtain ⟨b1, o1, he, hc1⟩ := (HST.out.below hbw4).elem hkl
      have hd1 := hc1 0 _ rfl
      have hX4 := HSZ.out _ (List.getElem_mem hkl)
      generalize l[k] = X at *
      obtain ⟨rfl, rfl⟩ : w3.heap.size = b1 ∧ 0 = o1 := by
        injection he with he
        injection he with h1 h2
        exact ⟨h1, h2⟩
      rw [Nat.add_zero, Nat.mul_one, Nat.zero_add] at hd1
      have HW4 := Lib.hid hbw4
      have HK := Lib.hid (fun W => key_any X (by omega) W)
      have HRK := Lib.hid (fun W => refKey_any X (by omega) W)
      have HI := Lib.hid (fun W h => item_any X (by omega) W h)
      have HRI := Lib.hid (fun W => refItem_any X (by omega) W)
      have HQ := Lib.hid (fun W => quote_any X (by omega) W)
      have HRQ := Lib.hid (fun W => refQuote_any X (by omega) W)
      have HUQ := Lib.hid (fun W => unquotes_yes (bsOf (quoteL X.data.toList)) X 0 (by have := quote_size X; omega) W (unq_quote X))
      have hbs : (⟨(quoteL X.data.toList).toArray⟩ : ByteArray) = bsOf (quoteL X.data.toList) := rfl
      rw [hbs] at HQ
      generalize keyL X.data.toList = kb at *
      generalize itemL X.data.toList = ib at *
      generalize bsOf (quoteL X.data.toList) = T at *
      clear hbw hbw4 hX4 hbs hkl hc1 he h1 h2 h3 hw1 hw2 hw3 hw4
      go_wp2_with fail
      refine (HK.out _).mono ?_
      rintro e v1 ⟨rfl, hb⟩
      have HC := Lib.hid hb
      clear hb
      go_wp2_with fail
      refine (HRK.out _).mono ?_
      rintro e v1' ⟨rfl, hw⟩
      rw [hw]
      clear hw
      go_wp2_with fail
      refine (HI.out _ ((HM.out.later HBW.out).later HC.out)).mono ?_
      rintro e v2 ⟨rfl, hb⟩
      replace HC := Lib.hid (nbl_step HC.out hb)
      clear hb
      go_wp2_with fail
      refine (HRI.out _).mono ?_
      rintro e v2' ⟨rfl, hw⟩
      rw [hw]
      clear hw
      go_wp2_with fail
      refine (HQ.out _).mono ?_
      rintro e v3 ⟨rfl, hb⟩
      replace HC := Lib.hid (nbl_step HC.out hb)
      clear hb
      go_wp2_with fail
      refine (HRQ.out _).mono ?_
      rintro e v4 ⟨rfl, hb⟩
      replace HC := Lib.hid (nbl_step HC.out hb)
      clear hb
      go_wp2_with fail
      refine (HRQ.out _).mono ?_
      rintro e v5 ⟨rfl, hb⟩
      replace HC := Lib.hid (nbl_step HC.out hb)
      clear hb
      go_wp2_with fail
      refine (HUQ.out _).mono ?_
      rintro e v6 ⟨rfl, hb⟩
      replace HC := Lib.hid (nbl_step HC.out hb)
      clear hb
      go_wp2
      go_roundg g'
      case measure => omega
      case rel => exact ⟨k + 1, by go_num, by omega, nbl_step HBW.out HC.out, nbl_step HW4.out HC.out⟩
    · clear hbw hbw4
      go_wp2_with fail
      refine (nknown_yes _ (HM.out.later HBW.out)).mono ?_
      rintro e v1 ⟨rfl, hb⟩
      have HC := Lib.hid (nbl_step HBW.out hb)
      clear hb
      go_wp2
      go_ret
      exact ⟨rfl, HC.out⟩
end Go.Proofs.YtahklchfchjmcaaDoor
