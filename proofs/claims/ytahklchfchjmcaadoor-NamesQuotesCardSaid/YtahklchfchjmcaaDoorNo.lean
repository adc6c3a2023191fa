/- The law's fields, and the chapter's examples. -/
import Derived.Test.YtahklchfchjmcaaDoorNn
namespace Go.Proofs.YtahklchfchjmcaaDoor
set_option linter.unusedVariables false
set_option linter.unusedSimpArgs false
open Go.RowKit Go.MapKept

theorem nbl_step {w a b : World} (h : Below w.heap.size w a) (k : Below a.heap.size a b) : Below w.heap.size w b := h.trans (k.mono h.size)

set_option maxRecDepth 100000 in
set_option maxHeartbeats 1000000 in
theorem fields_yes (s : ByteArray) (no : Int) (vw : Value) (want : List Bs) (hs : s.size ≤ 100000) (w : World) (hm : MaxIs w) (hw : StrAt w vw (want.map bsOf))
    (h : (fldL s.data.toList = some want ∧ no = 0) ∨ (fldL s.data.toList = none ∧ no = 6 ∧ want = [])) :
    Calls Tryd.prog 38 #[.string s, .int .i64 no, vw] w fun e w' => e = .returned (.bool true) ∧ Below w.heap.size w w' := by
  have HQ := Lib.hid (fields_any s hs w hm)
  have HW := Lib.hid hw
  have hlen : ∀ xs, fldL s.data.toList = some xs → (xs.map bsOf).length ≤ 1000000 := fun xs hx => by
    have := fldL_length _ _ _ (Nat.le_refl _) hx
    rw [← Lib.size_eq] at this
    rw [List.length_map]
    omega
  have HLN := Lib.hid hlen
  clear hm hw hlen
  rcases h with ⟨h, rfl⟩ | ⟨h, rfl, rfl⟩
  · have HH := Lib.hid h
    clear h
    go_enter Tryd.func38, Tryd.ntmps38
    go_wp2_with fail
    refine HQ.out.mono ?_
    rintro e w1 ⟨hb, hout⟩
    rcases hout with ⟨xs, v, hx, rfl, hown⟩ | ⟨hx, rfl⟩
    · obtain rfl : xs = want := Option.some.inj (hx.symm.trans HH.out)
      have HB := Lib.hid hb
      have HSM := Lib.hid (nsame_yes w1 v vw (xs.map bsOf) hown.at_ (HW.out.below hb) (HLN.out _ HH.out))
      clear hx hown hb
      go_wp2_with fail
      refine HSM.out.mono ?_
      rintro e w2 ⟨rfl, hb2⟩
      have HB2 := Lib.hid hb2
      clear hb2
      go_wp2
      go_ret
      exact ⟨rfl, nbl_step HB.out HB2.out⟩
    · exact absurd (hx.symm.trans HH.out) (by simp)
  · have HH := Lib.hid h
    clear h
    go_enter Tryd.func38, Tryd.ntmps38
    go_wp2_with fail
    refine HQ.out.mono ?_
    rintro e w1 ⟨hb, hout⟩
    rcases hout with ⟨xs, v, hx, rfl, hown⟩ | ⟨hx, rfl⟩
    · exact absurd (hx.symm.trans HH.out) (by simp)
    · have HB := Lib.hid hb
      have HSM := Lib.hid (nsame_yes w1 (.slice none 0 0) vw [] (SlAt.nil 0 none (by omega)) (HW.out.below hb) (by simp))
      clear hx hb
      go_wp2_with fail
      refine HSM.out.mono ?_
      rintro e w2 ⟨rfl, hb2⟩
      have HB2 := Lib.hid hb2
      clear hb2
      go_wp2
      go_ret
      exact ⟨rfl, nbl_step HB.out HB2.out⟩

theorem key_is (s : ByteArray) (b : Bool) (hs : s.size ≤ 100000) (w : World) (h : keyL s.data.toList = b) :
    Calls Tryd.prog 27 #[.string s] w fun e w' => e = .returned (.bool b) ∧ Below w.heap.size w w' := by
  rw [← h]
  exact key_any s hs w
theorem item_is (s : ByteArray) (b : Bool) (hs : s.size ≤ 100000) (w : World) (hm : MaxIs w) (h : itemL s.data.toList = b) :
    Calls Tryd.prog 29 #[.string s] w fun e w' => e = .returned (.bool b) ∧ Below w.heap.size w w' := by
  rw [← h]
  exact item_any s hs w hm
theorem quote_is (s q : ByteArray) (hs : s.size ≤ 100000) (w : World) (h : (⟨(quoteL s.data.toList).toArray⟩ : ByteArray) = q) :
    Calls Tryd.prog 33 #[.string s] w fun e w' => e = .returned (.string q) ∧ Below w.heap.size w w' := by
  rw [← h]
  exact quote_any s hs w
theorem strs_new (w : World) (c : Array Value) (l : List ByteArray) (n : Nat) (hn : n = l.length) (hlen : l.length ≤ 1000) (hc : c.toList = l.map Value.string) :
    StrAt (w.alloc (.cells c 9)) (.slice (some ⟨w.heap.size, 0, none⟩) n n) l := by
  subst hn
  have h := nown_new w c 9 1 l.length w.heap.size (by rw [hc]; simp) hlen (Nat.le_refl _)
  rw [hc] at h
  exact OwnS.at_ h
end Go.Proofs.YtahklchfchjmcaaDoor
