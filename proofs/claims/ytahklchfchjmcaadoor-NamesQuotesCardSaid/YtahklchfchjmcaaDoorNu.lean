/- The chapter's examples on names (printed by wip/gennu.py). -/
import Derived.Test.YtahklchfchjmcaaDoorNo
namespace Go.Proofs.YtahklchfchjmcaaDoor
set_option linter.unusedVariables false
set_option linter.unusedSimpArgs false
open Go.RowKit Go.MapKept

set_option maxRecDepth 100000 in
set_option maxHeartbeats 4000000 in
theorem nknown_yes (w : World) (hm : MaxIs w) : Calls Tryd.prog 26 #[] w fun e w' => e = .returned (.bool true) ∧ Below w.heap.size w w' := by
  have HM := Lib.hid hm
  have HB := Lib.hid (Below.refl w.heap.size w)
  clear hm
  go_enter Tryd.func26, Tryd.ntmps26
  go_wp2_with fail
  refine (key_is ⟨#[99, 97, 114, 116, 47, 49]⟩ true (by decide) _ (by kernel_rfl)).mono ?_
  rintro e w1 ⟨rfl, hb⟩
  replace HM := Lib.hid (HM.out.later hb)
  replace HB := Lib.hid (nbl_step HB.out hb)
  clear hb
  go_wp2_with fail
  refine (key_is ⟨#[67, 97, 114, 116]⟩ false (by decide) _ (by kernel_rfl)).mono ?_
  rintro e w2 ⟨rfl, hb⟩
  replace HM := Lib.hid (HM.out.later hb)
  replace HB := Lib.hid (nbl_step HB.out hb)
  clear hb
  go_wp2_with fail
  refine (key_is ⟨#[]⟩ false (by decide) _ (by kernel_rfl)).mono ?_
  rintro e w3 ⟨rfl, hb⟩
  replace HM := Lib.hid (HM.out.later hb)
  replace HB := Lib.hid (nbl_step HB.out hb)
  clear hb
  go_wp2_with fail
  refine (item_is ⟨#[82, 101, 100, 32, 97, 112, 112, 108, 101]⟩ true (by decide) _ HM.out (by kernel_rfl)).mono ?_
  rintro e w4 ⟨rfl, hb⟩
  replace HM := Lib.hid (HM.out.later hb)
  replace HB := Lib.hid (nbl_step HB.out hb)
  clear hb
  go_wp2_with fail
  refine (item_is ⟨#[82, 101, 100, 32, 32, 97, 112, 112, 108, 101]⟩ false (by decide) _ HM.out (by kernel_rfl)).mono ?_
  rintro e w5 ⟨rfl, hb⟩
  replace HM := Lib.hid (HM.out.later hb)
  replace HB := Lib.hid (nbl_step HB.out hb)
  clear hb
  go_wp2_with fail
  refine (item_is ⟨#[32, 120]⟩ false (by decide) _ HM.out (by kernel_rfl)).mono ?_
  rintro e w6 ⟨rfl, hb⟩
  replace HM := Lib.hid (HM.out.later hb)
  replace HB := Lib.hid (nbl_step HB.out hb)
  clear hb
  go_wp2_with fail
  refine (item_is ⟨#[195, 169]⟩ false (by decide) _ HM.out (by kernel_rfl)).mono ?_
  rintro e w7 ⟨rfl, hb⟩
  replace HM := Lib.hid (HM.out.later hb)
  replace HB := Lib.hid (nbl_step HB.out hb)
  clear hb
  go_wp2_with fail
  refine (canon_yes ⟨#[32, 82, 101, 100, 9, 32, 97, 112, 112, 108, 101, 10]⟩ ⟨#[82, 101, 100, 32, 97, 112, 112, 108, 101]⟩ 0 (by decide) _ HM.out (by kernel_rfl)).mono ?_
  rintro e w8 ⟨rfl, hb⟩
  replace HM := Lib.hid (HM.out.later hb)
  replace HB := Lib.hid (nbl_step HB.out hb)
  clear hb
  go_wp2_with fail
  refine (canon_yes ⟨#[32, 32]⟩ ⟨#[]⟩ 2 (by decide) _ HM.out (by kernel_rfl)).mono ?_
  rintro e w9 ⟨rfl, hb⟩
  replace HM := Lib.hid (HM.out.later hb)
  replace HB := Lib.hid (nbl_step HB.out hb)
  clear hb
  go_wp2_with fail
  refine (canon_yes ⟨#[195, 169]⟩ ⟨#[]⟩ 2 (by decide) _ HM.out (by kernel_rfl)).mono ?_
  rintro e w10 ⟨rfl, hb⟩
  replace HM := Lib.hid (HM.out.later hb)
  replace HB := Lib.hid (nbl_step HB.out hb)
  clear hb
  go_wp2_with fail
  refine (quote_is ⟨#[97, 34, 98, 92, 99, 10]⟩ ⟨#[34, 97, 92, 34, 98, 92, 92, 99, 92, 120, 48, 97, 34]⟩ (by decide) _ (by kernel_rfl)).mono ?_
  rintro e w11 ⟨rfl, hb⟩
  replace HM := Lib.hid (HM.out.later hb)
  replace HB := Lib.hid (nbl_step HB.out hb)
  clear hb
  go_wp2_with fail
  refine (quote_is ⟨#[97, 34, 98, 92, 99, 10]⟩ ⟨#[34, 97, 92, 34, 98, 92, 92, 99, 92, 120, 48, 97, 34]⟩ (by decide) _ (by kernel_rfl)).mono ?_
  rintro e w12 ⟨rfl, hb⟩
  replace HM := Lib.hid (HM.out.later hb)
  replace HB := Lib.hid (nbl_step HB.out hb)
  clear hb
  go_wp2_with fail
  refine (unquotes_yes ⟨#[34, 97, 92, 34, 98, 92, 92, 99, 92, 120, 48, 97, 34]⟩ ⟨#[97, 34, 98, 92, 99, 10]⟩ 0 (by decide) _ (by kernel_rfl)).mono ?_
  rintro e w13 ⟨rfl, hb⟩
  replace HM := Lib.hid (HM.out.later hb)
  replace HB := Lib.hid (nbl_step HB.out hb)
  clear hb
  go_wp2_with fail
  refine (unquotes_yes ⟨#[34, 97]⟩ ⟨#[]⟩ 6 (by decide) _ (by kernel_rfl)).mono ?_
  rintro e w14 ⟨rfl, hb⟩
  replace HM := Lib.hid (HM.out.later hb)
  replace HB := Lib.hid (nbl_step HB.out hb)
  clear hb
  go_wp2_with fail
  refine (unquotes_yes ⟨#[34, 92, 120, 52, 49, 34]⟩ ⟨#[]⟩ 6 (by decide) _ (by kernel_rfl)).mono ?_
  rintro e w15 ⟨rfl, hb⟩
  replace HM := Lib.hid (HM.out.later hb)
  replace HB := Lib.hid (nbl_step HB.out hb)
  clear hb
  go_wp2_with fail
  refine (unquotes_yes ⟨#[34, 92, 120, 48, 65, 34]⟩ ⟨#[]⟩ 6 (by decide) _ (by kernel_rfl)).mono ?_
  rintro e w16 ⟨rfl, hb⟩
  replace HM := Lib.hid (HM.out.later hb)
  replace HB := Lib.hid (nbl_step HB.out hb)
  clear hb
  go_wp2_with fail
  refine (unquotes_yes ⟨#[34, 34]⟩ ⟨#[]⟩ 0 (by decide) _ (by kernel_rfl)).mono ?_
  rintro e w17 ⟨rfl, hb⟩
  replace HM := Lib.hid (HM.out.later hb)
  replace HB := Lib.hid (nbl_step HB.out hb)
  clear hb
  go_wp2_with fail
  have hal := (Below.refl w17.heap.size w17).alloc (Nat.le_refl _) (.cells #[.string ⟨#[97, 100, 100]⟩, .string ⟨#[82, 101, 100, 32, 97, 112, 112, 108, 101]⟩, .string ⟨#[51]⟩] 9)
  refine (fields_yes ⟨#[97, 100, 100, 32, 34, 82, 101, 100, 32, 97, 112, 112, 108, 101, 34, 32, 51]⟩ 0 _ [[97, 100, 100], [82, 101, 100, 32, 97, 112, 112, 108, 101], [51]] (by decide) _ (HM.out.later hal) (strs_new w17 _ _ 3 rfl (by decide) rfl) (.inl ⟨by kernel_rfl, rfl⟩)).mono ?_
  rintro e w18 ⟨rfl, hb⟩
  replace HM := Lib.hid ((HM.out.later hal).later hb)
  replace HB := Lib.hid (nbl_step (nbl_step HB.out hal) hb)
  clear hb hal
  go_wp2_with fail
  refine (fields_yes ⟨#[]⟩ 0 _ [] (by decide) _ HM.out (SlAt.nil 0 none (by omega)) (.inl ⟨by kernel_rfl, rfl⟩)).mono ?_
  rintro e w19 ⟨rfl, hb⟩
  replace HM := Lib.hid (HM.out.later hb)
  replace HB := Lib.hid (nbl_step HB.out hb)
  clear hb
  go_wp2_with fail
  refine (fields_yes ⟨#[34, 97, 34, 34, 98, 34]⟩ 6 _ [] (by decide) _ HM.out (SlAt.nil 0 none (by omega)) (.inr ⟨by kernel_rfl, rfl, rfl⟩)).mono ?_
  rintro e w20 ⟨rfl, hb⟩
  replace HM := Lib.hid (HM.out.later hb)
  replace HB := Lib.hid (nbl_step HB.out hb)
  clear hb
  go_wp2_with fail
  refine (fields_yes ⟨#[97, 34, 98, 34]⟩ 6 _ [] (by decide) _ HM.out (SlAt.nil 0 none (by omega)) (.inr ⟨by kernel_rfl, rfl, rfl⟩)).mono ?_
  rintro e w21 ⟨rfl, hb⟩
  replace HM := Lib.hid (HM.out.later hb)
  replace HB := Lib.hid (nbl_step HB.out hb)
  clear hb
  go_wp2_with fail
  refine (fields_yes ⟨#[34, 97]⟩ 6 _ [] (by decide) _ HM.out (SlAt.nil 0 none (by omega)) (.inr ⟨by kernel_rfl, rfl, rfl⟩)).mono ?_
  rintro e w22 ⟨rfl, hb⟩
  replace HM := Lib.hid (HM.out.later hb)
  replace HB := Lib.hid (nbl_step HB.out hb)
  clear hb
  go_wp2
  go_ret
  exact ⟨rfl, HB.out⟩
end Go.Proofs.YtahklchfchjmcaaDoor
