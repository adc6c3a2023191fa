/- client.Valid. -/
import Derived.Test.YtecnchmcdbcofaaGreatDoorUb
import Derived.Deep.RegionHeld3
import Derived.Deep.RegionWith
import Derived.Deep.RegionLaw
set_option linter.unusedVariables false
set_option linter.unusedSimpArgs false
namespace Go.Proofs.YtecnchmcdbcofaaGreatDoor
open Go.RowKit Go.MapKept
theorem Env.later {w w' : World} (h : Env w) (hb : Below w.heap.size w w') : Env w' := h.below hb
def hasB (ps : List UInt8) (c : UInt8) : Bool := decide (0 ≤ Lib.indexByte ps c)
def okB (has right zero : Bool) : Bool := !((has && !right) || (!has && !zero))
/-- Has a call a text? -/
def validB (o q : Int) (k t j : ByteArray) (n : Nat) : Bool :=
  (isOp o && !decide ((65536 : Int) < n)) && (okB (hasB (rowB o).2 107) (betweenB 33 k) k.toList.isEmpty && (okB (hasB (rowB o).2 111) (betweenB 33 t) t.toList.isEmpty && (okB (hasB (rowB o).2 105) (betweenB 32 j) j.toList.isEmpty && (okB (hasB (rowB o).2 113) true (q == 0) && okB (hasB (rowB o).2 100) true ((n : Int) == 0)))))
set_option maxRecDepth 100000 in
set_option maxHeartbeats 16000000 in
theorem valid_any (o q : Int) (k t j : ByteArray) (A : Option Addr) (n c : Nat) (hk : k.size ≤ 100000) (ht : t.size ≤ 100000) (hj : j.size ≤ 100000) (w : World) (hE : Env w) :
    Calls Tryz.prog 29 #[.agg #[.int .i64 o, .string k, .string t, .string j, .int .i64 q, .slice A n c]] w fun e w' => e = .returned (.bool (validB o q k t j n)) ∧ Below w.heap.size w w' := by
  have HQ : Hid (validB o q k t j n = ((isOp o && !decide ((65536 : Int) < n)) && (okB (hasB (rowB o).2 107) (betweenB 33 k) k.toList.isEmpty && (okB (hasB (rowB o).2 111) (betweenB 33 t) t.toList.isEmpty && (okB (hasB (rowB o).2 105) (betweenB 32 j) j.toList.isEmpty && (okB (hasB (rowB o).2 113) true (q == 0) && okB (hasB (rowB o).2 100) true ((n : Int) == 0))))))) := rfl
  have HF := Lib.hid (fun W (h : Env W) => find_any o W h)
  have HE := Lib.hid hE
  have HBW : Hid (∀ (s : ByteArray) (hs : s.size ≤ 100000) (m : Int) (hm : m = 33 ∨ m = 32) (W : World), Calls Tryz.prog 65 #[.string s, .int .u8 m] W fun e w' => e = .returned (.bool (betweenB m.toNat s)) ∧ w' = W) := Lib.hid fun s hs m hm W => by
    rcases hm with rfl | rfl
    · exact between_any s hs 33 (by omega) W
    · exact between_any s hs 32 (by omega) W
  have HC := Lib.hid (fun c W => Tryz.strings_Contains_one ⟨⟨(rowB o).2⟩⟩ c W)
  clear hE
  generalize validB o q k t j n = vb at *
  generalize rowB o = R at *
  obtain ⟨rw, rp⟩ := R
  generalize isOp o = io at *
  go_enter Tryz.func29, Tryz.ntmps29
  go_wp2_with fail
  refine (HF.out _ (HE.out.later (below_alloc _ _))).mono ?_
  rintro e w1 ⟨rfl, hb⟩
  have HB := Lib.hid (nbl_step (below_alloc _ _) hb)
  have c0 := cell_below hb (new_cells w _ _ 0)
  have c1 := cell_below hb (new_cells w _ _ 1)
  have c2 := cell_below hb (new_cells w _ _ 2)
  have c3 := cell_below hb (new_cells w _ _ 3)
  have c4 := cell_below hb (new_cells w _ _ 4)
  have c5 := cell_below hb (new_cells w _ _ 5)
  clear hb
  have a0 := fun o' => cell_below (below_alloc w1 o') c0
  have a1 := fun o' => cell_below (below_alloc w1 o') c1
  have a2 := fun o' => cell_below (below_alloc w1 o') c2
  have a3 := fun o' => cell_below (below_alloc w1 o') c3
  have a4 := fun o' => cell_below (below_alloc w1 o') c4
  have a5 := fun o' => cell_below (below_alloc w1 o') c5
  cases io with
  | false =>
    go_wp2_with fail
    go_ret
    exact ⟨by rw [HQ.out]; rfl, nbl_al HB.out⟩
  | true =>
    by_cases hn : (65536 : Int) < n
    · have dn : decide ((65536 : Int) < n) = true := decide_eq_true hn
      have DN := Lib.hid dn
      go_wp2_with fail
      go_ret
      exact ⟨by rw [HQ.out, DN.out]; rfl, nbl_al HB.out⟩
    · have dn : decide ((65536 : Int) < n) = false := decide_eq_false hn
      have DN := Lib.hid dn
      go_wp2_with fail
      obtain ⟨w2, hw2⟩ : ∃ w2, w2 = w1.alloc (.cells #[.string ⟨⟨rw⟩⟩, .string ⟨⟨rp⟩⟩] 140) := ⟨_, rfl⟩
      have d0 := a0 (.cells #[.string ⟨⟨rw⟩⟩, .string ⟨⟨rp⟩⟩] 140)
      have d1 := a1 (.cells #[.string ⟨⟨rw⟩⟩, .string ⟨⟨rp⟩⟩] 140)
      have d2 := a2 (.cells #[.string ⟨⟨rw⟩⟩, .string ⟨⟨rp⟩⟩] 140)
      have d3 := a3 (.cells #[.string ⟨⟨rw⟩⟩, .string ⟨⟨rp⟩⟩] 140)
      have d4 := a4 (.cells #[.string ⟨⟨rw⟩⟩, .string ⟨⟨rp⟩⟩] 140)
      have d5 := a5 (.cells #[.string ⟨⟨rw⟩⟩, .string ⟨⟨rp⟩⟩] 140)
      have r1 : w2.cell? ⟨w1.heap.size, 1, none⟩ = some (.string ⟨⟨rp⟩⟩) := by rw [hw2]; exact new_cells _ _ _ 1
      have HB2 : Hid (Below w.heap.size w w2) := Lib.hid (by rw [hw2]; exact nbl_al HB.out)
      rw [← hw2] at d0 d1 d2 d3 d4 d5 ⊢
      clear hw2 a0 a1 a2 a3 a4 a5 c0 c1 c2 c3 c4 c5 HB
      generalize w1.heap.size = p1 at *
      go_region_held3 (fun w' => w'.cell? ⟨w.heap.size, 1, none⟩ = some (.string k) ∧ w'.cell? ⟨w.heap.size, 2, none⟩ = some (.string t) ∧ w'.cell? ⟨w.heap.size, 3, none⟩ = some (.string j) ∧ w'.cell? ⟨w.heap.size, 4, none⟩ = some (.int .i64 q) ∧ w'.cell? ⟨w.heap.size, 5, none⟩ = some (.slice A n c)) (go_keep) (first
        | (go_at_call 65; refine (HBW.out _ (by assumption) _ (by decide) _).mono ?_; rintro e w8 ⟨rfl, rfl⟩)
        | fail)
      generalize betweenB 33 k = b1 at *
      generalize betweenB 33 t = b2 at *
      generalize betweenB 32 j = b3 at *
      generalize k.toList.isEmpty = z1 at *
      generalize t.toList.isEmpty = z2 at *
      generalize j.toList.isEmpty = z3 at *
      generalize (q == 0) = z4 at *
      generalize ((n : Int) == 0) = z5 at *
      rw [DN.out] at HQ
      obtain ⟨w3, hw3⟩ : ∃ w3, w3 = (w2.alloc (.cells #[.string ⟨#[107]⟩, .bool b1, .bool z1, .string ⟨#[111]⟩, .bool b2, .bool z2, .string ⟨#[105]⟩, .bool b3, .bool z3, .string ⟨#[113]⟩, .bool true, .bool z4, .string ⟨#[100]⟩, .bool true, .bool z5] 144)).drew := ⟨_, rfl⟩
      rw [← hw3]
      have HB3 : Hid (Below w.heap.size w w3) := Lib.hid (by rw [hw3]; exact (nbl_al HB2.out).drew)
      have R1 : Hid (w3.cell? ⟨p1, 1, none⟩ = some (.string ⟨⟨rp⟩⟩)) := Lib.hid (by rw [hw3]; exact cell_below (below_alloc w2 _) r1)
      have C0 : Hid (w3.cell? ⟨w2.heap.size, 0, none⟩ = some (.string ⟨#[107]⟩)) := Lib.hid (by rw [hw3]; exact new_cells w2 _ _ 0)
      have C1 : Hid (w3.cell? ⟨w2.heap.size, 1, none⟩ = some (.bool b1)) := Lib.hid (by rw [hw3]; exact new_cells w2 _ _ 1)
      have C2 : Hid (w3.cell? ⟨w2.heap.size, 2, none⟩ = some (.bool z1)) := Lib.hid (by rw [hw3]; exact new_cells w2 _ _ 2)
      have C3 : Hid (w3.cell? ⟨w2.heap.size, 3, none⟩ = some (.string ⟨#[111]⟩)) := Lib.hid (by rw [hw3]; exact new_cells w2 _ _ 3)
      have C4 : Hid (w3.cell? ⟨w2.heap.size, 4, none⟩ = some (.bool b2)) := Lib.hid (by rw [hw3]; exact new_cells w2 _ _ 4)
      have C5 : Hid (w3.cell? ⟨w2.heap.size, 5, none⟩ = some (.bool z2)) := Lib.hid (by rw [hw3]; exact new_cells w2 _ _ 5)
      have C6 : Hid (w3.cell? ⟨w2.heap.size, 6, none⟩ = some (.string ⟨#[105]⟩)) := Lib.hid (by rw [hw3]; exact new_cells w2 _ _ 6)
      have C7 : Hid (w3.cell? ⟨w2.heap.size, 7, none⟩ = some (.bool b3)) := Lib.hid (by rw [hw3]; exact new_cells w2 _ _ 7)
      have C8 : Hid (w3.cell? ⟨w2.heap.size, 8, none⟩ = some (.bool z3)) := Lib.hid (by rw [hw3]; exact new_cells w2 _ _ 8)
      have C9 : Hid (w3.cell? ⟨w2.heap.size, 9, none⟩ = some (.string ⟨#[113]⟩)) := Lib.hid (by rw [hw3]; exact new_cells w2 _ _ 9)
      have C10 : Hid (w3.cell? ⟨w2.heap.size, 10, none⟩ = some (.bool true)) := Lib.hid (by rw [hw3]; exact new_cells w2 _ _ 10)
      have C11 : Hid (w3.cell? ⟨w2.heap.size, 11, none⟩ = some (.bool z4)) := Lib.hid (by rw [hw3]; exact new_cells w2 _ _ 11)
      have C12 : Hid (w3.cell? ⟨w2.heap.size, 12, none⟩ = some (.string ⟨#[100]⟩)) := Lib.hid (by rw [hw3]; exact new_cells w2 _ _ 12)
      have C13 : Hid (w3.cell? ⟨w2.heap.size, 13, none⟩ = some (.bool true)) := Lib.hid (by rw [hw3]; exact new_cells w2 _ _ 13)
      have C14 : Hid (w3.cell? ⟨w2.heap.size, 14, none⟩ = some (.bool z5)) := Lib.hid (by rw [hw3]; exact new_cells w2 _ _ 14)
      clear hw3 d0 d1 d2 d3 d4 d5 r1
      generalize w2.heap.size = p2 at *
      go_wp2_with fail
      go_loopg [54] 5 (fun gf u wx => ∃ i : Nat, u = .int .i64 (i : Int) ∧ i + gf = 5 ∧ Below w3.heap.size w3 wx ∧ (0 < i → okB (hasB rp 107) b1 z1 = true) ∧ (1 < i → okB (hasB rp 111) b2 z2 = true) ∧ (2 < i → okB (hasB rp 105) b3 z3 = true) ∧ (3 < i → okB (hasB rp 113) true z4 = true) ∧ (4 < i → okB (hasB rp 100) true z5 = true))
      case atStart => exact ⟨0, rfl, by omega, Below.refl _ _, by omega, by omega, by omega, by omega, by omega⟩
      case round =>
        obtain ⟨i, rfl, hi, hbw, q0, q1, q2, q3, q4⟩ := hrel
        have HW := Lib.hid hbw
        have Q0 := Lib.hid q0
        have Q1 := Lib.hid q1
        have Q2 := Lib.hid q2
        have Q3 := Lib.hid q3
        have Q4 := Lib.hid q4
        have rr := cell_below hbw R1.out
        have ra := fun o' => cell_below (below_alloc _ o') rr
        clear q0 q1 q2 q3 q4
        rcases (show i = 0 ∨ i = 1 ∨ i = 2 ∨ i = 3 ∨ i = 4 ∨ i = 5 by omega) with rfl | rfl | rfl | rfl | rfl | rfl
        · obtain ⟨g', rfl⟩ : ∃ g', gk = g' + 1 := ⟨gk - 1, by omega⟩
          have e0 := cell_below hbw C0.out
          have e1 := cell_below hbw C1.out
          have e2 := cell_below hbw C2.out
          clear hbw
          cases hx : decide (0 ≤ Lib.indexByte rp 107) <;> cases b1 <;> cases z1
          all_goals
            have HX := Lib.hid hx
            go_wp2_with (first | (go_at_call 66; refine (HC.out _ _).mono ?_; rintro e w8 ⟨rfl, rfl⟩; rw [HX.out]))
            first
              | (go_ret
                 exact ⟨by rw [HQ.out]; unfold hasB okB; rw [HX.out]; simp, nbl_al (nbl_step HB3.out HW.out)⟩)
              | (go_roundg g'
                 case measure => omega
                 case rel => exact ⟨1, rfl, by omega, nbl_al HW.out, fun _ => by unfold hasB okB; rw [HX.out]; rfl, by omega, by omega, by omega, by omega⟩)
        · obtain ⟨g', rfl⟩ : ∃ g', gk = g' + 1 := ⟨gk - 1, by omega⟩
          have e0 := cell_below hbw C3.out
          have e1 := cell_below hbw C4.out
          have e2 := cell_below hbw C5.out
          clear hbw
          cases hx : decide (0 ≤ Lib.indexByte rp 111) <;> cases b2 <;> cases z2
          all_goals
            have HX := Lib.hid hx
            go_wp2_with (first | (go_at_call 66; refine (HC.out _ _).mono ?_; rintro e w8 ⟨rfl, rfl⟩; rw [HX.out]))
            first
              | (go_ret
                 exact ⟨by rw [HQ.out]; unfold hasB okB; rw [HX.out]; simp, nbl_al (nbl_step HB3.out HW.out)⟩)
              | (go_roundg g'
                 case measure => omega
                 case rel => exact ⟨2, rfl, by omega, nbl_al HW.out, fun _ => Q0.out (by omega), fun _ => by unfold hasB okB; rw [HX.out]; rfl, by omega, by omega, by omega⟩)
        · obtain ⟨g', rfl⟩ : ∃ g', gk = g' + 1 := ⟨gk - 1, by omega⟩
          have e0 := cell_below hbw C6.out
          have e1 := cell_below hbw C7.out
          have e2 := cell_below hbw C8.out
          clear hbw
          cases hx : decide (0 ≤ Lib.indexByte rp 105) <;> cases b3 <;> cases z3
          all_goals
            have HX := Lib.hid hx
            go_wp2_with (first | (go_at_call 66; refine (HC.out _ _).mono ?_; rintro e w8 ⟨rfl, rfl⟩; rw [HX.out]))
            first
              | (go_ret
                 exact ⟨by rw [HQ.out]; unfold hasB okB; rw [HX.out]; simp, nbl_al (nbl_step HB3.out HW.out)⟩)
              | (go_roundg g'
                 case measure => omega
                 case rel => exact ⟨3, rfl, by omega, nbl_al HW.out, fun _ => Q0.out (by omega), fun _ => Q1.out (by omega), fun _ => by unfold hasB okB; rw [HX.out]; rfl, by omega, by omega⟩)
        · obtain ⟨g', rfl⟩ : ∃ g', gk = g' + 1 := ⟨gk - 1, by omega⟩
          have e0 := cell_below hbw C9.out
          have e1 := cell_below hbw C10.out
          have e2 := cell_below hbw C11.out
          clear hbw
          cases hx : decide (0 ≤ Lib.indexByte rp 113) <;> cases z4
          all_goals
            have HX := Lib.hid hx
            go_wp2_with (first | (go_at_call 66; refine (HC.out _ _).mono ?_; rintro e w8 ⟨rfl, rfl⟩; rw [HX.out]))
            first
              | (go_ret
                 exact ⟨by rw [HQ.out]; unfold hasB okB; rw [HX.out]; simp, nbl_al (nbl_step HB3.out HW.out)⟩)
              | (go_roundg g'
                 case measure => omega
                 case rel => exact ⟨4, rfl, by omega, nbl_al HW.out, fun _ => Q0.out (by omega), fun _ => Q1.out (by omega), fun _ => Q2.out (by omega), fun _ => by unfold hasB okB; rw [HX.out]; rfl, by omega⟩)
        · obtain ⟨g', rfl⟩ : ∃ g', gk = g' + 1 := ⟨gk - 1, by omega⟩
          have e0 := cell_below hbw C12.out
          have e1 := cell_below hbw C13.out
          have e2 := cell_below hbw C14.out
          clear hbw
          cases hx : decide (0 ≤ Lib.indexByte rp 100) <;> cases z5
          all_goals
            have HX := Lib.hid hx
            go_wp2_with (first | (go_at_call 66; refine (HC.out _ _).mono ?_; rintro e w8 ⟨rfl, rfl⟩; rw [HX.out]))
            first
              | (go_ret
                 exact ⟨by rw [HQ.out]; unfold hasB okB; rw [HX.out]; simp, nbl_al (nbl_step HB3.out HW.out)⟩)
              | (go_roundg g'
                 case measure => omega
                 case rel => exact ⟨5, rfl, by omega, nbl_al HW.out, fun _ => Q0.out (by omega), fun _ => Q1.out (by omega), fun _ => Q2.out (by omega), fun _ => Q3.out (by omega), fun _ => by unfold hasB okB; rw [HX.out]; rfl⟩)
        · clear hbw
          go_wp2_with fail
          go_ret
          exact ⟨by rw [HQ.out, Q0.out (by omega), Q1.out (by omega), Q2.out (by omega), Q3.out (by omega), Q4.out (by omega)]; rfl, nbl_step HB3.out HW.out⟩
end Go.Proofs.YtecnchmcdbcofaaGreatDoor
