/- Keys as the law asks for them; changes; words (printed by wip/genEu.py). -/
import Derived.Test.YtmocoiamhphhnaaGreatDoorEs
namespace Go.Proofs.YtmocoiamhphhnaaGreatDoor
set_option linter.unusedVariables false
set_option linter.unusedSimpArgs false
open Go.RowKit Go.MapKept

set_option maxRecDepth 100000 in
set_option maxHeartbeats 1000000 in
theorem strings_0  (w : World)  :
    Calls Tryz.prog 34 #[.slice none 0 0, .slice none 0 0] w fun e w' => e = .returned (.bool true) ∧ Below w.heap.size w w' := by
  have HB := Lib.hid (Below.refl w.heap.size w)
  go_enter Tryz.func34, Tryz.ntmps34
  go_wp2_with fail
  refine wp_loop_rounds 1 ?_
  rw [rounds_succ]
  go_wp2
  go_ret
  exact ⟨rfl, by repeat (first | exact HB.out | apply nbl_al | apply nbl_drw | apply nbl_drewN | refine Below.setCell ?_ (Nat.le_refl _) _ | refine nbl_set ?_ (by first | exact Nat.le_refl _ | (simp; omega) | (simp; done) | omega) )⟩

set_option maxRecDepth 100000 in
set_option maxHeartbeats 1000000 in
theorem strings_1 (g p ca cb : Nat) (x0 : ByteArray) (w : World) (ha0 : w.cell? ⟨g, 0, none⟩ = some (.string x0)) (hb0 : w.cell? ⟨p, 0, none⟩ = some (.string x0)) :
    Calls Tryz.prog 34 #[.slice (some ⟨g, 0, none⟩) 1 ca, .slice (some ⟨p, 0, none⟩) 1 cb] w fun e w' => e = .returned (.bool true) ∧ Below w.heap.size w w' := by
  have HB := Lib.hid (Below.refl w.heap.size w)
  go_enter Tryz.func34, Tryz.ntmps34
  go_wp2_with fail
  refine wp_loop_rounds 2 ?_
  rw [rounds_succ]
  go_wp2_with fail
  go_quiet (fail)
  go_wp2_with fail
  rw [rounds_succ]
  go_wp2
  go_ret
  exact ⟨rfl, by repeat (first | exact HB.out | apply nbl_al | apply nbl_drw | apply nbl_drewN | refine Below.setCell ?_ (Nat.le_refl _) _ | refine nbl_set ?_ (by first | exact Nat.le_refl _ | (simp; omega) | (simp; done) | omega) )⟩

set_option maxRecDepth 100000 in
set_option maxHeartbeats 1000000 in
theorem strings_2 (g p ca cb : Nat) (x0 : ByteArray) (x1 : ByteArray) (w : World) (ha0 : w.cell? ⟨g, 0, none⟩ = some (.string x0)) (hb0 : w.cell? ⟨p, 0, none⟩ = some (.string x0)) (ha1 : w.cell? ⟨g, 1, none⟩ = some (.string x1)) (hb1 : w.cell? ⟨p, 1, none⟩ = some (.string x1)) :
    Calls Tryz.prog 34 #[.slice (some ⟨g, 0, none⟩) 2 ca, .slice (some ⟨p, 0, none⟩) 2 cb] w fun e w' => e = .returned (.bool true) ∧ Below w.heap.size w w' := by
  have HB := Lib.hid (Below.refl w.heap.size w)
  go_enter Tryz.func34, Tryz.ntmps34
  go_wp2_with fail
  refine wp_loop_rounds 3 ?_
  rw [rounds_succ]
  go_wp2_with fail
  go_quiet (fail)
  go_wp2_with fail
  rw [rounds_succ]
  go_wp2_with fail
  go_quiet (fail)
  go_wp2_with fail
  rw [rounds_succ]
  go_wp2
  go_ret
  exact ⟨rfl, by repeat (first | exact HB.out | apply nbl_al | apply nbl_drw | apply nbl_drewN | refine Below.setCell ?_ (Nat.le_refl _) _ | refine nbl_set ?_ (by first | exact Nat.le_refl _ | (simp; omega) | (simp; done) | omega) )⟩

set_option maxRecDepth 100000 in
set_option maxHeartbeats 1000000 in
theorem keyed_wishba (p : Nat) (w : World) (hE : Env w) (hp : HeapIs w p (.cells #[.string ⟨#[97]⟩, .string ⟨#[98]⟩] 9 (0, 0))) :
    Calls Tryz.prog 13 #[.agg #[.int .i64 6, .string ⟨#[98]⟩, .string ⟨#[97]⟩, .string ⟨#[120]⟩, .int .i64 0, .slice none 0 0], .slice (some ⟨p, 0, none⟩) 2 2] w fun e w' => e = .returned (.bool true) ∧ Below w.heap.size w w' := by
  have HE := Lib.hid hE
  clear hE
  have HP := Lib.hid hp
  clear hp
  have HB := Lib.hid (Below.refl w.heap.size w)
  go_enter Tryz.func13, Tryz.ntmps13
  go_wp2_with fail
  refine (keys_wishba _ (HE.out.later (nbl_al HB.out))).mono ?_
  rintro e w1 ⟨g, cap, rfl, hc0, hc1, hb⟩
  replace HB := Lib.hid (nbl_step HB.out (nbl_new hb))
  have HQ := Lib.hid (HP.out.al.below hb)
  have HC0 := Lib.hid hc0
  clear hc0
  have HC1 := Lib.hid hc1
  clear hc1
  clear hb
  go_wp2_with fail
  refine (strings_2 g p cap 2 ⟨#[97]⟩ ⟨#[98]⟩ _ HC0.out (HQ.out.cell (j := 0) rfl) HC1.out (HQ.out.cell (j := 1) rfl)).mono ?_
  rintro e w1 ⟨rfl, hb⟩
  replace HB := Lib.hid (show Below w.heap.size w w1 by have h := hb; repeat (first | exact nbl_step HB.out h | replace h := nbl_new h | replace h := nbl_dr h))
  clear hb
  go_wp2
  go_ret
  exact ⟨rfl, by repeat (first | exact HB.out | apply nbl_al | apply nbl_drw | apply nbl_drewN | refine Below.setCell ?_ (Nat.le_refl _) _ | refine nbl_set ?_ (by first | exact Nat.le_refl _ | (simp; omega) | (simp; done) | omega) )⟩

set_option maxRecDepth 100000 in
set_option maxHeartbeats 1000000 in
theorem keyed_login (p : Nat) (w : World) (hE : Env w) (hp : HeapIs w p (.cells #[.string ⟨#[97]⟩] 9 (0, 0))) :
    Calls Tryz.prog 13 #[.agg #[.int .i64 7, .string ⟨#[97]⟩, .string ⟨#[65]⟩, .string ⟨#[]⟩, .int .i64 0, .slice none 0 0], .slice (some ⟨p, 0, none⟩) 1 1] w fun e w' => e = .returned (.bool true) ∧ Below w.heap.size w w' := by
  have HE := Lib.hid hE
  clear hE
  have HP := Lib.hid hp
  clear hp
  have HB := Lib.hid (Below.refl w.heap.size w)
  go_enter Tryz.func13, Tryz.ntmps13
  go_wp2_with fail
  refine (keys_login _ (HE.out.later (nbl_al HB.out))).mono ?_
  rintro e w1 ⟨g, cap, rfl, hc0, hb⟩
  replace HB := Lib.hid (nbl_step HB.out (nbl_new hb))
  have HQ := Lib.hid (HP.out.al.below hb)
  have HC0 := Lib.hid hc0
  clear hc0
  clear hb
  go_wp2_with fail
  refine (strings_1 g p cap 1 ⟨#[97]⟩ _ HC0.out (HQ.out.cell (j := 0) rfl)).mono ?_
  rintro e w1 ⟨rfl, hb⟩
  replace HB := Lib.hid (show Below w.heap.size w w1 by have h := hb; repeat (first | exact nbl_step HB.out h | replace h := nbl_new h | replace h := nbl_dr h))
  clear hb
  go_wp2
  go_ret
  exact ⟨rfl, by repeat (first | exact HB.out | apply nbl_al | apply nbl_drw | apply nbl_drewN | refine Below.setCell ?_ (Nat.le_refl _) _ | refine nbl_set ?_ (by first | exact Nat.le_refl _ | (simp; omega) | (simp; done) | omega) )⟩

set_option maxRecDepth 100000 in
set_option maxHeartbeats 1000000 in
theorem keyed_merge  (w : World) (hE : Env w) :
    Calls Tryz.prog 13 #[.agg #[.int .i64 9, .string ⟨#[]⟩, .string ⟨#[]⟩, .string ⟨#[]⟩, .int .i64 0, .slice none 0 0], .slice none 0 0] w fun e w' => e = .returned (.bool true) ∧ Below w.heap.size w w' := by
  have HE := Lib.hid hE
  clear hE
  have HB := Lib.hid (Below.refl w.heap.size w)
  go_enter Tryz.func13, Tryz.ntmps13
  go_wp2_with fail
  refine (keys_merge _ (HE.out.later (nbl_al HB.out))).mono ?_
  rintro e w1 ⟨rfl, hb⟩
  replace HB := Lib.hid (nbl_step HB.out (nbl_new hb))
  clear hb
  go_wp2_with fail
  refine (strings_0 _).mono ?_
  rintro e w1 ⟨rfl, hb⟩
  replace HB := Lib.hid (show Below w.heap.size w w1 by have h := hb; repeat (first | exact nbl_step HB.out h | replace h := nbl_new h | replace h := nbl_dr h))
  clear hb
  go_wp2
  go_ret
  exact ⟨rfl, by repeat (first | exact HB.out | apply nbl_al | apply nbl_drw | apply nbl_drewN | refine Below.setCell ?_ (Nat.le_refl _) _ | refine nbl_set ?_ (by first | exact Nat.le_refl _ | (simp; omega) | (simp; done) | omega) )⟩

set_option maxRecDepth 100000 in
set_option maxHeartbeats 1000000 in
theorem changes_merge  (w : World) (hE : Env w) :
    Calls Tryz.prog 14 #[.agg #[.int .i64 9, .string ⟨#[]⟩, .string ⟨#[]⟩, .string ⟨#[]⟩, .int .i64 0, .slice none 0 0]] w fun e w' => e = .returned (.bool true) ∧ Below w.heap.size w w' := by
  have HE := Lib.hid hE
  clear hE
  have HB := Lib.hid (Below.refl w.heap.size w)
  go_enter Tryz.func14, Tryz.ntmps14
  go_wp2_with fail
  refine (formed_merge _ (HE.out.later (nbl_al HB.out))).mono ?_
  rintro e w1 ⟨rfl, hb⟩
  replace HB := Lib.hid (show Below w.heap.size w w1 by have h := hb; repeat (first | exact nbl_step HB.out h | replace h := nbl_new h | replace h := nbl_dr h))
  have j1 : HeapIs w1 (w.heap.size) (.cells #[.int .i64 9, .string ⟨#[]⟩, .string ⟨#[]⟩, .string ⟨#[]⟩, .int .i64 0, .slice none 0 0] 29 (0, 0)) := (HeapIs.new _ _).below hb
  have j1r0 := j1.cell (j := 0) (v := .int .i64 9) rfl
  have j1s0 := j1.frozen 0
  have j1a0 : ∀ o, (w1.alloc o).cell? ⟨w.heap.size, 0, none⟩ = some (.int .i64 9) := fun o => (HeapIs.al j1 (o' := o)).cell (j := 0) (v := .int .i64 9) rfl
  have j1t0 := j1.set (j := 0) (v := .int .i64 9) rfl
  have j1r1 := j1.cell (j := 1) (v := .string ⟨#[]⟩) rfl
  have j1s1 := j1.frozen 1
  have j1a1 : ∀ o, (w1.alloc o).cell? ⟨w.heap.size, 1, none⟩ = some (.string ⟨#[]⟩) := fun o => (HeapIs.al j1 (o' := o)).cell (j := 1) (v := .string ⟨#[]⟩) rfl
  have j1t1 := j1.set (j := 1) (v := .string ⟨#[]⟩) rfl
  have j1r2 := j1.cell (j := 2) (v := .string ⟨#[]⟩) rfl
  have j1s2 := j1.frozen 2
  have j1a2 : ∀ o, (w1.alloc o).cell? ⟨w.heap.size, 2, none⟩ = some (.string ⟨#[]⟩) := fun o => (HeapIs.al j1 (o' := o)).cell (j := 2) (v := .string ⟨#[]⟩) rfl
  have j1t2 := j1.set (j := 2) (v := .string ⟨#[]⟩) rfl
  have j1r3 := j1.cell (j := 3) (v := .string ⟨#[]⟩) rfl
  have j1s3 := j1.frozen 3
  have j1a3 : ∀ o, (w1.alloc o).cell? ⟨w.heap.size, 3, none⟩ = some (.string ⟨#[]⟩) := fun o => (HeapIs.al j1 (o' := o)).cell (j := 3) (v := .string ⟨#[]⟩) rfl
  have j1t3 := j1.set (j := 3) (v := .string ⟨#[]⟩) rfl
  have j1r4 := j1.cell (j := 4) (v := .int .i64 0) rfl
  have j1s4 := j1.frozen 4
  have j1a4 : ∀ o, (w1.alloc o).cell? ⟨w.heap.size, 4, none⟩ = some (.int .i64 0) := fun o => (HeapIs.al j1 (o' := o)).cell (j := 4) (v := .int .i64 0) rfl
  have j1t4 := j1.set (j := 4) (v := .int .i64 0) rfl
  have j1r5 := j1.cell (j := 5) (v := .slice none 0 0) rfl
  have j1s5 := j1.frozen 5
  have j1a5 : ∀ o, (w1.alloc o).cell? ⟨w.heap.size, 5, none⟩ = some (.slice none 0 0) := fun o => (HeapIs.al j1 (o' := o)).cell (j := 5) (v := .slice none 0 0) rfl
  have j1t5 := j1.set (j := 5) (v := .slice none 0 0) rfl
  clear hb
  go_wp2
  go_ret
  exact ⟨rfl, by repeat (first | exact HB.out | apply nbl_al | apply nbl_drw | apply nbl_drewN | refine Below.setCell ?_ (Nat.le_refl _) _ | refine nbl_set ?_ (by first | exact Nat.le_refl _ | (simp; omega) | (simp; done) | omega) )⟩

set_option maxRecDepth 100000 in
set_option maxHeartbeats 1000000 in
theorem changes_geta  (w : World) (hE : Env w) :
    Calls Tryz.prog 14 #[.agg #[.int .i64 4, .string ⟨#[97]⟩, .string ⟨#[]⟩, .string ⟨#[]⟩, .int .i64 0, .slice none 0 0]] w fun e w' => e = .returned (.bool false) ∧ Below w.heap.size w w' := by
  have HE := Lib.hid hE
  clear hE
  have HB := Lib.hid (Below.refl w.heap.size w)
  go_enter Tryz.func14, Tryz.ntmps14
  go_wp2_with fail
  refine (formed_geta _ (HE.out.later (nbl_al HB.out))).mono ?_
  rintro e w1 ⟨rfl, hb⟩
  replace HB := Lib.hid (show Below w.heap.size w w1 by have h := hb; repeat (first | exact nbl_step HB.out h | replace h := nbl_new h | replace h := nbl_dr h))
  have j1 : HeapIs w1 (w.heap.size) (.cells #[.int .i64 4, .string ⟨#[97]⟩, .string ⟨#[]⟩, .string ⟨#[]⟩, .int .i64 0, .slice none 0 0] 29 (0, 0)) := (HeapIs.new _ _).below hb
  have j1r0 := j1.cell (j := 0) (v := .int .i64 4) rfl
  have j1s0 := j1.frozen 0
  have j1a0 : ∀ o, (w1.alloc o).cell? ⟨w.heap.size, 0, none⟩ = some (.int .i64 4) := fun o => (HeapIs.al j1 (o' := o)).cell (j := 0) (v := .int .i64 4) rfl
  have j1t0 := j1.set (j := 0) (v := .int .i64 4) rfl
  have j1r1 := j1.cell (j := 1) (v := .string ⟨#[97]⟩) rfl
  have j1s1 := j1.frozen 1
  have j1a1 : ∀ o, (w1.alloc o).cell? ⟨w.heap.size, 1, none⟩ = some (.string ⟨#[97]⟩) := fun o => (HeapIs.al j1 (o' := o)).cell (j := 1) (v := .string ⟨#[97]⟩) rfl
  have j1t1 := j1.set (j := 1) (v := .string ⟨#[97]⟩) rfl
  have j1r2 := j1.cell (j := 2) (v := .string ⟨#[]⟩) rfl
  have j1s2 := j1.frozen 2
  have j1a2 : ∀ o, (w1.alloc o).cell? ⟨w.heap.size, 2, none⟩ = some (.string ⟨#[]⟩) := fun o => (HeapIs.al j1 (o' := o)).cell (j := 2) (v := .string ⟨#[]⟩) rfl
  have j1t2 := j1.set (j := 2) (v := .string ⟨#[]⟩) rfl
  have j1r3 := j1.cell (j := 3) (v := .string ⟨#[]⟩) rfl
  have j1s3 := j1.frozen 3
  have j1a3 : ∀ o, (w1.alloc o).cell? ⟨w.heap.size, 3, none⟩ = some (.string ⟨#[]⟩) := fun o => (HeapIs.al j1 (o' := o)).cell (j := 3) (v := .string ⟨#[]⟩) rfl
  have j1t3 := j1.set (j := 3) (v := .string ⟨#[]⟩) rfl
  have j1r4 := j1.cell (j := 4) (v := .int .i64 0) rfl
  have j1s4 := j1.frozen 4
  have j1a4 : ∀ o, (w1.alloc o).cell? ⟨w.heap.size, 4, none⟩ = some (.int .i64 0) := fun o => (HeapIs.al j1 (o' := o)).cell (j := 4) (v := .int .i64 0) rfl
  have j1t4 := j1.set (j := 4) (v := .int .i64 0) rfl
  have j1r5 := j1.cell (j := 5) (v := .slice none 0 0) rfl
  have j1s5 := j1.frozen 5
  have j1a5 : ∀ o, (w1.alloc o).cell? ⟨w.heap.size, 5, none⟩ = some (.slice none 0 0) := fun o => (HeapIs.al j1 (o' := o)).cell (j := 5) (v := .slice none 0 0) rfl
  have j1t5 := j1.set (j := 5) (v := .slice none 0 0) rfl
  clear hb
  go_wp2
  go_ret
  exact ⟨rfl, by repeat (first | exact HB.out | apply nbl_al | apply nbl_drw | apply nbl_drewN | refine Below.setCell ?_ (Nat.le_refl _) _ | refine nbl_set ?_ (by first | exact Nat.le_refl _ | (simp; omega) | (simp; done) | omega) )⟩

def wordsL : List ByteArray := [⟨#[111, 107]⟩, ⟨#[110, 105, 108]⟩, ⟨#[97, 114, 103, 117, 109, 101, 110, 116]⟩, ⟨#[114, 97, 110, 103, 101]⟩, ⟨#[115, 104, 111, 114, 116]⟩, ⟨#[108, 111, 110, 103]⟩, ⟨#[102, 111, 114, 109, 97, 116]⟩, ⟨#[102, 117, 108, 108]⟩, ⟨#[115, 116, 97, 116, 101]⟩, ⟨#[110, 111, 110, 101]⟩, ⟨#[99, 104, 101, 99, 107]⟩, ⟨#[98, 117, 115, 121]⟩, ⟨#[109, 97, 108, 102, 111, 114, 109, 101, 100]⟩, ⟨#[116, 111, 111, 32, 109, 97, 110, 121]⟩, ⟨#[113, 117, 97, 110, 116, 105, 116, 121]⟩, ⟨#[101, 120, 104, 97, 117, 115, 116, 101, 100]⟩, ⟨#[99, 108, 111, 115, 101, 100]⟩, ⟨#[101, 110, 100]⟩]
def wordOf (n : Int) : ByteArray := if 0 ≤ n ∧ n < 18 then wordsL.getD n.toNat ⟨#[]⟩ else ⟨#[]⟩
def WordsAt (W : World) : Prop := ∀ k, k < 18 → W.cell? ⟨0, k, none⟩ = some (.string (wordsL.getD k ⟨#[]⟩))
theorem WordsAt.later {W W' : World} (h : WordsAt W) (hb : Below W.heap.size W W') : WordsAt W' := fun k hk => ncell_below hb (h k hk)
theorem words_cells : ∀ k, k < 18 → (#[.string ⟨#[111, 107]⟩, .string ⟨#[110, 105, 108]⟩, .string ⟨#[97, 114, 103, 117, 109, 101, 110, 116]⟩, .string ⟨#[114, 97, 110, 103, 101]⟩, .string ⟨#[115, 104, 111, 114, 116]⟩, .string ⟨#[108, 111, 110, 103]⟩, .string ⟨#[102, 111, 114, 109, 97, 116]⟩, .string ⟨#[102, 117, 108, 108]⟩, .string ⟨#[115, 116, 97, 116, 101]⟩, .string ⟨#[110, 111, 110, 101]⟩, .string ⟨#[99, 104, 101, 99, 107]⟩, .string ⟨#[98, 117, 115, 121]⟩, .string ⟨#[109, 97, 108, 102, 111, 114, 109, 101, 100]⟩, .string ⟨#[116, 111, 111, 32, 109, 97, 110, 121]⟩, .string ⟨#[113, 117, 97, 110, 116, 105, 116, 121]⟩, .string ⟨#[101, 120, 104, 97, 117, 115, 116, 101, 100]⟩, .string ⟨#[99, 108, 111, 115, 101, 100]⟩, .string ⟨#[101, 110, 100]⟩] : Array Value)[k]? = some (.string (wordsL.getD k ⟨#[]⟩)) := by
  intro k hk
  match k, hk with
  | 0, _ => rfl
  | 1, _ => rfl
  | 2, _ => rfl
  | 3, _ => rfl
  | 4, _ => rfl
  | 5, _ => rfl
  | 6, _ => rfl
  | 7, _ => rfl
  | 8, _ => rfl
  | 9, _ => rfl
  | 10, _ => rfl
  | 11, _ => rfl
  | 12, _ => rfl
  | 13, _ => rfl
  | 14, _ => rfl
  | 15, _ => rfl
  | 16, _ => rfl
  | 17, _ => rfl
  | k + 18, hk => omega

set_option maxRecDepth 100000 in
set_option maxHeartbeats 1000000 in
theorem word_any (n : Int) (w : World) (hW : WordsAt w) : Calls Tryz.prog 5 #[.int .i64 n] w fun e w' => e = .returned (.string (wordOf n)) ∧ Below w.heap.size w w' := by
  have HB := Lib.hid (Below.refl w.heap.size w)
  have HW := Lib.hid hW
  clear hW
  by_cases h1 : n < 0
  · have h0 : wordOf n = ⟨#[]⟩ := by unfold wordOf; rw [if_neg (by omega)]
    rw [h0]
    go_enter Tryz.func5, Tryz.ntmps5
    go_wp2
    go_ret
    exact ⟨rfl, HB.out⟩
  · by_cases h2 : n < 18
    · obtain ⟨k, rfl⟩ : ∃ k : Nat, n = k := ⟨n.toNat, by omega⟩
      have hk : k < 18 := by omega
      have h0 : wordOf (k : Int) = wordsL.getD k ⟨#[]⟩ := by unfold wordOf; rw [if_pos ⟨by omega, by omega⟩]; rfl
      rw [h0]
      have hc := HW.out k hk
      generalize wordsL.getD k ⟨#[]⟩ = s at *
      have hge : ¬ (18 : Int) ≤ (k : Int) := by omega
      have hge2 : decide ((18 : Int) ≤ (k : Int)) = false := decide_eq_false hge
      have hneg : decide ((k : Int) < 0) = false := decide_eq_false h1
      go_enter Tryz.func5, Tryz.ntmps5
      go_wp2
      go_ret
      exact ⟨rfl, HB.out⟩
    · have h0 : wordOf n = ⟨#[]⟩ := by unfold wordOf; rw [if_neg (by omega)]
      rw [h0]
      have hge : (18 : Int) ≤ n := by omega
      have hge2 : decide ((18 : Int) ≤ n) = true := decide_eq_true hge
      have hneg : decide (n < 0) = false := decide_eq_false h1
      go_enter Tryz.func5, Tryz.ntmps5
      go_wp2
      go_ret
      exact ⟨rfl, HB.out⟩

set_option maxRecDepth 100000 in
set_option maxHeartbeats 1000000 in
theorem refword_any (n : Int) (w : World) : Calls Tryz.prog 6 #[.int .i64 n] w fun e w' => e = .returned (.string (wordOf n)) ∧ Below w.heap.size w w' := by
  have HB := Lib.hid (Below.refl w.heap.size w)
  by_cases h1 : n < 0
  · have h0 : wordOf n = ⟨#[]⟩ := by unfold wordOf; rw [if_neg (by omega)]
    rw [h0]
    go_enter Tryz.func6, Tryz.ntmps6
    go_wp2
    go_ret
    exact ⟨rfl, nbl_al HB.out⟩
  · by_cases h2 : n < 18
    · obtain ⟨k, rfl⟩ : ∃ k : Nat, n = k := ⟨n.toNat, by omega⟩
      have hk : k < 18 := by omega
      have h0 : wordOf (k : Int) = wordsL.getD k ⟨#[]⟩ := by unfold wordOf; rw [if_pos ⟨by omega, by omega⟩]; rfl
      rw [h0]
      have hc := (HeapIs.new w (.cells #[.string ⟨#[111, 107]⟩, .string ⟨#[110, 105, 108]⟩, .string ⟨#[97, 114, 103, 117, 109, 101, 110, 116]⟩, .string ⟨#[114, 97, 110, 103, 101]⟩, .string ⟨#[115, 104, 111, 114, 116]⟩, .string ⟨#[108, 111, 110, 103]⟩, .string ⟨#[102, 111, 114, 109, 97, 116]⟩, .string ⟨#[102, 117, 108, 108]⟩, .string ⟨#[115, 116, 97, 116, 101]⟩, .string ⟨#[110, 111, 110, 101]⟩, .string ⟨#[99, 104, 101, 99, 107]⟩, .string ⟨#[98, 117, 115, 121]⟩, .string ⟨#[109, 97, 108, 102, 111, 114, 109, 101, 100]⟩, .string ⟨#[116, 111, 111, 32, 109, 97, 110, 121]⟩, .string ⟨#[113, 117, 97, 110, 116, 105, 116, 121]⟩, .string ⟨#[101, 120, 104, 97, 117, 115, 116, 101, 100]⟩, .string ⟨#[99, 108, 111, 115, 101, 100]⟩, .string ⟨#[101, 110, 100]⟩] 9)).cell (words_cells k hk)
      generalize wordsL.getD k ⟨#[]⟩ = s at *
      have hge : ¬ (18 : Int) ≤ (k : Int) := by omega
      have hge2 : decide ((18 : Int) ≤ (k : Int)) = false := decide_eq_false hge
      have hneg : decide ((k : Int) < 0) = false := decide_eq_false h1
      go_enter Tryz.func6, Tryz.ntmps6
      go_wp2
      go_ret
      exact ⟨rfl, nbl_al HB.out⟩
    · have h0 : wordOf n = ⟨#[]⟩ := by unfold wordOf; rw [if_neg (by omega)]
      rw [h0]
      have hge : (18 : Int) ≤ n := by omega
      have hge2 : decide ((18 : Int) ≤ n) = true := decide_eq_true hge
      have hneg : decide (n < 0) = false := decide_eq_false h1
      go_enter Tryz.func6, Tryz.ntmps6
      go_wp2
      go_ret
      exact ⟨rfl, nbl_al HB.out⟩

end Go.Proofs.YtmocoiamhphhnaaGreatDoor

