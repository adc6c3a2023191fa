/- The chapter's examples on which accesses race. -/
import Derived.Test.YtahklchfchjmcaaDoorLa
import Derived.Test.YtahklchfchjmcaaDoorKp
import Derived.Test.YtahklchfchjmcaaDoorKo
import Derived.Test.YtahklchfchjmcaaDoorAc
namespace Go.Proofs.YtahklchfchjmcaaDoor
set_option linter.unusedVariables false
set_option linter.unusedSimpArgs false
open Go.RowKit Go.MapKept

theorem bl_step {w a b : World} (h : Below w.heap.size w a) (k : Below a.heap.size a b) : Below w.heap.size w b := h.trans (k.mono h.size)
theorem bl_new {a b : World} {o : Obj} (k : Below (a.alloc o).heap.size (a.alloc o) b) : Below a.heap.size a b :=
  ((Below.refl _ _).alloc (Nat.le_refl _) o).trans (k.mono (by simp))

theorem flat_at {α : Type} (cells : α → List Value) (sz : Nat) (hsz : ∀ a, (cells a).length = sz) : ∀ (l : List α) (i j : Nat) (h : i < l.length) (u : Value), (cells l[i])[j]? = some u → (l.flatMap cells)[i * sz + j]? = some u
  | [], i, j, h, u, hu => absurd h (by simp)
  | a :: l, 0, j, h, u, hu => by
    have hj : j < (cells a).length := (List.getElem?_eq_some_iff.1 hu).1
    rw [List.flatMap_cons, Nat.zero_mul, Nat.zero_add, List.getElem?_append_left hj]
    exact hu
  | a :: l, i + 1, j, h, u, hu => by
    rw [List.flatMap_cons, List.getElem?_append_right (by rw [hsz, Nat.add_mul]; omega), hsz, show (i + 1) * sz + j - sz = i * sz + j by rw [Nat.add_mul]; omega]
    exact flat_at cells sz hsz l i j (by simpa using h) u hu

theorem sl_new {α : Type} (cells : α → List Value) (sz : Nat) (hsz : ∀ a, (cells a).length = sz) (w : World) (c : Array Value) (t : TypeId) (l : List α) (n : Nat) (hn : n = l.length) (hlen : l.length ≤ 1000) (hc : c.toList = l.flatMap cells) :
    SlAt sz cells (w.alloc (.cells c t)) (.slice (some ⟨w.heap.size, 0, none⟩) n n) l := by
  subst hn
  refine ⟨_, _, rfl, Nat.le_refl _, by omega, fun h0 => ⟨w.heap.size, 0, rfl, fun i hi j u hu => ?_⟩⟩
  rw [World.cell?_alloc_new, Nat.zero_add, ← Array.getElem?_toList, hc]
  exact flat_at cells sz hsz l i j hi u hu

theorem accs_new (w : World) (c : Array Value) (t : TypeId) (l : List Acc) (n : Nat) (hn : n = l.length) (hlen : l.length ≤ 1000) (hc : c.toList = l.flatMap Acc.cells) :
    AccAt (w.alloc (.cells c t)) (.slice (some ⟨w.heap.size, 0, none⟩) n n) l :=
  sl_new Acc.cells 3 (fun _ => rfl) w c t l n hn hlen hc

theorem dids_new (w : World) (c : Array Value) (t : TypeId) (l : List Dd) (n : Nat) (hn : n = l.length) (hlen : l.length ≤ 1000) (hc : c.toList = l.flatMap Dd.cells) :
    DdAt (w.alloc (.cells c t)) (.slice (some ⟨w.heap.size, 0, none⟩) n n) l :=
  sl_new Dd.cells 18 (fun _ => rfl) w c t l n hn hlen hc

set_option maxRecDepth 100000 in
set_option maxHeartbeats 4000000 in
theorem known_yes (w : World) (htab : ∀ w', Below w.heap.size w w' → Tab w') : Calls Tryd.prog 14 #[] w fun e w' => e = .returned (.bool true) ∧ Below w.heap.size w w' := by
  have HT := Lib.hid htab
  clear htab
  have hB := Below.refl w.heap.size w
  go_enter Tryd.func14, Tryd.ntmps14
  go_wp2_with fail
  refine (law_of _ _ _ _).mono ?_
  rintro e w1 ⟨rfl, hb⟩
  replace hB := bl_step hB hb
  clear hb
  go_wp2_with fail
  refine (law_of _ _ _ _).mono ?_
  rintro e w2 ⟨rfl, hb⟩
  replace hB := bl_step hB hb
  clear hb
  go_wp2_with fail
  refine (law_of _ _ _ _).mono ?_
  rintro e w3 ⟨rfl, hb⟩
  replace hB := bl_step hB hb
  clear hb
  go_wp2_with fail
  refine (law_of _ _ _ _).mono ?_
  rintro e w4 ⟨rfl, hb⟩
  replace hB := bl_step hB hb
  clear hb
  go_wp2_with fail
  have hS := accs_new w4 _ 55 kn2 4 rfl (by decide) rfl
  refine (law_of _ _ _ _).mono ?_
  rintro e w5 ⟨rfl, hb⟩
  replace hS := hS.below hb
  replace hB := bl_step hB (bl_new hb)
  clear hb
  go_wp2_with fail
  refine (law_of _ _ _ _).mono ?_
  rintro e w6 ⟨rfl, hb⟩
  replace hS := hS.below hb
  replace hB := bl_step hB hb
  clear hb
  go_wp2_with fail
  refine (races_yes _ _ kn1 (0) (1) 0 (accs_new _ _ _ kn1 _ rfl (by decide) rfl) (known_check kn1_ok kn1_check)).mono ?_
  rintro e w7 ⟨rfl, hb⟩
  replace hb := bl_new hb
  replace hS := hS.below hb
  replace hB := bl_step hB hb
  clear hb
  go_wp2_with fail
  refine (races_yes _ _ kn2 (-1) (-1) 0 hS (known_check kn2_ok kn2_check)).mono ?_
  rintro e w8 ⟨rfl, hb⟩
  replace hS := hS.below hb
  replace hB := bl_step hB hb
  clear hb
  go_wp2_with fail
  refine (law_of _ _ _ _).mono ?_
  rintro e w9 ⟨rfl, hb⟩
  replace hS := hS.below hb
  replace hB := bl_step hB hb
  clear hb
  go_wp2_with fail
  refine (law_of _ _ _ _).mono ?_
  rintro e w10 ⟨rfl, hb⟩
  replace hS := hS.below hb
  replace hB := bl_step hB hb
  clear hb
  go_wp2_with fail
  refine (law_of _ _ _ _).mono ?_
  rintro e w11 ⟨rfl, hb⟩
  replace hS := hS.below hb
  replace hB := bl_step hB hb
  clear hb
  go_wp2_with fail
  refine (law_of _ _ _ _).mono ?_
  rintro e w12 ⟨rfl, hb⟩
  replace hS := hS.below hb
  replace hB := bl_step hB hb
  clear hb
  go_wp2_with fail
  refine (races_yes _ _ kn3 (0) (3) 0 (accs_new _ _ _ kn3 _ rfl (by decide) rfl) (known_check kn3_ok kn3_check)).mono ?_
  rintro e w13 ⟨rfl, hb⟩
  replace hb := bl_new hb
  replace hS := hS.below hb
  replace hB := bl_step hB hb
  clear hb
  go_wp2_with fail
  refine (law_of _ _ _ _).mono ?_
  rintro e w14 ⟨rfl, hb⟩
  replace hS := hS.below hb
  replace hB := bl_step hB hb
  clear hb
  go_wp2_with fail
  refine (law_of _ _ _ _).mono ?_
  rintro e w15 ⟨rfl, hb⟩
  replace hS := hS.below hb
  replace hB := bl_step hB hb
  clear hb
  go_wp2_with fail
  refine (law_of _ _ _ _).mono ?_
  rintro e w16 ⟨rfl, hb⟩
  replace hS := hS.below hb
  replace hB := bl_step hB hb
  clear hb
  go_wp2_with fail
  refine (law_of _ _ _ _).mono ?_
  rintro e w17 ⟨rfl, hb⟩
  replace hS := hS.below hb
  replace hB := bl_step hB hb
  clear hb
  go_wp2_with fail
  refine (races_yes _ _ kn4 (0) (2) 0 (accs_new _ _ _ kn4 _ rfl (by decide) rfl) (known_check kn4_ok kn4_check)).mono ?_
  rintro e w18 ⟨rfl, hb⟩
  replace hb := bl_new hb
  replace hS := hS.below hb
  replace hB := bl_step hB hb
  clear hb
  go_wp2_with fail
  refine (law_of _ _ _ _).mono ?_
  rintro e w19 ⟨rfl, hb⟩
  replace hS := hS.below hb
  replace hB := bl_step hB hb
  clear hb
  go_wp2_with fail
  refine (law_of _ _ _ _).mono ?_
  rintro e w20 ⟨rfl, hb⟩
  replace hS := hS.below hb
  replace hB := bl_step hB hb
  clear hb
  go_wp2_with fail
  refine (law_of _ _ _ _).mono ?_
  rintro e w21 ⟨rfl, hb⟩
  replace hS := hS.below hb
  replace hB := bl_step hB hb
  clear hb
  go_wp2_with fail
  refine (law_of _ _ _ _).mono ?_
  rintro e w22 ⟨rfl, hb⟩
  replace hS := hS.below hb
  replace hB := bl_step hB hb
  clear hb
  go_wp2_with fail
  refine (law_of _ _ _ _).mono ?_
  rintro e w23 ⟨rfl, hb⟩
  replace hS := hS.below hb
  replace hB := bl_step hB hb
  clear hb
  go_wp2_with fail
  refine (law_of _ _ _ _).mono ?_
  rintro e w24 ⟨rfl, hb⟩
  replace hS := hS.below hb
  replace hB := bl_step hB hb
  clear hb
  go_wp2_with fail
  refine (races_yes _ _ kn5 (-1) (-1) 0 (accs_new _ _ _ kn5 _ rfl (by decide) rfl) (known_check kn5_ok kn5_check)).mono ?_
  rintro e w25 ⟨rfl, hb⟩
  replace hb := bl_new hb
  replace hS := hS.below hb
  replace hB := bl_step hB hb
  clear hb
  go_wp2_with fail
  have hD := dids_new w25 _ 52 knT 4 rfl (by decide) rfl
  refine (law_of _ _ _ _).mono ?_
  rintro e w26 ⟨rfl, hb⟩
  replace hD := hD.below hb
  replace hb := bl_new hb
  replace hS := hS.below hb
  replace hB := bl_step hB hb
  clear hb
  go_wp2_with fail
  refine (law_of _ _ _ _).mono ?_
  rintro e w27 ⟨rfl, hb⟩
  replace hD := hD.below hb
  replace hS := hS.below hb
  replace hB := bl_step hB hb
  clear hb
  go_wp2_with fail
  refine (law_of _ _ _ _).mono ?_
  rintro e w28 ⟨rfl, hb⟩
  replace hD := hD.below hb
  replace hS := hS.below hb
  replace hB := bl_step hB hb
  clear hb
  go_wp2_with fail
  refine (law_of _ _ _ _).mono ?_
  rintro e w29 ⟨rfl, hb⟩
  replace hD := hD.below hb
  replace hS := hS.below hb
  replace hB := bl_step hB hb
  clear hb
  go_wp2_with fail
  refine (law_of _ _ _ _).mono ?_
  rintro e w30 ⟨rfl, hb⟩
  replace hD := hD.below hb
  replace hS := hS.below hb
  replace hB := bl_step hB hb
  clear hb
  go_wp2_with fail
  refine (law_of _ _ _ _).mono ?_
  rintro e w31 ⟨rfl, hb⟩
  replace hD := hD.below hb
  replace hS := hS.below hb
  replace hB := bl_step hB hb
  clear hb
  go_wp2_with fail
  refine (accesses_yes _ _ _ knT knA 2 0 (hD.below ((Below.refl _ _).alloc (Nat.le_refl _) _)) knT_one (fun w' h => HT.out w' (bl_step hB (bl_new h))) (accs_new _ _ _ knA _ rfl (by decide) rfl) knT_of).mono ?_
  rintro e w32 ⟨rfl, hb⟩
  replace hb := bl_new hb
  clear hD
  replace hS := hS.below hb
  replace hB := bl_step hB hb
  clear hb
  go_wp2_with fail
  refine (ordered_yes _ _ kn2 0 3 true 0 hS known_ord1).mono ?_
  rintro e w33 ⟨rfl, hb⟩
  replace hS := hS.below hb
  replace hB := bl_step hB hb
  clear hb
  go_wp2_with fail
  refine (ordered_yes _ _ kn2 3 0 false 0 hS known_ord2).mono ?_
  rintro e w34 ⟨rfl, hb⟩
  replace hS := hS.below hb
  replace hB := bl_step hB hb
  clear hb
  go_wp2_with fail
  refine (ordered_yes _ _ kn2 0 4 false 3 hS known_ord3).mono ?_
  rintro e w35 ⟨rfl, hb⟩
  replace hS := hS.below hb
  replace hB := bl_step hB hb
  clear hb
  go_wp2
  go_ret
  exact ⟨rfl, hB⟩
end Go.Proofs.YtahklchfchjmcaaDoor
