/- The reference's Of. -/
import Derived.Test.YtahklchfchjmcaaDoorSp
import Derived.Deep.MidRow
import Derived.Deep.RegionLaw
import Derived.Deep.RegionWith
namespace Go.Proofs.YtahklchfchjmcaaDoor
set_option linter.unusedVariables false
set_option linter.unusedSimpArgs false
open Go.RowKit Go.MapKept

def RefOf (w w' : World) (l : List Dd) (stripes : Int) (e : Ending) : Prop := ∃ u out er, e = .returned (.tuple #[u, .int .i64 er]) ∧ AccAt w' u out ∧ OfIs l stripes out er ∧ Below w.heap.size w w'
def RoR (w wr : World) (l : List Dd) (stripes : Int) (u6 u7 : Value) : Prop := ∃ k : Nat, k ≤ l.length ∧ u7 = .int .i64 k ∧ okF l stripes k ∧ OwnL wr w.heap.size u6 (accF l k) ∧ Below w.heap.size w wr

theorem sl_news {w : World} {b o n c : Nat} {L : List Acc} (h : AccAt w (.slice (some ⟨b, o, none⟩) n c) L) : ∀ j u, (L.flatMap Acc.cells)[j]? = some u → w.cell? ((⟨b, o, none⟩ : Addr).add j) = some u := by
  intro j u hu
  have hj : j < (L.flatMap Acc.cells).length := (List.getElem?_eq_some_iff.1 hu).1
  rw [flat_len] at hj
  have hi : j / 3 < L.length := by omega
  have hr : j % 3 < (Acc.cells L[j / 3]).length := by show j % 3 < 3; omega
  have h1 := flat_at Acc.cells 3 (fun _ => rfl) L (j / 3) (j % 3) hi _ (List.getElem?_eq_getElem hr)
  rw [show j / 3 * 3 + j % 3 = j by omega, hu] at h1
  obtain ⟨b', o', e, hc⟩ := h.elem hi
  injection e with e
  injection e with e1 e2
  subst e1; subst e2
  have h2 := hc (j % 3) _ (List.getElem?_eq_getElem hr)
  rw [Addr.add_mid, show o + j = o + j / 3 * 3 + j % 3 by omega, h2]
  exact h1.symm ▸ rfl
theorem own_two {w : World} {B : Nat} {v : Value} {L T : List Acc} (h : w.ownsRow B 55 3 v (L.length + T.length) (L.flatMap Acc.cells ++ T.flatMap Acc.cells)) : OwnL w B v (L ++ T) := by
  unfold OwnL
  rw [List.length_append, List.flatMap_append]
  exact h
theorem step_append_sl {P : Program} (w : World) {ops : Array Oper} {o : Oper} {a : Act} {K : Act → World → Prop} {Q : Exit → Act → World → Prop} {E : Prop} (hgd : o.guard = none) (s x : Operand) (t : TypeId)
    (ho : o.op = .call { callee := .builtin .append, args := #[s, x], argTypes := #[t, t] })
    (base : Nat) (i : TypeInfo) (ht : P.underlying t = some (.slice 55)) (hi : P.info? 55 = some i) (hz : i.zero = some (.agg #[.int .i64 0, .int .i64 0, .string ⟨#[]⟩])) (hs3 : i.size = 3) (hby : i.bytes = 32)
    (v : Value) (L : List Acc) (hs : a.eval s = v) (hown : OwnL w base v L) (A : Option Addr) (T : List Acc) (c : Nat) (hx : a.eval x = .slice A T.length c) (hacc : AccAt w (.slice A T.length c) T)
    (hsum : L.length + T.length ≤ 100000) (hbase : base ≤ w.heap.size)
    (h : ∀ v' w', OwnL w' base v' (L ++ T) → w.grownBy w' v.ownBlock → K (a.put o.dst v') w') : if Region.wanted o (yielded ops a.tmps) = true then Oper.wp P o a w K Q else E := by
  rcases Nat.eq_zero_or_pos T.length with h0 | h0
  · obtain rfl : T = [] := List.eq_nil_of_length_eq_zero h0
    exact step_append_empty w hgd s x t ho base 55 i 3 ht hi v L.length (L.flatMap Acc.cells) hs hown A c hx (h v w (by rw [List.append_nil]; exact hown) ⟨rfl, rfl, rfl, Nat.le_refl _, fun _ _ _ => rfl⟩)
  · have hA := hacc
    obtain ⟨A', c', e, _, _, hc⟩ := hacc
    obtain ⟨b, off, rfl, _⟩ := hc h0
    injection e with e1 e2 e3
    subst e1
    exact step_append_lies w hgd s x t ho base 55 i _ 3 32 ht hi hz hs3 hby rfl (by omega) v L.length (L.flatMap Acc.cells) hs hown ⟨b, off, none⟩ T.length c (T.flatMap Acc.cells) hx (flat_len T) (sl_news hA) (ones_accs T) h0 (by unfold maxLen; omega) (by omega) hbase _ rfl (fun g cap w' h1 h2 _ _ => h _ w' (own_two h1) h2)
theorem exec_load {P : Program} {o : Oper} (a : Act) (t : TypeId) (x : Operand) (ho : o.op = Op.load t x) (p v : Value) (hx : a.eval x = p) (w : World) (hrun : (Instr.loadAt t p).run P w = .ok v w) : (execOp a.eval o).run P w = .ok (.value v) w := by
  simp [execOp, ho, hx, hrun, Result.andThen]
theorem step_rng {bf : List Dd} {d : Dd} {s : Int} (h : okStep bf d s = true) (hs : s ≤ 1024) : d.step = 2 ∨ d.step = 5 → 0 ≤ d.stripe ∧ d.stripe ≤ 9999 := by
  intro h2
  unfold okStep at h
  simp only [Bool.and_eq_true, decide_eq_true_eq] at h
  obtain ⟨_, h3⟩ := h
  rcases h2 with h2 | h2
  · rw [if_pos h2] at h3
    simp only [Bool.and_eq_true, decide_eq_true_eq] at h3
    omega
  · rw [if_neg (by rw [h2]; decide), if_pos h2] at h3
    simp only [Bool.and_eq_true, decide_eq_true_eq] at h3
    omega

set_option maxRecDepth 100000 in
set_option maxHeartbeats 4000000 in
theorem refof_any (w : World) (v : Value) (l : List Dd) (hl : DdAt w v l) (hone : ∀ d ∈ l, d.One) (hlen : l.length ≤ 120) (stripes : Int) :
    Calls Tryd.prog 15 #[v, .int .i64 stripes] w fun e w' => RefOf w w' l stripes e := by
  have HL := Lib.hid hl
  obtain ⟨A, cap, rfl, hcap, hcm, _⟩ := hl
  have hlong' : decide ((4096 : Int) < (l.length : Int)) = false := decide_eq_false (by omega)
  have HLong := Lib.hid (show ¬ 4096 < l.length by omega)
  by_cases hs1 : stripes < 1
  · have HS := Lib.hid hs1
    go_enter Tryd.func15, Tryd.ntmps15
    go_wp2
    go_ret2
    exact ⟨_, [], 2, rfl, SlAt.nil 0 none (by omega), by unfold OfIs; rw [if_neg HLong.out, if_pos (.inl HS.out)]; exact ⟨rfl, rfl⟩, Below.refl _ _⟩
  · by_cases hs2 : 1024 < stripes
    · have HS := Lib.hid hs2
      go_enter Tryd.func15, Tryd.ntmps15
      go_wp2
      go_ret2
      exact ⟨_, [], 2, rfl, SlAt.nil 0 none (by omega), by unfold OfIs; rw [if_neg HLong.out, if_pos (.inr HS.out)]; exact ⟨rfl, rfl⟩, Below.refl _ _⟩
    · have HS := Lib.hid (show ¬ (stripes < 1 ∨ 1024 < stripes) by omega)
      have hs3 : stripes ≤ 1024 := by omega
      obtain ⟨ia, hi0, hi1, hi2, hi3⟩ := info_parts info_access
      go_enter Tryd.func15, Tryd.ntmps15
      go_wp2
      go_loopw [6, 7] (fun u6 u7 wr => RoR w wr l stripes u6 u7) (fun _ u7 _ => l.length - (intOf u7).toNat)
      case atStart => exact ⟨0, Nat.zero_le _, rfl, fun i d h => absurd h (by omega), ⟨rfl, .inl ⟨rfl, rfl⟩⟩, Below.refl _ _⟩
      case round =>
        obtain ⟨k, hk, rfl, hok, hown, hb⟩ := hrel
        by_cases hlt : k < l.length
        · obtain ⟨bb, off, rfl, hcs⟩ := HL.out.elem hlt
          have hd : l[k]? = some l[k] := List.getElem?_eq_getElem hlt
          have hkk : (k : Int) ≤ l.length := by omega
          have hkl : (k : Int) < l.length := by omega
          have htk := SlAt.take HL.out (Nat.le_of_lt hlt)
          have hgood := fun t => (held_good (Nat.le_of_lt hlt) hok t).2
          have hone' := hone l[k] (List.getElem_mem hlt)
          have hacc := accF_succ hd
          have hal := acc_len (Nat.le_of_lt hlt)
          have hsl := step_len (l.take k) l[k]
          have hhl := heldF_len (l.take k) (l[k]).task
          have htl : (l.take k).length ≤ 120 := by rw [List.length_take]; omega
          generalize hdk : l[k] = d at *
          have hmul : k * (l.length + 2) ≤ 120 * 122 := Nat.mul_le_mul (by omega) (by omega)
          have hLl : (accF l k).length ≤ 20000 := by omega
          have hSl : (stepF (l.take k) d).length ≤ 200 := by omega
          have hload : ∀ n, (Instr.loadAt 52 (.pointer (some ⟨bb, off + k * 18, none⟩))).run Tryd.prog (wr.drewN n) = .ok (.agg d.arr) (wr.drewN n) := fun n =>
            run_load_did (wr.drewN n) bb (off + k * 18) d (fun j u hu => cell_below (bl_drewN hb n) (hcs j u hu))
          have HLo := Lib.hid hload
          have HX := Lib.hid (And.intro hok (And.intro hown (And.intro hb (And.intro hcs (And.intro htk (And.intro hgood (And.intro hacc (And.intro hd (And.intro hLl hSl)))))))))
          clear hok hown hb hcs htk hgood hacc hd hload hal hsl hhl hdk hone'
          have hkc : (k : Int) ≤ cap := by omega
          have hright : ∀ Wb, Below wr.heap.size wr Wb → Calls Tryd.prog 40 #[.slice (some ⟨bb, off, none⟩) k cap, .agg d.arr, .int .i64 stripes] Wb fun e w' => RightOut Wb w' (okStep (l.take k) d stripes) e :=
            fun Wb hbb => right_any Wb _ (l.take k) (HX.out.2.2.2.2.1.below (bl_step HX.out.2.2.1 hbb)) (by omega) d stripes
          have hbe : ∃ b, b = okStep (l.take k) d stripes := ⟨_, rfl⟩
          obtain ⟨b, hbe⟩ := hbe
          rw [← hbe] at hright
          have HR := Lib.hid hright
          have HK := Lib.hid hbe
          clear hright hbe
          go_wp2_with fail
          refine wp_region_held_drew (S := fun w' : World => w'.rangeAt bb (off + k * 18) d.cells) (by kernel_rfl) (fun j u hu => cell_below HX.out.2.2.1 (HX.out.2.2.2.1 j u hu)) (fun hHeld => ?_)
          refine wpAnyH_take (i := 0) (v := .slice (some ⟨bb, off, none⟩) l.length cap) rfl (by kernel_rfl) (by kernel_rfl) (by kernel_rfl) (fun _ _ _ h => h) (Or.inl ⟨by rfl, fun w' h' => by go_simp⟩) hHeld ?_
          try simp only [Act.put, List.getElem_toArray, List.getElem_cons_succ, List.getElem_cons_zero, List.setIfInBounds_toArray, List.set_cons_zero, List.set_cons_succ]
          refine wpAnyH_take (i := 1) (v := .int .i64 k) rfl (by kernel_rfl) (by kernel_rfl) (by kernel_rfl) (fun _ _ _ h => h) (Or.inl ⟨by rfl, fun w' h' => by go_simp⟩) hHeld ?_
          try simp only [Act.put, List.getElem_toArray, List.getElem_cons_succ, List.getElem_cons_zero, List.setIfInBounds_toArray, List.set_cons_zero, List.set_cons_succ]
          refine wpAnyH_take (i := 2) (v := .slice (some ⟨bb, off, none⟩) k cap) rfl (by kernel_rfl) (by kernel_rfl) (by kernel_rfl) (fun _ _ _ h => h) (Or.inl ⟨by rfl, fun w' h' => by go_simp⟩) hHeld ?_
          try simp only [Act.put, List.getElem_toArray, List.getElem_cons_succ, List.getElem_cons_zero, List.setIfInBounds_toArray, List.set_cons_zero, List.set_cons_succ]
          refine wpAnyH_take (i := 3) (v := .slice (some ⟨bb, off, none⟩) l.length cap) rfl (by kernel_rfl) (by kernel_rfl) (by kernel_rfl) (fun _ _ _ h => h) (Or.inl ⟨by rfl, fun w' h' => by go_simp⟩) hHeld ?_
          try simp only [Act.put, List.getElem_toArray, List.getElem_cons_succ, List.getElem_cons_zero, List.setIfInBounds_toArray, List.set_cons_zero, List.set_cons_succ]
          refine wpAnyH_take (i := 4) (v := .int .i64 k) rfl (by kernel_rfl) (by kernel_rfl) (by kernel_rfl) (fun _ _ _ h => h) (Or.inl ⟨by rfl, fun w' h' => by go_simp⟩) hHeld ?_
          try simp only [Act.put, List.getElem_toArray, List.getElem_cons_succ, List.getElem_cons_zero, List.setIfInBounds_toArray, List.set_cons_zero, List.set_cons_succ]
          refine wpAnyH_take (i := 5) (v := .pointer (some ⟨bb, off + k * 18, none⟩)) rfl (by kernel_rfl) (by kernel_rfl) (by kernel_rfl) (fun _ _ _ h => h) (Or.inl ⟨by rfl, fun w' h' => by go_simp⟩) hHeld ?_
          try simp only [Act.put, List.getElem_toArray, List.getElem_cons_succ, List.getElem_cons_zero, List.setIfInBounds_toArray, List.set_cons_zero, List.set_cons_succ]
          refine wpAnyH_take (i := 6) (v := .agg d.arr) rfl (by kernel_rfl) (by kernel_rfl) (by kernel_rfl) (fun _ _ _ h => h) (Or.inl ⟨by rfl, fun w' h' => exec_load _ 52 (.tmp 28) rfl (.pointer (some ⟨bb, off + k * 18, none⟩)) _ rfl w' (run_load_did w' bb (off + k * 18) d h')⟩) hHeld ?_
          try simp only [Act.put, List.getElem_toArray, List.getElem_cons_succ, List.getElem_cons_zero, List.setIfInBounds_toArray, List.set_cons_zero, List.set_cons_succ]
          refine wpAnyH_take (i := 7) (v := .int .i64 stripes) rfl (by kernel_rfl) (by kernel_rfl) (by kernel_rfl) (fun _ _ _ h => h) (Or.inl ⟨by rfl, fun w' h' => by go_simp⟩) hHeld ?_
          try simp only [Act.put, List.getElem_toArray, List.getElem_cons_succ, List.getElem_cons_zero, List.setIfInBounds_toArray, List.set_cons_zero, List.set_cons_succ]
          refine wpAnyH_ready (rs := [8]) (by kernel_rfl) (by simp) ?_
          refine AllReadyH.cons rfl (fun K hK => ?_) AllReadyH.nil
          go_simp
          refine (HR.out _ (Below.refl _ _).drew).mono ?_
          rintro e w5 ⟨rfl, hb5⟩
          have HBr := Lib.hid (bl_step (w := wr) (Below.refl _ _).drew hb5)
          have HB5 := Lib.hid (bl_step HX.out.2.2.1 HBr.out)
          clear hb5 hHeld
          dsimp only
          refine hK.out _ _ (fun j u hu => cell_below HB5.out (HX.out.2.2.2.1 j u hu)) (fun hHeld => ?_)
          clear hK K
          refine wpAnyH_take (i := 9) (v := .bool (!b)) rfl (by kernel_rfl) (by kernel_rfl) (by kernel_rfl) (fun _ _ _ h => h) (Or.inl ⟨by rfl, fun w' h' => by go_simp⟩) hHeld ?_
          try simp only [Act.put, List.getElem_toArray, List.getElem_cons_succ, List.getElem_cons_zero, List.setIfInBounds_toArray, List.set_cons_zero, List.set_cons_succ]
          refine wpAnyH_done (by kernel_rfl) ?_ _
          clear hHeld
          cases b
          · go_wp2
            go_ret2
            exact ⟨_, [], 2, rfl, SlAt.nil 0 none (by omega), by unfold OfIs; rw [if_neg HLong.out, if_neg HS.out]; exact .inr ⟨(fun h => (by have h9 := h k d hlt HX.out.2.2.2.2.2.2.2.1; rw [← HK.out] at h9; cases h9)), rfl, rfl⟩, HB5.out⟩
          · have hrng := step_rng HK.out.symm hs3
            have hstp : ∀ Wb, Below w5.heap.size w5 Wb → Calls Tryd.prog 41 #[.slice (some ⟨bb, off, none⟩) k cap, .agg d.arr] Wb fun e w' => StepR Wb w' (stepF (l.take k) d) e :=
              fun Wb hbb => stepr_any Wb _ (l.take k) (HX.out.2.2.2.2.1.below (bl_step HB5.out hbb)) (by omega) d hrng (fun s hs => by have h9 := HX.out.2.2.2.2.2.1 d.task s hs; omega)
            have hown5 : OwnL w5 w.heap.size u6 (accF l k) := HX.out.2.1.below HBr.out
            have hacc := HX.out.2.2.2.2.2.2.1
            have hok2 : okF l stripes (k + 1) := by
              intro i e hi he
              by_cases h9 : i = k
              · subst h9
                rw [HX.out.2.2.2.2.2.2.2.1] at he
                cases he
                exact HK.out.symm
              · exact HX.out.1 i e (by omega) he
            have hLl := HX.out.2.2.2.2.2.2.2.2.1
            have hSl := HX.out.2.2.2.2.2.2.2.2.2
            generalize stepF (l.take k) d = T at *
            have HSt := Lib.hid hstp
            have HOk := Lib.hid (And.intro hok2 hacc)
            have HOw := Lib.hid hown5
            clear hstp hok2 hacc hown5 hrng
            go_wp2_with fail
            refine wp_region_held_drew (S := fun w' : World => w'.rangeAt bb (off + k * 18) d.cells) (by kernel_rfl) (fun j u hu => cell_below HB5.out (HX.out.2.2.2.1 j u hu)) (fun hHeld => ?_)
            refine wpAnyH_take (i := 0) (v := u6) rfl (by kernel_rfl) (by kernel_rfl) (by kernel_rfl) (fun _ _ _ h => h) (Or.inl ⟨by rfl, fun w' h' => by go_simp⟩) hHeld ?_
            try simp only [Act.put, List.getElem_toArray, List.getElem_cons_succ, List.getElem_cons_zero, List.setIfInBounds_toArray, List.set_cons_zero, List.set_cons_succ]
            refine wpAnyH_take (i := 1) (v := .slice (some ⟨bb, off, none⟩) l.length cap) rfl (by kernel_rfl) (by kernel_rfl) (by kernel_rfl) (fun _ _ _ h => h) (Or.inl ⟨by rfl, fun w' h' => by go_simp⟩) hHeld ?_
            try simp only [Act.put, List.getElem_toArray, List.getElem_cons_succ, List.getElem_cons_zero, List.setIfInBounds_toArray, List.set_cons_zero, List.set_cons_succ]
            refine wpAnyH_take (i := 2) (v := .int .i64 k) rfl (by kernel_rfl) (by kernel_rfl) (by kernel_rfl) (fun _ _ _ h => h) (Or.inl ⟨by rfl, fun w' h' => by go_simp⟩) hHeld ?_
            try simp only [Act.put, List.getElem_toArray, List.getElem_cons_succ, List.getElem_cons_zero, List.setIfInBounds_toArray, List.set_cons_zero, List.set_cons_succ]
            refine wpAnyH_take (i := 3) (v := .slice (some ⟨bb, off, none⟩) k cap) rfl (by kernel_rfl) (by kernel_rfl) (by kernel_rfl) (fun _ _ _ h => h) (Or.inl ⟨by rfl, fun w' h' => by go_simp⟩) hHeld ?_
            try simp only [Act.put, List.getElem_toArray, List.getElem_cons_succ, List.getElem_cons_zero, List.setIfInBounds_toArray, List.set_cons_zero, List.set_cons_succ]
            refine wpAnyH_take (i := 4) (v := .slice (some ⟨bb, off, none⟩) l.length cap) rfl (by kernel_rfl) (by kernel_rfl) (by kernel_rfl) (fun _ _ _ h => h) (Or.inl ⟨by rfl, fun w' h' => by go_simp⟩) hHeld ?_
            try simp only [Act.put, List.getElem_toArray, List.getElem_cons_succ, List.getElem_cons_zero, List.setIfInBounds_toArray, List.set_cons_zero, List.set_cons_succ]
            refine wpAnyH_take (i := 5) (v := .int .i64 k) rfl (by kernel_rfl) (by kernel_rfl) (by kernel_rfl) (fun _ _ _ h => h) (Or.inl ⟨by rfl, fun w' h' => by go_simp⟩) hHeld ?_
            try simp only [Act.put, List.getElem_toArray, List.getElem_cons_succ, List.getElem_cons_zero, List.setIfInBounds_toArray, List.set_cons_zero, List.set_cons_succ]
            refine wpAnyH_take (i := 6) (v := .pointer (some ⟨bb, off + k * 18, none⟩)) rfl (by kernel_rfl) (by kernel_rfl) (by kernel_rfl) (fun _ _ _ h => h) (Or.inl ⟨by rfl, fun w' h' => by go_simp⟩) hHeld ?_
            try simp only [Act.put, List.getElem_toArray, List.getElem_cons_succ, List.getElem_cons_zero, List.setIfInBounds_toArray, List.set_cons_zero, List.set_cons_succ]
            refine wpAnyH_take (i := 7) (v := .agg d.arr) rfl (by kernel_rfl) (by kernel_rfl) (by kernel_rfl) (fun _ _ _ h => h) (Or.inl ⟨by rfl, fun w' h' => exec_load _ 52 (.tmp 39) rfl (.pointer (some ⟨bb, off + k * 18, none⟩)) _ rfl w' (run_load_did w' bb (off + k * 18) d h')⟩) hHeld ?_
            try simp only [Act.put, List.getElem_toArray, List.getElem_cons_succ, List.getElem_cons_zero, List.setIfInBounds_toArray, List.set_cons_zero, List.set_cons_succ]
            refine wpAnyH_ready (rs := [8]) (by kernel_rfl) (by simp) ?_
            refine AllReadyH.cons rfl (fun K hK => ?_) AllReadyH.nil
            go_simp
            refine (HSt.out _ (Below.refl _ _).drew).mono ?_
            rintro e w6 ⟨u, rfl, hacc6, hb6⟩
            have HB6 := Lib.hid (bl_step HB5.out (bl_step (w := w5) (Below.refl _ _).drew hb6))
            have HOW6 := Lib.hid (own_below HOw.out (bl_step (w := w5) (Below.refl _ _).drew hb6))
            have HA6 := Lib.hid hacc6
            obtain ⟨A6, c6, rfl, _⟩ := hacc6
            have hz6 := HB6.out.size
            clear hb6 hHeld
            dsimp only
            refine hK.out _ _ (fun j u hu => cell_below HB6.out (HX.out.2.2.2.1 j u hu)) (fun hHeld => ?_)
            clear hK K
            refine wpAnyH_ready (rs := [9]) (by kernel_rfl) (by simp) ?_
            refine AllReadyH.cons rfl (fun K hK => ?_) AllReadyH.nil
            refine step_append_sl _ (by rfl) (.tmp 33) (.tmp 41) _ (by rfl) w.heap.size ia Tryd.underlying24 hi0 hi1 hi2 hi3 u6 (accF l k) (by rfl) (by exact HOW6.out) A6 T c6 (by rfl) (by exact HA6.out) (by omega) hz6 ?_
            intro v7 w7 hown1 hgrow
            have HG := Lib.hid (And.intro hown1 (Below.grown HB6.out hgrow hz6 (fun g hg => (own_block HOW6.out hg).1)))
            clear hown1 hgrow hHeld
            try simp only [Act.put, List.getElem_toArray, List.getElem_cons_succ, List.getElem_cons_zero, List.setIfInBounds_toArray, List.set_cons_zero, List.set_cons_succ]
            refine hK.out _ _ (fun j u hu => cell_below HG.out.2 (HX.out.2.2.2.1 j u hu)) (fun hHeld => ?_)
            clear hK K
            refine wpAnyH_take (i := 10) (v := v7) rfl (by kernel_rfl) (by kernel_rfl) (by kernel_rfl) (fun _ _ _ h => h) (Or.inl ⟨by rfl, fun w' h' => by go_simp⟩) hHeld ?_
            try simp only [Act.put, List.getElem_toArray, List.getElem_cons_succ, List.getElem_cons_zero, List.setIfInBounds_toArray, List.set_cons_zero, List.set_cons_succ]
            refine wpAnyH_done (by kernel_rfl) ?_ _
            clear hHeld
            go_wp2
            go_roundw
            case rel => exact ⟨k + 1, by omega, by go_num, HOk.out.1, by rw [HOk.out.2]; exact HG.out.1, HG.out.2⟩
            case measure => simp [intOf]; omega
        · obtain rfl : k = l.length := by omega
          have HX := Lib.hid (And.intro hok (And.intro hown hb))
          clear hok hown hb
          go_wp2
          go_ret2
          exact ⟨_, accF l l.length, 0, rfl, slAt_of_own (fun _ => rfl) HX.out.2.1, by unfold OfIs; rw [if_neg HLong.out, if_neg HS.out]; exact .inl ⟨HX.out.1, rfl, rfl⟩, HX.out.2.2⟩
end Go.Proofs.YtahklchfchjmcaaDoor
