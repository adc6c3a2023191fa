/- slices.Sorted(maps.Keys(m)) at strings, by the shelf's contracts. -/
import Derived.Test.YtolfflaenjcpcaaGreatDoorAn
import Derived.Test.YtolfflaenjcpcaaGreatDoorAxk
import Derived.Test.YtolfflaenjcpcaaGreatDoorIu
set_option linter.unusedVariables false
set_option linter.unusedSimpArgs false
namespace Go.Proofs.YtolfflaenjcpcaaGreatDoor
open Go.RowKit Go.Maps Go.Sort Go.Shelf
theorem sortsS (m : Nat) : AnyZ.SortsIn Tryz.prog Tryz.sortedS_ren Fence.wide m :=
  ⟨fun blk off cap ss W hH hblk hsz => callsIn_wide.2 (AnyM.slices_Sort_string Tryz.sortS blk off cap ss W hH hblk hsz),
   fun p cap W => callsIn_wide.2 (AnyM.slices_Sort_string_none Tryz.sortS p cap W)⟩
theorem sorted_keysS {H : Type} (bm b nn : Nat) (D0 : DataW H) (R : Value → Option (DataW H × List MemPlace)) (w : World) (hbm : w.cell? ⟨bm, 0, none⟩ = some (.map (some b))) (hown : w.ownsMap Tryz.prog (Tryz.keysS_ren.t 26) R b nn D0) (hmax : Maps.size D0 ≤ maxLen) (hbytes : Maps.size D0 * 16 ≤ 140737488355328) :
    Calls Tryz.prog 199 #[.func (.func 262) #[] #[.pointer (some ⟨bm, 0, none⟩)]] w fun e w' => ∃ (v : Value) (ss : List (List UInt8)), e = .returned v ∧ ss.Perm (strKeys D0) ∧
      w'.ownsRow w.heap.size (Tryz.sortedS_ren.t 26) 1 v ss.length ((ss.mergeSort (fun x y => decide (x ≤ y))).map encStr) ∧ (v = .slice none 0 0 ↔ ss = []) ∧ Below w.heap.size w w' := by
  refine (callsIn_wide (n := 5)).1 ?_
  have hlt : bm < w.heap.size := by
    unfold World.cell? at hbm
    cases h : w.heap[bm]? with
    | none => simp [h] at hbm
    | some o => exact (Array.getElem?_eq_some_iff.1 h).1
  have hseq : SeqGives Fence.wide 2 Tryz.prog 262 #[.pointer (some ⟨bm, 0, none⟩)] encStr (fun ss => ss.Perm (strKeys D0)) (Maps.size D0) w :=
    AnyZ.keys_gives (ρ := Tryz.keysS_ren) { Tryz.keysS with } Fence.wide _ trivial rfl (by omega) bm b nn D0 w hlt hbm hown
  exact AnyZ.sorted_in Tryz.sortedS Fence.wide 5 trivial trivial trivial trivial rfl (by omega) (sortsS _) (enters_of Tryz.func185 (by kernel_rfl) rfl) 262 #[.pointer (some ⟨bm, 0, none⟩)] trivial (enters_of Tryz.func262 (by kernel_rfl) rfl) _ _ hmax hbytes w hseq
theorem sum_sortedS {E : Ax.Ev} {w : World} {lo : Nat} {σ : Ax.St} {args args' : List Value} {v : Value} {σ' : Ax.St} (hI : Ax.Inv E σ gv.ng w) (hlo : lo ≤ σ.nx) (hq : Ax.sumS 262 σ args = some (v, σ')) (ha : Ax.VRs E args args') :
    Calls Tryz.prog 199 ⟨args'⟩ w fun e w' => ∃ v' E', e = .returned v' ∧ Ax.VR E' v v' ∧ Ax.Inv E' σ' gv.ng w' ∧ Ax.Stp E lo σ.nx w E' w' ∧ Ax.AStp lo σ σ' := by
  unfold Ax.sumS at hq
  split at hq
  · rename_i f i
    cases ha with
    | cons _ _ _ _ h1 h2 =>
      cases h2
      cases h1 with
      | fn _ _ _ a' b' hfa hfb =>
        cases hfa
        cases hfb with
        | cons _ p' _ _ hp hn =>
          cases hn
          cases hp with
          | ptr _ b nb _ hb =>
            split at hq
            · rename_i r hf hr
              have hf := Nat.eq_of_beq_eq_true hf
              subst hf
              obtain ⟨cs', c1, c2, c3⟩ := Ax.rd_sound hI.heap hb hr
              cases c1 with
              | cons _ u _ _ hu hnil =>
                cases hnil
                cases hu with
                | mp _ rb rn hrb =>
                  have hcell := c3 0 _ rfl
                  split at hq
                  · rename_i es c hes
                    simp only [Option.bind_eq_some_iff] at hq
                    obtain ⟨ks, k1, hq⟩ := hq
                    split at hq
                    · rename_i k2 k3
                      split at hq
                      · rename_i n l hlen hsort
                        injection hq with hq
                        injection hq with e1 e2
                        subst e1; subst e2
                        obtain ⟨rb', rn', es', d1, d2, d3⟩ := hI.heap r _ hes
                        rw [hrb] at d1
                        injection d1 with d1; injection d1 with d1 _
                        subst d1
                        have hlen : ks.length ≤ 4294967296 := by simpa using hlen
                        obtain ⟨D0, o1, o2, o3⟩ := Ax.ownsS_of (P := Tryz.prog) (k := Tryz.keysS_ren.t 26) Tryz.keysS.t26 d2 d3 k1 k2 k3 hlen
                        have hm : ks.length ≤ maxLen := Nat.le_trans hlen (by decide)
                        refine (sorted_keysS b rb ks.length D0 _ w hcell o1 (by rw [o2]; exact hm) (by rw [o2]; omega)).mono ?_
                        rintro e w' ⟨v', ss, rfl, hp, hr, _, hbl⟩
                        obtain ⟨E', g1, g2⟩ := Ax.sortedS_post hI hlo (hp.trans o3) hsort hr hbl
                        exact ⟨v', E', rfl, g1, g2⟩
                      · cases hq
                    · cases hq
                  · cases hq
            · cases hq
  · cases hq
theorem memo_sumS {m : Ax.Memo} (hst : Ax.memoOk 1000 gv.ng m = true) (hr : ∀ n, Ax.memoRun (Ax.sumS 262 (m.st n) m.args) m = true) : MemoDone 199 m :=
  fun E w lo σ args args' v σ' h1 h2 h3 h4 => Ax.memo_frame (G := gv) hst (fun n E w args' hI ha => by
    have h := hr n
    unfold Ax.memoRun at h
    split at h
    · rename_i v σ' hc
      simp only [Bool.and_eq_true] at h
      have hv := Ax.eqV_sound h.1
      rw [hv] at hc
      refine (sum_sortedS hI (Ax.memoOk_spec hst).bn hc ha).mono ?_
      rintro e w' ⟨v', E', rfl, g1, g2, g3, _⟩
      exact ⟨v', E', σ', rfl, g1, g2, Nat.eq_of_beq_eq_true h.2.1, fun i o => Ax.hasLive_sound h.2.2 i o, g3⟩
    · cases h) h1 h2 h3 h4
end Go.Proofs.YtolfflaenjcpcaaGreatDoor
