/- Source.Many. -/
import Derived.Test.YtecnchmcdbcofaaGreatDoorMki
set_option linter.unusedVariables false
set_option linter.unusedSimpArgs false
namespace Go.Proofs.YtecnchmcdbcofaaGreatDoor
open Go.RowKit Go.MapKept
def callsF (c : LC) (s : Int) (n : Nat) : List CV := (List.range n).map fun i => nextF c (statesF s i)
theorem callsF_len (c : LC) (s : Int) (n : Nat) : (callsF c s n).length = n := by simp [callsF]
theorem callsF_succ (c : LC) (s : Int) (n : Nat) : callsF c s (n + 1) = callsF c s n ++ [nextF c (statesF s n)] := by simp [callsF, List.range_succ]
theorem callsF_at (c : LC) (s : Int) {n i : Nat} (h : i < n) : (callsF c s n)[i]? = some (nextF c (statesF s i)) := by simp [callsF, h]
theorem kbut_grown {p : Nat} {a b c : World} {v : Option Nat} (h : Kbut p a b) (hg : b.grownBy c v) (hB : a.heap.size ≤ b.heap.size) (hr : ∀ k, v = some k → a.heap.size ≤ k) : Kbut p a c := by
  have hb : Below a.heap.size b c := Below.grown (Below.refl _ b) hg hB hr
  exact ⟨hb.os.trans h.os, hb.tape.trans h.tape, hb.output.trans h.output, Nat.le_trans h.size hb.size, fun k hk hp => (hb.block k hk).trans (h.block k hk hp)⟩
theorem SrcAt.grown {p : Nat} {b d : World} {c : LC} {s : Int} {B : Nat} (h : SrcAt b p c s) (hb : Below B b d) (hp : p < B) : SrcAt d p c s := by
  have hc : ∀ i, d.cell? ⟨p, i, none⟩ = b.cell? ⟨p, i, none⟩ := fun i => hb.cell (p := ⟨p, i, none⟩) hp
  exact ⟨Nat.lt_of_lt_of_le h.lt hb.size, (hc 0).trans h.c0, (hc 1).trans h.c1, (hc 2).trans h.c2, (hc 3).trans h.c3, (hc 4).trans h.c4, (hb.frozen (p := ⟨p, 4, none⟩) hp).trans h.fz⟩
/-- What Next does at any source of a configuration, in worlds where K holds. -/
def NextOk (p : Nat) (c : LC) (K : World → Prop) : Prop := ∀ W s, K W → SrcAt W p c s → Calls Tryz.prog 22 #[.pointer (some ⟨p, 0, none⟩)] W fun e w' => e = .returned (.tuple #[.agg (nextF c s).arr, .int .i64 0]) ∧ Kbut p W w' ∧ SrcAt w' p c (stateF s)
set_option maxRecDepth 100000 in
set_option maxHeartbeats 1000000 in
theorem many_any (w : World) (p : Nat) (c : LC) (s : Int) (hc : c.Ok) (h : SrcAt w p c s) (hnx : NextOk p c fun W => Kbut p w W) (n : Nat) (hn : n ≤ 20000) :
    Calls Tryz.prog 21 #[.pointer (some ⟨p, 0, none⟩), .int .i64 (n : Int)] w fun e w' => (∃ v, e = .returned (.tuple #[v, .int .i64 0]) ∧ OwnC w' w.heap.size v (callsF c s n)) ∧ Kbut p w w' ∧ SrcAt w' p c (statesF s n) := by
  have HNX : Hid (∀ W s, Kbut p w W → SrcAt W p c s → Calls Tryz.prog 22 #[.pointer (some ⟨p, 0, none⟩)] W fun e w' => e = .returned (.tuple #[.agg (nextF c s).arr, .int .i64 0]) ∧ Kbut p W w' ∧ SrcAt w' p c (stateF s)) := Lib.hid hnx
  have HN := Lib.hid (srcnone_any w p c s hc h)
  have HS := Lib.hid h
  have HP : Hid (p < w.heap.size) := Lib.hid h.lt
  obtain ⟨ic, hi0, hi1, hi2, hi3⟩ := info_parts info_call
  have d1 : decide ((n : Int) < 0) = false := decide_eq_false (by omega)
  have d2 : decide ((20000 : Int) < (n : Int)) = false := decide_eq_false (by omega)
  have HNN := Lib.hid hn
  clear h hnx hn
  go_enter Tryz.func21, Tryz.ntmps21
  go_wp2_with (first | (go_at_call 53; refine HN.out.mono ?_; rintro e w2 ⟨rfl, hw⟩; obtain rfl := hw.symm; clear hw))
  go_loopg [6, 20] n (fun gf u6 u20 wx => ∃ i : Nat, u20 = .int .i64 (i : Int) ∧ i + gf = n ∧ OwnC wx w.heap.size u6 (callsF c s i) ∧ SrcAt wx p c (statesF s i) ∧ Kbut p w wx)
  case atStart => exact ⟨0, rfl, by omega, OwnC.none _ _, HS.out, .refl _ _⟩
  case round =>
    obtain ⟨i, rfl, hi, hO, hS, hk⟩ := hrel
    have HO := Lib.hid hO
    have HSX := Lib.hid hS
    have HKX := Lib.hid hk
    clear hO hS hk
    by_cases hlt : i < n
    · obtain ⟨g', rfl⟩ : ∃ g', gk = g' + 1 := ⟨gk - 1, by omega⟩
      have HC := HNX.out wr _ HKX.out HSX.out
      have HX : Hid (callsF c s (i + 1) = callsF c s i ++ [nextF c (statesF s i)]) := Lib.hid (callsF_succ c s i)
      obtain ⟨x, hx⟩ : ∃ x, nextF c (statesF s i) = x := ⟨_, rfl⟩
      rw [hx] at HC HX
      clear hx
      have HCC := Lib.hid HC
      clear HC
      obtain ⟨o, k, t, j, q⟩ := x
      unfold CV.arr at HCC
      dsimp only at HCC
      have hfin : ∀ w1 : World, Kbut p wr w1 → SrcAt w1 p c (stateF (statesF s i)) →
          ((w1.alloc (.cells #[.int .i64 o, .string k, .string t, .string j, .int .i64 q, .slice none 0 0] 33)).alloc (.cells #[.int .i64 o, .string k, .string t, .string j, .int .i64 q, .slice none 0 0] 33)).ownsRow w.heap.size 33 6 u6 i ((callsF c s i).flatMap CV.cells) ∧ w.heap.size ≤ w1.heap.size ∧
          ∀ gg cap w6, w6.ownsRow w.heap.size 33 6 (.slice (some ⟨gg, 0, none⟩) (i + 1) cap) (i + 1) ((callsF c s i).flatMap CV.cells ++ [.int .i64 o, .string k, .string t, .string j, .int .i64 q, .slice none 0 0]) → ((w1.alloc (.cells #[.int .i64 o, .string k, .string t, .string j, .int .i64 q, .slice none 0 0] 33)).alloc (.cells #[.int .i64 o, .string k, .string t, .string j, .int .i64 q, .slice none 0 0] 33)).grownBy w6 u6.ownBlock →
            OwnC w6 w.heap.size (.slice (some ⟨gg, 0, none⟩) (i + 1) cap) (callsF c s (i + 1)) ∧ SrcAt w6 p c (statesF s (i + 1)) ∧ Kbut p w w6 := fun w1 hk1 hs1 => by
        have hb : Below w1.heap.size w1 ((w1.alloc (.cells #[.int .i64 o, .string k, .string t, .string j, .int .i64 q, .slice none 0 0] 33)).alloc (.cells #[.int .i64 o, .string k, .string t, .string j, .int .i64 q, .slice none 0 0] 33)) := nbl_al (below_alloc _ _)
        have ho : ((w1.alloc (.cells #[.int .i64 o, .string k, .string t, .string j, .int .i64 q, .slice none 0 0] 33)).alloc (.cells #[.int .i64 o, .string k, .string t, .string j, .int .i64 q, .slice none 0 0] 33)).ownsRow w.heap.size 33 6 u6 i ((callsF c s i).flatMap CV.cells) := by
          have := OwnC.below (HO.out.kbut hk1 HP.out) hb
          unfold OwnC at this
          rw [callsF_len] at this
          exact this
        have hk3 : Kbut p w ((w1.alloc (.cells #[.int .i64 o, .string k, .string t, .string j, .int .i64 q, .slice none 0 0] 33)).alloc (.cells #[.int .i64 o, .string k, .string t, .string j, .int .i64 q, .slice none 0 0] 33)) := (HKX.out.trans hk1).step hb
        have hs3 : SrcAt ((w1.alloc (.cells #[.int .i64 o, .string k, .string t, .string j, .int .i64 q, .slice none 0 0] 33)).alloc (.cells #[.int .i64 o, .string k, .string t, .string j, .int .i64 q, .slice none 0 0] 33)) p c (stateF (statesF s i)) := hs1.below hb
        refine ⟨ho, (HKX.out.trans hk1).size, fun gg cap w6 h1 h2 => ?_⟩
        generalize ((w1.alloc (.cells #[.int .i64 o, .string k, .string t, .string j, .int .i64 q, .slice none 0 0] 33)).alloc (.cells #[.int .i64 o, .string k, .string t, .string j, .int .i64 q, .slice none 0 0] 33)) = wz at *
        refine ⟨?_, hs3.grown (Below.grown (Below.refl _ wz) h2 hk3.size fun g hg => (own_block ho hg).1) HP.out, kbut_grown hk3 h2 hk3.size fun g hg => (own_block ho hg).1⟩
        rw [HX.out]
        refine OwnC.snoc ?_
        rw [callsF_len]
        exact h1
      have HFIN := Lib.hid hfin
      clear hfin HX
      go_wp2_with (first | (go_at_call 22; refine HCC.out.mono ?_; rintro e w1 ⟨rfl, hk1, hs1⟩; have HA := Lib.hid (HFIN.out w1 hk1 hs1); clear hk1 hs1) | (at_builtin; refine wpList_append_lies _ rfl (.tmp 30) (.tmp 32) _ rfl w.heap.size 33 ic _ 6 88 Tryz.underlying22 hi0 hi1 hi2 hi3 rfl (by omega) u6 i ((callsF c s i).flatMap CV.cells) rfl HA.out.1 ⟨w1.heap.size + 1, 0, none⟩ 1 1 [.int .i64 o, .string k, .string t, .string j, .int .i64 q, .slice none 0 0] rfl rfl (World.news_of_block (cs := #[.int .i64 o, .string k, .string t, .string j, .int .i64 q, .slice none 0 0]) (t := 33) (fr := (0, 0)) (by rw [← show (w1.alloc (.cells #[.int .i64 o, .string k, .string t, .string j, .int .i64 q, .slice none 0 0] 33)).heap.size = w1.heap.size + 1 from Array.size_push _]; exact heap_alloc_new _ _)) (by simp [Value.oneCell']) (by omega) (by have := HNN.out; simp [maxLen]; omega) (by have := HNN.out; omega) (by have := HA.out.2.1; simp; omega) (w1.heap.size + 2) (by simp) ?_; intro gg cap1 w6 hown1 hgrow hat hlt1; have HG := Lib.hid (HA.out.2.2 gg cap1 w6 hown1 hgrow); clear hown1 hgrow hat hlt1))
      go_roundg g'
      case measure => omega
      case rel => exact ⟨i + 1, by rw [Go.IntWalk.wrap64_in _ ⟨by have := HNN.out; omega, by have := HNN.out; omega⟩]; rfl, by omega, HG.out.1, HG.out.2.1, HG.out.2.2⟩
    · have e : i = n := by omega
      subst e
      go_wp2_with fail
      go_ret2
      exact ⟨⟨_, rfl, HO.out⟩, HKX.out, HSX.out⟩
end Go.Proofs.YtecnchmcdbcofaaGreatDoor
