/- Slices of strings that a function fills itself, and their order (printed by wip/genEr.py). -/
import Derived.Test.YtmocoiamhphhnaaGreatDoorEq
import Derived.Deep.AppendLies
import Derived.Deep.RegionHeld3
import Derived.Sort.OwnSorted
namespace Go.Proofs.YtmocoiamhphhnaaGreatDoor
set_option linter.unusedVariables false
set_option linter.unusedSimpArgs false
open Go.RowKit Go.MapKept

theorem nown_keep {w w' : World} {B e sz n : Nat} {v : Value} {xs : List Value} (h : w.ownsRow B e sz v n xs) (hk : ∀ g, v.ownBlock = some g → w'.heap[g]? = w.heap[g]?) : w'.ownsRow B e sz v n xs := by
  refine ⟨h.1, ?_⟩
  rcases h.2 with h0 | ⟨g, cap, cur, rfl, hg, hb, r⟩
  · exact .inl h0
  · exact .inr ⟨g, cap, cur, rfl, hg, (hk g rfl).trans hb, r⟩
theorem nown_block {w : World} {B e sz n : Nat} {v : Value} {xs : List Value} (h : w.ownsRow B e sz v n xs) {g : Nat} (hg : v.ownBlock = some g) : B ≤ g ∧ g < w.heap.size := by
  rcases h.2 with ⟨rfl, _⟩ | ⟨g', cap, cur, rfl, hg', hb, r⟩
  · cases hg
  · have : g' = g := by simpa [Value.ownBlock] using hg
    subst this
    exact ⟨hg', (Array.getElem?_eq_some_iff.1 hb).1⟩
theorem nown_below {w w' : World} {B e sz n : Nat} {v : Value} {xs : List Value} (h : w.ownsRow B e sz v n xs) (hb : Below w.heap.size w w') : w'.ownsRow B e sz v n xs :=
  nown_keep h fun g hg => hb.block g (nown_block h hg).2
theorem nown_new (W : World) (c : Array Value) (e sz n B : Nat) (hc : c.toList.length = n * sz) (hn : n ≤ 1000) (hB : B ≤ W.heap.size) :
    (W.alloc (.cells c e)).ownsRow B e sz (.slice (some ⟨W.heap.size, 0, none⟩) n n) n c.toList := by
  refine ⟨hc, .inr ⟨W.heap.size, n, c, rfl, hB, heap_alloc_new W _, Nat.le_refl _, by unfold maxLen; omega, by simpa using hc, ?_⟩⟩
  rw [← hc, List.take_length]
theorem nown_none (w : World) (B e sz : Nat) : w.ownsRow B e sz (.slice none 0 0) 0 [] := ⟨by simp, .inl ⟨rfl, rfl⟩⟩
theorem nown_grown {w w1 w6 : World} {B e sz n : Nat} {v : Value} {xs : List Value} (h : w1.ownsRow B e sz v n xs) (hb : Below B w w1) (hB : B ≤ w1.heap.size) (hg : w1.grownBy w6 v.ownBlock) : Below B w w6 :=
  hb.grown hg hB fun k hk => (nown_block h hk).1
theorem nown_cell {w : World} {B e n : Nat} {v : Value} {xs : List Value} (h : w.ownsRow B e 1 v n xs) (hn : 0 < n) : ∃ g cap, v = .slice (some ⟨g, 0, none⟩) n cap ∧ n ≤ cap ∧ g < w.heap.size ∧ ∀ j u, xs[j]? = some u → w.cell? ⟨g, j, none⟩ = some u := by
  rcases h.2 with ⟨_, h0⟩ | ⟨g, cap, cur, hv, hb, hg, hc, hm, hs, ht⟩
  · omega
  · refine ⟨g, cap, hv, hc, (Array.getElem?_eq_some_iff.1 hg).1, fun j u hu => ?_⟩
    unfold World.cell?
    dsimp only
    rw [hg]
    have hj : j < xs.length := (List.getElem?_eq_some_iff.1 hu).1
    rw [← ht, List.getElem?_take] at hu
    split at hu
    · rw [Array.getElem?_toList] at hu
      simpa using hu
    · cases hu
/-- An append whose run is known: at the list of a plain region's operations. -/
theorem wpList_append_eq {P : Program} {w w' : World} {v vx r : Value} {t : TypeId} {ops : Array Oper} {rest : List Oper} {o : Oper} {a : Act} {Q : Exit → Act → World → Prop} (hr : ∀ ty, (Builtin.append_ #[t, t] ty #[v, vx]).run P w = .ok r w')
    (hgd : o.guard = none) (s x : Operand) (ho : o.op = .call { callee := .builtin .append, args := #[s, x], argTypes := #[t, t] }) (hs : a.eval s = v) (hx : a.eval x = vx)
    (h : wpList P ops Q rest (a.put o.dst r) w') : wpList P ops Q (o :: rest) a w := by
  refine wpList_plain hgd fun K hK => ?_
  unfold Oper.wp execOp
  simp only [ho, resolve, invoke, builtin, Sem.run_bind, Sem.run_pure, Result.andThen_ok, List.map_toArray, List.map_cons, List.map_nil, hs, hx, hr]
  exact hK _ _ h

open Go.Sort
abbrev OwnS (w : World) (B : Nat) (v : Value) (l : List (List UInt8)) : Prop := w.ownsRow B 9 1 v l.length (l.map encStr)
theorem info_str : (Tryz.prog.info? 9).map (fun i => (i.zero, i.size, i.bytes)) = some (some (.string ⟨#[]⟩), 1, 16) := by kernel_rfl

/-- A string is laid behind a slice of strings. -/
theorem append_str {w wx : World} {v : Value} {l : List (List UInt8)} (hown : OwnS wx w.heap.size v l) (hb : Below w.heap.size w wx) (hlen : l.length ≤ 1000) (s : ByteArray) (x : List UInt8) (hx : encStr x = .string s) :
    ∃ g cap w', (∀ ty, (Builtin.append_ #[42, 42] ty #[v, .slice (some ⟨wx.heap.size, 0, none⟩) 1 1]).run Tryz.prog (wx.alloc (.cells #[.string s] 9)) = .ok (.slice (some ⟨g, 0, none⟩) (l.length + 1) cap) w') ∧ OwnS w' w.heap.size (.slice (some ⟨g, 0, none⟩) (l.length + 1) cap) (l ++ [x]) ∧ Below w.heap.size w w' ∧ (∀ p, p < wx.heap.size → some p ≠ v.ownBlock → w'.heap[p]? = wx.heap[p]?) ∧ (v.ownBlock = some g ∨ wx.heap.size < g) := by
  obtain ⟨ii, hi0, hi1, hi2, hi3⟩ := info_parts info_str
  have hba := (Below.refl wx.heap.size wx).alloc (Nat.le_refl _) (.cells #[.string s] 9)
  have hown2 : OwnS (wx.alloc (.cells #[.string s] 9)) w.heap.size v l := nown_below hown hba
  have hs1 := hb.size
  have hs2 := hba.size
  obtain ⟨g, cap, w', hr, h2, h3, h4, h5⟩ := run_append_lies (P := Tryz.prog) (w := wx.alloc (.cells #[.string s] 9)) 42 0 w.heap.size 9 ii _ 1 16 (by kernel_rfl) hi0 hi1 hi2 hi3 rfl (by omega) v l.length (l.map encStr) hown2 ⟨wx.heap.size, 0, none⟩ 1 1 [.string s] rfl
    (World.news_of_block (cs := #[.string s]) (t := 9) (fr := (0, 0)) (heap_alloc_new wx _)) (by simp [Value.oneCell']) (by omega) (by unfold maxLen; omega) (by omega) (by omega) _ rfl
  refine ⟨g, cap, w', fun ty => hr, ?_, nown_grown hown2 (hb.trans (hba.mono hs1)) (by omega) h3, fun p hp hne => ?_, h4.imp id fun h => by rw [h]; simp⟩
  · have e : (l ++ [x]).length = l.length + 1 := by simp
    unfold OwnS
    rw [e, List.map_append]
    have e2 : [x].map encStr = [.string s] := by simp [hx]
    rw [e2]
    exact h2
  · rw [h3.block p (by omega) hne]
    exact Below.heap_alloc wx _ p hp

/-- slices.Sort at such a slice. -/
theorem sort_own (w wr : World) (v : Value) (l : List (List UInt8)) (hown : OwnS wr w.heap.size v l) (hb : Below w.heap.size w wr) (hlen : l.length ≤ 1000) :
    Calls Tryz.prog 47 #[v] wr fun e w' => e = .returned (.tuple #[]) ∧ OwnS w' w.heap.size v (l.mergeSort fun x y => decide (x ≤ y)) ∧ Below w.heap.size w w' := by
  have hown0 := hown
  rcases hown.2 with ⟨rfl, h0⟩ | ⟨g, cap, cur, rfl, hg, hc, h1, h2, h3, h4⟩
  · have : l = [] := List.eq_nil_of_length_eq_zero h0
    subst this
    refine (Tryz.slices_Sort_string_none none 0 wr).mono ?_
    rintro e w' ⟨rfl, hw⟩
    subst hw
    exact ⟨rfl, by simpa using hown0, hb⟩
  · refine (Tryz.slices_Sort_string g 0 cap l wr (holds_of_block hc (by simpa using h4)) (Array.getElem?_eq_some_iff.1 hc).1 (by omega)).mono ?_
    rintro e w' ⟨rfl, n, os, rfl⟩
    have hl : (l.mergeSort fun x y => decide (x ≤ y)).length = l.length := by simp
    refine ⟨rfl, ?_, ?_⟩
    · have h := ownsRow_sorted (w := wr) (n := n) (os := os) hl hg hc h1 h2 h3
      unfold OwnS
      rw [hl]
      exact h
    · exact nown_grown hown0 hb hb.size (grownBy_sorted _)

end Go.Proofs.YtmocoiamhphhnaaGreatDoor

