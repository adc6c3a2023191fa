/- net.New and the reference's, where there is a net. -/
import Derived.Test.YthfleaogajbpfaaGreatDoorNna
import Derived.Deep.AppendLies
set_option linter.unusedVariables false
set_option linter.unusedSimpArgs false
namespace Go.Proofs.YthfleaogajbpfaaGreatDoor
open Go.RowKit Go.MapKept
def okP (s i o : Int) : Bool := okT s && (okI i && okO o)
theorem okN_at {s i o : Int} (h : okP s i o = true) {k : Nat} (hk : k < 16) : okN ((k : Int) + 1) s i o = true := by
  have hr : okR ((k : Int) + 1) = true := by
    unfold okR
    rw [decide_eq_true (show (1 : Int) ≤ (k : Int) + 1 by omega), decide_eq_true (show (k : Int) + 1 ≤ 65535 by omega)]
    rfl
  unfold okP at h
  unfold okN
  rw [hr, Bool.true_and]
  exact h
theorem okN_not {s i o : Int} (h : okP s i o = false) (r : Int) : okN r s i o = false := by
  unfold okP at h
  unfold okN
  revert h
  cases okT s <;> cases okR r <;> cases okI i <;> cases okO o <;> simp
def ptrV (p : Nat) : Value := .pointer (some ⟨p, 0, none⟩)
theorem own_keep {w w' : World} {B e sz n : Nat} {v : Value} {xs : List Value} (h : w.ownsRow B e sz v n xs) (hk : ∀ g, v.ownBlock = some g → w'.heap[g]? = w.heap[g]?) : w'.ownsRow B e sz v n xs := by
  refine ⟨h.1, ?_⟩
  rcases h.2 with h0 | ⟨g, cap, cur, rfl, hg, hb, r⟩
  · exact .inl h0
  · exact .inr ⟨g, cap, cur, rfl, hg, (hk g rfl).trans hb, r⟩
theorem own_block {w : World} {B e sz n : Nat} {v : Value} {xs : List Value} (h : w.ownsRow B e sz v n xs) {g : Nat} (hg : v.ownBlock = some g) : B ≤ g ∧ g < w.heap.size := by
  rcases h.2 with ⟨rfl, _⟩ | ⟨g', cap, cur, rfl, hg', hb, r⟩
  · cases hg
  · have : g' = g := by simpa [Value.ownBlock] using hg
    subst this
    exact ⟨hg', (Array.getElem?_eq_some_iff.1 hb).1⟩
/-- A list of nodes that is being made. -/
structure NetI (Q : Nat → Nat → World → Prop) (W : World) (B : Nat) (e : TypeId) (v : Value) (ps : List Nat) : Prop where
  own : W.ownsRow B e 1 v ps.length (ps.map ptrV)
  held : ∀ j p, ps[j]? = some p → Held W v B (Q j p)
theorem NetI.empty (Q : Nat → Nat → World → Prop) (W : World) (B : Nat) (e : TypeId) : NetI Q W B e (.slice none 0 0) [] :=
  ⟨⟨rfl, .inl ⟨rfl, rfl⟩⟩, fun j p h => by simp at h⟩
theorem NetI.keep {Q : Nat → Nat → World → Prop} {W W' : World} {B : Nat} {e : TypeId} {v : Value} {ps : List Nat} (h : NetI Q W B e v ps) (hs : W.heap.size ≤ W'.heap.size) (hk : ∀ j, B ≤ j → j < W.heap.size → W'.heap[j]? = W.heap[j]?) : NetI Q W' B e v ps :=
  ⟨own_keep h.own fun g hg => hk g (own_block h.own hg).1 (own_block h.own hg).2, fun j p hj => (h.held j p hj).step hs (fun j hj1 hj2 _ => hk j hj1 hj2) fun b hb => Or.inl hb⟩
theorem NetI.below {Q : Nat → Nat → World → Prop} {W W' : World} {B : Nat} {e : TypeId} {v : Value} {ps : List Nat} (h : NetI Q W B e v ps) (hb : Below W.heap.size W W') : NetI Q W' B e v ps :=
  h.keep hb.size fun j _ hj => hb.block j hj
theorem NetI.push {Q : Nat → Nat → World → Prop} {W W' : World} {B : Nat} {e : TypeId} {v : Value} {ps : List Nat} {p g cap : Nat} (h : NetI Q W B e v ps) (hq : Held W v B (Q ps.length p)) (ho : W'.ownsRow B e 1 (.slice (some ⟨g, 0, none⟩) (ps.length + 1) cap) (ps.length + 1) (ps.map ptrV ++ [ptrV p])) (hg : W.grownBy W' v.ownBlock) (hat : v.ownBlock = some g ∨ g = W.heap.size) : NetI Q W' B e (.slice (some ⟨g, 0, none⟩) (ps.length + 1) cap) (ps ++ [p]) := by
  have hst : ∀ {R : World → Prop}, Held W v B R → Held W' (.slice (some ⟨g, 0, none⟩) (ps.length + 1) cap) B R := fun hr =>
    hr.step hg.size (fun j _ hj hne => hg.block j hj fun e => hne e.symm) fun b hb => by
      have : g = b := by simpa [Value.ownBlock] using hb
      subst this
      rcases hat with h1 | h1
      · exact Or.inl h1
      · exact Or.inr (Nat.le_of_eq h1.symm)
  refine ⟨?_, fun j q hj => ?_⟩
  · rw [List.length_append, List.map_append]
    exact ho
  · rcases Nat.lt_or_ge j ps.length with hlt | hge
    · rw [List.getElem?_append_left hlt] at hj
      exact hst (h.held j q hj)
    · rw [List.getElem?_append_right hge] at hj
      have hj0 : j = ps.length := by
        have := (List.getElem?_eq_some_iff.1 hj).1
        simp at this
        omega
      subst hj0
      simp at hj
      subst hj
      exact hst hq
theorem heap_set {w : World} {C i : Nat} {cs : Array Value} {t : TypeId} {x : Value} (h : w.heap[C]? = some (.cells cs t (0, 0))) : (w.setCell ⟨C, i, none⟩ x).heap[C]? = some (.cells (cs.setIfInBounds i x) t (0, 0)) := heap_setCell_same w C i cs t x h
theorem heap_setN (w : World) (p : Addr) (v : Value) (n : Nat) (hn : n ≠ p.block) : (w.setCell p v).heap[n]? = w.heap[n]? := Below.heap_setCell _ _ _ _ hn
theorem cell_at {w : World} {C i : Nat} {cs : Array Value} {t : TypeId} (h : w.heap[C]? = some (.cells cs t (0, 0))) : w.cell? ⟨C, i, none⟩ = cs[i]? := by
  unfold World.cell?
  dsimp only
  rw [h]
  rfl
theorem froz_at {w : World} {C i : Nat} {cs : Array Value} {t : TypeId} (h : w.heap[C]? = some (.cells cs t (0, 0))) : w.frozen? ⟨C, i, none⟩ = false := by
  unfold World.frozen?
  dsimp only
  rw [h]
  simp
def nodeQ (S : Nat) (i o : Int) (j p : Nat) (W : World) : Prop := ∃ t g d n u, NodeNew W p t g d n u ((j : Int) + 1) S i o
def refQ (S : Nat) (i o : Int) (j m : Nat) (W : World) : Prop := ∃ tt u, RefNew W m tt u ((j : Int) + 1) S i o
theorem info_np : (Tryz.prog.info? 24).map (fun i => (i.zero, i.size, i.bytes)) = some (some (.pointer none), 1, 8) := by kernel_rfl
theorem info_rp : (Tryz.prog.info? 31).map (fun i => (i.zero, i.size, i.bytes)) = some (some (.pointer none), 1, 8) := by kernel_rfl
/-- What a round leaves. -/
structure netNewR (w w1 : World) (v : Value) (ps : List Nat) (p : Nat) (S : Nat) (i o : Int) : Prop where
  n0 : w1.cell? ⟨w.heap.size + 1, 0, none⟩ = some v
  own : (w1.alloc (.cells #[.pointer (some ⟨p, 0, none⟩)] 24)).ownsRow (w.heap.size + 2) 24 1 v ps.length (ps.map ptrV)
  le : w.heap.size + 2 ≤ w1.heap.size
  next : ∀ gg cap w6, w6.ownsRow (w.heap.size + 2) 24 1 (.slice (some ⟨gg, 0, none⟩) (ps.length + 1) cap) (ps.length + 1) (ps.map ptrV ++ [.pointer (some ⟨p, 0, none⟩)]) → (w1.alloc (.cells #[.pointer (some ⟨p, 0, none⟩)] 24)).grownBy w6 v.ownBlock → (v.ownBlock = some gg ∨ gg = w1.heap.size + 1) →
    w6.cell? ⟨w.heap.size + 1, 0, none⟩ = some v ∧ w6.frozen? ⟨w.heap.size + 1, 0, none⟩ = false ∧ NetI (nodeQ S i o) (w6.setCell ⟨w.heap.size + 1, 0, none⟩ (.slice (some ⟨gg, 0, none⟩) (ps.length + 1) cap)) (w.heap.size + 2) 24 (.slice (some ⟨gg, 0, none⟩) (ps.length + 1) cap) (ps ++ [p]) ∧
    (w6.setCell ⟨w.heap.size + 1, 0, none⟩ (.slice (some ⟨gg, 0, none⟩) (ps.length + 1) cap)).heap[w.heap.size + 1]? = some (.cells #[.slice (some ⟨gg, 0, none⟩) (ps.length + 1) cap, .slice none 0 0] 104 (0, 0)) ∧
    (w6.setCell ⟨w.heap.size + 1, 0, none⟩ (.slice (some ⟨gg, 0, none⟩) (ps.length + 1) cap)).heap[w.heap.size]? = some (.cells #[.int .i64 ((ps.length : Int) + 1), .int .i64 (S : Int), .int .i64 i, .int .i64 o] 23 (0, 0)) ∧
    Below w.heap.size w (w6.setCell ⟨w.heap.size + 1, 0, none⟩ (.slice (some ⟨gg, 0, none⟩) (ps.length + 1) cap))
theorem netNewR.of {w wr w1 : World} {v : Value} {ps : List Nat} {p : Nat} {S : Nat} {i o : Int} {r : Int} (hI : NetI (nodeQ S i o) wr (w.heap.size + 2) 24 v ps) (hN : wr.heap[w.heap.size + 1]? = some (.cells #[v, .slice none 0 0] 104 (0, 0))) (hC : wr.heap[w.heap.size]? = some (.cells #[.int .i64 r, .int .i64 (S : Int), .int .i64 i, .int .i64 o] 23 (0, 0))) (hB : Below w.heap.size w wr)
    (hb : Below (wr.setCell ⟨w.heap.size, 0, none⟩ (.int .i64 ((ps.length : Int) + 1))).heap.size (wr.setCell ⟨w.heap.size, 0, none⟩ (.int .i64 ((ps.length : Int) + 1))) w1) (hq : ∀ W0 : World, W0.heap.size = (wr.setCell ⟨w.heap.size, 0, none⟩ (.int .i64 ((ps.length : Int) + 1))).heap.size → (∀ b, v.ownBlock = some b → b < W0.heap.size) → w.heap.size + 2 ≤ W0.heap.size → Held w1 v (w.heap.size + 2) (nodeQ S i o ps.length p)) : netNewR w w1 v ps p S i o := by
  have hsz : w.heap.size + 1 < wr.heap.size := (Array.getElem?_eq_some_iff.1 hN).1
  have hc0 := heap_set (i := 0) (x := .int .i64 ((ps.length : Int) + 1)) hC
  have hn0 : (wr.setCell ⟨w.heap.size, 0, none⟩ (.int .i64 ((ps.length : Int) + 1))).heap[w.heap.size + 1]? = some (.cells #[v, .slice none 0 0] 104 (0, 0)) := (heap_setN _ _ _ _ (by simp)).trans hN
  have hi0 : NetI (nodeQ S i o) (wr.setCell ⟨w.heap.size, 0, none⟩ (.int .i64 ((ps.length : Int) + 1))) (w.heap.size + 2) 24 v ps := hI.keep (by rw [World.size_setCell]; exact Nat.le_refl _) fun j hj _ => heap_setN _ _ _ _ (by show j ≠ w.heap.size; omega)
  have hb0 : Below w.heap.size w (wr.setCell ⟨w.heap.size, 0, none⟩ (.int .i64 ((ps.length : Int) + 1))) := below_set hB (Nat.le_refl _) _
  have hs0 : (wr.setCell ⟨w.heap.size, 0, none⟩ (.int .i64 ((ps.length : Int) + 1))).heap.size = wr.heap.size := World.size_setCell _ _ _
  generalize wr.setCell ⟨w.heap.size, 0, none⟩ (.int .i64 ((ps.length : Int) + 1)) = wc at *
  have hsz1 : wc.heap.size ≤ w1.heap.size := hb.size
  have hbw : Below w1.heap.size w1 (w1.alloc (.cells #[.pointer (some ⟨p, 0, none⟩)] 24)) := below_alloc _ _
  have hI1 := (hi0.below hb).below hbw
  have hn1 : w1.heap[w.heap.size + 1]? = some (.cells #[v, .slice none 0 0] 104 (0, 0)) := (hb.block _ (by omega)).trans hn0
  refine ⟨cell_at hn1, hI1.own, by omega, fun gg cap w6 ho hg hat => ?_⟩
  have hsa : (w1.alloc (.cells #[.pointer (some ⟨p, 0, none⟩)] 24)).heap.size = w1.heap.size + 1 := Array.size_push _
  have hq1 : Held (w1.alloc (.cells #[.pointer (some ⟨p, 0, none⟩)] 24)) v (w.heap.size + 2) (nodeQ S i o ps.length p) := (hq wc rfl (fun b hb2 => (own_block hi0.own hb2).2) (by omega)).below hbw
  have hne : ∀ k, k < w.heap.size + 2 → some k ≠ v.ownBlock := fun k hk e => by
    have := (own_block hi0.own e.symm).1
    omega
  have hba : Below w.heap.size w (w1.alloc (.cells #[.pointer (some ⟨p, 0, none⟩)] 24)) := nbl_step hb0 (nbl_step hb hbw)
  have hb6 : Below w.heap.size w w6 := Below.grown hba hg hba.size fun k hk => by
    have := (own_block hi0.own hk).1
    omega
  have hna : (w1.alloc (.cells #[.pointer (some ⟨p, 0, none⟩)] 24)).heap[w.heap.size + 1]? = some (.cells #[v, .slice none 0 0] 104 (0, 0)) := (hbw.block _ (by omega)).trans hn1
  have hca : (w1.alloc (.cells #[.pointer (some ⟨p, 0, none⟩)] 24)).heap[w.heap.size]? = _ := (hbw.block _ (by omega)).trans ((hb.block _ (by omega)).trans hc0)
  have hI6 := hI1.push hq1 ho hg (by rw [hsa]; exact hat)
  have hn6 : w6.heap[w.heap.size + 1]? = some (.cells #[v, .slice none 0 0] 104 (0, 0)) := (hg.block _ (by omega) (hne _ (by omega))).trans hna
  have hc6 := (hg.block w.heap.size (by omega) (hne _ (by omega))).trans hca
  refine ⟨cell_at hn6, froz_at hn6, hI6.keep (by rw [World.size_setCell]; exact Nat.le_refl _) fun j hj _ => heap_setN _ _ _ _ (by show j ≠ w.heap.size + 1; omega), heap_set hn6, (heap_setN _ _ _ _ (by simp)).trans hc6, below_set hb6 (Nat.le_succ _) _⟩
set_option maxRecDepth 100000 in
set_option maxHeartbeats 4000000 in
theorem netNew_good (w : World) (K : Nat) (hK1 : 1 ≤ K) (hK : K ≤ 16) (r : Int) (S : Nat) (i o : Int) (h : okP S i o = true) : Calls Tryz.prog 10 #[.int .i64 (K : Int), .agg #[.int .i64 r, .int .i64 (S : Int), .int .i64 i, .int .i64 o]] w fun e w' => (∃ N v ps, e = .returned (.tuple #[.pointer (some ⟨N, 0, none⟩), .int .i64 0]) ∧ ps.length = K ∧ NetI (nodeQ S i o) w' (w.heap.size + 2) 24 v ps ∧ w'.heap[N]? = some (.cells #[v, .slice none 0 0] 104 (0, 0))) ∧ Below w.heap.size w w' := by
  have d1 : decide ((K : Int) < 1) = false := decide_eq_false (by omega)
  have d2 : decide (16 < (K : Int)) = false := decide_eq_false (by omega)
  have HN : Hid (∀ (W : World) (k : Nat), k < 16 → Calls Tryz.prog 5 #[.agg #[.int .i64 ((k : Int) + 1), .int .i64 (S : Int), .int .i64 i, .int .i64 o]] W fun e w' => (∃ p, e = .returned (.tuple #[.pointer (some ⟨p, 0, none⟩), .int .i64 0]) ∧ ∀ (v : Value) (B : Nat) (W0 : World), W0.heap.size = W.heap.size → (∀ b, v.ownBlock = some b → b < W0.heap.size) → B ≤ W0.heap.size → Held w' v B (nodeQ S i o k p)) ∧ Below W.heap.size W w') := Lib.hid fun W k hk => (new_good W ((k : Int) + 1) S i o (okN_at h hk)).mono fun e w' ⟨⟨p, t, g, d, n, u, he, hn, hg, ho⟩, hb⟩ => ⟨⟨_, he, fun v B W0 h0 h1 h2 => held_node (W0 := W0) hn ho h2 (by omega) h1⟩, hb⟩
  have HKK := Lib.hid hK
  obtain ⟨ip, hi0, hi1, hi2, hi3⟩ := info_parts info_np
  clear h hK
  go_enter Tryz.func10, Tryz.ntmps10
  go_wp2_with fail
  have hb0 : Below w.heap.size w ((w.alloc (.cells #[.int .i64 r, .int .i64 (S : Int), .int .i64 i, .int .i64 o] 23)).alloc (.cells #[.slice none 0 0, .slice none 0 0] 104)) := nbl_al (below_alloc _ _)
  have hc0 : ((w.alloc (.cells #[.int .i64 r, .int .i64 (S : Int), .int .i64 i, .int .i64 o] 23)).alloc (.cells #[.slice none 0 0, .slice none 0 0] 104)).heap[w.heap.size]? = some (.cells #[.int .i64 r, .int .i64 (S : Int), .int .i64 i, .int .i64 o] 23 (0, 0)) := ((below_alloc _ _).block _ (by rw [size_allocN]; omega)).trans (heap_alloc_new w _)
  have hn0 : ((w.alloc (.cells #[.int .i64 r, .int .i64 (S : Int), .int .i64 i, .int .i64 o] 23)).alloc (.cells #[.slice none 0 0, .slice none 0 0] 104)).heap[w.heap.size + 1]? = some (.cells #[.slice none 0 0, .slice none 0 0] 104 (0, 0)) := by
    have := heap_alloc_new (w.alloc (.cells #[.int .i64 r, .int .i64 (S : Int), .int .i64 i, .int .i64 o] 23)) (.cells #[.slice none 0 0, .slice none 0 0] 104)
    rwa [size_allocN] at this
  generalize ((w.alloc (.cells #[.int .i64 r, .int .i64 (S : Int), .int .i64 i, .int .i64 o] 23)).alloc (.cells #[.slice none 0 0, .slice none 0 0] 104)) = w4 at *
  go_loopg [19] K (fun gf u wx => ∃ (ps : List Nat) (v : Value) (rr : Int), u = .int .i64 (ps.length : Int) ∧ ps.length + gf = K ∧ NetI (nodeQ S i o) wx (w.heap.size + 2) 24 v ps ∧ wx.heap[w.heap.size + 1]? = some (.cells #[v, .slice none 0 0] 104 (0, 0)) ∧ wx.heap[w.heap.size]? = some (.cells #[.int .i64 rr, .int .i64 (S : Int), .int .i64 i, .int .i64 o] 23 (0, 0)) ∧ Below w.heap.size w wx)
  case atStart => exact ⟨[], _, r, rfl, by simp, NetI.empty _ _ _ _, hn0, hc0, hb0⟩
  case round =>
    clear hb0 hc0 hn0
    obtain ⟨ps, v, rr, rfl, hps, hI, hN, hC, hB⟩ := hrel
    have HI := Lib.hid hI
    have HNN := Lib.hid hN
    have HCC := Lib.hid hC
    have HB := Lib.hid hB
    have n0 := cell_at (i := 0) hN
    have c0 := cell_at (i := 0) hC
    have c1 := cell_at (i := 1) hC
    have c2 := cell_at (i := 2) hC
    have c3 := cell_at (i := 3) hC
    have z0 := froz_at (i := 0) hC
    simp only [List.getElem?_toArray, List.getElem?_cons_zero, List.getElem?_cons_succ] at n0 c0 c1 c2 c3
    clear hI hN hC hB
    by_cases hlt : ps.length < K
    · obtain ⟨g', rfl⟩ : ∃ g', gk = g' + 1 := ⟨gk - 1, by omega⟩
      have hk16 : ps.length < 16 := by have := HKK.out; omega
      have HX := Lib.hid fun w1 p hb hq => netNewR.of (w1 := w1) (p := p) HI.out HNN.out HCC.out HB.out hb hq
      have HKS := Lib.hid hk16
      go_wp2_with (first | (go_at_call 5; refine (HN.out _ ps.length HKS.out).mono ?_; rintro e w1 ⟨⟨p, rfl, hq⟩, hb⟩; have HA := Lib.hid (HX.out w1 p hb fun W0 h1 h2 h3 => hq v _ W0 h1 h2 h3); clear hq hb; have n1 := HA.out.n0) | (at_builtin; refine wpList_append_lies _ rfl (.tmp 37) (.tmp 39) _ rfl (w.heap.size + 2) 24 ip _ 1 8 Tryz.underlying101 hi0 hi1 hi2 hi3 rfl (by omega) v ps.length (ps.map ptrV) rfl HA.out.own ⟨w1.heap.size, 0, none⟩ 1 1 [.pointer (some ⟨p, 0, none⟩)] rfl rfl (World.news_of_block (cs := #[.pointer (some ⟨p, 0, none⟩)]) (t := 24) (fr := (0, 0)) (heap_alloc_new _ _)) (by simp [Value.oneCell']) (by omega) (by have := HKS.out; simp [maxLen]; omega) (by have := HKS.out; omega) (by have := HA.out.le; rw [size_allocN]; omega) (w1.heap.size + 1) (size_allocN _ _) ?_; intro gg cap w6 hown hgrow hat hlt1; have HG := Lib.hid (HA.out.next gg cap w6 hown hgrow hat); clear hown hgrow hat hlt1; have n6 := HG.out.1; have z6 := HG.out.2.1))
      go_roundg g'
      case measure => omega
      case rel => exact ⟨ps ++ [p], _, _, by rw [List.length_append]; first | rfl | go_num, by rw [List.length_append]; simp; omega, HG.out.2.2.1, HG.out.2.2.2.1, HG.out.2.2.2.2.1, HG.out.2.2.2.2.2⟩
    · have e : ps.length = K := by omega
      go_wp2_with fail
      go_ret2
      exact ⟨⟨_, v, ps, rfl, e, HI.out, HNN.out⟩, HB.out⟩
/-- What a round leaves. -/
structure refNetR (w w1 : World) (v : Value) (ps : List Nat) (p : Nat) (S : Nat) (i o : Int) : Prop where
  n0 : w1.cell? ⟨w.heap.size + 1, 0, none⟩ = some v
  own : (w1.alloc (.cells #[.pointer (some ⟨p, 0, none⟩)] 31)).ownsRow (w.heap.size + 2) 31 1 v ps.length (ps.map ptrV)
  le : w.heap.size + 2 ≤ w1.heap.size
  next : ∀ gg cap w6, w6.ownsRow (w.heap.size + 2) 31 1 (.slice (some ⟨gg, 0, none⟩) (ps.length + 1) cap) (ps.length + 1) (ps.map ptrV ++ [.pointer (some ⟨p, 0, none⟩)]) → (w1.alloc (.cells #[.pointer (some ⟨p, 0, none⟩)] 31)).grownBy w6 v.ownBlock → (v.ownBlock = some gg ∨ gg = w1.heap.size + 1) →
    w6.cell? ⟨w.heap.size + 1, 0, none⟩ = some v ∧ w6.frozen? ⟨w.heap.size + 1, 0, none⟩ = false ∧ NetI (refQ S i o) (w6.setCell ⟨w.heap.size + 1, 0, none⟩ (.slice (some ⟨gg, 0, none⟩) (ps.length + 1) cap)) (w.heap.size + 2) 31 (.slice (some ⟨gg, 0, none⟩) (ps.length + 1) cap) (ps ++ [p]) ∧
    (w6.setCell ⟨w.heap.size + 1, 0, none⟩ (.slice (some ⟨gg, 0, none⟩) (ps.length + 1) cap)).heap[w.heap.size + 1]? = some (.cells #[.slice (some ⟨gg, 0, none⟩) (ps.length + 1) cap, .slice none 0 0, .slice none 0 0] 107 (0, 0)) ∧
    (w6.setCell ⟨w.heap.size + 1, 0, none⟩ (.slice (some ⟨gg, 0, none⟩) (ps.length + 1) cap)).heap[w.heap.size]? = some (.cells #[.int .i64 ((ps.length : Int) + 1), .int .i64 (S : Int), .int .i64 i, .int .i64 o] 23 (0, 0)) ∧
    Below w.heap.size w (w6.setCell ⟨w.heap.size + 1, 0, none⟩ (.slice (some ⟨gg, 0, none⟩) (ps.length + 1) cap))
theorem refNetR.of {w wr w1 : World} {v : Value} {ps : List Nat} {p : Nat} {S : Nat} {i o : Int} {r : Int} (hI : NetI (refQ S i o) wr (w.heap.size + 2) 31 v ps) (hN : wr.heap[w.heap.size + 1]? = some (.cells #[v, .slice none 0 0, .slice none 0 0] 107 (0, 0))) (hC : wr.heap[w.heap.size]? = some (.cells #[.int .i64 r, .int .i64 (S : Int), .int .i64 i, .int .i64 o] 23 (0, 0))) (hB : Below w.heap.size w wr)
    (hb : Below (wr.setCell ⟨w.heap.size, 0, none⟩ (.int .i64 ((ps.length : Int) + 1))).heap.size (wr.setCell ⟨w.heap.size, 0, none⟩ (.int .i64 ((ps.length : Int) + 1))) w1) (hq : ∀ W0 : World, W0.heap.size = (wr.setCell ⟨w.heap.size, 0, none⟩ (.int .i64 ((ps.length : Int) + 1))).heap.size → (∀ b, v.ownBlock = some b → b < W0.heap.size) → w.heap.size + 2 ≤ W0.heap.size → Held w1 v (w.heap.size + 2) (refQ S i o ps.length p)) : refNetR w w1 v ps p S i o := by
  have hsz : w.heap.size + 1 < wr.heap.size := (Array.getElem?_eq_some_iff.1 hN).1
  have hc0 := heap_set (i := 0) (x := .int .i64 ((ps.length : Int) + 1)) hC
  have hn0 : (wr.setCell ⟨w.heap.size, 0, none⟩ (.int .i64 ((ps.length : Int) + 1))).heap[w.heap.size + 1]? = some (.cells #[v, .slice none 0 0, .slice none 0 0] 107 (0, 0)) := (heap_setN _ _ _ _ (by simp)).trans hN
  have hi0 : NetI (refQ S i o) (wr.setCell ⟨w.heap.size, 0, none⟩ (.int .i64 ((ps.length : Int) + 1))) (w.heap.size + 2) 31 v ps := hI.keep (by rw [World.size_setCell]; exact Nat.le_refl _) fun j hj _ => heap_setN _ _ _ _ (by show j ≠ w.heap.size; omega)
  have hb0 : Below w.heap.size w (wr.setCell ⟨w.heap.size, 0, none⟩ (.int .i64 ((ps.length : Int) + 1))) := below_set hB (Nat.le_refl _) _
  have hs0 : (wr.setCell ⟨w.heap.size, 0, none⟩ (.int .i64 ((ps.length : Int) + 1))).heap.size = wr.heap.size := World.size_setCell _ _ _
  generalize wr.setCell ⟨w.heap.size, 0, none⟩ (.int .i64 ((ps.length : Int) + 1)) = wc at *
  have hsz1 : wc.heap.size ≤ w1.heap.size := hb.size
  have hbw : Below w1.heap.size w1 (w1.alloc (.cells #[.pointer (some ⟨p, 0, none⟩)] 31)) := below_alloc _ _
  have hI1 := (hi0.below hb).below hbw
  have hn1 : w1.heap[w.heap.size + 1]? = some (.cells #[v, .slice none 0 0, .slice none 0 0] 107 (0, 0)) := (hb.block _ (by omega)).trans hn0
  refine ⟨cell_at hn1, hI1.own, by omega, fun gg cap w6 ho hg hat => ?_⟩
  have hsa : (w1.alloc (.cells #[.pointer (some ⟨p, 0, none⟩)] 31)).heap.size = w1.heap.size + 1 := Array.size_push _
  have hq1 : Held (w1.alloc (.cells #[.pointer (some ⟨p, 0, none⟩)] 31)) v (w.heap.size + 2) (refQ S i o ps.length p) := (hq wc rfl (fun b hb2 => (own_block hi0.own hb2).2) (by omega)).below hbw
  have hne : ∀ k, k < w.heap.size + 2 → some k ≠ v.ownBlock := fun k hk e => by
    have := (own_block hi0.own e.symm).1
    omega
  have hba : Below w.heap.size w (w1.alloc (.cells #[.pointer (some ⟨p, 0, none⟩)] 31)) := nbl_step hb0 (nbl_step hb hbw)
  have hb6 : Below w.heap.size w w6 := Below.grown hba hg hba.size fun k hk => by
    have := (own_block hi0.own hk).1
    omega
  have hna : (w1.alloc (.cells #[.pointer (some ⟨p, 0, none⟩)] 31)).heap[w.heap.size + 1]? = some (.cells #[v, .slice none 0 0, .slice none 0 0] 107 (0, 0)) := (hbw.block _ (by omega)).trans hn1
  have hca : (w1.alloc (.cells #[.pointer (some ⟨p, 0, none⟩)] 31)).heap[w.heap.size]? = _ := (hbw.block _ (by omega)).trans ((hb.block _ (by omega)).trans hc0)
  have hI6 := hI1.push hq1 ho hg (by rw [hsa]; exact hat)
  have hn6 : w6.heap[w.heap.size + 1]? = some (.cells #[v, .slice none 0 0, .slice none 0 0] 107 (0, 0)) := (hg.block _ (by omega) (hne _ (by omega))).trans hna
  have hc6 := (hg.block w.heap.size (by omega) (hne _ (by omega))).trans hca
  refine ⟨cell_at hn6, froz_at hn6, hI6.keep (by rw [World.size_setCell]; exact Nat.le_refl _) fun j hj _ => heap_setN _ _ _ _ (by show j ≠ w.heap.size + 1; omega), heap_set hn6, (heap_setN _ _ _ _ (by simp)).trans hc6, below_set hb6 (Nat.le_succ _) _⟩
set_option maxRecDepth 100000 in
set_option maxHeartbeats 4000000 in
theorem refNet_good (w : World) (K : Nat) (hK1 : 1 ≤ K) (hK : K ≤ 16) (r : Int) (S : Nat) (i o : Int) (h : okP S i o = true) : Calls Tryz.prog 11 #[.int .i64 (K : Int), .agg #[.int .i64 r, .int .i64 (S : Int), .int .i64 i, .int .i64 o]] w fun e w' => (∃ N v ps, e = .returned (.tuple #[.pointer (some ⟨N, 0, none⟩), .int .i64 0]) ∧ ps.length = K ∧ NetI (refQ S i o) w' (w.heap.size + 2) 31 v ps ∧ w'.heap[N]? = some (.cells #[v, .slice none 0 0, .slice none 0 0] 107 (0, 0))) ∧ Below w.heap.size w w' := by
  have d1 : decide ((K : Int) < 1) = false := decide_eq_false (by omega)
  have d2 : decide (16 < (K : Int)) = false := decide_eq_false (by omega)
  have HN : Hid (∀ (W : World) (k : Nat), k < 16 → Calls Tryz.prog 38 #[.agg #[.int .i64 ((k : Int) + 1), .int .i64 (S : Int), .int .i64 i, .int .i64 o]] W fun e w' => (∃ p, e = .returned (.tuple #[.pointer (some ⟨p, 0, none⟩), .int .i64 0]) ∧ ∀ (v : Value) (B : Nat) (W0 : World), W0.heap.size = W.heap.size → (∀ b, v.ownBlock = some b → b < W0.heap.size) → B ≤ W0.heap.size → Held w' v B (refQ S i o k p)) ∧ Below W.heap.size W w') := Lib.hid fun W k hk => (refnew_good W ((k : Int) + 1) S i o (okN_at h hk)).mono fun e w' ⟨⟨p, tt, u, he, hn, hg⟩, hb⟩ => ⟨⟨_, he, fun v B W0 h0 h1 h2 => held_ref (W0 := W0) hn h2 (by omega) h1⟩, hb⟩
  have HKK := Lib.hid hK
  obtain ⟨ip, hi0, hi1, hi2, hi3⟩ := info_parts info_rp
  clear h hK
  go_enter Tryz.func11, Tryz.ntmps11
  go_wp2_with fail
  have hb0 : Below w.heap.size w ((w.alloc (.cells #[.int .i64 r, .int .i64 (S : Int), .int .i64 i, .int .i64 o] 23)).alloc (.cells #[.slice none 0 0, .slice none 0 0, .slice none 0 0] 107)) := nbl_al (below_alloc _ _)
  have hc0 : ((w.alloc (.cells #[.int .i64 r, .int .i64 (S : Int), .int .i64 i, .int .i64 o] 23)).alloc (.cells #[.slice none 0 0, .slice none 0 0, .slice none 0 0] 107)).heap[w.heap.size]? = some (.cells #[.int .i64 r, .int .i64 (S : Int), .int .i64 i, .int .i64 o] 23 (0, 0)) := ((below_alloc _ _).block _ (by rw [size_allocN]; omega)).trans (heap_alloc_new w _)
  have hn0 : ((w.alloc (.cells #[.int .i64 r, .int .i64 (S : Int), .int .i64 i, .int .i64 o] 23)).alloc (.cells #[.slice none 0 0, .slice none 0 0, .slice none 0 0] 107)).heap[w.heap.size + 1]? = some (.cells #[.slice none 0 0, .slice none 0 0, .slice none 0 0] 107 (0, 0)) := by
    have := heap_alloc_new (w.alloc (.cells #[.int .i64 r, .int .i64 (S : Int), .int .i64 i, .int .i64 o] 23)) (.cells #[.slice none 0 0, .slice none 0 0, .slice none 0 0] 107)
    rwa [size_allocN] at this
  generalize ((w.alloc (.cells #[.int .i64 r, .int .i64 (S : Int), .int .i64 i, .int .i64 o] 23)).alloc (.cells #[.slice none 0 0, .slice none 0 0, .slice none 0 0] 107)) = w4 at *
  go_loopg [7] K (fun gf u wx => ∃ (ps : List Nat) (v : Value) (rr : Int), u = .int .i64 (ps.length : Int) ∧ ps.length + gf = K ∧ NetI (refQ S i o) wx (w.heap.size + 2) 31 v ps ∧ wx.heap[w.heap.size + 1]? = some (.cells #[v, .slice none 0 0, .slice none 0 0] 107 (0, 0)) ∧ wx.heap[w.heap.size]? = some (.cells #[.int .i64 rr, .int .i64 (S : Int), .int .i64 i, .int .i64 o] 23 (0, 0)) ∧ Below w.heap.size w wx)
  case atStart => exact ⟨[], _, r, rfl, by simp, NetI.empty _ _ _ _, hn0, hc0, hb0⟩
  case round =>
    clear hb0 hc0 hn0
    obtain ⟨ps, v, rr, rfl, hps, hI, hN, hC, hB⟩ := hrel
    have HI := Lib.hid hI
    have HNN := Lib.hid hN
    have HCC := Lib.hid hC
    have HB := Lib.hid hB
    have n0 := cell_at (i := 0) hN
    have c0 := cell_at (i := 0) hC
    have c1 := cell_at (i := 1) hC
    have c2 := cell_at (i := 2) hC
    have c3 := cell_at (i := 3) hC
    have z0 := froz_at (i := 0) hC
    simp only [List.getElem?_toArray, List.getElem?_cons_zero, List.getElem?_cons_succ] at n0 c0 c1 c2 c3
    clear hI hN hC hB
    by_cases hlt : ps.length < K
    · obtain ⟨g', rfl⟩ : ∃ g', gk = g' + 1 := ⟨gk - 1, by omega⟩
      have hk16 : ps.length < 16 := by have := HKK.out; omega
      have HX := Lib.hid fun w1 p hb hq => refNetR.of (w1 := w1) (p := p) HI.out HNN.out HCC.out HB.out hb hq
      have HKS := Lib.hid hk16
      go_wp2_with (first | (go_at_call 38; refine (HN.out _ ps.length HKS.out).mono ?_; rintro e w1 ⟨⟨p, rfl, hq⟩, hb⟩; have HA := Lib.hid (HX.out w1 p hb fun W0 h1 h2 h3 => hq v _ W0 h1 h2 h3); clear hq hb; have n1 := HA.out.n0) | (at_builtin; refine wpList_append_lies _ rfl (.tmp 38) (.tmp 40) _ rfl (w.heap.size + 2) 31 ip _ 1 8 Tryz.underlying105 hi0 hi1 hi2 hi3 rfl (by omega) v ps.length (ps.map ptrV) rfl HA.out.own ⟨w1.heap.size, 0, none⟩ 1 1 [.pointer (some ⟨p, 0, none⟩)] rfl rfl (World.news_of_block (cs := #[.pointer (some ⟨p, 0, none⟩)]) (t := 31) (fr := (0, 0)) (heap_alloc_new _ _)) (by simp [Value.oneCell']) (by omega) (by have := HKS.out; simp [maxLen]; omega) (by have := HKS.out; omega) (by have := HA.out.le; rw [size_allocN]; omega) (w1.heap.size + 1) (size_allocN _ _) ?_; intro gg cap w6 hown hgrow hat hlt1; have HG := Lib.hid (HA.out.next gg cap w6 hown hgrow hat); clear hown hgrow hat hlt1; have n6 := HG.out.1; have z6 := HG.out.2.1))
      go_roundg g'
      case measure => omega
      case rel => exact ⟨ps ++ [p], _, _, by rw [List.length_append]; first | rfl | go_num, by rw [List.length_append]; simp; omega, HG.out.2.2.1, HG.out.2.2.2.1, HG.out.2.2.2.2.1, HG.out.2.2.2.2.2⟩
    · have e : ps.length = K := by omega
      go_wp2_with fail
      go_ret2
      exact ⟨⟨_, v, ps, rfl, e, HI.out, HNN.out⟩, HB.out⟩
end Go.Proofs.YthfleaogajbpfaaGreatDoor
