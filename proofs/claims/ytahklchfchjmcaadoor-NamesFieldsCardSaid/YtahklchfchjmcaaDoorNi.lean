/- Slices of bytes that a function fills itself; names.Quote. -/
import Derived.Test.YtahklchfchjmcaaDoorNf
import Derived.Test.YtahklchfchjmcaaDoorSl
import Derived.Deep.AppendLies
import Derived.Deep.RegionHeld3
import Derived.Deep.RegionLaw
import Derived.Deep.RegionWith
namespace Go.Proofs.YtahklchfchjmcaaDoor
set_option linter.unusedVariables false
set_option linter.unusedSimpArgs false
open Go.RowKit Go.MapKept

def byteV (b : UInt8) : Value := .int .u8 (b.toNat : Int)
abbrev OwnB (w : World) (B : Nat) (v : Value) (l : Bs) : Prop := w.ownsRow B 5 1 v l.length (l.map byteV)
theorem info_byte : (Tryd.prog.info? 5).map (fun i => (i.zero, i.size, i.bytes)) = some (some (.int .u8 0), 1, 1) := by kernel_rfl

theorem nown_keep {w w' : World} {B e sz n : Nat} {v : Value} {xs : List Value} (h : w.ownsRow B e sz v n xs) (hk : ∀ g, v.ownBlock = some g → w'.heap[g]? = w.heap[g]?) : w'.ownsRow B e sz v n xs := by
  refine ⟨h.1, ?_⟩
  rcases h.2 with h0 | ⟨g, cap, cur, rfl, hg, hb, r⟩
  · exact .inl h0
  · exact .inr ⟨g, cap, cur, rfl, hg, (hk g rfl).trans hb, r⟩
theorem nown_block {w : World} {B e sz n : Nat} {v : Value} {xs : List Value} (h : w.ownsRow B e sz v n xs) {g : Nat} (hg : v.ownBlock = some g) : B ≤ g ∧ g < w.heap.size := by
  rcases h.2 with ⟨rfl, _⟩ | ⟨g', cap, cur, rfl, hg', hb, r⟩
  · cases hg
  · have : g' = g := by simpa [Value.ownBlock] using hg
    subst this
    exact ⟨hg', (Array.getElem?_eq_some_iff.1 hb).1⟩
theorem nown_below {w w' : World} {B e sz n : Nat} {v : Value} {xs : List Value} (h : w.ownsRow B e sz v n xs) (hb : Below w.heap.size w w') : w'.ownsRow B e sz v n xs :=
  nown_keep h fun g hg => hb.block g (nown_block h hg).2
theorem nown_new (W : World) (c : Array Value) (e sz n B : Nat) (hc : c.toList.length = n * sz) (hn : n ≤ 1000) (hB : B ≤ W.heap.size) :
    (W.alloc (.cells c e)).ownsRow B e sz (.slice (some ⟨W.heap.size, 0, none⟩) n n) n c.toList := by
  refine ⟨hc, .inr ⟨W.heap.size, n, c, rfl, hB, heap_alloc_new W _, Nat.le_refl _, by unfold maxLen; omega, by simpa using hc, ?_⟩⟩
  rw [← hc, List.take_length]
theorem nown_none (w : World) (B e sz : Nat) : w.ownsRow B e sz (.slice none 0 0) 0 [] := ⟨by simp, .inl ⟨rfl, rfl⟩⟩
theorem nown_grown {w w1 w6 : World} {B e sz n : Nat} {v : Value} {xs : List Value} (h : w1.ownsRow B e sz v n xs) (hb : Below B w w1) (hB : B ≤ w1.heap.size) (hg : w1.grownBy w6 v.ownBlock) : Below B w w6 :=
  hb.grown hg hB fun k hk => (nown_block h hk).1
theorem nown_cell {w : World} {B e n : Nat} {v : Value} {xs : List Value} (h : w.ownsRow B e 1 v n xs) (hn : 0 < n) : ∃ g cap, v = .slice (some ⟨g, 0, none⟩) n cap ∧ n ≤ cap ∧ g < w.heap.size ∧ ∀ j u, xs[j]? = some u → w.cell? ⟨g, j, none⟩ = some u := by
  rcases h.2 with ⟨_, h0⟩ | ⟨g, cap, cur, hv, hb, hg, hc, hm, hs, ht⟩
  · omega
  · refine ⟨g, cap, hv, hc, (Array.getElem?_eq_some_iff.1 hg).1, fun j u hu => ?_⟩
    unfold World.cell?
    dsimp only
    rw [hg]
    have hj : j < xs.length := (List.getElem?_eq_some_iff.1 hu).1
    rw [← ht, List.getElem?_take] at hu
    split at hu
    · rw [Array.getElem?_toList] at hu
      simpa using hu
    · cases hu

/-- Bytes are laid behind a slice of bytes. -/
theorem append_bytes {W : World} {B : Nat} {v : Value} {l : Bs} (hown : OwnB W B v l) (p m c : Nat) (news : Bs) (hm : news.length = m) (h0 : 0 < m) (hn : ∀ j x, news[j]? = some x → W.cell? ⟨p, j, none⟩ = some (byteV x))
    (hlen : l.length + m ≤ 10000000) (hB : B ≤ W.heap.size) :
    ∃ g cap w', (∀ ty, (Builtin.append_ #[44, 44] ty #[v, .slice (some ⟨p, 0, none⟩) m c]).run Tryd.prog W = .ok (.slice (some ⟨g, 0, none⟩) (l.length + m) cap) w') ∧ OwnB w' B (.slice (some ⟨g, 0, none⟩) (l.length + m) cap) (l ++ news) ∧ W.grownBy w' v.ownBlock ∧ (v.ownBlock = some g ∨ g = W.heap.size) ∧ g < w'.heap.size := by
  obtain ⟨ii, hi0, hi1, hi2, hi3⟩ := info_parts info_byte
  obtain ⟨g, cap, w', hr, h2, h3, h4, h5⟩ := run_append_lies (P := Tryd.prog) (w := W) 44 0 B 5 ii _ 1 1 (by kernel_rfl) hi0 hi1 hi2 hi3 rfl (by omega) v l.length (l.map byteV) hown ⟨p, 0, none⟩ m c (news.map byteV) (by simp [hm])
    (fun j u hu => by
      rw [List.getElem?_map] at hu
      cases hx : news[j]? with
      | none => rw [hx] at hu; cases hu
      | some x =>
        rw [hx] at hu
        obtain rfl : byteV x = u := by simpa using hu
        have hadd : (⟨p, 0, none⟩ : Addr).add j = ⟨p, j, none⟩ := by unfold Addr.add; split <;> simp_all
        rw [hadd]
        exact hn j x hx)
    (fun u hu => by
      obtain ⟨x, _, rfl⟩ := List.mem_map.1 hu
      rfl) h0 (by unfold maxLen; omega) (by omega) hB _ rfl
  refine ⟨g, cap, w', fun ty => hr, ?_, h3, h4, h5⟩
  have e : (l ++ news).length = l.length + m := by rw [List.length_append, hm]
  unfold OwnB
  rw [e, List.map_append]
  exact h2
theorem news_new (W : World) (news : Bs) (e : Nat) : ∀ j x, news[j]? = some x → (W.alloc (.cells (news.map byteV).toArray e)).cell? ⟨W.heap.size, j, none⟩ = some (byteV x) := by
  intro j x hx
  rw [World.cell?_alloc_new]
  simp [hx]
/-- A slice of bytes as a string. -/
theorem back_bytes {W : World} {B : Nat} {v : Value} {l : Bs} (hown : OwnB W B v l) : (convert 44 9 v).run Tryd.prog W = .ok (.string ⟨l.toArray⟩) W := by
  by_cases h0 : 0 < l.length
  · obtain ⟨g, cap, rfl, _, _, hc⟩ := nown_cell hown h0
    refine run_convert_bytes_back W 44 9 5 ⟨g, 0, none⟩ cap l (by kernel_rfl) (by kernel_rfl) (by kernel_rfl) fun j hj => ?_
    have hadd : (⟨g, 0, none⟩ : Addr).add j = ⟨g, j, none⟩ := by unfold Addr.add; split <;> simp_all
    rw [hadd]
    exact hc j _ (by simp [List.getElem?_eq_getElem hj, byteV])
  · obtain rfl : l = [] := List.eq_nil_of_length_eq_zero (by omega)
    rcases hown.2 with ⟨rfl, _⟩ | ⟨g, cap, cur, rfl, _⟩
    · exact run_convert_bytes_nil W 44 5 (by kernel_rfl) (by kernel_rfl) 0 0 9 (by kernel_rfl)
    · refine run_convert_bytes_back W 44 9 5 ⟨g, 0, none⟩ cap [] (by kernel_rfl) (by kernel_rfl) (by kernel_rfl) fun j hj => ?_
      exact absurd hj (by simp)
theorem Bytes.grown {W W' : World} {p : Nat} {s : ByteArray} {row : Option Nat} (h : Bytes W p s) (hg : W.grownBy W' row) (hne : row ≠ some p) : Bytes W' p s :=
  ⟨Nat.lt_of_lt_of_le h.lt hg.size, fun i x hx => hg.cell (h.cell i x hx) (fun e => hne e.symm)⟩

/-- An append whose run is known: at the list of a plain region's operations. -/
theorem wpList_append_eq {P : Program} {w w' : World} {v vx r : Value} {t : TypeId} {ops : Array Oper} {rest : List Oper} {o : Oper} {a : Act} {Q : Exit → Act → World → Prop} (hr : ∀ ty, (Builtin.append_ #[t, t] ty #[v, vx]).run P w = .ok r w')
    (hgd : o.guard = none) (s x : Operand) (ho : o.op = .call { callee := .builtin .append, args := #[s, x], argTypes := #[t, t] }) (hs : a.eval s = v) (hx : a.eval x = vx)
    (h : wpList P ops Q rest (a.put o.dst r) w') : wpList P ops Q (o :: rest) a w := by
  refine wpList_plain hgd fun K hK => ?_
  unfold Oper.wp execOp
  simp only [ho, resolve, invoke, builtin, Sem.run_bind, Sem.run_pure, Result.andThen_ok, List.map_toArray, List.map_cons, List.map_nil, hs, hx, hr]
  exact hK _ _ h
/-- At a step of a region that draws its order. -/
theorem step_append_eq {P : Program} {w w' : World} {v vx r : Value} {t : TypeId} {ops : Array Oper} {o : Oper} {a : Act} {K : Act → World → Prop} {Q : Exit → Act → World → Prop} {E : Prop} (hr : ∀ ty, (Builtin.append_ #[t, t] ty #[v, vx]).run P w = .ok r w')
    (hgd : o.guard = none) (s x : Operand) (ho : o.op = .call { callee := .builtin .append, args := #[s, x], argTypes := #[t, t] }) (hs : a.eval s = v) (hx : a.eval x = vx)
    (h : K (a.put o.dst r) w') : if Region.wanted o (yielded ops a.tmps) = true then Oper.wp P o a w K Q else E := by
  have hw : Region.wanted o (yielded ops a.tmps) = true := by simp [Region.wanted, hgd]
  rw [if_pos hw]
  unfold Oper.wp execOp
  simp only [ho, resolve, invoke, builtin, Sem.run_bind, Sem.run_pure, Result.andThen_ok, List.map_toArray, List.map_cons, List.map_nil, hs, hx, hr]
  exact h
end Go.Proofs.YtahklchfchjmcaaDoor
